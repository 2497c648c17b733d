/- Lemmas on which TopAlone and TopCrash stands: the texts Crc Sum Shape Shape2 Shape3 Shape4 Shape5 Shape6 Shape7 RDev2 RDev3 DevLaw Shape13 Shape14 Shape15 Shape9 Shape8 Shape10 Shape11. No conditions. -/
import Derived.Test.YtbpblokfiajpjabGreatDoorPk4b899ccd2d
import Derived.Deep.DrawnRows
import Derived.Laws.ResultCell
set_option linter.all false
set_option maxRecDepth 1000000
set_option maxHeartbeats 32000000
namespace Go.Crc
def K : Nat:=3988292384
def st (s : Nat) : Nat:=if s % 2 = 1 then (s / 2) ^^^ K else s / 2
def stn : Nat -> Nat -> Nat
 | 0,s=>s
 | n + 1,s=>stn n (st s)
theorem VF (n : Nat) : ∀s,stn (n + 1) s = st (stn n s):=by
 induction n with
 | zero=>intro s; rfl
 | succ n ih=>intro s; rw [stn,ih]; rfl
def F4 (s b : Nat) : Nat:=stn 8 (s ^^^ b)
def W0 (s bit : Nat) : Nat:=if (s % 2) ^^^ bit = 1 then (s / 2) ^^^ K else s / 2
def crc (s : Nat) (l : List UInt8) : Nat:=l.foldl (fun s b=>F4 s b.toNat) s
def top : Nat:=4294967295
def D7 (l : List UInt8) : Nat:=crc top l ^^^ top
theorem Kq {a b n : Nat} (ha : a < 2 ^ n) (hb : b < 2 ^ n) : a ^^^ b < 2 ^ n:=Nat.xor_lt_two_pow ha hb
theorem K_lt : K < 2 ^ 32:=by decide
theorem Yt {s : Nat} (h : s < 2 ^ 32) : st s < 2 ^ 32:=by
 unfold st
 split
 ·exact Kq (by omega) K_lt
 ·omega
theorem Uv (n : Nat) : ∀{s : Nat},s < 2 ^ 32 -> stn n s < 2 ^ 32:=by
 induction n with
 | zero=>intro s h; exact h
 | succ n ih=>intro s h; exact ih (Yt h)
theorem PU {s b : Nat} (h : s < 2 ^ 32) (hb : b < 256) : F4 s b < 2 ^ 32:=Uv 8 (Kq h (by omega))
theorem N8 (l : List UInt8) : ∀{s : Nat},s < 2 ^ 32 -> crc s l < 2 ^ 32:=by
 induction l with
 | nil=>intro s h; exact h
 | cons b l ih=>intro s h; exact ih (PU h b.toNat_lt)
theorem KI (s : Nat) (l m : List UInt8) : crc s (l++m) = crc (crc s l) m:=by simp [crc]
theorem SO (s : Nat) : s % 2 = 0 \/ s % 2 = 1:=by omega
def Yo (l : List UInt8) (i : Nat) : Nat:=((l.getD (i / 8) 0).toNat >>> (i % 8)) % 2
def bits (l : List UInt8) : Nat -> Nat -> Nat
 | 0,s=>s
 | k + 1,s=>W0 (bits l k s) (Yo l k)
end Go.Crc
namespace Go.Proofs.YtbpblokfiajpjabGreatDoor
open Go.RowKit Go.SL Go.Crc
theorem and1 (s : Nat) (h : s < 2 ^ 32) : bits .and .u32 (s : Int) 1 = ((s % 2 : Nat) : Int):=by
 have:=u32_and_nat s 1 (by omega) (by omega)
 rw [Nat.and_one_is_mod] at this
 exact this
theorem Wm (s b : Nat) (w : World) (hs : s < 2 ^ 32) (hb : b < 256) :
  Calls Tryz.prog 264 #[.int .u32 s,.int .u8 b] w fun e w'=>e = .returned (.int .u32 (F4 s b : Nat)) /\ w = w':=by
 go_enter Tryz.func264,Tryz.ntmps264
 have e0 : bits .xor .u32 (s : Int) (b : Int) = ((s ^^^ b : Nat) : Int):=u32_xor_nat s b (by omega) (by omega)
 have e00 : IntKind.u32.wrap (b : Int) = (b : Int):=IntWalk.u32_in _ (by omega)
 go_wp2_with fail
 go_loop [0,9] (fun t i=>∃k : Nat,k <= 8 /\ i = .int .i64 k /\ t = .int .u32 (stn k (s ^^^ b) : Nat)) (fun _ i=>8 - (intOf i).toNat)
 case atStart=>exact ⟨0,by omega,rfl,rfl⟩
 case round=>
  obtain ⟨k,hk,rfl,rfl⟩:=hrel
  have hv : stn k (s ^^^ b) < 2 ^ 32:=Uv k (Kq hs (by omega))
  have HS:=zh (VF k (s ^^^ b))
  clear e0 e00
  by_cases hlt : k < 8
  ·generalize stn k (s ^^^ b) = v at *
   have ea:=and1 v hv
   rcases SO v with hm | hm
   ·rw [hm] at ea
    go_wp2_with fail
    go_round
    case rel=>exact ⟨k + 1,by omega,by go_num,by rw [HS.out]; congr 1; unfold st; rw [zq (by omega)]; omega⟩
    case measure=>simp [intOf]; omega
   ·rw [hm] at ea
    have ex : bits .xor .u32 ((v : Int) / 2) 3988292384 = ((v / 2 ^^^ K : Nat) : Int):=u32_xor_nat (v / 2) K (by omega) (by decide)
    go_wp2_with fail
    go_round
    case rel=>exact ⟨k + 1,by omega,by go_num,by rw [HS.out]; congr 1; unfold st; rw [zt hm]⟩
    case measure=>simp [intOf]; omega
  ·obtain rfl : k = 8:=by omega
   go_wp2_with fail
   go_ret
   exact ⟨rfl,rfl⟩
theorem TT (s : ByteArray) (k : Nat) (h : k < s.size) : s.data.toList[k]? = some s[k]:=by
 rw [List.getElem?_eq_getElem (by simpa using h)]; rfl
theorem Wu (s0 : Nat) (s : ByteArray) (k : Nat) (h : k < s.size) : crc s0 (s.data.toList.take (k + 1)) = F4 (crc s0 (s.data.toList.take k)) s[k].toNat:=by
 rw [List.take_succ_eq_append_getElem (by simpa using h),KI]
 rfl
theorem VL (s0 : Nat) (s : ByteArray) : crc s0 (s.data.toList.take s.size) = crc s0 s.data.toList:=by
 rw [List.take_of_length_le (by simp)]
theorem VT (s : Nat) (hs : s < 2 ^ 32) : bits .xor .u32 IntKind.u32.max (s : Int) = ((s ^^^ top : Nat) : Int):=by
 have:=u32_xor_nat top s (by decide) (by omega)
 rw [Nat.xor_comm] at this
 exact this
def AJ (l : List ByteArray) : List UInt8:=l.flatMap fun s=>s.data.toList
theorem Q4 (l : List ByteArray) (k : Nat) (h : k < l.length) : AJ (l.take (k + 1)) = AJ (l.take k)++(l.getD k ByteArray.empty).data.toList:=by
 rw [List.take_succ_eq_append_getElem h,AJ,List.flatMap_append]
 simp [AJ,h]
theorem N2 (v : Value) (l : List ByteArray) (w : World) (hv : Bs w v l) :
  Calls Tryz.prog 244 #[v] w fun e w'=>e = .returned (.int .u32 (D7 (AJ l) : Nat)) /\ w = w':=by
 obtain ⟨ao,b,off,cap,rfl,hc1,hc2,hao,hat⟩:=hv.form
 go_enter Tryz.func244,Tryz.ntmps244
 go_wp2_with fail
 go_loop [3,9] (fun v i=>∃k : Nat,k <= l.length /\ i = .int .i64 k /\ v = .int .u32 (crc top (AJ (l.take k)) : Nat)) (fun _ i=>l.length - (intOf i).toNat)
 case atStart=>exact ⟨0,by omega,rfl,rfl⟩
 case round=>
  obtain ⟨k,hk,rfl,rfl⟩:=hrel
  have hv0:=N8 (AJ (l.take k)) (s:=top) (by decide)
  by_cases hlt : k < l.length
  ·obtain rfl:=hao (by omega)
   have c5:=hat k hlt
   have hS:=hv.2 _ (Om hlt)
   have HS:=zh (Q4 l k hlt)
   have HC:=zh (KI top (AJ (l.take k)) (l.getD k ByteArray.empty).data.toList)
   clear hv hat hao
   generalize l.getD k ByteArray.empty = x at *
   generalize crc top (AJ (l.take k)) = s0 at *
   go_wp2_with fail
   go_loop [3,15] (fun v i=>∃j : Nat,j <= x.size /\ i = .int .i64 j /\ v = .int .u32 (crc s0 (x.data.toList.take j) : Nat)) (fun _ i=>x.size - (intOf i).toNat)
   case atStart=>exact ⟨0,by omega,rfl,rfl⟩
   case round=>
    obtain ⟨j,hj,rfl,rfl⟩:=hrel
    have hv:=N8 (x.data.toList.take j) hv0
    by_cases hlt2 : j < x.size
    ·have HS2:=zh (Wu s0 x j hlt2)
     have hb : (x[j]'hlt2).toNat < 256:=(x[j]'hlt2).toNat_lt
     generalize crc s0 (x.data.toList.take j) = v at *
     go_wp2_with fail
     refine (Wm v _ _ hv hb).mono ?_
     rintro e w' ⟨rfl,rfl⟩
     go_wp2_with fail
     go_round
     case rel=>exact ⟨j + 1,by omega,by go_num,by rw [HS2.out]⟩
     case measure=>simp [intOf]; omega
    ·obtain rfl : j = x.size:=by omega
     have HF:=zh (VL s0 x)
     generalize crc s0 (x.data.toList.take x.size) = v at *
     go_wp2_with fail
     go_round
     case rel=>exact ⟨k + 1,by omega,by go_num,by rw [HS.out,HC.out,HF.out]⟩
     case measure=>simp [intOf]; omega
  ·obtain rfl : k = l.length:=by omega
   have HF : Hid (crc top (AJ (l.take l.length)) = crc top (AJ l)):=zh (by rw [List.take_length])
   generalize crc top (AJ (l.take l.length)) = v at *
   have ef:=VT v hv0
   clear hv hat hao
   go_wp2_with fail
   go_ret
   exact ⟨Dg (by rw [HF.out]; rfl),rfl⟩
def le32 (s : Nat) : List UInt8:=[UInt8.ofNat s,UInt8.ofNat (s / 256),UInt8.ofNat (s / 65536),UInt8.ofNat (s / 16777216)]
theorem Gd (s : Nat) (R : List HP) (w : World) (hs : s < 2 ^ 32) (H : own w R) :
  Calls Tryz.prog 243 #[.int .u32 s] w fun e w'=>e = .returned (.string ⟨(le32 s).toArray⟩) /\ Ext w w' /\ own w' R:=by
 go_enter Tryz.func243,Tryz.ntmps243
 go_wp2_with fail
 have ha:=lh H (.cells #[.int .u8 ((s : Int) % 256),.int .u8 ((s : Int) / 256 % 256),.int .u8 ((s : Int) / 65536 % 256),.int .u8 ((s : Int) / 16777216)] 5)
 obtain ⟨c,f⟩:=ld 0 ha rfl
 rw [run_convert_bytes_arg _ 211 5 Tryz.underlying211 Tryz.underlying5 _ 0 4 4 [(s : Int) % 256,(s : Int) / 256 % 256,(s : Int) / 65536 % 256,(s : Int) / 16777216] rfl
  (fun i hi=>by rw [c]; match i,hi with | 0,_=>rfl | 1,_=>rfl | 2,_=>rfl | 3,_=>rfl) _ Tryz.underlying9]
 go_wp2_with fail
 go_ret
 refine ⟨WX ?_,(zR _).alloc _,lg ha⟩
 unfold strOfNums le32
 simp only [List.map_cons,List.map_nil]
 have e (n : Nat) : UInt8.ofNat ((n : Int)).toNat = UInt8.ofNat n:=by simp
 have h0 : UInt8.ofNat ((s : Int) % 256).toNat = UInt8.ofNat s:=by
  rw [show ((s : Int) % 256).toNat = s % 256 by omega]
  apply UInt8.toNat_inj.1; simp
 have h1 : UInt8.ofNat ((s : Int) / 256 % 256).toNat = UInt8.ofNat (s / 256):=by
  rw [show ((s : Int) / 256 % 256).toNat = s / 256 % 256 by omega]
  apply UInt8.toNat_inj.1; simp
 have h2 : UInt8.ofNat ((s : Int) / 65536 % 256).toNat = UInt8.ofNat (s / 65536):=by
  rw [show ((s : Int) / 65536 % 256).toNat = s / 65536 % 256 by omega]
  apply UInt8.toNat_inj.1; simp
 have h3 : UInt8.ofNat ((s : Int) / 16777216).toNat = UInt8.ofNat (s / 16777216):=by
  rw [show ((s : Int) / 16777216).toNat = s / 16777216 by omega]
 rw [h0,h1,h2,h3]
end Go.Proofs.YtbpblokfiajpjabGreatDoor
namespace Go.Proofs.YtbpblokfiajpjabGreatDoor
open Go.RowKit Go.SL Go.Crc
attribute [local go_sem ↓] Go.wp_at_zero Go.wp_at_succ
def byteCells (xs : List Int) : List Value:=xs.map (Value.int .u8)
theorem JN {w : World} {L : List SL.HP} (k : Nat) {v : Value} {xs : List Int} {n : Nat} (hn : xs.length = n) (H : own w L) (hk : L[k]? = some (row 5 1 v n (byteCells xs))) (hp : 0 < n) :
  (convert 211 9 v).run Tryz.prog w = .ok (.string (strOfNums xs)) w:=by
 obtain ⟨ao,g,cap,rfl,h1,h2,h3,-,-,h6,-⟩:=lm k H hk
 obtain rfl:=h3 hp
 exact run_convert_bytes_arg (P:=Tryz.prog) w 211 5 Tryz.underlying211 Tryz.underlying5 g 0 n cap xs hn (fun i hi=>by
  rw [Nat.zero_add]
  exact h6 i _ (by simp [byteCells,show i < xs.length by omega])) 9 Tryz.underlying9
def A7 (xs : List Int) : ByteArray:=strOfNums xs++zs (12 - xs.length)
def BE (xs : List Int) : ByteArray:=A7 xs++⟨(le32 (D7 (A7 xs).data.toList)).toArray⟩
theorem Ua (c : Nat) : (⟨(Lib.repeatL (⟨#[0]⟩ : ByteArray).data.toList c).toArray⟩ : ByteArray) = zs c:=by
 unfold zs
 congr 2
 induction c with
 | zero=>rfl
 | succ c ih=>rw [List.replicate_succ,<- ih]; simp [Lib.repeatL,List.replicate_succ]
theorem Ff {xs : List Int} (h : xs.length <= 12) : (A7 xs).size = 12:=by
 rw [A7,ByteArray.size_append,strOfNums_size,AG]; omega
theorem Nw {w : World} {L : List SL.HP} (k : Nat) {b : Nat} {t : ByteArray} {T : TypeId} (H : own w L) (hk : L[k]? = some (pts b (.cells #[.string t] T (0,0)))) (ht : t.size <= 9223372036854775807) : Bs w (.slice (some ⟨b,0,none⟩) 1 1) [t]:=
 ⟨⟨_,b,0,1,rfl,Nat.le_refl _,by omega,fun _=>rfl,fun i hi=>by
  have : i = 0:=by simpa using hi
  subst this
  dsimp only
  rw [Nat.zero_add,(ld k H hk).1]
  rfl⟩,fun s hs=>by simp at hs; subst hs; exact ht⟩
theorem Ts (l : List UInt8) : D7 l < 2 ^ 32:=Kq (N8 _ (by decide)) (by decide)
theorem Qt (c : Nat) (hc : c <= 1000) (w : World) : Calls Tryz.prog 154 #[.string ⟨#[0]⟩,.int .i64 c] w fun e w2=>e = .returned (.string (zs c)) /\ Below w.heap.size w w2:=by
 have hs : (⟨#[0]⟩ : ByteArray).size = 1:=rfl
 have h:=Tryz.strings_Repeat ⟨#[0]⟩ c w (by omega) (by rw [hs]; omega)
 rw [Ua] at h
 exact h
theorem J0 (v : Value) (xs : List Int) (n : Nat) (hn : xs.length = n) (h0 : 0 < n) (h12 : n <= 12) (R : List SL.HP) (w : World) (H : own w (row 5 1 v n (byteCells xs)::R)) :
  Calls Tryz.prog 237 #[v] w fun e w'=>e = .returned (.string (BE xs)) /\ Ext w w' /\ own w' R:=by
 have hc0:=JN 0 hn (ln H) rfl h0
 obtain ⟨ao,g,cap,rfl,r1,r2,-,-,-,-,-⟩:=lm 0 H rfl
 have e12 : IntKind.i64.wrap (12 - (n : Int)) = ((12 - n : Nat) : Int):=by rw [zi _ (by omega)]; omega
 have hsz1 : (strOfNums xs).size = n:=by rw [strOfNums_size,hn]
 have hsz2 : (zs (12 - n)).size = 12 - n:=AG _
 go_enter Tryz.func237,Tryz.ntmps237
 go_upto_region 1 with (fail)
 go_region_held3 (fun w'=>(convert 211 9 (.slice ao n cap)).run Tryz.prog w' = .ok (.string (strOfNums xs)) w') (first | exact hc0 | exact hc2) ((go_at_call 154; refine (Qt (12 - n) (by omega) _).mono ?_; rintro e w2 ⟨rfl,hb2⟩; have h2:=Gy (ln H) hb2; have hc2:=JN 0 hn h2 rfl h0))
 have hu : strOfNums xs++zs (12 - n) = A7 xs:=by rw [A7,hn]
 have hz:=Ff (xs:=xs) (by omega)
 rw [hu]
 have hseal : BE xs = A7 xs++⟨(le32 (D7 (A7 xs).data.toList)).toArray⟩:=rfl
 have HS:=zh hseal
 clear hu hsz1 hsz2 hc0 hc2 hseal
 generalize A7 xs = u at *
 have hx2 : Ext w w2:=(zR w).drew.trans (GK hb2)
 have ha:=lh h2 (.cells #[.string u] 9)
 have hx3:=hx2.alloc (.cells #[.string u] 9)
 have hst:=Nw 0 ha rfl (by omega)
 go_wp2_with fail
 generalize w2.heap.size = p at *
 generalize w2.alloc (.cells #[.string u] 9) = w3 at *
 refine (N2 _ [u] w3 hst).mono ?_
 rintro e w4 ⟨rfl,rfl⟩
 have hj : AJ [u] = u.data.toList:=by simp [AJ]
 rw [hj]
 have hlt:=Ts u.data.toList
 generalize D7 u.data.toList = S at *
 clear hst hj
 go_wp2_with fail
 refine (Gd S _ w3 hlt ha).mono ?_
 rintro e w5 ⟨rfl,hx5,h5⟩
 have hs4 : (⟨(le32 S).toArray⟩ : ByteArray).size = 4:=rfl
 generalize (⟨(le32 S).toArray⟩ : ByteArray) = t at *
 go_wp2_with fail
 go_ret
 exact ⟨by rw [HS.out]; rfl,hx3.trans hx5,lg (lg h5)⟩
def M5 : Value -> Nat
 | .slice _ k _=>k
 | _=>0
def Ij (u : ByteArray) : ByteArray:=⟨(le32 (D7 u.data.toList)).toArray⟩
def zF (s : ByteArray) : Int:=if s.size≠16 then 1 else if Ij (s.extract 0 12)≠s.extract 12 16 then 3 else 0
def M7 (s : ByteArray) : ByteArray:=if zF s = 0 then s.extract 0 12 else ByteArray.empty
theorem FP (s : ByteArray) (hs : s.size <= 9223372036854775807) (R : List SL.HP) (w : World) (H : own w R) :
  Calls Tryz.prog 198 #[.string s] w fun e w'=>e = .returned (.tuple #[.string (M7 s),errV (zF s)]) /\ Ext w w' /\ own w' R:=by
 rw [M7]
 by_cases h16 : s.size = 16
 ·have hd:=ln H
  have hsz : (s.extract 0 12).size = 12:=by simp [ByteArray.size_extract,h16]
  have hO : zF s = if Ij (s.extract 0 12)≠s.extract 12 16 then 3 else 0:=by rw [zF,zq (by omega)]
  rw [hO]
  have h16' : (s.size : Int) = 16:=by omega
  have hsl1 : ∀wx : World,(Instr.slice 9 (.string s) none (some (.int .i64 12)) none).run Tryz.prog wx = .ok (.string (s.extract 0 12)) wx:=fun wx=>by
   simp [Instr.slice,Instr.sliceBounds,Instr.sliceBound,asIntOf,run_underlying Tryz.underlying9,h16]
  have hsl2 : ∀wx : World,(Instr.slice 9 (.string s) (some (.int .i64 12)) none none).run Tryz.prog wx = .ok (.string (s.extract 12 16)) wx:=fun wx=>by
   simp [Instr.slice,Instr.sliceBounds,Instr.sliceBound,asIntOf,run_underlying Tryz.underlying9,h16]
  have hlts:=Ts (s.extract 0 12).data.toList
  have hst : Ij (s.extract 0 12) = ⟨(le32 (D7 (s.extract 0 12).data.toList)).toArray⟩:=rfl
  generalize Ij (s.extract 0 12) = t at *
  generalize s.extract 0 12 = u at *
  generalize s.extract 12 16 = v at *
  have hj : AJ [u] = u.data.toList:=by simp [AJ]
  rw [<- hj] at hst hlts
  clear hj
  generalize hS : D7 (AJ [u]) = S at *
  have HSS:=zh hS
  have HT:=zh hst
  clear hS hst
  have ha:=lh hd (.cells #[.string u] 9)
  have hst1:=Nw 0 ha rfl (by omega)
  by_cases hb : t = v
  ·subst hb
   rw [zq (show ¬(t≠t) from fun h=>h rfl)]
   go_enter Tryz.func198,Tryz.ntmps198
   go_upto_region 4 with (fail)
   go_region_held3 (fun _=>True) (trivial) (first | (go_at_call 244; refine (N2 _ [u] _ hst1).mono ?_; rw [HSS.out]; rintro e w' ⟨rfl,rfl⟩) | (go_at_call 243; refine (Gd S _ _ hlts ha).mono ?_; rw [<- HT.out]; rintro e w2 ⟨rfl,hx2,h2⟩))
   go_wp2_with fail
   go_ret2
   exact ⟨rfl,((zR w).drew.alloc _).trans hx2,lg h2⟩
  ·rw [zt hb]
   have hne : (t.toList == v.toList) = false:=by simpa using fun h=>hb (C2 h)
   go_enter Tryz.func198,Tryz.ntmps198
   go_upto_region 4 with (fail)
   go_region_held3 (fun _=>True) (trivial) (first | (go_at_call 244; refine (N2 _ [u] _ hst1).mono ?_; rw [HSS.out]; rintro e w' ⟨rfl,rfl⟩) | (go_at_call 243; refine (Gd S _ _ hlts ha).mono ?_; rw [<- HT.out]; rintro e w2 ⟨rfl,hx2,h2⟩))
   go_wp2_with fail
   go_ret2
   exact ⟨rfl,((zR w).drew.alloc _).trans hx2,lg h2⟩
 ·have hO : zF s = 1:=by rw [zF,zt h16]
  rw [hO]
  go_enter Tryz.func198,Tryz.ntmps198
  go_wp2_with fail
  go_ret2
  exact ⟨rfl,zR _,H⟩
def ol (c p b : Int) : Value:=.agg #[.int .i64 c,.int .i64 p,.int .i64 b]
def lH (c p b : Int) : Prop:=c < 1 \/ 32 < c \/ p < 0 \/ 40 < p \/ b < -1 \/ 4 < b
instance (c p b : Int) : Decidable (lH c p b):=by unfold lH; infer_instance
def AB (c p b : Int) : Int:=if lH c p b then 1 else 0
theorem AF (c p b : Int) (R : List SL.HP) (w : World) (H : own w R) :
  Calls Tryz.prog 125 #[ol c p b] w fun e w'=>e = .returned (errV (AB c p b)) /\ Ext w w' /\ own w' R:=by
 have ha:=lh H (.cells #[.int .i64 c,.int .i64 p,.int .i64 b] 103)
 obtain ⟨cc,ff⟩:=ld 0 ha rfl
 by_cases h : lH c p b
 ·have e : AB c p b = 1:=zt h
  rw [e]
  clear e
  unfold lH at h
  unfold ol
  go_enter Tryz.func125,Tryz.ntmps125
  go_wp2_with fail
  all_goals go_ret
  all_goals exact ⟨rfl,(zR _).alloc _,lg ha⟩
 ·have e : AB c p b = 0:=zq h
  rw [e]
  clear e
  unfold lH at h
  unfold ol
  have h1 : 1 <= c:=by omega
  have h2 : c <= 32:=by omega
  have h3 : 0 <= p:=by omega
  have h4 : p <= 40:=by omega
  have h5 : -1 <= b:=by omega
  have h6 : b <= 4:=by omega
  clear h
  go_enter Tryz.func125,Tryz.ntmps125
  go_wp2_with fail
  all_goals go_ret
  all_goals exact ⟨rfl,(zR _).alloc _,lg ha⟩
def lQ (c p b : Int) : ByteArray:=BE [83,89,c,p,b + 1]
theorem Eu (c p b : Int) (R : List SL.HP) (w : World) (H : own w R) :
  Calls Tryz.prog 159 #[ol c p b] w fun e w'=>e = .returned (.tuple #[.string (if AB c p b = 0 then lQ c p b else ByteArray.empty),errV (AB c p b)]) /\ Ext w w' /\ own w' R:=by
 have ha:=lh H (.cells #[.int .i64 c,.int .i64 p,.int .i64 b] 103)
 have hxa:=(zR w).alloc (.cells #[.int .i64 c,.int .i64 p,.int .i64 b] 103)
 by_cases h : lH c p b
 ·have e : AB c p b = 1:=zt h
  have hck:=AF c p b _ _ ha
  rw [e,zq (by decide)]
  rw [e] at hck
  have HK:=zh hck
  clear hck e h
  unfold ol at HK
  unfold ol
  go_enter Tryz.func159,Tryz.ntmps159
  go_upto_region 1 with (fail)
  obtain ⟨cc,ff⟩:=ld 0 ha rfl
  generalize w.heap.size = g at *
  generalize w.alloc (.cells #[.int .i64 c,.int .i64 p,.int .i64 b] 103) = w1 at *
  go_wp2_with fail
  refine HK.out.mono ?_
  rintro e w2 ⟨rfl,hx2,h2'⟩
  have he : errV 1 = .iface 128 (.int .i64 1):=rfl
  rw [he]
  go_wp2_with fail
  go_ret2
  exact ⟨rfl,hxa.trans hx2,lg h2'⟩
 ·have e : AB c p b = 0:=zq h
  have hck:=AF c p b _ _ ha
  rw [e,zt rfl]
  rw [e] at hck
  have HK:=zh hck
  clear hck e
  unfold lH at h
  unfold ol at HK
  unfold ol lQ
  have h1 : 1 <= c:=by omega
  have h2 : c <= 32:=by omega
  have h3 : 0 <= p:=by omega
  have h4 : p <= 40:=by omega
  have h5 : -1 <= b:=by omega
  have h6 : b <= 4:=by omega
  clear h
  go_enter Tryz.func159,Tryz.ntmps159
  go_upto_region 1 with (fail)
  obtain ⟨cc,ff⟩:=ld 0 ha rfl
  generalize w.heap.size = g at *
  generalize w.alloc (.cells #[.int .i64 c,.int .i64 p,.int .i64 b] 103) = w1 at *
  go_wp2_with fail
  refine HK.out.mono ?_
  rintro e w2 ⟨rfl,hx2,h2'⟩
  rw [lS]
  clear cc ff
  obtain ⟨cc,ff⟩:=ld 0 h2' rfl
  go_wp2_with fail
  have h7:=zr 0 (n:=5) (cap:=5) (sz:=1) (xs:=byteCells [83,89,c,p,b + 1]) (lh h2' (.cells #[.int .u8 83,.int .u8 89,.int .u8 c,.int .u8 p,.int .u8 (b + 1)] 5)) rfl (by decide) (by simp [maxLen]) rfl rfl
  refine (J0 _ [83,89,c,p,b + 1] 5 rfl (by decide) (by decide) _ _ h7).mono ?_
  rintro e w3 ⟨rfl,hx3,h3'⟩
  go_wp2_with fail
  go_ret2
  exact ⟨rfl,((hxa.trans hx2).alloc _).trans hx3,lg h3'⟩
theorem CW {fn : Func} {t u : Tmp} (h : fn.results = #[.cell t 103,.tmp u]) (tmps : Array Value) (w : World) (g : Nat) (c p b : Int) (hg : tmps.getD t undef = .pointer (some ⟨g,0,none⟩))
  (h0 : w.cell? ⟨g,0,none⟩ = some (.int .i64 c)) (h1 : w.cell? ⟨g,1,none⟩ = some (.int .i64 p)) (h2 : w.cell? ⟨g,2,none⟩ = some (.int .i64 b)) :
  (results fn tmps).run Tryz.prog w = .ok (.tuple #[ol c p b,tmps.getD u undef]) w:=by
 rw [results_cell_tmp h,hg]
 unfold ol
 go_simp
def bt (s : ByteArray) (i : Nat) : Int:=((s.data.toList.getD i 0).toNat : Int)
theorem C1 (s : ByteArray) : zF s = 0 \/ 0 < zF s:=by
 unfold zF
 split
 ·exact .inr (by decide)
 ·split
  ·exact .inr (by decide)
  ·exact .inl rfl
theorem Kw {s : ByteArray} (h : zF s = 0) : s.size = 16:=by
 unfold zF at h
 split at h
 ·cases h
 ·rename_i h'; omega
theorem Bp {s : ByteArray} {i : Nat} (h : i < s.size) : ((s[i]'h).toNat : Int) = bt s i:=by
 have hb:=TT s i h
 unfold bt
 rw [List.getD_eq_getElem?_getD,hb]
 rfl
theorem Cm (s : ByteArray) (i : Nat) : 0 <= bt s i /\ bt s i <= 255:=by
 unfold bt
 have:=(s.data.toList.getD i 0).toNat_lt
 omega
def Ab (s : ByteArray) : Prop:=lH (bt s 2) (bt s 3) (bt s 4 - 1) \/ lQ (bt s 2) (bt s 3) (bt s 4 - 1)≠s
instance (s : ByteArray) : Decidable (Ab s):=by unfold Ab; infer_instance
def oh (s : ByteArray) : (Int×Int×Int)×Int:=
 if zF s≠0 then ((0,0,0),zF s) else if Ab s then ((0,0,0),2) else ((bt s 2,bt s 3,bt s 4 - 1),0)
theorem zY {s : ByteArray} {i : Nat} (h : s.size = 16) (hi : i < 12) : bt (s.extract 0 12) i = bt s i:=by
 unfold bt
 simp only [ByteArray.data_extract,Array.toList_extract,List.extract]
 congr 1
 simp [hi]
theorem OF (s : ByteArray) (hs : s.size <= 9223372036854775807) (R : List SL.HP) (w : World) (H : own w R) :
  Calls Tryz.prog 196 #[.string s] w fun e w'=>e = .returned (.tuple #[ol (oh s).1.1 (oh s).1.2.1 (oh s).1.2.2,errV (oh s).2]) /\ Ext w w' /\ own w' R:=by
 have ha:=lh H (.cells #[.int .i64 0,.int .i64 0,.int .i64 0] 103)
 have hxa:=(zR w).alloc (.cells #[.int .i64 0,.int .i64 0,.int .i64 0] 103)
 rcases C1 s with hF | hF
 ·have h16:=Kw hF
  have e : oh s = if Ab s then ((0,0,0),2) else ((bt s 2,bt s 3,bt s 4 - 1),0):=by rw [oh,zq (by omega)]
  rw [e]
  clear e
  have h16' : (s.size : Int) = 16:=by omega
  go_enter Tryz.func196,Tryz.ntmps196
  go_upto_region 1 with (fail)
  generalize w.heap.size = g at *
  generalize w.alloc (.cells #[.int .i64 0,.int .i64 0,.int .i64 0] 103) = w1 at *
  go_wp2_with fail
  refine (FP s hs _ w1 ha).mono ?_
  rintro e w2 ⟨rfl,hx2,h2⟩
  rw [hF,lS,show M7 s = s.extract 0 12 from zt hF]
  have hu : (s.extract 0 12).size = 12:=by simp [ByteArray.size_extract,h16]
  have g2:=zY (i:=2) h16 (by decide)
  have g3:=zY (i:=3) h16 (by decide)
  have g4:=zY (i:=4) h16 (by decide)
  generalize s.extract 0 12 = u at *
  have hu' : (u.size : Int) = 12:=by omega
  have q2:=Bp (s:=u) (i:=2) (by omega)
  have q3:=Bp (s:=u) (i:=3) (by omega)
  have q4:=Bp (s:=u) (i:=4) (by omega)
  rw [g2] at q2
  rw [g3] at q3
  rw [g4] at q4
  clear g2 g3 g4
  have l2:=Cm s 2
  have l3:=Cm s 3
  have l4:=Cm s 4
  have hcond : Ab s↔(lH (bt s 2) (bt s 3) (bt s 4 - 1) \/ lQ (bt s 2) (bt s 3) (bt s 4 - 1)≠s):=Iff.rfl
  have HCD:=zh hcond
  clear hcond
  generalize b2 : bt s 2 = x2 at *
  generalize b3 : bt s 3 = x3 at *
  generalize b4 : bt s 4 = x4 at *
  have HX:=zh (And.intro b2 (And.intro b3 (show bt s 4 - 1 = x4 - 1 by rw [b4])))
  clear b2 b3 b4
  have e2 : IntKind.i64.wrap x2 = x2:=zi _ (by omega)
  have e3 : IntKind.i64.wrap x3 = x3:=zi _ (by omega)
  have e4 : IntKind.i64.wrap x4 = x4:=zi _ (by omega)
  have e5 : IntKind.i64.wrap (x4 - 1) = x4 - 1:=zi _ (by omega)
  go_upto_region 4 with (fail)
  refine wp_region_held_drew (S:=fun _=>True) (by kernel_rfl) trivial (fun hHeld=>?_)
  refine wpAnyH_take (i:=0) (v:=?_) rfl (by kernel_rfl) (by kernel_rfl) (by kernel_rfl) (fun _ _ _ h=>h) (Or.inl ⟨by rfl,?_⟩) (by assumption) ?_
  rotate_left
  ·intro w hSw
   go_simp
   try with_reducible rfl
  try simp only [Act.put,tA,tB,tC,tD,tE,tF]
  refine wpAnyH_take (i:=1) (v:=?_) rfl (by kernel_rfl) (by kernel_rfl) (by kernel_rfl) (fun _ _ _ h=>h) (Or.inl ⟨by rfl,?_⟩) (by assumption) ?_
  rotate_left
  ·intro w hSw
   go_simp
   try with_reducible rfl
  try simp only [Act.put,tA,tB,tC,tD,tE,tF]
  refine wpAnyH_take (i:=2) (v:=?_) rfl (by kernel_rfl) (by kernel_rfl) (by kernel_rfl) (fun _ _ _ h=>h) (Or.inl ⟨by rfl,?_⟩) (by assumption) ?_
  rotate_left
  ·intro w hSw
   go_simp
   try with_reducible rfl
  try simp only [Act.put,tA,tB,tC,tD,tE,tF]
  refine wpAnyH_take (i:=3) (v:=?_) rfl (by kernel_rfl) (by kernel_rfl) (by kernel_rfl) (fun _ _ _ h=>h) (Or.inl ⟨by rfl,?_⟩) (by assumption) ?_
  rotate_left
  ·intro w hSw
   go_simp
   try with_reducible rfl
  try simp only [Act.put,tA,tB,tC,tD,tE,tF]
  refine wpAnyH_take (i:=4) (v:=?_) rfl (by kernel_rfl) (by kernel_rfl) (by kernel_rfl) (fun _ _ _ h=>h) (Or.inl ⟨by rfl,?_⟩) (by assumption) ?_
  rotate_left
  ·intro w hSw
   go_simp
   try with_reducible rfl
  try simp only [Act.put,tA,tB,tC,tD,tE,tF]
  refine wpAnyH_take (i:=5) (v:=?_) rfl (by kernel_rfl) (by kernel_rfl) (by kernel_rfl) (fun _ _ _ h=>h) (Or.inl ⟨by rfl,?_⟩) (by assumption) ?_
  rotate_left
  ·intro w hSw
   go_simp
   try with_reducible rfl
  try simp only [Act.put,tA,tB,tC,tD,tE,tF]
  refine wpAnyH_take (i:=6) (v:=?_) rfl (by kernel_rfl) (by kernel_rfl) (by kernel_rfl) (fun _ _ _ h=>h) (Or.inl ⟨by rfl,?_⟩) (by assumption) ?_
  rotate_left
  ·intro w hSw
   go_simp
   try with_reducible rfl
  try simp only [Act.put,tA,tB,tC,tD,tE,tF]
  refine wpAnyH_take (i:=7) (v:=?_) rfl (by kernel_rfl) (by kernel_rfl) (by kernel_rfl) (fun _ _ _ h=>h) (Or.inl ⟨by rfl,?_⟩) (by assumption) ?_
  rotate_left
  ·intro w hSw
   go_simp
   try with_reducible rfl
  try simp only [Act.put,tA,tB,tC,tD,tE,tF]
  refine wpAnyH_take (i:=8) (v:=?_) rfl (by kernel_rfl) (by kernel_rfl) (by kernel_rfl) (fun _ _ _ h=>h) (Or.inl ⟨by rfl,?_⟩) (by assumption) ?_
  rotate_left
  ·intro w hSw
   go_simp
   try with_reducible rfl
  try simp only [Act.put,tA,tB,tC,tD,tE,tF]
  refine wpAnyH_take (i:=9) (v:=?_) rfl (by kernel_rfl) (by kernel_rfl) (by kernel_rfl) (fun _ _ _ h=>h) (Or.inl ⟨by rfl,?_⟩) (by assumption) ?_
  rotate_left
  ·intro w hSw
   go_simp
   try with_reducible rfl
  try simp only [Act.put,tA,tB,tC,tD,tE,tF]
  refine wpAnyH_take (i:=10) (v:=?_) rfl (by kernel_rfl) (by kernel_rfl) (by kernel_rfl) (fun _ _ _ h=>h) (Or.inl ⟨by rfl,?_⟩) (by assumption) ?_
  rotate_left
  ·intro w hSw
   go_simp
   try with_reducible rfl
  try simp only [Act.put,tA,tB,tC,tD,tE,tF]
  refine rd 11 rfl fun K hK=>?_
  go_simp
  refine hK.out _ _ trivial (fun _=>?_)
  clear hK K
  try simp only [Act.put,tA,tB,tC,tD,tE,tF]
  refine rd 12 rfl fun K hK=>?_
  go_simp
  refine hK.out _ _ trivial (fun _=>?_)
  clear hK K
  try simp only [Act.put,tA,tB,tC,tD,tE,tF]
  refine wpAnyH_done (by kernel_rfl) ?_ _
  have h3:=ln (lh h2 (.cells #[.int .i64 x2,.int .i64 x3,.int .i64 (x4 - 1)] 103))
  have hx3:=((hxa.trans hx2).alloc (.cells #[.int .i64 x2,.int .i64 x3,.int .i64 (x4 - 1)] 103)).drew
  clear q2 q3 q4 e2 e3 e4 e5 h2 hx2 ha hxa
  generalize w2.heap.size = p at *
  generalize (w2.alloc (.cells #[.int .i64 x2,.int .i64 x3,.int .i64 (x4 - 1)] 103)).drew = w3 at *
  generalize x4 - 1 = y at *
  obtain ⟨c,f⟩:=ld 0 h3 rfl
  have hq:=Eu x2 x3 y _ w3 h3
  by_cases hb : lH x2 x3 y
  ·have hbad : Ab s:=HCD.out.2 (.inl hb)
   have HB:=zh hbad
   rw [show AB x2 x3 y = 1 from zt hb,zq (by decide)] at hq
   have HQ:=zh hq
   clear hq hb hbad
   unfold ol at HQ
   go_wp2_with fail
   refine HQ.out.mono ?_
   rintro e w4 ⟨rfl,hx4,h4⟩
   have he : errV 1 = .iface 128 (.int .i64 1):=rfl
   rw [he]
   clear c f
   obtain ⟨c,f⟩:=ld 1 h4 rfl
   go_wp2_with fail
   have h5:=lp (i:=2) (v:=.int .i64 0) 1 (lp (i:=1) (v:=.int .i64 0) 1 (lp (i:=0) (v:=.int .i64 0) 1 h4 rfl) rfl) rfl
   obtain ⟨c3,-⟩:=ld 1 h5 rfl
   refine bodyPost_ret (CW rfl _ _ g 0 0 0 rfl (c3 0) (c3 1) (c3 2)) rfl ?_
   exact ⟨by first | rfl | (rw [zt HB.out]; rfl),(((hx3.trans hx4).setCell _ _).setCell _ _).setCell _ _,lg (lg h5)⟩
  ·rw [show AB x2 x3 y = 0 from zq hb,zt rfl] at hq
   have HQ:=zh hq
   clear hq
   unfold ol at HQ
   go_wp2_with fail
   refine HQ.out.mono ?_
   rintro e w5 ⟨rfl,hx5,h5⟩
   rw [lS]
   clear c f
   obtain ⟨c,f⟩:=ld 0 h5 rfl
   obtain ⟨c',f'⟩:=ld 1 h5 rfl
   by_cases hne : lQ x2 x3 y = s
   ·have hgood : ¬Ab s:=fun h=>(HCD.out.1 h).elim hb (fun h=>h hne)
    have HG:=zh hgood
    rw [hne]
    clear hgood hb
    go_wp2_with fail
    have h6:=lp (i:=2) (v:=.int .i64 y) 1 (lp (i:=1) (v:=.int .i64 x3) 1 (lp (i:=0) (v:=.int .i64 x2) 1 h5 rfl) rfl) rfl
    obtain ⟨c3,-⟩:=ld 1 h6 rfl
    refine bodyPost_ret (CW rfl _ _ g x2 x3 y rfl (c3 0) (c3 1) (c3 2)) rfl ?_
    exact ⟨by first | (rw [HX.out.1,HX.out.2.1,HX.out.2.2]; rfl) | (rw [zq HG.out,HX.out.1,HX.out.2.1,HX.out.2.2]; rfl),(((hx3.trans hx5).setCell _ _).setCell _ _).setCell _ _,lg (lg h6)⟩
   ·have hbad : Ab s:=HCD.out.2 (.inr hne)
    have HB:=zh hbad
    have hnl : ((lQ x2 x3 y).toList == s.toList) = false:=by simpa using fun h=>hne (C2 h)
    clear hb hbad
    go_wp2_with fail
    have h6:=lp (i:=2) (v:=.int .i64 0) 1 (lp (i:=1) (v:=.int .i64 0) 1 (lp (i:=0) (v:=.int .i64 0) 1 h5 rfl) rfl) rfl
    obtain ⟨c3,-⟩:=ld 1 h6 rfl
    refine bodyPost_ret (CW rfl _ _ g 0 0 0 rfl (c3 0) (c3 1) (c3 2)) rfl ?_
    exact ⟨by first | rfl | (rw [zt HB.out]; rfl),(((hx3.trans hx5).setCell _ _).setCell _ _).setCell _ _,lg (lg h6)⟩
 ·have e : oh s = ((0,0,0),zF s):=by rw [oh,zt (by omega)]
  rw [e]
  clear e
  go_enter Tryz.func196,Tryz.ntmps196
  go_upto_region 1 with (fail)
  generalize w.heap.size = g at *
  generalize w.alloc (.cells #[.int .i64 0,.int .i64 0,.int .i64 0] 103) = w1 at *
  go_wp2_with fail
  refine (FP s hs _ w1 ha).mono ?_
  rintro e w2 ⟨rfl,hx2,h2⟩
  rw [lv hF]
  obtain ⟨c,f⟩:=ld 0 h2 rfl
  go_wp2_with fail
  have h3:=lp (i:=2) (v:=.int .i64 0) 0 (lp (i:=1) (v:=.int .i64 0) 0 (lp (i:=0) (v:=.int .i64 0) 0 h2 rfl) rfl) rfl
  obtain ⟨c3,-⟩:=ld 0 h3 rfl
  refine bodyPost_ret (CW rfl _ _ g 0 0 0 rfl (c3 0) (c3 1) (c3 2)) rfl ?_
  exact ⟨by rw [lv hF]; rfl,(((hxa.trans hx2).setCell _ _).setCell _ _).setCell _ _,lg h3⟩
abbrev Ent:=Int×Int
def lK (e : Ent) (p : Int) : Bool:=if e.1 = 2 then decide (0 <= e.2) && decide (e.2 < p) else (decide (e.1 = 0) || decide (e.1 = 1)) && decide (e.2 = 0)
def lt (n : Nat) : Nat:=(n + 7) / 8
def BL (w : World) (v : Value) (l : List Ent) : Prop:=
 SlAt v l.length (fun b off i=>w.cell? ⟨b,off + i * 2,none⟩ = some (.int .i64 (l.getD i (0,0)).1) /\ w.cell? ⟨b,off + i * 2 + 1,none⟩ = some (.int .i64 (l.getD i (0,0)).2))
theorem BL.later {w w' : World} {v : Value} {l : List Ent} (h : BL w v l) {L : List HP} (k : Nat) (H : own w' L) (hk : L[k]? = some (oX w)) : BL w' v l:=
 SlAt.later h fun _ _ _ h=>⟨yI k H hk h.1,yI k H hk h.2⟩
theorem Ay (n : Nat) (hn : n <= 1000000) (w : World) : Calls Tryz.prog 156 #[.int .i64 n] w fun e w'=>e = .returned (.int .i64 (lt n : Nat)) /\ w = w':=by
 go_enter Tryz.func156,Tryz.ntmps156
 go_wp2_with fail
 go_ret
 exact ⟨Dg (by unfold lt; omega),rfl⟩
def oq (t : List Ent) (r : Nat) : List Ent:=(List.range 8).map fun k=>t.getD (8 * r + k) (0,0)
def yw (l : List Ent) : List Int:=l.flatMap fun e=>[e.1,e.2]
def AR (t : List Ent) (row : Int) : Prop:=32 < t.length \/ row < 0 \/ (lt t.length : Int) <= row
instance (t : List Ent) (row : Int) : Decidable (AR t row):=by unfold AR; infer_instance
def oe (t : List Ent) (row : Int) : ByteArray×Int:=
 if AR t row then (ByteArray.empty,1) else if (oq t row.toNat).all (fun e=>lK e 40) then (strOfNums (yw (oq t row.toNat)),0) else (ByteArray.empty,2)
theorem yS (t : List Ent) (r : Nat) : (oq t r).length = 8:=by simp [oq]
theorem DG (t : List Ent) (r k : Nat) (h : k < 8) : (oq t r).getD k (0,0) = t.getD (8 * r + k) (0,0):=by simp [oq,h]
theorem TU {t : List Ent} {r k : Nat} (h : ¬AR t r) (hk : k < 8) (hb : lK (t.getD (8 * r + k) (0,0)) 40 = false) : oe t r = (ByteArray.empty,2):=by
 rw [oe,zq h,zq]
 intro hall
 have:=List.all_eq_true.1 hall (t.getD (8 * r + k) (0,0)) (by simp only [oq,zn,List.mem_map,List.mem_range]; exact ⟨k,hk,rfl⟩)
 rw [hb] at this
 cases this
theorem Jw {t : List Ent} {r : Nat} (h : ¬AR t r) (ha : ∀k,k < 8 -> lK (t.getD (8 * r + k) (0,0)) 40 = true) : oe t r = (strOfNums (yw (oq t r)),0):=by
 rw [oe,zq h,zt]
 ·rfl
 ·refine List.all_eq_true.2 fun e he=>?_
  simp only [oq,zn,List.mem_map,List.mem_range] at he
  obtain ⟨k,hk,rfl⟩:=he
  exact ha k hk
theorem Du (l : List Ent) : (yw l).length = l.length * 2:=by
 induction l with
 | nil=>rfl
 | cons x l ih=>simp only [yw,List.flatMap_cons,List.length_append,List.length_cons,List.length_nil] at ih ⊢; omega
theorem Ew (t : List Ent) (r k : Nat) (h : k < 8) : byteCells (yw ((oq t r).take (k + 1))) = byteCells (yw ((oq t r).take k))++[.int .u8 (t.getD (8 * r + k) (0,0)).1,.int .u8 (t.getD (8 * r + k) (0,0)).2]:=by
 rw [yU (0,0) (by rw [yS]; exact h),DG _ _ _ h]
 simp [yw,byteCells]
theorem zm {e : Ent} {p : Int} (h : lK e p = true) : 0 <= e.1 /\ e.1 <= 2 /\ 0 <= e.2 /\ (e.2 < p \/ e.2 = 0):=by
 unfold lK at h
 split at h
 ·simp at h; omega
 ·simp at h; omega
theorem BL.form {w : World} {v : Value} {l : List Ent} (h : BL w v l) : ∃ao b off cap,v = .slice ao l.length cap /\ l.length <= cap /\ cap <= 9223372036854775807 /\ (0 < l.length -> ao = some ⟨b,off,none⟩):=by
 obtain ⟨ao,b,off,cap,hv,h1,h2,h3,h4⟩:=h
 exact ⟨ao,b,off,cap,hv,h1,h2,h3⟩
theorem BL.cells {w : World} {b off n cap : Nat} {l : List Ent} (h : BL w (.slice (some ⟨b,off,none⟩) n cap) l) {i : Nat} (hi : i < l.length) :
  w.cell? ⟨b,off + i * 2,none⟩ = some (.int .i64 (l.getD i (0,0)).1) /\ w.cell? ⟨b,off + i * 2 + 1,none⟩ = some (.int .i64 (l.getD i (0,0)).2):=by
 obtain ⟨ao,b',off',cap',hv,h1,h2,h3,h4⟩:=h
 simp only [Value.slice.injEq] at hv
 have h5:=h3 (by omega)
 rw [<- hv.1] at h5
 simp only [Option.some.injEq,Addr.mk.injEq,and_true] at h5
 obtain ⟨rfl,rfl⟩:=h5
 exact h4 i hi
theorem GH (a b : Int) : ∀u∈[Value.int .u8 a,Value.int .u8 b],u.oneCell' = true:=fun u hu=>by simp at hu; rcases hu with rfl | rfl <;> rfl
end Go.Proofs.YtbpblokfiajpjabGreatDoor
namespace Go.Proofs.YtbpblokfiajpjabGreatDoor
open Go.RowKit Go.SL

end Go.Proofs.YtbpblokfiajpjabGreatDoor
namespace Go.Proofs.YtbpblokfiajpjabGreatDoor
open Go.RowKit Go.SL
attribute [local go_sem ↓] Go.wp_at_zero Go.wp_at_succ
end Go.Proofs.YtbpblokfiajpjabGreatDoor
namespace Go.Proofs.YtbpblokfiajpjabGreatDoor
open Go.RowKit Go.SL Go.Crc
attribute [local go_sem ↓] Go.wp_at_zero Go.wp_at_succ
def zI (P : Int) (t : List Ent) (e : Ent) : Bool:=!lK e P || (decide (e.1 = 2) && t.contains e)
def yF (C : Nat) (P : Int) : List Ent -> List Ent -> Option (List Ent)
 | t,[]=>some t
 | t,e::l=>if t.length = C then (if e = (0,0) then yF C P t l else none) else if zI P t e then none else yF C P (t++[e]) l
def sEnt (s : ByteArray) (k : Nat) : Ent:=(bt s (2 * k),bt s (2 * k + 1))
def yG (s : ByteArray) : List Ent:=(List.range 8).map (sEnt s)
def yA (C : Nat) (P : Int) : List Ent -> List ByteArray -> List Ent×Int
 | t,[]=>(t,0)
 | t,s::l=>if s.size≠16 then ([],1) else match yF C P t (yG s) with
  | none=>([],2)
  | some t'=>yA C P t' l
def za (c p b : Int) (rows : List ByteArray) : List Ent×Int:=
 if lH c p b then ([],1) else if rows.length≠lt c.toNat then ([],1) else yA c.toNat p [] rows
theorem Ap (s : ByteArray) : (yG s).length = 8:=by simp [yG]
theorem SQ (s : ByteArray) {k : Nat} (h : k < 8) : (yG s).drop k = sEnt s k::(yG s).drop (k + 1):=by
 rw [List.drop_eq_getElem_cons (by rw [Ap]; exact h)]
 simp [yG]
theorem UO (s : ByteArray) : (yG s).drop 8 = []:=List.drop_of_length_le (by rw [Ap]; omega)
theorem BS {α : Type} (d : α) {l : List α} {i : Nat} (h : i < l.length) : l.drop i = l.getD i d::l.drop (i + 1):=by
 rw [List.drop_eq_getElem_cons h]; simp [h]
theorem I9 {C : Nat} {P : Int} {t l : List Ent} (h : t.length = C) : yF C P t ((0,0)::l) = yF C P t l:=by
 rw [yF,zt h,zt rfl]
theorem K8 {C : Nat} {P : Int} {t l : List Ent} {e : Ent} (h : t.length = C) (he : e≠(0,0)) : yF C P t (e::l) = none:=by
 rw [yF,zt h,zq he]
theorem Ec {C : Nat} {P : Int} {t l : List Ent} {e : Ent} (h : t.length≠C) (he : zI P t e = true) : yF C P t (e::l) = none:=by
 rw [yF,zq h,zt he]
theorem Fg {C : Nat} {P : Int} {t l : List Ent} {e : Ent} (h : t.length≠C) (he : zI P t e = false) : yF C P t (e::l) = yF C P (t++[e]) l:=by
 rw [yF,zq h,zq (by simp [he])]
theorem MO {C : Nat} {P : Int} {t : List Ent} {s : ByteArray} {l : List ByteArray} (h : s.size≠16) : yA C P t (s::l) = ([],1):=by rw [yA,zt h]
theorem A6 {C : Nat} {P : Int} {t : List Ent} {s : ByteArray} {l : List ByteArray} (h : s.size = 16) (hn : yF C P t (yG s) = none) : yA C P t (s::l) = ([],2):=by
 rw [yA,zq (by simpa using h),hn]
theorem Ik {C : Nat} {P : Int} {t t' : List Ent} {s : ByteArray} {l : List ByteArray} (h : s.size = 16) (hn : yF C P t (yG s) = some t') : yA C P t (s::l) = yA C P t' l:=by
 rw [yA,zq (by simpa using h),hn]
def lY (l : List Ent) : List Value:=l.flatMap fun e=>[.int .i64 e.1,.int .i64 e.2]
theorem Ny (l : List Ent) : (lY l).length = l.length * 2:=by
 induction l with
 | nil=>rfl
 | cons x l ih=>simp only [lY,List.flatMap_cons,List.length_append,List.length_cons,List.length_nil] at ih ⊢; omega
theorem C6 (l m : List Ent) : lY (l++m) = lY l++lY m:=by simp [lY]
theorem oB {l : List Ent} : ∀{i : Nat},i < l.length -> (lY l)[i * 2]? = some (.int .i64 (l.getD i (0,0)).1) /\ (lY l)[i * 2 + 1]? = some (.int .i64 (l.getD i (0,0)).2):=by
 induction l with
 | nil=>intro i h; simp at h
 | cons x l ih=>
  intro i h
  cases i with
  | zero=>simp [lY]
  | succ i=>
   have:=ih (i:=i) (by simpa using h)
   simp only [lY,List.flatMap_cons] at this ⊢
   have e : (i + 1) * 2 = i * 2 + 2:=by omega
   rw [e]
   simpa using this
theorem Nm (a b : Int) : ∀u∈[Value.int .i64 a,Value.int .i64 b],u.oneCell' = true:=fun u hu=>by simp at hu; rcases hu with rfl | rfl <;> rfl
theorem Gc : Elem Tryz.prog 221 2 16 (.agg #[.int .i64 0,.int .i64 0]):=by unfold Elem; kernel_rfl
theorem Bs.cells {w : World} {b off n cap : Nat} {l : List ByteArray} (h : Bs w (.slice (some ⟨b,off,none⟩) n cap) l) {i : Nat} (hi : i < l.length) : w.cell? ⟨b,off + i,none⟩ = some (.string (l.getD i ByteArray.empty)):=by
 obtain ⟨⟨ao,b',off',cap',hv,h1,h2,h3,h4⟩,_⟩:=h
 simp only [Value.slice.injEq] at hv
 have h5:=h3 (by omega)
 rw [<- hv.1] at h5
 simp only [Option.some.injEq,Addr.mk.injEq,and_true] at h5
 obtain ⟨rfl,rfl⟩:=h5
 exact h4 i hi
def Xr (res : Value) (T : List Ent) (R : List SL.HP) (w : World) (e : Ending) (w' : World) : Prop:=
 ∃v,e = .returned (.tuple #[v,res]) /\ Ext w w' /\ own w' (row 221 2 v T.length (lY T)::R)
theorem Kk : Elem Tryz.prog 4 1 1 (.bool false):=by unfold Elem; kernel_rfl
def yu (t : List Ent) : List Value:=(List.range 40).map fun (q : Nat)=>Value.bool (t.contains ((2,(q : Int)) : Ent))
theorem D0 (t : List Ent) : (yu t).length = 40:=by simp [yu]
theorem DY (t : List Ent) {q : Nat} (h : q < 40) : (yu t)[q]? = some (.bool (t.contains ((2,(q : Int)) : Ent))):=by simp [yu,h]
theorem MK (t : List Ent) {q : Nat} (h : q < 40) : yu (t++[(2,(q : Int))]) = (yu t).set q (.bool true):=by
 apply List.ext_getElem?
 intro j
 rw [List.getElem?_set]
 by_cases hj : j < 40
 ·rw [DY _ hj]
  by_cases e : q = j
  ·subst e; rw [zt rfl,zt (by rw [D0]; exact h)]; simp
  ·rw [zq e,DY _ hj,List.contains_append]
   congr 2
   have : ((2,(j : Int)) : Ent)≠(2,(q : Int)):=fun h=>e (by have:=(Prod.mk.inj h).2; omega)
   simp [List.contains_cons,this]
 ·have h1 : (yu (t++[(2,(q : Int))]))[j]? = none:=List.getElem?_eq_none (by rw [D0]; omega)
  have h2 : (yu t)[j]? = none:=List.getElem?_eq_none (by rw [D0]; omega)
  rw [h1,h2]
  split
  ·omega
  ·rfl
theorem K1 (t : List Ent) {e : Ent} (h : e.1≠2) : yu (t++[e]) = yu t:=by
 unfold yu
 apply List.map_congr_left
 intro q _
 rw [List.contains_append]
 have : ((2,(q : Int)) : Ent)≠e:=fun h'=>h (by rw [<- h'])
 simp [List.contains_cons,this]
theorem MF : yu [] = List.replicate 40 (.bool false):=rfl
theorem X8 {P x y : Int} {t : List Ent} (h : 2 < x) : zI P t (x,y) = true:=by
 unfold zI lK; simp [show x≠2 by omega,show x≠0 by omega,show x≠1 by omega]
theorem Yh {P x y : Int} {t : List Ent} (h : x < 2) (hy : 0 < y) : zI P t (x,y) = true:=by
 unfold zI lK; simp [show x≠2 by omega,show y≠0 by omega]
theorem Ye {P x : Int} {t : List Ent} (h0 : 0 <= x) (h : x < 2) : zI P t (x,0) = false:=by
 unfold zI lK; simp [show x≠2 by omega]; omega
theorem Yj {P y : Int} {t : List Ent} (h : P <= y) : zI P t (2,y) = true:=by
 unfold zI lK; simp; omega
theorem Yc {P y : Int} {t : List Ent} (h0 : 0 <= y) (h : y < P) : zI P t (2,y) = t.contains (2,y):=by
 unfold zI lK; simp [h0,h]
def Xu (C : Nat) (P : Int) (vu : Value) (rows : List ByteArray) (T : List Ent) (F : Int) (R : List SL.HP) (w0 : World) (vt vi : Value) (wr : World) : Prop:=
 ∃(i : Nat) (t : List Ent),i <= rows.length /\ vi = .int .i64 i /\ t.length = min C (8 * i) /\ yA C P t (rows.drop i) = (T,F) /\ Ext w0 wr /\ own wr (row 221 2 vt t.length (lY t)::row 4 1 vu 40 (yu t)::R)
def XD (C : Nat) (P : Int) (vu : Value) (s : ByteArray) (i : Nat) (r0 : Option (List Ent)) (R : List SL.HP) (w0 : World) (vt vk : Value) (wr : World) : Prop:=
 ∃(k : Nat) (t : List Ent),k <= 8 /\ vk = .int .i64 (2 * k : Nat) /\ t.length = min C (8 * i + k) /\ yF C P t ((yG s).drop k) = r0 /\ Ext w0 wr /\ own wr (row 221 2 vt t.length (lY t)::row 4 1 vu 40 (yu t)::R)
theorem ML (c p b : Int) (v : Value) (rows : List ByteArray) (T : List Ent) (F : Int) (hT : za c p b rows = (T,F)) (hr : rows.length <= 1000) (R : List SL.HP) (w : World) (hv : ∀w' l,own w' (l++R) -> Bs w' v rows) (H : own w R) :
  Calls Tryz.prog 197 #[ol c p b,v] w (Xr (errV F) T R w):=by
 obtain ⟨ao,bb,off,cap,rfl,c1,c2,c3,-⟩:=(hv w [] H).form
 have ha:=lh H (.cells #[.int .i64 c,.int .i64 p,.int .i64 b] 103)
 have hxa:=(zR w).alloc (.cells #[.int .i64 c,.int .i64 p,.int .i64 b] 103)
 have HV:=zh hv
 have HC:=zh c3
 clear hv c3
 have he1 : errV 1 = .iface 128 (.int .i64 1):=rfl
 unfold ol
 by_cases hb : lH c p b
 ·have hT' : ([],1) = (T,F):=by rw [<- hT,za,zt hb]
  obtain ⟨rfl,rfl⟩:=Prod.mk.inj hT'
  have hq:=AF c p b _ _ ha
  rw [show AB c p b = 1 from zt hb] at hq
  have HQ:=zh hq
  unfold ol at HQ
  clear hq hb hT hT'
  rw [he1] at HQ ⊢
  go_enter Tryz.func197,Tryz.ntmps197
  go_upto_region 1 with (fail)
  obtain ⟨cc,ff⟩:=ld 0 ha rfl
  generalize w.heap.size = g at *
  generalize w.alloc (.cells #[.int .i64 c,.int .i64 p,.int .i64 b] 103) = w1 at *
  go_wp2_with fail
  refine HQ.out.mono ?_
  rintro e w2 ⟨rfl,hx2,h2⟩
  go_wp2_with fail
  go_ret2
  exact ⟨_,rfl,hxa.trans hx2,lF _ _ (lg h2)⟩
 ·have hq:=AF c p b _ _ ha
  rw [show AB c p b = 0 from zq hb,lS] at hq
  have HQ:=zh hq
  unfold ol at HQ
  have hT2 : (if rows.length≠lt c.toNat then (([],1) : List Ent×Int) else yA c.toNat p [] rows) = (T,F):=by rw [<- hT,za,zq hb]
  clear hq hT
  unfold lH at hb
  have h1 : 1 <= c:=by omega
  obtain ⟨C,rfl⟩:=ze (show 0 <= c by omega)
  have h2 : C <= 32:=by omega
  have h3 : 0 <= p:=by omega
  have h4 : p <= 40:=by omega
  clear hb
  rw [zn] at hT2
  by_cases hl : rows.length = lt C
  ·rw [zq (by simpa using hl)] at hT2
   have HT:=zh hT2
   have tl : (rows.length != lt C) = false:=by simp [hl]
   have HL:=zh hl
   have hr4 : rows.length <= 4:=by rw [hl]; unfold lt; omega
   clear hT2 he1
   go_enter Tryz.func197,Tryz.ntmps197
   go_upto_region 1 with (fail)
   obtain ⟨cc,ff⟩:=ld 0 ha rfl
   generalize w.heap.size = g at *
   generalize w.alloc (.cells #[.int .i64 C,.int .i64 p,.int .i64 b] 103) = w1 at *
   go_wp2_with fail
   refine HQ.out.mono ?_
   rintro e w2 ⟨rfl,hx2,h2'⟩
   clear cc ff
   obtain ⟨cc,ff⟩:=ld 0 h2' rfl
   go_wp2_with fail
   refine (Ay C (by omega) _).mono ?_
   rintro e w' ⟨rfl,rfl⟩
   rw [<- HL.out]
   clear hl tl
   go_wp2_with (first | (refine CO rfl _ _ 43 rfl 4 Tryz.underlying43 Kk rfl .i64 .i64 40 rfl rfl (by decide) (by simp [maxLen]) h2' ?_))
   intro w3 h3' hx3
   try simp only [Nat.mul_one] at h3'
   try rw [show (Value.bool false).cells = #[.bool false] from rfl] at h3'
   rw [toList_madeCells_one,<- MF] at h3'
   generalize w2.heap.size = ug at *
   have hxo:=(hxa.trans hx2).trans hx3
   go_wp2_with fail
   clear cc ff
   go_loopw [7,28] (Xu C p (.slice (some ⟨ug,0,none⟩) 40 40) rows T F (pts g (.cells #[.int .i64 C,.int .i64 p,.int .i64 b] 103 (0,0))::R) w) (fun _ i _=>rows.length - (intOf i).toNat)
   case atStart=>exact ⟨0,[],by omega,rfl,by simp,HT.out,hxo,lF _ _ h3'⟩
   case round=>
    obtain ⟨i,t,hi,rfl,htl,htr,hxr,hown⟩:=hrel
    have htC : t.length <= C:=by omega
    have HTL:=zh htl
    clear htl
    obtain ⟨ta,tg,tc,rfl,q1,q2,-,-,-,-,-⟩:=lm 0 hown rfl
    by_cases hlt : i < rows.length
    ·obtain rfl:=HC.out (by omega)
     have hcell:=(HV.out wr [_,_,_] hown).cells hlt
     rw [BS ByteArray.empty hlt] at htr
     have hsz : (rows.getD i ByteArray.empty).size <= 9223372036854775807:=(HV.out wr [_,_,_] hown).2 _ (Om hlt)
     generalize hs : rows.getD i ByteArray.empty = s at *
     have HS:=zh hs
     clear hs
     have HTR:=zh htr
     clear htr
     by_cases h16 : s.size = 16
     ·have tz : ((s.size : Int) != 16) = false:=by simp [h16]
      have H16:=zh h16
      clear h16
      generalize hr0 : yF C p t (yG s) = r0 at *
      have HR0:=zh hr0
      clear hr0
      go_wp2_with fail
      obtain ⟨wo,rfl⟩ : ∃wo : World,wo = wr:=⟨_,rfl⟩
      go_loopw [7,11] (XD C p (.slice (some ⟨ug,0,none⟩) 40 40) s i r0 (pts g (.cells #[.int .i64 C,.int .i64 p,.int .i64 b] 103 (0,0))::R) w) (fun _ k _=>16 - (intOf k).toNat)
      case atStart=>exact ⟨0,t,by omega,rfl,by have:=HTL.out; omega,HR0.out,hxr,hown⟩
      case round=>
       obtain ⟨k,t1,hk,rfl,htl1,htr1,hxr1,hown1⟩:=hrel
       have htC1 : t1.length <= C:=by omega
       have HTL1:=zh htl1
       have HTR1:=zh htr1
       clear htl1 htr1 hcell hown hxr
       obtain ⟨ta1,tg1,tc1,rfl,q3,q4,-,-,-,-,-⟩:=lm 0 hown1 rfl
       by_cases hk8 : k < 8
       ·have i1 : (0 : Int) <= 2 * (k : Int):=by omega
        have i2 : 2 * (k : Int) < (s.size : Int):=by have:=H16.out; omega
        have i3 : 2 * (k : Int) + 1 < (s.size : Int):=by have:=H16.out; omega
        have i4 : (0 : Int) <= 2 * (k : Int) + 1:=by omega
        have tn : (2 * (k : Int) + 1).toNat = 2 * k + 1:=by omega
        have tn2 : (2 * (k : Int)).toNat = 2 * k:=by omega
        have q5:=Bp (s:=s) (i:=2 * k) (by omega)
        have q6:=Bp (s:=s) (i:=2 * k + 1) (by omega)
        have l5:=Cm s (2 * k)
        have l6:=Cm s (2 * k + 1)
        have HE:=zh (show sEnt s k = (bt s (2 * k),bt s (2 * k + 1)) from rfl)
        generalize bt s (2 * k) = x at *
        generalize bt s (2 * k + 1) = y at *
        have e2 : IntKind.i64.wrap (2 * (k : Int) + 1) = 2 * (k : Int) + 1:=zi _ (by omega)
        have e3 : IntKind.i64.wrap x = x:=zi _ (by omega)
        have e4 : IntKind.i64.wrap y = y:=zi _ (by omega)
        go_upto_region 16 with (fail)
        refine wp_region_held_drew (S:=fun _=>True) (by kernel_rfl) trivial (fun hHeld=>?_)
        refine tk 0 ?_
        refine tk 1 ?_
        refine tk 2 ?_
        refine tk 3 ?_
        refine tk 4 ?_
        refine tk 5 ?_
        refine tk 6 ?_
        refine tk 7 ?_
        refine tk 8 ?_
        refine tk 9 ?_
        try simp only [Act.put,tA,tB,tC,tD,tE,tF]
        refine rd 10 rfl fun K hK=>?_
        go_simp
        refine hK.out _ _ trivial (fun _=>?_)
        clear hK K
        try simp only [Act.put,tA,tB,tC,tD,tE,tF]
        refine rd 11 rfl fun K hK=>?_
        go_simp
        refine hK.out _ _ trivial (fun _=>?_)
        clear hK K
        try simp only [Act.put,tA,tB,tC,tD,tE,tF]
        refine wpAnyH_done (by kernel_rfl) ?_ _
        have h5:=ln (lh hown1 (.cells #[.int .i64 x,.int .i64 y] 221))
        have hx5:=(hxr1.alloc (.cells #[.int .i64 x,.int .i64 y] 221)).drew
        clear q5 q6 e2 e3 e4 i1 i2 i3 i4 tn tn2 hHeld
        generalize wr.heap.size = eb at *
        generalize (wr.alloc (.cells #[.int .i64 x,.int .i64 y] 221)).drew = w5 at *
        obtain ⟨cc,ff⟩:=ld 0 h5 rfl
        obtain ⟨ch,fh⟩:=ld 3 h5 rfl
        obtain ⟨l51,l52⟩:=l5
        obtain ⟨l61,l62⟩:=l6
        have hd:=HTR1.out
        rw [SQ s hk8,HE.out] at hd
        have HD:=zh hd
        clear hd
        by_cases hfull : C <= 8 * i + k
        ·have HFU : Hid (t1.length = C):=zh (by have:=HTL1.out; omega)
         by_cases hz : x = 0 /\ y = 0
         ·obtain ⟨rfl,rfl⟩:=hz
          go_wp2_with fail
          go_roundw
          case rel=>exact ⟨k + 1,t1,by omega,by go_num,by have:=HTL1.out; have:=HFU.out; omega,by have:=HD.out; rw [I9 HFU.out] at this; exact this,hx5,lg h5⟩
          case measure=>simp [intOf]; omega
         ·have hne : ((x,y) : Ent)≠(0,0):=fun h=>hz (Prod.mk.inj h)
          have hnone : r0 = none:=by have:=HD.out; rw [K8 HFU.out hne] at this; exact this.symm
          have HN:=zh hnone
          clear hnone hne
          by_cases hx0 : x = 0
          ·have hy0 : (y == 0) = false:=zb.2 fun h=>hz ⟨hx0,h⟩
           subst hx0
           clear hz
           go_wp2_with fail
           go_ret2
           have hf:=HTR.out
           rw [A6 H16.out (HR0.out.trans HN.out)] at hf
           obtain ⟨rfl,rfl⟩:=Prod.mk.inj hf
           exact ⟨_,rfl,hx5,lF _ _ (lg (lg (lg (lg h5))))⟩
          ·have hx0' : (x == 0) = false:=zb.2 hx0
           clear hz hx0
           go_wp2_with fail
           go_ret2
           have hf:=HTR.out
           rw [A6 H16.out (HR0.out.trans HN.out)] at hf
           obtain ⟨rfl,rfl⟩:=Prod.mk.inj hf
           exact ⟨_,rfl,hx5,lF _ _ (lg (lg (lg (lg h5))))⟩
        ·have HFU : Hid (t1.length≠C):=zh (by have:=HTL1.out; omega)
         have hlt2 : 8 * i + k < C:=by omega
         clear hfull
         by_cases hA : 2 < x
         ·have HN : Hid (r0 = none):=zh (by have:=HD.out; rw [Ec HFU.out (X8 hA)] at this; exact this.symm)
          go_wp2_with fail
          go_ret2
          have hf:=HTR.out
          rw [A6 H16.out (HR0.out.trans HN.out)] at hf
          obtain ⟨rfl,rfl⟩:=Prod.mk.inj hf
          exact ⟨_,rfl,hx5,lF _ _ (lg (lg (lg (lg h5))))⟩
         ·by_cases hX : x = 2
          ·subst hX
           obtain ⟨yn,rfl⟩:=ze l61
           by_cases hP : p <= (yn : Int)
           ·have HN : Hid (r0 = none):=zh (by have:=HD.out; rw [Ec HFU.out (Yj hP)] at this; exact this.symm)
            go_wp2_with fail
            go_ret2
            have hf:=HTR.out
            rw [A6 H16.out (HR0.out.trans HN.out)] at hf
            obtain ⟨rfl,rfl⟩:=Prod.mk.inj hf
            exact ⟨_,rfl,hx5,lF _ _ (lg (lg (lg (lg h5))))⟩
           ·have hyp : (yn : Int) < p:=by omega
            have hy40 : yn < 40:=by omega
            have hbe:=Yc (t:=t1) l61 hyp
            obtain ⟨k2,k3⟩:=oa 2 h5 rfl
            have cu:=k2 yn _ (DY t1 hy40)
            clear k2
            cases hcon : t1.contains ((2,(yn : Int)) : Ent)
            ·rw [hcon] at cu hbe
             have HBE:=zh hbe
             clear hbe hcon
             go_upto_region 26 with (fail)
             have h6:=z8 2 yn (.bool true) h5 rfl (by decide)
             have hx6:=hx5.setCell ⟨ug,yn,none⟩ (.bool true)
             generalize w5.setCell ⟨ug,yn,none⟩ (.bool true) = w6 at *
             have HUS : Hid ((yu t1).set yn (.bool true) = yu (t1++[(2,(yn : Int))])):=zh (MK t1 hy40).symm
             clear cc ff ch fh cu k3
             obtain ⟨cc,ff⟩:=ld 0 h6 rfl
             have h8:=lh h6 (.cells #[.int .i64 2,.int .i64 (yn : Int)] 221)
             have hml : t1.length + 1 <= maxLen:=by simp only [maxLen]; omega
             go_wp2_with (first | (at_builtin; refine lX rfl _ _ 150 rfl 2 221 Tryz.underlying150 Gc rfl (by decide) rfl h8 rfl (some ⟨w6.heap.size,0,none⟩) 1 1 [.int .i64 2,.int .i64 (yn : Int)] rfl rfl (yl w6 [.int .i64 2,.int .i64 (yn : Int)] _) (fun h=>by cases h) (Nm _ _) hml (by omega) ?_))
             intro v9 w9 h9 hx9
             go_wp2_with fail
             go_roundw
             case rel=>
              have hne:=HFU.out
              refine ⟨k + 1,t1++[(2,(yn : Int))],by omega,by go_num,by have:=HTL1.out; simp; omega,by have:=HD.out; rw [Fg hne HBE.out] at this; exact this,(hx6.alloc _).trans hx9,?_⟩
              rw [show (t1++[((2,(yn : Int)) : Ent)]).length = t1.length + 1 by simp,C6,<- HUS.out]
              exact lg (lg h9)
             case measure=>simp [intOf]; omega
            ·rw [hcon] at cu hbe
             have HN : Hid (r0 = none):=zh (by have:=HD.out; rw [Ec HFU.out hbe] at this; exact this.symm)
             clear hbe hcon
             go_wp2_with fail
             go_ret2
             have hf:=HTR.out
             rw [A6 H16.out (HR0.out.trans HN.out)] at hf
             obtain ⟨rfl,rfl⟩:=Prod.mk.inj hf
             exact ⟨_,rfl,hx5,lF _ _ (lg (lg (lg (lg h5))))⟩
          ·have hx2 : x < 2:=by omega
           have hxb : (x == 2) = false:=zb.2 hX
           have hxb2 : (x != 2) = true:=bne_iff_ne.2 hX
           clear hX hA
           by_cases hB : 0 < y
           ·have HN : Hid (r0 = none):=zh (by have:=HD.out; rw [Ec HFU.out (Yh hx2 hB)] at this; exact this.symm)
            go_wp2_with fail
            go_ret2
            have hf:=HTR.out
            rw [A6 H16.out (HR0.out.trans HN.out)] at hf
            obtain ⟨rfl,rfl⟩:=Prod.mk.inj hf
            exact ⟨_,rfl,hx5,lF _ _ (lg (lg (lg (lg h5))))⟩
           ·obtain rfl : y = 0:=by omega
            have HBE : Hid (zI p t1 (x,0) = false):=zh (Ye l51 hx2)
            have HUS : Hid (yu t1 = yu (t1++[(x,0)])):=zh (K1 t1 (show ((x,(0 : Int)) : Ent).1≠2 by dsimp only; omega)).symm
            have h6:=h5
            have hx6:=hx5
            go_upto_region 26 with (fail)
            generalize w5 = w6 at *
            have h8:=lh h6 (.cells #[.int .i64 x,.int .i64 0] 221)
            have hml : t1.length + 1 <= maxLen:=by simp only [maxLen]; omega
            go_wp2_with (first | (at_builtin; refine lX rfl _ _ 150 rfl 2 221 Tryz.underlying150 Gc rfl (by decide) rfl h8 rfl (some ⟨w6.heap.size,0,none⟩) 1 1 [.int .i64 x,.int .i64 0] rfl rfl (yl w6 [.int .i64 x,.int .i64 0] _) (fun h=>by cases h) (Nm _ _) hml (by omega) ?_))
            intro v9 w9 h9 hx9
            go_wp2_with fail
            go_roundw
            case rel=>
             have hne:=HFU.out
             refine ⟨k + 1,t1++[(x,0)],by omega,by go_num,by have:=HTL1.out; simp; omega,by have:=HD.out; rw [Fg hne HBE.out] at this; exact this,(hx6.alloc _).trans hx9,?_⟩
             rw [show (t1++[((x,0) : Ent)]).length = t1.length + 1 by simp,C6,<- HUS.out]
             exact lg (lg h9)
            case measure=>simp [intOf]; omega
       ·have hke : k = 8:=by omega
        subst hke
        have hsome : r0 = some t1:=by have:=HTR1.out; rw [UO,yF] at this; exact this.symm
        have HSM:=zh hsome
        clear hsome
        go_wp2_with fail
        go_roundw
        case rel=>exact ⟨i + 1,t1,by omega,by go_num,by have:=HTL1.out; omega,by have:=HTR.out; rw [Ik H16.out (HR0.out.trans HSM.out)] at this; exact this,hxr1,hown1⟩
        case measure=>simp [intOf]; omega
     ·have tz : ((s.size : Int) != 16) = true:=by rw [bne_iff_ne]; omega
      go_wp2_with fail
      go_ret2
      have hf:=HTR.out
      rw [MO h16] at hf
      obtain ⟨rfl,rfl⟩:=Prod.mk.inj hf
      exact ⟨_,rfl,hxr,lF _ _ (lg (lg (lg hown)))⟩
    ·have hie : i = rows.length:=by omega
     rw [hie,List.drop_length,yA] at htr
     obtain ⟨rfl,rfl⟩:=Prod.mk.inj htr
     subst hie
     go_wp2_with fail
     go_ret2
     exact ⟨_,rfl,hxr,li 1 (li 1 hown rfl) rfl⟩
  ·rw [zt hl] at hT2
   obtain ⟨rfl,rfl⟩:=Prod.mk.inj hT2
   have tl : (rows.length != lt C) = true:=by simp [hl]
   have tl2 : ((rows.length : Int) != (lt C : Int)) = true:=by rw [bne_iff_ne]; omega
   clear hT2 hl
   rw [he1]
   go_enter Tryz.func197,Tryz.ntmps197
   go_upto_region 1 with (fail)
   obtain ⟨cc,ff⟩:=ld 0 ha rfl
   generalize w.heap.size = g at *
   generalize w.alloc (.cells #[.int .i64 C,.int .i64 p,.int .i64 b] 103) = w1 at *
   go_wp2_with fail
   refine HQ.out.mono ?_
   rintro e w2 ⟨rfl,hx2,h2'⟩
   clear cc ff
   obtain ⟨cc,ff⟩:=ld 0 h2' rfl
   go_wp2_with fail
   refine (Ay C (by omega) _).mono ?_
   rintro e w' ⟨rfl,rfl⟩
   go_wp2_with fail
   go_ret2
   exact ⟨_,rfl,hxa.trans hx2,lF _ _ (lg h2')⟩
theorem Nf {a b : Int} (h : lK (a,b) 40 = false) : a < 0 \/ (0 <= a /\ 2 < a) \/ (0 <= a /\ a <= 2 /\ b < 0) \/ (0 <= a /\ a <= 2 /\ 0 <= b /\ 40 <= b) \/ (0 <= a /\ a < 2 /\ 0 <= b /\ b < 40 /\ 0 < b):=by
 unfold lK at h
 dsimp only at h
 split at h
 ·simp only [Bool.and_eq_false_iff,decide_eq_false_iff_not] at h; omega
 ·simp only [Bool.and_eq_false_iff,Bool.or_eq_false_iff,decide_eq_false_iff_not] at h; omega
theorem MY {a b : Int} (h : lK (a,b) 40 = true) : (a = 2 /\ 0 <= b /\ b < 40) \/ (0 <= a /\ a < 2 /\ b = 0):=by
 unfold lK at h
 dsimp only at h
 split at h
 ·simp only [Bool.and_eq_true,decide_eq_true_eq] at h; omega
 ·simp only [Bool.and_eq_true,Bool.or_eq_true,decide_eq_true_eq] at h; omega
def Xn (t : List Ent) (r : Nat) (R : List SL.HP) (w0 : World) (vb vi : Value) (wr : World) : Prop:=
 ∃k : Nat,k <= 8 /\ vi = .int .i64 (8 * r + k : Nat) /\ (∃x : Nat×Option Addr,vb = .slice x.2 (2 * k) x.1) /\ (∀j,j < k -> lK (t.getD (8 * r + j) (0,0)) 40 = true) /\ Ext w0 wr /\ own wr (row 5 1 vb (2 * k) (byteCells (yw ((oq t r).take k)))::R)
theorem WR (v : Value) (t : List Ent) (row : Int) (ht : t.length <= 1000) (ho : AR t row) (R : List SL.HP) (w : World) (hv : ∀w' l,own w' (l++R) -> BL w' v t) (H : own w R) :
  Calls Tryz.prog 236 #[v,.int .i64 row] w fun e w'=>e = .returned (.tuple #[.string ByteArray.empty,errV 1]) /\ Ext w w' /\ own w' R:=by
 obtain ⟨ao,b,off,cap,rfl,c1,c2,c3⟩:=(hv w [] H).form
 unfold AR at ho
 by_cases h2 : row < 0
 ·clear hv c3 ho
  go_enter Tryz.func236,Tryz.ntmps236
  go_wp2_with fail
  go_ret2
  exact ⟨rfl,zR _,H⟩
 ·by_cases h3 : (lt t.length : Int) <= row
  ·clear hv c3 ho
   go_enter Tryz.func236,Tryz.ntmps236
   go_wp2_with (go_at_call 156; refine (Ay _ (by omega) _).mono ?_; rintro e w' ⟨rfl,rfl⟩)
   go_ret2
   exact ⟨rfl,zR _,H⟩
  ·have h1 : 32 < t.length:=by omega
   clear hv c3 ho
   go_enter Tryz.func236,Tryz.ntmps236
   go_wp2_with (go_at_call 156; refine (Ay _ (by omega) _).mono ?_; rintro e w' ⟨rfl,rfl⟩)
   go_ret2
   exact ⟨rfl,zR _,H⟩
theorem XZ (v : Value) (t : List Ent) (r : Nat) (ho : ¬AR t r) (R : List SL.HP) (w : World) (hv : ∀w' l,own w' (l++R) -> BL w' v t) (H : own w R) :
  Calls Tryz.prog 236 #[v,.int .i64 r] w fun e w'=>e = .returned (.tuple #[.string (oe t r).1,errV (oe t r).2]) /\ Ext w w' /\ own w' R:=by
 obtain ⟨ao,b,off,cap,rfl,c1,c2,c3⟩:=(hv w [] H).form
 have hbad : ∀k : Nat,k < 8 -> lK (t.getD (8 * r + k) (0,0)) 40 = false -> oe t r = (ByteArray.empty,2):=fun k h1 h2=>TU ho h1 h2
 have hok:=Jw ho
 have HO:=zh ho
 have HB:=zh hbad
 have HK:=zh hok
 unfold AR at ho
 have h1 : t.length <= 32:=by omega
 have h3 : (r : Int) < (lt t.length : Int):=by omega
 have h4 : r <= 4:=by have h0 : lt t.length <= 4:=(by unfold lt; omega); omega
 have HV:=zh hv
 have HC:=zh c3
 have b1 : decide (32 < (t.length : Int)) = false:=by simp; omega
 have b2 : decide ((r : Int) < 0) = false:=by simp
 have b3 : decide (lt t.length <= r) = false:=by simp; omega
 clear hv c3 ho hbad hok
 go_enter Tryz.func236,Tryz.ntmps236
 go_wp2_with (go_at_call 156; refine (Ay _ (by omega) _).mono ?_; rintro e w' ⟨rfl,rfl⟩)
 go_loopw [6,7] (Xn t r R w) (fun b _ _=>16 - M5 b)
 case atStart=>exact ⟨0,by omega,by go_num,⟨(0,none),rfl⟩,fun j h=>absurd h (by omega),zR _,lF _ _ H⟩
 case round=>
  obtain ⟨k,hk,rfl,⟨⟨c1',a1⟩,rfl⟩,hj,hxr,hown⟩:=hrel
  have HJ:=zh hj
  clear hj
  dsimp only at hown
  obtain ⟨a2,g2,c2,hvv,q1,q2,-,-,-,-,-⟩:=lm 0 hown rfl
  simp only [Value.slice.injEq] at hvv
  obtain ⟨rfl,-,rfl⟩:=hvv
  by_cases hlt : k < 8
  ·go_upto_region 8 with (fail)
   have ha:=lh hown (.cells #[.int .i64 0,.int .i64 0] 221)
   have hxa:=hxr.alloc (.cells #[.int .i64 0,.int .i64 0] 221)
   generalize wr.heap.size = p at *
   generalize wr.alloc (.cells #[.int .i64 0,.int .i64 0] 221) = wa at *
   by_cases hin : 8 * r + k < t.length
   ·obtain rfl:=HC.out (by omega)
    have hcell:=(HV.out wa [_,_] ha).cells hin
    obtain ⟨e1,e2⟩:=hcell
    obtain ⟨cc,ff⟩:=ld 0 ha rfl
    generalize hx : t.getD (8 * r + k) (0,0) = x at *
    have HX:=zh hx
    clear hx
    obtain ⟨x1,x2⟩:=x
    dsimp only at e1 e2
    go_upto_region 10 with (fail)
    have h5:=lp (i:=1) (v:=.int .i64 x2) 0 (lp (i:=0) (v:=.int .i64 x1) 0 ha rfl) rfl
    have hx5:=(hxa.setCell ⟨p,0,none⟩ (.int .i64 x1)).setCell ⟨p,1,none⟩ (.int .i64 x2)
    clear e1 e2 cc ff
    generalize (wa.setCell ⟨p,0,none⟩ (.int .i64 x1)).setCell ⟨p,1,none⟩ (.int .i64 x2) = w5 at *
    replace h5 : own w5 (pts p (.cells #[.int .i64 x1,.int .i64 x2] 221 (0,0))::_):=h5
    obtain ⟨cc,ff⟩:=ld 0 h5 rfl
    cases hok : lK (x1,x2) 40
    ·have hfin:=HB.out k hlt (by rw [HX.out]; exact hok)
     have HF:=zh hfin
     clear hfin
     rcases Nf hok with g1 | ⟨g1,g2⟩ | ⟨g1,g2,g3⟩ | ⟨g1,g2,g3,g4⟩ | ⟨g1,g2,g3,g4,g5⟩
     ·clear hok
      go_wp2_with fail
      go_ret2
      exact ⟨by rw [HF.out]; rfl,hx5,lg (lg h5)⟩
     ·clear hok
      go_wp2_with fail
      go_ret2
      exact ⟨by rw [HF.out]; rfl,hx5,lg (lg h5)⟩
     ·clear hok
      go_wp2_with fail
      go_ret2
      exact ⟨by rw [HF.out]; rfl,hx5,lg (lg h5)⟩
     ·clear hok
      go_wp2_with fail
      go_ret2
      exact ⟨by rw [HF.out]; rfl,hx5,lg (lg h5)⟩
     ·clear hok
      have t2 : (x1 == 2) = false:=zb.2 (by omega)
      have t3 : (x1 != 2) = true:=by rw [bne_iff_ne]; omega
      go_wp2_with fail
      go_ret2
      exact ⟨by rw [HF.out]; rfl,hx5,lg (lg h5)⟩
    ·rcases MY hok with ⟨rfl,y3,y4⟩ | ⟨y1,y2,rfl⟩
     ·have HE:=zh hok
      clear hok
      have h3:=lh h5 (.cells #[.int .u8 2,.int .u8 x2] 5)
      have hml : 2 * k + 2 <= maxLen:=by simp only [maxLen]; omega
      go_wp2_with (first | (at_builtin; refine lX rfl _ _ 211 rfl 2 5 Tryz.underlying211 DR rfl (by decide) rfl h3 rfl (some ⟨w5.heap.size,0,none⟩) 2 2 [.int .u8 2,.int .u8 x2] rfl rfl (yl w5 [.int .u8 2,.int .u8 x2] _) (fun h=>by cases h) (GH _ _) hml (by omega) ?_))
      intro v4 w4 h4 hx4
      obtain ⟨a4,g4,c4,rfl,z1,z2,-,-,-,-,-⟩:=lm 2 h4 rfl
      go_wp2_with fail
      go_roundw
      case rel=>
       refine ⟨k + 1,by omega,by go_num,⟨(c4,a4),rfl⟩,fun j hj=>?_,((hx5.alloc _).trans hx4),?_⟩
       ·by_cases ej : j = k
        ·subst ej; rw [HX.out]; exact HE.out
        ·exact HJ.out j (by omega)
       ·rw [Ew _ _ _ hlt,HX.out]
        exact lg (lg h4)
      case measure=>simp [M5]; omega
     ·have t2 : (x1 == 2) = false:=zb.2 (by omega)
      have t3 : (x1 != 2) = true:=by rw [bne_iff_ne]; omega
      have HE:=zh hok
      clear hok
      have h3:=lh h5 (.cells #[.int .u8 x1,.int .u8 0] 5)
      have hml : 2 * k + 2 <= maxLen:=by simp only [maxLen]; omega
      go_wp2_with (first | (at_builtin; refine lX rfl _ _ 211 rfl 2 5 Tryz.underlying211 DR rfl (by decide) rfl h3 rfl (some ⟨w5.heap.size,0,none⟩) 2 2 [.int .u8 x1,.int .u8 0] rfl rfl (yl w5 [.int .u8 x1,.int .u8 0] _) (fun h=>by cases h) (GH _ _) hml (by omega) ?_))
      intro v4 w4 h4 hx4
      obtain ⟨a4,g4,c4,rfl,z1,z2,-,-,-,-,-⟩:=lm 2 h4 rfl
      go_wp2_with fail
      go_roundw
      case rel=>
       refine ⟨k + 1,by omega,by go_num,⟨(c4,a4),rfl⟩,fun j hj=>?_,((hx5.alloc _).trans hx4),?_⟩
       ·by_cases ej : j = k
        ·subst ej; rw [HX.out]; exact HE.out
        ·exact HJ.out j (by omega)
       ·rw [Ew _ _ _ hlt,HX.out]
        exact lg (lg h4)
      case measure=>simp [M5]; omega
   ·have hx : t.getD (8 * r + k) (0,0) = (0,0):=by simp [List.getD,show t.length <= 8 * r + k by omega]
    have HX:=zh hx
    clear hx
    obtain ⟨cc,ff⟩:=ld 0 ha rfl
    go_upto_region 10 with (fail)
    have h5:=ha
    have hx5:=hxa
    generalize wa = w5 at *
    have hok : lK (0,0) 40 = true:=rfl
    have HE:=zh hok
    clear hok
    have h3:=lh h5 (.cells #[.int .u8 0,.int .u8 0] 5)
    have hml : 2 * k + 2 <= maxLen:=by simp only [maxLen]; omega
    go_wp2_with (first | (at_builtin; refine lX rfl _ _ 211 rfl 2 5 Tryz.underlying211 DR rfl (by decide) rfl h3 rfl (some ⟨w5.heap.size,0,none⟩) 2 2 [.int .u8 0,.int .u8 0] rfl rfl (yl w5 [.int .u8 0,.int .u8 0] _) (fun h=>by cases h) (GH _ _) hml (by omega) ?_))
    intro v4 w4 h4 hx4
    obtain ⟨a4,g4,c4,rfl,z1,z2,-,-,-,-,-⟩:=lm 2 h4 rfl
    go_wp2_with fail
    go_roundw
    case rel=>
     refine ⟨k + 1,by omega,by go_num,⟨(c4,a4),rfl⟩,fun j hj=>?_,((hx5.alloc _).trans hx4),?_⟩
     ·by_cases ej : j = k
      ·subst ej; rw [HX.out]; exact HE.out
      ·exact HJ.out j (by omega)
     ·rw [Ew _ _ _ hlt,HX.out]
      exact lg (lg h4)
    case measure=>simp [M5]; omega
  ·have hk8 : k = 8:=by omega
   subst hk8
   have hok:=HK.out HJ.out
   have hall : (oq t r).take 8 = oq t r:=List.take_of_length_le (by rw [yS]; omega)
   rw [hall] at hown
   have hlen : (yw (oq t r)).length = 2 * 8:=by rw [Du,yS]
   have hcv:=JN 0 hlen hown rfl (by omega)
   have HF:=zh hok
   clear hok hall hlen
   generalize strOfNums (yw (oq t r)) = z at *
   simp only [Nat.reduceMul] at hcv
   go_wp2_with fail
   go_ret2
   exact ⟨by rw [HF.out]; rfl,hxr,lg hown⟩
def zO (r k f a b : Int) : Value:=.agg #[.int .i64 r,.int .i64 k,.int .i64 f,.int .i64 a,.int .i64 b]
def zz (r k f a b : Int) : Prop:=r < 0 \/ 4 < r \/ k < 0 \/ 3 < k \/ f < -1 \/ 4 < f \/ a < 0 \/ 1000 < a \/ b < 0 \/ 1000 < b
instance (r k f a b : Int) : Decidable (zz r k f a b):=by unfold zz; infer_instance
def Fp (r k f a b : Int) : Prop:=if k = 0 then ¬(f = -1 /\ a = 0 /\ b = 0) else (f = r \/ (f = -1 /\ k≠2))
instance (r k f a b : Int) : Decidable (Fp r k f a b):=by unfold Fp; infer_instance
def yH (r k f a b : Int) : Int:=if zz r k f a b then 1 else if Fp r k f a b then 2 else 0
theorem GJ {r k f a b : Int} (h : zz r k f a b) : yH r k f a b = 1:=zt h
theorem Qm {r k f a b : Int} (h : ¬zz r k f a b) (h0 : k = 0) : yH r k f a b = if f = -1 /\ a = 0 /\ b = 0 then 0 else 2:=by
 subst h0
 unfold yH Fp
 rw [zq h]
 by_cases h2 : f = -1 /\ a = 0 /\ b = 0
 ·simp [h2]
 ·rw [zq h2]; simp [h2]
theorem Xe {r k f a b : Int} (h : ¬zz r k f a b) (h0 : k≠0) : yH r k f a b = if f = r \/ (f = -1 /\ k≠2) then 2 else 0:=by
 unfold yH Fp
 rw [zq h]
 simp [h0]
theorem MX {r k f a b : Int} (h : zz r k f a b) : (r < 0) \/ (0 <= r /\ 4 < r) \/ (0 <= r /\ r <= 4 /\ k < 0) \/ (0 <= r /\ r <= 4 /\ 0 <= k /\ 3 < k) \/ (0 <= r /\ r <= 4 /\ 0 <= k /\ k <= 3 /\ f < -1) \/ (0 <= r /\ r <= 4 /\ 0 <= k /\ k <= 3 /\ -1 <= f /\ 4 < f) \/ (0 <= r /\ r <= 4 /\ 0 <= k /\ k <= 3 /\ -1 <= f /\ f <= 4 /\ a < 0) \/ (0 <= r /\ r <= 4 /\ 0 <= k /\ k <= 3 /\ -1 <= f /\ f <= 4 /\ 0 <= a /\ 1000 < a) \/ (0 <= r /\ r <= 4 /\ 0 <= k /\ k <= 3 /\ -1 <= f /\ f <= 4 /\ 0 <= a /\ a <= 1000 /\ b < 0) \/ (0 <= r /\ r <= 4 /\ 0 <= k /\ k <= 3 /\ -1 <= f /\ f <= 4 /\ 0 <= a /\ a <= 1000 /\ 0 <= b /\ 1000 < b):=by
 by_cases h0 : r < 0
 ·exact (.inl h0)
 by_cases h1 : 4 < r
 ·exact (.inr (.inl ⟨by omega,h1⟩))
 by_cases h2 : k < 0
 ·exact (.inr (.inr (.inl ⟨by omega,by omega,h2⟩)))
 by_cases h3 : 3 < k
 ·exact (.inr (.inr (.inr (.inl ⟨by omega,by omega,by omega,h3⟩))))
 by_cases h4 : f < -1
 ·exact (.inr (.inr (.inr (.inr (.inl ⟨by omega,by omega,by omega,by omega,h4⟩)))))
 by_cases h5 : 4 < f
 ·exact (.inr (.inr (.inr (.inr (.inr (.inl ⟨by omega,by omega,by omega,by omega,by omega,h5⟩))))))
 by_cases h6 : a < 0
 ·exact (.inr (.inr (.inr (.inr (.inr (.inr (.inl ⟨by omega,by omega,by omega,by omega,by omega,by omega,h6⟩)))))))
 by_cases h7 : 1000 < a
 ·exact (.inr (.inr (.inr (.inr (.inr (.inr (.inr (.inl ⟨by omega,by omega,by omega,by omega,by omega,by omega,by omega,h7⟩))))))))
 by_cases h8 : b < 0
 ·exact (.inr (.inr (.inr (.inr (.inr (.inr (.inr (.inr (.inl ⟨by omega,by omega,by omega,by omega,by omega,by omega,by omega,by omega,h8⟩)))))))))
 unfold zz at h
 have h9 : 1000 < b:=by
  rcases h with h | h | h | h | h | h | h | h | h | h
  all_goals first | exact h | exact absurd h (by assumption)
 clear h
 exact (.inr (.inr (.inr (.inr (.inr (.inr (.inr (.inr (.inr ⟨by omega,by omega,by omega,by omega,by omega,by omega,by omega,by omega,by omega,by omega⟩)))))))))
theorem Gi (r k f a b : Int) (R : List SL.HP) (w : World) (H : own w R) :
  Calls Tryz.prog 147 #[zO r k f a b] w fun e w'=>e = .returned (errV (yH r k f a b)) /\ Ext w w' /\ own w' R:=by
 have ha:=lh H (.cells #[.int .i64 r,.int .i64 k,.int .i64 f,.int .i64 a,.int .i64 b] 24)
 obtain ⟨cc,ff⟩:=ld 0 ha rfl
 unfold zO
 by_cases ho : zz r k f a b
 ·rw [GJ ho]
  rcases MX ho with g0 | ⟨g0,g1⟩ | ⟨g0,g1,g2⟩ | ⟨g0,g1,g2,g3⟩ | ⟨g0,g1,g2,g3,g4⟩ | ⟨g0,g1,g2,g3,g4,g5⟩ | ⟨g0,g1,g2,g3,g4,g5,g6⟩ | ⟨g0,g1,g2,g3,g4,g5,g6,g7⟩ | ⟨g0,g1,g2,g3,g4,g5,g6,g7,g8⟩ | ⟨g0,g1,g2,g3,g4,g5,g6,g7,g8,g9⟩
  ·have d0 : decide (r < 0) = true:=zg (by omega)
   clear ho g0
   go_enter Tryz.func147,Tryz.ntmps147
   go_wp2_with fail
   go_ret
   exact ⟨rfl,(zR _).alloc _,lg ha⟩
  ·have d0 : decide (r < 0) = false:=zf (by omega)
   have d1 : decide (5 <= r) = true:=zg (by omega)
   clear ho g0 g1
   go_enter Tryz.func147,Tryz.ntmps147
   go_wp2_with fail
   go_ret
   exact ⟨rfl,(zR _).alloc _,lg ha⟩
  ·have d0 : decide (r < 0) = false:=zf (by omega)
   have d1 : decide (5 <= r) = false:=zf (by omega)
   have d2 : decide (k < 0) = true:=zg (by omega)
   clear ho g0 g1 g2
   go_enter Tryz.func147,Tryz.ntmps147
   go_wp2_with fail
   go_ret
   exact ⟨rfl,(zR _).alloc _,lg ha⟩
  ·have d0 : decide (r < 0) = false:=zf (by omega)
   have d1 : decide (5 <= r) = false:=zf (by omega)
   have d2 : decide (k < 0) = false:=zf (by omega)
   have d3 : decide (3 < k) = true:=zg (by omega)
   clear ho g0 g1 g2 g3
   go_enter Tryz.func147,Tryz.ntmps147
   go_wp2_with fail
   go_ret
   exact ⟨rfl,(zR _).alloc _,lg ha⟩
  ·have d0 : decide (r < 0) = false:=zf (by omega)
   have d1 : decide (5 <= r) = false:=zf (by omega)
   have d2 : decide (k < 0) = false:=zf (by omega)
   have d3 : decide (3 < k) = false:=zf (by omega)
   have d4 : decide (f < -1) = true:=zg (by omega)
   clear ho g0 g1 g2 g3 g4
   go_enter Tryz.func147,Tryz.ntmps147
   go_wp2_with fail
   go_ret
   exact ⟨rfl,(zR _).alloc _,lg ha⟩
  ·have d0 : decide (r < 0) = false:=zf (by omega)
   have d1 : decide (5 <= r) = false:=zf (by omega)
   have d2 : decide (k < 0) = false:=zf (by omega)
   have d3 : decide (3 < k) = false:=zf (by omega)
   have d4 : decide (f < -1) = false:=zf (by omega)
   have d5 : decide (5 <= f) = true:=zg (by omega)
   clear ho g0 g1 g2 g3 g4 g5
   go_enter Tryz.func147,Tryz.ntmps147
   go_wp2_with fail
   go_ret
   exact ⟨rfl,(zR _).alloc _,lg ha⟩
  ·have d0 : decide (r < 0) = false:=zf (by omega)
   have d1 : decide (5 <= r) = false:=zf (by omega)
   have d2 : decide (k < 0) = false:=zf (by omega)
   have d3 : decide (3 < k) = false:=zf (by omega)
   have d4 : decide (f < -1) = false:=zf (by omega)
   have d5 : decide (5 <= f) = false:=zf (by omega)
   have d6 : decide (a < 0) = true:=zg (by omega)
   clear ho g0 g1 g2 g3 g4 g5 g6
   go_enter Tryz.func147,Tryz.ntmps147
   go_wp2_with fail
   go_ret
   exact ⟨rfl,(zR _).alloc _,lg ha⟩
  ·have d0 : decide (r < 0) = false:=zf (by omega)
   have d1 : decide (5 <= r) = false:=zf (by omega)
   have d2 : decide (k < 0) = false:=zf (by omega)
   have d3 : decide (3 < k) = false:=zf (by omega)
   have d4 : decide (f < -1) = false:=zf (by omega)
   have d5 : decide (5 <= f) = false:=zf (by omega)
   have d6 : decide (a < 0) = false:=zf (by omega)
   have d7 : decide (1000 < a) = true:=zg (by omega)
   clear ho g0 g1 g2 g3 g4 g5 g6 g7
   go_enter Tryz.func147,Tryz.ntmps147
   go_wp2_with fail
   go_ret
   exact ⟨rfl,(zR _).alloc _,lg ha⟩
  ·have d0 : decide (r < 0) = false:=zf (by omega)
   have d1 : decide (5 <= r) = false:=zf (by omega)
   have d2 : decide (k < 0) = false:=zf (by omega)
   have d3 : decide (3 < k) = false:=zf (by omega)
   have d4 : decide (f < -1) = false:=zf (by omega)
   have d5 : decide (5 <= f) = false:=zf (by omega)
   have d6 : decide (a < 0) = false:=zf (by omega)
   have d7 : decide (1000 < a) = false:=zf (by omega)
   have d8 : decide (b < 0) = true:=zg (by omega)
   clear ho g0 g1 g2 g3 g4 g5 g6 g7 g8
   go_enter Tryz.func147,Tryz.ntmps147
   go_wp2_with fail
   go_ret
   exact ⟨rfl,(zR _).alloc _,lg ha⟩
  ·have d0 : decide (r < 0) = false:=zf (by omega)
   have d1 : decide (5 <= r) = false:=zf (by omega)
   have d2 : decide (k < 0) = false:=zf (by omega)
   have d3 : decide (3 < k) = false:=zf (by omega)
   have d4 : decide (f < -1) = false:=zf (by omega)
   have d5 : decide (5 <= f) = false:=zf (by omega)
   have d6 : decide (a < 0) = false:=zf (by omega)
   have d7 : decide (1000 < a) = false:=zf (by omega)
   have d8 : decide (b < 0) = false:=zf (by omega)
   have d9 : decide (1000 < b) = true:=zg (by omega)
   clear ho g0 g1 g2 g3 g4 g5 g6 g7 g8 g9
   go_enter Tryz.func147,Tryz.ntmps147
   go_wp2_with fail
   go_ret
   exact ⟨rfl,(zR _).alloc _,lg ha⟩
 ·have ho':=ho
  unfold zz at ho'
  have d0 : decide (r < 0) = false:=zf (by omega)
  have d1 : decide (5 <= r) = false:=zf (by omega)
  have d2 : decide (k < 0) = false:=zf (by omega)
  have d3 : decide (3 < k) = false:=zf (by omega)
  have d4 : decide (f < -1) = false:=zf (by omega)
  have d5 : decide (5 <= f) = false:=zf (by omega)
  have d6 : decide (a < 0) = false:=zf (by omega)
  have d7 : decide (1000 < a) = false:=zf (by omega)
  have d8 : decide (b < 0) = false:=zf (by omega)
  have d9 : decide (1000 < b) = false:=zf (by omega)
  clear ho'
  by_cases h0 : k = 0
  ·rw [Qm ho h0]
   by_cases h1 : f = -1
   ·by_cases h2 : a = 0
    ·by_cases h3 : b = 0
     ·rw [zt ⟨h1,h2,h3⟩]
      have th0 : (k == 0) = true:=beq_iff_eq.2 h0
      have uh0 : (k != 0) = false:=by simp [h0]
      have th1 : (f == -1) = true:=beq_iff_eq.2 h1
      have uh1 : (f != -1) = false:=by simp [h1]
      have th2 : (a == 0) = true:=beq_iff_eq.2 h2
      have uh2 : (a != 0) = false:=by simp [h2]
      have vh2 : decide (0 < a) = false:=zf (by omega)
      have th3 : (b == 0) = true:=beq_iff_eq.2 h3
      have uh3 : (b != 0) = false:=by simp [h3]
      have vh3 : decide (0 < b) = false:=zf (by omega)
      clear ho h0 h1 h2 h3
      go_enter Tryz.func147,Tryz.ntmps147
      go_wp2_with fail
      go_ret
      exact ⟨rfl,(zR _).alloc _,lg ha⟩
     ·rw [zq (by omega)]
      have th0 : (k == 0) = true:=beq_iff_eq.2 h0
      have uh0 : (k != 0) = false:=by simp [h0]
      have th1 : (f == -1) = true:=beq_iff_eq.2 h1
      have uh1 : (f != -1) = false:=by simp [h1]
      have th2 : (a == 0) = true:=beq_iff_eq.2 h2
      have uh2 : (a != 0) = false:=by simp [h2]
      have vh2 : decide (0 < a) = false:=zf (by omega)
      have th3 : (b == 0) = false:=zb.2 h3
      have uh3 : (b != 0) = true:=bne_iff_ne.2 h3
      have vh3 : decide (0 < b) = true:=zg (by have h6:=of_decide_eq_false d6; have h8:=of_decide_eq_false d8; omega)
      clear ho h0 h1 h2 h3
      go_enter Tryz.func147,Tryz.ntmps147
      go_wp2_with fail
      go_ret
      exact ⟨rfl,(zR _).alloc _,lg ha⟩
    ·rw [zq (by omega)]
     have th0 : (k == 0) = true:=beq_iff_eq.2 h0
     have uh0 : (k != 0) = false:=by simp [h0]
     have th1 : (f == -1) = true:=beq_iff_eq.2 h1
     have uh1 : (f != -1) = false:=by simp [h1]
     have th2 : (a == 0) = false:=zb.2 h2
     have uh2 : (a != 0) = true:=bne_iff_ne.2 h2
     have vh2 : decide (0 < a) = true:=zg (by have h6:=of_decide_eq_false d6; have h8:=of_decide_eq_false d8; omega)
     clear ho h0 h1 h2
     go_enter Tryz.func147,Tryz.ntmps147
     go_wp2_with fail
     go_ret
     exact ⟨rfl,(zR _).alloc _,lg ha⟩
   ·rw [zq (by omega)]
    have th0 : (k == 0) = true:=beq_iff_eq.2 h0
    have uh0 : (k != 0) = false:=by simp [h0]
    have th1 : (f == -1) = false:=zb.2 h1
    have uh1 : (f != -1) = true:=bne_iff_ne.2 h1
    clear ho h0 h1
    go_enter Tryz.func147,Tryz.ntmps147
    go_wp2_with fail
    go_ret
    exact ⟨rfl,(zR _).alloc _,lg ha⟩
  ·rw [Xe ho h0]
   by_cases h1 : f = r
   ·rw [zt (.inl h1)]
    have th0 : (k == 0) = false:=zb.2 h0
    have uh0 : (k != 0) = true:=bne_iff_ne.2 h0
    have th1 : (f == r) = true:=beq_iff_eq.2 h1
    have uh1 : (f != r) = false:=by simp [h1]
    clear ho h0 h1
    go_enter Tryz.func147,Tryz.ntmps147
    go_wp2_with fail
    go_ret
    exact ⟨rfl,(zR _).alloc _,lg ha⟩
   ·by_cases h2 : f = -1
    ·by_cases h3 : k = 2
     ·rw [zq (by omega)]
      have th0 : (k == 0) = false:=zb.2 h0
      have uh0 : (k != 0) = true:=bne_iff_ne.2 h0
      have th1 : (f == r) = false:=zb.2 h1
      have uh1 : (f != r) = true:=bne_iff_ne.2 h1
      have th2 : (f == -1) = true:=beq_iff_eq.2 h2
      have uh2 : (f != -1) = false:=by simp [h2]
      have th3 : (k == 2) = true:=beq_iff_eq.2 h3
      have uh3 : (k != 2) = false:=by simp [h3]
      clear ho h0 h1 h2 h3
      go_enter Tryz.func147,Tryz.ntmps147
      go_wp2_with fail
      go_ret
      exact ⟨rfl,(zR _).alloc _,lg ha⟩
     ·rw [zt (.inr ⟨h2,h3⟩)]
      have th0 : (k == 0) = false:=zb.2 h0
      have uh0 : (k != 0) = true:=bne_iff_ne.2 h0
      have th1 : (f == r) = false:=zb.2 h1
      have uh1 : (f != r) = true:=bne_iff_ne.2 h1
      have th2 : (f == -1) = true:=beq_iff_eq.2 h2
      have uh2 : (f != -1) = false:=by simp [h2]
      have th3 : (k == 2) = false:=zb.2 h3
      have uh3 : (k != 2) = true:=bne_iff_ne.2 h3
      clear ho h0 h1 h2 h3
      go_enter Tryz.func147,Tryz.ntmps147
      go_wp2_with fail
      go_ret
      exact ⟨rfl,(zR _).alloc _,lg ha⟩
    ·rw [zq (by omega)]
     by_cases h3 : k = 2
     ·have th0 : (k == 0) = false:=zb.2 h0
      have uh0 : (k != 0) = true:=bne_iff_ne.2 h0
      have th1 : (f == r) = false:=zb.2 h1
      have uh1 : (f != r) = true:=bne_iff_ne.2 h1
      have th2 : (f == -1) = false:=zb.2 h2
      have uh2 : (f != -1) = true:=bne_iff_ne.2 h2
      have th3 : (k == 2) = true:=beq_iff_eq.2 h3
      have uh3 : (k != 2) = false:=by simp [h3]
      clear ho h0 h1 h2 h3
      go_enter Tryz.func147,Tryz.ntmps147
      go_wp2_with fail
      go_ret
      exact ⟨rfl,(zR _).alloc _,lg ha⟩
     ·have th0 : (k == 0) = false:=zb.2 h0
      have uh0 : (k != 0) = true:=bne_iff_ne.2 h0
      have th1 : (f == r) = false:=zb.2 h1
      have uh1 : (f != r) = true:=bne_iff_ne.2 h1
      have th2 : (f == -1) = false:=zb.2 h2
      have uh2 : (f != -1) = true:=bne_iff_ne.2 h2
      have th3 : (k == 2) = false:=zb.2 h3
      have uh3 : (k != 2) = true:=bne_iff_ne.2 h3
      clear ho h0 h1 h2 h3
      go_enter Tryz.func147,Tryz.ntmps147
      go_wp2_with fail
      go_ret
      exact ⟨rfl,(zR _).alloc _,lg ha⟩
def zM (r k f a b : Int) : ByteArray:=BE [68,75,r,k,f + 1,a % 256,a / 256,b % 256,b / 256]
theorem O1 (r k f a b : Int) (R : List SL.HP) (w : World) (H : own w R) :
  Calls Tryz.prog 199 #[zO r k f a b] w fun e w'=>e = .returned (.tuple #[.string (if yH r k f a b = 0 then zM r k f a b else ByteArray.empty),errV (yH r k f a b)]) /\ Ext w w' /\ own w' R:=by
 have ha:=lh H (.cells #[.int .i64 r,.int .i64 k,.int .i64 f,.int .i64 a,.int .i64 b] 24)
 have hxa:=(zR w).alloc (.cells #[.int .i64 r,.int .i64 k,.int .i64 f,.int .i64 a,.int .i64 b] 24)
 have hck:=Gi r k f a b _ _ ha
 by_cases h : yH r k f a b = 0
 ·rw [h,zt rfl]
  rw [h] at hck
  have HK:=zh hck
  have hh : ¬zz r k f a b:=fun h'=>by rw [GJ h'] at h; cases h
  clear hck h
  unfold zz at hh
  unfold zO at HK
  unfold zO zM
  have g1 : 0 <= r:=by omega
  have g2 : r <= 4:=by omega
  have g3 : -1 <= f:=by omega
  have g4 : f <= 4:=by omega
  have g5 : 0 <= a:=by omega
  have g6 : a <= 1000:=by omega
  have g7 : 0 <= b:=by omega
  have g8 : b <= 1000:=by omega
  have g9 : 0 <= k:=by omega
  have g0 : k <= 3:=by omega
  have e1 : 0 <= a % 256:=by omega
  have e2 : a % 256 <= 255:=by omega
  have e3 : 0 <= a / 256:=by omega
  have e4 : a / 256 <= 3:=by omega
  have e5 : 0 <= b % 256:=by omega
  have e6 : b % 256 <= 255:=by omega
  have e7 : 0 <= b / 256:=by omega
  have e8 : b / 256 <= 3:=by omega
  clear hh
  go_enter Tryz.func199,Tryz.ntmps199
  go_upto_region 1 with (fail)
  obtain ⟨cc,ff⟩:=ld 0 ha rfl
  generalize w.heap.size = g at *
  generalize w.alloc (.cells #[.int .i64 r,.int .i64 k,.int .i64 f,.int .i64 a,.int .i64 b] 24) = w1 at *
  go_wp2_with fail
  refine HK.out.mono ?_
  rintro e w2 ⟨rfl,hx2,h2'⟩
  rw [lS]
  clear cc ff
  obtain ⟨cc,ff⟩:=ld 0 h2' rfl
  go_wp2_with fail
  have h7:=zr 0 (n:=9) (cap:=9) (sz:=1) (xs:=byteCells [68,75,r,k,f + 1,a % 256,a / 256,b % 256,b / 256]) (lh h2' (.cells #[.int .u8 68,.int .u8 75,.int .u8 r,.int .u8 k,.int .u8 (f + 1),.int .u8 (a % 256),.int .u8 (a / 256),.int .u8 (b % 256),.int .u8 (b / 256)] 5)) rfl (by decide) (by simp [maxLen]) rfl rfl
  refine (J0 _ [68,75,r,k,f + 1,a % 256,a / 256,b % 256,b / 256] 9 rfl (by decide) (by decide) _ _ h7).mono ?_
  rintro e w3 ⟨rfl,hx3,h3'⟩
  go_wp2_with fail
  go_ret2
  exact ⟨rfl,((hxa.trans hx2).alloc _).trans hx3,lg h3'⟩
 ·rw [zq h]
  have hp : 0 < yH r k f a b:=by unfold yH at h ⊢; split; decide; split; decide; rename_i h1 h2; rw [zq h1,zq h2] at h; exact absurd rfl h
  rw [lv hp] at hck ⊢
  have HK:=zh hck
  clear hck h
  generalize yH r k f a b = ff at *
  unfold zO at HK
  unfold zO
  go_enter Tryz.func199,Tryz.ntmps199
  go_upto_region 1 with (fail)
  obtain ⟨cc,ff⟩:=ld 0 ha rfl
  generalize w.heap.size = g at *
  generalize w.alloc (.cells #[.int .i64 r,.int .i64 k,.int .i64 f,.int .i64 a,.int .i64 b] 24) = w1 at *
  go_wp2_with fail
  refine HK.out.mono ?_
  rintro e w2 ⟨rfl,hx2,h2'⟩
  go_wp2_with fail
  go_ret2
  exact ⟨rfl,hxa.trans hx2,lg h2'⟩
theorem De {fn : Func} {t u : Tmp} (h : fn.results = #[.cell t 24,.tmp u]) (tmps : Array Value) (w : World) (g : Nat) (r k f a b : Int) (hg : tmps.getD t undef = .pointer (some ⟨g,0,none⟩))
  (h0 : w.cell? ⟨g,0,none⟩ = some (.int .i64 r)) (h1 : w.cell? ⟨g,1,none⟩ = some (.int .i64 k)) (h2 : w.cell? ⟨g,2,none⟩ = some (.int .i64 f)) (h3 : w.cell? ⟨g,3,none⟩ = some (.int .i64 a)) (h4 : w.cell? ⟨g,4,none⟩ = some (.int .i64 b)) :
  (results fn tmps).run Tryz.prog w = .ok (.tuple #[zO r k f a b,tmps.getD u undef]) w:=by
 rw [results_cell_tmp h,hg]
 unfold zO
 go_simp
def Ga (s : ByteArray) : Int×Int×Int×Int×Int:=(bt s 2,bt s 3,bt s 4 - 1,bt s 5 + 256 * bt s 6,bt s 7 + 256 * bt s 8)
def Ac (s : ByteArray) : Prop:=yH (bt s 2) (bt s 3) (bt s 4 - 1) (bt s 5 + 256 * bt s 6) (bt s 7 + 256 * bt s 8)≠0 \/ zM (bt s 2) (bt s 3) (bt s 4 - 1) (bt s 5 + 256 * bt s 6) (bt s 7 + 256 * bt s 8)≠s
instance (s : ByteArray) : Decidable (Ac s):=by unfold Ac; infer_instance
def oV (s : ByteArray) : (Int×Int×Int×Int×Int)×Int:=
 if zF s≠0 then ((0,0,0,0,0),zF s) else if Ac s then ((0,0,0,0,0),2) else (Ga s,0)
theorem Vf {r k f a b : Int} (h : yH r k f a b≠0) : 0 < yH r k f a b:=by
 unfold yH at h ⊢
 split
 ·decide
 ·rename_i h1
  rw [zq h1] at h
  split
  ·decide
  ·rename_i h2; rw [zq h2] at h; exact absurd rfl h
theorem Jx {r k f a b : Int} (h : yH r k f a b = 0) : ¬zz r k f a b:=fun h'=>by rw [GJ h'] at h; cases h
end Go.Proofs.YtbpblokfiajpjabGreatDoor
