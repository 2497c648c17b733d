/- Lemmas on which TopEnds stands: the texts Shape Shape2 Shape3 Shape4. No conditions. -/
import Derived.Test.YtbpblokfiajpjabGreatDoorPk1023c6992e
import Derived.Deep.DrawnRows
import Derived.Laws.ResultCell
set_option linter.all false
set_option maxRecDepth 1000000
set_option maxHeartbeats 32000000
namespace Go.Proofs.YtbpblokfiajpjabGreatDoor
open Go.RowKit Go.SL Go.Crc
attribute [local go_sem ↓] Go.wp_at_zero Go.wp_at_succ
def byteCells (xs : List Int) : List Value:=xs.map (Value.int .u8)
theorem FU {w : World} {L : List SL.HP} (k : Nat) {v : Value} {xs : List Int} {n : Nat} (hn : xs.length = n) (H : own w L) (hk : L[k]? = some (row 5 1 v n (byteCells xs))) (hp : 0 < n) :
  (convert 211 9 v).run Tryz.prog w = .ok (.string (strOfNums xs)) w:=by
 obtain ⟨ao,g,cap,rfl,h1,h2,h3,-,-,h6,-⟩:=ll k H hk
 obtain rfl:=h3 hp
 exact run_convert_bytes_arg (P:=Tryz.prog) w 211 5 Tryz.underlying211 Tryz.underlying5 g 0 n cap xs hn (fun i hi=>by
  rw [Nat.zero_add]
  exact h6 i _ (by simp [byteCells,show i < xs.length by omega])) 9 Tryz.underlying9
def Bq (xs : List Int) : ByteArray:=strOfNums xs++zs (12 - xs.length)
def EY (xs : List Int) : ByteArray:=Bq xs++⟨(le32 (GR (Bq xs).data.toList)).toArray⟩
theorem Nz (c : Nat) : (⟨(Lib.repeatL (⟨#[0]⟩ : ByteArray).data.toList c).toArray⟩ : ByteArray) = zs c:=by
 unfold zs
 congr 2
 induction c with
 | zero=>rfl
 | succ c ih=>rw [List.replicate_succ,<- ih]; simp [Lib.repeatL,List.replicate_succ]
theorem Fs {xs : List Int} (h : xs.length <= 12) : (Bq xs).size = 12:=by
 rw [Bq,ByteArray.size_append,strOfNums_size,zl]; omega
theorem O7 {w : World} {L : List SL.HP} (k : Nat) {b : Nat} {t : ByteArray} {T : TypeId} (H : own w L) (hk : L[k]? = some (pts b (.cells #[.string t] T (0,0)))) (ht : t.size <= 9223372036854775807) : Bd w (.slice (some ⟨b,0,none⟩) 1 1) [t]:=
 ⟨⟨_,b,0,1,rfl,Nat.le_refl _,by omega,fun _=>rfl,fun i hi=>by
  have : i = 0:=by simpa using hi
  subst this
  dsimp only
  rw [Nat.zero_add,(la k H hk).1]
  rfl⟩,fun s hs=>by simp at hs; subst hs; exact ht⟩
theorem Q7 (l : List UInt8) : GR l < 2 ^ 32:=GJ (Kp _ (by decide)) (by decide)
theorem LO (c : Nat) (hc : c <= 1000) (w : World) : Calls Tryz.prog 154 #[.string ⟨#[0]⟩,.int .i64 c] w fun e w2=>e = .returned (.string (zs c)) /\ Below w.heap.size w w2:=by
 have hs : (⟨#[0]⟩ : ByteArray).size = 1:=rfl
 have h:=Tryz.strings_Repeat ⟨#[0]⟩ c w (by omega) (by rw [hs]; omega)
 rw [Nz] at h
 exact h
theorem Gw (v : Value) (xs : List Int) (n : Nat) (hn : xs.length = n) (h0 : 0 < n) (h12 : n <= 12) (R : List SL.HP) (w : World) (H : own w (row 5 1 v n (byteCells xs)::R)) :
  Calls Tryz.prog 237 #[v] w fun e w'=>e = .returned (.string (EY xs)) /\ Ext w w' /\ own w' R:=by
 have hc0:=FU 0 hn (lj H) rfl h0
 obtain ⟨ao,g,cap,rfl,r1,r2,-,-,-,-,-⟩:=ll 0 H rfl
 have e12 : IntKind.i64.wrap (12 - (n : Int)) = ((12 - n : Nat) : Int):=by rw [zi _ (by omega)]; omega
 have hsz1 : (strOfNums xs).size = n:=by rw [strOfNums_size,hn]
 have hsz2 : (zs (12 - n)).size = 12 - n:=zl _
 go_enter Tryz.func237,Tryz.ntmps237
 go_upto_region 1 with (fail)
 go_region_held3 (fun w'=>(convert 211 9 (.slice ao n cap)).run Tryz.prog w' = .ok (.string (strOfNums xs)) w') (first | exact hc0 | exact hc2) ((go_at_call 154; refine (LO (12 - n) (by omega) _).mono ?_; rintro e w2 ⟨rfl,hb2⟩; have h2:=D7 (lj H) hb2; have hc2:=FU 0 hn h2 rfl h0))
 have hu : strOfNums xs++zs (12 - n) = Bq xs:=by rw [Bq,hn]
 have hz:=Fs (xs:=xs) (by omega)
 rw [hu]
 have hseal : EY xs = Bq xs++⟨(le32 (GR (Bq xs).data.toList)).toArray⟩:=rfl
 have HS:=zh hseal
 clear hu hsz1 hsz2 hc0 hc2 hseal
 generalize Bq xs = u at *
 have hx2 : Ext w w2:=(zR w).drew.trans (Ey hb2)
 have ha:=lf h2 (.cells #[.string u] 9)
 have hx3:=hx2.alloc (.cells #[.string u] 9)
 have hst:=O7 0 ha rfl (by omega)
 go_wp2_with fail
 generalize w2.heap.size = p at *
 generalize w2.alloc (.cells #[.string u] 9) = w3 at *
 refine (Sq _ [u] w3 hst).mono ?_
 rintro e w4 ⟨rfl,rfl⟩
 have hj : Ag [u] = u.data.toList:=by simp [Ag]
 rw [hj]
 have hlt:=Q7 u.data.toList
 generalize GR u.data.toList = S at *
 clear hst hj
 go_wp2_with fail
 refine (ML S _ w3 hlt ha).mono ?_
 rintro e w5 ⟨rfl,hx5,h5⟩
 have hs4 : (⟨(le32 S).toArray⟩ : ByteArray).size = 4:=rfl
 generalize (⟨(le32 S).toArray⟩ : ByteArray) = t at *
 go_wp2_with fail
 go_ret
 exact ⟨by rw [HS.out]; rfl,hx3.trans hx5,lg (lg h5)⟩
def JJ : Value -> Nat
 | .slice _ k _=>k
 | _=>0

def oF (c p b : Int) : Value:=.agg #[.int .i64 c,.int .i64 p,.int .i64 b]
def lH (c p b : Int) : Prop:=c < 1 \/ 32 < c \/ p < 0 \/ 40 < p \/ b < -1 \/ 4 < b
instance (c p b : Int) : Decidable (lH c p b):=by unfold lH; infer_instance
def Ai (c p b : Int) : Int:=if lH c p b then 1 else 0
theorem AQ (c p b : Int) (R : List SL.HP) (w : World) (H : own w R) :
  Calls Tryz.prog 125 #[oF c p b] w fun e w'=>e = .returned (errV (Ai c p b)) /\ Ext w w' /\ own w' R:=by
 have ha:=lf H (.cells #[.int .i64 c,.int .i64 p,.int .i64 b] 103)
 obtain ⟨cc,ff⟩:=la 0 ha rfl
 by_cases h : lH c p b
 ·have e : Ai c p b = 1:=zt h
  rw [e]
  clear e
  unfold lH at h
  unfold oF
  go_enter Tryz.func125,Tryz.ntmps125
  go_wp2_with fail
  all_goals go_ret
  all_goals exact ⟨rfl,(zR _).alloc _,lg ha⟩
 ·have e : Ai c p b = 0:=zq h
  rw [e]
  clear e
  unfold lH at h
  unfold oF
  have h1 : 1 <= c:=by omega
  have h2 : c <= 32:=by omega
  have h3 : 0 <= p:=by omega
  have h4 : p <= 40:=by omega
  have h5 : -1 <= b:=by omega
  have h6 : b <= 4:=by omega
  clear h
  go_enter Tryz.func125,Tryz.ntmps125
  go_wp2_with fail
  all_goals go_ret
  all_goals exact ⟨rfl,(zR _).alloc _,lg ha⟩
def lM (c p b : Int) : ByteArray:=EY [83,89,c,p,b + 1]
theorem DA (c p b : Int) (R : List SL.HP) (w : World) (H : own w R) :
  Calls Tryz.prog 159 #[oF c p b] w fun e w'=>e = .returned (.tuple #[.string (if Ai c p b = 0 then lM c p b else ByteArray.empty),errV (Ai c p b)]) /\ Ext w w' /\ own w' R:=by
 have ha:=lf H (.cells #[.int .i64 c,.int .i64 p,.int .i64 b] 103)
 have hxa:=(zR w).alloc (.cells #[.int .i64 c,.int .i64 p,.int .i64 b] 103)
 by_cases h : lH c p b
 ·have e : Ai c p b = 1:=zt h
  have hck:=AQ c p b _ _ ha
  rw [e,zq (by decide)]
  rw [e] at hck
  have HK:=zh hck
  clear hck e h
  unfold oF at HK
  unfold oF
  go_enter Tryz.func159,Tryz.ntmps159
  go_upto_region 1 with (fail)
  obtain ⟨cc,ff⟩:=la 0 ha rfl
  generalize w.heap.size = g at *
  generalize w.alloc (.cells #[.int .i64 c,.int .i64 p,.int .i64 b] 103) = w1 at *
  go_wp2_with fail
  refine HK.out.mono ?_
  rintro e w2 ⟨rfl,hx2,h2'⟩
  have he : errV 1 = .iface 128 (.int .i64 1):=rfl
  rw [he]
  go_wp2_with fail
  go_ret2
  exact ⟨rfl,hxa.trans hx2,lg h2'⟩
 ·have e : Ai c p b = 0:=zq h
  have hck:=AQ c p b _ _ ha
  rw [e,zt rfl]
  rw [e] at hck
  have HK:=zh hck
  clear hck e
  unfold lH at h
  unfold oF at HK
  unfold oF lM
  have h1 : 1 <= c:=by omega
  have h2 : c <= 32:=by omega
  have h3 : 0 <= p:=by omega
  have h4 : p <= 40:=by omega
  have h5 : -1 <= b:=by omega
  have h6 : b <= 4:=by omega
  clear h
  go_enter Tryz.func159,Tryz.ntmps159
  go_upto_region 1 with (fail)
  obtain ⟨cc,ff⟩:=la 0 ha rfl
  generalize w.heap.size = g at *
  generalize w.alloc (.cells #[.int .i64 c,.int .i64 p,.int .i64 b] 103) = w1 at *
  go_wp2_with fail
  refine HK.out.mono ?_
  rintro e w2 ⟨rfl,hx2,h2'⟩
  rw [lL]
  clear cc ff
  obtain ⟨cc,ff⟩:=la 0 h2' rfl
  go_wp2_with fail
  have h7:=yt 0 (n:=5) (cap:=5) (sz:=1) (xs:=byteCells [83,89,c,p,b + 1]) (lf h2' (.cells #[.int .u8 83,.int .u8 89,.int .u8 c,.int .u8 p,.int .u8 (b + 1)] 5)) rfl (by decide) (by simp [maxLen]) rfl rfl
  refine (Gw _ [83,89,c,p,b + 1] 5 rfl (by decide) (by decide) _ _ h7).mono ?_
  rintro e w3 ⟨rfl,hx3,h3'⟩
  go_wp2_with fail
  go_ret2
  exact ⟨rfl,((hxa.trans hx2).alloc _).trans hx3,lg h3'⟩
def bt (s : ByteArray) (i : Nat) : Int:=((s.data.toList.getD i 0).toNat : Int)
def Jp (s : ByteArray) : Prop:=lH (bt s 2) (bt s 3) (bt s 4 - 1) \/ lM (bt s 2) (bt s 3) (bt s 4 - 1)≠s
instance (s : ByteArray) : Decidable (Jp s):=by unfold Jp; infer_instance
end Go.Proofs.YtbpblokfiajpjabGreatDoor
