/- Lemmas on which YardOpens stands: the texts Dev5 Dev6 RDev Strs Crc Sum Shape Shape2 Shape3 Shape4. No conditions. -/
import Derived.Test.YtbpblokfiajpjabGreatDoorPk7bc527bcc5
import Derived.Test.YtbpblokfiajpjabGreatDoorProg
import Derived.Lib.Join
import Derived.Deep.RegionLaw
import Derived.Laws.Strings2
import Derived.Laws.BytesArg
import Derived.Laws.OwnMore
import Derived.Deep.DrawnRows
import Derived.Laws.ResultCell
set_option linter.all false
set_option maxRecDepth 1000000
set_option maxHeartbeats 32000000
namespace Go.SL
open Go.RowKit
theorem Qu {w : World} {L : List HP} (k : Nat) {e : TypeId} {sz g n cap : Nat} {xs : List Value} (H : own w L) (hk : L[k]? = some (row e sz (.slice (some ⟨g,0,none⟩) n cap) n xs)) : g < w.heap.size:=by
 obtain ⟨hl,⟨h1,h2⟩ | ⟨g',cap',cur,h1,h2,h3,h4,h5,h6⟩⟩:=Dk k H hk
 ·cases h1
 ·simp only [Value.slice.injEq,Option.some.injEq,Addr.mk.injEq,and_true,true_and] at h1
  obtain ⟨rfl,rfl⟩:=h1
  have hkl : k < L.length:=(List.getElem?_eq_some_iff.1 hk).1
  exact Wd k (b:=g) (o:=.cells cur e (0,0)) h6 (by simp [hkl])
end Go.SL
namespace Go.Proofs.YtbpblokfiajpjabGreatDoor
open Go.RowKit Go.SL
def catL (l : List ByteArray) : List UInt8:=l.flatMap fun s=>s.data.toList
def cat (l : List ByteArray) : ByteArray:=⟨(catL l).toArray⟩
theorem Nb (l : List ByteArray) : Lib.join (l.map (·.data.toList)) [] = catL l:=by
 have h : ∀m : List (List UInt8),([] : List UInt8).intercalate m = m.flatten:=fun m=>by
  induction m with
  | nil=>rfl
  | cons x m ih=>
   cases m with
   | nil=>simp [List.intercalate]
   | cons y m=>
    simp only [List.intercalate,List.intersperse,List.flatten_cons,List.nil_append] at ih ⊢
    rw [ih]
 rw [Lib.join,h,catL,List.flatMap]
theorem BC {l : List ByteArray} {k : Nat} (h : ∀s∈l,s.size = k) : (catL l).length = l.length * k:=by
 induction l with
 | nil=>simp [catL]
 | cons x l ih=>
  have h1:=ih fun s hs=>h s (by simp [hs])
  have h2:=h x (by simp)
  have h3 : x.data.toList.length = k:=by rw [<- h2]; rfl
  simp only [catL,List.flatMap_cons,List.length_append,List.length_cons,Nat.add_mul,h3] at h1 ⊢
  omega
theorem SM (b : Nat) (m : DevM) (hm : m.Ok) (R : List SL.HP) (w : World) (H : own w (ll b m::R)) :
  Calls Tryz.prog 215 #[.pointer (some ⟨b,0,none⟩)] w fun e w'=>e = .returned (.string (cat m.fl)) /\ Ext w w' /\ own w' (ll b m::R):=by
 obtain ⟨vf,vp,h⟩:=A5 H
 have hl1:=hm.n
 have hcl:=BC hm.fl
 obtain ⟨af,gf,cf,rfl,f1,f2,f3,-,-,f6,-⟩:=lk 1 h rfl
 obtain ⟨c,f⟩:=ld 0 h rfl
 by_cases h0 : m.fl.length = 0
 ·have e0 : cat m.fl = ⟨#[]⟩:=by rw [List.eq_nil_of_length_eq_zero h0]; rfl
  rw [e0]
  rw [h0] at c
  clear f3 f6
  go_enter Tryz.func215,Tryz.ntmps215
  go_wp2_with fail
  refine (Tryz.strings_Join_none _ _ _ w).mono ?_
  rintro e w1 ⟨rfl,rfl⟩
  go_wp2_with fail
  go_ret
  exact ⟨rfl,Ext.refl _,H⟩
 ·obtain rfl:=f3 (by omega)
  have hlt:=Qu 1 h rfl
  have hJ:=Tryz.strings_Join gf 0 cf m.fl ⟨#[]⟩ w (fun j x hx=>by rw [Nat.zero_add]; exact f6 j _ (by simp [strCells,hx])) hlt (by omega) f1 (by simp only [List.toList_toArray]; rw [Nb]; omega)
  rw [show (⟨#[]⟩ : ByteArray).data.toList = [] from rfl,Nb] at hJ
  have HJ:=zh hJ
  clear f3 f6 hJ
  go_enter Tryz.func215,Tryz.ntmps215
  go_wp2_with fail
  refine HJ.out.mono ?_
  rintro e w1 ⟨rfl,hb⟩
  go_wp2_with fail
  go_ret
  exact ⟨rfl,EX hb,EW H hb⟩
theorem Gg (b : Nat) (m : DevM) (hm : m.Ok) (R : List SL.HP) (w : World) (H : own w (ll b m::R)) :
  Calls Tryz.prog 94 #[.pointer (some ⟨b,0,none⟩)] w fun e w'=>∃c,e = .returned (.pointer (some ⟨c,0,none⟩)) /\ Ext w w' /\ own w' (ll c m::ll b m::R):=by
 obtain ⟨vf,vp,h⟩:=A5 H
 have hl1:=hm.n
 have hl2:=hm.p
 obtain ⟨ap,gp,cp,rfl,p1,p2,p3,-,-,-,-⟩:=lk 2 h rfl
 obtain ⟨af,gf,cf,rfl,f1,f2,f3,-,-,-,-⟩:=lk 1 h rfl
 obtain ⟨c,f⟩:=ld 0 h rfl
 have hml : 0 + m.fl.length <= maxLen:=by simp only [maxLen]; omega
 have hnl : (strCells m.fl).length = m.fl.length * 1:=by simp [strCells]
 have hml2 : 0 + m.pend.length <= maxLen:=by simp only [maxLen]; omega
 go_enter Tryz.func94,Tryz.ntmps94
 go_upto_region 2 with (fail)
 have h1:=li h (.cells #[.slice af m.fl.length cf,.slice ap m.pend.length cp,.int .i64 m.fail,.int .i64 m.writes] 214)
 have hx1:=(Ext.refl w).alloc (.cells #[.slice af m.fl.length cf,.slice ap m.pend.length cp,.int .i64 m.fail,.int .i64 m.writes] 214)
 clear c f h H
 generalize w.heap.size = cc at *
 generalize w.alloc (.cells #[.slice af m.fl.length cf,.slice ap m.pend.length cp,.int .i64 m.fail,.int .i64 m.writes] 214) = w1 at *
 obtain ⟨c0,f0⟩:=ld 0 h1 rfl
 obtain ⟨c1,f1'⟩:=ld 1 h1 rfl
 obtain ⟨n1,n2⟩:=GX 2 h1 rfl
 go_wp2_with (first | (at_builtin; refine lE rfl _ _ 51 rfl 0 9 Tryz.underlying51 BB rfl (by decide) rfl (lv 9 1 h1) rfl af m.fl.length cf (strCells m.fl) rfl hnl n1 n2 NA hml (by omega) ?_))
 clear n1 n2 c0 f0 c1 f1'
 intro v2 w2 h2 hx2
 obtain ⟨a2,g2,c2,rfl,q1,q2,q3,-,-,-,-⟩:=lk 0 h2 rfl
 try simp only [Nat.zero_add,List.nil_append,List.set_cons_zero] at h2
 try simp only [Nat.zero_add] at q1
 try simp only [Nat.zero_add] at q3
 obtain ⟨c0,f0⟩:=ld 1 h2 rfl
 obtain ⟨c1,f1'⟩:=ld 2 h2 rfl
 go_upto_region 3 with (fail)
 have h3:=lg (i:=0) (v:=.slice a2 m.fl.length c2) 1 h2 rfl
 have hx3:=(hx1.trans hx2).setCell ⟨cc,0,none⟩ (.slice a2 m.fl.length c2)
 clear c0 f0 c1 f1' hx1 hx2 h1 h2
 generalize w2.setCell ⟨cc,0,none⟩ (.slice a2 m.fl.length c2) = w3 at *
 obtain ⟨c0,f0⟩:=ld 1 h3 rfl
 obtain ⟨c1,f1'⟩:=ld 2 h3 rfl
 obtain ⟨n1,n2⟩:=GX 4 h3 rfl
 go_wp2_with (first | (at_builtin; refine lE rfl _ _ 212 rfl 0 245 Tryz.underlying212 J8 rfl (by decide) rfl (lv 245 2 h3) rfl ap m.pend.length cp (yg m.pend) rfl (L2 _) n1 n2 L3 hml2 (by omega) ?_))
 clear n1 n2 c0 f0 c1 f1'
 intro v4 w4 h4 hx4
 obtain ⟨a4,g4,c4,rfl,q4,q5,q6,-,-,-,-⟩:=lk 0 h4 rfl
 try simp only [Nat.zero_add,List.nil_append,List.set_cons_zero] at h4
 try simp only [Nat.zero_add] at q4
 try simp only [Nat.zero_add] at q6
 obtain ⟨c0,f0⟩:=ld 2 h4 rfl
 go_wp2_with fail
 go_ret
 refine ⟨cc,rfl,(hx3.trans hx4).setCell _ _,?_⟩
 have h5:=lg (i:=1) (v:=.slice a4 m.pend.length c4) 2 h4 rfl
 have h6:=lu [_] (lu [_,_] h5)
 exact lu [_] (AP (lu [_,_,_] (AP h6)))
def yW : ByteArray:=⟨#[0,0,0,0,0,0,0,0,0,0,0,0,0,0,0,0]⟩
def ow (n : Nat) : DevM:={ fl:=List.replicate n yW,pend:=[],fail:=-1,writes:=0 }
theorem Cx {n : Nat} (h : n <= 200) : (ow n).Ok:=
 ⟨by simp [ow]; exact h,fun s hs=>by rw [(List.mem_replicate.1 hs).2]; rfl,by simp [ow],fun x hx=>by simp [ow] at hx,by simp [ow],by simp [ow]⟩
theorem WV : (⟨(Lib.repeatL (⟨#[0]⟩ : ByteArray).data.toList 16).toArray⟩ : ByteArray) = yW:=rfl
def CT (n : Int) : Bool:=decide (1 <= n /\ n <= 200)
theorem QX (n : Int) (w : World) (h : CT n = false) : Calls Tryz.prog 61 #[.int .i64 n] w fun e w'=>e = .returned (.tuple #[.pointer none,errV 1]) /\ w = w':=by
 simp only [CT,decide_eq_false_iff_not] at h
 by_cases h1 : n < 1
 ·go_enter Tryz.func61,Tryz.ntmps61
  go_wp2_with fail
  all_goals go_ret2
  all_goals exact ⟨rfl,rfl⟩
 ·go_enter Tryz.func61,Tryz.ntmps61
  go_wp2_with fail
  all_goals go_ret2
  all_goals exact ⟨rfl,rfl⟩
theorem oy (w : World) (cs : List Value) (T : TypeId) : ∀ad,some (⟨w.heap.size,0,none⟩ : Addr) = some ad -> ∀j u,cs[j]? = some u -> (w.alloc (.cells cs.toArray T)).cell? (ad.add j) = some u:=fun ad had j u hu=>by
 obtain rfl:=Option.some.inj had
 rw [add_none,Nat.zero_add]
 have h:=li (IV w) (.cells cs.toArray T)
 rw [(ld 0 h rfl).1]
 simpa using hu
theorem KQ (s : ByteArray) : ∀u∈[Value.string s],u.oneCell' = true:=fun u hu=>by simp at hu; subst hu; rfl
theorem Sr (w : World) : Calls Tryz.prog 154 #[.string ⟨#[0]⟩,.int .i64 16] w fun e w'=>e = .returned (.string yW) /\ Below w.heap.size w w':=
 (Tryz.strings_Repeat ⟨#[0]⟩ 16 w (by decide) (by decide)).mono fun _ _ h=>⟨by rw [h.1,WV],h.2⟩
def V8 (b : Nat) (n : Nat) (R : List SL.HP) (w0 : World) (i : Value) (wr : World) : Prop:=
 ∃q : Nat,q <= n /\ i = .int .i64 q /\ Ext w0 wr /\ ∃ao g cap,q <= cap /\ cap <= maxLen /\ own wr (pts b (.cells #[.slice ao q cap,.slice none 0 0,.int .i64 (-1),.int .i64 0] 214 (0,0))::row 9 1 (.slice ao q cap) q (strCells (List.replicate q yW))::R) /\ (0 < q -> ao = some ⟨g,0,none⟩)
theorem Fi (n : Nat) (R : List SL.HP) (w : World) (h : CT n = true) (H : own w R) : Calls Tryz.prog 61 #[.int .i64 n] w fun e w'=>∃b,e = .returned (.tuple #[.pointer (some ⟨b,0,none⟩),.nilIface]) /\ Ext w w' /\ own w' (ll b (ow n)::R):=by
 simp only [CT,decide_eq_true_eq] at h
 obtain ⟨n1,n2⟩:=h
 go_enter Tryz.func61,Tryz.ntmps61
 go_upto_region 4 with (fail)
 have ha:=li H (.cells #[.slice none 0 0,.slice none 0 0,.int .i64 (-1),.int .i64 0] 214)
 have hx1:=(Ext.refl w).alloc (.cells #[.slice none 0 0,.slice none 0 0,.int .i64 (-1),.int .i64 0] 214)
 generalize w.heap.size = b at *
 generalize w.alloc (.cells #[.slice none 0 0,.slice none 0 0,.int .i64 (-1),.int .i64 0] 214) = w1 at *
 have h1:=lu [_] (lv 9 1 ha)
 clear ha
 go_wp2_with fail
 go_loopw [15] (V8 b n R w) (fun i _=>n - (intOf i).toNat)
 case atStart=>exact ⟨0,Nat.zero_le _,rfl,hx1,none,0,0,Nat.le_refl _,by simp [maxLen],h1,fun h=>absurd h (by simp)⟩
 case round=>
  clear h1 hx1
  obtain ⟨q,hq,rfl,hxr,ao,g,cap,q1,q2,hown,q3⟩:=hrel
  by_cases hlt : q < n
  ·have hml : q + 1 <= maxLen:=by simp only [maxLen]; omega
   clear q3
   go_upto_region 6 with (fail)
   obtain ⟨c,f⟩:=ld 0 (lj hown) rfl
   go_region_law (first | (refine BI (by rfl) _ _ 51 (by rfl) 2 9 Tryz.underlying51 BB rfl (by decide) (by rfl) (li h2 _) rfl (some ⟨w2.heap.size,0,none⟩) 1 1 [.string yW] (by rfl) rfl (oy w2 [.string yW] _) (fun h=>by cases h) (KQ _) hml (by omega) ?_; intro v4 w4 h4 hx4; obtain ⟨a4,g4,c4,rfl,s1,s2,s3,-,-,-,-⟩:=lk 2 h4 rfl; obtain rfl:=s3 (by omega); obtain ⟨cc,ff⟩:=ld 1 h4 rfl) | (go_simp; go_at_call 154; refine (Sr _).mono ?_; rintro e w2 ⟨rfl,hb2⟩; have h2:=EW (lj hown) hb2; obtain ⟨c2,f2⟩:=ld 0 h2 rfl; have h2a:=li h2 (.cells #[.string yW] 9); obtain ⟨c3,f3⟩:=ld 1 h2a rfl))
   all_goals
    go_wp2_with fail
    go_roundw
    case rel=>
     have h5:=lg (i:=0) (v:=.slice (some ⟨g4,0,none⟩) (q + 1) c4) 1 h4 rfl
     refine ⟨q + 1,by omega,by go_num,?_,_,g4,c4,s1,s2,?_,fun _=>rfl⟩
     ·exact (((hxr.drew.trans (EX hb2)).alloc _).trans hx4).setCell _ _
     ·have h6:=le h5
      have e : strCells (List.replicate (q + 1) yW) = strCells (List.replicate q yW)++[.string yW]:=by simp [strCells,List.replicate_succ']
      rw [e]
      exact h6
    case measure=>simp [intOf]; omega
  ·have hq' : q = n:=by omega
   subst hq'
   clear q3
   go_wp2_with fail
   go_ret2
   refine ⟨b,rfl,hxr,AP (m:=ow q) (vf:=.slice ao q cap) (vp:=.slice none 0 0) ?_⟩
   have h5:=lu [_,_] (lv 245 2 hown)
   simp only [ow,List.length_replicate]
   exact h5
end Go.Proofs.YtbpblokfiajpjabGreatDoor
namespace Go.Proofs.YtbpblokfiajpjabGreatDoor
open Go.RowKit Go.SL
def ol (s : ByteArray) (i : Nat) : ByteArray:=s.extract (i * 16) ((i + 1) * 16)
def AY (s : ByteArray) (n q : Nat) : List ByteArray:=(List.range n).map fun i=>if i < q then ol s i else yW
theorem JX (s : ByteArray) (n : Nat) : AY s n 0 = List.replicate n yW:=by
 simp [AY,List.map_const']
theorem C2 (s : ByteArray) (n q : Nat) : (AY s n q).length = n:=by simp [AY]
theorem LR (s : ByteArray) (n q : Nat) : (AY s n q).set q (ol s q) = AY s n (q + 1):=by
 apply List.ext_getElem
 ·simp [AY]
 ·intro i h1 h2
  simp only [AY,List.getElem_set,List.getElem_map,List.getElem_range]
  by_cases h : q = i
  ·subst h; simp
  ·rw [if_neg h]
   by_cases h3 : i < q
   ·simp [h3,Nat.lt_succ_of_lt h3]
   ·rw [if_neg h3,if_neg (by omega)]
def Ka (s : ByteArray) : DevM:={ fl:=AY s (s.size / 16) (s.size / 16),pend:=[],fail:=-1,writes:=0 }
def ofOk (s : ByteArray) : Bool:=decide (s.size % 16 = 0 /\ 1 <= s.size /\ s.size <= 3200)
def WL (b : Nat) (s : ByteArray) (n : Nat) (R : List SL.HP) (w0 : World) (ao : Option Addr) (cap : Nat) (vp : Value) (i : Value) (wr : World) : Prop:=
 ∃q : Nat,q <= n /\ i = .int .i64 q /\ Ext w0 wr /\ own wr (pts b (.cells #[.slice ao n cap,vp,.int .i64 (-1),.int .i64 0] 214 (0,0))::row 9 1 (.slice ao n cap) n (strCells (AY s n q))::row 245 2 vp 0 []::R)
theorem Wf (n : Nat) : ((n : Int)).tmod 16 = ((n % 16 : Nat) : Int):=by
 rw [Int.tmod_eq_emod_of_nonneg (by omega)]; omega
theorem VN (s : ByteArray) (hs : s.size <= 100000) (R : List SL.HP) (w : World) (H : own w R) : Calls Tryz.prog 93 #[.string s] w fun e w'=>
  (ofOk s = false -> e = .returned (.tuple #[.pointer none,errV 1]) /\ w' = w) /\ (ofOk s = true -> ∃b,e = .returned (.tuple #[.pointer (some ⟨b,0,none⟩),.nilIface]) /\ Ext w w' /\ own w' (ll b (Ka s)::R)):=by
 have ht:=Wf s.size
 by_cases hm : s.size % 16 = 0
 ·rw [hm] at ht
  have hdiv : IntKind.i64.wrap ((s.size : Int) / 16) = ((s.size / 16 : Nat) : Int):=by rw [IntWalk.i64_in _ (by omega)]; omega
  by_cases hok : CT ((s.size / 16 : Nat) : Int) = true
  ·have hok':=hok
   simp only [CT,decide_eq_true_eq] at hok'
   obtain ⟨o1,o2⟩:=hok'
   have hO : ofOk s = true:=by simp only [ofOk,decide_eq_true_eq]; omega
   simp only [hO,Bool.true_eq_false,false_implies,true_implies,true_and]
   go_enter Tryz.func93,Tryz.ntmps93
   go_wp2_with fail
   refine (Fi (s.size / 16) R w hok H).mono ?_
   rintro e w1 ⟨b,rfl,hx1,h1⟩
   obtain ⟨vf,vp,h1⟩:=A5 h1
   obtain ⟨ao,g,cap,rfl,r1,r2,r3,-,-,-,-⟩:=lk 1 h1 rfl
   simp only [ow,List.length_replicate] at h1 r1 r3
   simp only [List.length_nil,yg,List.flatMap_nil] at h1
   have h2:=h1
   rw [<- JX s] at h2
   clear h1 H ht hm hO hok
   have hsz : s.size / 16 * 16 <= s.size:=by omega
   generalize hn : s.size / 16 = n at *
   have HN:=zh hn
   clear hn
   obtain ⟨c,f⟩:=ld 0 h2 rfl
   obtain rfl:=r3 (by omega)
   go_wp2_with fail
   go_loopw [27] (WL b s n R w (some ⟨g,0,none⟩) cap vp) (fun i _=>n - (intOf i).toNat)
   case atStart=>exact ⟨0,Nat.zero_le _,rfl,hx1,h2⟩
   case round=>
    clear c f h2 hx1 r3
    obtain ⟨q,hq,rfl,hxr,hown⟩:=hrel
    by_cases hlt : q < n
    ·obtain ⟨c,f⟩:=ld 0 hown rfl
     obtain ⟨k2,k3⟩:=lJ 1 hown rfl
     have c2:=k2 q _ (AE (by rw [C2]; exact hlt))
     clear k2
     have e1 : IntKind.i64.wrap ((q : Int) * 16) = (q : Int) * 16:=IntWalk.i64_in _ (by omega)
     have e2 : IntKind.i64.wrap ((q : Int) + 1) = (q : Int) + 1:=IntWalk.i64_in _ (by omega)
     have e3 : IntKind.i64.wrap (((q : Int) + 1) * 16) = ((q : Int) + 1) * 16:=IntWalk.i64_in _ (by omega)
     have b1 : (0 : Int) <= (q : Int) * 16:=by omega
     have b2 : (q : Int) * 16 <= ((q : Int) + 1) * 16:=by omega
     have b3 : ((q : Int) + 1) * 16 <= (s.size : Int):=by omega
     have hsl : ∀wx : World,(Instr.slice 9 (.string s) (some (.int .i64 ((q : Int) * 16))) (some (.int .i64 (((q : Int) + 1) * 16))) none).run Tryz.prog wx = .ok (.string (ol s q)) wx:=fun wx=>by
      have:=run_slice_string (P:=Tryz.prog) wx 9 s .i64 .i64 ((q : Int) * 16) (((q : Int) + 1) * 16) Tryz.underlying9 b1 b2 b3
      rw [this,ol,show ((q : Int) * 16).toNat = q * 16 from by omega,show (((q : Int) + 1) * 16).toNat = (q + 1) * 16 from by omega]
     go_upto_region 9 with (fail)
     go_still_tail 12,(by kernel_rfl)
     change wpList _ _ _ _ _ wr.drew
     go_wp2_with fail
     go_roundw
     case rel=>
      have h5:=Au 1 q (.string (ol s q)) (lj hown) rfl (by omega)
      refine ⟨q + 1,by omega,by go_num,hxr.drew.setCell _ _,?_⟩
      rw [<- LR,CX]
      exact h5
     case measure=>simp [intOf]; omega
    ·have hq' : q = n:=by omega
     subst hq'
     go_wp2_with fail
     go_ret2
     refine ⟨b,rfl,hxr,AP (m:=Ka s) (vf:=.slice (some ⟨g,0,none⟩) q cap) (vp:=vp) ?_⟩
     simp only [Ka,HN.out,C2]
     exact hown
  ·have hok' : CT ((s.size / 16 : Nat) : Int) = false:=by simpa using hok
   have hO : ofOk s = false:=by
    simp only [CT,decide_eq_false_iff_not] at hok'
    simp only [ofOk,decide_eq_false_iff_not]; omega
   simp only [hO,Bool.false_eq_true,false_implies,true_implies,and_true]
   go_enter Tryz.func93,Tryz.ntmps93
   go_wp2_with fail
   refine (QX _ w hok').mono ?_
   rintro e w1 ⟨rfl,rfl⟩
   have he : errV 1 = .iface 128 (.int .i64 1):=rfl
   rw [he]
   go_wp2_with fail
   all_goals go_ret2
   all_goals exact ⟨rfl,rfl⟩
 ·have hO : ofOk s = false:=by simp only [ofOk,decide_eq_false_iff_not]; omega
  simp only [hO,Bool.false_eq_true,false_implies,true_implies,and_true]
  go_enter Tryz.func93,Tryz.ntmps93
  have hp : ((0 : Int) < ((s.size % 16 : Nat) : Int)):=by omega
  go_wp2_with fail
  go_ret2
  exact ⟨rfl,rfl⟩
def zs (n : Nat) : ByteArray:=⟨(List.replicate n 0).toArray⟩
theorem En (n : Nat) : (zs n).size = n:=by simp [zs,ByteArray.size]
theorem Bk : Elem Tryz.prog 5 1 1 (.int .u8 0):=by unfold Elem; kernel_rfl
theorem BV : Elem Tryz.prog 3 1 8 (.int .i64 0):=by unfold Elem; kernel_rfl
theorem A0 (n : Nat) (hn : n <= 1000000) (R : List SL.HP) (w : World) (H : own w R) : Calls Tryz.prog 92 #[.int .i64 n] w fun e w'=>e = .returned (.string (zs n)) /\ Ext w w' /\ own w' R:=by
 go_enter Tryz.func92,Tryz.ntmps92
 have hml : n <= maxLen:=by simp only [maxLen]; omega
 go_wp2_with (first | (refine CJ rfl _ _ 211 rfl 5 Tryz.underlying211 Bk rfl .i64 .i64 n rfl rfl (by omega) hml H ?_))
 intro w1 h1 hx1
 obtain ⟨k2,-⟩:=lJ 0 h1 rfl
 have hcv : ∀i,i < n -> w1.cell? ⟨w.heap.size,0 + i,none⟩ = some (.int .u8 ((List.replicate n (0 : Int)).getD i 0)):=fun i hi=>by
  rw [Nat.zero_add]
  refine k2 i _ ?_
  try simp only [Nat.mul_one]
  try rw [show (Value.int IntKind.u8 0).cells = #[.int .u8 0] from rfl]
  rw [toList_madeCells_one]
  simp [hi]
 have hconv:=run_convert_bytes_arg (P:=Tryz.prog) w1 211 5 Tryz.underlying211 Tryz.underlying5 w.heap.size 0 n n (List.replicate n (0 : Int)) (by simp) hcv 9 Tryz.underlying9
 have hz : strOfNums (List.replicate n (0 : Int)) = zs n:=by
  unfold strOfNums zs
  simp
 rw [hz] at hconv
 clear hz hcv k2
 go_wp2_with fail
 go_ret
 exact ⟨rfl,hx1,le h1⟩
def AC (l : List (Int×ByteArray)) : List Value:=l.map fun x=>.int .i64 x.1
def zW (l : List (Int×ByteArray)) : List Value:=l.map fun x=>.string x.2
theorem G6 {l : List (Int×ByteArray)} {i : Nat} (h : i < l.length) : (AC l)[i]? = some (.int .i64 (l.getD i (0,ByteArray.empty)).1):=by simp [AC,h]
theorem GG {l : List (Int×ByteArray)} {i : Nat} (h : i < l.length) : (zW l)[i]? = some (.string (l.getD i (0,ByteArray.empty)).2):=by simp [zW,h]
theorem Fs (k : Int) : ∀u∈[Value.int .i64 k],u.oneCell' = true:=fun u hu=>by simp at hu; subst hu; rfl
def lo (b : Nat) (m : DevM) : HP:=exi fun v : Value×Value×Value=>star [pts b (.cells #[v.1,v.2.1,v.2.2,.int .i64 m.fail,.int .i64 m.writes] 162 (0,0)),row 9 1 v.1 m.fl.length (strCells m.fl),row 3 1 v.2.1 m.pend.length (AC m.pend),row 9 1 v.2.2 m.pend.length (zW m.pend)]
theorem As {w : World} {b : Nat} {m : DevM} {R : List HP} (H : own w (lo b m::R)) : ∃vf va vw,own w (pts b (.cells #[vf,va,vw,.int .i64 m.fail,.int .i64 m.writes] 162 (0,0))::row 9 1 vf m.fl.length (strCells m.fl)::row 3 1 va m.pend.length (AC m.pend)::row 9 1 vw m.pend.length (zW m.pend)::R):=by
 obtain ⟨v,h⟩:=ER 0 (L:=fun v : Value×Value×Value=>[pts b (.cells #[v.1,v.2.1,v.2.2,.int .i64 m.fail,.int .i64 m.writes] 162 (0,0)),row 9 1 v.1 m.fl.length (strCells m.fl),row 3 1 v.2.1 m.pend.length (AC m.pend),row 9 1 v.2.2 m.pend.length (zW m.pend)]) H rfl fun h hh=>hh
 exact ⟨v.1,v.2.1,v.2.2,h⟩
theorem yK {w : World} {b : Nat} {m : DevM} {R : List HP} {vf va vw : Value} (H : own w (pts b (.cells #[vf,va,vw,.int .i64 m.fail,.int .i64 m.writes] 162 (0,0))::row 9 1 vf m.fl.length (strCells m.fl)::row 3 1 va m.pend.length (AC m.pend)::row 9 1 vw m.pend.length (zW m.pend)::R)) : own w (lo b m::R):=
 DJ [pts b (.cells #[vf,va,vw,.int .i64 m.fail,.int .i64 m.writes] 162 (0,0)),row 9 1 vf m.fl.length (strCells m.fl),row 3 1 va m.pend.length (AC m.pend),row 9 1 vw m.pend.length (zW m.pend)] (fun h hh=>⟨(vf,va,vw),hh⟩) H
theorem DH (b : Nat) (m : DevM) (hm : m.Ok) (n : Int) (h1 : 0 <= n) (h2 : n < m.fl.length) (R : List SL.HP) (w : World) (H : own w (lo b m::R)) :
  Calls Tryz.prog 101 #[.pointer (some ⟨b,0,none⟩),.int .i64 n] w fun e w'=>e = .returned (.string (m.seen n)) /\ w = w':=by
 obtain ⟨vf,va,vw,h⟩:=As H
 have hl1:=hm.n
 have hl2:=hm.p
 obtain ⟨k,rfl⟩:=ze h1
 obtain ⟨af,gf,cf,rfl,f1,f2,f3,-,-,f6,-⟩:=lk 1 h rfl
 obtain ⟨aa,ga,ca,rfl,a1,a2,a3,-,-,a6,-⟩:=lk 2 h rfl
 obtain ⟨aw,gw,cw,rfl,w1,w2,w3,-,-,w6,-⟩:=lk 3 h rfl
 obtain ⟨c,f⟩:=ld 0 h rfl
 have cl : w.cell? ⟨gf,k,none⟩ = some (.string (m.fl.getD k ByteArray.empty)):=f6 k _ (AE (by omega))
 have A6:=zh a6
 have W6:=zh w6
 have A3:=zh a3
 have W3:=zh w3
 obtain rfl:=f3 (by omega)
 clear f3 f6 a3 a6 w3 w6
 go_enter Tryz.func101,Tryz.ntmps101
 go_wp2_with fail
 go_loop [5,6] (fun s i=>∃q : Nat,q <= m.pend.length /\ i = .int .i64 q /\ s = .string ((m.pend.take q).foldl (fun s x=>if x.1 = (k : Int) then x.2 else s) (m.fl.getD k ByteArray.empty))) (fun s i=>m.pend.length - (intOf i).toNat)
 case atStart=>exact ⟨0,Nat.zero_le _,rfl,rfl⟩
 case round=>
  obtain ⟨q,hq,rfl,rfl⟩:=hrel
  by_cases hlt : q < m.pend.length
  ·obtain rfl:=A3.out (by omega)
   obtain rfl:=W3.out (by omega)
   have c1:=A6.out q _ (G6 hlt)
   have c2:=W6.out q _ (GG hlt)
   have hto:=zi (0,ByteArray.empty) hlt
   have HT:=zh hto
   clear hto
   generalize hx : m.pend.getD q (0,ByteArray.empty) = x at *
   clear hx
   generalize hg : (m.pend.take q).foldl (fun s x=>if x.1 = (k : Int) then x.2 else s) (m.fl.getD k ByteArray.empty) = t at *
   have HG:=zh hg
   clear hg
   by_cases he : x.1 = (k : Int)
   ·go_wp2_with fail
    go_round
    case rel=>exact ⟨q + 1,by omega,by go_num,by rw [HT.out,List.foldl_append,HG.out]; simp [he]⟩
    case measure=>simp [intOf]; omega
   ·go_wp2_with fail
    go_round
    case rel=>exact ⟨q + 1,by omega,by go_num,by rw [HT.out,List.foldl_append,HG.out]; simp [he]⟩
    case measure=>simp [intOf]; omega
  ·have hq' : q = m.pend.length:=by omega
   subst hq'
   rw [List.take_length]
   clear A6 W6
   go_wp2_with fail
   go_ret
   exact ⟨rfl,rfl⟩
theorem Pw (b : Nat) (m : DevM) (hm : m.Ok) (R : List SL.HP) (w : World) (H : own w (lo b m::R)) :
  Calls Tryz.prog 216 #[.pointer (some ⟨b,0,none⟩)] w fun e w'=>e = .returned (.string (cat m.fl)) /\ w = w':=by
 obtain ⟨vf,va,vw,h⟩:=As H
 have hl1:=hm.n
 obtain ⟨af,gf,cf,rfl,f1,f2,f3,-,-,f6,-⟩:=lk 1 h rfl
 obtain ⟨c,f⟩:=ld 0 h rfl
 have F6:=zh f6
 have F3:=zh f3
 clear f3 f6
 go_enter Tryz.func216,Tryz.ntmps216
 go_wp2_with fail
 go_loop [3,4] (fun s i=>∃q : Nat,q <= m.fl.length /\ i = .int .i64 q /\ s = .string (cat (m.fl.take q))) (fun s i=>m.fl.length - (intOf i).toNat)
 case atStart=>exact ⟨0,Nat.zero_le _,rfl,rfl⟩
 case round=>
  obtain ⟨q,hq,rfl,rfl⟩:=hrel
  by_cases hlt : q < m.fl.length
  ·obtain rfl:=F3.out (by omega)
   have c1:=F6.out q _ (AE hlt)
   have hto:=zi ByteArray.empty hlt
   have hsz : (cat (m.fl.take q)).size = q * 16:=by
    have:=BC (l:=m.fl.take q) fun s hs=>hm.fl s (List.mem_of_mem_take hs)
    rw [List.length_take,Nat.min_eq_left (by omega)] at this
    simpa [cat,ByteArray.size] using this
   have hmem:=hm.fl (m.fl.getD q ByteArray.empty) (by simp [hlt])
   have hcat : cat (m.fl.take (q + 1)) = cat (m.fl.take q)++m.fl.getD q ByteArray.empty:=by
    rw [hto]
    apply Go.WideShapes.bytes_inj
    simp [cat,catL]
   have HC:=zh hcat
   clear hto hcat
   generalize m.fl.getD q ByteArray.empty = x at *
   generalize cat (m.fl.take q) = t at *
   go_wp2_with fail
   go_round
   case rel=>exact ⟨q + 1,by omega,by go_num,by rw [HC.out]⟩
   case measure=>simp [intOf]; omega
  ·have hq' : q = m.fl.length:=by omega
   subst hq'
   rw [List.take_length]
   clear F6
   go_wp2_with fail
   go_ret
   exact ⟨rfl,rfl⟩
end Go.Proofs.YtbpblokfiajpjabGreatDoor
namespace Go.Proofs.YtbpblokfiajpjabGreatDoor
open Go.RowKit Go.SL Go.Deep Go.ChangeShapes Go.WideShapes
theorem SlAt.later {v : Value} {n : Nat} {p q : Nat -> Nat -> Nat -> Prop} (h : SlAt v n p) (hpq : ∀b o i,p b o i -> q b o i) : SlAt v n q:=by
 obtain ⟨ao,b,off,cap,hv,h1,h2,h3,h4⟩:=h
 exact ⟨ao,b,off,cap,hv,h1,h2,h3,fun i hi=>hpq _ _ _ (h4 i hi)⟩
theorem El.later {w w' : World} {v : Value} {ks : List Bool} (h : El w v ks) {l : List HP} (k : Nat) (H : own w' l) (hk : l[k]? = some (yy w)) : El w' v ks:=
 SlAt.later h fun _ _ _ h=>yF k H hk h
theorem Cr.later {w w' : World} {b o : Nat} {a : Act} (h : Cr w b o a) {l : List HP} (k : Nat) (H : own w' l) (hk : l[k]? = some (yy w)) : Cr w' b o a:=by
 obtain ⟨h0,h1,h2,h3,h4,h5,h6⟩:=h
 exact ⟨yF k H hk h0,yF k H hk h1,yF k H hk h2,yF k H hk h3,yF k H hk h4,yF k H hk h5,yF k H hk h6⟩
theorem CR.later {w w' : World} {v : Value} {l : List Act} (h : CR w v l) {L : List HP} (k : Nat) (H : own w' L) (hk : L[k]? = some (yy w)) : CR w' v l:=
 ⟨SlAt.later h.1 fun _ _ _ h=>Cr.later h k H hk,fun a ha=>{ h.2 a ha with keep:=(h.2 a ha).keep.later k H hk }⟩
theorem CR.form {w : World} {v : Value} {l : List Act} (h : CR w v l) : ∃ao b off cap,v = .slice ao l.length cap /\ l.length <= 9223372036854775807 /\ (0 < l.length -> ao = some ⟨b,off,none⟩) /\
  ∀i,i < l.length -> Cr w b (off + i * 7) (l.getD i Di):=by
 obtain ⟨⟨ao,b,off,cap,hv,h1,h2,h3,h4⟩,_⟩:=h
 exact ⟨ao,b,off,cap,hv,by omega,h3,h4⟩
theorem Bo {a b : ByteArray} (h : a.toList = b.toList) : a = b:=by
 rw [ByteArray.toList_eq,ByteArray.toList_eq] at h
 exact bytes_inj h
def zx (w : World) (v : Value) (l : List ByteArray) : Prop:=
 SlAt v l.length (fun b off i=>w.cell? ⟨b,off + i,none⟩ = some (.string (l.getD i ByteArray.empty))) /\ ∀s∈l,s.size <= 9223372036854775807
theorem zx.later {w w' : World} {v : Value} {l : List ByteArray} (h : zx w v l) {L : List HP} (k : Nat) (H : own w' L) (hk : L[k]? = some (yy w)) : zx w' v l:=
 ⟨SlAt.later h.1 fun _ _ _ h=>yF k H hk h,h.2⟩
theorem zx.form {w : World} {v : Value} {l : List ByteArray} (h : zx w v l) : ∃ao b off cap,v = .slice ao l.length cap /\ l.length <= cap /\ cap <= 9223372036854775807 /\ (0 < l.length -> ao = some ⟨b,off,none⟩) /\
  ∀i,i < l.length -> w.cell? ⟨b,off + i,none⟩ = some (.string (l.getD i ByteArray.empty)):=by
 obtain ⟨⟨ao,b,off,cap,hv,h1,h2,h3,h4⟩,_⟩:=h
 exact ⟨ao,b,off,cap,hv,h1,h2,h3,h4⟩
section
variable {H : Type} {enc : TypeId×Value -> H} {w : World} {base : Nat} {spare : Nat -> Bool} {held : Bool}
theorem Q6 {fuel : Nat} {v : Value} {x : DataW H×List MemPlace} (h : DataW.trod enc Tryz.prog w base spare held fuel 51 [v] = some x) : ∃l,zx w v l:=by
 rcases open_slice Tryz.underlying51 h with ⟨hcs,_⟩ | ⟨a,len,cap,m,n,D,Pl,hcs,_,hl,hm,hmm,_,hi⟩
 ·simp only [List.cons.injEq,and_true] at hcs
  subst hcs
  exact ⟨[],⟨none,0,0,0,rfl,Nat.le_refl _,by omega,fun h=>absurd h (by simp),fun i h=>absurd h (by simp)⟩,by simp⟩
 ·simp only [List.cons.injEq,and_true] at hcs
  subst hcs
  have hC : Tryz.prog.cellsOf 9 = 1:=by kernel_rfl
  have hlm : len <= m:=by rw [hmm]; split <;> omega
  have hb : ∀i,i < len -> ∃b,w.cell? (a.add i) = some (.string b) /\ b.size <= maxLen:=fun i h=>by
   obtain ⟨cs',hc,ht⟩:=hi i (by omega)
   obtain ⟨b,rfl,_,hs⟩:=DataW.trod_string Tryz.underlying9 ht
   rw [hC] at hc
   obtain ⟨_,_,hat⟩:=World.cells?_some hc
   have:=hat 0 (by omega)
   rw [Deep.add_add] at this
   simp at this
   exact ⟨b,this,hs⟩
  obtain ⟨f,hf⟩:=Deep.choose_lt hb
  refine ⟨(List.range len).map f,⟨some a,a.block,a.off,cap,by simp,by simpa using hl,by simpa [maxLen] using hm,fun hlt=>?_,fun i hlt=>?_⟩,fun s hs=>?_⟩
  ·have h0:=(hf 0 (by simpa using hlt)).1
   have:=World.cell?_spot h0
   simp [Addr.add] at this
   obtain ⟨b,o,s⟩:=a
   simp_all
  ·have hi:=(hf i (by simpa using hlt)).1
   have h0:=(hf 0 (by simp at hlt; omega)).1
   have hs:=World.cell?_spot h0
   obtain ⟨b,o,s⟩:=a
   simp [Addr.add] at hs
   subst hs
   rw [add_none] at hi
   have h' : i < len:=by simpa using hlt
   simp [h',hi]
  ·simp at hs
   obtain ⟨i,hi,rfl⟩:=hs
   simpa [maxLen] using (hf i hi).2
end
def G3 (most : Int) (s : ByteArray) : Bool:=decide ((s.size : Int) <= most)
def fewB (l : List ByteArray) (most : Int) : Bool:=decide (l.length <= 20) && l.all (G3 most)
theorem Da {l : List ByteArray} {i : Nat} (hi : i < l.length) : l.getD i ByteArray.empty∈l:=by
 simp [hi]
theorem VH (v : Value) (l : List ByteArray) (most : Int) (w : World) (hv : zx w v l) :
  Calls Tryz.prog 25 #[v,.int .i64 most] w fun e w'=>e = .returned (.bool (fewB l most)) /\ w = w':=by
 obtain ⟨ao,b,off,cap,rfl,hc1,hc2,hao,hat⟩:=hv.form
 by_cases hm : l.length <= 20
 ·go_enter Tryz.func25,Tryz.ntmps25
  go_wp2
  go_loop [5] (fun i=>∃k : Nat,k <= l.length /\ i = .int .i64 k /\ ∀j,j < k -> G3 most (l.getD j ByteArray.empty) = true) (fun i=>l.length - (intOf i).toNat)
  case atStart=>exact ⟨0,Nat.zero_le _,rfl,fun j h=>absurd h (by omega)⟩
  case round=>
   obtain ⟨k,hk,rfl,hj⟩:=hrel
   by_cases hlt : k < l.length
   ·obtain rfl:=hao (by omega)
    have c5:=hat k hlt
    have hS:=hv.2 _ (Da hlt)
    have HJ:=zh hj
    clear hj hv hat hao
    generalize hx : l.getD k ByteArray.empty = x at *
    have HX:=zh hx
    clear hx
    by_cases h1 : (x.size : Int) <= most
    ·go_wp2
     go_round
     case rel=>exact ⟨k + 1,by omega,by go_num,fun j h=>by
      by_cases e : j = k
      ·subst e; rw [HX.out]; simp [G3,h1]
      ·exact HJ.out j (by omega)⟩
     case measure=>simp [intOf]; omega
    ·go_wp2
     go_ret
     refine ⟨oT ?_,rfl⟩
     symm
     unfold fewB
     rw [Bool.and_eq_false_iff]
     refine .inr (List.all_eq_false.2 ⟨_,Da hlt,?_⟩)
     rw [HX.out]; unfold G3; rw [decide_eq_false (by omega)]; simp
   ·have HJ:=zh hj
    clear hj
    go_wp2
    go_ret
    refine ⟨oT ?_,rfl⟩
    unfold fewB
    rw [eq_comm,Bool.and_eq_true]
    refine ⟨by simpa using hm,List.all_eq_true.2 fun x hx=>?_⟩
    obtain ⟨j,hj,rfl⟩:=List.getElem_of_mem hx
    have:=HJ.out j (by omega)
    simpa [hj] using this
 ·go_enter Tryz.func25,Tryz.ntmps25
  go_wp2
  go_ret
  exact ⟨oT (by rw [fewB,decide_eq_false (show ¬l.length <= 20 by omega)]; rfl),rfl⟩
end Go.Proofs.YtbpblokfiajpjabGreatDoor
namespace Go.Crc
def K : Nat:=3988292384
def st (s : Nat) : Nat:=if s % 2 = 1 then (s / 2) ^^^ K else s / 2
def stn : Nat -> Nat -> Nat
 | 0,s=>s
 | n + 1,s=>stn n (st s)
theorem TX (n : Nat) : ∀s,stn (n + 1) s = st (stn n s):=by
 induction n with
 | zero=>intro s; rfl
 | succ n ih=>intro s; rw [stn,ih]; rfl
def Ez (s b : Nat) : Nat:=stn 8 (s ^^^ b)
def Cv (s bit : Nat) : Nat:=if (s % 2) ^^^ bit = 1 then (s / 2) ^^^ K else s / 2
def crc (s : Nat) (l : List UInt8) : Nat:=l.foldl (fun s b=>Ez s b.toNat) s
def top : Nat:=4294967295
def B1 (l : List UInt8) : Nat:=crc top l ^^^ top
theorem M1 (a b : Nat) : (a ^^^ b) % 2 = (a % 2) ^^^ (b % 2):=by
 have h:=Nat.xor_mod_two_pow (a:=a) (b:=b) (n:=1)
 simpa using h
theorem MZ (a b : Nat) : (a ^^^ b) / 2 = (a / 2) ^^^ (b / 2):=by
 have h:=Nat.xor_div_two_pow (a:=a) (b:=b) (n:=1)
 simpa using h
theorem G9 {a b n : Nat} (ha : a < 2 ^ n) (hb : b < 2 ^ n) : a ^^^ b < 2 ^ n:=Nat.xor_lt_two_pow ha hb
theorem K_lt : K < 2 ^ 32:=by decide
theorem UV {s : Nat} (h : s < 2 ^ 32) : st s < 2 ^ 32:=by
 unfold st
 split
 ·exact G9 (by omega) K_lt
 ·omega
theorem Th (n : Nat) : ∀{s : Nat},s < 2 ^ 32 -> stn n s < 2 ^ 32:=by
 induction n with
 | zero=>intro s h; exact h
 | succ n ih=>intro s h; exact ih (UV h)
theorem N7 {s b : Nat} (h : s < 2 ^ 32) (hb : b < 256) : Ez s b < 2 ^ 32:=Th 8 (G9 h (by omega))
theorem Mp (l : List UInt8) : ∀{s : Nat},s < 2 ^ 32 -> crc s l < 2 ^ 32:=by
 induction l with
 | nil=>intro s h; exact h
 | cons b l ih=>intro s h; exact ih (N7 h b.toNat_lt)
theorem Gl (s : Nat) (l m : List UInt8) : crc s (l++m) = crc (crc s l) m:=by simp [crc]
theorem PO (s : Nat) : s % 2 = 0 \/ s % 2 = 1:=by omega
theorem Ku (s bit : Nat) (hb : bit < 2) : Cv s bit = st (s ^^^ bit):=by
 unfold Cv st
 rw [M1,MZ,Nat.mod_eq_of_lt hb,Nat.div_eq_of_lt hb,Nat.xor_zero]
theorem U6 (s y : Nat) : st (s ^^^ (2 * y)) = st s ^^^ y:=by
 unfold st
 rw [M1,MZ]
 simp only [Nat.mul_mod_right,Nat.xor_zero,Nat.mul_div_cancel_left y (show 0 < 2 by omega)]
 split
 ·rw [Nat.xor_assoc,Nat.xor_assoc,Nat.xor_comm y]
 ·rfl
theorem Wb (w : Nat) : (w % 2) ^^^ (2 * (w / 2)) = w:=by
 apply Nat.eq_of_testBit_eq
 intro i
 cases i with
 | zero=>simp [Nat.testBit_zero,Nat.testBit_xor]
 | succ i=>
  rw [Nat.testBit_xor,Nat.testBit_succ,Nat.testBit_succ,Nat.testBit_succ]
  simp
def run : Nat -> Nat -> Nat -> Nat
 | 0,s,_=>s
 | n + 1,s,w=>run n (Cv s (w % 2)) (w / 2)
theorem VS (n : Nat) : ∀(s w : Nat),w < 2 ^ n -> run n s w = stn n (s ^^^ w):=by
 induction n with
 | zero=>intro s w h; simp at h; subst h; simp [run,stn]
 | succ n ih=>
  intro s w h
  have h' : w / 2 < 2 ^ n:=by rw [Nat.pow_succ] at h; omega
  rw [run,ih _ _ h',Ku _ _ (by omega),stn,<- U6,Nat.xor_assoc,Wb]
def Ee (l : List UInt8) (i : Nat) : Nat:=((l.getD (i / 8) 0).toNat >>> (i % 8)) % 2
def bits (l : List UInt8) : Nat -> Nat -> Nat
 | 0,s=>s
 | k + 1,s=>Cv (bits l k s) (Ee l k)
theorem Tf (l : List UInt8) (q : Nat) : ∀(k : Nat) (s : Nat),k <= 8 -> ∀s0,bits l (8 * q) s = s0 -> bits l (8 * q + k) s = run k s0 ((l.getD q 0).toNat % 2 ^ k):=by
 intro k
 induction k with
 | zero=>intro s _ s0 h; simpa [run] using h
 | succ k ih=>
  intro s hk s0 h
  rw [<- Nat.add_assoc,bits,ih s (by omega) s0 h]
  have hb : Ee l (8 * q + k) = ((l.getD q 0).toNat >>> k) % 2:=by
   unfold Ee
   rw [show (8 * q + k) / 8 = q by omega,show (8 * q + k) % 8 = k by omega]
  rw [hb]
  generalize (l.getD q 0).toNat = b
  clear ih h hb
  induction k generalizing s0 b with
  | zero=>simp [run,Nat.mod_one]
  | succ k ih=>
   rw [run,run]
   have e1 : b % 2 ^ (k + 1) / 2 = (b / 2) % 2 ^ k:=by
    rw [Nat.pow_succ,Nat.mul_comm,Nat.mod_mul_right_div_self]
   have e2 : b % 2 ^ (k + 1 + 1) / 2 = (b / 2) % 2 ^ (k + 1):=by
    rw [Nat.pow_succ,Nat.mul_comm,Nat.mod_mul_right_div_self]
   have e3 : b % 2 ^ (k + 1) % 2 = b % 2:=Nat.mod_mod_of_dvd _ ⟨2 ^ k,by rw [Nat.pow_succ,Nat.mul_comm]⟩
   have e4 : b % 2 ^ (k + 1 + 1) % 2 = b % 2:=Nat.mod_mod_of_dvd _ ⟨2 ^ (k + 1),by rw [Nat.pow_succ _ (k+1),Nat.mul_comm]⟩
   have e5 : b >>> (k + 1) = (b / 2) >>> k:=by rw [Nat.add_comm,Nat.shiftRight_add]; rfl
   rw [e1,e2,e3,e4,e5]
   exact ih (by omega) _ (b / 2)
theorem UH (l : List UInt8) (s : Nat) : ∀q,q <= l.length -> bits l (8 * q) s = crc s (l.take q):=by
 intro q
 induction q with
 | zero=>intro _; rfl
 | succ q ih=>
  intro hq
  have h:=Tf l q 8 s (Nat.le_refl _) _ (ih (by omega))
  rw [show 8 * (q + 1) = 8 * q + 8 by omega,h,VS _ _ _ (Nat.mod_lt _ (by decide))]
  rw [List.take_succ_eq_append_getElem (by omega),Gl]
  have : (l.getD q 0) = l[q]'(by omega):=by simp [show q < l.length by omega]
  rw [this]
  simp only [crc,List.foldl_cons,List.foldl_nil,Ez]
  rw [Nat.mod_eq_of_lt (by have:=(l[q]'(by omega)).toNat_lt; omega)]
theorem Ul (l : List UInt8) (s : Nat) : bits l (8 * l.length) s = crc s l:=by
 rw [UH l s _ (Nat.le_refl _),List.take_length]
theorem Mn (l : List UInt8) (i : Nat) : Ee l i < 2:=by unfold Ee; omega
theorem Qt {s b : Nat} (h : s < 2 ^ 32) (hb : b < 2) : Cv s b < 2 ^ 32:=by
 rw [Ku _ _ hb]; exact UV (G9 h (by omega))
theorem UY (l : List UInt8) (k : Nat) {s : Nat} (h : s < 2 ^ 32) : bits l k s < 2 ^ 32:=by
 induction k with
 | zero=>exact h
 | succ k ih=>exact Qt ih (Mn l k)
end Go.Crc
namespace Go.Proofs.YtbpblokfiajpjabGreatDoor
open Go.RowKit Go.SL Go.Crc
theorem and1 (s : Nat) (h : s < 2 ^ 32) : bits .and .u32 (s : Int) 1 = ((s % 2 : Nat) : Int):=by
 have:=u32_and_nat s 1 (by omega) (by omega)
 rw [Nat.and_one_is_mod] at this
 exact this
theorem T3 (s b : Nat) (w : World) (hs : s < 2 ^ 32) (hb : b < 256) :
  Calls Tryz.prog 264 #[.int .u32 s,.int .u8 b] w fun e w'=>e = .returned (.int .u32 (Ez s b : Nat)) /\ w = w':=by
 go_enter Tryz.func264,Tryz.ntmps264
 have e0 : bits .xor .u32 (s : Int) (b : Int) = ((s ^^^ b : Nat) : Int):=u32_xor_nat s b (by omega) (by omega)
 have e00 : IntKind.u32.wrap (b : Int) = (b : Int):=IntWalk.u32_in _ (by omega)
 go_wp2_with fail
 go_loop [0,9] (fun t i=>∃k : Nat,k <= 8 /\ i = .int .i64 k /\ t = .int .u32 (stn k (s ^^^ b) : Nat)) (fun _ i=>8 - (intOf i).toNat)
 case atStart=>exact ⟨0,by omega,rfl,rfl⟩
 case round=>
  obtain ⟨k,hk,rfl,rfl⟩:=hrel
  have hv : stn k (s ^^^ b) < 2 ^ 32:=Th k (G9 hs (by omega))
  have HS:=zh (TX k (s ^^^ b))
  clear e0 e00
  by_cases hlt : k < 8
  ·generalize stn k (s ^^^ b) = v at *
   have ea:=and1 v hv
   rcases PO v with hm | hm
   ·rw [hm] at ea
    go_wp2_with fail
    go_round
    case rel=>exact ⟨k + 1,by omega,by go_num,by rw [HS.out]; congr 1; unfold st; rw [if_neg (by omega)]; omega⟩
    case measure=>simp [intOf]; omega
   ·rw [hm] at ea
    have ex : bits .xor .u32 ((v : Int) / 2) 3988292384 = ((v / 2 ^^^ K : Nat) : Int):=u32_xor_nat (v / 2) K (by omega) (by decide)
    go_wp2_with fail
    go_round
    case rel=>exact ⟨k + 1,by omega,by go_num,by rw [HS.out]; congr 1; unfold st; rw [if_pos hm]⟩
    case measure=>simp [intOf]; omega
  ·obtain rfl : k = 8:=by omega
   go_wp2_with fail
   go_ret
   exact ⟨rfl,rfl⟩
theorem LU (s : ByteArray) (k : Nat) (h : k < s.size) : s.data.toList[k]? = some s[k]:=by
 rw [List.getElem?_eq_getElem (by simpa using h)]; rfl
theorem Ux (s0 : Nat) (s : ByteArray) (k : Nat) (h : k < s.size) : crc s0 (s.data.toList.take (k + 1)) = Ez (crc s0 (s.data.toList.take k)) s[k].toNat:=by
 rw [List.take_succ_eq_append_getElem (by simpa using h),Gl]
 rfl
theorem Ub (s0 : Nat) (s : ByteArray) : crc s0 (s.data.toList.take s.size) = crc s0 s.data.toList:=by
 rw [List.take_of_length_le (by simp)]
theorem Uk (s : Nat) (hs : s < 2 ^ 32) : bits .xor .u32 IntKind.u32.max (s : Int) = ((s ^^^ top : Nat) : Int):=by
 have:=u32_xor_nat top s (by decide) (by omega)
 rw [Nat.xor_comm] at this
 exact this
def AR (l : List ByteArray) : List UInt8:=l.flatMap fun s=>s.data.toList
theorem QU (l : List ByteArray) (k : Nat) (h : k < l.length) : AR (l.take (k + 1)) = AR (l.take k)++(l.getD k ByteArray.empty).data.toList:=by
 rw [List.take_succ_eq_append_getElem h,AR,List.flatMap_append]
 simp [AR,h]
theorem Ms (v : Value) (l : List ByteArray) (w : World) (hv : zx w v l) :
  Calls Tryz.prog 244 #[v] w fun e w'=>e = .returned (.int .u32 (B1 (AR l) : Nat)) /\ w = w':=by
 obtain ⟨ao,b,off,cap,rfl,hc1,hc2,hao,hat⟩:=hv.form
 go_enter Tryz.func244,Tryz.ntmps244
 go_wp2_with fail
 go_loop [3,9] (fun v i=>∃k : Nat,k <= l.length /\ i = .int .i64 k /\ v = .int .u32 (crc top (AR (l.take k)) : Nat)) (fun _ i=>l.length - (intOf i).toNat)
 case atStart=>exact ⟨0,by omega,rfl,rfl⟩
 case round=>
  obtain ⟨k,hk,rfl,rfl⟩:=hrel
  have hv0:=Mp (AR (l.take k)) (s:=top) (by decide)
  by_cases hlt : k < l.length
  ·obtain rfl:=hao (by omega)
   have c5:=hat k hlt
   have hS:=hv.2 _ (Da hlt)
   have HS:=zh (QU l k hlt)
   have HC:=zh (Gl top (AR (l.take k)) (l.getD k ByteArray.empty).data.toList)
   clear hv hat hao
   generalize l.getD k ByteArray.empty = x at *
   generalize crc top (AR (l.take k)) = s0 at *
   go_wp2_with fail
   go_loop [3,15] (fun v i=>∃j : Nat,j <= x.size /\ i = .int .i64 j /\ v = .int .u32 (crc s0 (x.data.toList.take j) : Nat)) (fun _ i=>x.size - (intOf i).toNat)
   case atStart=>exact ⟨0,by omega,rfl,rfl⟩
   case round=>
    obtain ⟨j,hj,rfl,rfl⟩:=hrel
    have hv:=Mp (x.data.toList.take j) hv0
    by_cases hlt2 : j < x.size
    ·have HS2:=zh (Ux s0 x j hlt2)
     have hb : (x[j]'hlt2).toNat < 256:=(x[j]'hlt2).toNat_lt
     generalize crc s0 (x.data.toList.take j) = v at *
     go_wp2_with fail
     refine (T3 v _ _ hv hb).mono ?_
     rintro e w' ⟨rfl,rfl⟩
     go_wp2_with fail
     go_round
     case rel=>exact ⟨j + 1,by omega,by go_num,by rw [HS2.out]⟩
     case measure=>simp [intOf]; omega
    ·obtain rfl : j = x.size:=by omega
     have HF:=zh (Ub s0 x)
     generalize crc s0 (x.data.toList.take x.size) = v at *
     go_wp2_with fail
     go_round
     case rel=>exact ⟨k + 1,by omega,by go_num,by rw [HS.out,HC.out,HF.out]⟩
     case measure=>simp [intOf]; omega
  ·obtain rfl : k = l.length:=by omega
   have HF : Hid (crc top (AR (l.take l.length)) = crc top (AR l)):=zh (by rw [List.take_length])
   generalize crc top (AR (l.take l.length)) = v at *
   have ef:=Uk v hv0
   clear hv hat hao
   go_wp2_with fail
   go_ret
   exact ⟨AG (by rw [HF.out]; rfl),rfl⟩
theorem Sn (t : ByteArray) (i : Nat) (h : i / 8 < t.size) : Ee t.data.toList i = (t[i / 8].toNat >>> (i % 8)) % 2:=by
 unfold Ee
 have : t.data.toList.getD (i / 8) 0 = t[i / 8]:=by
  rw [List.getD_eq_getElem?_getD,LU t _ h]; rfl
 rw [this]
theorem JD (t : ByteArray) (w : World) (ht : t.size <= 1000000) :
  Calls Tryz.prog 246 #[.string t] w fun e w'=>e = .returned (.int .u32 (B1 t.data.toList : Nat)) /\ w = w':=by
 go_enter Tryz.func246,Tryz.ntmps246
 go_wp2_with fail
 go_loop [3,4] (fun v i=>∃k : Nat,k <= 8 * t.size /\ i = .int .i64 k /\ v = .int .u32 (Crc.bits t.data.toList k top : Nat)) (fun _ i=>8 * t.size - (intOf i).toNat)
 case atStart=>exact ⟨0,by omega,rfl,rfl⟩
 case round=>
  obtain ⟨k,hk,rfl,rfl⟩:=hrel
  have hv:=UY t.data.toList k (s:=top) (by decide)
  by_cases hlt : k < 8 * t.size
  ·have hq : k / 8 < t.size:=by omega
   have HS : Hid (Crc.bits t.data.toList (k + 1) top = Cv (Crc.bits t.data.toList k top) (Ee t.data.toList k)):=rfl
   have hbl:=Mn t.data.toList k
   have HB:=zh (Sn t k hq)
   generalize Ee t.data.toList k = bb at *
   generalize Crc.bits t.data.toList k top = v at *
   have hby:=(t[k / 8]'hq).toNat_lt
   have el : bits .xor .u32 (bits .and .u32 (v : Int) 1) (bits .and .u32 (((t[k / 8]'hq).toNat : Int) / 2 ^ (k % 8) % 4294967296) 1) = ((v % 2 ^^^ bb : Nat) : Int):=by
    rw [and1 v hv]
    have e2 : (((t[k / 8]'hq).toNat : Int) / 2 ^ (k % 8) % 4294967296) = (((t[k / 8]'hq).toNat >>> (k % 8) % 4294967296 : Nat) : Int):=by
     rw [Nat.shiftRight_eq_div_pow,Int.natCast_emod,Int.natCast_ediv,Int.natCast_pow]
     rfl
    rw [e2,and1 _ (by omega),u32_xor_nat _ _ (by omega) (by omega)]
    congr 2
    rw [HB.out,Nat.mod_mod_of_dvd _ (by decide)]
   have hx2 : v % 2 ^^^ bb = 0 \/ v % 2 ^^^ bb = 1:=by
    have:=Nat.xor_lt_two_pow (x:=v % 2) (y:=bb) (n:=1) (by omega) (by omega)
    omega
   rcases hx2 with hx2 | hx2
   ·have el0:=el
    rw [hx2] at el0
    have HX:=zh hx2
    clear el hx2
    go_wp2_with fail
    go_round
    case rel=>exact ⟨k + 1,by omega,by go_num,by rw [HS.out]; congr 1; unfold Cv; rw [HX.out,if_neg (by omega)]; omega⟩
    case measure=>simp [intOf]; omega
   ·have el0:=el
    rw [hx2] at el0
    have HX:=zh hx2
    have ex : bits .xor .u32 ((v : Int) / 2) 3988292384 = ((v / 2 ^^^ K : Nat) : Int):=u32_xor_nat (v / 2) K (by omega) (by decide)
    clear el hx2
    go_wp2_with fail
    go_round
    case rel=>exact ⟨k + 1,by omega,by go_num,by rw [HS.out]; congr 1; unfold Cv; rw [HX.out,if_pos rfl]⟩
    case measure=>simp [intOf]; omega
  ·obtain rfl : k = 8 * t.size:=by omega
   have HF : Hid (Crc.bits t.data.toList (8 * t.size) top = crc top t.data.toList):=zh (by
    have:=Ul t.data.toList top
    rwa [show t.data.toList.length = t.size by simp] at this)
   generalize Crc.bits t.data.toList (8 * t.size) top = v at *
   have ef : bits .xor .u32 (v : Int) 4294967295 = ((v ^^^ top : Nat) : Int):=u32_xor_nat v top (by omega) (by decide)
   go_wp2_with fail
   go_ret
   exact ⟨AG (by rw [HF.out]; rfl),rfl⟩
def le32 (s : Nat) : List UInt8:=[UInt8.ofNat s,UInt8.ofNat (s / 256),UInt8.ofNat (s / 65536),UInt8.ofNat (s / 16777216)]
theorem FN (s : Nat) (R : List HP) (w : World) (hs : s < 2 ^ 32) (H : own w R) :
  Calls Tryz.prog 243 #[.int .u32 s] w fun e w'=>e = .returned (.string ⟨(le32 s).toArray⟩) /\ Ext w w' /\ own w' R:=by
 go_enter Tryz.func243,Tryz.ntmps243
 go_wp2_with fail
 have ha:=li H (.cells #[.int .u8 ((s : Int) % 256),.int .u8 ((s : Int) / 256 % 256),.int .u8 ((s : Int) / 65536 % 256),.int .u8 ((s : Int) / 16777216)] 5)
 obtain ⟨c,f⟩:=ld 0 ha rfl
 rw [run_convert_bytes_arg _ 211 5 Tryz.underlying211 Tryz.underlying5 _ 0 4 4 [(s : Int) % 256,(s : Int) / 256 % 256,(s : Int) / 65536 % 256,(s : Int) / 16777216] rfl
  (fun i hi=>by rw [c]; match i,hi with | 0,_=>rfl | 1,_=>rfl | 2,_=>rfl | 3,_=>rfl) _ Tryz.underlying9]
 go_wp2_with fail
 go_ret
 refine ⟨U8 ?_,(Ext.refl _).alloc _,le ha⟩
 unfold strOfNums le32
 simp only [List.map_cons,List.map_nil]
 have e (n : Nat) : UInt8.ofNat ((n : Int)).toNat = UInt8.ofNat n:=by simp
 have h0 : UInt8.ofNat ((s : Int) % 256).toNat = UInt8.ofNat s:=by
  rw [show ((s : Int) % 256).toNat = s % 256 by omega]
  apply UInt8.toNat_inj.1; simp
 have h1 : UInt8.ofNat ((s : Int) / 256 % 256).toNat = UInt8.ofNat (s / 256):=by
  rw [show ((s : Int) / 256 % 256).toNat = s / 256 % 256 by omega]
  apply UInt8.toNat_inj.1; simp
 have h2 : UInt8.ofNat ((s : Int) / 65536 % 256).toNat = UInt8.ofNat (s / 65536):=by
  rw [show ((s : Int) / 65536 % 256).toNat = s / 65536 % 256 by omega]
  apply UInt8.toNat_inj.1; simp
 have h3 : UInt8.ofNat ((s : Int) / 16777216).toNat = UInt8.ofNat (s / 16777216):=by
  rw [show ((s : Int) / 16777216).toNat = s / 16777216 by omega]
 rw [h0,h1,h2,h3]
end Go.Proofs.YtbpblokfiajpjabGreatDoor
namespace Go.Proofs.YtbpblokfiajpjabGreatDoor
open Go.RowKit Go.SL Go.Crc
attribute [local go_sem ↓] Go.wp_at_zero Go.wp_at_succ
theorem Vx (s : Nat) (l : List Int) (h : l = [(s : Int) % 256,(s : Int) / 256 % 256,(s : Int) / 65536 % 256,(s : Int) / 16777216]) : strOfNums l = ⟨(le32 s).toArray⟩:=by
 subst h
 unfold strOfNums le32
 simp only [List.map_cons,List.map_nil]
 have h0 : UInt8.ofNat ((s : Int) % 256).toNat = UInt8.ofNat s:=by
  rw [show ((s : Int) % 256).toNat = s % 256 by omega]
  apply UInt8.toNat_inj.1; simp
 have h1 : UInt8.ofNat ((s : Int) / 256 % 256).toNat = UInt8.ofNat (s / 256):=by
  rw [show ((s : Int) / 256 % 256).toNat = s / 256 % 256 by omega]
  apply UInt8.toNat_inj.1; simp
 have h2 : UInt8.ofNat ((s : Int) / 65536 % 256).toNat = UInt8.ofNat (s / 65536):=by
  rw [show ((s : Int) / 65536 % 256).toNat = s / 65536 % 256 by omega]
  apply UInt8.toNat_inj.1; simp
 have h3 : UInt8.ofNat ((s : Int) / 16777216).toNat = UInt8.ofNat (s / 16777216):=by
  rw [show ((s : Int) / 16777216).toNat = s / 16777216 by omega]
 rw [h0,h1,h2,h3]
theorem Ju (s : Nat) (R : List SL.HP) (w : World) (hs : s < 2 ^ 32) (H : own w R) :
  Calls Tryz.prog 245 #[.int .u32 s] w fun e w'=>e = .returned (.string ⟨(le32 s).toArray⟩) /\ Ext w w' /\ own w' R:=by
 have r1 : ((s : Int)).tmod 256 = (s : Int) % 256:=Int.tmod_eq_emod_of_nonneg (by omega)
 have r2 : ((s : Int) / 256).tmod 256 = (s : Int) / 256 % 256:=Int.tmod_eq_emod_of_nonneg (by omega)
 have r3 : ((s : Int) / 65536).tmod 256 = (s : Int) / 65536 % 256:=Int.tmod_eq_emod_of_nonneg (by omega)
 go_enter Tryz.func245,Tryz.ntmps245
 go_wp2_with fail
 have ha:=li H (.cells #[.int .u8 ((s : Int) % 256),.int .u8 ((s : Int) / 256 % 256),.int .u8 ((s : Int) / 65536 % 256),.int .u8 ((s : Int) / 16777216)] 5)
 obtain ⟨c,f⟩:=ld 0 ha rfl
 rw [run_convert_bytes_arg _ 211 5 Tryz.underlying211 Tryz.underlying5 _ 0 4 4 [(s : Int) % 256,(s : Int) / 256 % 256,(s : Int) / 65536 % 256,(s : Int) / 16777216] rfl
  (fun i hi=>by rw [c]; match i,hi with | 0,_=>rfl | 1,_=>rfl | 2,_=>rfl | 3,_=>rfl) _ Tryz.underlying9,Vx s _ rfl]
 go_wp2_with fail
 go_ret
 exact ⟨rfl,(Ext.refl _).alloc _,le ha⟩
def byteCells (xs : List Int) : List Value:=xs.map (Value.int .u8)
theorem EC {w : World} {L : List SL.HP} (k : Nat) {v : Value} {xs : List Int} {n : Nat} (hn : xs.length = n) (H : own w L) (hk : L[k]? = some (row 5 1 v n (byteCells xs))) (hp : 0 < n) :
  (convert 211 9 v).run Tryz.prog w = .ok (.string (strOfNums xs)) w:=by
 obtain ⟨ao,g,cap,rfl,h1,h2,h3,-,-,h6,-⟩:=lk k H hk
 obtain rfl:=h3 hp
 exact run_convert_bytes_arg (P:=Tryz.prog) w 211 5 Tryz.underlying211 Tryz.underlying5 g 0 n cap xs hn (fun i hi=>by
  rw [Nat.zero_add]
  exact h6 i _ (by simp [byteCells,show i < xs.length by omega])) 9 Tryz.underlying9
def Az (xs : List Int) : ByteArray:=strOfNums xs++zs (12 - xs.length)
def Fb (xs : List Int) : ByteArray:=Az xs++⟨(le32 (B1 (Az xs).data.toList)).toArray⟩
theorem SA (c : Nat) : (⟨(Lib.repeatL (⟨#[0]⟩ : ByteArray).data.toList c).toArray⟩ : ByteArray) = zs c:=by
 unfold zs
 congr 2
 induction c with
 | zero=>rfl
 | succ c ih=>rw [List.replicate_succ,<- ih]; simp [Lib.repeatL,List.replicate_succ]
theorem Fg {xs : List Int} (h : xs.length <= 12) : (Az xs).size = 12:=by
 rw [Az,ByteArray.size_append,strOfNums_size,En]; omega
theorem Jn {w : World} {L : List SL.HP} (k : Nat) {b : Nat} {t : ByteArray} {T : TypeId} (H : own w L) (hk : L[k]? = some (pts b (.cells #[.string t] T (0,0)))) (ht : t.size <= 9223372036854775807) : zx w (.slice (some ⟨b,0,none⟩) 1 1) [t]:=
 ⟨⟨_,b,0,1,rfl,Nat.le_refl _,by omega,fun _=>rfl,fun i hi=>by
  have : i = 0:=by simpa using hi
  subst this
  dsimp only
  rw [Nat.zero_add,(ld k H hk).1]
  rfl⟩,fun s hs=>by simp at hs; subst hs; exact ht⟩
theorem KC (l : List UInt8) : B1 l < 2 ^ 32:=G9 (Mp _ (by decide)) (by decide)
theorem Pg (c : Nat) (hc : c <= 1000) (w : World) : Calls Tryz.prog 154 #[.string ⟨#[0]⟩,.int .i64 c] w fun e w2=>e = .returned (.string (zs c)) /\ Below w.heap.size w w2:=by
 have hs : (⟨#[0]⟩ : ByteArray).size = 1:=rfl
 have h:=Tryz.strings_Repeat ⟨#[0]⟩ c w (by omega) (by rw [hs]; omega)
 rw [SA] at h
 exact h
theorem JP (v : Value) (xs : List Int) (n : Nat) (hn : xs.length = n) (h0 : 0 < n) (h12 : n <= 12) (R : List SL.HP) (w : World) (H : own w (row 5 1 v n (byteCells xs)::R)) :
  Calls Tryz.prog 237 #[v] w fun e w'=>e = .returned (.string (Fb xs)) /\ Ext w w' /\ own w' R:=by
 have hc0:=EC 0 hn (lj H) rfl h0
 obtain ⟨ao,g,cap,rfl,r1,r2,-,-,-,-,-⟩:=lk 0 H rfl
 have e12 : IntKind.i64.wrap (12 - (n : Int)) = ((12 - n : Nat) : Int):=by rw [IntWalk.i64_in _ (by omega)]; omega
 have hsz1 : (strOfNums xs).size = n:=by rw [strOfNums_size,hn]
 have hsz2 : (zs (12 - n)).size = 12 - n:=En _
 go_enter Tryz.func237,Tryz.ntmps237
 go_upto_region 1 with (fail)
 go_region_held3 (fun w'=>(convert 211 9 (.slice ao n cap)).run Tryz.prog w' = .ok (.string (strOfNums xs)) w') (first | exact hc0 | exact hc2) ((go_at_call 154; refine (Pg (12 - n) (by omega) _).mono ?_; rintro e w2 ⟨rfl,hb2⟩; have h2:=EW (lj H) hb2; have hc2:=EC 0 hn h2 rfl h0))
 have hu : strOfNums xs++zs (12 - n) = Az xs:=by rw [Az,hn]
 have hz:=Fg (xs:=xs) (by omega)
 rw [hu]
 have hseal : Fb xs = Az xs++⟨(le32 (B1 (Az xs).data.toList)).toArray⟩:=rfl
 have HS:=zh hseal
 clear hu hsz1 hsz2 hc0 hc2 hseal
 generalize Az xs = u at *
 have hx2 : Ext w w2:=(Ext.refl w).drew.trans (EX hb2)
 have ha:=li h2 (.cells #[.string u] 9)
 have hx3:=hx2.alloc (.cells #[.string u] 9)
 have hst:=Jn 0 ha rfl (by omega)
 go_wp2_with fail
 generalize w2.heap.size = p at *
 generalize w2.alloc (.cells #[.string u] 9) = w3 at *
 refine (Ms _ [u] w3 hst).mono ?_
 rintro e w4 ⟨rfl,rfl⟩
 have hj : AR [u] = u.data.toList:=by simp [AR]
 rw [hj]
 have hlt:=KC u.data.toList
 generalize B1 u.data.toList = S at *
 clear hst hj
 go_wp2_with fail
 refine (FN S _ w3 hlt ha).mono ?_
 rintro e w5 ⟨rfl,hx5,h5⟩
 have hs4 : (⟨(le32 S).toArray⟩ : ByteArray).size = 4:=rfl
 generalize (⟨(le32 S).toArray⟩ : ByteArray) = t at *
 go_wp2_with fail
 go_ret
 exact ⟨by rw [HS.out]; rfl,hx3.trans hx5,le (le h5)⟩
theorem L6 (xs : List Int) (k : Nat) : strOfNums (xs++List.replicate k 0) = strOfNums xs++zs k:=by
 apply Go.WideShapes.bytes_inj
 simp [strOfNums,zs]
def T9 (xs : List Int) (n : Nat) (R : List SL.HP) (w0 : World) (v : Value) (wr : World) : Prop:=
 ∃k : Nat,n <= k /\ k <= 12 /\ Ext w0 wr /\ own wr (row 5 1 v k (byteCells (xs++List.replicate (k - n) 0))::R)
def IF : Value -> Nat
 | .slice _ k _=>k
 | _=>0
theorem UG (k : Int) : ∀u∈[Value.int .u8 k],u.oneCell' = true:=fun u hu=>by simp at hu; subst hu; rfl
theorem Jb (v : Value) (xs : List Int) (n : Nat) (hn : xs.length = n) (h12 : n <= 12) (R : List SL.HP) (w : World) (H : own w (row 5 1 v n (byteCells xs)::R)) :
  Calls Tryz.prog 239 #[v] w fun e w'=>e = .returned (.string (Fb xs)) /\ Ext w w' /\ own w' R:=by
 obtain ⟨ao,g,cap,rfl,r1,r2,-,-,-,-,-⟩:=lk 0 H rfl
 go_enter Tryz.func239,Tryz.ntmps239
 go_wp2_with fail
 go_loopw [0] (T9 xs n R w) (fun v _=>12 - IF v)
 case atStart=>exact ⟨n,Nat.le_refl _,h12,Ext.refl _,by simpa using H⟩
 case round=>
  obtain ⟨k,hk1,hk2,hxr,hown⟩:=hrel
  obtain ⟨a1,g1,c1,rfl,q1,q2,-,-,-,-,-⟩:=lk 0 hown rfl
  by_cases hlt : k < 12
  ·have hml : k + 1 <= maxLen:=by simp only [maxLen]; omega
   have ha:=li hown (.cells #[.int .u8 0] 5)
   go_wp2_with (first | (at_builtin; refine lE rfl _ _ 211 rfl 1 5 Tryz.underlying211 Bk rfl (by decide) rfl ha rfl (some ⟨wr.heap.size,0,none⟩) 1 1 [.int .u8 0] rfl rfl (oy wr [.int .u8 0] _) (fun h=>by cases h) (UG _) hml (by omega) ?_))
   intro v4 w4 h4 hx4
   obtain ⟨a4,g4,c4,rfl,q4,q5,-,-,-,-,-⟩:=lk 1 h4 rfl
   go_wp2_with fail
   go_roundw
   case rel=>
    refine ⟨k + 1,by omega,by omega,(hxr.alloc _).trans hx4,?_⟩
    have h5:=le h4
    have e : byteCells (xs++List.replicate (k + 1 - n) 0) = byteCells (xs++List.replicate (k - n) 0)++[.int .u8 0]:=by
     rw [show k + 1 - n = (k - n) + 1 from by omega,List.replicate_succ']
     simp [byteCells]
    rw [e]
    exact h5
   case measure=>simp [IF]; omega
  ·have hk : k = 12:=by omega
   subst hk
   have hd:=lj hown
   have hconv : ∀w',own w' (row 5 1 (.slice a1 12 c1) 12 (byteCells (xs++List.replicate (12 - n) 0))::R) -> (convert 211 9 (.slice a1 12 c1)).run Tryz.prog w' = .ok (.string (Az xs)) w':=fun w' h=>by
    have:=EC 0 (by simp [hn]; omega) h rfl (by omega)
    rw [L6,show strOfNums xs++zs (12 - n) = Az xs from by rw [Az,hn]] at this
    exact this
   have HC:=zh hconv
   clear hconv
   have hz:=Fg (xs:=xs) (by omega)
   have hseal : Fb xs = Az xs++⟨(le32 (B1 (Az xs).data.toList)).toArray⟩:=rfl
   have HS:=zh hseal
   clear hseal
   generalize Az xs = u at *
   have hlts:=KC u.data.toList
   have hs4 : ∀S,(⟨(le32 S).toArray⟩ : ByteArray).size = 4:=fun _=>rfl
   generalize hS : B1 u.data.toList = S at *
   have HSS:=zh hS
   clear hS
   have hs4':=hs4 S
   clear hs4
   generalize ht : (⟨(le32 S).toArray⟩ : ByteArray) = t at *
   have HT:=zh ht
   clear ht
   go_upto_region 3 with (fail)
   go_region_held3 (fun w'=>(convert 211 9 (.slice a1 12 c1)).run Tryz.prog w' = .ok (.string u) w') (first | exact HC.out _ hd | exact HC.out _ h2) (first | (go_at_call 246; refine (JD u _ (by omega)).mono ?_; rw [HSS.out]; rintro e w' ⟨rfl,rfl⟩) | (go_at_call 245; refine (Ju S _ _ hlts hd).mono ?_; rw [HT.out]; rintro e w2 ⟨rfl,hx2,h2⟩))
   go_wp2_with fail
   go_ret
   exact ⟨by rw [HS.out]; rfl,hxr.drew.trans hx2,le h2⟩
def EB (u : ByteArray) : ByteArray:=⟨(le32 (B1 u.data.toList)).toArray⟩
def zf (s : ByteArray) : Int:=if s.size≠16 then 1 else if EB (s.extract 0 12)≠s.extract 12 16 then 3 else 0
theorem Eh (s : ByteArray) (hs : s.size <= 9223372036854775807) (R : List SL.HP) (w : World) (H : own w R) :
  Calls Tryz.prog 202 #[.string s] w fun e w'=>e = .returned (.int .i64 (zf s)) /\ Ext w w' /\ own w' R:=by
 by_cases h16 : s.size = 16
 ·have hd:=lj H
  have hsz : (s.extract 0 12).size = 12:=by simp [ByteArray.size_extract,h16]
  have hO : zf s = if EB (s.extract 0 12)≠s.extract 12 16 then 3 else 0:=by rw [zf,if_neg (by omega)]
  rw [hO]
  have h16' : (s.size : Int) = 16:=by omega
  have hsl1 : ∀wx : World,(Instr.slice 9 (.string s) none (some (.int .i64 12)) none).run Tryz.prog wx = .ok (.string (s.extract 0 12)) wx:=fun wx=>by
   simp [Instr.slice,Instr.sliceBounds,Instr.sliceBound,asIntOf,run_underlying Tryz.underlying9,h16]
  have hsl2 : ∀wx : World,(Instr.slice 9 (.string s) (some (.int .i64 12)) none none).run Tryz.prog wx = .ok (.string (s.extract 12 16)) wx:=fun wx=>by
   simp [Instr.slice,Instr.sliceBounds,Instr.sliceBound,asIntOf,run_underlying Tryz.underlying9,h16]
  have hlts:=KC (s.extract 0 12).data.toList
  have hst : EB (s.extract 0 12) = ⟨(le32 (B1 (s.extract 0 12).data.toList)).toArray⟩:=rfl
  generalize EB (s.extract 0 12) = t at *
  generalize s.extract 0 12 = u at *
  generalize s.extract 12 16 = v at *
  generalize hS : B1 u.data.toList = S at *
  have HSS:=zh hS
  have HT:=zh hst
  clear hS hst
  by_cases hb : t = v
  ·subst hb
   rw [if_neg (by simp)]
   go_enter Tryz.func202,Tryz.ntmps202
   go_upto_region 3 with (fail)
   go_region_held3 (fun _=>True) (trivial) (first | (go_at_call 246; refine (JD u _ (by omega)).mono ?_; rw [HSS.out]; rintro e w' ⟨rfl,rfl⟩) | (go_at_call 245; refine (Ju S _ _ hlts hd).mono ?_; rw [<- HT.out]; rintro e w2 ⟨rfl,hx2,h2⟩))
   go_wp2_with fail
   go_ret
   exact ⟨rfl,(Ext.refl w).drew.trans hx2,h2⟩
  ·rw [if_pos hb]
   have hne : (t.toList == v.toList) = false:=by simpa using fun h=>hb (Bo h)
   go_enter Tryz.func202,Tryz.ntmps202
   go_upto_region 3 with (fail)
   go_region_held3 (fun _=>True) (trivial) (first | (go_at_call 246; refine (JD u _ (by omega)).mono ?_; rw [HSS.out]; rintro e w' ⟨rfl,rfl⟩) | (go_at_call 245; refine (Ju S _ _ hlts hd).mono ?_; rw [<- HT.out]; rintro e w2 ⟨rfl,hx2,h2⟩))
   go_wp2_with fail
   go_ret
   exact ⟨rfl,(Ext.refl w).drew.trans hx2,h2⟩
 ·rw [zf,if_pos h16]
  go_enter Tryz.func202,Tryz.ntmps202
  go_wp2_with fail
  go_ret
  exact ⟨rfl,Ext.refl _,H⟩
def Mk (s : ByteArray) : ByteArray:=if zf s = 0 then s.extract 0 12 else ByteArray.empty
theorem Gr (s : ByteArray) (hs : s.size <= 9223372036854775807) (R : List SL.HP) (w : World) (H : own w R) :
  Calls Tryz.prog 198 #[.string s] w fun e w'=>e = .returned (.tuple #[.string (Mk s),errV (zf s)]) /\ Ext w w' /\ own w' R:=by
 rw [Mk]
 by_cases h16 : s.size = 16
 ·have hd:=lj H
  have hsz : (s.extract 0 12).size = 12:=by simp [ByteArray.size_extract,h16]
  have hO : zf s = if EB (s.extract 0 12)≠s.extract 12 16 then 3 else 0:=by rw [zf,if_neg (by omega)]
  rw [hO]
  have h16' : (s.size : Int) = 16:=by omega
  have hsl1 : ∀wx : World,(Instr.slice 9 (.string s) none (some (.int .i64 12)) none).run Tryz.prog wx = .ok (.string (s.extract 0 12)) wx:=fun wx=>by
   simp [Instr.slice,Instr.sliceBounds,Instr.sliceBound,asIntOf,run_underlying Tryz.underlying9,h16]
  have hsl2 : ∀wx : World,(Instr.slice 9 (.string s) (some (.int .i64 12)) none none).run Tryz.prog wx = .ok (.string (s.extract 12 16)) wx:=fun wx=>by
   simp [Instr.slice,Instr.sliceBounds,Instr.sliceBound,asIntOf,run_underlying Tryz.underlying9,h16]
  have hlts:=KC (s.extract 0 12).data.toList
  have hst : EB (s.extract 0 12) = ⟨(le32 (B1 (s.extract 0 12).data.toList)).toArray⟩:=rfl
  generalize EB (s.extract 0 12) = t at *
  generalize s.extract 0 12 = u at *
  generalize s.extract 12 16 = v at *
  have hj : AR [u] = u.data.toList:=by simp [AR]
  rw [<- hj] at hst hlts
  clear hj
  generalize hS : B1 (AR [u]) = S at *
  have HSS:=zh hS
  have HT:=zh hst
  clear hS hst
  have ha:=li hd (.cells #[.string u] 9)
  have hst1:=Jn 0 ha rfl (by omega)
  by_cases hb : t = v
  ·subst hb
   rw [if_neg (show ¬(t≠t) from fun h=>h rfl)]
   go_enter Tryz.func198,Tryz.ntmps198
   go_upto_region 4 with (fail)
   go_region_held3 (fun _=>True) (trivial) (first | (go_at_call 244; refine (Ms _ [u] _ hst1).mono ?_; rw [HSS.out]; rintro e w' ⟨rfl,rfl⟩) | (go_at_call 243; refine (FN S _ _ hlts ha).mono ?_; rw [<- HT.out]; rintro e w2 ⟨rfl,hx2,h2⟩))
   go_wp2_with fail
   go_ret2
   exact ⟨rfl,((Ext.refl w).drew.alloc _).trans hx2,le h2⟩
  ·rw [if_pos hb]
   have hne : (t.toList == v.toList) = false:=by simpa using fun h=>hb (Bo h)
   go_enter Tryz.func198,Tryz.ntmps198
   go_upto_region 4 with (fail)
   go_region_held3 (fun _=>True) (trivial) (first | (go_at_call 244; refine (Ms _ [u] _ hst1).mono ?_; rw [HSS.out]; rintro e w' ⟨rfl,rfl⟩) | (go_at_call 243; refine (FN S _ _ hlts ha).mono ?_; rw [<- HT.out]; rintro e w2 ⟨rfl,hx2,h2⟩))
   go_wp2_with fail
   go_ret2
   exact ⟨rfl,((Ext.refl w).drew.alloc _).trans hx2,le h2⟩
 ·have hO : zf s = 1:=by rw [zf,if_pos h16]
  rw [hO]
  go_enter Tryz.func198,Tryz.ntmps198
  go_wp2_with fail
  go_ret2
  exact ⟨rfl,Ext.refl _,H⟩
def lM (c p b : Int) : Value:=.agg #[.int .i64 c,.int .i64 p,.int .i64 b]
def lG (c p b : Int) : Prop:=c < 1 \/ 32 < c \/ p < 0 \/ 40 < p \/ b < -1 \/ 4 < b
instance (c p b : Int) : Decidable (lG c p b):=by unfold lG; infer_instance
def yP (c p b : Int) : Int:=if lG c p b then 1 else 0
theorem AK (c p b : Int) (R : List SL.HP) (w : World) (H : own w R) :
  Calls Tryz.prog 125 #[lM c p b] w fun e w'=>e = .returned (errV (yP c p b)) /\ Ext w w' /\ own w' R:=by
 have ha:=li H (.cells #[.int .i64 c,.int .i64 p,.int .i64 b] 103)
 obtain ⟨cc,ff⟩:=ld 0 ha rfl
 by_cases h : lG c p b
 ·have e : yP c p b = 1:=if_pos h
  rw [e]
  clear e
  unfold lG at h
  unfold lM
  go_enter Tryz.func125,Tryz.ntmps125
  go_wp2_with fail
  all_goals go_ret
  all_goals exact ⟨rfl,(Ext.refl _).alloc _,le ha⟩
 ·have e : yP c p b = 0:=if_neg h
  rw [e]
  clear e
  unfold lG at h
  unfold lM
  have h1 : 1 <= c:=by omega
  have h2 : c <= 32:=by omega
  have h3 : 0 <= p:=by omega
  have h4 : p <= 40:=by omega
  have h5 : -1 <= b:=by omega
  have h6 : b <= 4:=by omega
  clear h
  go_enter Tryz.func125,Tryz.ntmps125
  go_wp2_with fail
  all_goals go_ret
  all_goals exact ⟨rfl,(Ext.refl _).alloc _,le ha⟩
theorem Ac (c p b : Int) (R : List SL.HP) (w : World) (H : own w R) :
  Calls Tryz.prog 129 #[lM c p b] w fun e w'=>e = .returned (.int .i64 (yP c p b)) /\ Ext w w' /\ own w' R:=by
 have ha:=li H (.cells #[.int .i64 c,.int .i64 p,.int .i64 b] 103)
 obtain ⟨cc,ff⟩:=ld 0 ha rfl
 by_cases h : lG c p b
 ·have e : yP c p b = 1:=if_pos h
  rw [e]
  clear e
  unfold lG at h
  unfold lM
  go_enter Tryz.func129,Tryz.ntmps129
  go_wp2_with fail
  all_goals go_ret
  all_goals exact ⟨rfl,(Ext.refl _).alloc _,le ha⟩
 ·have e : yP c p b = 0:=if_neg h
  rw [e]
  clear e
  unfold lG at h
  unfold lM
  have h1 : 1 <= c:=by omega
  have h2 : c <= 32:=by omega
  have h3 : 0 <= p:=by omega
  have h4 : p <= 40:=by omega
  have h5 : -1 <= b:=by omega
  have h6 : b <= 4:=by omega
  clear h
  go_enter Tryz.func129,Tryz.ntmps129
  go_wp2_with fail
  all_goals go_ret
  all_goals exact ⟨rfl,(Ext.refl _).alloc _,le ha⟩
def lL (c p b : Int) : ByteArray:=Fb [83,89,c,p,b + 1]
theorem Do (c p b : Int) (hh : ¬lG c p b) (R : List SL.HP) (w : World) (H : own w R) :
  Calls Tryz.prog 165 #[lM c p b] w fun e w'=>e = .returned (.string (lL c p b)) /\ Ext w w' /\ own w' R:=by
 have ha:=li H (.cells #[.int .i64 c,.int .i64 p,.int .i64 b] 103)
 have hxa:=(Ext.refl w).alloc (.cells #[.int .i64 c,.int .i64 p,.int .i64 b] 103)
 obtain ⟨cc,ff⟩:=ld 0 ha rfl
 unfold lG at hh
 unfold lM lL
 have h1 : 1 <= c:=by omega
 have h2 : c <= 32:=by omega
 have h3 : 0 <= p:=by omega
 have h4 : p <= 40:=by omega
 have h5 : -1 <= b:=by omega
 have h6 : b <= 4:=by omega
 clear hh
 go_enter Tryz.func165,Tryz.ntmps165
 go_upto_region 1 with (fail)
 generalize w.heap.size = g at *
 generalize w.alloc (.cells #[.int .i64 c,.int .i64 p,.int .i64 b] 103) = w1 at *
 go_wp2_with fail
 have h7:=yJ 0 (n:=5) (cap:=5) (sz:=1) (xs:=byteCells [83,89,c,p,b + 1]) (li ha (.cells #[.int .u8 83,.int .u8 89,.int .u8 c,.int .u8 p,.int .u8 (b + 1)] 5)) rfl (by decide) (by simp [maxLen]) rfl rfl
 refine (Jb _ [83,89,c,p,b + 1] 5 rfl (by decide) _ _ h7).mono ?_
 rintro e w2 ⟨rfl,hx2,h2'⟩
 go_wp2_with fail
 go_ret
 exact ⟨rfl,(hxa.alloc _).trans hx2,le h2'⟩
theorem ED (c p b : Int) (R : List SL.HP) (w : World) (H : own w R) :
  Calls Tryz.prog 159 #[lM c p b] w fun e w'=>e = .returned (.tuple #[.string (if yP c p b = 0 then lL c p b else ByteArray.empty),errV (yP c p b)]) /\ Ext w w' /\ own w' R:=by
 have ha:=li H (.cells #[.int .i64 c,.int .i64 p,.int .i64 b] 103)
 have hxa:=(Ext.refl w).alloc (.cells #[.int .i64 c,.int .i64 p,.int .i64 b] 103)
 by_cases h : lG c p b
 ·have e : yP c p b = 1:=if_pos h
  have hck:=AK c p b _ _ ha
  rw [e,if_neg (by decide)]
  rw [e] at hck
  have HK:=zh hck
  clear hck e h
  unfold lM at HK
  unfold lM
  go_enter Tryz.func159,Tryz.ntmps159
  go_upto_region 1 with (fail)
  obtain ⟨cc,ff⟩:=ld 0 ha rfl
  generalize w.heap.size = g at *
  generalize w.alloc (.cells #[.int .i64 c,.int .i64 p,.int .i64 b] 103) = w1 at *
  go_wp2_with fail
  refine HK.out.mono ?_
  rintro e w2 ⟨rfl,hx2,h2'⟩
  have he : errV 1 = .iface 128 (.int .i64 1):=rfl
  rw [he]
  go_wp2_with fail
  go_ret2
  exact ⟨rfl,hxa.trans hx2,le h2'⟩
 ·have e : yP c p b = 0:=if_neg h
  have hck:=AK c p b _ _ ha
  rw [e,if_pos rfl]
  rw [e] at hck
  have HK:=zh hck
  clear hck e
  unfold lG at h
  unfold lM at HK
  unfold lM lL
  have h1 : 1 <= c:=by omega
  have h2 : c <= 32:=by omega
  have h3 : 0 <= p:=by omega
  have h4 : p <= 40:=by omega
  have h5 : -1 <= b:=by omega
  have h6 : b <= 4:=by omega
  clear h
  go_enter Tryz.func159,Tryz.ntmps159
  go_upto_region 1 with (fail)
  obtain ⟨cc,ff⟩:=ld 0 ha rfl
  generalize w.heap.size = g at *
  generalize w.alloc (.cells #[.int .i64 c,.int .i64 p,.int .i64 b] 103) = w1 at *
  go_wp2_with fail
  refine HK.out.mono ?_
  rintro e w2 ⟨rfl,hx2,h2'⟩
  rw [l9]
  clear cc ff
  obtain ⟨cc,ff⟩:=ld 0 h2' rfl
  go_wp2_with fail
  have h7:=yJ 0 (n:=5) (cap:=5) (sz:=1) (xs:=byteCells [83,89,c,p,b + 1]) (li h2' (.cells #[.int .u8 83,.int .u8 89,.int .u8 c,.int .u8 p,.int .u8 (b + 1)] 5)) rfl (by decide) (by simp [maxLen]) rfl rfl
  refine (JP _ [83,89,c,p,b + 1] 5 rfl (by decide) (by decide) _ _ h7).mono ?_
  rintro e w3 ⟨rfl,hx3,h3'⟩
  go_wp2_with fail
  go_ret2
  exact ⟨rfl,((hxa.trans hx2).alloc _).trans hx3,le h3'⟩
theorem zX {fn : Func} {t u : Tmp} (h : fn.results = #[.cell t 103,.tmp u]) (tmps : Array Value) (w : World) (g : Nat) (c p b : Int) (hg : tmps.getD t undef = .pointer (some ⟨g,0,none⟩))
  (h0 : w.cell? ⟨g,0,none⟩ = some (.int .i64 c)) (h1 : w.cell? ⟨g,1,none⟩ = some (.int .i64 p)) (h2 : w.cell? ⟨g,2,none⟩ = some (.int .i64 b)) :
  (results fn tmps).run Tryz.prog w = .ok (.tuple #[lM c p b,tmps.getD u undef]) w:=by
 rw [results_cell_tmp h,hg]
 unfold lM
 go_simp
def bt (s : ByteArray) (i : Nat) : Int:=((s.data.toList.getD i 0).toNat : Int)
theorem Be (s : ByteArray) : zf s = 0 \/ 0 < zf s:=by
 unfold zf
 split
 ·exact .inr (by decide)
 ·split
  ·exact .inr (by decide)
  ·exact .inl rfl
theorem Ed {s : ByteArray} (h : zf s = 0) : s.size = 16:=by
 unfold zf at h
 split at h
 ·cases h
 ·rename_i h'; omega
theorem yO {s : ByteArray} {i : Nat} (h : i < s.size) : ((s[i]'h).toNat : Int) = bt s i:=by
 have hb:=LU s i h
 unfold bt
 rw [List.getD_eq_getElem?_getD,hb]
 rfl
theorem zo (s : ByteArray) (i : Nat) : 0 <= bt s i /\ bt s i <= 255:=by
 unfold bt
 have:=(s.data.toList.getD i 0).toNat_lt
 omega
def y8 (s : ByteArray) : Prop:=lG (bt s 2) (bt s 3) (bt s 4 - 1) \/ lL (bt s 2) (bt s 3) (bt s 4 - 1)≠s
instance (s : ByteArray) : Decidable (y8 s):=by unfold y8; infer_instance
def oY (s : ByteArray) : (Int×Int×Int)×Int:=
 if zf s≠0 then ((0,0,0),zf s) else if y8 s then ((0,0,0),2) else ((bt s 2,bt s 3,bt s 4 - 1),0)
theorem Ql (s : ByteArray) (hs : s.size <= 9223372036854775807) (R : List SL.HP) (w : World) (H : own w R) :
  Calls Tryz.prog 200 #[.string s] w fun e w'=>e = .returned (.tuple #[lM (oY s).1.1 (oY s).1.2.1 (oY s).1.2.2,.int .i64 (oY s).2]) /\ Ext w w' /\ own w' R:=by
 have ha:=li H (.cells #[.int .i64 0,.int .i64 0,.int .i64 0] 103)
 have hxa:=(Ext.refl w).alloc (.cells #[.int .i64 0,.int .i64 0,.int .i64 0] 103)
 rcases Be s with hF | hF
 ·have h16:=Ed hF
  have e : oY s = if y8 s then ((0,0,0),2) else ((bt s 2,bt s 3,bt s 4 - 1),0):=by rw [oY,if_neg (by omega)]
  rw [e]
  clear e
  have h16' : (s.size : Int) = 16:=by omega
  go_enter Tryz.func200,Tryz.ntmps200
  go_upto_region 1 with (fail)
  generalize w.heap.size = g at *
  generalize w.alloc (.cells #[.int .i64 0,.int .i64 0,.int .i64 0] 103) = w1 at *
  go_wp2_with fail
  refine (Eh s hs _ w1 ha).mono ?_
  rintro e w2 ⟨rfl,hx2,h2⟩
  rw [hF]
  have q2:=yO (s:=s) (i:=2) (by omega)
  have q3:=yO (s:=s) (i:=3) (by omega)
  have q4:=yO (s:=s) (i:=4) (by omega)
  have l2:=zo s 2
  have l3:=zo s 3
  have l4:=zo s 4
  have hcond : y8 s↔(lG (bt s 2) (bt s 3) (bt s 4 - 1) \/ lL (bt s 2) (bt s 3) (bt s 4 - 1)≠s):=Iff.rfl
  have HCD:=zh hcond
  clear hcond
  generalize b2 : bt s 2 = x2 at *
  generalize b3 : bt s 3 = x3 at *
  generalize b4 : bt s 4 = x4 at *
  have HX:=zh (And.intro b2 (And.intro b3 (show bt s 4 - 1 = x4 - 1 by rw [b4])))
  clear b2 b3 b4
  have e2 : IntKind.i64.wrap x2 = x2:=IntWalk.i64_in _ (by omega)
  have e3 : IntKind.i64.wrap x3 = x3:=IntWalk.i64_in _ (by omega)
  have e4 : IntKind.i64.wrap x4 = x4:=IntWalk.i64_in _ (by omega)
  have e5 : IntKind.i64.wrap (x4 - 1) = x4 - 1:=IntWalk.i64_in _ (by omega)
  go_upto_region 4 with (fail)
  refine wp_region_held_drew (S:=fun _=>True) (by kernel_rfl) trivial (fun hHeld=>?_)
  refine wpAnyH_take (i:=0) (v:=?_) rfl (by kernel_rfl) (by kernel_rfl) (by kernel_rfl) (fun _ _ _ h=>h) (Or.inl ⟨by rfl,?_⟩) (by assumption) ?_
  rotate_left
  ·intro w hSw
   go_simp
   try with_reducible rfl
  try simp only [Act.put,tA,tB,tC,tD,tE,tF]
  refine wpAnyH_take (i:=1) (v:=?_) rfl (by kernel_rfl) (by kernel_rfl) (by kernel_rfl) (fun _ _ _ h=>h) (Or.inl ⟨by rfl,?_⟩) (by assumption) ?_
  rotate_left
  ·intro w hSw
   go_simp
   try with_reducible rfl
  try simp only [Act.put,tA,tB,tC,tD,tE,tF]
  refine wpAnyH_take (i:=2) (v:=?_) rfl (by kernel_rfl) (by kernel_rfl) (by kernel_rfl) (fun _ _ _ h=>h) (Or.inl ⟨by rfl,?_⟩) (by assumption) ?_
  rotate_left
  ·intro w hSw
   go_simp
   try with_reducible rfl
  try simp only [Act.put,tA,tB,tC,tD,tE,tF]
  refine wpAnyH_take (i:=3) (v:=?_) rfl (by kernel_rfl) (by kernel_rfl) (by kernel_rfl) (fun _ _ _ h=>h) (Or.inl ⟨by rfl,?_⟩) (by assumption) ?_
  rotate_left
  ·intro w hSw
   go_simp
   try with_reducible rfl
  try simp only [Act.put,tA,tB,tC,tD,tE,tF]
  refine wpAnyH_take (i:=4) (v:=?_) rfl (by kernel_rfl) (by kernel_rfl) (by kernel_rfl) (fun _ _ _ h=>h) (Or.inl ⟨by rfl,?_⟩) (by assumption) ?_
  rotate_left
  ·intro w hSw
   go_simp
   try with_reducible rfl
  try simp only [Act.put,tA,tB,tC,tD,tE,tF]
  refine wpAnyH_take (i:=5) (v:=?_) rfl (by kernel_rfl) (by kernel_rfl) (by kernel_rfl) (fun _ _ _ h=>h) (Or.inl ⟨by rfl,?_⟩) (by assumption) ?_
  rotate_left
  ·intro w hSw
   go_simp
   try with_reducible rfl
  try simp only [Act.put,tA,tB,tC,tD,tE,tF]
  refine wpAnyH_take (i:=6) (v:=?_) rfl (by kernel_rfl) (by kernel_rfl) (by kernel_rfl) (fun _ _ _ h=>h) (Or.inl ⟨by rfl,?_⟩) (by assumption) ?_
  rotate_left
  ·intro w hSw
   go_simp
   try with_reducible rfl
  try simp only [Act.put,tA,tB,tC,tD,tE,tF]
  refine wpAnyH_take (i:=7) (v:=?_) rfl (by kernel_rfl) (by kernel_rfl) (by kernel_rfl) (fun _ _ _ h=>h) (Or.inl ⟨by rfl,?_⟩) (by assumption) ?_
  rotate_left
  ·intro w hSw
   go_simp
   try with_reducible rfl
  try simp only [Act.put,tA,tB,tC,tD,tE,tF]
  refine wpAnyH_take (i:=8) (v:=?_) rfl (by kernel_rfl) (by kernel_rfl) (by kernel_rfl) (fun _ _ _ h=>h) (Or.inl ⟨by rfl,?_⟩) (by assumption) ?_
  rotate_left
  ·intro w hSw
   go_simp
   try with_reducible rfl
  try simp only [Act.put,tA,tB,tC,tD,tE,tF]
  refine wpAnyH_take (i:=9) (v:=?_) rfl (by kernel_rfl) (by kernel_rfl) (by kernel_rfl) (fun _ _ _ h=>h) (Or.inl ⟨by rfl,?_⟩) (by assumption) ?_
  rotate_left
  ·intro w hSw
   go_simp
   try with_reducible rfl
  try simp only [Act.put,tA,tB,tC,tD,tE,tF]
  refine wpAnyH_take (i:=10) (v:=?_) rfl (by kernel_rfl) (by kernel_rfl) (by kernel_rfl) (fun _ _ _ h=>h) (Or.inl ⟨by rfl,?_⟩) (by assumption) ?_
  rotate_left
  ·intro w hSw
   go_simp
   try with_reducible rfl
  try simp only [Act.put,tA,tB,tC,tD,tE,tF]
  refine rd 11 rfl fun K hK=>?_
  go_simp
  refine hK.out _ _ trivial (fun _=>?_)
  clear hK K
  try simp only [Act.put,tA,tB,tC,tD,tE,tF]
  refine rd 12 rfl fun K hK=>?_
  go_simp
  refine hK.out _ _ trivial (fun _=>?_)
  clear hK K
  try simp only [Act.put,tA,tB,tC,tD,tE,tF]
  refine wpAnyH_done (by kernel_rfl) ?_ _
  have h3:=lj (li h2 (.cells #[.int .i64 x2,.int .i64 x3,.int .i64 (x4 - 1)] 103))
  have hx3:=((hxa.trans hx2).alloc (.cells #[.int .i64 x2,.int .i64 x3,.int .i64 (x4 - 1)] 103)).drew
  clear q2 q3 q4 e2 e3 e4 e5 h2 hx2 ha hxa
  generalize w2.heap.size = p at *
  generalize (w2.alloc (.cells #[.int .i64 x2,.int .i64 x3,.int .i64 (x4 - 1)] 103)).drew = w3 at *
  generalize x4 - 1 = y at *
  obtain ⟨c,f⟩:=ld 0 h3 rfl
  by_cases hb : lG x2 x3 y
  ·have hbad : y8 s:=HCD.out.2 (.inl hb)
   have HB:=zh hbad
   have hq:=Ac x2 x3 y _ w3 h3
   rw [show yP x2 x3 y = 1 from if_pos hb] at hq
   have HQ:=zh hq
   clear hq hb hbad
   unfold lM at HQ
   go_wp2_with fail
   refine HQ.out.mono ?_
   rintro e w4 ⟨rfl,hx4,h4⟩
   clear c f
   obtain ⟨c,f⟩:=ld 1 h4 rfl
   go_wp2_with fail
   have h5:=lg (i:=2) (v:=.int .i64 0) 1 (lg (i:=1) (v:=.int .i64 0) 1 (lg (i:=0) (v:=.int .i64 0) 1 h4 rfl) rfl) rfl
   obtain ⟨c3,-⟩:=ld 1 h5 rfl
   refine bodyPost_ret (zX rfl _ _ g 0 0 0 rfl (c3 0) (c3 1) (c3 2)) rfl ?_
   exact ⟨by first | rfl | (rw [if_pos HB.out]; rfl),(((hx3.trans hx4).setCell _ _).setCell _ _).setCell _ _,le (le h5)⟩
  ·have hq:=Ac x2 x3 y _ w3 h3
   rw [show yP x2 x3 y = 0 from if_neg hb] at hq
   have HQ:=zh hq
   clear hq
   unfold lM at HQ
   have HS:=zh (fun R w H=>Do x2 x3 y hb R w H)
   unfold lM at HS
   go_wp2_with fail
   refine HQ.out.mono ?_
   rintro e w4 ⟨rfl,hx4,h4⟩
   clear c f
   obtain ⟨c,f⟩:=ld 0 h4 rfl
   go_wp2_with fail
   refine (HS.out _ w4 h4).mono ?_
   rintro e w5 ⟨rfl,hx5,h5⟩
   clear c f
   obtain ⟨c,f⟩:=ld 0 h5 rfl
   obtain ⟨c',f'⟩:=ld 1 h5 rfl
   by_cases hne : lL x2 x3 y = s
   ·have hgood : ¬y8 s:=fun h=>(HCD.out.1 h).elim hb (fun h=>h hne)
    have HG:=zh hgood
    rw [hne]
    clear hgood hb
    go_wp2_with fail
    have h6:=lg (i:=2) (v:=.int .i64 y) 1 (lg (i:=1) (v:=.int .i64 x3) 1 (lg (i:=0) (v:=.int .i64 x2) 1 h5 rfl) rfl) rfl
    obtain ⟨c3,-⟩:=ld 1 h6 rfl
    refine bodyPost_ret (zX rfl _ _ g x2 x3 y rfl (c3 0) (c3 1) (c3 2)) rfl ?_
    exact ⟨by first | (rw [HX.out.1,HX.out.2.1,HX.out.2.2]; rfl) | (rw [if_neg HG.out,HX.out.1,HX.out.2.1,HX.out.2.2]; rfl),((((hx3.trans hx4).trans hx5).setCell _ _).setCell _ _).setCell _ _,le (le h6)⟩
   ·have hbad : y8 s:=HCD.out.2 (.inr hne)
    have HB:=zh hbad
    have hnl : ((lL x2 x3 y).toList == s.toList) = false:=by simpa using fun h=>hne (Bo h)
    clear hb hbad
    go_wp2_with fail
    have h6:=lg (i:=2) (v:=.int .i64 0) 1 (lg (i:=1) (v:=.int .i64 0) 1 (lg (i:=0) (v:=.int .i64 0) 1 h5 rfl) rfl) rfl
    obtain ⟨c3,-⟩:=ld 1 h6 rfl
    refine bodyPost_ret (zX rfl _ _ g 0 0 0 rfl (c3 0) (c3 1) (c3 2)) rfl ?_
    exact ⟨by first | rfl | (rw [if_pos HB.out]; rfl),((((hx3.trans hx4).trans hx5).setCell _ _).setCell _ _).setCell _ _,le (le h6)⟩
 ·have e : oY s = ((0,0,0),zf s):=by rw [oY,if_pos (by omega)]
  rw [e]
  clear e
  go_enter Tryz.func200,Tryz.ntmps200
  go_upto_region 1 with (fail)
  generalize w.heap.size = g at *
  generalize w.alloc (.cells #[.int .i64 0,.int .i64 0,.int .i64 0] 103) = w1 at *
  go_wp2_with fail
  refine (Eh s hs _ w1 ha).mono ?_
  rintro e w2 ⟨rfl,hx2,h2⟩
  obtain ⟨c,f⟩:=ld 0 h2 rfl
  go_wp2_with fail
  have h3:=lg (i:=2) (v:=.int .i64 0) 0 (lg (i:=1) (v:=.int .i64 0) 0 (lg (i:=0) (v:=.int .i64 0) 0 h2 rfl) rfl) rfl
  obtain ⟨c3,-⟩:=ld 0 h3 rfl
  refine bodyPost_ret (zX rfl _ _ g 0 0 0 rfl (c3 0) (c3 1) (c3 2)) rfl ?_
  exact ⟨rfl,(((hxa.trans hx2).setCell _ _).setCell _ _).setCell _ _,le h3⟩
end Go.Proofs.YtbpblokfiajpjabGreatDoor
