/- Lemmas on which YardOpens stands: the texts Shape5 Shape6 Shape7 RDev2 RDev3 DevLaw Shape13. No conditions. -/
import Derived.Test.YtbpblokfiajpjabGreatDoorPke08e0a2c13
import Derived.Test.YtbpblokfiajpjabGreatDoorProg
set_option linter.all false
set_option maxRecDepth 1000000
set_option maxHeartbeats 32000000
namespace Go.Proofs.YtbpblokfiajpjabGreatDoor
open Go.RowKit Go.SL Go.Crc
attribute [local go_sem ↓] Go.wp_at_zero Go.wp_at_succ
theorem zT {s : ByteArray} {i : Nat} (h : s.size = 16) (hi : i < 12) : bt (s.extract 0 12) i = bt s i:=by
 unfold bt
 simp only [ByteArray.data_extract,Array.toList_extract,List.extract]
 congr 1
 simp [hi]
theorem MG (s : ByteArray) (hs : s.size <= 9223372036854775807) (R : List SL.HP) (w : World) (H : own w R) :
  Calls Tryz.prog 196 #[.string s] w fun e w'=>e = .returned (.tuple #[lM (oY s).1.1 (oY s).1.2.1 (oY s).1.2.2,errV (oY s).2]) /\ Ext w w' /\ own w' R:=by
 have ha:=li H (.cells #[.int .i64 0,.int .i64 0,.int .i64 0] 103)
 have hxa:=(Ext.refl w).alloc (.cells #[.int .i64 0,.int .i64 0,.int .i64 0] 103)
 rcases Be s with hF | hF
 ·have h16:=Ed hF
  have e : oY s = if y8 s then ((0,0,0),2) else ((bt s 2,bt s 3,bt s 4 - 1),0):=by rw [oY,if_neg (by omega)]
  rw [e]
  clear e
  have h16' : (s.size : Int) = 16:=by omega
  go_enter Tryz.func196,Tryz.ntmps196
  go_upto_region 1 with (fail)
  generalize w.heap.size = g at *
  generalize w.alloc (.cells #[.int .i64 0,.int .i64 0,.int .i64 0] 103) = w1 at *
  go_wp2_with fail
  refine (Gr s hs _ w1 ha).mono ?_
  rintro e w2 ⟨rfl,hx2,h2⟩
  rw [hF,l9,show Mk s = s.extract 0 12 from if_pos hF]
  have hu : (s.extract 0 12).size = 12:=by simp [ByteArray.size_extract,h16]
  have g2:=zT (i:=2) h16 (by decide)
  have g3:=zT (i:=3) h16 (by decide)
  have g4:=zT (i:=4) h16 (by decide)
  generalize s.extract 0 12 = u at *
  have hu' : (u.size : Int) = 12:=by omega
  have q2:=yO (s:=u) (i:=2) (by omega)
  have q3:=yO (s:=u) (i:=3) (by omega)
  have q4:=yO (s:=u) (i:=4) (by omega)
  rw [g2] at q2
  rw [g3] at q3
  rw [g4] at q4
  clear g2 g3 g4
  have l2:=zo s 2
  have l3:=zo s 3
  have l4:=zo s 4
  have hcond : y8 s↔(lG (bt s 2) (bt s 3) (bt s 4 - 1) \/ lL (bt s 2) (bt s 3) (bt s 4 - 1)≠s):=Iff.rfl
  have HCD:=zh hcond
  clear hcond
  generalize b2 : bt s 2 = x2 at *
  generalize b3 : bt s 3 = x3 at *
  generalize b4 : bt s 4 = x4 at *
  have HX:=zh (And.intro b2 (And.intro b3 (show bt s 4 - 1 = x4 - 1 by rw [b4])))
  clear b2 b3 b4
  have e2 : IntKind.i64.wrap x2 = x2:=IntWalk.i64_in _ (by omega)
  have e3 : IntKind.i64.wrap x3 = x3:=IntWalk.i64_in _ (by omega)
  have e4 : IntKind.i64.wrap x4 = x4:=IntWalk.i64_in _ (by omega)
  have e5 : IntKind.i64.wrap (x4 - 1) = x4 - 1:=IntWalk.i64_in _ (by omega)
  go_upto_region 4 with (fail)
  refine wp_region_held_drew (S:=fun _=>True) (by kernel_rfl) trivial (fun hHeld=>?_)
  refine wpAnyH_take (i:=0) (v:=?_) rfl (by kernel_rfl) (by kernel_rfl) (by kernel_rfl) (fun _ _ _ h=>h) (Or.inl ⟨by rfl,?_⟩) (by assumption) ?_
  rotate_left
  ·intro w hSw
   go_simp
   try with_reducible rfl
  try simp only [Act.put,tA,tB,tC,tD,tE,tF]
  refine wpAnyH_take (i:=1) (v:=?_) rfl (by kernel_rfl) (by kernel_rfl) (by kernel_rfl) (fun _ _ _ h=>h) (Or.inl ⟨by rfl,?_⟩) (by assumption) ?_
  rotate_left
  ·intro w hSw
   go_simp
   try with_reducible rfl
  try simp only [Act.put,tA,tB,tC,tD,tE,tF]
  refine wpAnyH_take (i:=2) (v:=?_) rfl (by kernel_rfl) (by kernel_rfl) (by kernel_rfl) (fun _ _ _ h=>h) (Or.inl ⟨by rfl,?_⟩) (by assumption) ?_
  rotate_left
  ·intro w hSw
   go_simp
   try with_reducible rfl
  try simp only [Act.put,tA,tB,tC,tD,tE,tF]
  refine wpAnyH_take (i:=3) (v:=?_) rfl (by kernel_rfl) (by kernel_rfl) (by kernel_rfl) (fun _ _ _ h=>h) (Or.inl ⟨by rfl,?_⟩) (by assumption) ?_
  rotate_left
  ·intro w hSw
   go_simp
   try with_reducible rfl
  try simp only [Act.put,tA,tB,tC,tD,tE,tF]
  refine wpAnyH_take (i:=4) (v:=?_) rfl (by kernel_rfl) (by kernel_rfl) (by kernel_rfl) (fun _ _ _ h=>h) (Or.inl ⟨by rfl,?_⟩) (by assumption) ?_
  rotate_left
  ·intro w hSw
   go_simp
   try with_reducible rfl
  try simp only [Act.put,tA,tB,tC,tD,tE,tF]
  refine wpAnyH_take (i:=5) (v:=?_) rfl (by kernel_rfl) (by kernel_rfl) (by kernel_rfl) (fun _ _ _ h=>h) (Or.inl ⟨by rfl,?_⟩) (by assumption) ?_
  rotate_left
  ·intro w hSw
   go_simp
   try with_reducible rfl
  try simp only [Act.put,tA,tB,tC,tD,tE,tF]
  refine wpAnyH_take (i:=6) (v:=?_) rfl (by kernel_rfl) (by kernel_rfl) (by kernel_rfl) (fun _ _ _ h=>h) (Or.inl ⟨by rfl,?_⟩) (by assumption) ?_
  rotate_left
  ·intro w hSw
   go_simp
   try with_reducible rfl
  try simp only [Act.put,tA,tB,tC,tD,tE,tF]
  refine wpAnyH_take (i:=7) (v:=?_) rfl (by kernel_rfl) (by kernel_rfl) (by kernel_rfl) (fun _ _ _ h=>h) (Or.inl ⟨by rfl,?_⟩) (by assumption) ?_
  rotate_left
  ·intro w hSw
   go_simp
   try with_reducible rfl
  try simp only [Act.put,tA,tB,tC,tD,tE,tF]
  refine wpAnyH_take (i:=8) (v:=?_) rfl (by kernel_rfl) (by kernel_rfl) (by kernel_rfl) (fun _ _ _ h=>h) (Or.inl ⟨by rfl,?_⟩) (by assumption) ?_
  rotate_left
  ·intro w hSw
   go_simp
   try with_reducible rfl
  try simp only [Act.put,tA,tB,tC,tD,tE,tF]
  refine wpAnyH_take (i:=9) (v:=?_) rfl (by kernel_rfl) (by kernel_rfl) (by kernel_rfl) (fun _ _ _ h=>h) (Or.inl ⟨by rfl,?_⟩) (by assumption) ?_
  rotate_left
  ·intro w hSw
   go_simp
   try with_reducible rfl
  try simp only [Act.put,tA,tB,tC,tD,tE,tF]
  refine wpAnyH_take (i:=10) (v:=?_) rfl (by kernel_rfl) (by kernel_rfl) (by kernel_rfl) (fun _ _ _ h=>h) (Or.inl ⟨by rfl,?_⟩) (by assumption) ?_
  rotate_left
  ·intro w hSw
   go_simp
   try with_reducible rfl
  try simp only [Act.put,tA,tB,tC,tD,tE,tF]
  refine rd 11 rfl fun K hK=>?_
  go_simp
  refine hK.out _ _ trivial (fun _=>?_)
  clear hK K
  try simp only [Act.put,tA,tB,tC,tD,tE,tF]
  refine rd 12 rfl fun K hK=>?_
  go_simp
  refine hK.out _ _ trivial (fun _=>?_)
  clear hK K
  try simp only [Act.put,tA,tB,tC,tD,tE,tF]
  refine wpAnyH_done (by kernel_rfl) ?_ _
  have h3:=lj (li h2 (.cells #[.int .i64 x2,.int .i64 x3,.int .i64 (x4 - 1)] 103))
  have hx3:=((hxa.trans hx2).alloc (.cells #[.int .i64 x2,.int .i64 x3,.int .i64 (x4 - 1)] 103)).drew
  clear q2 q3 q4 e2 e3 e4 e5 h2 hx2 ha hxa
  generalize w2.heap.size = p at *
  generalize (w2.alloc (.cells #[.int .i64 x2,.int .i64 x3,.int .i64 (x4 - 1)] 103)).drew = w3 at *
  generalize x4 - 1 = y at *
  obtain ⟨c,f⟩:=ld 0 h3 rfl
  have hq:=ED x2 x3 y _ w3 h3
  by_cases hb : lG x2 x3 y
  ·have hbad : y8 s:=HCD.out.2 (.inl hb)
   have HB:=zh hbad
   rw [show yP x2 x3 y = 1 from if_pos hb,if_neg (by decide)] at hq
   have HQ:=zh hq
   clear hq hb hbad
   unfold lM at HQ
   go_wp2_with fail
   refine HQ.out.mono ?_
   rintro e w4 ⟨rfl,hx4,h4⟩
   have he : errV 1 = .iface 128 (.int .i64 1):=rfl
   rw [he]
   clear c f
   obtain ⟨c,f⟩:=ld 1 h4 rfl
   go_wp2_with fail
   have h5:=lg (i:=2) (v:=.int .i64 0) 1 (lg (i:=1) (v:=.int .i64 0) 1 (lg (i:=0) (v:=.int .i64 0) 1 h4 rfl) rfl) rfl
   obtain ⟨c3,-⟩:=ld 1 h5 rfl
   refine bodyPost_ret (zX rfl _ _ g 0 0 0 rfl (c3 0) (c3 1) (c3 2)) rfl ?_
   exact ⟨by first | rfl | (rw [if_pos HB.out]; rfl),(((hx3.trans hx4).setCell _ _).setCell _ _).setCell _ _,le (le h5)⟩
  ·rw [show yP x2 x3 y = 0 from if_neg hb,if_pos rfl] at hq
   have HQ:=zh hq
   clear hq
   unfold lM at HQ
   go_wp2_with fail
   refine HQ.out.mono ?_
   rintro e w5 ⟨rfl,hx5,h5⟩
   rw [l9]
   clear c f
   obtain ⟨c,f⟩:=ld 0 h5 rfl
   obtain ⟨c',f'⟩:=ld 1 h5 rfl
   by_cases hne : lL x2 x3 y = s
   ·have hgood : ¬y8 s:=fun h=>(HCD.out.1 h).elim hb (fun h=>h hne)
    have HG:=zh hgood
    rw [hne]
    clear hgood hb
    go_wp2_with fail
    have h6:=lg (i:=2) (v:=.int .i64 y) 1 (lg (i:=1) (v:=.int .i64 x3) 1 (lg (i:=0) (v:=.int .i64 x2) 1 h5 rfl) rfl) rfl
    obtain ⟨c3,-⟩:=ld 1 h6 rfl
    refine bodyPost_ret (zX rfl _ _ g x2 x3 y rfl (c3 0) (c3 1) (c3 2)) rfl ?_
    exact ⟨by first | (rw [HX.out.1,HX.out.2.1,HX.out.2.2]; rfl) | (rw [if_neg HG.out,HX.out.1,HX.out.2.1,HX.out.2.2]; rfl),(((hx3.trans hx5).setCell _ _).setCell _ _).setCell _ _,le (le h6)⟩
   ·have hbad : y8 s:=HCD.out.2 (.inr hne)
    have HB:=zh hbad
    have hnl : ((lL x2 x3 y).toList == s.toList) = false:=by simpa using fun h=>hne (Bo h)
    clear hb hbad
    go_wp2_with fail
    have h6:=lg (i:=2) (v:=.int .i64 0) 1 (lg (i:=1) (v:=.int .i64 0) 1 (lg (i:=0) (v:=.int .i64 0) 1 h5 rfl) rfl) rfl
    obtain ⟨c3,-⟩:=ld 1 h6 rfl
    refine bodyPost_ret (zX rfl _ _ g 0 0 0 rfl (c3 0) (c3 1) (c3 2)) rfl ?_
    exact ⟨by first | rfl | (rw [if_pos HB.out]; rfl),(((hx3.trans hx5).setCell _ _).setCell _ _).setCell _ _,le (le h6)⟩
 ·have e : oY s = ((0,0,0),zf s):=by rw [oY,if_pos (by omega)]
  rw [e]
  clear e
  go_enter Tryz.func196,Tryz.ntmps196
  go_upto_region 1 with (fail)
  generalize w.heap.size = g at *
  generalize w.alloc (.cells #[.int .i64 0,.int .i64 0,.int .i64 0] 103) = w1 at *
  go_wp2_with fail
  refine (Gr s hs _ w1 ha).mono ?_
  rintro e w2 ⟨rfl,hx2,h2⟩
  rw [ly hF]
  obtain ⟨c,f⟩:=ld 0 h2 rfl
  go_wp2_with fail
  have h3:=lg (i:=2) (v:=.int .i64 0) 0 (lg (i:=1) (v:=.int .i64 0) 0 (lg (i:=0) (v:=.int .i64 0) 0 h2 rfl) rfl) rfl
  obtain ⟨c3,-⟩:=ld 0 h3 rfl
  refine bodyPost_ret (zX rfl _ _ g 0 0 0 rfl (c3 0) (c3 1) (c3 2)) rfl ?_
  exact ⟨by rw [ly hF]; rfl,(((hxa.trans hx2).setCell _ _).setCell _ _).setCell _ _,le h3⟩
abbrev Ent:=Int×Int
def lV (e : Ent) (p : Int) : Bool:=if e.1 = 2 then decide (0 <= e.2) && decide (e.2 < p) else (decide (e.1 = 0) || decide (e.1 = 1)) && decide (e.2 = 0)
def lr (n : Nat) : Nat:=(n + 7) / 8
def zY (w : World) (v : Value) (l : List Ent) : Prop:=
 SlAt v l.length (fun b off i=>w.cell? ⟨b,off + i * 2,none⟩ = some (.int .i64 (l.getD i (0,0)).1) /\ w.cell? ⟨b,off + i * 2 + 1,none⟩ = some (.int .i64 (l.getD i (0,0)).2))
theorem zY.later {w w' : World} {v : Value} {l : List Ent} (h : zY w v l) {L : List HP} (k : Nat) (H : own w' L) (hk : L[k]? = some (yy w)) : zY w' v l:=
 SlAt.later h fun _ _ _ h=>⟨yF k H hk h.1,yF k H hk h.2⟩
theorem AA (n : Nat) (hn : n <= 1000000) (w : World) : Calls Tryz.prog 156 #[.int .i64 n] w fun e w'=>e = .returned (.int .i64 (lr n : Nat)) /\ w = w':=by
 go_enter Tryz.func156,Tryz.ntmps156
 go_wp2_with fail
 go_ret
 exact ⟨AG (by unfold lr; omega),rfl⟩
theorem AO (n : Nat) (hn : n <= 1000000) (w : World) : Calls Tryz.prog 161 #[.int .i64 n] w fun e w'=>e = .returned (.int .i64 (lr n : Nat)) /\ w = w':=by
 go_enter Tryz.func161,Tryz.ntmps161
 go_wp2_with fail
 go_loop [3] (fun i=>∃k : Nat,i = .int .i64 k /\ 8 * k < n + 8 ) (fun i=>n + 8 - (intOf i).toNat)
 case atStart=>exact ⟨0,rfl,by omega⟩
 case round=>
  obtain ⟨k,rfl,hk⟩:=hrel
  by_cases hlt : 8 * k < n
  ·go_wp2_with fail
   go_round
   case rel=>exact ⟨k + 1,by go_num,by omega⟩
   case measure=>simp [intOf]; omega
  ·go_wp2_with fail
   go_ret
   exact ⟨AG (by unfold lr; omega),rfl⟩
theorem GV (a b p : Int) (R : List SL.HP) (w : World) (H : own w R) :
  Calls Tryz.prog 238 #[.agg #[.int .i64 a,.int .i64 b],.int .i64 p] w fun e w'=>e = .returned (.bool (lV (a,b) p)) /\ Ext w w' /\ own w' R:=by
 have ha:=li H (.cells #[.int .i64 a,.int .i64 b] 221)
 obtain ⟨cc,ff⟩:=ld 0 ha rfl
 by_cases h2 : a = 2
 ·subst h2
  have e : lV (2,b) p = (decide (0 <= b) && decide (b < p)):=rfl
  rw [e]
  clear e
  by_cases hb : 0 <= b
  ·rw [decide_eq_true hb]
   go_enter Tryz.func238,Tryz.ntmps238
   go_wp2_with fail
   all_goals go_ret
   all_goals exact ⟨oT (by simp),(Ext.refl _).alloc _,le ha⟩
  ·rw [decide_eq_false hb]
   go_enter Tryz.func238,Tryz.ntmps238
   go_wp2_with fail
   all_goals go_ret
   all_goals exact ⟨oT (by simp),(Ext.refl _).alloc _,le ha⟩
 ·have e : lV (a,b) p = ((decide (a = 0) || decide (a = 1)) && decide (b = 0)):=if_neg h2
  rw [e]
  clear e
  have t2 : (a == 2) = false:=beq_eq_false_iff_ne.2 h2
  clear h2
  by_cases h0 : a = 0
  ·subst h0
   clear t2
   go_enter Tryz.func238,Tryz.ntmps238
   go_wp2_with fail
   all_goals go_ret
   all_goals exact ⟨oT (by rw [Bool.eq_iff_iff]; simp),(Ext.refl _).alloc _,le ha⟩
  ·have t0 : (a == 0) = false:=beq_eq_false_iff_ne.2 h0
   by_cases h1 : a = 1
   ·subst h1
    clear t2 t0 h0
    go_enter Tryz.func238,Tryz.ntmps238
    go_wp2_with fail
    all_goals go_ret
    all_goals exact ⟨oT (by rw [Bool.eq_iff_iff]; simp),(Ext.refl _).alloc _,le ha⟩
   ·have t1 : (a == 1) = false:=beq_eq_false_iff_ne.2 h1
    have e : ((decide (a = 0) || decide (a = 1)) && decide (b = 0)) = false:=by simp [h0,h1]
    rw [e]
    clear h0 h1 e
    go_enter Tryz.func238,Tryz.ntmps238
    go_wp2_with fail
    all_goals go_ret
    all_goals exact ⟨rfl,(Ext.refl _).alloc _,le ha⟩
def oW (t : List Ent) (r : Nat) : List Ent:=(List.range 8).map fun k=>t.getD (8 * r + k) (0,0)
def Ab (l : List Ent) : List Int:=l.flatMap fun e=>[e.1,e.2]
def zl (t : List Ent) (row : Int) : Prop:=32 < t.length \/ row < 0 \/ (lr t.length : Int) <= row
instance (t : List Ent) (row : Int) : Decidable (zl t row):=by unfold zl; infer_instance
def lU (t : List Ent) (row : Int) : ByteArray×Int:=
 if zl t row then (ByteArray.empty,1) else if (oW t row.toNat).all (fun e=>lV e 40) then (strOfNums (Ab (oW t row.toNat)),0) else (ByteArray.empty,2)
theorem A7 (t : List Ent) (r : Nat) : (oW t r).length = 8:=by simp [oW]
theorem ON (t : List Ent) (r k : Nat) (h : k < 8) : (oW t r).getD k (0,0) = t.getD (8 * r + k) (0,0):=by simp [oW,h]
theorem L0 {t : List Ent} {r k : Nat} (h : ¬zl t r) (hk : k < 8) (hb : lV (t.getD (8 * r + k) (0,0)) 40 = false) : lU t r = (ByteArray.empty,2):=by
 rw [lU,if_neg h,if_neg]
 intro hall
 have:=List.all_eq_true.1 hall (t.getD (8 * r + k) (0,0)) (by simp only [oW,zn,List.mem_map,List.mem_range]; exact ⟨k,hk,rfl⟩)
 rw [hb] at this
 cases this
theorem FZ {t : List Ent} {r : Nat} (h : ¬zl t r) (ha : ∀k,k < 8 -> lV (t.getD (8 * r + k) (0,0)) 40 = true) : lU t r = (strOfNums (Ab (oW t r)),0):=by
 rw [lU,if_neg h,if_pos]
 ·rfl
 ·refine List.all_eq_true.2 fun e he=>?_
  simp only [oW,zn,List.mem_map,List.mem_range] at he
  obtain ⟨k,hk,rfl⟩:=he
  exact ha k hk
theorem Dz (l : List Ent) : (Ab l).length = l.length * 2:=by
 induction l with
 | nil=>rfl
 | cons x l ih=>simp only [Ab,List.flatMap_cons,List.length_append,List.length_cons,List.length_nil] at ih ⊢; omega
theorem BX (t : List Ent) (r k : Nat) (h : k < 8) : byteCells (Ab ((oW t r).take (k + 1))) = byteCells (Ab ((oW t r).take k))++[.int .u8 (t.getD (8 * r + k) (0,0)).1,.int .u8 (t.getD (8 * r + k) (0,0)).2]:=by
 rw [zi (0,0) (by rw [A7]; exact h),ON _ _ _ h]
 simp [Ab,byteCells]
theorem DF {e : Ent} {p : Int} (h : lV e p = true) : 0 <= e.1 /\ e.1 <= 2 /\ 0 <= e.2 /\ (e.2 < p \/ e.2 = 0):=by
 unfold lV at h
 split at h
 ·simp at h; omega
 ·simp at h; omega
theorem zY.form {w : World} {v : Value} {l : List Ent} (h : zY w v l) : ∃ao b off cap,v = .slice ao l.length cap /\ l.length <= cap /\ cap <= 9223372036854775807 /\ (0 < l.length -> ao = some ⟨b,off,none⟩):=by
 obtain ⟨ao,b,off,cap,hv,h1,h2,h3,h4⟩:=h
 exact ⟨ao,b,off,cap,hv,h1,h2,h3⟩
theorem zY.cells {w : World} {b off n cap : Nat} {l : List Ent} (h : zY w (.slice (some ⟨b,off,none⟩) n cap) l) {i : Nat} (hi : i < l.length) :
  w.cell? ⟨b,off + i * 2,none⟩ = some (.int .i64 (l.getD i (0,0)).1) /\ w.cell? ⟨b,off + i * 2 + 1,none⟩ = some (.int .i64 (l.getD i (0,0)).2):=by
 obtain ⟨ao,b',off',cap',hv,h1,h2,h3,h4⟩:=h
 simp only [Value.slice.injEq] at hv
 have h5:=h3 (by omega)
 rw [<- hv.1] at h5
 simp only [Option.some.injEq,Addr.mk.injEq,and_true] at h5
 obtain ⟨rfl,rfl⟩:=h5
 exact h4 i hi
theorem DR (a b : Int) : ∀u∈[Value.int .u8 a,Value.int .u8 b],u.oneCell' = true:=fun u hu=>by simp at hu; rcases hu with rfl | rfl <;> rfl
def V3 (t : List Ent) (r : Nat) (R : List SL.HP) (w0 : World) (vb vi : Value) (wr : World) : Prop:=
 ∃k : Nat,k <= 8 /\ vi = .int .i64 k /\ (∀j,j < k -> lV (t.getD (8 * r + j) (0,0)) 40 = true) /\ Ext w0 wr /\ own wr (row 5 1 vb (2 * k) (byteCells (Ab ((oW t r).take k)))::R)
theorem PP (v : Value) (t : List Ent) (row : Int) (ht : t.length <= 1000) (ho : zl t row) (R : List SL.HP) (w : World) (hv : ∀w' l,own w' (l++R) -> zY w' v t) (H : own w R) :
  Calls Tryz.prog 162 #[v,.int .i64 row] w fun e w'=>e = .returned (.tuple #[.string ByteArray.empty,.int .i64 1]) /\ Ext w w' /\ own w' R:=by
 obtain ⟨ao,b,off,cap,rfl,c1,c2,c3⟩:=(hv w [] H).form
 unfold zl at ho
 by_cases h1 : 32 < t.length
 ·clear hv c3 ho
  go_enter Tryz.func162,Tryz.ntmps162
  go_wp2_with fail
  go_ret2
  exact ⟨rfl,Ext.refl _,H⟩
 ·by_cases h2 : row < 0
  ·clear hv c3 ho
   go_enter Tryz.func162,Tryz.ntmps162
   go_wp2_with fail
   go_ret2
   exact ⟨rfl,Ext.refl _,H⟩
  ·have h3 : (lr t.length : Int) <= row:=by omega
   clear hv c3 ho
   go_enter Tryz.func162,Tryz.ntmps162
   go_wp2_with (go_at_call 161; refine (AO _ (by omega) _).mono ?_; rintro e w' ⟨rfl,rfl⟩)
   go_ret2
   exact ⟨rfl,Ext.refl _,H⟩
theorem Sz (v : Value) (t : List Ent) (r : Nat) (ho : ¬zl t r) (R : List SL.HP) (w : World) (hv : ∀w' l,own w' (l++R) -> zY w' v t) (H : own w R) :
  Calls Tryz.prog 162 #[v,.int .i64 r] w fun e w'=>e = .returned (.tuple #[.string (lU t r).1,.int .i64 (lU t r).2]) /\ Ext w w' /\ own w' R:=by
 obtain ⟨ao,b,off,cap,rfl,c1,c2,c3⟩:=(hv w [] H).form
 have hbad : ∀k : Nat,k < 8 -> lV (t.getD (8 * r + k) (0,0)) 40 = false -> lU t r = (ByteArray.empty,2):=fun k h1 h2=>L0 ho h1 h2
 have hok:=FZ ho
 have HO:=zh ho
 have HB:=zh hbad
 have HK:=zh hok
 unfold zl at ho
 have h1 : t.length <= 32:=by omega
 have h3 : (r : Int) < (lr t.length : Int):=by omega
 have h4 : r <= 4:=by have h0 : lr t.length <= 4:=(by unfold lr; omega); omega
 have HV:=zh hv
 have HC:=zh c3
 have b1 : decide (32 < (t.length : Int)) = false:=by simp; omega
 have b2 : decide ((r : Int) < 0) = false:=by simp
 have b3 : decide (lr t.length <= r) = false:=by simp; omega
 clear hv c3 ho hbad hok
 go_enter Tryz.func162,Tryz.ntmps162
 go_wp2_with (go_at_call 161; refine (AO _ (by omega) _).mono ?_; rintro e w' ⟨rfl,rfl⟩)
 go_loopw [6,7] (V3 t r R w) (fun _ i _=>8 - (intOf i).toNat)
 case atStart=>exact ⟨0,by omega,rfl,fun j h=>absurd h (by omega),Ext.refl _,lv _ _ H⟩
 case round=>
  obtain ⟨k,hk,rfl,hj,hxr,hown⟩:=hrel
  have HJ:=zh hj
  clear hj
  obtain ⟨a1,g1,c1',rfl,q1,q2,-,-,-,-,-⟩:=lk 0 hown rfl
  by_cases hlt : k < 8
  ·go_upto_region 8 with (fail)
   have ha:=li hown (.cells #[.int .i64 0,.int .i64 0] 221)
   have hxa:=hxr.alloc (.cells #[.int .i64 0,.int .i64 0] 221)
   generalize wr.heap.size = p at *
   generalize wr.alloc (.cells #[.int .i64 0,.int .i64 0] 221) = wa at *
   by_cases hin : 8 * r + k < t.length
   ·obtain rfl:=HC.out (by omega)
    have hcell:=(HV.out wa [_,_] ha).cells hin
    obtain ⟨e1,e2⟩:=hcell
    obtain ⟨cc,ff⟩:=ld 0 ha rfl
    generalize hx : t.getD (8 * r + k) (0,0) = x at *
    have HX:=zh hx
    clear hx
    obtain ⟨x1,x2⟩:=x
    dsimp only at e1 e2
    go_wp2_with fail
    have h5:=lg (i:=1) (v:=.int .i64 x2) 0 (lg (i:=0) (v:=.int .i64 x1) 0 ha rfl) rfl
    have hx5:=(hxa.setCell ⟨p,0,none⟩ (.int .i64 x1)).setCell ⟨p,1,none⟩ (.int .i64 x2)
    clear e1 e2
    refine (GV x1 x2 40 _ _ h5).mono ?_
    rintro e w2 ⟨rfl,hx2,h2⟩
    by_cases hok : lV (x1,x2) 40 = true
    ·rw [hok]
     obtain ⟨y1,y2,y3,y4⟩:=DF hok
     dsimp only at y1 y2 y3 y4
     have y5 : x2 < 40:=by omega
     have HE:=zh hok
     clear hok y4 cc ff
     obtain ⟨cc,ff⟩:=ld 0 h2 rfl
     have h3:=li h2 (.cells #[.int .u8 x1,.int .u8 x2] 5)
     have hml : 2 * k + 2 <= maxLen:=by simp only [maxLen]; omega
     go_wp2_with (first | (at_builtin; refine lE rfl _ _ 211 rfl 2 5 Tryz.underlying211 Bk rfl (by decide) rfl h3 rfl (some ⟨w2.heap.size,0,none⟩) 2 2 [.int .u8 x1,.int .u8 x2] rfl rfl (oy w2 [.int .u8 x1,.int .u8 x2] _) (fun h=>by cases h) (DR _ _) hml (by omega) ?_))
     intro v4 w4 h4 hx4
     obtain ⟨a4,g4,c4,rfl,z1,z2,-,-,-,-,-⟩:=lk 2 h4 rfl
     go_wp2_with fail
     go_roundw
     case rel=>
      refine ⟨k + 1,by omega,by go_num,fun j hj=>?_,(((hx5.trans hx2).alloc _).trans hx4),?_⟩
      ·by_cases ej : j = k
       ·subst ej; rw [HX.out]; exact HE.out
       ·exact HJ.out j (by omega)
      ·rw [BX _ _ _ hlt,HX.out]
       exact le (le h4)
     case measure=>simp [intOf]; omega
    ·have hok' : lV (x1,x2) 40 = false:=by simpa using hok
     have hfin:=HB.out k hlt (by rw [HX.out]; exact hok')
     have HF:=zh hfin
     rw [hok']
     clear hfin hok' hok cc ff
     go_wp2_with fail
     go_ret2
     exact ⟨by rw [HF.out]; rfl,hx5.trans hx2,le (le h2)⟩
   ·have hx : t.getD (8 * r + k) (0,0) = (0,0):=by simp [List.getD,show t.length <= 8 * r + k by omega]
    have HX:=zh hx
    clear hx
    obtain ⟨cc,ff⟩:=ld 0 ha rfl
    have h5:=ha
    have hx5:=hxa
    go_wp2_with fail
    refine (GV 0 0 40 _ _ h5).mono ?_
    rintro e w2 ⟨rfl,hx2,h2⟩
    by_cases hok : lV (0,0) 40 = true
    ·rw [hok]
     obtain ⟨y1,y2,y3,y4⟩:=DF hok
     dsimp only at y1 y2 y3 y4
     have y5 : 0 < 40:=by omega
     have HE:=zh hok
     clear hok y4 cc ff
     obtain ⟨cc,ff⟩:=ld 0 h2 rfl
     have h3:=li h2 (.cells #[.int .u8 0,.int .u8 0] 5)
     have hml : 2 * k + 2 <= maxLen:=by simp only [maxLen]; omega
     go_wp2_with (first | (at_builtin; refine lE rfl _ _ 211 rfl 2 5 Tryz.underlying211 Bk rfl (by decide) rfl h3 rfl (some ⟨w2.heap.size,0,none⟩) 2 2 [.int .u8 0,.int .u8 0] rfl rfl (oy w2 [.int .u8 0,.int .u8 0] _) (fun h=>by cases h) (DR _ _) hml (by omega) ?_))
     intro v4 w4 h4 hx4
     obtain ⟨a4,g4,c4,rfl,z1,z2,-,-,-,-,-⟩:=lk 2 h4 rfl
     go_wp2_with fail
     go_roundw
     case rel=>
      refine ⟨k + 1,by omega,by go_num,fun j hj=>?_,(((hx5.trans hx2).alloc _).trans hx4),?_⟩
      ·by_cases ej : j = k
       ·subst ej; rw [HX.out]; exact HE.out
       ·exact HJ.out j (by omega)
      ·rw [BX _ _ _ hlt,HX.out]
       exact le (le h4)
     case measure=>simp [intOf]; omega
    ·have hok' : lV (0,0) 40 = false:=by simpa using hok
     have hfin:=HB.out k hlt (by rw [HX.out]; exact hok')
     have HF:=zh hfin
     rw [hok']
     clear hfin hok' hok cc ff
     go_wp2_with fail
     go_ret2
     exact ⟨by rw [HF.out]; rfl,hx5.trans hx2,le (le h2)⟩
  ·have hk8 : k = 8:=by omega
   subst hk8
   have hok:=HK.out HJ.out
   have hall : (oW t r).take 8 = oW t r:=List.take_of_length_le (by rw [A7]; omega)
   rw [hall] at hown
   have hlen : (Ab (oW t r)).length = 2 * 8:=by rw [Dz,A7]
   have hcv:=EC 0 hlen hown rfl (by omega)
   have HF:=zh hok
   clear hok hall hlen
   generalize strOfNums (Ab (oW t r)) = z at *
   simp only [Nat.reduceMul] at hcv
   go_wp2_with fail
   go_ret2
   exact ⟨by rw [HF.out]; rfl,hxr,le hown⟩
end Go.Proofs.YtbpblokfiajpjabGreatDoor
namespace Go.Proofs.YtbpblokfiajpjabGreatDoor
open Go.RowKit Go.SL
theorem B7 (b : Nat) (m : DevM) (hm : m.Ok) (n : Int) (s : ByteArray) (hs : s.size <= 9223372036854775807) (hwl : m.writes < 1000000) (hpl : m.pend.length < 1000000) (R : List SL.HP) (w : World) (H : own w (lo b m::R)) :
  Calls Tryz.prog 163 #[.pointer (some ⟨b,0,none⟩),.int .i64 n,.string s] w fun e w'=>e = .returned (.int .i64 (m.write n s).1) /\ Ext w w' /\ own w' (lo b (m.write n s).2::R):=by
 obtain ⟨vf,va,vw,h⟩:=As H
 have hl1:=hm.n
 obtain ⟨hf1,hf2⟩:=hm.fail
 obtain ⟨hw1,hw2⟩:=hm.writes
 obtain ⟨af,gf,cf,rfl,f1,f2,-,-,-,-,-⟩:=lk 1 h rfl
 by_cases hb : m.bad n s = true
 ·have e : m.write n s = (1,m):=by unfold DevM.write; rw [if_pos hb]
  rw [e]
  obtain ⟨c,f⟩:=ld 0 h rfl
  simp only [DevM.bad,Bool.or_eq_true,decide_eq_true_eq] at hb
  by_cases h0 : n < 0
  ·go_enter Tryz.func163,Tryz.ntmps163
   go_wp2_with fail
   all_goals go_ret
   all_goals exact ⟨rfl,Ext.refl _,H⟩
  ·by_cases h1 : (m.fl.length : Int) <= n
   ·go_enter Tryz.func163,Tryz.ntmps163
    go_wp2_with fail
    all_goals go_ret
    all_goals exact ⟨rfl,Ext.refl _,H⟩
   ·have h2 : s.size≠16:=by omega
    clear hb
    go_enter Tryz.func163,Tryz.ntmps163
    go_wp2_with fail
    all_goals go_ret
    all_goals exact ⟨rfl,Ext.refl _,H⟩
 ·have hb':=hb
  simp only [DevM.bad,Bool.or_eq_true,decide_eq_true_eq,not_or] at hb'
  obtain ⟨⟨h0,h1⟩,h2⟩:=hb'
  have h0 : 0 <= n:=by omega
  have h1 : n < m.fl.length:=by omega
  have h2 : s.size = 16:=by omega
  by_cases hz : m.fail = 0
  ·have e : m.write n s = (7,{ m with fail:=-1 }):=by unfold DevM.write; rw [if_neg hb,if_pos hz]
   rw [e]
   clear hb
   obtain ⟨c,f⟩:=ld 0 h rfl
   go_enter Tryz.func163,Tryz.ntmps163
   go_wp2_with fail
   all_goals go_ret
   all_goals exact ⟨rfl,(Ext.refl _).setCell _ _,yK (m:={ m with fail:=-1 }) (lg 0 h rfl)⟩
  ·have e : m.write n s = (0,{ m with fail:=if 0 < m.fail then m.fail - 1 else m.fail,pend:=m.pend++[(n,s)],writes:=m.writes + 1 }):=by unfold DevM.write; rw [if_neg hb,if_neg hz]
   rw [e]
   clear hb e
   obtain ⟨aa,ga,ca,rfl,p1,p2,-,-,-,-,-⟩:=lk 2 h rfl
   obtain ⟨aw,gw,cw,rfl,p3,p4,-,-,-,-,-⟩:=lk 3 h rfl
   obtain ⟨c,f⟩:=ld 0 h rfl
   have hml : m.pend.length + 1 <= maxLen:=by simp only [maxLen]; omega
   by_cases hpos : 0 < m.fail
   all_goals
    first
    | rw [if_pos hpos]
    | rw [if_neg hpos]
    go_enter Tryz.func163,Tryz.ntmps163
    go_upto_region 8 with (fail)
   all_goals first
   | (
    have hyes : 0 < m.fail:=hpos
    have h3:=lg (i:=2 + 1) (v:=.int .i64 (m.fail - 1)) 0 h rfl
    have hx3:=(Ext.refl w).setCell ⟨b,3,none⟩ (.int .i64 (m.fail - 1))
    generalize w.setCell ⟨b,3,none⟩ (.int .i64 (m.fail - 1)) = w3 at *
    have hF:=zh (rfl : m.fail - 1 = m.fail - 1))
   | (
    have h3:=h
    obtain ⟨w3,hw3⟩ : ∃w3,w3 = w:=⟨w,rfl⟩
    subst hw3
    have hx3:=Ext.refl w3
    have hF:=zh (rfl : m.fail = m.fail))
   all_goals
    clear c f
    obtain ⟨c,f⟩:=ld 0 h3 rfl
    have ha:=li h3 (.cells #[.int .i64 n] 3)
    go_wp2_with (first | (at_builtin; refine lE rfl _ _ 95 rfl 3 3 Tryz.underlying95 BV rfl (by decide) rfl ha rfl (some ⟨w3.heap.size,0,none⟩) 1 1 [.int .i64 n] rfl rfl (oy w3 [.int .i64 n] _) (fun h=>by cases h) (Fs _) hml (by omega) ?_))
    clear c f
    intro v4 w4 h4 hx4
    obtain ⟨a4,g4,c4,rfl,q1,q2,-,-,-,-,-⟩:=lk 3 h4 rfl
    obtain ⟨c,f⟩:=ld 1 h4 rfl
    go_upto_region 9 with (fail)
    have h5:=le (lg (i:=1) (v:=.slice a4 (m.pend.length + 1) c4) 1 h4 rfl)
    have hx5:=((hx3.alloc (.cells #[.int .i64 n] 3)).trans hx4).setCell ⟨b,1,none⟩ (.slice a4 (m.pend.length + 1) c4)
    generalize w4.setCell ⟨b,1,none⟩ (.slice a4 (m.pend.length + 1) c4) = w5 at *
    clear c f h4 ha
    obtain ⟨c,f⟩:=ld 0 h5 rfl
    have ha:=li h5 (.cells #[.string s] 9)
    go_wp2_with (first | (at_builtin; refine lE rfl _ _ 51 rfl 4 9 Tryz.underlying51 BB rfl (by decide) rfl ha rfl (some ⟨w5.heap.size,0,none⟩) 1 1 [.string s] rfl rfl (oy w5 [.string s] _) (fun h=>by cases h) (KQ _) hml (by omega) ?_))
    clear c f
    intro v6 w6 h6 hx6
    obtain ⟨a6,g6,c6,rfl,q3,q4,-,-,-,-,-⟩:=lk 4 h6 rfl
    obtain ⟨c,f⟩:=ld 1 h6 rfl
    go_wp2_with fail
    go_ret
    refine ⟨rfl,?_,?_⟩
    ·exact (((hx5.alloc _).trans hx6).setCell _ _).setCell _ _
    ·have h7:=lg (i:=2) (v:=.slice a6 (m.pend.length + 1) c6) 1 h6 rfl
     have h8:=lg (i:=4) (v:=.int .i64 (m.writes + 1)) 1 h7 rfl
     have h9:=le h8
     have ep : (m.pend++[(n,s)]).length = m.pend.length + 1:=by simp
     have ec : AC (m.pend++[(n,s)]) = AC m.pend++[.int .i64 n]:=by simp [AC]
     have ed : zW (m.pend++[(n,s)]) = zW m.pend++[.string s]:=by simp [zW]
     first
     | exact yK (m:={ m with fail:=m.fail - 1,pend:=m.pend++[(n,s)],writes:=m.writes + 1 }) (by dsimp only; rw [ep,ec,ed]; exact h9)
     | exact yK (m:={ m with fail:=m.fail,pend:=m.pend++[(n,s)],writes:=m.writes + 1 }) (by dsimp only; rw [ep,ec,ed]; exact h9)
def Tl (b : Nat) (m : DevM) (vf va vw : Value) (R : List SL.HP) (w0 : World) (i : Value) (wr : World) : Prop:=
 ∃q : Nat,q <= m.pend.length /\ i = .int .i64 q /\ Ext w0 wr /\ own wr (pts b (.cells #[vf,va,vw,.int .i64 m.fail,.int .i64 m.writes] 162 (0,0))::row 9 1 vf m.fl.length (strCells ((m.pend.take q).foldl B4 m.fl))::row 3 1 va m.pend.length (AC m.pend)::row 9 1 vw m.pend.length (zW m.pend)::R)
theorem Ea (b : Nat) (m : DevM) (hm : m.Ok) (R : List SL.HP) (w : World) (H : own w (lo b m::R)) :
  Calls Tryz.prog 164 #[.pointer (some ⟨b,0,none⟩)] w fun e w'=>e = .returned (.tuple #[]) /\ Ext w w' /\ own w' (lo b m.flush::R):=by
 obtain ⟨vf,va,vw,h⟩:=As H
 have hl1:=hm.n
 have hl2:=hm.p
 obtain ⟨aa,ga,ca,rfl,p1,p2,p3,-,-,-,-⟩:=lk 2 h rfl
 obtain ⟨aw,gw,cw,rfl,p4,p5,p6,-,-,-,-⟩:=lk 3 h rfl
 obtain ⟨af,gf,cf,rfl,f1,f2,f3,-,-,-,-⟩:=lk 1 h rfl
 have P3:=zh p3
 have P6:=zh p6
 have F3:=zh f3
 clear p3 f3 p6
 go_enter Tryz.func164,Tryz.ntmps164
 go_wp2_with fail
 go_loopw [2] (Tl b m (.slice af m.fl.length cf) (.slice aa m.pend.length ca) (.slice aw m.pend.length cw) R w) (fun i _=>m.pend.length - (intOf i).toNat)
 case atStart=>exact ⟨0,Nat.zero_le _,rfl,Ext.refl _,h⟩
 case round=>
  clear h H
  obtain ⟨q,hq,rfl,hxr,hown⟩:=hrel
  obtain ⟨c,f⟩:=ld 0 hown rfl
  by_cases hlt : q < m.pend.length
  ·obtain rfl:=P3.out (by omega)
   obtain rfl:=P6.out (by omega)
   obtain ⟨x1,x2,x3⟩:=hm.pend _ (M6 hlt)
   have c1:=(lJ 2 hown rfl).1 q _ (G6 hlt)
   have c2:=(lJ 3 hown rfl).1 q _ (GG hlt)
   have hto:=zi (0,ByteArray.empty) hlt
   have HT:=zh hto
   clear hto
   generalize hx : m.pend.getD q (0,ByteArray.empty) = x at *
   clear hx
   obtain ⟨n,s⟩:=x
   dsimp only at x1 x2 x3 c1 c2
   obtain ⟨k,rfl⟩:=ze x1
   obtain rfl:=F3.out (by omega)
   obtain ⟨k2,k3⟩:=lJ 1 hown rfl
   have hlen:=oB (m.pend.take q) m.fl
   generalize hfq : (m.pend.take q).foldl B4 m.fl = fq at *
   have HFQ:=zh hfq
   clear hfq
   have c3:=k2 k _ (AE (by omega))
   clear k2
   go_upto_region 3 with (fail)
   go_still_tail 18,(by kernel_rfl)
   change wpList _ _ _ _ _ wr.drew
   go_wp2_with fail
   go_roundw
   case rel=>
    have h5:=Au 1 k (.string s) (lj hown) rfl (by omega)
    refine ⟨q + 1,by omega,by go_num,hxr.drew.setCell _ _,?_⟩
    rw [HT.out,List.foldl_append,HFQ.out]
    simp only [List.foldl_cons,List.foldl_nil,B4,zn,CX]
    exact h5
   case measure=>simp [intOf]; omega
  ·have hq' : q = m.pend.length:=by omega
   subst hq'
   go_wp2_with fail
   go_end0
   refine ⟨rfl,(hxr.setCell _ _).setCell _ _,?_⟩
   have h5:=lg (i:=1) (v:=.slice none 0 0) 0 hown rfl
   have h5:=lg (i:=2) (v:=.slice none 0 0) 0 h5 rfl
   have h6:=lh 3 h5 rfl
   have h6:=lh 2 h6 rfl
   have h7:=lu [_,_] (lv 9 1 h6)
   have h7:=lu [_,_] (lv 3 1 h7)
   rw [List.take_length] at h7
   refine yK (m:=m.flush) (vf:=.slice af m.fl.length cf) (va:=.slice none 0 0) (vw:=.slice none 0 0) ?_
   simp only [DevM.flush,oB]
   exact h7
def Vh (b : Nat) (n : Nat) (R : List SL.HP) (w0 : World) (i : Value) (wr : World) : Prop:=
 ∃q : Nat,q <= n /\ i = .int .i64 q /\ Ext w0 wr /\ ∃ao g cap,q <= cap /\ cap <= maxLen /\ own wr (pts b (.cells #[.slice ao q cap,.slice none 0 0,.slice none 0 0,.int .i64 (-1),.int .i64 0] 162 (0,0))::row 9 1 (.slice ao q cap) q (strCells (List.replicate q yW))::R) /\ (0 < q -> ao = some ⟨g,0,none⟩)
theorem Kn (R : List SL.HP) (w : World) (H : own w R) : Calls Tryz.prog 92 #[.int .i64 16] w fun e w'=>e = .returned (.string yW) /\ Ext w w' /\ own w' R:=A0 16 (by decide) R w H
theorem TW (n : Nat) (R : List SL.HP) (w : World) (hn : n <= 200) (H : own w R) : Calls Tryz.prog 64 #[.int .i64 n] w fun e w'=>∃b,e = .returned (.pointer (some ⟨b,0,none⟩)) /\ Ext w w' /\ own w' (lo b (ow n)::R):=by
 go_enter Tryz.func64,Tryz.ntmps64
 go_upto_region 2 with (fail)
 have ha:=li H (.cells #[.slice none 0 0,.slice none 0 0,.slice none 0 0,.int .i64 (-1),.int .i64 0] 162)
 have hx1:=(Ext.refl w).alloc (.cells #[.slice none 0 0,.slice none 0 0,.slice none 0 0,.int .i64 (-1),.int .i64 0] 162)
 generalize w.heap.size = b at *
 generalize w.alloc (.cells #[.slice none 0 0,.slice none 0 0,.slice none 0 0,.int .i64 (-1),.int .i64 0] 162) = w1 at *
 have h1:=lu [_] (lv 9 1 ha)
 clear ha
 go_wp2_with fail
 go_loopw [4] (Vh b n R w) (fun i _=>n - (intOf i).toNat)
 case atStart=>exact ⟨0,Nat.zero_le _,rfl,hx1,none,0,0,Nat.le_refl _,by simp [maxLen],h1,fun h=>absurd h (by simp)⟩
 case round=>
  clear h1 hx1
  obtain ⟨q,hq,rfl,hxr,ao,g,cap,q1,q2,hown,q3⟩:=hrel
  by_cases hlt : q < n
  ·have hml : q + 1 <= maxLen:=by simp only [maxLen]; omega
   clear q3
   go_upto_region 5 with (fail)
   obtain ⟨c,f⟩:=ld 0 (lj hown) rfl
   go_region_law (first | (refine BI (by rfl) _ _ 51 (by rfl) 2 9 Tryz.underlying51 BB rfl (by decide) (by rfl) (li h2 _) rfl (some ⟨w2.heap.size,0,none⟩) 1 1 [.string yW] (by rfl) rfl (oy w2 [.string yW] _) (fun h=>by cases h) (KQ _) hml (by omega) ?_; intro v4 w4 h4 hx4; obtain ⟨a4,g4,c4,rfl,s1,s2,s3,-,-,-,-⟩:=lk 2 h4 rfl; obtain rfl:=s3 (by omega); obtain ⟨cc,ff⟩:=ld 1 h4 rfl) | (go_simp; go_at_call 92; refine (Kn _ _ (lj hown)).mono ?_; rintro e w2 ⟨rfl,hx2,h2⟩; obtain ⟨c2,f2⟩:=ld 0 h2 rfl; have h2a:=li h2 (.cells #[.string yW] 9); obtain ⟨c3,f3⟩:=ld 1 h2a rfl))
   all_goals
    go_wp2_with fail
    go_roundw
    case rel=>
     have h5:=lg (i:=0) (v:=.slice (some ⟨g4,0,none⟩) (q + 1) c4) 1 h4 rfl
     refine ⟨q + 1,by omega,by go_num,?_,_,g4,c4,s1,s2,?_,fun _=>rfl⟩
     ·exact (((hxr.drew.trans hx2).alloc _).trans hx4).setCell _ _
     ·have h6:=le h5
      have e : strCells (List.replicate (q + 1) yW) = strCells (List.replicate q yW)++[.string yW]:=by simp [strCells,List.replicate_succ']
      rw [e]
      exact h6
    case measure=>simp [intOf]; omega
  ·have hq' : q = n:=by omega
   subst hq'
   clear q3
   go_wp2_with fail
   go_ret
   refine ⟨b,rfl,hxr,yK (m:=ow q) (vf:=.slice ao q cap) (va:=.slice none 0 0) (vw:=.slice none 0 0) ?_⟩
   have h5:=lu [_,_] (lv 9 1 hown)
   have h5:=lu [_,_] (lv 3 1 h5)
   simp only [ow,List.length_replicate]
   exact h5
end Go.Proofs.YtbpblokfiajpjabGreatDoor
namespace Go.Proofs.YtbpblokfiajpjabGreatDoor
open Go.RowKit Go.SL
attribute [local go_sem ↓] Go.wp_at_zero Go.wp_at_succ
theorem Ld (b1 b2 : Nat) (m : DevM) (hm : m.Ok) (R : List SL.HP) (w : World) (H : own w (ll b1 m::lo b2 m::R)) :
  Calls Tryz.prog 124 #[.pointer (some ⟨b1,0,none⟩),.pointer (some ⟨b2,0,none⟩)] w fun e w'=>e = .returned (.bool true) /\ Ext w w' /\ own w' (ll b1 m::lo b2 m::R):=by
 obtain ⟨vf,va,vw,h⟩:=As (lu [_] H)
 have hl1:=hm.n
 obtain ⟨aa,ga,ca,rfl,p1,p2,-,-,-,-,-⟩:=lk 2 h rfl
 obtain ⟨af,gf,cf,rfl,f1,f2,-,-,-,-,-⟩:=lk 1 h rfl
 obtain ⟨c,f⟩:=ld 0 h rfl
 have hd:=lj h
 go_enter Tryz.func124,Tryz.ntmps124
 go_upto_region 1 with (fail)
 go_region_held3 (fun w'=>w'.cell? ⟨b2,0,none⟩ = some (.slice af m.fl.length cf) /\ w'.cell? ⟨b2,1,none⟩ = some (.slice aa m.pend.length ca) /\ w'.cell? ⟨b2,4,none⟩ = some (.int .i64 m.writes)) (first | exact ⟨(ld 0 hd rfl).1 0,(ld 0 hd rfl).1 1,(ld 0 hd rfl).1 4⟩ | exact ⟨(ld 0 h2 rfl).1 0,(ld 0 h2 rfl).1 1,(ld 0 h2 rfl).1 4⟩)
  (first | (go_at_call 212; refine (JC b1 m _ _ (lt 4 hd rfl)).mono ?_; rintro e w' ⟨rfl,rfl⟩) | (go_at_call 213; refine (NV b1 m _ _ (lt 4 hd rfl)).mono ?_; rintro e w' ⟨rfl,rfl⟩) | (go_at_call 214; refine (QK b1 m _ _ (lt 4 hd rfl)).mono ?_; rintro e w' ⟨rfl,rfl⟩) | (go_at_call 215; refine (SM b1 m hm _ _ (lt 4 hd rfl)).mono ?_; rintro e w2 ⟨rfl,hx2,h2'⟩; have h2:=oh hd 4 rfl h2') | (go_at_call 216; refine (Pw b2 m hm _ _ (yK h2)).mono ?_; rintro e w' ⟨rfl,rfl⟩))
 have h3 : own w2 (lo b2 m::ll b1 m::R):=yK h2
 have h4 : own w2 (ll b1 m::lo b2 m::R):=lu [_] h3
 have hx3 : Ext w w2:=(Ext.refl w).drew.trans hx2
 clear c f
 obtain ⟨c,f⟩:=ld 0 h2 rfl
 clear h2 h2' hx2 hd h H
 go_wp2_with fail
 go_loop [5] (fun i=>∃q : Nat,q <= m.fl.length /\ i = .int .i64 q) (fun i=>m.fl.length - (intOf i).toNat)
 case atStart=>exact ⟨0,Nat.zero_le _,rfl⟩
 case round=>
  obtain ⟨q,hq,rfl⟩:=hrel
  by_cases hlt : q < m.fl.length
  ·go_wp2_with fail
   refine (EM b1 m hm q _ w2 h4).mono ?_
   rintro e w' ⟨rfl,rfl⟩
   rw [if_neg (by omega)]
   go_wp2_with fail
   refine (DH b2 m hm q (by omega) (by omega) _ w2 h3).mono ?_
   rintro e w' ⟨rfl,rfl⟩
   go_wp2_with fail
   go_round
   case rel=>exact ⟨q + 1,by omega,by go_num⟩
   case measure=>simp [intOf]; omega
  ·go_wp2_with fail
   go_ret
   exact ⟨rfl,hx3,h4⟩
def Ft : ByteArray:=⟨#[48,49,50,51,52,53,54,55,56,57,97,98,99,100,101,102]⟩
end Go.Proofs.YtbpblokfiajpjabGreatDoor
namespace Go.Proofs.YtbpblokfiajpjabGreatDoor
open Go.RowKit Go.SL Go.Crc
attribute [local go_sem ↓] Go.wp_at_zero Go.wp_at_succ
def zc (P : Int) (t : List Ent) (e : Ent) : Bool:=!lV e P || (decide (e.1 = 2) && t.contains e)
def yM (C : Nat) (P : Int) : List Ent -> List Ent -> Option (List Ent)
 | t,[]=>some t
 | t,e::l=>if t.length = C then (if e = (0,0) then yM C P t l else none) else if zc P t e then none else yM C P (t++[e]) l
def sEnt (s : ByteArray) (k : Nat) : Ent:=(bt s (2 * k),bt s (2 * k + 1))
def B3 (s : ByteArray) : List Ent:=(List.range 8).map (sEnt s)
def yA (C : Nat) (P : Int) : List Ent -> List ByteArray -> List Ent×Int
 | t,[]=>(t,0)
 | t,s::l=>if s.size≠16 then ([],1) else match yM C P t (B3 s) with
  | none=>([],2)
  | some t'=>yA C P t' l
def zE (c p b : Int) (rows : List ByteArray) : List Ent×Int:=
 if lG c p b then ([],1) else if rows.length≠lr c.toNat then ([],1) else yA c.toNat p [] rows
theorem Ir (s : ByteArray) : (B3 s).length = 8:=by simp [B3]
theorem Kh (s : ByteArray) {k : Nat} (h : k < 8) : (B3 s).drop k = sEnt s k::(B3 s).drop (k + 1):=by
 rw [List.drop_eq_getElem_cons (by rw [Ir]; exact h)]
 simp [B3]
theorem LK (s : ByteArray) : (B3 s).drop 8 = []:=List.drop_of_length_le (by rw [Ir]; omega)
theorem zJ {α : Type} (d : α) {l : List α} {i : Nat} (h : i < l.length) : l.drop i = l.getD i d::l.drop (i + 1):=by
 rw [List.drop_eq_getElem_cons h]; simp [h]
theorem IK {C : Nat} {P : Int} {t l : List Ent} (h : t.length = C) : yM C P t ((0,0)::l) = yM C P t l:=by
 rw [yM,if_pos h,if_pos rfl]
theorem FA {C : Nat} {P : Int} {t l : List Ent} {e : Ent} (h : t.length = C) (he : e≠(0,0)) : yM C P t (e::l) = none:=by
 rw [yM,if_pos h,if_neg he]
theorem B0 {C : Nat} {P : Int} {t l : List Ent} {e : Ent} (h : t.length≠C) (he : zc P t e = true) : yM C P t (e::l) = none:=by
 rw [yM,if_neg h,if_pos he]
theorem Du {C : Nat} {P : Int} {t l : List Ent} {e : Ent} (h : t.length≠C) (he : zc P t e = false) : yM C P t (e::l) = yM C P (t++[e]) l:=by
 rw [yM,if_neg h,if_neg (by simp [he])]
theorem GF {C : Nat} {P : Int} {t : List Ent} {s : ByteArray} {l : List ByteArray} (h : s.size≠16) : yA C P t (s::l) = ([],1):=by rw [yA,if_pos h]
theorem zw {C : Nat} {P : Int} {t : List Ent} {s : ByteArray} {l : List ByteArray} (h : s.size = 16) (hn : yM C P t (B3 s) = none) : yA C P t (s::l) = ([],2):=by
 rw [yA,if_neg (by simpa using h),hn]
theorem GZ {C : Nat} {P : Int} {t t' : List Ent} {s : ByteArray} {l : List ByteArray} (h : s.size = 16) (hn : yM C P t (B3 s) = some t') : yA C P t (s::l) = yA C P t' l:=by
 rw [yA,if_neg (by simpa using h),hn]
def lF (l : List Ent) : List Value:=l.flatMap fun e=>[.int .i64 e.1,.int .i64 e.2]
theorem EK (l : List Ent) : (lF l).length = l.length * 2:=by
 induction l with
 | nil=>rfl
 | cons x l ih=>simp only [lF,List.flatMap_cons,List.length_append,List.length_cons,List.length_nil] at ih ⊢; omega
theorem AQ (l m : List Ent) : lF (l++m) = lF l++lF m:=by simp [lF]
theorem lD {l : List Ent} : ∀{i : Nat},i < l.length -> (lF l)[i * 2]? = some (.int .i64 (l.getD i (0,0)).1) /\ (lF l)[i * 2 + 1]? = some (.int .i64 (l.getD i (0,0)).2):=by
 induction l with
 | nil=>intro i h; simp at h
 | cons x l ih=>
  intro i h
  cases i with
  | zero=>simp [lF]
  | succ i=>
   have:=ih (i:=i) (by simpa using h)
   simp only [lF,List.flatMap_cons] at this ⊢
   have e : (i + 1) * 2 = i * 2 + 2:=by omega
   rw [e]
   simpa using this
theorem FO (a b : Int) : ∀u∈[Value.int .i64 a,Value.int .i64 b],u.oneCell' = true:=fun u hu=>by simp at hu; rcases hu with rfl | rfl <;> rfl
theorem Bt : Elem Tryz.prog 221 2 16 (.agg #[.int .i64 0,.int .i64 0]):=by unfold Elem; kernel_rfl
theorem zx.cells {w : World} {b off n cap : Nat} {l : List ByteArray} (h : zx w (.slice (some ⟨b,off,none⟩) n cap) l) {i : Nat} (hi : i < l.length) : w.cell? ⟨b,off + i,none⟩ = some (.string (l.getD i ByteArray.empty)):=by
 obtain ⟨⟨ao,b',off',cap',hv,h1,h2,h3,h4⟩,_⟩:=h
 simp only [Value.slice.injEq] at hv
 have h5:=h3 (by omega)
 rw [<- hv.1] at h5
 simp only [Option.some.injEq,Addr.mk.injEq,and_true] at h5
 obtain ⟨rfl,rfl⟩:=h5
 exact h4 i hi
end Go.Proofs.YtbpblokfiajpjabGreatDoor
