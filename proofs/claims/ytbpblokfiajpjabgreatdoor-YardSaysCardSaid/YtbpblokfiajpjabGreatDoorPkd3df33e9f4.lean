/- Lemmas on which YardSays stands: the texts Shape5 Shape6 Shape7 RDev2 RDev3 DevLaw Shape13. No conditions. -/
import Derived.Test.YtbpblokfiajpjabGreatDoorPk50cb3ae76c
set_option linter.all false
set_option maxRecDepth 1000000
set_option maxHeartbeats 32000000
namespace Go.Proofs.YtbpblokfiajpjabGreatDoor
open Go.RowKit Go.SL Go.Crc
attribute [local go_sem ↓] Go.wp_at_zero Go.wp_at_succ
theorem Ai {s : ByteArray} {i : Nat} (h : s.size = 16) (hi : i < 12) : bt (s.extract 0 12) i = bt s i:=by
 unfold bt
 simp only [ByteArray.data_extract,Array.toList_extract,List.extract]
 congr 1
 simp [hi]
theorem Nc (s : ByteArray) (hs : s.size <= 9223372036854775807) (R : List SL.HP) (w : World) (H : own w R) :
  Calls Tryz.prog 196 #[.string s] w fun e w'=>e = .returned (.tuple #[lM (o7 s).1.1 (o7 s).1.2.1 (o7 s).1.2.2,errV (o7 s).2]) /\ Ext w w' /\ own w' R:=by
 have ha:=li H (.cells #[.int .i64 0,.int .i64 0,.int .i64 0] 103)
 have hxa:=(zR w).alloc (.cells #[.int .i64 0,.int .i64 0,.int .i64 0] 103)
 rcases Bw s with hF | hF
 ·have h16:=Et hF
  have e : o7 s = if zo s then ((0,0,0),2) else ((bt s 2,bt s 3,bt s 4 - 1),0):=by rw [o7,zq (by omega)]
  rw [e]
  clear e
  have h16' : (s.size : Int) = 16:=by omega
  go_enter Tryz.func196,Tryz.ntmps196
  go_upto_region 1 with (fail)
  generalize w.heap.size = g at *
  generalize w.alloc (.cells #[.int .i64 0,.int .i64 0,.int .i64 0] 103) = w1 at *
  go_wp2_with fail
  refine (Gy s hs _ w1 ha).mono ?_
  rintro e w2 ⟨rfl,hx2,h2⟩
  rw [hF,oa,show MM s = s.extract 0 12 from zt hF]
  have hu : (s.extract 0 12).size = 12:=by simp [ByteArray.size_extract,h16]
  have g2:=Ai (i:=2) h16 (by decide)
  have g3:=Ai (i:=3) h16 (by decide)
  have g4:=Ai (i:=4) h16 (by decide)
  generalize s.extract 0 12 = u at *
  have hu' : (u.size : Int) = 12:=by omega
  have q2:=yV (s:=u) (i:=2) (by omega)
  have q3:=yV (s:=u) (i:=3) (by omega)
  have q4:=yV (s:=u) (i:=4) (by omega)
  rw [g2] at q2
  rw [g3] at q3
  rw [g4] at q4
  clear g2 g3 g4
  have l2:=zG s 2
  have l3:=zG s 3
  have l4:=zG s 4
  have hcond : zo s↔(lF (bt s 2) (bt s 3) (bt s 4 - 1) \/ lN (bt s 2) (bt s 3) (bt s 4 - 1)≠s):=Iff.rfl
  have HCD:=zh hcond
  clear hcond
  generalize b2 : bt s 2 = x2 at *
  generalize b3 : bt s 3 = x3 at *
  generalize b4 : bt s 4 = x4 at *
  have HX:=zh (And.intro b2 (And.intro b3 (show bt s 4 - 1 = x4 - 1 by rw [b4])))
  clear b2 b3 b4
  have e2 : IntKind.i64.wrap x2 = x2:=zi _ (by omega)
  have e3 : IntKind.i64.wrap x3 = x3:=zi _ (by omega)
  have e4 : IntKind.i64.wrap x4 = x4:=zi _ (by omega)
  have e5 : IntKind.i64.wrap (x4 - 1) = x4 - 1:=zi _ (by omega)
  go_upto_region 4 with (fail)
  refine wp_region_held_drew (S:=fun _=>True) (by kernel_rfl) trivial (fun hHeld=>?_)
  refine wpAnyH_take (i:=0) (v:=?_) rfl (by kernel_rfl) (by kernel_rfl) (by kernel_rfl) (fun _ _ _ h=>h) (Or.inl ⟨by rfl,?_⟩) (by assumption) ?_
  rotate_left
  ·intro w hSw
   go_simp
   try with_reducible rfl
  try simp only [Act.put,tA,tB,tC,tD,tE,tF]
  refine wpAnyH_take (i:=1) (v:=?_) rfl (by kernel_rfl) (by kernel_rfl) (by kernel_rfl) (fun _ _ _ h=>h) (Or.inl ⟨by rfl,?_⟩) (by assumption) ?_
  rotate_left
  ·intro w hSw
   go_simp
   try with_reducible rfl
  try simp only [Act.put,tA,tB,tC,tD,tE,tF]
  refine wpAnyH_take (i:=2) (v:=?_) rfl (by kernel_rfl) (by kernel_rfl) (by kernel_rfl) (fun _ _ _ h=>h) (Or.inl ⟨by rfl,?_⟩) (by assumption) ?_
  rotate_left
  ·intro w hSw
   go_simp
   try with_reducible rfl
  try simp only [Act.put,tA,tB,tC,tD,tE,tF]
  refine wpAnyH_take (i:=3) (v:=?_) rfl (by kernel_rfl) (by kernel_rfl) (by kernel_rfl) (fun _ _ _ h=>h) (Or.inl ⟨by rfl,?_⟩) (by assumption) ?_
  rotate_left
  ·intro w hSw
   go_simp
   try with_reducible rfl
  try simp only [Act.put,tA,tB,tC,tD,tE,tF]
  refine wpAnyH_take (i:=4) (v:=?_) rfl (by kernel_rfl) (by kernel_rfl) (by kernel_rfl) (fun _ _ _ h=>h) (Or.inl ⟨by rfl,?_⟩) (by assumption) ?_
  rotate_left
  ·intro w hSw
   go_simp
   try with_reducible rfl
  try simp only [Act.put,tA,tB,tC,tD,tE,tF]
  refine wpAnyH_take (i:=5) (v:=?_) rfl (by kernel_rfl) (by kernel_rfl) (by kernel_rfl) (fun _ _ _ h=>h) (Or.inl ⟨by rfl,?_⟩) (by assumption) ?_
  rotate_left
  ·intro w hSw
   go_simp
   try with_reducible rfl
  try simp only [Act.put,tA,tB,tC,tD,tE,tF]
  refine wpAnyH_take (i:=6) (v:=?_) rfl (by kernel_rfl) (by kernel_rfl) (by kernel_rfl) (fun _ _ _ h=>h) (Or.inl ⟨by rfl,?_⟩) (by assumption) ?_
  rotate_left
  ·intro w hSw
   go_simp
   try with_reducible rfl
  try simp only [Act.put,tA,tB,tC,tD,tE,tF]
  refine wpAnyH_take (i:=7) (v:=?_) rfl (by kernel_rfl) (by kernel_rfl) (by kernel_rfl) (fun _ _ _ h=>h) (Or.inl ⟨by rfl,?_⟩) (by assumption) ?_
  rotate_left
  ·intro w hSw
   go_simp
   try with_reducible rfl
  try simp only [Act.put,tA,tB,tC,tD,tE,tF]
  refine wpAnyH_take (i:=8) (v:=?_) rfl (by kernel_rfl) (by kernel_rfl) (by kernel_rfl) (fun _ _ _ h=>h) (Or.inl ⟨by rfl,?_⟩) (by assumption) ?_
  rotate_left
  ·intro w hSw
   go_simp
   try with_reducible rfl
  try simp only [Act.put,tA,tB,tC,tD,tE,tF]
  refine wpAnyH_take (i:=9) (v:=?_) rfl (by kernel_rfl) (by kernel_rfl) (by kernel_rfl) (fun _ _ _ h=>h) (Or.inl ⟨by rfl,?_⟩) (by assumption) ?_
  rotate_left
  ·intro w hSw
   go_simp
   try with_reducible rfl
  try simp only [Act.put,tA,tB,tC,tD,tE,tF]
  refine wpAnyH_take (i:=10) (v:=?_) rfl (by kernel_rfl) (by kernel_rfl) (by kernel_rfl) (fun _ _ _ h=>h) (Or.inl ⟨by rfl,?_⟩) (by assumption) ?_
  rotate_left
  ·intro w hSw
   go_simp
   try with_reducible rfl
  try simp only [Act.put,tA,tB,tC,tD,tE,tF]
  refine rd 11 rfl fun K hK=>?_
  go_simp
  refine hK.out _ _ trivial (fun _=>?_)
  clear hK K
  try simp only [Act.put,tA,tB,tC,tD,tE,tF]
  refine rd 12 rfl fun K hK=>?_
  go_simp
  refine hK.out _ _ trivial (fun _=>?_)
  clear hK K
  try simp only [Act.put,tA,tB,tC,tD,tE,tF]
  refine wpAnyH_done (by kernel_rfl) ?_ _
  have h3:=lj (li h2 (.cells #[.int .i64 x2,.int .i64 x3,.int .i64 (x4 - 1)] 103))
  have hx3:=((hxa.trans hx2).alloc (.cells #[.int .i64 x2,.int .i64 x3,.int .i64 (x4 - 1)] 103)).drew
  clear q2 q3 q4 e2 e3 e4 e5 h2 hx2 ha hxa
  generalize w2.heap.size = p at *
  generalize (w2.alloc (.cells #[.int .i64 x2,.int .i64 x3,.int .i64 (x4 - 1)] 103)).drew = w3 at *
  generalize x4 - 1 = y at *
  obtain ⟨c,f⟩:=ld 0 h3 rfl
  have hq:=Fl x2 x3 y _ w3 h3
  by_cases hb : lF x2 x3 y
  ·have hbad : zo s:=HCD.out.2 (.inl hb)
   have HB:=zh hbad
   rw [show yu x2 x3 y = 1 from zt hb,zq (by decide)] at hq
   have HQ:=zh hq
   clear hq hb hbad
   unfold lM at HQ
   go_wp2_with fail
   refine HQ.out.mono ?_
   rintro e w4 ⟨rfl,hx4,h4⟩
   have he : errV 1 = .iface 128 (.int .i64 1):=rfl
   rw [he]
   clear c f
   obtain ⟨c,f⟩:=ld 1 h4 rfl
   go_wp2_with fail
   have h5:=lg (i:=2) (v:=.int .i64 0) 1 (lg (i:=1) (v:=.int .i64 0) 1 (lg (i:=0) (v:=.int .i64 0) 1 h4 rfl) rfl) rfl
   obtain ⟨c3,-⟩:=ld 1 h5 rfl
   refine bodyPost_ret (Al rfl _ _ g 0 0 0 rfl (c3 0) (c3 1) (c3 2)) rfl ?_
   exact ⟨by first | rfl | (rw [zt HB.out]; rfl),(((hx3.trans hx4).setCell _ _).setCell _ _).setCell _ _,le (le h5)⟩
  ·rw [show yu x2 x3 y = 0 from zq hb,zt rfl] at hq
   have HQ:=zh hq
   clear hq
   unfold lM at HQ
   go_wp2_with fail
   refine HQ.out.mono ?_
   rintro e w5 ⟨rfl,hx5,h5⟩
   rw [oa]
   clear c f
   obtain ⟨c,f⟩:=ld 0 h5 rfl
   obtain ⟨c',f'⟩:=ld 1 h5 rfl
   by_cases hne : lN x2 x3 y = s
   ·have hgood : ¬zo s:=fun h=>(HCD.out.1 h).elim hb (fun h=>h hne)
    have HG:=zh hgood
    rw [hne]
    clear hgood hb
    go_wp2_with fail
    have h6:=lg (i:=2) (v:=.int .i64 y) 1 (lg (i:=1) (v:=.int .i64 x3) 1 (lg (i:=0) (v:=.int .i64 x2) 1 h5 rfl) rfl) rfl
    obtain ⟨c3,-⟩:=ld 1 h6 rfl
    refine bodyPost_ret (Al rfl _ _ g x2 x3 y rfl (c3 0) (c3 1) (c3 2)) rfl ?_
    exact ⟨by first | (rw [HX.out.1,HX.out.2.1,HX.out.2.2]; rfl) | (rw [zq HG.out,HX.out.1,HX.out.2.1,HX.out.2.2]; rfl),(((hx3.trans hx5).setCell _ _).setCell _ _).setCell _ _,le (le h6)⟩
   ·have hbad : zo s:=HCD.out.2 (.inr hne)
    have HB:=zh hbad
    have hnl : ((lN x2 x3 y).toList == s.toList) = false:=by simpa using fun h=>hne (BI h)
    clear hb hbad
    go_wp2_with fail
    have h6:=lg (i:=2) (v:=.int .i64 0) 1 (lg (i:=1) (v:=.int .i64 0) 1 (lg (i:=0) (v:=.int .i64 0) 1 h5 rfl) rfl) rfl
    obtain ⟨c3,-⟩:=ld 1 h6 rfl
    refine bodyPost_ret (Al rfl _ _ g 0 0 0 rfl (c3 0) (c3 1) (c3 2)) rfl ?_
    exact ⟨by first | rfl | (rw [zt HB.out]; rfl),(((hx3.trans hx5).setCell _ _).setCell _ _).setCell _ _,le (le h6)⟩
 ·have e : o7 s = ((0,0,0),zA s):=by rw [o7,zt (by omega)]
  rw [e]
  clear e
  go_enter Tryz.func196,Tryz.ntmps196
  go_upto_region 1 with (fail)
  generalize w.heap.size = g at *
  generalize w.alloc (.cells #[.int .i64 0,.int .i64 0,.int .i64 0] 103) = w1 at *
  go_wp2_with fail
  refine (Gy s hs _ w1 ha).mono ?_
  rintro e w2 ⟨rfl,hx2,h2⟩
  rw [lx hF]
  obtain ⟨c,f⟩:=ld 0 h2 rfl
  go_wp2_with fail
  have h3:=lg (i:=2) (v:=.int .i64 0) 0 (lg (i:=1) (v:=.int .i64 0) 0 (lg (i:=0) (v:=.int .i64 0) 0 h2 rfl) rfl) rfl
  obtain ⟨c3,-⟩:=ld 0 h3 rfl
  refine bodyPost_ret (Al rfl _ _ g 0 0 0 rfl (c3 0) (c3 1) (c3 2)) rfl ?_
  exact ⟨by rw [lx hF]; rfl,(((hxa.trans hx2).setCell _ _).setCell _ _).setCell _ _,le h3⟩
abbrev Ent:=Int×Int
def lW (e : Ent) (p : Int) : Bool:=if e.1 = 2 then decide (0 <= e.2) && decide (e.2 < p) else (decide (e.1 = 0) || decide (e.1 = 1)) && decide (e.2 = 0)
def ls (n : Nat) : Nat:=(n + 7) / 8
def Ba (w : World) (v : Value) (l : List Ent) : Prop:=
 SlAt v l.length (fun b off i=>w.cell? ⟨b,off + i * 2,none⟩ = some (.int .i64 (l.getD i (0,0)).1) /\ w.cell? ⟨b,off + i * 2 + 1,none⟩ = some (.int .i64 (l.getD i (0,0)).2))
theorem AT (n : Nat) (hn : n <= 1000000) (w : World) : Calls Tryz.prog 156 #[.int .i64 n] w fun e w'=>e = .returned (.int .i64 (ls n : Nat)) /\ w = w':=by
 go_enter Tryz.func156,Tryz.ntmps156
 go_wp2_with fail
 go_ret
 exact ⟨A4 (by unfold ls; omega),rfl⟩
theorem Bf (n : Nat) (hn : n <= 1000000) (w : World) : Calls Tryz.prog 161 #[.int .i64 n] w fun e w'=>e = .returned (.int .i64 (ls n : Nat)) /\ w = w':=by
 go_enter Tryz.func161,Tryz.ntmps161
 go_wp2_with fail
 go_loop [3] (fun i=>∃k : Nat,i = .int .i64 k /\ 8 * k < n + 8 ) (fun i=>n + 8 - (intOf i).toNat)
 case atStart=>exact ⟨0,rfl,by omega⟩
 case round=>
  obtain ⟨k,rfl,hk⟩:=hrel
  by_cases hlt : 8 * k < n
  ·go_wp2_with fail
   go_round
   case rel=>exact ⟨k + 1,by go_num,by omega⟩
   case measure=>simp [intOf]; omega
  ·go_wp2_with fail
   go_ret
   exact ⟨A4 (by unfold ls; omega),rfl⟩
theorem Im (a b p : Int) (R : List SL.HP) (w : World) (H : own w R) :
  Calls Tryz.prog 238 #[.agg #[.int .i64 a,.int .i64 b],.int .i64 p] w fun e w'=>e = .returned (.bool (lW (a,b) p)) /\ Ext w w' /\ own w' R:=by
 have ha:=li H (.cells #[.int .i64 a,.int .i64 b] 221)
 obtain ⟨cc,ff⟩:=ld 0 ha rfl
 by_cases h2 : a = 2
 ·subst h2
  have e : lW (2,b) p = (decide (0 <= b) && decide (b < p)):=rfl
  rw [e]
  clear e
  by_cases hb : 0 <= b
  ·rw [zg hb]
   go_enter Tryz.func238,Tryz.ntmps238
   go_wp2_with fail
   all_goals go_ret
   all_goals exact ⟨yi (by simp),(zR _).alloc _,le ha⟩
  ·rw [zf hb]
   go_enter Tryz.func238,Tryz.ntmps238
   go_wp2_with fail
   all_goals go_ret
   all_goals exact ⟨yi (by simp),(zR _).alloc _,le ha⟩
 ·have e : lW (a,b) p = ((decide (a = 0) || decide (a = 1)) && decide (b = 0)):=zq h2
  rw [e]
  clear e
  have t2 : (a == 2) = false:=zb.2 h2
  clear h2
  by_cases h0 : a = 0
  ·subst h0
   clear t2
   go_enter Tryz.func238,Tryz.ntmps238
   go_wp2_with fail
   all_goals go_ret
   all_goals exact ⟨yi (by rw [Bool.eq_iff_iff]; simp),(zR _).alloc _,le ha⟩
  ·have t0 : (a == 0) = false:=zb.2 h0
   by_cases h1 : a = 1
   ·subst h1
    clear t2 t0 h0
    go_enter Tryz.func238,Tryz.ntmps238
    go_wp2_with fail
    all_goals go_ret
    all_goals exact ⟨yi (by rw [Bool.eq_iff_iff]; simp),(zR _).alloc _,le ha⟩
   ·have t1 : (a == 1) = false:=zb.2 h1
    have e : ((decide (a = 0) || decide (a = 1)) && decide (b = 0)) = false:=by simp [h0,h1]
    rw [e]
    clear h0 h1 e
    go_enter Tryz.func238,Tryz.ntmps238
    go_wp2_with fail
    all_goals go_ret
    all_goals exact ⟨rfl,(zR _).alloc _,le ha⟩
def oX (t : List Ent) (r : Nat) : List Ent:=(List.range 8).map fun k=>t.getD (8 * r + k) (0,0)
def Ap (l : List Ent) : List Int:=l.flatMap fun e=>[e.1,e.2]
def zF (t : List Ent) (row : Int) : Prop:=32 < t.length \/ row < 0 \/ (ls t.length : Int) <= row
instance (t : List Ent) (row : Int) : Decidable (zF t row):=by unfold zF; infer_instance
def lU (t : List Ent) (row : Int) : ByteArray×Int:=
 if zF t row then (ByteArray.empty,1) else if (oX t row.toNat).all (fun e=>lW e 40) then (strOfNums (Ap (oX t row.toNat)),0) else (ByteArray.empty,2)
theorem Bk (t : List Ent) (r : Nat) : (oX t r).length = 8:=by simp [oX]
theorem Ox (t : List Ent) (r k : Nat) (h : k < 8) : (oX t r).getD k (0,0) = t.getD (8 * r + k) (0,0):=by simp [oX,h]
theorem Mc {t : List Ent} {r k : Nat} (h : ¬zF t r) (hk : k < 8) (hb : lW (t.getD (8 * r + k) (0,0)) 40 = false) : lU t r = (ByteArray.empty,2):=by
 rw [lU,zq h,zq]
 intro hall
 have:=List.all_eq_true.1 hall (t.getD (8 * r + k) (0,0)) (by simp only [oX,zn,List.mem_map,List.mem_range]; exact ⟨k,hk,rfl⟩)
 rw [hb] at this
 cases this
theorem Gw {t : List Ent} {r : Nat} (h : ¬zF t r) (ha : ∀k,k < 8 -> lW (t.getD (8 * r + k) (0,0)) 40 = true) : lU t r = (strOfNums (Ap (oX t r)),0):=by
 rw [lU,zq h,zt]
 ·rfl
 ·refine List.all_eq_true.2 fun e he=>?_
  simp only [oX,zn,List.mem_map,List.mem_range] at he
  obtain ⟨k,hk,rfl⟩:=he
  exact ha k hk
theorem DT (l : List Ent) : (Ap l).length = l.length * 2:=by
 induction l with
 | nil=>rfl
 | cons x l ih=>simp only [Ap,List.flatMap_cons,List.length_append,List.length_cons,List.length_nil] at ih ⊢; omega
theorem B8 (t : List Ent) (r k : Nat) (h : k < 8) : byteCells (Ap ((oX t r).take (k + 1))) = byteCells (Ap ((oX t r).take k))++[.int .u8 (t.getD (8 * r + k) (0,0)).1,.int .u8 (t.getD (8 * r + k) (0,0)).2]:=by
 rw [yM (0,0) (by rw [Bk]; exact h),Ox _ _ _ h]
 simp [Ap,byteCells]
theorem DQ {e : Ent} {p : Int} (h : lW e p = true) : 0 <= e.1 /\ e.1 <= 2 /\ 0 <= e.2 /\ (e.2 < p \/ e.2 = 0):=by
 unfold lW at h
 split at h
 ·simp at h; omega
 ·simp at h; omega
theorem Ba.form {w : World} {v : Value} {l : List Ent} (h : Ba w v l) : ∃ao b off cap,v = .slice ao l.length cap /\ l.length <= cap /\ cap <= 9223372036854775807 /\ (0 < l.length -> ao = some ⟨b,off,none⟩):=by
 obtain ⟨ao,b,off,cap,hv,h1,h2,h3,h4⟩:=h
 exact ⟨ao,b,off,cap,hv,h1,h2,h3⟩
theorem Ba.cells {w : World} {b off n cap : Nat} {l : List Ent} (h : Ba w (.slice (some ⟨b,off,none⟩) n cap) l) {i : Nat} (hi : i < l.length) :
  w.cell? ⟨b,off + i * 2,none⟩ = some (.int .i64 (l.getD i (0,0)).1) /\ w.cell? ⟨b,off + i * 2 + 1,none⟩ = some (.int .i64 (l.getD i (0,0)).2):=by
 obtain ⟨ao,b',off',cap',hv,h1,h2,h3,h4⟩:=h
 simp only [Value.slice.injEq] at hv
 have h5:=h3 (by omega)
 rw [<- hv.1] at h5
 simp only [Option.some.injEq,Addr.mk.injEq,and_true] at h5
 obtain ⟨rfl,rfl⟩:=h5
 exact h4 i hi
theorem Ee (a b : Int) : ∀u∈[Value.int .u8 a,Value.int .u8 b],u.oneCell' = true:=fun u hu=>by simp at hu; rcases hu with rfl | rfl <;> rfl
def Wz (t : List Ent) (r : Nat) (R : List SL.HP) (w0 : World) (vb vi : Value) (wr : World) : Prop:=
 ∃k : Nat,k <= 8 /\ vi = .int .i64 k /\ (∀j,j < k -> lW (t.getD (8 * r + j) (0,0)) 40 = true) /\ Ext w0 wr /\ own wr (row 5 1 vb (2 * k) (byteCells (Ap ((oX t r).take k)))::R)
theorem QW (v : Value) (t : List Ent) (row : Int) (ht : t.length <= 1000) (ho : zF t row) (R : List SL.HP) (w : World) (hv : ∀w' l,own w' (l++R) -> Ba w' v t) (H : own w R) :
  Calls Tryz.prog 162 #[v,.int .i64 row] w fun e w'=>e = .returned (.tuple #[.string ByteArray.empty,.int .i64 1]) /\ Ext w w' /\ own w' R:=by
 obtain ⟨ao,b,off,cap,rfl,c1,c2,c3⟩:=(hv w [] H).form
 unfold zF at ho
 by_cases h1 : 32 < t.length
 ·clear hv c3 ho
  go_enter Tryz.func162,Tryz.ntmps162
  go_wp2_with fail
  go_ret2
  exact ⟨rfl,zR _,H⟩
 ·by_cases h2 : row < 0
  ·clear hv c3 ho
   go_enter Tryz.func162,Tryz.ntmps162
   go_wp2_with fail
   go_ret2
   exact ⟨rfl,zR _,H⟩
  ·have h3 : (ls t.length : Int) <= row:=by omega
   clear hv c3 ho
   go_enter Tryz.func162,Tryz.ntmps162
   go_wp2_with (go_at_call 161; refine (Bf _ (by omega) _).mono ?_; rintro e w' ⟨rfl,rfl⟩)
   go_ret2
   exact ⟨rfl,zR _,H⟩
theorem TG (v : Value) (t : List Ent) (r : Nat) (ho : ¬zF t r) (R : List SL.HP) (w : World) (hv : ∀w' l,own w' (l++R) -> Ba w' v t) (H : own w R) :
  Calls Tryz.prog 162 #[v,.int .i64 r] w fun e w'=>e = .returned (.tuple #[.string (lU t r).1,.int .i64 (lU t r).2]) /\ Ext w w' /\ own w' R:=by
 obtain ⟨ao,b,off,cap,rfl,c1,c2,c3⟩:=(hv w [] H).form
 have hbad : ∀k : Nat,k < 8 -> lW (t.getD (8 * r + k) (0,0)) 40 = false -> lU t r = (ByteArray.empty,2):=fun k h1 h2=>Mc ho h1 h2
 have hok:=Gw ho
 have HO:=zh ho
 have HB:=zh hbad
 have HK:=zh hok
 unfold zF at ho
 have h1 : t.length <= 32:=by omega
 have h3 : (r : Int) < (ls t.length : Int):=by omega
 have h4 : r <= 4:=by have h0 : ls t.length <= 4:=(by unfold ls; omega); omega
 have HV:=zh hv
 have HC:=zh c3
 have b1 : decide (32 < (t.length : Int)) = false:=by simp; omega
 have b2 : decide ((r : Int) < 0) = false:=by simp
 have b3 : decide (ls t.length <= r) = false:=by simp; omega
 clear hv c3 ho hbad hok
 go_enter Tryz.func162,Tryz.ntmps162
 go_wp2_with (go_at_call 161; refine (Bf _ (by omega) _).mono ?_; rintro e w' ⟨rfl,rfl⟩)
 go_loopw [6,7] (Wz t r R w) (fun _ i _=>8 - (intOf i).toNat)
 case atStart=>exact ⟨0,by omega,rfl,fun j h=>absurd h (by omega),zR _,lv _ _ H⟩
 case round=>
  obtain ⟨k,hk,rfl,hj,hxr,hown⟩:=hrel
  have HJ:=zh hj
  clear hj
  obtain ⟨a1,g1,c1',rfl,q1,q2,-,-,-,-,-⟩:=lk 0 hown rfl
  by_cases hlt : k < 8
  ·go_upto_region 8 with (fail)
   have ha:=li hown (.cells #[.int .i64 0,.int .i64 0] 221)
   have hxa:=hxr.alloc (.cells #[.int .i64 0,.int .i64 0] 221)
   generalize wr.heap.size = p at *
   generalize wr.alloc (.cells #[.int .i64 0,.int .i64 0] 221) = wa at *
   by_cases hin : 8 * r + k < t.length
   ·obtain rfl:=HC.out (by omega)
    have hcell:=(HV.out wa [_,_] ha).cells hin
    obtain ⟨e1,e2⟩:=hcell
    obtain ⟨cc,ff⟩:=ld 0 ha rfl
    generalize hx : t.getD (8 * r + k) (0,0) = x at *
    have HX:=zh hx
    clear hx
    obtain ⟨x1,x2⟩:=x
    dsimp only at e1 e2
    go_wp2_with fail
    have h5:=lg (i:=1) (v:=.int .i64 x2) 0 (lg (i:=0) (v:=.int .i64 x1) 0 ha rfl) rfl
    have hx5:=(hxa.setCell ⟨p,0,none⟩ (.int .i64 x1)).setCell ⟨p,1,none⟩ (.int .i64 x2)
    clear e1 e2
    refine (Im x1 x2 40 _ _ h5).mono ?_
    rintro e w2 ⟨rfl,hx2,h2⟩
    by_cases hok : lW (x1,x2) 40 = true
    ·rw [hok]
     obtain ⟨y1,y2,y3,y4⟩:=DQ hok
     dsimp only at y1 y2 y3 y4
     have y5 : x2 < 40:=by omega
     have HE:=zh hok
     clear hok y4 cc ff
     obtain ⟨cc,ff⟩:=ld 0 h2 rfl
     have h3:=li h2 (.cells #[.int .u8 x1,.int .u8 x2] 5)
     have hml : 2 * k + 2 <= maxLen:=by simp only [maxLen]; omega
     go_wp2_with (first | (at_builtin; refine lD rfl _ _ 211 rfl 2 5 Tryz.underlying211 BC rfl (by decide) rfl h3 rfl (some ⟨w2.heap.size,0,none⟩) 2 2 [.int .u8 x1,.int .u8 x2] rfl rfl (ot w2 [.int .u8 x1,.int .u8 x2] _) (fun h=>by cases h) (Ee _ _) hml (by omega) ?_))
     intro v4 w4 h4 hx4
     obtain ⟨a4,g4,c4,rfl,z1,z2,-,-,-,-,-⟩:=lk 2 h4 rfl
     go_wp2_with fail
     go_roundw
     case rel=>
      refine ⟨k + 1,by omega,by go_num,fun j hj=>?_,(((hx5.trans hx2).alloc _).trans hx4),?_⟩
      ·by_cases ej : j = k
       ·subst ej; rw [HX.out]; exact HE.out
       ·exact HJ.out j (by omega)
      ·rw [B8 _ _ _ hlt,HX.out]
       exact le (le h4)
     case measure=>simp [intOf]; omega
    ·have hok' : lW (x1,x2) 40 = false:=by simpa using hok
     have hfin:=HB.out k hlt (by rw [HX.out]; exact hok')
     have HF:=zh hfin
     rw [hok']
     clear hfin hok' hok cc ff
     go_wp2_with fail
     go_ret2
     exact ⟨by rw [HF.out]; rfl,hx5.trans hx2,le (le h2)⟩
   ·have hx : t.getD (8 * r + k) (0,0) = (0,0):=by simp [List.getD,show t.length <= 8 * r + k by omega]
    have HX:=zh hx
    clear hx
    obtain ⟨cc,ff⟩:=ld 0 ha rfl
    have h5:=ha
    have hx5:=hxa
    go_wp2_with fail
    refine (Im 0 0 40 _ _ h5).mono ?_
    rintro e w2 ⟨rfl,hx2,h2⟩
    by_cases hok : lW (0,0) 40 = true
    ·rw [hok]
     obtain ⟨y1,y2,y3,y4⟩:=DQ hok
     dsimp only at y1 y2 y3 y4
     have y5 : 0 < 40:=by omega
     have HE:=zh hok
     clear hok y4 cc ff
     obtain ⟨cc,ff⟩:=ld 0 h2 rfl
     have h3:=li h2 (.cells #[.int .u8 0,.int .u8 0] 5)
     have hml : 2 * k + 2 <= maxLen:=by simp only [maxLen]; omega
     go_wp2_with (first | (at_builtin; refine lD rfl _ _ 211 rfl 2 5 Tryz.underlying211 BC rfl (by decide) rfl h3 rfl (some ⟨w2.heap.size,0,none⟩) 2 2 [.int .u8 0,.int .u8 0] rfl rfl (ot w2 [.int .u8 0,.int .u8 0] _) (fun h=>by cases h) (Ee _ _) hml (by omega) ?_))
     intro v4 w4 h4 hx4
     obtain ⟨a4,g4,c4,rfl,z1,z2,-,-,-,-,-⟩:=lk 2 h4 rfl
     go_wp2_with fail
     go_roundw
     case rel=>
      refine ⟨k + 1,by omega,by go_num,fun j hj=>?_,(((hx5.trans hx2).alloc _).trans hx4),?_⟩
      ·by_cases ej : j = k
       ·subst ej; rw [HX.out]; exact HE.out
       ·exact HJ.out j (by omega)
      ·rw [B8 _ _ _ hlt,HX.out]
       exact le (le h4)
     case measure=>simp [intOf]; omega
    ·have hok' : lW (0,0) 40 = false:=by simpa using hok
     have hfin:=HB.out k hlt (by rw [HX.out]; exact hok')
     have HF:=zh hfin
     rw [hok']
     clear hfin hok' hok cc ff
     go_wp2_with fail
     go_ret2
     exact ⟨by rw [HF.out]; rfl,hx5.trans hx2,le (le h2)⟩
  ·have hk8 : k = 8:=by omega
   subst hk8
   have hok:=HK.out HJ.out
   have hall : (oX t r).take 8 = oX t r:=List.take_of_length_le (by rw [Bk]; omega)
   rw [hall] at hown
   have hlen : (Ap (oX t r)).length = 2 * 8:=by rw [DT,Bk]
   have hcv:=EI 0 hlen hown rfl (by omega)
   have HF:=zh hok
   clear hok hall hlen
   generalize strOfNums (Ap (oX t r)) = z at *
   simp only [Nat.reduceMul] at hcv
   go_wp2_with fail
   go_ret2
   exact ⟨by rw [HF.out]; rfl,hxr,le hown⟩
end Go.Proofs.YtbpblokfiajpjabGreatDoor
namespace Go.Proofs.YtbpblokfiajpjabGreatDoor
open Go.RowKit Go.SL
theorem Ct (b : Nat) (m : DevM) (hm : m.Ok) (n : Int) (s : ByteArray) (hs : s.size <= 9223372036854775807) (hwl : m.writes < 1000000) (hpl : m.pend.length < 1000000) (R : List SL.HP) (w : World) (H : own w (ln b m::R)) :
  Calls Tryz.prog 163 #[.pointer (some ⟨b,0,none⟩),.int .i64 n,.string s] w fun e w'=>e = .returned (.int .i64 (m.write n s).1) /\ Ext w w' /\ own w' (ln b (m.write n s).2::R):=by
 obtain ⟨vf,va,vw,h⟩:=AL H
 have hl1:=hm.n
 obtain ⟨hf1,hf2⟩:=hm.fail
 obtain ⟨hw1,hw2⟩:=hm.writes
 obtain ⟨af,gf,cf,rfl,f1,f2,-,-,-,-,-⟩:=lk 1 h rfl
 by_cases hb : m.bad n s = true
 ·have e : m.write n s = (1,m):=by unfold DevM.write; rw [zt hb]
  rw [e]
  obtain ⟨c,f⟩:=ld 0 h rfl
  simp only [DevM.bad,Bool.or_eq_true,decide_eq_true_eq] at hb
  by_cases h0 : n < 0
  ·go_enter Tryz.func163,Tryz.ntmps163
   go_wp2_with fail
   all_goals go_ret
   all_goals exact ⟨rfl,zR _,H⟩
  ·by_cases h1 : (m.fl.length : Int) <= n
   ·go_enter Tryz.func163,Tryz.ntmps163
    go_wp2_with fail
    all_goals go_ret
    all_goals exact ⟨rfl,zR _,H⟩
   ·have h2 : s.size≠16:=by omega
    clear hb
    go_enter Tryz.func163,Tryz.ntmps163
    go_wp2_with fail
    all_goals go_ret
    all_goals exact ⟨rfl,zR _,H⟩
 ·have hb':=hb
  simp only [DevM.bad,Bool.or_eq_true,decide_eq_true_eq,not_or] at hb'
  obtain ⟨⟨h0,h1⟩,h2⟩:=hb'
  have h0 : 0 <= n:=by omega
  have h1 : n < m.fl.length:=by omega
  have h2 : s.size = 16:=by omega
  by_cases hz : m.fail = 0
  ·have e : m.write n s = (7,{ m with fail:=-1 }):=by unfold DevM.write; rw [zq hb,zt hz]
   rw [e]
   clear hb
   obtain ⟨c,f⟩:=ld 0 h rfl
   go_enter Tryz.func163,Tryz.ntmps163
   go_wp2_with fail
   all_goals go_ret
   all_goals exact ⟨rfl,(zR _).setCell _ _,yA (m:={ m with fail:=-1 }) (lg 0 h rfl)⟩
  ·have e : m.write n s = (0,{ m with fail:=if 0 < m.fail then m.fail - 1 else m.fail,pend:=m.pend++[(n,s)],writes:=m.writes + 1 }):=by unfold DevM.write; rw [zq hb,zq hz]
   rw [e]
   clear hb e
   obtain ⟨aa,ga,ca,rfl,p1,p2,-,-,-,-,-⟩:=lk 2 h rfl
   obtain ⟨aw,gw,cw,rfl,p3,p4,-,-,-,-,-⟩:=lk 3 h rfl
   obtain ⟨c,f⟩:=ld 0 h rfl
   have hml : m.pend.length + 1 <= maxLen:=by simp only [maxLen]; omega
   by_cases hpos : 0 < m.fail
   all_goals
    first
    | rw [zt hpos]
    | rw [zq hpos]
    go_enter Tryz.func163,Tryz.ntmps163
    go_upto_region 8 with (fail)
   all_goals first
   | (
    have hyes : 0 < m.fail:=hpos
    have h3:=lg (i:=2 + 1) (v:=.int .i64 (m.fail - 1)) 0 h rfl
    have hx3:=(zR w).setCell ⟨b,3,none⟩ (.int .i64 (m.fail - 1))
    generalize w.setCell ⟨b,3,none⟩ (.int .i64 (m.fail - 1)) = w3 at *
    have hF:=zh (rfl : m.fail - 1 = m.fail - 1))
   | (
    have h3:=h
    obtain ⟨w3,hw3⟩ : ∃w3,w3 = w:=⟨w,rfl⟩
    subst hw3
    have hx3:=zR w3
    have hF:=zh (rfl : m.fail = m.fail))
   all_goals
    clear c f
    obtain ⟨c,f⟩:=ld 0 h3 rfl
    have ha:=li h3 (.cells #[.int .i64 n] 3)
    go_wp2_with (first | (at_builtin; refine lD rfl _ _ 95 rfl 3 3 Tryz.underlying95 Cb rfl (by decide) rfl ha rfl (some ⟨w3.heap.size,0,none⟩) 1 1 [.int .i64 n] rfl rfl (ot w3 [.int .i64 n] _) (fun h=>by cases h) (FQ _) hml (by omega) ?_))
    clear c f
    intro v4 w4 h4 hx4
    obtain ⟨a4,g4,c4,rfl,q1,q2,-,-,-,-,-⟩:=lk 3 h4 rfl
    obtain ⟨c,f⟩:=ld 1 h4 rfl
    go_upto_region 9 with (fail)
    have h5:=le (lg (i:=1) (v:=.slice a4 (m.pend.length + 1) c4) 1 h4 rfl)
    have hx5:=((hx3.alloc (.cells #[.int .i64 n] 3)).trans hx4).setCell ⟨b,1,none⟩ (.slice a4 (m.pend.length + 1) c4)
    generalize w4.setCell ⟨b,1,none⟩ (.slice a4 (m.pend.length + 1) c4) = w5 at *
    clear c f h4 ha
    obtain ⟨c,f⟩:=ld 0 h5 rfl
    have ha:=li h5 (.cells #[.string s] 9)
    go_wp2_with (first | (at_builtin; refine lD rfl _ _ 51 rfl 4 9 Tryz.underlying51 AO rfl (by decide) rfl ha rfl (some ⟨w5.heap.size,0,none⟩) 1 1 [.string s] rfl rfl (ot w5 [.string s] _) (fun h=>by cases h) (Lg _) hml (by omega) ?_))
    clear c f
    intro v6 w6 h6 hx6
    obtain ⟨a6,g6,c6,rfl,q3,q4,-,-,-,-,-⟩:=lk 4 h6 rfl
    obtain ⟨c,f⟩:=ld 1 h6 rfl
    go_wp2_with fail
    go_ret
    refine ⟨rfl,?_,?_⟩
    ·exact (((hx5.alloc _).trans hx6).setCell _ _).setCell _ _
    ·have h7:=lg (i:=2) (v:=.slice a6 (m.pend.length + 1) c6) 1 h6 rfl
     have h8:=lg (i:=4) (v:=.int .i64 (m.writes + 1)) 1 h7 rfl
     have h9:=le h8
     have ep : (m.pend++[(n,s)]).length = m.pend.length + 1:=by simp
     have ec : Ad (m.pend++[(n,s)]) = Ad m.pend++[.int .i64 n]:=by simp [Ad]
     have ed : zD (m.pend++[(n,s)]) = zD m.pend++[.string s]:=by simp [zD]
     first
     | exact yA (m:={ m with fail:=m.fail - 1,pend:=m.pend++[(n,s)],writes:=m.writes + 1 }) (by dsimp only; rw [ep,ec,ed]; exact h9)
     | exact yA (m:={ m with fail:=m.fail,pend:=m.pend++[(n,s)],writes:=m.writes + 1 }) (by dsimp only; rw [ep,ec,ed]; exact h9)
def TW (b : Nat) (m : DevM) (vf va vw : Value) (R : List SL.HP) (w0 : World) (i : Value) (wr : World) : Prop:=
 ∃q : Nat,q <= m.pend.length /\ i = .int .i64 q /\ Ext w0 wr /\ own wr (pts b (.cells #[vf,va,vw,.int .i64 m.fail,.int .i64 m.writes] 162 (0,0))::row 9 1 vf m.fl.length (strCells ((m.pend.take q).foldl Af m.fl))::row 3 1 va m.pend.length (Ad m.pend)::row 9 1 vw m.pend.length (zD m.pend)::R)
theorem Ew (b : Nat) (m : DevM) (hm : m.Ok) (R : List SL.HP) (w : World) (H : own w (ln b m::R)) :
  Calls Tryz.prog 164 #[.pointer (some ⟨b,0,none⟩)] w fun e w'=>e = .returned (.tuple #[]) /\ Ext w w' /\ own w' (ln b m.flush::R):=by
 obtain ⟨vf,va,vw,h⟩:=AL H
 have hl1:=hm.n
 have hl2:=hm.p
 obtain ⟨aa,ga,ca,rfl,p1,p2,p3,-,-,-,-⟩:=lk 2 h rfl
 obtain ⟨aw,gw,cw,rfl,p4,p5,p6,-,-,-,-⟩:=lk 3 h rfl
 obtain ⟨af,gf,cf,rfl,f1,f2,f3,-,-,-,-⟩:=lk 1 h rfl
 have P3:=zh p3
 have P6:=zh p6
 have F3:=zh f3
 clear p3 f3 p6
 go_enter Tryz.func164,Tryz.ntmps164
 go_wp2_with fail
 go_loopw [2] (TW b m (.slice af m.fl.length cf) (.slice aa m.pend.length ca) (.slice aw m.pend.length cw) R w) (fun i _=>m.pend.length - (intOf i).toNat)
 case atStart=>exact ⟨0,Nat.zero_le _,rfl,zR _,h⟩
 case round=>
  clear h H
  obtain ⟨q,hq,rfl,hxr,hown⟩:=hrel
  obtain ⟨c,f⟩:=ld 0 hown rfl
  by_cases hlt : q < m.pend.length
  ·obtain rfl:=P3.out (by omega)
   obtain rfl:=P6.out (by omega)
   obtain ⟨x1,x2,x3⟩:=hm.pend _ (GK hlt)
   have c1:=(lH 2 hown rfl).1 q _ (Fh hlt)
   have c2:=(lH 3 hown rfl).1 q _ (En hlt)
   have hto:=yM (0,ByteArray.empty) hlt
   have HT:=zh hto
   clear hto
   generalize hx : m.pend.getD q (0,ByteArray.empty) = x at *
   clear hx
   obtain ⟨n,s⟩:=x
   dsimp only at x1 x2 x3 c1 c2
   obtain ⟨k,rfl⟩:=ze x1
   obtain rfl:=F3.out (by omega)
   obtain ⟨k2,k3⟩:=lH 1 hown rfl
   have hlen:=lK (m.pend.take q) m.fl
   generalize hfq : (m.pend.take q).foldl Af m.fl = fq at *
   have HFQ:=zh hfq
   clear hfq
   have c3:=k2 k _ (A0 (by omega))
   clear k2
   go_upto_region 3 with (fail)
   go_still_tail 18,(by kernel_rfl)
   change wpList _ _ _ _ _ wr.drew
   go_wp2_with fail
   go_roundw
   case rel=>
    have h5:=AJ 1 k (.string s) (lj hown) rfl (by omega)
    refine ⟨q + 1,by omega,by go_num,hxr.drew.setCell _ _,?_⟩
    rw [HT.out,List.foldl_append,HFQ.out]
    simp only [List.foldl_cons,List.foldl_nil,Af,zn,Da]
    exact h5
   case measure=>simp [intOf]; omega
  ·have hq' : q = m.pend.length:=by omega
   subst hq'
   go_wp2_with fail
   go_end0
   refine ⟨rfl,(hxr.setCell _ _).setCell _ _,?_⟩
   have h5:=lg (i:=1) (v:=.slice none 0 0) 0 hown rfl
   have h5:=lg (i:=2) (v:=.slice none 0 0) 0 h5 rfl
   have h6:=lh 3 h5 rfl
   have h6:=lh 2 h6 rfl
   have h7:=lr [_,_] (lv 9 1 h6)
   have h7:=lr [_,_] (lv 3 1 h7)
   rw [List.take_length] at h7
   refine yA (m:=m.flush) (vf:=.slice af m.fl.length cf) (va:=.slice none 0 0) (vw:=.slice none 0 0) ?_
   simp only [DevM.flush,lK]
   exact h7
theorem Ib : ∀(p : List (Int×ByteArray)) (ks : List Bool) (q : Nat),ks.length <= q -> oU (p.take q) ks = oU p ks
 | [],_,q,_=>by simp
 | x::p,[],q,_=>by cases q <;> simp [oU]
 | x::p,k::ks,0,h=>by simp at h
 | x::p,k::ks,q + 1,h=>by
  have ih:=Ib p ks q (by simpa using h)
  simp only [List.take_succ_cons,oU,ih]
def Um (c b : Nat) (m : DevM) (vc vf va vw : Value) (ks : List Bool) (R : List SL.HP) (w0 : World) (i : Value) (wr : World) : Prop:=
 ∃q : Nat,q <= m.pend.length /\ i = .int .i64 q /\ Ext w0 wr /\ own wr (pts c (.cells #[vc,.slice none 0 0,.slice none 0 0,.int .i64 (-1),.int .i64 m.writes] 162 (0,0))::row 9 1 vc m.fl.length (strCells ((oU (m.pend.take q) ks).foldl Af m.fl))::
  pts b (.cells #[vf,va,vw,.int .i64 m.fail,.int .i64 m.writes] 162 (0,0))::row 9 1 vf m.fl.length (strCells m.fl)::row 3 1 va m.pend.length (Ad m.pend)::row 9 1 vw m.pend.length (zD m.pend)::R)
theorem Kq (b : Nat) (m : DevM) (hm : m.Ok) (v : Value) (ks : List Bool) (R : List SL.HP) (w : World) (hv : ∀w' l,own w' (l++R) -> yI w' v ks) (H : own w (ln b m::R)) :
  Calls Tryz.prog 133 #[.pointer (some ⟨b,0,none⟩),v] w fun e w'=>∃c,e = .returned (.pointer (some ⟨c,0,none⟩)) /\ Ext w w' /\ own w' (ln c (m.crash ks)::ln b m::R):=by
 obtain ⟨vf,va,vw,h⟩:=AL H
 have hl1:=hm.n
 have hl2:=hm.p
 obtain ⟨ao,kb,koff,kcap,rfl,kc1,kc2,-,-⟩:=hv w [ln b m] H
 obtain ⟨aa,ga,ca,rfl,p1,p2,p3,-,-,-,-⟩:=lk 2 h rfl
 obtain ⟨aw,gw,cw,rfl,p4,p5,p6,-,-,-,-⟩:=lk 3 h rfl
 obtain ⟨af,gf,cf,rfl,f1,f2,f3,-,-,-,-⟩:=lk 1 h rfl
 have hml : 0 + m.fl.length <= maxLen:=by simp only [maxLen]; omega
 have hnl : (strCells m.fl).length = m.fl.length * 1:=by simp [strCells]
 obtain ⟨c,f⟩:=ld 0 h rfl
 go_enter Tryz.func133,Tryz.ntmps133
 go_upto_region 2 with (fail)
 have ha:=li h (.cells #[.slice none 0 0,.slice none 0 0,.slice none 0 0,.int .i64 (-1),.int .i64 m.writes] 162)
 have hxa:=(zR w).alloc (.cells #[.slice none 0 0,.slice none 0 0,.slice none 0 0,.int .i64 (-1),.int .i64 m.writes] 162)
 clear c f h H
 generalize w.heap.size = cc at *
 generalize w.alloc (.cells #[.slice none 0 0,.slice none 0 0,.slice none 0 0,.int .i64 (-1),.int .i64 m.writes] 162) = w1 at *
 obtain ⟨c0,f0⟩:=ld 0 (lj ha) rfl
 obtain ⟨c1,f1'⟩:=ld 1 (lj ha) rfl
 obtain ⟨n1,n2⟩:=C5 2 (lj ha) rfl
 go_region_law (refine At (by rfl) _ _ 51 (by rfl) 0 9 Tryz.underlying51 AO rfl (by decide) (by rfl) (lv 9 1 (lj ha)) rfl af m.fl.length cf (strCells m.fl) (by rfl) hnl n1 n2 ER hml (by omega) ?_; intro v4 w4 h4 hx4; obtain ⟨a4,g4,c4,rfl,s1,s2,s3,-,-,-,-⟩:=lk 0 h4 rfl; obtain ⟨cd,fd⟩:=ld 1 h4 rfl)
 all_goals
  try simp only [Nat.zero_add,List.nil_append,List.set_cons_zero] at h4
  try simp only [Nat.zero_add] at s1
  try simp only [Nat.zero_add] at s3
  have h3:=lr [_] (lg (i:=0) (v:=.slice a4 m.fl.length c4) 1 h4 rfl)
  have hx3:=(hxa.drew.trans hx4).setCell ⟨cc,0,none⟩ (.slice a4 m.fl.length c4)
  clear c0 f0 c1 f1' n1 n2 cd fd h4 ha hxa hx4
  generalize w4.setCell ⟨cc,0,none⟩ (.slice a4 m.fl.length c4) = w3 at *
  have P3:=zh p3
  have P6:=zh p6
  have F3:=zh s3
  have HV:=zh hv
  clear p3 p6 s3 f3 hv
  go_upto_region 3 with (fail)
  go_wp2_with fail
  go_loopw [6] (Um cc b m (.slice a4 m.fl.length c4) (.slice af m.fl.length cf) (.slice aa m.pend.length ca) (.slice aw m.pend.length cw) ks R w) (fun i _=>m.pend.length - (intOf i).toNat)
  case atStart=>exact ⟨0,Nat.zero_le _,rfl,hx3,h3⟩
  case round=>
   clear h3 hx3
   obtain ⟨q,hq,rfl,hxr,hown⟩:=hrel
   obtain ⟨c,f⟩:=ld 0 hown rfl
   obtain ⟨c',f'⟩:=ld 2 hown rfl
   have close : ∀q,oU (m.pend.take q) ks = oU m.pend ks -> own wr (pts cc (.cells #[.slice a4 m.fl.length c4,.slice none 0 0,.slice none 0 0,.int .i64 (-1),.int .i64 m.writes] 162 (0,0))::row 9 1 (.slice a4 m.fl.length c4) m.fl.length (strCells ((oU (m.pend.take q) ks).foldl Af m.fl))::
     pts b (.cells #[.slice af m.fl.length cf,.slice aa m.pend.length ca,.slice aw m.pend.length cw,.int .i64 m.fail,.int .i64 m.writes] 162 (0,0))::row 9 1 (.slice af m.fl.length cf) m.fl.length (strCells m.fl)::row 3 1 (.slice aa m.pend.length ca) m.pend.length (Ad m.pend)::row 9 1 (.slice aw m.pend.length cw) m.pend.length (zD m.pend)::R) -> own wr (ln cc (m.crash ks)::ln b m::R):=fun q he h=>by
    rw [he] at h
    have h7:=lr [_,_] (lv 9 1 h)
    have h7:=lr [_,_] (lv 3 1 h7)
    have h8:=yA (b:=cc) (m:=m.crash ks) (vf:=.slice a4 m.fl.length c4) (va:=.slice none 0 0) (vw:=.slice none 0 0) (by
     simp only [DevM.crash,lK]
     exact h7)
    exact lr [_] (yA (lr [_,_,_,_] h8))
   have CL:=zh close
   clear close
   by_cases hlt : q < m.pend.length
   ·by_cases hin : q < ks.length
    ·obtain ⟨ao',kb',koff',kcap',hkv,-,-,hk1,hk2⟩:=HV.out wr [_,_,_,_,_,_] hown
     simp only [Value.slice.injEq,true_and] at hkv
     obtain ⟨rfl,rfl⟩:=hkv
     obtain rfl:=hk1 (by omega)
     have ck:=hk2 q hin
     dsimp only at ck
     clear hk1 hk2
     obtain rfl:=P3.out (by omega)
     obtain rfl:=P6.out (by omega)
     obtain ⟨x1,x2,x3⟩:=hm.pend _ (GK hlt)
     have c1:=(lH 4 hown rfl).1 q _ (Fh hlt)
     have c2:=(lH 5 hown rfl).1 q _ (En hlt)
     have hto:=G1 (m.pend.take q) (m.pend.getD q (0,ByteArray.empty)) ks
     rw [<- yM (0,ByteArray.empty) hlt,List.length_take,Nat.min_eq_left (by omega)] at hto
     have HT:=zh hto
     clear hto
     generalize hx : m.pend.getD q (0,ByteArray.empty) = x at *
     clear hx
     obtain ⟨n,s⟩:=x
     dsimp only at x1 x2 x3 c1 c2
     obtain ⟨k,rfl⟩:=ze x1
     obtain rfl:=F3.out (by omega)
     obtain ⟨k2,k3⟩:=lH 1 hown rfl
     have hlen:=lK (oU (m.pend.take q) ks) m.fl
     generalize hfq : (oU (m.pend.take q) ks).foldl Af m.fl = fq at *
     have HFQ:=zh hfq
     clear hfq
     have c3:=k2 k _ (A0 (by omega))
     clear k2
     cases hkq : ks.getD q false
     ·rw [hkq] at ck
      go_wp2_with fail
      go_roundw
      case rel=>
       refine ⟨q + 1,by omega,by go_num,hxr,?_⟩
       rw [HT.out,hkq,zq (by simp),List.append_nil,HFQ.out]
       exact hown
      case measure=>simp [intOf]; omega
     ·rw [hkq] at ck
      go_upto_region 7 with (fail)
      go_still_tail 18,(by kernel_rfl)
      change wpList _ _ _ _ _ wr.drew
      go_wp2_with fail
      go_roundw
      case rel=>
       have h5:=AJ 1 k (.string s) (lj hown) rfl (by omega)
       refine ⟨q + 1,by omega,by go_num,hxr.drew.setCell _ _,?_⟩
       rw [HT.out,hkq,zt rfl,List.foldl_append,HFQ.out]
       simp only [List.foldl_cons,List.foldl_nil,Af,zn,Da]
       exact h5
      case measure=>simp [intOf]; omega
    ·clear HV
     go_wp2_with fail
     go_ret
     exact ⟨cc,rfl,hxr,CL.out q (Ib _ _ _ (by omega)) hown⟩
   ·have hq' : q = m.pend.length:=by omega
    clear HV
    go_wp2_with fail
    go_ret
    exact ⟨cc,rfl,hxr,CL.out q (by rw [hq',List.take_length]) hown⟩
def V7 (b : Nat) (n : Nat) (R : List SL.HP) (w0 : World) (i : Value) (wr : World) : Prop:=
 ∃q : Nat,q <= n /\ i = .int .i64 q /\ Ext w0 wr /\ ∃ao g cap,q <= cap /\ cap <= maxLen /\ own wr (pts b (.cells #[.slice ao q cap,.slice none 0 0,.slice none 0 0,.int .i64 (-1),.int .i64 0] 162 (0,0))::row 9 1 (.slice ao q cap) q (strCells (List.replicate q As))::R) /\ (0 < q -> ao = some ⟨g,0,none⟩)
theorem Sh (R : List SL.HP) (w : World) (H : own w R) : Calls Tryz.prog 92 #[.int .i64 16] w fun e w'=>e = .returned (.string As) /\ Ext w w' /\ own w' R:=Bm 16 (by decide) R w H
theorem MX (n : Nat) (R : List SL.HP) (w : World) (hn : n <= 200) (H : own w R) : Calls Tryz.prog 64 #[.int .i64 n] w fun e w'=>∃b,e = .returned (.pointer (some ⟨b,0,none⟩)) /\ Ext w w' /\ own w' (ln b (ob n)::R):=by
 go_enter Tryz.func64,Tryz.ntmps64
 go_upto_region 2 with (fail)
 have ha:=li H (.cells #[.slice none 0 0,.slice none 0 0,.slice none 0 0,.int .i64 (-1),.int .i64 0] 162)
 have hx1:=(zR w).alloc (.cells #[.slice none 0 0,.slice none 0 0,.slice none 0 0,.int .i64 (-1),.int .i64 0] 162)
 generalize w.heap.size = b at *
 generalize w.alloc (.cells #[.slice none 0 0,.slice none 0 0,.slice none 0 0,.int .i64 (-1),.int .i64 0] 162) = w1 at *
 have h1:=lr [_] (lv 9 1 ha)
 clear ha
 go_wp2_with fail
 go_loopw [4] (V7 b n R w) (fun i _=>n - (intOf i).toNat)
 case atStart=>exact ⟨0,Nat.zero_le _,rfl,hx1,none,0,0,Nat.le_refl _,by simp [maxLen],h1,fun h=>absurd h (by simp)⟩
 case round=>
  clear h1 hx1
  obtain ⟨q,hq,rfl,hxr,ao,g,cap,q1,q2,hown,q3⟩:=hrel
  by_cases hlt : q < n
  ·have hml : q + 1 <= maxLen:=by simp only [maxLen]; omega
   clear q3
   go_upto_region 5 with (fail)
   obtain ⟨c,f⟩:=ld 0 (lj hown) rfl
   go_region_law (first | (refine At (by rfl) _ _ 51 (by rfl) 2 9 Tryz.underlying51 AO rfl (by decide) (by rfl) (li h2 _) rfl (some ⟨w2.heap.size,0,none⟩) 1 1 [.string As] (by rfl) rfl (ot w2 [.string As] _) (fun h=>by cases h) (Lg _) hml (by omega) ?_; intro v4 w4 h4 hx4; obtain ⟨a4,g4,c4,rfl,s1,s2,s3,-,-,-,-⟩:=lk 2 h4 rfl; obtain rfl:=s3 (by omega); obtain ⟨cc,ff⟩:=ld 1 h4 rfl) | (go_simp; go_at_call 92; refine (Sh _ _ (lj hown)).mono ?_; rintro e w2 ⟨rfl,hx2,h2⟩; obtain ⟨c2,f2⟩:=ld 0 h2 rfl; have h2a:=li h2 (.cells #[.string As] 9); obtain ⟨c3,f3⟩:=ld 1 h2a rfl))
   all_goals
    go_wp2_with fail
    go_roundw
    case rel=>
     have h5:=lg (i:=0) (v:=.slice (some ⟨g4,0,none⟩) (q + 1) c4) 1 h4 rfl
     refine ⟨q + 1,by omega,by go_num,?_,_,g4,c4,s1,s2,?_,fun _=>rfl⟩
     ·exact (((hxr.drew.trans hx2).alloc _).trans hx4).setCell _ _
     ·have h6:=le h5
      have e : strCells (List.replicate (q + 1) As) = strCells (List.replicate q As)++[.string As]:=by simp [strCells,List.replicate_succ']
      rw [e]
      exact h6
    case measure=>simp [intOf]; omega
  ·have hq' : q = n:=by omega
   subst hq'
   clear q3
   go_wp2_with fail
   go_ret
   refine ⟨b,rfl,hxr,yA (m:=ob q) (vf:=.slice ao q cap) (va:=.slice none 0 0) (vw:=.slice none 0 0) ?_⟩
   have h5:=lr [_,_] (lv 9 1 hown)
   have h5:=lr [_,_] (lv 3 1 h5)
   simp only [ob,List.length_replicate]
   exact h5
end Go.Proofs.YtbpblokfiajpjabGreatDoor
namespace Go.Proofs.YtbpblokfiajpjabGreatDoor
open Go.RowKit Go.SL
attribute [local go_sem ↓] Go.wp_at_zero Go.wp_at_succ
theorem Lv (b1 b2 : Nat) (m : DevM) (hm : m.Ok) (R : List SL.HP) (w : World) (H : own w (lm b1 m::ln b2 m::R)) :
  Calls Tryz.prog 124 #[.pointer (some ⟨b1,0,none⟩),.pointer (some ⟨b2,0,none⟩)] w fun e w'=>e = .returned (.bool true) /\ Ext w w' /\ own w' (lm b1 m::ln b2 m::R):=by
 obtain ⟨vf,va,vw,h⟩:=AL (lr [_] H)
 have hl1:=hm.n
 obtain ⟨aa,ga,ca,rfl,p1,p2,-,-,-,-,-⟩:=lk 2 h rfl
 obtain ⟨af,gf,cf,rfl,f1,f2,-,-,-,-,-⟩:=lk 1 h rfl
 obtain ⟨c,f⟩:=ld 0 h rfl
 have hd:=lj h
 go_enter Tryz.func124,Tryz.ntmps124
 go_upto_region 1 with (fail)
 go_region_held3 (fun w'=>w'.cell? ⟨b2,0,none⟩ = some (.slice af m.fl.length cf) /\ w'.cell? ⟨b2,1,none⟩ = some (.slice aa m.pend.length ca) /\ w'.cell? ⟨b2,4,none⟩ = some (.int .i64 m.writes)) (first | exact ⟨(ld 0 hd rfl).1 0,(ld 0 hd rfl).1 1,(ld 0 hd rfl).1 4⟩ | exact ⟨(ld 0 h2 rfl).1 0,(ld 0 h2 rfl).1 1,(ld 0 h2 rfl).1 4⟩)
  (first | (go_at_call 212; refine (J0 b1 m _ _ (lu 4 hd rfl)).mono ?_; rintro e w' ⟨rfl,rfl⟩) | (go_at_call 213; refine (Pg b1 m _ _ (lu 4 hd rfl)).mono ?_; rintro e w' ⟨rfl,rfl⟩) | (go_at_call 214; refine (Qo b1 m _ _ (lu 4 hd rfl)).mono ?_; rintro e w' ⟨rfl,rfl⟩) | (go_at_call 215; refine (T0 b1 m hm _ _ (lu 4 hd rfl)).mono ?_; rintro e w2 ⟨rfl,hx2,h2'⟩; have h2:=oo hd 4 rfl h2') | (go_at_call 216; refine (Sb b2 m hm _ _ (yA h2)).mono ?_; rintro e w' ⟨rfl,rfl⟩))
 have h3 : own w2 (ln b2 m::lm b1 m::R):=yA h2
 have h4 : own w2 (lm b1 m::ln b2 m::R):=lr [_] h3
 have hx3 : Ext w w2:=(zR w).drew.trans hx2
 clear c f
 obtain ⟨c,f⟩:=ld 0 h2 rfl
 clear h2 h2' hx2 hd h H
 go_wp2_with fail
 go_loop [5] (fun i=>∃q : Nat,q <= m.fl.length /\ i = .int .i64 q) (fun i=>m.fl.length - (intOf i).toNat)
 case atStart=>exact ⟨0,Nat.zero_le _,rfl⟩
 case round=>
  obtain ⟨q,hq,rfl⟩:=hrel
  by_cases hlt : q < m.fl.length
  ·go_wp2_with fail
   refine (Fk b1 m hm q _ w2 h4).mono ?_
   rintro e w' ⟨rfl,rfl⟩
   rw [zq (by omega)]
   go_wp2_with fail
   refine (Eh b2 m hm q (by omega) (by omega) _ w2 h3).mono ?_
   rintro e w' ⟨rfl,rfl⟩
   go_wp2_with fail
   go_round
   case rel=>exact ⟨q + 1,by omega,by go_num⟩
   case measure=>simp [intOf]; omega
  ·go_wp2_with fail
   go_ret
   exact ⟨rfl,hx3,h4⟩
def FW : ByteArray:=⟨#[48,49,50,51,52,53,54,55,56,57,97,98,99,100,101,102]⟩
end Go.Proofs.YtbpblokfiajpjabGreatDoor
namespace Go.Proofs.YtbpblokfiajpjabGreatDoor
open Go.RowKit Go.SL Go.Crc
attribute [local go_sem ↓] Go.wp_at_zero Go.wp_at_succ
def zx (P : Int) (t : List Ent) (e : Ent) : Bool:=!lW e P || (decide (e.1 = 2) && t.contains e)
def yQ (C : Nat) (P : Int) : List Ent -> List Ent -> Option (List Ent)
 | t,[]=>some t
 | t,e::l=>if t.length = C then (if e = (0,0) then yQ C P t l else none) else if zx P t e then none else yQ C P (t++[e]) l
def sEnt (s : ByteArray) (k : Nat) : Ent:=(bt s (2 * k),bt s (2 * k + 1))
def Cm (s : ByteArray) : List Ent:=(List.range 8).map (sEnt s)
def yJ (C : Nat) (P : Int) : List Ent -> List ByteArray -> List Ent×Int
 | t,[]=>(t,0)
 | t,s::l=>if s.size≠16 then ([],1) else match yQ C P t (Cm s) with
  | none=>([],2)
  | some t'=>yJ C P t' l
def zU (c p b : Int) (rows : List ByteArray) : List Ent×Int:=
 if lF c p b then ([],1) else if rows.length≠ls c.toNat then ([],1) else yJ c.toNat p [] rows
theorem IB (s : ByteArray) : (Cm s).length = 8:=by simp [Cm]
theorem KP (s : ByteArray) {k : Nat} (h : k < 8) : (Cm s).drop k = sEnt s k::(Cm s).drop (k + 1):=by
 rw [List.drop_eq_getElem_cons (by rw [IB]; exact h)]
 simp [Cm]
theorem Ml (s : ByteArray) : (Cm s).drop 8 = []:=List.drop_of_length_le (by rw [IB]; omega)
theorem zY {α : Type} (d : α) {l : List α} {i : Nat} (h : i < l.length) : l.drop i = l.getD i d::l.drop (i + 1):=by
 rw [List.drop_eq_getElem_cons h]; simp [h]
theorem Jq {C : Nat} {P : Int} {t l : List Ent} (h : t.length = C) : yQ C P t ((0,0)::l) = yQ C P t l:=by
 rw [yQ,zt h,zt rfl]
theorem FS {C : Nat} {P : Int} {t l : List Ent} {e : Ent} (h : t.length = C) (he : e≠(0,0)) : yQ C P t (e::l) = none:=by
 rw [yQ,zt h,zq he]
theorem Cs {C : Nat} {P : Int} {t l : List Ent} {e : Ent} (h : t.length≠C) (he : zx P t e = true) : yQ C P t (e::l) = none:=by
 rw [yQ,zq h,zt he]
theorem DX {C : Nat} {P : Int} {t l : List Ent} {e : Ent} (h : t.length≠C) (he : zx P t e = false) : yQ C P t (e::l) = yQ C P (t++[e]) l:=by
 rw [yQ,zq h,zq (by simp [he])]
theorem G0 {C : Nat} {P : Int} {t : List Ent} {s : ByteArray} {l : List ByteArray} (h : s.size≠16) : yJ C P t (s::l) = ([],1):=by rw [yJ,zt h]
theorem zP {C : Nat} {P : Int} {t : List Ent} {s : ByteArray} {l : List ByteArray} (h : s.size = 16) (hn : yQ C P t (Cm s) = none) : yJ C P t (s::l) = ([],2):=by
 rw [yJ,zq (by simpa using h),hn]
theorem Iq {C : Nat} {P : Int} {t t' : List Ent} {s : ByteArray} {l : List ByteArray} (h : s.size = 16) (hn : yQ C P t (Cm s) = some t') : yJ C P t (s::l) = yJ C P t' l:=by
 rw [yJ,zq (by simpa using h),hn]
def lG (l : List Ent) : List Value:=l.flatMap fun e=>[.int .i64 e.1,.int .i64 e.2]
theorem EN (l : List Ent) : (lG l).length = l.length * 2:=by
 induction l with
 | nil=>rfl
 | cons x l ih=>simp only [lG,List.flatMap_cons,List.length_append,List.length_cons,List.length_nil] at ih ⊢; omega
theorem Bb (l m : List Ent) : lG (l++m) = lG l++lG m:=by simp [lG]
theorem lE {l : List Ent} : ∀{i : Nat},i < l.length -> (lG l)[i * 2]? = some (.int .i64 (l.getD i (0,0)).1) /\ (lG l)[i * 2 + 1]? = some (.int .i64 (l.getD i (0,0)).2):=by
 induction l with
 | nil=>intro i h; simp at h
 | cons x l ih=>
  intro i h
  cases i with
  | zero=>simp [lG]
  | succ i=>
   have:=ih (i:=i) (by simpa using h)
   simp only [lG,List.flatMap_cons] at this ⊢
   have e : (i + 1) * 2 = i * 2 + 2:=by omega
   rw [e]
   simpa using this
theorem Gt (a b : Int) : ∀u∈[Value.int .i64 a,Value.int .i64 b],u.oneCell' = true:=fun u hu=>by simp at hu; rcases hu with rfl | rfl <;> rfl
theorem BJ : Elem Tryz.prog 221 2 16 (.agg #[.int .i64 0,.int .i64 0]):=by unfold Elem; kernel_rfl
theorem B6.cells {w : World} {b off n cap : Nat} {l : List ByteArray} (h : B6 w (.slice (some ⟨b,off,none⟩) n cap) l) {i : Nat} (hi : i < l.length) : w.cell? ⟨b,off + i,none⟩ = some (.string (l.getD i ByteArray.empty)):=by
 obtain ⟨⟨ao,b',off',cap',hv,h1,h2,h3,h4⟩,_⟩:=h
 simp only [Value.slice.injEq] at hv
 have h5:=h3 (by omega)
 rw [<- hv.1] at h5
 simp only [Option.some.injEq,Addr.mk.injEq,and_true] at h5
 obtain ⟨rfl,rfl⟩:=h5
 exact h4 i hi
end Go.Proofs.YtbpblokfiajpjabGreatDoor
