/- Lemmas on which TopEnds stands: the texts Shape9 Shape8 Shape10. No conditions. -/
import Derived.Test.YtbpblokfiajpjabGreatDoorPk57d13e3071
set_option linter.all false
set_option maxRecDepth 1000000
set_option maxHeartbeats 32000000
namespace Go.Proofs.YtbpblokfiajpjabGreatDoor
open Go.RowKit Go.SL Go.Crc
attribute [local go_sem ↓] Go.wp_at_zero Go.wp_at_succ
theorem KG {a b : Int} (h : lR (a,b) 40 = false) : a < 0 \/ (0 <= a /\ 2 < a) \/ (0 <= a /\ a <= 2 /\ b < 0) \/ (0 <= a /\ a <= 2 /\ 0 <= b /\ 40 <= b) \/ (0 <= a /\ a < 2 /\ 0 <= b /\ b < 40 /\ 0 < b):=by
 unfold lR at h
 dsimp only at h
 split at h
 ·simp only [Bool.and_eq_false_iff,decide_eq_false_iff_not] at h; omega
 ·simp only [Bool.and_eq_false_iff,Bool.or_eq_false_iff,decide_eq_false_iff_not] at h; omega
theorem Jx {a b : Int} (h : lR (a,b) 40 = true) : (a = 2 /\ 0 <= b /\ b < 40) \/ (0 <= a /\ a < 2 /\ b = 0):=by
 unfold lR at h
 dsimp only at h
 split at h
 ·simp only [Bool.and_eq_true,decide_eq_true_eq] at h; omega
 ·simp only [Bool.and_eq_true,Bool.or_eq_true,decide_eq_true_eq] at h; omega
def Qg (t : List Ent) (r : Nat) (R : List SL.HP) (w0 : World) (vb vi : Value) (wr : World) : Prop:=
 ∃k : Nat,k <= 8 /\ vi = .int .i64 (8 * r + k : Nat) /\ (∃x : Nat×Option Addr,vb = .slice x.2 (2 * k) x.1) /\ (∀j,j < k -> lR (t.getD (8 * r + j) (0,0)) 40 = true) /\ Ext w0 wr /\ own wr (row 5 1 vb (2 * k) (byteCells (yx ((oK t r).take k)))::R)
theorem QM (v : Value) (t : List Ent) (row : Int) (ht : t.length <= 1000) (ho : zy t row) (R : List SL.HP) (w : World) (hv : ∀w' l,own w' (l++R) -> Ax w' v t) (H : own w R) :
  Calls Tryz.prog 236 #[v,.int .i64 row] w fun e w'=>e = .returned (.tuple #[.string ByteArray.empty,errV 1]) /\ Ext w w' /\ own w' R:=by
 obtain ⟨ao,b,off,cap,rfl,c1,c2,c3⟩:=(hv w [] H).form
 unfold zy at ho
 by_cases h2 : row < 0
 ·clear hv c3 ho
  go_enter Tryz.func236,Tryz.ntmps236
  go_wp2_with fail
  go_ret2
  exact ⟨rfl,zR _,H⟩
 ·by_cases h3 : (lA t.length : Int) <= row
  ·clear hv c3 ho
   go_enter Tryz.func236,Tryz.ntmps236
   go_wp2_with (go_at_call 156; refine (Aw _ (by omega) _).mono ?_; rintro e w' ⟨rfl,rfl⟩)
   go_ret2
   exact ⟨rfl,zR _,H⟩
  ·have h1 : 32 < t.length:=by omega
   clear hv c3 ho
   go_enter Tryz.func236,Tryz.ntmps236
   go_wp2_with (go_at_call 156; refine (Aw _ (by omega) _).mono ?_; rintro e w' ⟨rfl,rfl⟩)
   go_ret2
   exact ⟨rfl,zR _,H⟩
theorem SH (v : Value) (t : List Ent) (r : Nat) (ho : ¬zy t r) (R : List SL.HP) (w : World) (hv : ∀w' l,own w' (l++R) -> Ax w' v t) (H : own w R) :
  Calls Tryz.prog 236 #[v,.int .i64 r] w fun e w'=>e = .returned (.tuple #[.string (lS t r).1,errV (lS t r).2]) /\ Ext w w' /\ own w' R:=by
 obtain ⟨ao,b,off,cap,rfl,c1,c2,c3⟩:=(hv w [] H).form
 have hbad : ∀k : Nat,k < 8 -> lR (t.getD (8 * r + k) (0,0)) 40 = false -> lS t r = (ByteArray.empty,2):=fun k h1 h2=>Ov ho h1 h2
 have hok:=F4 ho
 have HO:=zh ho
 have HB:=zh hbad
 have HK:=zh hok
 unfold zy at ho
 have h1 : t.length <= 32:=by omega
 have h3 : (r : Int) < (lA t.length : Int):=by omega
 have h4 : r <= 4:=by have h0 : lA t.length <= 4:=(by unfold lA; omega); omega
 have HV:=zh hv
 have HC:=zh c3
 have b1 : decide (32 < (t.length : Int)) = false:=by simp; omega
 have b2 : decide ((r : Int) < 0) = false:=by simp
 have b3 : decide (lA t.length <= r) = false:=by simp; omega
 clear hv c3 ho hbad hok
 go_enter Tryz.func236,Tryz.ntmps236
 go_wp2_with (go_at_call 156; refine (Aw _ (by omega) _).mono ?_; rintro e w' ⟨rfl,rfl⟩)
 go_loopw [6,7] (Qg t r R w) (fun b _ _=>16 - JJ b)
 case atStart=>exact ⟨0,by omega,by go_num,⟨(0,none),rfl⟩,fun j h=>absurd h (by omega),zR _,lX _ _ H⟩
 case round=>
  obtain ⟨k,hk,rfl,⟨⟨c1',a1⟩,rfl⟩,hj,hxr,hown⟩:=hrel
  have HJ:=zh hj
  clear hj
  dsimp only at hown
  obtain ⟨a2,g2,c2,hvv,q1,q2,-,-,-,-,-⟩:=ll 0 hown rfl
  simp only [Value.slice.injEq] at hvv
  obtain ⟨rfl,-,rfl⟩:=hvv
  by_cases hlt : k < 8
  ·go_upto_region 8 with (fail)
   have ha:=lf hown (.cells #[.int .i64 0,.int .i64 0] 221)
   have hxa:=hxr.alloc (.cells #[.int .i64 0,.int .i64 0] 221)
   generalize wr.heap.size = p at *
   generalize wr.alloc (.cells #[.int .i64 0,.int .i64 0] 221) = wa at *
   by_cases hin : 8 * r + k < t.length
   ·obtain rfl:=HC.out (by omega)
    have hcell:=(HV.out wa [_,_] ha).cells hin
    obtain ⟨e1,e2⟩:=hcell
    obtain ⟨cc,ff⟩:=la 0 ha rfl
    generalize hx : t.getD (8 * r + k) (0,0) = x at *
    have HX:=zh hx
    clear hx
    obtain ⟨x1,x2⟩:=x
    dsimp only at e1 e2
    go_upto_region 10 with (fail)
    have h5:=ln (i:=1) (v:=.int .i64 x2) 0 (ln (i:=0) (v:=.int .i64 x1) 0 ha rfl) rfl
    have hx5:=(hxa.setCell ⟨p,0,none⟩ (.int .i64 x1)).setCell ⟨p,1,none⟩ (.int .i64 x2)
    clear e1 e2 cc ff
    generalize (wa.setCell ⟨p,0,none⟩ (.int .i64 x1)).setCell ⟨p,1,none⟩ (.int .i64 x2) = w5 at *
    replace h5 : own w5 (pts p (.cells #[.int .i64 x1,.int .i64 x2] 221 (0,0))::_):=h5
    obtain ⟨cc,ff⟩:=la 0 h5 rfl
    cases hok : lR (x1,x2) 40
    ·have hfin:=HB.out k hlt (by rw [HX.out]; exact hok)
     have HF:=zh hfin
     clear hfin
     rcases KG hok with g1 | ⟨g1,g2⟩ | ⟨g1,g2,g3⟩ | ⟨g1,g2,g3,g4⟩ | ⟨g1,g2,g3,g4,g5⟩
     ·clear hok
      go_wp2_with fail
      go_ret2
      exact ⟨by rw [HF.out]; rfl,hx5,lg (lg h5)⟩
     ·clear hok
      go_wp2_with fail
      go_ret2
      exact ⟨by rw [HF.out]; rfl,hx5,lg (lg h5)⟩
     ·clear hok
      go_wp2_with fail
      go_ret2
      exact ⟨by rw [HF.out]; rfl,hx5,lg (lg h5)⟩
     ·clear hok
      go_wp2_with fail
      go_ret2
      exact ⟨by rw [HF.out]; rfl,hx5,lg (lg h5)⟩
     ·clear hok
      have t2 : (x1 == 2) = false:=zb.2 (by omega)
      have t3 : (x1 != 2) = true:=by rw [bne_iff_ne]; omega
      go_wp2_with fail
      go_ret2
      exact ⟨by rw [HF.out]; rfl,hx5,lg (lg h5)⟩
    ·rcases Jx hok with ⟨rfl,y3,y4⟩ | ⟨y1,y2,rfl⟩
     ·have HE:=zh hok
      clear hok
      have h3:=lf h5 (.cells #[.int .u8 2,.int .u8 x2] 5)
      have hml : 2 * k + 2 <= maxLen:=by simp only [maxLen]; omega
      go_wp2_with (first | (at_builtin; refine yb rfl _ _ 211 rfl 2 5 Tryz.underlying211 B1 rfl (by decide) rfl h3 rfl (some ⟨w5.heap.size,0,none⟩) 2 2 [.int .u8 2,.int .u8 x2] rfl rfl (yJ w5 [.int .u8 2,.int .u8 x2] _) (fun h=>by cases h) (EH _ _) hml (by omega) ?_))
      intro v4 w4 h4 hx4
      obtain ⟨a4,g4,c4,rfl,z1,z2,-,-,-,-,-⟩:=ll 2 h4 rfl
      go_wp2_with fail
      go_roundw
      case rel=>
       refine ⟨k + 1,by omega,by go_num,⟨(c4,a4),rfl⟩,fun j hj=>?_,((hx5.alloc _).trans hx4),?_⟩
       ·by_cases ej : j = k
        ·subst ej; rw [HX.out]; exact HE.out
        ·exact HJ.out j (by omega)
       ·rw [Co _ _ _ hlt,HX.out]
        exact lg (lg h4)
      case measure=>simp [JJ]; omega
     ·have t2 : (x1 == 2) = false:=zb.2 (by omega)
      have t3 : (x1 != 2) = true:=by rw [bne_iff_ne]; omega
      have HE:=zh hok
      clear hok
      have h3:=lf h5 (.cells #[.int .u8 x1,.int .u8 0] 5)
      have hml : 2 * k + 2 <= maxLen:=by simp only [maxLen]; omega
      go_wp2_with (first | (at_builtin; refine yb rfl _ _ 211 rfl 2 5 Tryz.underlying211 B1 rfl (by decide) rfl h3 rfl (some ⟨w5.heap.size,0,none⟩) 2 2 [.int .u8 x1,.int .u8 0] rfl rfl (yJ w5 [.int .u8 x1,.int .u8 0] _) (fun h=>by cases h) (EH _ _) hml (by omega) ?_))
      intro v4 w4 h4 hx4
      obtain ⟨a4,g4,c4,rfl,z1,z2,-,-,-,-,-⟩:=ll 2 h4 rfl
      go_wp2_with fail
      go_roundw
      case rel=>
       refine ⟨k + 1,by omega,by go_num,⟨(c4,a4),rfl⟩,fun j hj=>?_,((hx5.alloc _).trans hx4),?_⟩
       ·by_cases ej : j = k
        ·subst ej; rw [HX.out]; exact HE.out
        ·exact HJ.out j (by omega)
       ·rw [Co _ _ _ hlt,HX.out]
        exact lg (lg h4)
      case measure=>simp [JJ]; omega
   ·have hx : t.getD (8 * r + k) (0,0) = (0,0):=by simp [List.getD,show t.length <= 8 * r + k by omega]
    have HX:=zh hx
    clear hx
    obtain ⟨cc,ff⟩:=la 0 ha rfl
    go_upto_region 10 with (fail)
    have h5:=ha
    have hx5:=hxa
    generalize wa = w5 at *
    have hok : lR (0,0) 40 = true:=rfl
    have HE:=zh hok
    clear hok
    have h3:=lf h5 (.cells #[.int .u8 0,.int .u8 0] 5)
    have hml : 2 * k + 2 <= maxLen:=by simp only [maxLen]; omega
    go_wp2_with (first | (at_builtin; refine yb rfl _ _ 211 rfl 2 5 Tryz.underlying211 B1 rfl (by decide) rfl h3 rfl (some ⟨w5.heap.size,0,none⟩) 2 2 [.int .u8 0,.int .u8 0] rfl rfl (yJ w5 [.int .u8 0,.int .u8 0] _) (fun h=>by cases h) (EH _ _) hml (by omega) ?_))
    intro v4 w4 h4 hx4
    obtain ⟨a4,g4,c4,rfl,z1,z2,-,-,-,-,-⟩:=ll 2 h4 rfl
    go_wp2_with fail
    go_roundw
    case rel=>
     refine ⟨k + 1,by omega,by go_num,⟨(c4,a4),rfl⟩,fun j hj=>?_,((hx5.alloc _).trans hx4),?_⟩
     ·by_cases ej : j = k
      ·subst ej; rw [HX.out]; exact HE.out
      ·exact HJ.out j (by omega)
     ·rw [Co _ _ _ hlt,HX.out]
      exact lg (lg h4)
    case measure=>simp [JJ]; omega
  ·have hk8 : k = 8:=by omega
   subst hk8
   have hok:=HK.out HJ.out
   have hall : (oK t r).take 8 = oK t r:=List.take_of_length_le (by rw [zZ]; omega)
   rw [hall] at hown
   have hlen : (yx (oK t r)).length = 2 * 8:=by rw [C1,zZ]
   have hcv:=FU 0 hlen hown rfl (by omega)
   have HF:=zh hok
   clear hok hall hlen
   generalize strOfNums (yx (oK t r)) = z at *
   simp only [Nat.reduceMul] at hcv
   go_wp2_with fail
   go_ret2
   exact ⟨by rw [HF.out]; rfl,hxr,lg hown⟩
def zQ (r k f a b : Int) : Value:=.agg #[.int .i64 r,.int .i64 k,.int .i64 f,.int .i64 a,.int .i64 b]
def y7 (r k f a b : Int) : Prop:=r < 0 \/ 4 < r \/ k < 0 \/ 3 < k \/ f < -1 \/ 4 < f \/ a < 0 \/ 1000 < a \/ b < 0 \/ 1000 < b
instance (r k f a b : Int) : Decidable (y7 r k f a b):=by unfold y7; infer_instance
def Df (r k f a b : Int) : Prop:=if k = 0 then ¬(f = -1 /\ a = 0 /\ b = 0) else (f = r \/ (f = -1 /\ k≠2))
instance (r k f a b : Int) : Decidable (Df r k f a b):=by unfold Df; infer_instance
def yz (r k f a b : Int) : Int:=if y7 r k f a b then 1 else if Df r k f a b then 2 else 0
theorem Jl {r k f a b : Int} (h : y7 r k f a b) : yz r k f a b = 1:=zt h
theorem LN {r k f a b : Int} (h : ¬y7 r k f a b) (h0 : k = 0) : yz r k f a b = if f = -1 /\ a = 0 /\ b = 0 then 0 else 2:=by
 subst h0
 unfold yz Df
 rw [zq h]
 by_cases h2 : f = -1 /\ a = 0 /\ b = 0
 ·simp [h2]
 ·rw [zq h2]; simp [h2]
theorem Qj {r k f a b : Int} (h : ¬y7 r k f a b) (h0 : k≠0) : yz r k f a b = if f = r \/ (f = -1 /\ k≠2) then 2 else 0:=by
 unfold yz Df
 rw [zq h]
 simp [h0]
theorem JA {r k f a b : Int} (h : y7 r k f a b) : (r < 0) \/ (0 <= r /\ 4 < r) \/ (0 <= r /\ r <= 4 /\ k < 0) \/ (0 <= r /\ r <= 4 /\ 0 <= k /\ 3 < k) \/ (0 <= r /\ r <= 4 /\ 0 <= k /\ k <= 3 /\ f < -1) \/ (0 <= r /\ r <= 4 /\ 0 <= k /\ k <= 3 /\ -1 <= f /\ 4 < f) \/ (0 <= r /\ r <= 4 /\ 0 <= k /\ k <= 3 /\ -1 <= f /\ f <= 4 /\ a < 0) \/ (0 <= r /\ r <= 4 /\ 0 <= k /\ k <= 3 /\ -1 <= f /\ f <= 4 /\ 0 <= a /\ 1000 < a) \/ (0 <= r /\ r <= 4 /\ 0 <= k /\ k <= 3 /\ -1 <= f /\ f <= 4 /\ 0 <= a /\ a <= 1000 /\ b < 0) \/ (0 <= r /\ r <= 4 /\ 0 <= k /\ k <= 3 /\ -1 <= f /\ f <= 4 /\ 0 <= a /\ a <= 1000 /\ 0 <= b /\ 1000 < b):=by
 by_cases h0 : r < 0
 ·exact (.inl h0)
 by_cases h1 : 4 < r
 ·exact (.inr (.inl ⟨by omega,h1⟩))
 by_cases h2 : k < 0
 ·exact (.inr (.inr (.inl ⟨by omega,by omega,h2⟩)))
 by_cases h3 : 3 < k
 ·exact (.inr (.inr (.inr (.inl ⟨by omega,by omega,by omega,h3⟩))))
 by_cases h4 : f < -1
 ·exact (.inr (.inr (.inr (.inr (.inl ⟨by omega,by omega,by omega,by omega,h4⟩)))))
 by_cases h5 : 4 < f
 ·exact (.inr (.inr (.inr (.inr (.inr (.inl ⟨by omega,by omega,by omega,by omega,by omega,h5⟩))))))
 by_cases h6 : a < 0
 ·exact (.inr (.inr (.inr (.inr (.inr (.inr (.inl ⟨by omega,by omega,by omega,by omega,by omega,by omega,h6⟩)))))))
 by_cases h7 : 1000 < a
 ·exact (.inr (.inr (.inr (.inr (.inr (.inr (.inr (.inl ⟨by omega,by omega,by omega,by omega,by omega,by omega,by omega,h7⟩))))))))
 by_cases h8 : b < 0
 ·exact (.inr (.inr (.inr (.inr (.inr (.inr (.inr (.inr (.inl ⟨by omega,by omega,by omega,by omega,by omega,by omega,by omega,by omega,h8⟩)))))))))
 unfold y7 at h
 have h9 : 1000 < b:=by
  rcases h with h | h | h | h | h | h | h | h | h | h
  all_goals first | exact h | exact absurd h (by assumption)
 clear h
 exact (.inr (.inr (.inr (.inr (.inr (.inr (.inr (.inr (.inr ⟨by omega,by omega,by omega,by omega,by omega,by omega,by omega,by omega,by omega,by omega⟩)))))))))
theorem D2 (r k f a b : Int) (R : List SL.HP) (w : World) (H : own w R) :
  Calls Tryz.prog 147 #[zQ r k f a b] w fun e w'=>e = .returned (errV (yz r k f a b)) /\ Ext w w' /\ own w' R:=by
 have ha:=lf H (.cells #[.int .i64 r,.int .i64 k,.int .i64 f,.int .i64 a,.int .i64 b] 24)
 obtain ⟨cc,ff⟩:=la 0 ha rfl
 unfold zQ
 by_cases ho : y7 r k f a b
 ·rw [Jl ho]
  rcases JA ho with g0 | ⟨g0,g1⟩ | ⟨g0,g1,g2⟩ | ⟨g0,g1,g2,g3⟩ | ⟨g0,g1,g2,g3,g4⟩ | ⟨g0,g1,g2,g3,g4,g5⟩ | ⟨g0,g1,g2,g3,g4,g5,g6⟩ | ⟨g0,g1,g2,g3,g4,g5,g6,g7⟩ | ⟨g0,g1,g2,g3,g4,g5,g6,g7,g8⟩ | ⟨g0,g1,g2,g3,g4,g5,g6,g7,g8,g9⟩
  ·have d0 : decide (r < 0) = true:=zg (by omega)
   clear ho g0
   go_enter Tryz.func147,Tryz.ntmps147
   go_wp2_with fail
   go_ret
   exact ⟨rfl,(zR _).alloc _,lg ha⟩
  ·have d0 : decide (r < 0) = false:=zf (by omega)
   have d1 : decide (5 <= r) = true:=zg (by omega)
   clear ho g0 g1
   go_enter Tryz.func147,Tryz.ntmps147
   go_wp2_with fail
   go_ret
   exact ⟨rfl,(zR _).alloc _,lg ha⟩
  ·have d0 : decide (r < 0) = false:=zf (by omega)
   have d1 : decide (5 <= r) = false:=zf (by omega)
   have d2 : decide (k < 0) = true:=zg (by omega)
   clear ho g0 g1 g2
   go_enter Tryz.func147,Tryz.ntmps147
   go_wp2_with fail
   go_ret
   exact ⟨rfl,(zR _).alloc _,lg ha⟩
  ·have d0 : decide (r < 0) = false:=zf (by omega)
   have d1 : decide (5 <= r) = false:=zf (by omega)
   have d2 : decide (k < 0) = false:=zf (by omega)
   have d3 : decide (3 < k) = true:=zg (by omega)
   clear ho g0 g1 g2 g3
   go_enter Tryz.func147,Tryz.ntmps147
   go_wp2_with fail
   go_ret
   exact ⟨rfl,(zR _).alloc _,lg ha⟩
  ·have d0 : decide (r < 0) = false:=zf (by omega)
   have d1 : decide (5 <= r) = false:=zf (by omega)
   have d2 : decide (k < 0) = false:=zf (by omega)
   have d3 : decide (3 < k) = false:=zf (by omega)
   have d4 : decide (f < -1) = true:=zg (by omega)
   clear ho g0 g1 g2 g3 g4
   go_enter Tryz.func147,Tryz.ntmps147
   go_wp2_with fail
   go_ret
   exact ⟨rfl,(zR _).alloc _,lg ha⟩
  ·have d0 : decide (r < 0) = false:=zf (by omega)
   have d1 : decide (5 <= r) = false:=zf (by omega)
   have d2 : decide (k < 0) = false:=zf (by omega)
   have d3 : decide (3 < k) = false:=zf (by omega)
   have d4 : decide (f < -1) = false:=zf (by omega)
   have d5 : decide (5 <= f) = true:=zg (by omega)
   clear ho g0 g1 g2 g3 g4 g5
   go_enter Tryz.func147,Tryz.ntmps147
   go_wp2_with fail
   go_ret
   exact ⟨rfl,(zR _).alloc _,lg ha⟩
  ·have d0 : decide (r < 0) = false:=zf (by omega)
   have d1 : decide (5 <= r) = false:=zf (by omega)
   have d2 : decide (k < 0) = false:=zf (by omega)
   have d3 : decide (3 < k) = false:=zf (by omega)
   have d4 : decide (f < -1) = false:=zf (by omega)
   have d5 : decide (5 <= f) = false:=zf (by omega)
   have d6 : decide (a < 0) = true:=zg (by omega)
   clear ho g0 g1 g2 g3 g4 g5 g6
   go_enter Tryz.func147,Tryz.ntmps147
   go_wp2_with fail
   go_ret
   exact ⟨rfl,(zR _).alloc _,lg ha⟩
  ·have d0 : decide (r < 0) = false:=zf (by omega)
   have d1 : decide (5 <= r) = false:=zf (by omega)
   have d2 : decide (k < 0) = false:=zf (by omega)
   have d3 : decide (3 < k) = false:=zf (by omega)
   have d4 : decide (f < -1) = false:=zf (by omega)
   have d5 : decide (5 <= f) = false:=zf (by omega)
   have d6 : decide (a < 0) = false:=zf (by omega)
   have d7 : decide (1000 < a) = true:=zg (by omega)
   clear ho g0 g1 g2 g3 g4 g5 g6 g7
   go_enter Tryz.func147,Tryz.ntmps147
   go_wp2_with fail
   go_ret
   exact ⟨rfl,(zR _).alloc _,lg ha⟩
  ·have d0 : decide (r < 0) = false:=zf (by omega)
   have d1 : decide (5 <= r) = false:=zf (by omega)
   have d2 : decide (k < 0) = false:=zf (by omega)
   have d3 : decide (3 < k) = false:=zf (by omega)
   have d4 : decide (f < -1) = false:=zf (by omega)
   have d5 : decide (5 <= f) = false:=zf (by omega)
   have d6 : decide (a < 0) = false:=zf (by omega)
   have d7 : decide (1000 < a) = false:=zf (by omega)
   have d8 : decide (b < 0) = true:=zg (by omega)
   clear ho g0 g1 g2 g3 g4 g5 g6 g7 g8
   go_enter Tryz.func147,Tryz.ntmps147
   go_wp2_with fail
   go_ret
   exact ⟨rfl,(zR _).alloc _,lg ha⟩
  ·have d0 : decide (r < 0) = false:=zf (by omega)
   have d1 : decide (5 <= r) = false:=zf (by omega)
   have d2 : decide (k < 0) = false:=zf (by omega)
   have d3 : decide (3 < k) = false:=zf (by omega)
   have d4 : decide (f < -1) = false:=zf (by omega)
   have d5 : decide (5 <= f) = false:=zf (by omega)
   have d6 : decide (a < 0) = false:=zf (by omega)
   have d7 : decide (1000 < a) = false:=zf (by omega)
   have d8 : decide (b < 0) = false:=zf (by omega)
   have d9 : decide (1000 < b) = true:=zg (by omega)
   clear ho g0 g1 g2 g3 g4 g5 g6 g7 g8 g9
   go_enter Tryz.func147,Tryz.ntmps147
   go_wp2_with fail
   go_ret
   exact ⟨rfl,(zR _).alloc _,lg ha⟩
 ·have ho':=ho
  unfold y7 at ho'
  have d0 : decide (r < 0) = false:=zf (by omega)
  have d1 : decide (5 <= r) = false:=zf (by omega)
  have d2 : decide (k < 0) = false:=zf (by omega)
  have d3 : decide (3 < k) = false:=zf (by omega)
  have d4 : decide (f < -1) = false:=zf (by omega)
  have d5 : decide (5 <= f) = false:=zf (by omega)
  have d6 : decide (a < 0) = false:=zf (by omega)
  have d7 : decide (1000 < a) = false:=zf (by omega)
  have d8 : decide (b < 0) = false:=zf (by omega)
  have d9 : decide (1000 < b) = false:=zf (by omega)
  clear ho'
  by_cases h0 : k = 0
  ·rw [LN ho h0]
   by_cases h1 : f = -1
   ·by_cases h2 : a = 0
    ·by_cases h3 : b = 0
     ·rw [zt ⟨h1,h2,h3⟩]
      have th0 : (k == 0) = true:=beq_iff_eq.2 h0
      have uh0 : (k != 0) = false:=by simp [h0]
      have th1 : (f == -1) = true:=beq_iff_eq.2 h1
      have uh1 : (f != -1) = false:=by simp [h1]
      have th2 : (a == 0) = true:=beq_iff_eq.2 h2
      have uh2 : (a != 0) = false:=by simp [h2]
      have vh2 : decide (0 < a) = false:=zf (by omega)
      have th3 : (b == 0) = true:=beq_iff_eq.2 h3
      have uh3 : (b != 0) = false:=by simp [h3]
      have vh3 : decide (0 < b) = false:=zf (by omega)
      clear ho h0 h1 h2 h3
      go_enter Tryz.func147,Tryz.ntmps147
      go_wp2_with fail
      go_ret
      exact ⟨rfl,(zR _).alloc _,lg ha⟩
     ·rw [zq (by omega)]
      have th0 : (k == 0) = true:=beq_iff_eq.2 h0
      have uh0 : (k != 0) = false:=by simp [h0]
      have th1 : (f == -1) = true:=beq_iff_eq.2 h1
      have uh1 : (f != -1) = false:=by simp [h1]
      have th2 : (a == 0) = true:=beq_iff_eq.2 h2
      have uh2 : (a != 0) = false:=by simp [h2]
      have vh2 : decide (0 < a) = false:=zf (by omega)
      have th3 : (b == 0) = false:=zb.2 h3
      have uh3 : (b != 0) = true:=bne_iff_ne.2 h3
      have vh3 : decide (0 < b) = true:=zg (by have h6:=of_decide_eq_false d6; have h8:=of_decide_eq_false d8; omega)
      clear ho h0 h1 h2 h3
      go_enter Tryz.func147,Tryz.ntmps147
      go_wp2_with fail
      go_ret
      exact ⟨rfl,(zR _).alloc _,lg ha⟩
    ·rw [zq (by omega)]
     have th0 : (k == 0) = true:=beq_iff_eq.2 h0
     have uh0 : (k != 0) = false:=by simp [h0]
     have th1 : (f == -1) = true:=beq_iff_eq.2 h1
     have uh1 : (f != -1) = false:=by simp [h1]
     have th2 : (a == 0) = false:=zb.2 h2
     have uh2 : (a != 0) = true:=bne_iff_ne.2 h2
     have vh2 : decide (0 < a) = true:=zg (by have h6:=of_decide_eq_false d6; have h8:=of_decide_eq_false d8; omega)
     clear ho h0 h1 h2
     go_enter Tryz.func147,Tryz.ntmps147
     go_wp2_with fail
     go_ret
     exact ⟨rfl,(zR _).alloc _,lg ha⟩
   ·rw [zq (by omega)]
    have th0 : (k == 0) = true:=beq_iff_eq.2 h0
    have uh0 : (k != 0) = false:=by simp [h0]
    have th1 : (f == -1) = false:=zb.2 h1
    have uh1 : (f != -1) = true:=bne_iff_ne.2 h1
    clear ho h0 h1
    go_enter Tryz.func147,Tryz.ntmps147
    go_wp2_with fail
    go_ret
    exact ⟨rfl,(zR _).alloc _,lg ha⟩
  ·rw [Qj ho h0]
   by_cases h1 : f = r
   ·rw [zt (.inl h1)]
    have th0 : (k == 0) = false:=zb.2 h0
    have uh0 : (k != 0) = true:=bne_iff_ne.2 h0
    have th1 : (f == r) = true:=beq_iff_eq.2 h1
    have uh1 : (f != r) = false:=by simp [h1]
    clear ho h0 h1
    go_enter Tryz.func147,Tryz.ntmps147
    go_wp2_with fail
    go_ret
    exact ⟨rfl,(zR _).alloc _,lg ha⟩
   ·by_cases h2 : f = -1
    ·by_cases h3 : k = 2
     ·rw [zq (by omega)]
      have th0 : (k == 0) = false:=zb.2 h0
      have uh0 : (k != 0) = true:=bne_iff_ne.2 h0
      have th1 : (f == r) = false:=zb.2 h1
      have uh1 : (f != r) = true:=bne_iff_ne.2 h1
      have th2 : (f == -1) = true:=beq_iff_eq.2 h2
      have uh2 : (f != -1) = false:=by simp [h2]
      have th3 : (k == 2) = true:=beq_iff_eq.2 h3
      have uh3 : (k != 2) = false:=by simp [h3]
      clear ho h0 h1 h2 h3
      go_enter Tryz.func147,Tryz.ntmps147
      go_wp2_with fail
      go_ret
      exact ⟨rfl,(zR _).alloc _,lg ha⟩
     ·rw [zt (.inr ⟨h2,h3⟩)]
      have th0 : (k == 0) = false:=zb.2 h0
      have uh0 : (k != 0) = true:=bne_iff_ne.2 h0
      have th1 : (f == r) = false:=zb.2 h1
      have uh1 : (f != r) = true:=bne_iff_ne.2 h1
      have th2 : (f == -1) = true:=beq_iff_eq.2 h2
      have uh2 : (f != -1) = false:=by simp [h2]
      have th3 : (k == 2) = false:=zb.2 h3
      have uh3 : (k != 2) = true:=bne_iff_ne.2 h3
      clear ho h0 h1 h2 h3
      go_enter Tryz.func147,Tryz.ntmps147
      go_wp2_with fail
      go_ret
      exact ⟨rfl,(zR _).alloc _,lg ha⟩
    ·rw [zq (by omega)]
     by_cases h3 : k = 2
     ·have th0 : (k == 0) = false:=zb.2 h0
      have uh0 : (k != 0) = true:=bne_iff_ne.2 h0
      have th1 : (f == r) = false:=zb.2 h1
      have uh1 : (f != r) = true:=bne_iff_ne.2 h1
      have th2 : (f == -1) = false:=zb.2 h2
      have uh2 : (f != -1) = true:=bne_iff_ne.2 h2
      have th3 : (k == 2) = true:=beq_iff_eq.2 h3
      have uh3 : (k != 2) = false:=by simp [h3]
      clear ho h0 h1 h2 h3
      go_enter Tryz.func147,Tryz.ntmps147
      go_wp2_with fail
      go_ret
      exact ⟨rfl,(zR _).alloc _,lg ha⟩
     ·have th0 : (k == 0) = false:=zb.2 h0
      have uh0 : (k != 0) = true:=bne_iff_ne.2 h0
      have th1 : (f == r) = false:=zb.2 h1
      have uh1 : (f != r) = true:=bne_iff_ne.2 h1
      have th2 : (f == -1) = false:=zb.2 h2
      have uh2 : (f != -1) = true:=bne_iff_ne.2 h2
      have th3 : (k == 2) = false:=zb.2 h3
      have uh3 : (k != 2) = true:=bne_iff_ne.2 h3
      clear ho h0 h1 h2 h3
      go_enter Tryz.func147,Tryz.ntmps147
      go_wp2_with fail
      go_ret
      exact ⟨rfl,(zR _).alloc _,lg ha⟩
def Ca (r k f a b : Int) : ByteArray:=EY [68,75,r,k,f + 1,a % 256,a / 256,b % 256,b / 256]
theorem OT (r k f a b : Int) (R : List SL.HP) (w : World) (H : own w R) :
  Calls Tryz.prog 199 #[zQ r k f a b] w fun e w'=>e = .returned (.tuple #[.string (if yz r k f a b = 0 then Ca r k f a b else ByteArray.empty),errV (yz r k f a b)]) /\ Ext w w' /\ own w' R:=by
 have ha:=lf H (.cells #[.int .i64 r,.int .i64 k,.int .i64 f,.int .i64 a,.int .i64 b] 24)
 have hxa:=(zR w).alloc (.cells #[.int .i64 r,.int .i64 k,.int .i64 f,.int .i64 a,.int .i64 b] 24)
 have hck:=D2 r k f a b _ _ ha
 by_cases h : yz r k f a b = 0
 ·rw [h,zt rfl]
  rw [h] at hck
  have HK:=zh hck
  have hh : ¬y7 r k f a b:=fun h'=>by rw [Jl h'] at h; cases h
  clear hck h
  unfold y7 at hh
  unfold zQ at HK
  unfold zQ Ca
  have g1 : 0 <= r:=by omega
  have g2 : r <= 4:=by omega
  have g3 : -1 <= f:=by omega
  have g4 : f <= 4:=by omega
  have g5 : 0 <= a:=by omega
  have g6 : a <= 1000:=by omega
  have g7 : 0 <= b:=by omega
  have g8 : b <= 1000:=by omega
  have g9 : 0 <= k:=by omega
  have g0 : k <= 3:=by omega
  have e1 : 0 <= a % 256:=by omega
  have e2 : a % 256 <= 255:=by omega
  have e3 : 0 <= a / 256:=by omega
  have e4 : a / 256 <= 3:=by omega
  have e5 : 0 <= b % 256:=by omega
  have e6 : b % 256 <= 255:=by omega
  have e7 : 0 <= b / 256:=by omega
  have e8 : b / 256 <= 3:=by omega
  clear hh
  go_enter Tryz.func199,Tryz.ntmps199
  go_upto_region 1 with (fail)
  obtain ⟨cc,ff⟩:=la 0 ha rfl
  generalize w.heap.size = g at *
  generalize w.alloc (.cells #[.int .i64 r,.int .i64 k,.int .i64 f,.int .i64 a,.int .i64 b] 24) = w1 at *
  go_wp2_with fail
  refine HK.out.mono ?_
  rintro e w2 ⟨rfl,hx2,h2'⟩
  rw [lL]
  clear cc ff
  obtain ⟨cc,ff⟩:=la 0 h2' rfl
  go_wp2_with fail
  have h7:=yt 0 (n:=9) (cap:=9) (sz:=1) (xs:=byteCells [68,75,r,k,f + 1,a % 256,a / 256,b % 256,b / 256]) (lf h2' (.cells #[.int .u8 68,.int .u8 75,.int .u8 r,.int .u8 k,.int .u8 (f + 1),.int .u8 (a % 256),.int .u8 (a / 256),.int .u8 (b % 256),.int .u8 (b / 256)] 5)) rfl (by decide) (by simp [maxLen]) rfl rfl
  refine (Gw _ [68,75,r,k,f + 1,a % 256,a / 256,b % 256,b / 256] 9 rfl (by decide) (by decide) _ _ h7).mono ?_
  rintro e w3 ⟨rfl,hx3,h3'⟩
  go_wp2_with fail
  go_ret2
  exact ⟨rfl,((hxa.trans hx2).alloc _).trans hx3,lg h3'⟩
 ·rw [zq h]
  have hp : 0 < yz r k f a b:=by unfold yz at h ⊢; split; decide; split; decide; rename_i h1 h2; rw [zq h1,zq h2] at h; exact absurd rfl h
  rw [lu hp] at hck ⊢
  have HK:=zh hck
  clear hck h
  generalize yz r k f a b = ff at *
  unfold zQ at HK
  unfold zQ
  go_enter Tryz.func199,Tryz.ntmps199
  go_upto_region 1 with (fail)
  obtain ⟨cc,ff⟩:=la 0 ha rfl
  generalize w.heap.size = g at *
  generalize w.alloc (.cells #[.int .i64 r,.int .i64 k,.int .i64 f,.int .i64 a,.int .i64 b] 24) = w1 at *
  go_wp2_with fail
  refine HK.out.mono ?_
  rintro e w2 ⟨rfl,hx2,h2'⟩
  go_wp2_with fail
  go_ret2
  exact ⟨rfl,hxa.trans hx2,lg h2'⟩
end Go.Proofs.YtbpblokfiajpjabGreatDoor
