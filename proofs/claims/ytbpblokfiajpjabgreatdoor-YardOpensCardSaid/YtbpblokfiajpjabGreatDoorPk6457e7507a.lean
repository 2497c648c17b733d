/- Lemmas on which YardOpens stands: the texts Shape9 Shape8 Shape10. No conditions. -/
import Derived.Test.YtbpblokfiajpjabGreatDoorPkea6427a47f
import Derived.Test.YtbpblokfiajpjabGreatDoorProg
set_option linter.all false
set_option maxRecDepth 1000000
set_option maxHeartbeats 32000000
namespace Go.Proofs.YtbpblokfiajpjabGreatDoor
open Go.RowKit Go.SL Go.Crc
attribute [local go_sem ↓] Go.wp_at_zero Go.wp_at_succ
theorem MX {a b : Int} (h : lV (a,b) 40 = false) : a < 0 \/ (0 <= a /\ 2 < a) \/ (0 <= a /\ a <= 2 /\ b < 0) \/ (0 <= a /\ a <= 2 /\ 0 <= b /\ 40 <= b) \/ (0 <= a /\ a < 2 /\ 0 <= b /\ b < 40 /\ 0 < b):=by
 unfold lV at h
 dsimp only at h
 split at h
 ·simp only [Bool.and_eq_false_iff,decide_eq_false_iff_not] at h; omega
 ·simp only [Bool.and_eq_false_iff,Bool.or_eq_false_iff,decide_eq_false_iff_not] at h; omega
theorem Ma {a b : Int} (h : lV (a,b) 40 = true) : (a = 2 /\ 0 <= b /\ b < 40) \/ (0 <= a /\ a < 2 /\ b = 0):=by
 unfold lV at h
 dsimp only at h
 split at h
 ·simp only [Bool.and_eq_true,decide_eq_true_eq] at h; omega
 ·simp only [Bool.and_eq_true,Bool.or_eq_true,decide_eq_true_eq] at h; omega
def VD (t : List Ent) (r : Nat) (R : List SL.HP) (w0 : World) (vb vi : Value) (wr : World) : Prop:=
 ∃k : Nat,k <= 8 /\ vi = .int .i64 (8 * r + k : Nat) /\ (∃x : Nat×Option Addr,vb = .slice x.2 (2 * k) x.1) /\ (∀j,j < k -> lV (t.getD (8 * r + j) (0,0)) 40 = true) /\ Ext w0 wr /\ own wr (row 5 1 vb (2 * k) (byteCells (Ab ((oW t r).take k)))::R)
theorem Vs (v : Value) (t : List Ent) (row : Int) (ht : t.length <= 1000) (ho : zl t row) (R : List SL.HP) (w : World) (hv : ∀w' l,own w' (l++R) -> zY w' v t) (H : own w R) :
  Calls Tryz.prog 236 #[v,.int .i64 row] w fun e w'=>e = .returned (.tuple #[.string ByteArray.empty,errV 1]) /\ Ext w w' /\ own w' R:=by
 obtain ⟨ao,b,off,cap,rfl,c1,c2,c3⟩:=(hv w [] H).form
 unfold zl at ho
 by_cases h2 : row < 0
 ·clear hv c3 ho
  go_enter Tryz.func236,Tryz.ntmps236
  go_wp2_with fail
  go_ret2
  exact ⟨rfl,Ext.refl _,H⟩
 ·by_cases h3 : (lr t.length : Int) <= row
  ·clear hv c3 ho
   go_enter Tryz.func236,Tryz.ntmps236
   go_wp2_with (go_at_call 156; refine (AA _ (by omega) _).mono ?_; rintro e w' ⟨rfl,rfl⟩)
   go_ret2
   exact ⟨rfl,Ext.refl _,H⟩
  ·have h1 : 32 < t.length:=by omega
   clear hv c3 ho
   go_enter Tryz.func236,Tryz.ntmps236
   go_wp2_with (go_at_call 156; refine (AA _ (by omega) _).mono ?_; rintro e w' ⟨rfl,rfl⟩)
   go_ret2
   exact ⟨rfl,Ext.refl _,H⟩
theorem Wt (v : Value) (t : List Ent) (r : Nat) (ho : ¬zl t r) (R : List SL.HP) (w : World) (hv : ∀w' l,own w' (l++R) -> zY w' v t) (H : own w R) :
  Calls Tryz.prog 236 #[v,.int .i64 r] w fun e w'=>e = .returned (.tuple #[.string (lU t r).1,errV (lU t r).2]) /\ Ext w w' /\ own w' R:=by
 obtain ⟨ao,b,off,cap,rfl,c1,c2,c3⟩:=(hv w [] H).form
 have hbad : ∀k : Nat,k < 8 -> lV (t.getD (8 * r + k) (0,0)) 40 = false -> lU t r = (ByteArray.empty,2):=fun k h1 h2=>L0 ho h1 h2
 have hok:=FZ ho
 have HO:=zh ho
 have HB:=zh hbad
 have HK:=zh hok
 unfold zl at ho
 have h1 : t.length <= 32:=by omega
 have h3 : (r : Int) < (lr t.length : Int):=by omega
 have h4 : r <= 4:=by have h0 : lr t.length <= 4:=(by unfold lr; omega); omega
 have HV:=zh hv
 have HC:=zh c3
 have b1 : decide (32 < (t.length : Int)) = false:=by simp; omega
 have b2 : decide ((r : Int) < 0) = false:=by simp
 have b3 : decide (lr t.length <= r) = false:=by simp; omega
 clear hv c3 ho hbad hok
 go_enter Tryz.func236,Tryz.ntmps236
 go_wp2_with (go_at_call 156; refine (AA _ (by omega) _).mono ?_; rintro e w' ⟨rfl,rfl⟩)
 go_loopw [6,7] (VD t r R w) (fun b _ _=>16 - IF b)
 case atStart=>exact ⟨0,by omega,by go_num,⟨(0,none),rfl⟩,fun j h=>absurd h (by omega),Ext.refl _,lv _ _ H⟩
 case round=>
  obtain ⟨k,hk,rfl,⟨⟨c1',a1⟩,rfl⟩,hj,hxr,hown⟩:=hrel
  have HJ:=zh hj
  clear hj
  dsimp only at hown
  obtain ⟨a2,g2,c2,hvv,q1,q2,-,-,-,-,-⟩:=lk 0 hown rfl
  simp only [Value.slice.injEq] at hvv
  obtain ⟨rfl,-,rfl⟩:=hvv
  by_cases hlt : k < 8
  ·go_upto_region 8 with (fail)
   have ha:=li hown (.cells #[.int .i64 0,.int .i64 0] 221)
   have hxa:=hxr.alloc (.cells #[.int .i64 0,.int .i64 0] 221)
   generalize wr.heap.size = p at *
   generalize wr.alloc (.cells #[.int .i64 0,.int .i64 0] 221) = wa at *
   by_cases hin : 8 * r + k < t.length
   ·obtain rfl:=HC.out (by omega)
    have hcell:=(HV.out wa [_,_] ha).cells hin
    obtain ⟨e1,e2⟩:=hcell
    obtain ⟨cc,ff⟩:=ld 0 ha rfl
    generalize hx : t.getD (8 * r + k) (0,0) = x at *
    have HX:=zh hx
    clear hx
    obtain ⟨x1,x2⟩:=x
    dsimp only at e1 e2
    go_upto_region 10 with (fail)
    have h5:=lg (i:=1) (v:=.int .i64 x2) 0 (lg (i:=0) (v:=.int .i64 x1) 0 ha rfl) rfl
    have hx5:=(hxa.setCell ⟨p,0,none⟩ (.int .i64 x1)).setCell ⟨p,1,none⟩ (.int .i64 x2)
    clear e1 e2 cc ff
    generalize (wa.setCell ⟨p,0,none⟩ (.int .i64 x1)).setCell ⟨p,1,none⟩ (.int .i64 x2) = w5 at *
    replace h5 : own w5 (pts p (.cells #[.int .i64 x1,.int .i64 x2] 221 (0,0))::_):=h5
    obtain ⟨cc,ff⟩:=ld 0 h5 rfl
    cases hok : lV (x1,x2) 40
    ·have hfin:=HB.out k hlt (by rw [HX.out]; exact hok)
     have HF:=zh hfin
     clear hfin
     rcases MX hok with g1 | ⟨g1,g2⟩ | ⟨g1,g2,g3⟩ | ⟨g1,g2,g3,g4⟩ | ⟨g1,g2,g3,g4,g5⟩
     ·clear hok
      go_wp2_with fail
      go_ret2
      exact ⟨by rw [HF.out]; rfl,hx5,le (le h5)⟩
     ·clear hok
      go_wp2_with fail
      go_ret2
      exact ⟨by rw [HF.out]; rfl,hx5,le (le h5)⟩
     ·clear hok
      go_wp2_with fail
      go_ret2
      exact ⟨by rw [HF.out]; rfl,hx5,le (le h5)⟩
     ·clear hok
      go_wp2_with fail
      go_ret2
      exact ⟨by rw [HF.out]; rfl,hx5,le (le h5)⟩
     ·clear hok
      have t2 : (x1 == 2) = false:=beq_eq_false_iff_ne.2 (by omega)
      have t3 : (x1 != 2) = true:=by rw [bne_iff_ne]; omega
      go_wp2_with fail
      go_ret2
      exact ⟨by rw [HF.out]; rfl,hx5,le (le h5)⟩
    ·rcases Ma hok with ⟨rfl,y3,y4⟩ | ⟨y1,y2,rfl⟩
     ·have HE:=zh hok
      clear hok
      have h3:=li h5 (.cells #[.int .u8 2,.int .u8 x2] 5)
      have hml : 2 * k + 2 <= maxLen:=by simp only [maxLen]; omega
      go_wp2_with (first | (at_builtin; refine lE rfl _ _ 211 rfl 2 5 Tryz.underlying211 Bk rfl (by decide) rfl h3 rfl (some ⟨w5.heap.size,0,none⟩) 2 2 [.int .u8 2,.int .u8 x2] rfl rfl (oy w5 [.int .u8 2,.int .u8 x2] _) (fun h=>by cases h) (DR _ _) hml (by omega) ?_))
      intro v4 w4 h4 hx4
      obtain ⟨a4,g4,c4,rfl,z1,z2,-,-,-,-,-⟩:=lk 2 h4 rfl
      go_wp2_with fail
      go_roundw
      case rel=>
       refine ⟨k + 1,by omega,by go_num,⟨(c4,a4),rfl⟩,fun j hj=>?_,((hx5.alloc _).trans hx4),?_⟩
       ·by_cases ej : j = k
        ·subst ej; rw [HX.out]; exact HE.out
        ·exact HJ.out j (by omega)
       ·rw [BX _ _ _ hlt,HX.out]
        exact le (le h4)
      case measure=>simp [IF]; omega
     ·have t2 : (x1 == 2) = false:=beq_eq_false_iff_ne.2 (by omega)
      have t3 : (x1 != 2) = true:=by rw [bne_iff_ne]; omega
      have HE:=zh hok
      clear hok
      have h3:=li h5 (.cells #[.int .u8 x1,.int .u8 0] 5)
      have hml : 2 * k + 2 <= maxLen:=by simp only [maxLen]; omega
      go_wp2_with (first | (at_builtin; refine lE rfl _ _ 211 rfl 2 5 Tryz.underlying211 Bk rfl (by decide) rfl h3 rfl (some ⟨w5.heap.size,0,none⟩) 2 2 [.int .u8 x1,.int .u8 0] rfl rfl (oy w5 [.int .u8 x1,.int .u8 0] _) (fun h=>by cases h) (DR _ _) hml (by omega) ?_))
      intro v4 w4 h4 hx4
      obtain ⟨a4,g4,c4,rfl,z1,z2,-,-,-,-,-⟩:=lk 2 h4 rfl
      go_wp2_with fail
      go_roundw
      case rel=>
       refine ⟨k + 1,by omega,by go_num,⟨(c4,a4),rfl⟩,fun j hj=>?_,((hx5.alloc _).trans hx4),?_⟩
       ·by_cases ej : j = k
        ·subst ej; rw [HX.out]; exact HE.out
        ·exact HJ.out j (by omega)
       ·rw [BX _ _ _ hlt,HX.out]
        exact le (le h4)
      case measure=>simp [IF]; omega
   ·have hx : t.getD (8 * r + k) (0,0) = (0,0):=by simp [List.getD,show t.length <= 8 * r + k by omega]
    have HX:=zh hx
    clear hx
    obtain ⟨cc,ff⟩:=ld 0 ha rfl
    go_upto_region 10 with (fail)
    have h5:=ha
    have hx5:=hxa
    generalize wa = w5 at *
    have hok : lV (0,0) 40 = true:=rfl
    have HE:=zh hok
    clear hok
    have h3:=li h5 (.cells #[.int .u8 0,.int .u8 0] 5)
    have hml : 2 * k + 2 <= maxLen:=by simp only [maxLen]; omega
    go_wp2_with (first | (at_builtin; refine lE rfl _ _ 211 rfl 2 5 Tryz.underlying211 Bk rfl (by decide) rfl h3 rfl (some ⟨w5.heap.size,0,none⟩) 2 2 [.int .u8 0,.int .u8 0] rfl rfl (oy w5 [.int .u8 0,.int .u8 0] _) (fun h=>by cases h) (DR _ _) hml (by omega) ?_))
    intro v4 w4 h4 hx4
    obtain ⟨a4,g4,c4,rfl,z1,z2,-,-,-,-,-⟩:=lk 2 h4 rfl
    go_wp2_with fail
    go_roundw
    case rel=>
     refine ⟨k + 1,by omega,by go_num,⟨(c4,a4),rfl⟩,fun j hj=>?_,((hx5.alloc _).trans hx4),?_⟩
     ·by_cases ej : j = k
      ·subst ej; rw [HX.out]; exact HE.out
      ·exact HJ.out j (by omega)
     ·rw [BX _ _ _ hlt,HX.out]
      exact le (le h4)
    case measure=>simp [IF]; omega
  ·have hk8 : k = 8:=by omega
   subst hk8
   have hok:=HK.out HJ.out
   have hall : (oW t r).take 8 = oW t r:=List.take_of_length_le (by rw [A7]; omega)
   rw [hall] at hown
   have hlen : (Ab (oW t r)).length = 2 * 8:=by rw [Dz,A7]
   have hcv:=EC 0 hlen hown rfl (by omega)
   have HF:=zh hok
   clear hok hall hlen
   generalize strOfNums (Ab (oW t r)) = z at *
   simp only [Nat.reduceMul] at hcv
   go_wp2_with fail
   go_ret2
   exact ⟨by rw [HF.out]; rfl,hxr,le hown⟩
def o6 (r k f a b : Int) : Value:=.agg #[.int .i64 r,.int .i64 k,.int .i64 f,.int .i64 a,.int .i64 b]
def yr (r k f a b : Int) : Prop:=r < 0 \/ 4 < r \/ k < 0 \/ 3 < k \/ f < -1 \/ 4 < f \/ a < 0 \/ 1000 < a \/ b < 0 \/ 1000 < b
instance (r k f a b : Int) : Decidable (yr r k f a b):=by unfold yr; infer_instance
def Fv (r k f a b : Int) : Prop:=if k = 0 then ¬(f = -1 /\ a = 0 /\ b = 0) else (f = r \/ (f = -1 /\ k≠2))
instance (r k f a b : Int) : Decidable (Fv r k f a b):=by unfold Fv; infer_instance
def yd (r k f a b : Int) : Int:=if yr r k f a b then 1 else if Fv r k f a b then 2 else 0
theorem DL {r k f a b : Int} (h : yr r k f a b) : yd r k f a b = 1:=if_pos h
theorem KJ {r k f a b : Int} (h : ¬yr r k f a b) (h0 : k = 0) : yd r k f a b = if f = -1 /\ a = 0 /\ b = 0 then 0 else 2:=by
 subst h0
 unfold yd Fv
 rw [if_neg h]
 by_cases h2 : f = -1 /\ a = 0 /\ b = 0
 ·simp [h2]
 ·rw [if_neg h2]; simp [h2]
theorem Pd {r k f a b : Int} (h : ¬yr r k f a b) (h0 : k≠0) : yd r k f a b = if f = r \/ (f = -1 /\ k≠2) then 2 else 0:=by
 unfold yd Fv
 rw [if_neg h]
 simp [h0]
theorem GC {r k f a b : Int} (h : yr r k f a b) : (r < 0) \/ (0 <= r /\ 4 < r) \/ (0 <= r /\ r <= 4 /\ k < 0) \/ (0 <= r /\ r <= 4 /\ 0 <= k /\ 3 < k) \/ (0 <= r /\ r <= 4 /\ 0 <= k /\ k <= 3 /\ f < -1) \/ (0 <= r /\ r <= 4 /\ 0 <= k /\ k <= 3 /\ -1 <= f /\ 4 < f) \/ (0 <= r /\ r <= 4 /\ 0 <= k /\ k <= 3 /\ -1 <= f /\ f <= 4 /\ a < 0) \/ (0 <= r /\ r <= 4 /\ 0 <= k /\ k <= 3 /\ -1 <= f /\ f <= 4 /\ 0 <= a /\ 1000 < a) \/ (0 <= r /\ r <= 4 /\ 0 <= k /\ k <= 3 /\ -1 <= f /\ f <= 4 /\ 0 <= a /\ a <= 1000 /\ b < 0) \/ (0 <= r /\ r <= 4 /\ 0 <= k /\ k <= 3 /\ -1 <= f /\ f <= 4 /\ 0 <= a /\ a <= 1000 /\ 0 <= b /\ 1000 < b):=by
 by_cases h0 : r < 0
 ·exact (.inl h0)
 by_cases h1 : 4 < r
 ·exact (.inr (.inl ⟨by omega,h1⟩))
 by_cases h2 : k < 0
 ·exact (.inr (.inr (.inl ⟨by omega,by omega,h2⟩)))
 by_cases h3 : 3 < k
 ·exact (.inr (.inr (.inr (.inl ⟨by omega,by omega,by omega,h3⟩))))
 by_cases h4 : f < -1
 ·exact (.inr (.inr (.inr (.inr (.inl ⟨by omega,by omega,by omega,by omega,h4⟩)))))
 by_cases h5 : 4 < f
 ·exact (.inr (.inr (.inr (.inr (.inr (.inl ⟨by omega,by omega,by omega,by omega,by omega,h5⟩))))))
 by_cases h6 : a < 0
 ·exact (.inr (.inr (.inr (.inr (.inr (.inr (.inl ⟨by omega,by omega,by omega,by omega,by omega,by omega,h6⟩)))))))
 by_cases h7 : 1000 < a
 ·exact (.inr (.inr (.inr (.inr (.inr (.inr (.inr (.inl ⟨by omega,by omega,by omega,by omega,by omega,by omega,by omega,h7⟩))))))))
 by_cases h8 : b < 0
 ·exact (.inr (.inr (.inr (.inr (.inr (.inr (.inr (.inr (.inl ⟨by omega,by omega,by omega,by omega,by omega,by omega,by omega,by omega,h8⟩)))))))))
 unfold yr at h
 have h9 : 1000 < b:=by
  rcases h with h | h | h | h | h | h | h | h | h | h
  all_goals first | exact h | exact absurd h (by assumption)
 clear h
 exact (.inr (.inr (.inr (.inr (.inr (.inr (.inr (.inr (.inr ⟨by omega,by omega,by omega,by omega,by omega,by omega,by omega,by omega,by omega,by omega⟩)))))))))
theorem GB (r k f a b : Int) (R : List SL.HP) (w : World) (H : own w R) :
  Calls Tryz.prog 147 #[o6 r k f a b] w fun e w'=>e = .returned (errV (yd r k f a b)) /\ Ext w w' /\ own w' R:=by
 have ha:=li H (.cells #[.int .i64 r,.int .i64 k,.int .i64 f,.int .i64 a,.int .i64 b] 24)
 obtain ⟨cc,ff⟩:=ld 0 ha rfl
 unfold o6
 by_cases ho : yr r k f a b
 ·rw [DL ho]
  rcases GC ho with g0 | ⟨g0,g1⟩ | ⟨g0,g1,g2⟩ | ⟨g0,g1,g2,g3⟩ | ⟨g0,g1,g2,g3,g4⟩ | ⟨g0,g1,g2,g3,g4,g5⟩ | ⟨g0,g1,g2,g3,g4,g5,g6⟩ | ⟨g0,g1,g2,g3,g4,g5,g6,g7⟩ | ⟨g0,g1,g2,g3,g4,g5,g6,g7,g8⟩ | ⟨g0,g1,g2,g3,g4,g5,g6,g7,g8,g9⟩
  ·have d0 : decide (r < 0) = true:=decide_eq_true (by omega)
   clear ho g0
   go_enter Tryz.func147,Tryz.ntmps147
   go_wp2_with fail
   go_ret
   exact ⟨rfl,(Ext.refl _).alloc _,le ha⟩
  ·have d0 : decide (r < 0) = false:=decide_eq_false (by omega)
   have d1 : decide (5 <= r) = true:=decide_eq_true (by omega)
   clear ho g0 g1
   go_enter Tryz.func147,Tryz.ntmps147
   go_wp2_with fail
   go_ret
   exact ⟨rfl,(Ext.refl _).alloc _,le ha⟩
  ·have d0 : decide (r < 0) = false:=decide_eq_false (by omega)
   have d1 : decide (5 <= r) = false:=decide_eq_false (by omega)
   have d2 : decide (k < 0) = true:=decide_eq_true (by omega)
   clear ho g0 g1 g2
   go_enter Tryz.func147,Tryz.ntmps147
   go_wp2_with fail
   go_ret
   exact ⟨rfl,(Ext.refl _).alloc _,le ha⟩
  ·have d0 : decide (r < 0) = false:=decide_eq_false (by omega)
   have d1 : decide (5 <= r) = false:=decide_eq_false (by omega)
   have d2 : decide (k < 0) = false:=decide_eq_false (by omega)
   have d3 : decide (3 < k) = true:=decide_eq_true (by omega)
   clear ho g0 g1 g2 g3
   go_enter Tryz.func147,Tryz.ntmps147
   go_wp2_with fail
   go_ret
   exact ⟨rfl,(Ext.refl _).alloc _,le ha⟩
  ·have d0 : decide (r < 0) = false:=decide_eq_false (by omega)
   have d1 : decide (5 <= r) = false:=decide_eq_false (by omega)
   have d2 : decide (k < 0) = false:=decide_eq_false (by omega)
   have d3 : decide (3 < k) = false:=decide_eq_false (by omega)
   have d4 : decide (f < -1) = true:=decide_eq_true (by omega)
   clear ho g0 g1 g2 g3 g4
   go_enter Tryz.func147,Tryz.ntmps147
   go_wp2_with fail
   go_ret
   exact ⟨rfl,(Ext.refl _).alloc _,le ha⟩
  ·have d0 : decide (r < 0) = false:=decide_eq_false (by omega)
   have d1 : decide (5 <= r) = false:=decide_eq_false (by omega)
   have d2 : decide (k < 0) = false:=decide_eq_false (by omega)
   have d3 : decide (3 < k) = false:=decide_eq_false (by omega)
   have d4 : decide (f < -1) = false:=decide_eq_false (by omega)
   have d5 : decide (5 <= f) = true:=decide_eq_true (by omega)
   clear ho g0 g1 g2 g3 g4 g5
   go_enter Tryz.func147,Tryz.ntmps147
   go_wp2_with fail
   go_ret
   exact ⟨rfl,(Ext.refl _).alloc _,le ha⟩
  ·have d0 : decide (r < 0) = false:=decide_eq_false (by omega)
   have d1 : decide (5 <= r) = false:=decide_eq_false (by omega)
   have d2 : decide (k < 0) = false:=decide_eq_false (by omega)
   have d3 : decide (3 < k) = false:=decide_eq_false (by omega)
   have d4 : decide (f < -1) = false:=decide_eq_false (by omega)
   have d5 : decide (5 <= f) = false:=decide_eq_false (by omega)
   have d6 : decide (a < 0) = true:=decide_eq_true (by omega)
   clear ho g0 g1 g2 g3 g4 g5 g6
   go_enter Tryz.func147,Tryz.ntmps147
   go_wp2_with fail
   go_ret
   exact ⟨rfl,(Ext.refl _).alloc _,le ha⟩
  ·have d0 : decide (r < 0) = false:=decide_eq_false (by omega)
   have d1 : decide (5 <= r) = false:=decide_eq_false (by omega)
   have d2 : decide (k < 0) = false:=decide_eq_false (by omega)
   have d3 : decide (3 < k) = false:=decide_eq_false (by omega)
   have d4 : decide (f < -1) = false:=decide_eq_false (by omega)
   have d5 : decide (5 <= f) = false:=decide_eq_false (by omega)
   have d6 : decide (a < 0) = false:=decide_eq_false (by omega)
   have d7 : decide (1000 < a) = true:=decide_eq_true (by omega)
   clear ho g0 g1 g2 g3 g4 g5 g6 g7
   go_enter Tryz.func147,Tryz.ntmps147
   go_wp2_with fail
   go_ret
   exact ⟨rfl,(Ext.refl _).alloc _,le ha⟩
  ·have d0 : decide (r < 0) = false:=decide_eq_false (by omega)
   have d1 : decide (5 <= r) = false:=decide_eq_false (by omega)
   have d2 : decide (k < 0) = false:=decide_eq_false (by omega)
   have d3 : decide (3 < k) = false:=decide_eq_false (by omega)
   have d4 : decide (f < -1) = false:=decide_eq_false (by omega)
   have d5 : decide (5 <= f) = false:=decide_eq_false (by omega)
   have d6 : decide (a < 0) = false:=decide_eq_false (by omega)
   have d7 : decide (1000 < a) = false:=decide_eq_false (by omega)
   have d8 : decide (b < 0) = true:=decide_eq_true (by omega)
   clear ho g0 g1 g2 g3 g4 g5 g6 g7 g8
   go_enter Tryz.func147,Tryz.ntmps147
   go_wp2_with fail
   go_ret
   exact ⟨rfl,(Ext.refl _).alloc _,le ha⟩
  ·have d0 : decide (r < 0) = false:=decide_eq_false (by omega)
   have d1 : decide (5 <= r) = false:=decide_eq_false (by omega)
   have d2 : decide (k < 0) = false:=decide_eq_false (by omega)
   have d3 : decide (3 < k) = false:=decide_eq_false (by omega)
   have d4 : decide (f < -1) = false:=decide_eq_false (by omega)
   have d5 : decide (5 <= f) = false:=decide_eq_false (by omega)
   have d6 : decide (a < 0) = false:=decide_eq_false (by omega)
   have d7 : decide (1000 < a) = false:=decide_eq_false (by omega)
   have d8 : decide (b < 0) = false:=decide_eq_false (by omega)
   have d9 : decide (1000 < b) = true:=decide_eq_true (by omega)
   clear ho g0 g1 g2 g3 g4 g5 g6 g7 g8 g9
   go_enter Tryz.func147,Tryz.ntmps147
   go_wp2_with fail
   go_ret
   exact ⟨rfl,(Ext.refl _).alloc _,le ha⟩
 ·have ho':=ho
  unfold yr at ho'
  have d0 : decide (r < 0) = false:=decide_eq_false (by omega)
  have d1 : decide (5 <= r) = false:=decide_eq_false (by omega)
  have d2 : decide (k < 0) = false:=decide_eq_false (by omega)
  have d3 : decide (3 < k) = false:=decide_eq_false (by omega)
  have d4 : decide (f < -1) = false:=decide_eq_false (by omega)
  have d5 : decide (5 <= f) = false:=decide_eq_false (by omega)
  have d6 : decide (a < 0) = false:=decide_eq_false (by omega)
  have d7 : decide (1000 < a) = false:=decide_eq_false (by omega)
  have d8 : decide (b < 0) = false:=decide_eq_false (by omega)
  have d9 : decide (1000 < b) = false:=decide_eq_false (by omega)
  clear ho'
  by_cases h0 : k = 0
  ·rw [KJ ho h0]
   by_cases h1 : f = -1
   ·by_cases h2 : a = 0
    ·by_cases h3 : b = 0
     ·rw [if_pos ⟨h1,h2,h3⟩]
      have th0 : (k == 0) = true:=beq_iff_eq.2 h0
      have uh0 : (k != 0) = false:=by simp [h0]
      have th1 : (f == -1) = true:=beq_iff_eq.2 h1
      have uh1 : (f != -1) = false:=by simp [h1]
      have th2 : (a == 0) = true:=beq_iff_eq.2 h2
      have uh2 : (a != 0) = false:=by simp [h2]
      have vh2 : decide (0 < a) = false:=decide_eq_false (by omega)
      have th3 : (b == 0) = true:=beq_iff_eq.2 h3
      have uh3 : (b != 0) = false:=by simp [h3]
      have vh3 : decide (0 < b) = false:=decide_eq_false (by omega)
      clear ho h0 h1 h2 h3
      go_enter Tryz.func147,Tryz.ntmps147
      go_wp2_with fail
      go_ret
      exact ⟨rfl,(Ext.refl _).alloc _,le ha⟩
     ·rw [if_neg (by omega)]
      have th0 : (k == 0) = true:=beq_iff_eq.2 h0
      have uh0 : (k != 0) = false:=by simp [h0]
      have th1 : (f == -1) = true:=beq_iff_eq.2 h1
      have uh1 : (f != -1) = false:=by simp [h1]
      have th2 : (a == 0) = true:=beq_iff_eq.2 h2
      have uh2 : (a != 0) = false:=by simp [h2]
      have vh2 : decide (0 < a) = false:=decide_eq_false (by omega)
      have th3 : (b == 0) = false:=beq_eq_false_iff_ne.2 h3
      have uh3 : (b != 0) = true:=bne_iff_ne.2 h3
      have vh3 : decide (0 < b) = true:=decide_eq_true (by have h6:=of_decide_eq_false d6; have h8:=of_decide_eq_false d8; omega)
      clear ho h0 h1 h2 h3
      go_enter Tryz.func147,Tryz.ntmps147
      go_wp2_with fail
      go_ret
      exact ⟨rfl,(Ext.refl _).alloc _,le ha⟩
    ·rw [if_neg (by omega)]
     have th0 : (k == 0) = true:=beq_iff_eq.2 h0
     have uh0 : (k != 0) = false:=by simp [h0]
     have th1 : (f == -1) = true:=beq_iff_eq.2 h1
     have uh1 : (f != -1) = false:=by simp [h1]
     have th2 : (a == 0) = false:=beq_eq_false_iff_ne.2 h2
     have uh2 : (a != 0) = true:=bne_iff_ne.2 h2
     have vh2 : decide (0 < a) = true:=decide_eq_true (by have h6:=of_decide_eq_false d6; have h8:=of_decide_eq_false d8; omega)
     clear ho h0 h1 h2
     go_enter Tryz.func147,Tryz.ntmps147
     go_wp2_with fail
     go_ret
     exact ⟨rfl,(Ext.refl _).alloc _,le ha⟩
   ·rw [if_neg (by omega)]
    have th0 : (k == 0) = true:=beq_iff_eq.2 h0
    have uh0 : (k != 0) = false:=by simp [h0]
    have th1 : (f == -1) = false:=beq_eq_false_iff_ne.2 h1
    have uh1 : (f != -1) = true:=bne_iff_ne.2 h1
    clear ho h0 h1
    go_enter Tryz.func147,Tryz.ntmps147
    go_wp2_with fail
    go_ret
    exact ⟨rfl,(Ext.refl _).alloc _,le ha⟩
  ·rw [Pd ho h0]
   by_cases h1 : f = r
   ·rw [if_pos (.inl h1)]
    have th0 : (k == 0) = false:=beq_eq_false_iff_ne.2 h0
    have uh0 : (k != 0) = true:=bne_iff_ne.2 h0
    have th1 : (f == r) = true:=beq_iff_eq.2 h1
    have uh1 : (f != r) = false:=by simp [h1]
    clear ho h0 h1
    go_enter Tryz.func147,Tryz.ntmps147
    go_wp2_with fail
    go_ret
    exact ⟨rfl,(Ext.refl _).alloc _,le ha⟩
   ·by_cases h2 : f = -1
    ·by_cases h3 : k = 2
     ·rw [if_neg (by omega)]
      have th0 : (k == 0) = false:=beq_eq_false_iff_ne.2 h0
      have uh0 : (k != 0) = true:=bne_iff_ne.2 h0
      have th1 : (f == r) = false:=beq_eq_false_iff_ne.2 h1
      have uh1 : (f != r) = true:=bne_iff_ne.2 h1
      have th2 : (f == -1) = true:=beq_iff_eq.2 h2
      have uh2 : (f != -1) = false:=by simp [h2]
      have th3 : (k == 2) = true:=beq_iff_eq.2 h3
      have uh3 : (k != 2) = false:=by simp [h3]
      clear ho h0 h1 h2 h3
      go_enter Tryz.func147,Tryz.ntmps147
      go_wp2_with fail
      go_ret
      exact ⟨rfl,(Ext.refl _).alloc _,le ha⟩
     ·rw [if_pos (.inr ⟨h2,h3⟩)]
      have th0 : (k == 0) = false:=beq_eq_false_iff_ne.2 h0
      have uh0 : (k != 0) = true:=bne_iff_ne.2 h0
      have th1 : (f == r) = false:=beq_eq_false_iff_ne.2 h1
      have uh1 : (f != r) = true:=bne_iff_ne.2 h1
      have th2 : (f == -1) = true:=beq_iff_eq.2 h2
      have uh2 : (f != -1) = false:=by simp [h2]
      have th3 : (k == 2) = false:=beq_eq_false_iff_ne.2 h3
      have uh3 : (k != 2) = true:=bne_iff_ne.2 h3
      clear ho h0 h1 h2 h3
      go_enter Tryz.func147,Tryz.ntmps147
      go_wp2_with fail
      go_ret
      exact ⟨rfl,(Ext.refl _).alloc _,le ha⟩
    ·rw [if_neg (by omega)]
     by_cases h3 : k = 2
     ·have th0 : (k == 0) = false:=beq_eq_false_iff_ne.2 h0
      have uh0 : (k != 0) = true:=bne_iff_ne.2 h0
      have th1 : (f == r) = false:=beq_eq_false_iff_ne.2 h1
      have uh1 : (f != r) = true:=bne_iff_ne.2 h1
      have th2 : (f == -1) = false:=beq_eq_false_iff_ne.2 h2
      have uh2 : (f != -1) = true:=bne_iff_ne.2 h2
      have th3 : (k == 2) = true:=beq_iff_eq.2 h3
      have uh3 : (k != 2) = false:=by simp [h3]
      clear ho h0 h1 h2 h3
      go_enter Tryz.func147,Tryz.ntmps147
      go_wp2_with fail
      go_ret
      exact ⟨rfl,(Ext.refl _).alloc _,le ha⟩
     ·have th0 : (k == 0) = false:=beq_eq_false_iff_ne.2 h0
      have uh0 : (k != 0) = true:=bne_iff_ne.2 h0
      have th1 : (f == r) = false:=beq_eq_false_iff_ne.2 h1
      have uh1 : (f != r) = true:=bne_iff_ne.2 h1
      have th2 : (f == -1) = false:=beq_eq_false_iff_ne.2 h2
      have uh2 : (f != -1) = true:=bne_iff_ne.2 h2
      have th3 : (k == 2) = false:=beq_eq_false_iff_ne.2 h3
      have uh3 : (k != 2) = true:=bne_iff_ne.2 h3
      clear ho h0 h1 h2 h3
      go_enter Tryz.func147,Tryz.ntmps147
      go_wp2_with fail
      go_ret
      exact ⟨rfl,(Ext.refl _).alloc _,le ha⟩
theorem GD (r k f a b : Int) (R : List SL.HP) (w : World) (H : own w R) :
  Calls Tryz.prog 203 #[o6 r k f a b] w fun e w'=>e = .returned (.int .i64 (yd r k f a b)) /\ Ext w w' /\ own w' R:=by
 have ha:=li H (.cells #[.int .i64 r,.int .i64 k,.int .i64 f,.int .i64 a,.int .i64 b] 24)
 obtain ⟨cc,ff⟩:=ld 0 ha rfl
 unfold o6
 by_cases ho : yr r k f a b
 ·rw [DL ho]
  rcases GC ho with g0 | ⟨g0,g1⟩ | ⟨g0,g1,g2⟩ | ⟨g0,g1,g2,g3⟩ | ⟨g0,g1,g2,g3,g4⟩ | ⟨g0,g1,g2,g3,g4,g5⟩ | ⟨g0,g1,g2,g3,g4,g5,g6⟩ | ⟨g0,g1,g2,g3,g4,g5,g6,g7⟩ | ⟨g0,g1,g2,g3,g4,g5,g6,g7,g8⟩ | ⟨g0,g1,g2,g3,g4,g5,g6,g7,g8,g9⟩
  ·have d0 : decide (r < 0) = true:=decide_eq_true (by omega)
   clear ho g0
   go_enter Tryz.func203,Tryz.ntmps203
   go_wp2_with fail
   go_ret
   exact ⟨rfl,(Ext.refl _).alloc _,le ha⟩
  ·have d0 : decide (r < 0) = false:=decide_eq_false (by omega)
   have d1 : decide (4 < r) = true:=decide_eq_true (by omega)
   clear ho g0 g1
   go_enter Tryz.func203,Tryz.ntmps203
   go_wp2_with fail
   go_ret
   exact ⟨rfl,(Ext.refl _).alloc _,le ha⟩
  ·have d0 : decide (r < 0) = false:=decide_eq_false (by omega)
   have d1 : decide (4 < r) = false:=decide_eq_false (by omega)
   have d2 : decide (k < 0) = true:=decide_eq_true (by omega)
   clear ho g0 g1 g2
   go_enter Tryz.func203,Tryz.ntmps203
   go_wp2_with fail
   go_ret
   exact ⟨rfl,(Ext.refl _).alloc _,le ha⟩
  ·have d0 : decide (r < 0) = false:=decide_eq_false (by omega)
   have d1 : decide (4 < r) = false:=decide_eq_false (by omega)
   have d2 : decide (k < 0) = false:=decide_eq_false (by omega)
   have d3 : decide (3 < k) = true:=decide_eq_true (by omega)
   clear ho g0 g1 g2 g3
   go_enter Tryz.func203,Tryz.ntmps203
   go_wp2_with fail
   go_ret
   exact ⟨rfl,(Ext.refl _).alloc _,le ha⟩
  ·have d0 : decide (r < 0) = false:=decide_eq_false (by omega)
   have d1 : decide (4 < r) = false:=decide_eq_false (by omega)
   have d2 : decide (k < 0) = false:=decide_eq_false (by omega)
   have d3 : decide (3 < k) = false:=decide_eq_false (by omega)
   have d4 : decide (f < -1) = true:=decide_eq_true (by omega)
   clear ho g0 g1 g2 g3 g4
   go_enter Tryz.func203,Tryz.ntmps203
   go_wp2_with fail
   go_ret
   exact ⟨rfl,(Ext.refl _).alloc _,le ha⟩
  ·have d0 : decide (r < 0) = false:=decide_eq_false (by omega)
   have d1 : decide (4 < r) = false:=decide_eq_false (by omega)
   have d2 : decide (k < 0) = false:=decide_eq_false (by omega)
   have d3 : decide (3 < k) = false:=decide_eq_false (by omega)
   have d4 : decide (f < -1) = false:=decide_eq_false (by omega)
   have d5 : decide (4 < f) = true:=decide_eq_true (by omega)
   clear ho g0 g1 g2 g3 g4 g5
   go_enter Tryz.func203,Tryz.ntmps203
   go_wp2_with fail
   go_ret
   exact ⟨rfl,(Ext.refl _).alloc _,le ha⟩
  ·have d0 : decide (r < 0) = false:=decide_eq_false (by omega)
   have d1 : decide (4 < r) = false:=decide_eq_false (by omega)
   have d2 : decide (k < 0) = false:=decide_eq_false (by omega)
   have d3 : decide (3 < k) = false:=decide_eq_false (by omega)
   have d4 : decide (f < -1) = false:=decide_eq_false (by omega)
   have d5 : decide (4 < f) = false:=decide_eq_false (by omega)
   have d6 : decide (a < 0) = true:=decide_eq_true (by omega)
   clear ho g0 g1 g2 g3 g4 g5 g6
   go_enter Tryz.func203,Tryz.ntmps203
   go_wp2_with fail
   go_ret
   exact ⟨rfl,(Ext.refl _).alloc _,le ha⟩
  ·have d0 : decide (r < 0) = false:=decide_eq_false (by omega)
   have d1 : decide (4 < r) = false:=decide_eq_false (by omega)
   have d2 : decide (k < 0) = false:=decide_eq_false (by omega)
   have d3 : decide (3 < k) = false:=decide_eq_false (by omega)
   have d4 : decide (f < -1) = false:=decide_eq_false (by omega)
   have d5 : decide (4 < f) = false:=decide_eq_false (by omega)
   have d6 : decide (a < 0) = false:=decide_eq_false (by omega)
   have d7 : decide (1000 < a) = true:=decide_eq_true (by omega)
   clear ho g0 g1 g2 g3 g4 g5 g6 g7
   go_enter Tryz.func203,Tryz.ntmps203
   go_wp2_with fail
   go_ret
   exact ⟨rfl,(Ext.refl _).alloc _,le ha⟩
  ·have d0 : decide (r < 0) = false:=decide_eq_false (by omega)
   have d1 : decide (4 < r) = false:=decide_eq_false (by omega)
   have d2 : decide (k < 0) = false:=decide_eq_false (by omega)
   have d3 : decide (3 < k) = false:=decide_eq_false (by omega)
   have d4 : decide (f < -1) = false:=decide_eq_false (by omega)
   have d5 : decide (4 < f) = false:=decide_eq_false (by omega)
   have d6 : decide (a < 0) = false:=decide_eq_false (by omega)
   have d7 : decide (1000 < a) = false:=decide_eq_false (by omega)
   have d8 : decide (b < 0) = true:=decide_eq_true (by omega)
   clear ho g0 g1 g2 g3 g4 g5 g6 g7 g8
   go_enter Tryz.func203,Tryz.ntmps203
   go_wp2_with fail
   go_ret
   exact ⟨rfl,(Ext.refl _).alloc _,le ha⟩
  ·have d0 : decide (r < 0) = false:=decide_eq_false (by omega)
   have d1 : decide (4 < r) = false:=decide_eq_false (by omega)
   have d2 : decide (k < 0) = false:=decide_eq_false (by omega)
   have d3 : decide (3 < k) = false:=decide_eq_false (by omega)
   have d4 : decide (f < -1) = false:=decide_eq_false (by omega)
   have d5 : decide (4 < f) = false:=decide_eq_false (by omega)
   have d6 : decide (a < 0) = false:=decide_eq_false (by omega)
   have d7 : decide (1000 < a) = false:=decide_eq_false (by omega)
   have d8 : decide (b < 0) = false:=decide_eq_false (by omega)
   have d9 : decide (1000 < b) = true:=decide_eq_true (by omega)
   clear ho g0 g1 g2 g3 g4 g5 g6 g7 g8 g9
   go_enter Tryz.func203,Tryz.ntmps203
   go_wp2_with fail
   go_ret
   exact ⟨rfl,(Ext.refl _).alloc _,le ha⟩
 ·have ho':=ho
  unfold yr at ho'
  have d0 : decide (r < 0) = false:=decide_eq_false (by omega)
  have d1 : decide (4 < r) = false:=decide_eq_false (by omega)
  have d2 : decide (k < 0) = false:=decide_eq_false (by omega)
  have d3 : decide (3 < k) = false:=decide_eq_false (by omega)
  have d4 : decide (f < -1) = false:=decide_eq_false (by omega)
  have d5 : decide (4 < f) = false:=decide_eq_false (by omega)
  have d6 : decide (a < 0) = false:=decide_eq_false (by omega)
  have d7 : decide (1000 < a) = false:=decide_eq_false (by omega)
  have d8 : decide (b < 0) = false:=decide_eq_false (by omega)
  have d9 : decide (1000 < b) = false:=decide_eq_false (by omega)
  clear ho'
  by_cases h0 : k = 0
  ·rw [KJ ho h0]
   by_cases h1 : f = -1
   ·by_cases h2 : a = 0
    ·by_cases h3 : b = 0
     ·rw [if_pos ⟨h1,h2,h3⟩]
      have th0 : (k == 0) = true:=beq_iff_eq.2 h0
      have uh0 : (k != 0) = false:=by simp [h0]
      have th1 : (f == -1) = true:=beq_iff_eq.2 h1
      have uh1 : (f != -1) = false:=by simp [h1]
      have th2 : (a == 0) = true:=beq_iff_eq.2 h2
      have uh2 : (a != 0) = false:=by simp [h2]
      have vh2 : decide (0 < a) = false:=decide_eq_false (by omega)
      have th3 : (b == 0) = true:=beq_iff_eq.2 h3
      have uh3 : (b != 0) = false:=by simp [h3]
      have vh3 : decide (0 < b) = false:=decide_eq_false (by omega)
      clear ho h0 h1 h2 h3
      go_enter Tryz.func203,Tryz.ntmps203
      go_wp2_with fail
      go_ret
      exact ⟨rfl,(Ext.refl _).alloc _,le ha⟩
     ·rw [if_neg (by omega)]
      have th0 : (k == 0) = true:=beq_iff_eq.2 h0
      have uh0 : (k != 0) = false:=by simp [h0]
      have th1 : (f == -1) = true:=beq_iff_eq.2 h1
      have uh1 : (f != -1) = false:=by simp [h1]
      have th2 : (a == 0) = true:=beq_iff_eq.2 h2
      have uh2 : (a != 0) = false:=by simp [h2]
      have vh2 : decide (0 < a) = false:=decide_eq_false (by omega)
      have th3 : (b == 0) = false:=beq_eq_false_iff_ne.2 h3
      have uh3 : (b != 0) = true:=bne_iff_ne.2 h3
      have vh3 : decide (0 < b) = true:=decide_eq_true (by have h6:=of_decide_eq_false d6; have h8:=of_decide_eq_false d8; omega)
      clear ho h0 h1 h2 h3
      go_enter Tryz.func203,Tryz.ntmps203
      go_wp2_with fail
      go_ret
      exact ⟨rfl,(Ext.refl _).alloc _,le ha⟩
    ·rw [if_neg (by omega)]
     have th0 : (k == 0) = true:=beq_iff_eq.2 h0
     have uh0 : (k != 0) = false:=by simp [h0]
     have th1 : (f == -1) = true:=beq_iff_eq.2 h1
     have uh1 : (f != -1) = false:=by simp [h1]
     have th2 : (a == 0) = false:=beq_eq_false_iff_ne.2 h2
     have uh2 : (a != 0) = true:=bne_iff_ne.2 h2
     have vh2 : decide (0 < a) = true:=decide_eq_true (by have h6:=of_decide_eq_false d6; have h8:=of_decide_eq_false d8; omega)
     clear ho h0 h1 h2
     go_enter Tryz.func203,Tryz.ntmps203
     go_wp2_with fail
     go_ret
     exact ⟨rfl,(Ext.refl _).alloc _,le ha⟩
   ·rw [if_neg (by omega)]
    have th0 : (k == 0) = true:=beq_iff_eq.2 h0
    have uh0 : (k != 0) = false:=by simp [h0]
    have th1 : (f == -1) = false:=beq_eq_false_iff_ne.2 h1
    have uh1 : (f != -1) = true:=bne_iff_ne.2 h1
    clear ho h0 h1
    go_enter Tryz.func203,Tryz.ntmps203
    go_wp2_with fail
    go_ret
    exact ⟨rfl,(Ext.refl _).alloc _,le ha⟩
  ·rw [Pd ho h0]
   by_cases h1 : f = r
   ·rw [if_pos (.inl h1)]
    have th0 : (k == 0) = false:=beq_eq_false_iff_ne.2 h0
    have uh0 : (k != 0) = true:=bne_iff_ne.2 h0
    have th1 : (f == r) = true:=beq_iff_eq.2 h1
    have uh1 : (f != r) = false:=by simp [h1]
    clear ho h0 h1
    go_enter Tryz.func203,Tryz.ntmps203
    go_wp2_with fail
    go_ret
    exact ⟨rfl,(Ext.refl _).alloc _,le ha⟩
   ·by_cases h2 : f = -1
    ·by_cases h3 : k = 2
     ·rw [if_neg (by omega)]
      have th0 : (k == 0) = false:=beq_eq_false_iff_ne.2 h0
      have uh0 : (k != 0) = true:=bne_iff_ne.2 h0
      have th1 : (f == r) = false:=beq_eq_false_iff_ne.2 h1
      have uh1 : (f != r) = true:=bne_iff_ne.2 h1
      have th2 : (f == -1) = true:=beq_iff_eq.2 h2
      have uh2 : (f != -1) = false:=by simp [h2]
      have th3 : (k == 2) = true:=beq_iff_eq.2 h3
      have uh3 : (k != 2) = false:=by simp [h3]
      clear ho h0 h1 h2 h3
      go_enter Tryz.func203,Tryz.ntmps203
      go_wp2_with fail
      go_ret
      exact ⟨rfl,(Ext.refl _).alloc _,le ha⟩
     ·rw [if_pos (.inr ⟨h2,h3⟩)]
      have th0 : (k == 0) = false:=beq_eq_false_iff_ne.2 h0
      have uh0 : (k != 0) = true:=bne_iff_ne.2 h0
      have th1 : (f == r) = false:=beq_eq_false_iff_ne.2 h1
      have uh1 : (f != r) = true:=bne_iff_ne.2 h1
      have th2 : (f == -1) = true:=beq_iff_eq.2 h2
      have uh2 : (f != -1) = false:=by simp [h2]
      have th3 : (k == 2) = false:=beq_eq_false_iff_ne.2 h3
      have uh3 : (k != 2) = true:=bne_iff_ne.2 h3
      clear ho h0 h1 h2 h3
      go_enter Tryz.func203,Tryz.ntmps203
      go_wp2_with fail
      go_ret
      exact ⟨rfl,(Ext.refl _).alloc _,le ha⟩
    ·rw [if_neg (by omega)]
     by_cases h3 : k = 2
     ·have th0 : (k == 0) = false:=beq_eq_false_iff_ne.2 h0
      have uh0 : (k != 0) = true:=bne_iff_ne.2 h0
      have th1 : (f == r) = false:=beq_eq_false_iff_ne.2 h1
      have uh1 : (f != r) = true:=bne_iff_ne.2 h1
      have th2 : (f == -1) = false:=beq_eq_false_iff_ne.2 h2
      have uh2 : (f != -1) = true:=bne_iff_ne.2 h2
      have th3 : (k == 2) = true:=beq_iff_eq.2 h3
      have uh3 : (k != 2) = false:=by simp [h3]
      clear ho h0 h1 h2 h3
      go_enter Tryz.func203,Tryz.ntmps203
      go_wp2_with fail
      go_ret
      exact ⟨rfl,(Ext.refl _).alloc _,le ha⟩
     ·have th0 : (k == 0) = false:=beq_eq_false_iff_ne.2 h0
      have uh0 : (k != 0) = true:=bne_iff_ne.2 h0
      have th1 : (f == r) = false:=beq_eq_false_iff_ne.2 h1
      have uh1 : (f != r) = true:=bne_iff_ne.2 h1
      have th2 : (f == -1) = false:=beq_eq_false_iff_ne.2 h2
      have uh2 : (f != -1) = true:=bne_iff_ne.2 h2
      have th3 : (k == 2) = false:=beq_eq_false_iff_ne.2 h3
      have uh3 : (k != 2) = true:=bne_iff_ne.2 h3
      clear ho h0 h1 h2 h3
      go_enter Tryz.func203,Tryz.ntmps203
      go_wp2_with fail
      go_ret
      exact ⟨rfl,(Ext.refl _).alloc _,le ha⟩
def Aa (r k f a b : Int) : ByteArray:=Fb [68,75,r,k,f + 1,a % 256,a / 256,b % 256,b / 256]
theorem Fn (r k f a b : Int) (hh : ¬yr r k f a b) (R : List SL.HP) (w : World) (H : own w R) :
  Calls Tryz.prog 204 #[o6 r k f a b] w fun e w'=>e = .returned (.string (Aa r k f a b)) /\ Ext w w' /\ own w' R:=by
 have ha:=li H (.cells #[.int .i64 r,.int .i64 k,.int .i64 f,.int .i64 a,.int .i64 b] 24)
 have hxa:=(Ext.refl w).alloc (.cells #[.int .i64 r,.int .i64 k,.int .i64 f,.int .i64 a,.int .i64 b] 24)
 obtain ⟨cc,ff⟩:=ld 0 ha rfl
 unfold yr at hh
 unfold o6 Aa
 have g1 : 0 <= r:=by omega
 have g2 : r <= 4:=by omega
 have g3 : -1 <= f:=by omega
 have g4 : f <= 4:=by omega
 have g5 : 0 <= a:=by omega
 have g6 : a <= 1000:=by omega
 have g7 : 0 <= b:=by omega
 have g8 : b <= 1000:=by omega
 have g9 : 0 <= k:=by omega
 have g0 : k <= 3:=by omega
 have e1 : 0 <= a % 256:=by omega
 have e2 : a % 256 <= 255:=by omega
 have e3 : 0 <= a / 256:=by omega
 have e4 : a / 256 <= 3:=by omega
 have e5 : 0 <= b % 256:=by omega
 have e6 : b % 256 <= 255:=by omega
 have e7 : 0 <= b / 256:=by omega
 have e8 : b / 256 <= 3:=by omega
 clear hh
 go_enter Tryz.func204,Tryz.ntmps204
 go_upto_region 1 with (fail)
 generalize w.heap.size = g at *
 generalize w.alloc (.cells #[.int .i64 r,.int .i64 k,.int .i64 f,.int .i64 a,.int .i64 b] 24) = w1 at *
 go_wp2_with fail
 have h7:=yJ 0 (n:=9) (cap:=9) (sz:=1) (xs:=byteCells [68,75,r,k,f + 1,a % 256,a / 256,b % 256,b / 256]) (li ha (.cells #[.int .u8 68,.int .u8 75,.int .u8 r,.int .u8 k,.int .u8 (f + 1),.int .u8 (a % 256),.int .u8 (a / 256),.int .u8 (b % 256),.int .u8 (b / 256)] 5)) rfl (by decide) (by simp [maxLen]) rfl rfl
 refine (Jb _ [68,75,r,k,f + 1,a % 256,a / 256,b % 256,b / 256] 9 rfl (by decide) _ _ h7).mono ?_
 rintro e w2 ⟨rfl,hx2,h2'⟩
 go_wp2_with fail
 go_ret
 exact ⟨rfl,(hxa.alloc _).trans hx2,le h2'⟩
theorem Nv (r k f a b : Int) (R : List SL.HP) (w : World) (H : own w R) :
  Calls Tryz.prog 199 #[o6 r k f a b] w fun e w'=>e = .returned (.tuple #[.string (if yd r k f a b = 0 then Aa r k f a b else ByteArray.empty),errV (yd r k f a b)]) /\ Ext w w' /\ own w' R:=by
 have ha:=li H (.cells #[.int .i64 r,.int .i64 k,.int .i64 f,.int .i64 a,.int .i64 b] 24)
 have hxa:=(Ext.refl w).alloc (.cells #[.int .i64 r,.int .i64 k,.int .i64 f,.int .i64 a,.int .i64 b] 24)
 have hck:=GB r k f a b _ _ ha
 by_cases h : yd r k f a b = 0
 ·rw [h,if_pos rfl]
  rw [h] at hck
  have HK:=zh hck
  have hh : ¬yr r k f a b:=fun h'=>by rw [DL h'] at h; cases h
  clear hck h
  unfold yr at hh
  unfold o6 at HK
  unfold o6 Aa
  have g1 : 0 <= r:=by omega
  have g2 : r <= 4:=by omega
  have g3 : -1 <= f:=by omega
  have g4 : f <= 4:=by omega
  have g5 : 0 <= a:=by omega
  have g6 : a <= 1000:=by omega
  have g7 : 0 <= b:=by omega
  have g8 : b <= 1000:=by omega
  have g9 : 0 <= k:=by omega
  have g0 : k <= 3:=by omega
  have e1 : 0 <= a % 256:=by omega
  have e2 : a % 256 <= 255:=by omega
  have e3 : 0 <= a / 256:=by omega
  have e4 : a / 256 <= 3:=by omega
  have e5 : 0 <= b % 256:=by omega
  have e6 : b % 256 <= 255:=by omega
  have e7 : 0 <= b / 256:=by omega
  have e8 : b / 256 <= 3:=by omega
  clear hh
  go_enter Tryz.func199,Tryz.ntmps199
  go_upto_region 1 with (fail)
  obtain ⟨cc,ff⟩:=ld 0 ha rfl
  generalize w.heap.size = g at *
  generalize w.alloc (.cells #[.int .i64 r,.int .i64 k,.int .i64 f,.int .i64 a,.int .i64 b] 24) = w1 at *
  go_wp2_with fail
  refine HK.out.mono ?_
  rintro e w2 ⟨rfl,hx2,h2'⟩
  rw [l9]
  clear cc ff
  obtain ⟨cc,ff⟩:=ld 0 h2' rfl
  go_wp2_with fail
  have h7:=yJ 0 (n:=9) (cap:=9) (sz:=1) (xs:=byteCells [68,75,r,k,f + 1,a % 256,a / 256,b % 256,b / 256]) (li h2' (.cells #[.int .u8 68,.int .u8 75,.int .u8 r,.int .u8 k,.int .u8 (f + 1),.int .u8 (a % 256),.int .u8 (a / 256),.int .u8 (b % 256),.int .u8 (b / 256)] 5)) rfl (by decide) (by simp [maxLen]) rfl rfl
  refine (JP _ [68,75,r,k,f + 1,a % 256,a / 256,b % 256,b / 256] 9 rfl (by decide) (by decide) _ _ h7).mono ?_
  rintro e w3 ⟨rfl,hx3,h3'⟩
  go_wp2_with fail
  go_ret2
  exact ⟨rfl,((hxa.trans hx2).alloc _).trans hx3,le h3'⟩
 ·rw [if_neg h]
  have hp : 0 < yd r k f a b:=by unfold yd at h ⊢; split; decide; split; decide; rename_i h1 h2; rw [if_neg h1,if_neg h2] at h; exact absurd rfl h
  rw [ly hp] at hck ⊢
  have HK:=zh hck
  clear hck h
  generalize yd r k f a b = ff at *
  unfold o6 at HK
  unfold o6
  go_enter Tryz.func199,Tryz.ntmps199
  go_upto_region 1 with (fail)
  obtain ⟨cc,ff⟩:=ld 0 ha rfl
  generalize w.heap.size = g at *
  generalize w.alloc (.cells #[.int .i64 r,.int .i64 k,.int .i64 f,.int .i64 a,.int .i64 b] 24) = w1 at *
  go_wp2_with fail
  refine HK.out.mono ?_
  rintro e w2 ⟨rfl,hx2,h2'⟩
  go_wp2_with fail
  go_ret2
  exact ⟨rfl,hxa.trans hx2,le h2'⟩
end Go.Proofs.YtbpblokfiajpjabGreatDoor
