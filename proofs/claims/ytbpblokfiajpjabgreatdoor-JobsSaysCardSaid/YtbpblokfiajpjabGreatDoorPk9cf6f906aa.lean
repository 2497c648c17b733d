/- Tables: one row, by the program. Desks: checked, written. Desks: written and read back. No conditions. -/
import Derived.Test.YtbpblokfiajpjabGreatDoorPk9161d468d2
import Derived.Test.YtbpblokfiajpjabGreatDoorProg
namespace Go.Proofs.YtbpblokfiajpjabGreatDoor
open Go.RowKit Go.SL Go.Crc
attribute [local go_sem ↓] Go.wp_at_zero Go.wp_at_succ
theorem entBad_cases {a b : Int} (h : entOk (a,b) 40 = false) : a < 0∨(0≤a∧2 < a)∨(0≤a∧a≤2∧b < 0)∨(0≤a∧a≤2∧0≤b∧40≤b)∨(0≤a∧a < 2∧0≤b∧b < 40∧0 < b):=by
 unfold entOk at h
 dsimp only at h
 split at h
 ·simp only [Bool.and_eq_false_iff,decide_eq_false_iff_not] at h; omega
 ·simp only [Bool.and_eq_false_iff,Bool.or_eq_false_iff,decide_eq_false_iff_not] at h; omega
theorem entGood_cases {a b : Int} (h : entOk (a,b) 40 = true) : (a = 2∧0≤b∧b < 40)∨(0≤a∧a < 2∧b = 0):=by
 unfold entOk at h
 dsimp only at h
 split at h
 ·simp only [Bool.and_eq_true,decide_eq_true_eq] at h; omega
 ·simp only [Bool.and_eq_true,Bool.or_eq_true,decide_eq_true_eq] at h; omega
def prowInv (t : List Ent) (r : Nat) (R : List SL.HP) (w0 : World) (vb vi : Value) (wr : World) : Prop:=
 ∃k : Nat,k≤8∧vi = .int .i64 (8 * r + k : Nat)∧(∃x : Nat×Option Addr,vb = .slice x.2 (2 * k) x.1)∧(∀j,j < k→entOk (t.getD (8 * r + j) (0,0)) 40 = true)∧Ext w0 wr∧own wr (row 5 1 vb (2 * k) (byteCells (entNums ((rowEnts t r).take k)))::R)
set_option maxRecDepth 100000 in
set_option maxHeartbeats 1000000 in
theorem row_out (v : Value) (t : List Ent) (row : Int) (ht : t.length≤1000) (ho : rowOut t row) (R : List SL.HP) (w : World) (hv : ∀w' l,own w' (l++R)→entsAt w' v t) (H : own w R) :
  Calls Tryz.prog 236 #[v,.int .i64 row] w fun e w'=>e = .returned (.tuple #[.string ByteArray.empty,errV 1])∧Ext w w'∧own w' R:=by
 obtain ⟨ao,b,off,cap,rfl,c1,c2,c3⟩:=(hv w [] H).form
 unfold rowOut at ho
 by_cases h2 : row < 0
 ·clear hv c3 ho
  go_enter Tryz.func236,Tryz.ntmps236
  go_wp2_with fail
  go_ret2
  exact ⟨rfl,Ext.refl _,H⟩
 ·by_cases h3 : (rowsN t.length : Int)≤row
  ·clear hv c3 ho
   go_enter Tryz.func236,Tryz.ntmps236
   go_wp2_with (go_at_call 156; refine (rows_any _ (by omega) _).mono ?_; rintro e w' ⟨rfl,rfl⟩)
   go_ret2
   exact ⟨rfl,Ext.refl _,H⟩
  ·have h1 : 32 < t.length:=by omega
   clear hv c3 ho
   go_enter Tryz.func236,Tryz.ntmps236
   go_wp2_with (go_at_call 156; refine (rows_any _ (by omega) _).mono ?_; rintro e w' ⟨rfl,rfl⟩)
   go_ret2
   exact ⟨rfl,Ext.refl _,H⟩
set_option maxRecDepth 100000 in
set_option maxHeartbeats 4000000 in
theorem row_in (v : Value) (t : List Ent) (r : Nat) (ho : ¬rowOut t r) (R : List SL.HP) (w : World) (hv : ∀w' l,own w' (l++R)→entsAt w' v t) (H : own w R) :
  Calls Tryz.prog 236 #[v,.int .i64 r] w fun e w'=>e = .returned (.tuple #[.string (rowOf t r).1,errV (rowOf t r).2])∧Ext w w'∧own w' R:=by
 obtain ⟨ao,b,off,cap,rfl,c1,c2,c3⟩:=(hv w [] H).form
 have hbad : ∀k : Nat,k < 8→entOk (t.getD (8 * r + k) (0,0)) 40 = false→rowOf t r = (ByteArray.empty,2):=fun k h1 h2=>rowOf_bad ho h1 h2
 have hok:=rowOf_ok ho
 have HO:=Lib.hid ho
 have HB:=Lib.hid hbad
 have HK:=Lib.hid hok
 unfold rowOut at ho
 have h1 : t.length≤32:=by omega
 have h3 : (r : Int) < (rowsN t.length : Int):=by omega
 have h4 : r≤4:=by have h0 : rowsN t.length≤4:=(by unfold rowsN; omega); omega
 have HV:=Lib.hid hv
 have HC:=Lib.hid c3
 have b1 : decide (32 < (t.length : Int)) = false:=by simp; omega
 have b2 : decide ((r : Int) < 0) = false:=by simp
 have b3 : decide (rowsN t.length≤r) = false:=by simp; omega
 clear hv c3 ho hbad hok
 go_enter Tryz.func236,Tryz.ntmps236
 go_wp2_with (go_at_call 156; refine (rows_any _ (by omega) _).mono ?_; rintro e w' ⟨rfl,rfl⟩)
 go_loopw [6,7] (prowInv t r R w) (fun b _ _=>16 - lenOf b)
 case atStart=>exact ⟨0,by omega,by go_num,⟨(0,none),rfl⟩,fun j h=>absurd h (by omega),Ext.refl _,own_row_nil _ _ H⟩
 case round=>
  obtain ⟨k,hk,rfl,⟨⟨c1',a1⟩,rfl⟩,hj,hxr,hown⟩:=hrel
  have HJ:=Lib.hid hj
  clear hj
  dsimp only at hown
  obtain ⟨a2,g2,c2,hvv,q1,q2,-,-,-,-,-⟩:=own_row_form 0 hown rfl
  simp only [Value.slice.injEq] at hvv
  obtain ⟨rfl,-,rfl⟩:=hvv
  by_cases hlt : k < 8
  ·go_upto_region 8 with (fail)
   have ha:=own_alloc hown (.cells #[.int .i64 0,.int .i64 0] 221)
   have hxa:=hxr.alloc (.cells #[.int .i64 0,.int .i64 0] 221)
   generalize wr.heap.size = p at *
   generalize wr.alloc (.cells #[.int .i64 0,.int .i64 0] 221) = wa at *
   by_cases hin : 8 * r + k < t.length
   ·obtain rfl:=HC.out (by omega)
    have hcell:=(HV.out wa [_,_] ha).cells hin
    obtain ⟨e1,e2⟩:=hcell
    obtain ⟨cc,ff⟩:=own_cells 0 ha rfl
    generalize hx : t.getD (8 * r + k) (0,0) = x at *
    have HX:=Lib.hid hx
    clear hx
    obtain ⟨x1,x2⟩:=x
    dsimp only at e1 e2
    go_upto_region 10 with (fail)
    have h5:=own_set (i:=1) (v:=.int .i64 x2) 0 (own_set (i:=0) (v:=.int .i64 x1) 0 ha rfl) rfl
    have hx5:=(hxa.setCell ⟨p,0,none⟩ (.int .i64 x1)).setCell ⟨p,1,none⟩ (.int .i64 x2)
    clear e1 e2 cc ff
    generalize (wa.setCell ⟨p,0,none⟩ (.int .i64 x1)).setCell ⟨p,1,none⟩ (.int .i64 x2) = w5 at *
    replace h5 : own w5 (pts p (.cells #[.int .i64 x1,.int .i64 x2] 221 (0,0))::_):=h5
    obtain ⟨cc,ff⟩:=own_cells 0 h5 rfl
    cases hok : entOk (x1,x2) 40
    ·have hfin:=HB.out k hlt (by rw [HX.out]; exact hok)
     have HF:=Lib.hid hfin
     clear hfin
     rcases entBad_cases hok with g1 | ⟨g1,g2⟩ | ⟨g1,g2,g3⟩ | ⟨g1,g2,g3,g4⟩ | ⟨g1,g2,g3,g4,g5⟩
     ·clear hok
      go_wp2_with fail
      go_ret2
      exact ⟨by rw [HF.out]; rfl,hx5,own_drop (own_drop h5)⟩
     ·clear hok
      go_wp2_with fail
      go_ret2
      exact ⟨by rw [HF.out]; rfl,hx5,own_drop (own_drop h5)⟩
     ·clear hok
      go_wp2_with fail
      go_ret2
      exact ⟨by rw [HF.out]; rfl,hx5,own_drop (own_drop h5)⟩
     ·clear hok
      go_wp2_with fail
      go_ret2
      exact ⟨by rw [HF.out]; rfl,hx5,own_drop (own_drop h5)⟩
     ·clear hok
      have t2 : (x1 == 2) = false:=beq_eq_false_iff_ne.2 (by omega)
      have t3 : (x1 != 2) = true:=by rw [bne_iff_ne]; omega
      go_wp2_with fail
      go_ret2
      exact ⟨by rw [HF.out]; rfl,hx5,own_drop (own_drop h5)⟩
    ·rcases entGood_cases hok with ⟨rfl,y3,y4⟩ | ⟨y1,y2,rfl⟩
     ·have HE:=Lib.hid hok
      clear hok
      have h3:=own_alloc h5 (.cells #[.int .u8 2,.int .u8 x2] 5)
      have hml : 2 * k + 2≤maxLen:=by simp only [maxLen]; omega
      go_wp2_with (first | (at_builtin; refine wpList_append_row rfl _ _ 211 rfl 2 5 Tryz.underlying211 elem_byte rfl (by decide) rfl h3 rfl (some ⟨w5.heap.size,0,none⟩) 2 2 [.int .u8 2,.int .u8 x2] rfl rfl (alloc_news w5 [.int .u8 2,.int .u8 x2] _) (fun h=>by cases h) (two_bytes _ _) hml (by omega) ?_))
      intro v4 w4 h4 hx4
      obtain ⟨a4,g4,c4,rfl,z1,z2,-,-,-,-,-⟩:=own_row_form 2 h4 rfl
      go_wp2_with fail
      go_roundw
      case rel=>
       refine ⟨k + 1,by omega,by go_num,⟨(c4,a4),rfl⟩,fun j hj=>?_,((hx5.alloc _).trans hx4),?_⟩
       ·by_cases ej : j = k
        ·subst ej; rw [HX.out]; exact HE.out
        ·exact HJ.out j (by omega)
       ·rw [rowNums_succ _ _ _ hlt,HX.out]
        exact own_drop (own_drop h4)
      case measure=>simp [lenOf]; omega
     ·have t2 : (x1 == 2) = false:=beq_eq_false_iff_ne.2 (by omega)
      have t3 : (x1 != 2) = true:=by rw [bne_iff_ne]; omega
      have HE:=Lib.hid hok
      clear hok
      have h3:=own_alloc h5 (.cells #[.int .u8 x1,.int .u8 0] 5)
      have hml : 2 * k + 2≤maxLen:=by simp only [maxLen]; omega
      go_wp2_with (first | (at_builtin; refine wpList_append_row rfl _ _ 211 rfl 2 5 Tryz.underlying211 elem_byte rfl (by decide) rfl h3 rfl (some ⟨w5.heap.size,0,none⟩) 2 2 [.int .u8 x1,.int .u8 0] rfl rfl (alloc_news w5 [.int .u8 x1,.int .u8 0] _) (fun h=>by cases h) (two_bytes _ _) hml (by omega) ?_))
      intro v4 w4 h4 hx4
      obtain ⟨a4,g4,c4,rfl,z1,z2,-,-,-,-,-⟩:=own_row_form 2 h4 rfl
      go_wp2_with fail
      go_roundw
      case rel=>
       refine ⟨k + 1,by omega,by go_num,⟨(c4,a4),rfl⟩,fun j hj=>?_,((hx5.alloc _).trans hx4),?_⟩
       ·by_cases ej : j = k
        ·subst ej; rw [HX.out]; exact HE.out
        ·exact HJ.out j (by omega)
       ·rw [rowNums_succ _ _ _ hlt,HX.out]
        exact own_drop (own_drop h4)
      case measure=>simp [lenOf]; omega
   ·have hx : t.getD (8 * r + k) (0,0) = (0,0):=by simp [List.getD,show t.length≤8 * r + k by omega]
    have HX:=Lib.hid hx
    clear hx
    obtain ⟨cc,ff⟩:=own_cells 0 ha rfl
    go_upto_region 10 with (fail)
    have h5:=ha
    have hx5:=hxa
    generalize wa = w5 at *
    have hok : entOk (0,0) 40 = true:=rfl
    have HE:=Lib.hid hok
    clear hok
    have h3:=own_alloc h5 (.cells #[.int .u8 0,.int .u8 0] 5)
    have hml : 2 * k + 2≤maxLen:=by simp only [maxLen]; omega
    go_wp2_with (first | (at_builtin; refine wpList_append_row rfl _ _ 211 rfl 2 5 Tryz.underlying211 elem_byte rfl (by decide) rfl h3 rfl (some ⟨w5.heap.size,0,none⟩) 2 2 [.int .u8 0,.int .u8 0] rfl rfl (alloc_news w5 [.int .u8 0,.int .u8 0] _) (fun h=>by cases h) (two_bytes _ _) hml (by omega) ?_))
    intro v4 w4 h4 hx4
    obtain ⟨a4,g4,c4,rfl,z1,z2,-,-,-,-,-⟩:=own_row_form 2 h4 rfl
    go_wp2_with fail
    go_roundw
    case rel=>
     refine ⟨k + 1,by omega,by go_num,⟨(c4,a4),rfl⟩,fun j hj=>?_,((hx5.alloc _).trans hx4),?_⟩
     ·by_cases ej : j = k
      ·subst ej; rw [HX.out]; exact HE.out
      ·exact HJ.out j (by omega)
     ·rw [rowNums_succ _ _ _ hlt,HX.out]
      exact own_drop (own_drop h4)
    case measure=>simp [lenOf]; omega
  ·have hk8 : k = 8:=by omega
   subst hk8
   have hok:=HK.out HJ.out
   have hall : (rowEnts t r).take 8 = rowEnts t r:=List.take_of_length_le (by rw [rowEnts_len]; omega)
   rw [hall] at hown
   have hlen : (entNums (rowEnts t r)).length = 2 * 8:=by rw [entNums_len,rowEnts_len]
   have hcv:=conv_row 0 hlen hown rfl (by omega)
   have HF:=Lib.hid hok
   clear hok hall hlen
   generalize strOfNums (entNums (rowEnts t r)) = z at *
   simp only [Nat.reduceMul] at hcv
   go_wp2_with fail
   go_ret2
   exact ⟨by rw [HF.out]; rfl,hxr,own_drop hown⟩
end Go.Proofs.YtbpblokfiajpjabGreatDoor

namespace Go.Proofs.YtbpblokfiajpjabGreatDoor
open Go.RowKit Go.SL Go.Crc
attribute [local go_sem ↓] Go.wp_at_zero Go.wp_at_succ
def deskV (r k f a b : Int) : Value:=.agg #[.int .i64 r,.int .i64 k,.int .i64 f,.int .i64 a,.int .i64 b]
def deskOut (r k f a b : Int) : Prop:=r < 0∨4 < r∨k < 0∨3 < k∨f < -1∨4 < f∨a < 0∨1000 < a∨b < 0∨1000 < b
instance (r k f a b : Int) : Decidable (deskOut r k f a b):=by unfold deskOut; infer_instance
def deskOdd (r k f a b : Int) : Prop:=if k = 0 then ¬(f = -1∧a = 0∧b = 0) else (f = r∨(f = -1∧k≠2))
instance (r k f a b : Int) : Decidable (deskOdd r k f a b):=by unfold deskOdd; infer_instance
def deskF (r k f a b : Int) : Int:=if deskOut r k f a b then 1 else if deskOdd r k f a b then 2 else 0
def deskS (r k f a b : Int) : ByteArray:=sealX [68,75,r,k,f + 1,a % 256,a / 256,b % 256,b / 256]
end Go.Proofs.YtbpblokfiajpjabGreatDoor

namespace Go.Proofs.YtbpblokfiajpjabGreatDoor
open Go.RowKit Go.SL Go.Crc
attribute [local go_sem ↓] Go.wp_at_zero Go.wp_at_succ
end Go.Proofs.YtbpblokfiajpjabGreatDoor
