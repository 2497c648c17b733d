/- Heads: checked, written. No conditions. -/
import Derived.Test.YtbpblokfiajpjaaShape2
namespace Go.Proofs.Ytbpblokfiajpjaa
open Go.RowKit Go.SL Go.Crc
attribute [local go_sem ↓] Go.wp_at_zero Go.wp_at_succ

def headV (c p b : Int) : Value := .agg #[.int .i64 c, .int .i64 p, .int .i64 b]
def headBad (c p b : Int) : Prop := c < 1 ∨ 32 < c ∨ p < 0 ∨ 40 < p ∨ b < -1 ∨ 4 < b
instance (c p b : Int) : Decidable (headBad c p b) := by unfold headBad; infer_instance
def headF (c p b : Int) : Int := if headBad c p b then 1 else 0

set_option maxRecDepth 100000 in
set_option maxHeartbeats 1000000 in
theorem checkhead_any (c p b : Int) (R : List SL.HP) (w : World) (H : own w R) :
    Calls Try.prog 32 #[headV c p b] w fun e w' => e = .returned (errV (headF c p b)) ∧ Ext w w' ∧ own w' R := by
  have ha := own_alloc H (.cells #[.int .i64 c, .int .i64 p, .int .i64 b] 52)
  obtain ⟨cc, ff⟩ := own_cells 0 ha rfl
  by_cases h : headBad c p b
  · have e : headF c p b = 1 := if_pos h
    rw [e]
    clear e
    unfold headBad at h
    unfold headV
    go_enter Try.func32, Try.ntmps32
    go_wp2_with fail
    all_goals go_ret
    all_goals exact ⟨rfl, (Ext.refl _).alloc _, own_drop ha⟩
  · have e : headF c p b = 0 := if_neg h
    rw [e]
    clear e
    unfold headBad at h
    unfold headV
    have h1 : 1 ≤ c := by omega
    have h2 : c ≤ 32 := by omega
    have h3 : 0 ≤ p := by omega
    have h4 : p ≤ 40 := by omega
    have h5 : -1 ≤ b := by omega
    have h6 : b ≤ 4 := by omega
    clear h
    go_enter Try.func32, Try.ntmps32
    go_wp2_with fail
    all_goals go_ret
    all_goals exact ⟨rfl, (Ext.refl _).alloc _, own_drop ha⟩

set_option maxRecDepth 100000 in
set_option maxHeartbeats 1000000 in
theorem headfault_any (c p b : Int) (R : List SL.HP) (w : World) (H : own w R) :
    Calls Try.prog 30 #[headV c p b] w fun e w' => e = .returned (.int .i64 (headF c p b)) ∧ Ext w w' ∧ own w' R := by
  have ha := own_alloc H (.cells #[.int .i64 c, .int .i64 p, .int .i64 b] 52)
  obtain ⟨cc, ff⟩ := own_cells 0 ha rfl
  by_cases h : headBad c p b
  · have e : headF c p b = 1 := if_pos h
    rw [e]
    clear e
    unfold headBad at h
    unfold headV
    go_enter Try.func30, Try.ntmps30
    go_wp2_with fail
    all_goals go_ret
    all_goals exact ⟨rfl, (Ext.refl _).alloc _, own_drop ha⟩
  · have e : headF c p b = 0 := if_neg h
    rw [e]
    clear e
    unfold headBad at h
    unfold headV
    have h1 : 1 ≤ c := by omega
    have h2 : c ≤ 32 := by omega
    have h3 : 0 ≤ p := by omega
    have h4 : p ≤ 40 := by omega
    have h5 : -1 ≤ b := by omega
    have h6 : b ≤ 4 := by omega
    clear h
    go_enter Try.func30, Try.ntmps30
    go_wp2_with fail
    all_goals go_ret
    all_goals exact ⟨rfl, (Ext.refl _).alloc _, own_drop ha⟩

def headS (c p b : Int) : ByteArray := sealX [83, 89, c, p, b + 1]

set_option maxRecDepth 100000 in
set_option maxHeartbeats 1000000 in
theorem headsector_any (c p b : Int) (hh : ¬ headBad c p b) (R : List SL.HP) (w : World) (H : own w R) :
    Calls Try.prog 34 #[headV c p b] w fun e w' => e = .returned (.string (headS c p b)) ∧ Ext w w' ∧ own w' R := by
  have ha := own_alloc H (.cells #[.int .i64 c, .int .i64 p, .int .i64 b] 52)
  have hxa := (Ext.refl w).alloc (.cells #[.int .i64 c, .int .i64 p, .int .i64 b] 52)
  obtain ⟨cc, ff⟩ := own_cells 0 ha rfl
  unfold headBad at hh
  unfold headV headS
  have h1 : 1 ≤ c := by omega
  have h2 : c ≤ 32 := by omega
  have h3 : 0 ≤ p := by omega
  have h4 : p ≤ 40 := by omega
  have h5 : -1 ≤ b := by omega
  have h6 : b ≤ 4 := by omega
  clear hh
  go_enter Try.func34, Try.ntmps34
  go_upto_region 1 with (fail)
  generalize w.heap.size = g at *
  generalize w.alloc (.cells #[.int .i64 c, .int .i64 p, .int .i64 b] 52) = w1 at *
  go_wp2_with fail
  have h7 := own_row_of 0 (n := 5) (cap := 5) (sz := 1) (xs := byteCells [83, 89, c, p, b + 1]) (own_alloc ha (.cells #[.int .u8 83, .int .u8 89, .int .u8 c, .int .u8 p, .int .u8 (b + 1)] 5)) rfl (by decide) (by simp [maxLen]) rfl rfl
  refine (rsealed_any _ [83, 89, c, p, b + 1] 5 rfl (by decide) _ _ h7).mono ?_
  rintro e w2 ⟨rfl, hx2, h2'⟩
  go_wp2_with fail
  go_ret
  exact ⟨rfl, (hxa.alloc _).trans hx2, own_drop h2'⟩

set_option maxRecDepth 100000 in
set_option maxHeartbeats 1000000 in
theorem head_any (c p b : Int) (R : List SL.HP) (w : World) (H : own w R) :
    Calls Try.prog 31 #[headV c p b] w fun e w' => e = .returned (.tuple #[.string (if headF c p b = 0 then headS c p b else ByteArray.empty), errV (headF c p b)]) ∧ Ext w w' ∧ own w' R := by
  have ha := own_alloc H (.cells #[.int .i64 c, .int .i64 p, .int .i64 b] 52)
  have hxa := (Ext.refl w).alloc (.cells #[.int .i64 c, .int .i64 p, .int .i64 b] 52)
  by_cases h : headBad c p b
  · have e : headF c p b = 1 := if_pos h
    have hck := checkhead_any c p b _ _ ha
    rw [e, if_neg (by decide)]
    rw [e] at hck
    have HK := Lib.hid hck
    clear hck e h
    unfold headV at HK
    unfold headV
    go_enter Try.func31, Try.ntmps31
    go_upto_region 1 with (fail)
    obtain ⟨cc, ff⟩ := own_cells 0 ha rfl
    generalize w.heap.size = g at *
    generalize w.alloc (.cells #[.int .i64 c, .int .i64 p, .int .i64 b] 52) = w1 at *
    go_wp2_with fail
    refine HK.out.mono ?_
    rintro e w2 ⟨rfl, hx2, h2'⟩
    have he : errV 1 = .iface 121 (.int .i64 1) := rfl
    rw [he]
    go_wp2_with fail
    go_ret2
    exact ⟨rfl, hxa.trans hx2, own_drop h2'⟩
  · have e : headF c p b = 0 := if_neg h
    have hck := checkhead_any c p b _ _ ha
    rw [e, if_pos rfl]
    rw [e] at hck
    have HK := Lib.hid hck
    clear hck e
    unfold headBad at h
    unfold headV at HK
    unfold headV headS
    have h1 : 1 ≤ c := by omega
    have h2 : c ≤ 32 := by omega
    have h3 : 0 ≤ p := by omega
    have h4 : p ≤ 40 := by omega
    have h5 : -1 ≤ b := by omega
    have h6 : b ≤ 4 := by omega
    clear h
    go_enter Try.func31, Try.ntmps31
    go_upto_region 1 with (fail)
    obtain ⟨cc, ff⟩ := own_cells 0 ha rfl
    generalize w.heap.size = g at *
    generalize w.alloc (.cells #[.int .i64 c, .int .i64 p, .int .i64 b] 52) = w1 at *
    go_wp2_with fail
    refine HK.out.mono ?_
    rintro e w2 ⟨rfl, hx2, h2'⟩
    rw [errV_0]
    clear cc ff
    obtain ⟨cc, ff⟩ := own_cells 0 h2' rfl
    go_wp2_with fail
    have h7 := own_row_of 0 (n := 5) (cap := 5) (sz := 1) (xs := byteCells [83, 89, c, p, b + 1]) (own_alloc h2' (.cells #[.int .u8 83, .int .u8 89, .int .u8 c, .int .u8 p, .int .u8 (b + 1)] 5)) rfl (by decide) (by simp [maxLen]) rfl rfl
    refine (sealed_any _ [83, 89, c, p, b + 1] 5 rfl (by decide) (by decide) _ _ h7).mono ?_
    rintro e w3 ⟨rfl, hx3, h3'⟩
    go_wp2_with fail
    go_ret2
    exact ⟨rfl, ((hxa.trans hx2).alloc _).trans hx3, own_drop h3'⟩
end Go.Proofs.Ytbpblokfiajpjaa
