/- Desks: checked, written. No conditions. -/
import Derived.Test.YtbpblokfiajpjaaShape6
namespace Go.Proofs.Ytbpblokfiajpjaa
open Go.RowKit Go.SL Go.Crc
attribute [local go_sem ↓] Go.wp_at_zero Go.wp_at_succ

def deskV (r k f a b : Int) : Value := .agg #[.int .i64 r, .int .i64 k, .int .i64 f, .int .i64 a, .int .i64 b]
def deskOut (r k f a b : Int) : Prop := r < 0 ∨ 4 < r ∨ k < 0 ∨ 3 < k ∨ f < -1 ∨ 4 < f ∨ a < 0 ∨ 1000 < a ∨ b < 0 ∨ 1000 < b
instance (r k f a b : Int) : Decidable (deskOut r k f a b) := by unfold deskOut; infer_instance
def deskOdd (r k f a b : Int) : Prop := if k = 0 then ¬ (f = -1 ∧ a = 0 ∧ b = 0) else (f = r ∨ (f = -1 ∧ k ≠ 2))
instance (r k f a b : Int) : Decidable (deskOdd r k f a b) := by unfold deskOdd; infer_instance
def deskF (r k f a b : Int) : Int := if deskOut r k f a b then 1 else if deskOdd r k f a b then 2 else 0

theorem deskF_out {r k f a b : Int} (h : deskOut r k f a b) : deskF r k f a b = 1 := if_pos h
theorem deskF_0 {r k f a b : Int} (h : ¬ deskOut r k f a b) (h0 : k = 0) : deskF r k f a b = if f = -1 ∧ a = 0 ∧ b = 0 then 0 else 2 := by
  subst h0
  unfold deskF deskOdd
  rw [if_neg h]
  by_cases h2 : f = -1 ∧ a = 0 ∧ b = 0
  · simp [h2]
  · rw [if_neg h2]; simp [h2]
theorem deskF_1 {r k f a b : Int} (h : ¬ deskOut r k f a b) (h0 : k ≠ 0) : deskF r k f a b = if f = r ∨ (f = -1 ∧ k ≠ 2) then 2 else 0 := by
  unfold deskF deskOdd
  rw [if_neg h]
  simp [h0]
theorem deskOut_cases {r k f a b : Int} (h : deskOut r k f a b) : (r < 0) ∨ (0 ≤ r ∧ 4 < r) ∨ (0 ≤ r ∧ r ≤ 4 ∧ k < 0) ∨ (0 ≤ r ∧ r ≤ 4 ∧ 0 ≤ k ∧ 3 < k) ∨ (0 ≤ r ∧ r ≤ 4 ∧ 0 ≤ k ∧ k ≤ 3 ∧ f < -1) ∨ (0 ≤ r ∧ r ≤ 4 ∧ 0 ≤ k ∧ k ≤ 3 ∧ -1 ≤ f ∧ 4 < f) ∨ (0 ≤ r ∧ r ≤ 4 ∧ 0 ≤ k ∧ k ≤ 3 ∧ -1 ≤ f ∧ f ≤ 4 ∧ a < 0) ∨ (0 ≤ r ∧ r ≤ 4 ∧ 0 ≤ k ∧ k ≤ 3 ∧ -1 ≤ f ∧ f ≤ 4 ∧ 0 ≤ a ∧ 1000 < a) ∨ (0 ≤ r ∧ r ≤ 4 ∧ 0 ≤ k ∧ k ≤ 3 ∧ -1 ≤ f ∧ f ≤ 4 ∧ 0 ≤ a ∧ a ≤ 1000 ∧ b < 0) ∨ (0 ≤ r ∧ r ≤ 4 ∧ 0 ≤ k ∧ k ≤ 3 ∧ -1 ≤ f ∧ f ≤ 4 ∧ 0 ≤ a ∧ a ≤ 1000 ∧ 0 ≤ b ∧ 1000 < b) := by
  by_cases h0 : r < 0
  · exact (.inl h0)
  by_cases h1 : 4 < r
  · exact (.inr (.inl ⟨by omega, h1⟩))
  by_cases h2 : k < 0
  · exact (.inr (.inr (.inl ⟨by omega, by omega, h2⟩)))
  by_cases h3 : 3 < k
  · exact (.inr (.inr (.inr (.inl ⟨by omega, by omega, by omega, h3⟩))))
  by_cases h4 : f < -1
  · exact (.inr (.inr (.inr (.inr (.inl ⟨by omega, by omega, by omega, by omega, h4⟩)))))
  by_cases h5 : 4 < f
  · exact (.inr (.inr (.inr (.inr (.inr (.inl ⟨by omega, by omega, by omega, by omega, by omega, h5⟩))))))
  by_cases h6 : a < 0
  · exact (.inr (.inr (.inr (.inr (.inr (.inr (.inl ⟨by omega, by omega, by omega, by omega, by omega, by omega, h6⟩)))))))
  by_cases h7 : 1000 < a
  · exact (.inr (.inr (.inr (.inr (.inr (.inr (.inr (.inl ⟨by omega, by omega, by omega, by omega, by omega, by omega, by omega, h7⟩))))))))
  by_cases h8 : b < 0
  · exact (.inr (.inr (.inr (.inr (.inr (.inr (.inr (.inr (.inl ⟨by omega, by omega, by omega, by omega, by omega, by omega, by omega, by omega, h8⟩)))))))))
  unfold deskOut at h
  have h9 : 1000 < b := by
    rcases h with h | h | h | h | h | h | h | h | h | h
    all_goals first | exact h | exact absurd h (by assumption)
  clear h
  exact (.inr (.inr (.inr (.inr (.inr (.inr (.inr (.inr (.inr ⟨by omega, by omega, by omega, by omega, by omega, by omega, by omega, by omega, by omega, by omega⟩)))))))))

set_option maxRecDepth 100000 in
set_option maxHeartbeats 4000000 in
theorem checkdesk_any (r k f a b : Int) (R : List SL.HP) (w : World) (H : own w R) :
    Calls Try.prog 42 #[deskV r k f a b] w fun e w' => e = .returned (errV (deskF r k f a b)) ∧ Ext w w' ∧ own w' R := by
  have ha := own_alloc H (.cells #[.int .i64 r, .int .i64 k, .int .i64 f, .int .i64 a, .int .i64 b] 55)
  obtain ⟨cc, ff⟩ := own_cells 0 ha rfl
  unfold deskV
  by_cases ho : deskOut r k f a b
  · rw [deskF_out ho]
    rcases deskOut_cases ho with g0 | ⟨g0, g1⟩ | ⟨g0, g1, g2⟩ | ⟨g0, g1, g2, g3⟩ | ⟨g0, g1, g2, g3, g4⟩ | ⟨g0, g1, g2, g3, g4, g5⟩ | ⟨g0, g1, g2, g3, g4, g5, g6⟩ | ⟨g0, g1, g2, g3, g4, g5, g6, g7⟩ | ⟨g0, g1, g2, g3, g4, g5, g6, g7, g8⟩ | ⟨g0, g1, g2, g3, g4, g5, g6, g7, g8, g9⟩
    · have d0 : decide (r < 0) = true := decide_eq_true (by omega)
      clear ho g0
      go_enter Try.func42, Try.ntmps42
      go_wp2_with fail
      go_ret
      exact ⟨rfl, (Ext.refl _).alloc _, own_drop ha⟩
    · have d0 : decide (r < 0) = false := decide_eq_false (by omega)
      have d1 : decide (5 ≤ r) = true := decide_eq_true (by omega)
      clear ho g0 g1
      go_enter Try.func42, Try.ntmps42
      go_wp2_with fail
      go_ret
      exact ⟨rfl, (Ext.refl _).alloc _, own_drop ha⟩
    · have d0 : decide (r < 0) = false := decide_eq_false (by omega)
      have d1 : decide (5 ≤ r) = false := decide_eq_false (by omega)
      have d2 : decide (k < 0) = true := decide_eq_true (by omega)
      clear ho g0 g1 g2
      go_enter Try.func42, Try.ntmps42
      go_wp2_with fail
      go_ret
      exact ⟨rfl, (Ext.refl _).alloc _, own_drop ha⟩
    · have d0 : decide (r < 0) = false := decide_eq_false (by omega)
      have d1 : decide (5 ≤ r) = false := decide_eq_false (by omega)
      have d2 : decide (k < 0) = false := decide_eq_false (by omega)
      have d3 : decide (3 < k) = true := decide_eq_true (by omega)
      clear ho g0 g1 g2 g3
      go_enter Try.func42, Try.ntmps42
      go_wp2_with fail
      go_ret
      exact ⟨rfl, (Ext.refl _).alloc _, own_drop ha⟩
    · have d0 : decide (r < 0) = false := decide_eq_false (by omega)
      have d1 : decide (5 ≤ r) = false := decide_eq_false (by omega)
      have d2 : decide (k < 0) = false := decide_eq_false (by omega)
      have d3 : decide (3 < k) = false := decide_eq_false (by omega)
      have d4 : decide (f < -1) = true := decide_eq_true (by omega)
      clear ho g0 g1 g2 g3 g4
      go_enter Try.func42, Try.ntmps42
      go_wp2_with fail
      go_ret
      exact ⟨rfl, (Ext.refl _).alloc _, own_drop ha⟩
    · have d0 : decide (r < 0) = false := decide_eq_false (by omega)
      have d1 : decide (5 ≤ r) = false := decide_eq_false (by omega)
      have d2 : decide (k < 0) = false := decide_eq_false (by omega)
      have d3 : decide (3 < k) = false := decide_eq_false (by omega)
      have d4 : decide (f < -1) = false := decide_eq_false (by omega)
      have d5 : decide (5 ≤ f) = true := decide_eq_true (by omega)
      clear ho g0 g1 g2 g3 g4 g5
      go_enter Try.func42, Try.ntmps42
      go_wp2_with fail
      go_ret
      exact ⟨rfl, (Ext.refl _).alloc _, own_drop ha⟩
    · have d0 : decide (r < 0) = false := decide_eq_false (by omega)
      have d1 : decide (5 ≤ r) = false := decide_eq_false (by omega)
      have d2 : decide (k < 0) = false := decide_eq_false (by omega)
      have d3 : decide (3 < k) = false := decide_eq_false (by omega)
      have d4 : decide (f < -1) = false := decide_eq_false (by omega)
      have d5 : decide (5 ≤ f) = false := decide_eq_false (by omega)
      have d6 : decide (a < 0) = true := decide_eq_true (by omega)
      clear ho g0 g1 g2 g3 g4 g5 g6
      go_enter Try.func42, Try.ntmps42
      go_wp2_with fail
      go_ret
      exact ⟨rfl, (Ext.refl _).alloc _, own_drop ha⟩
    · have d0 : decide (r < 0) = false := decide_eq_false (by omega)
      have d1 : decide (5 ≤ r) = false := decide_eq_false (by omega)
      have d2 : decide (k < 0) = false := decide_eq_false (by omega)
      have d3 : decide (3 < k) = false := decide_eq_false (by omega)
      have d4 : decide (f < -1) = false := decide_eq_false (by omega)
      have d5 : decide (5 ≤ f) = false := decide_eq_false (by omega)
      have d6 : decide (a < 0) = false := decide_eq_false (by omega)
      have d7 : decide (1000 < a) = true := decide_eq_true (by omega)
      clear ho g0 g1 g2 g3 g4 g5 g6 g7
      go_enter Try.func42, Try.ntmps42
      go_wp2_with fail
      go_ret
      exact ⟨rfl, (Ext.refl _).alloc _, own_drop ha⟩
    · have d0 : decide (r < 0) = false := decide_eq_false (by omega)
      have d1 : decide (5 ≤ r) = false := decide_eq_false (by omega)
      have d2 : decide (k < 0) = false := decide_eq_false (by omega)
      have d3 : decide (3 < k) = false := decide_eq_false (by omega)
      have d4 : decide (f < -1) = false := decide_eq_false (by omega)
      have d5 : decide (5 ≤ f) = false := decide_eq_false (by omega)
      have d6 : decide (a < 0) = false := decide_eq_false (by omega)
      have d7 : decide (1000 < a) = false := decide_eq_false (by omega)
      have d8 : decide (b < 0) = true := decide_eq_true (by omega)
      clear ho g0 g1 g2 g3 g4 g5 g6 g7 g8
      go_enter Try.func42, Try.ntmps42
      go_wp2_with fail
      go_ret
      exact ⟨rfl, (Ext.refl _).alloc _, own_drop ha⟩
    · have d0 : decide (r < 0) = false := decide_eq_false (by omega)
      have d1 : decide (5 ≤ r) = false := decide_eq_false (by omega)
      have d2 : decide (k < 0) = false := decide_eq_false (by omega)
      have d3 : decide (3 < k) = false := decide_eq_false (by omega)
      have d4 : decide (f < -1) = false := decide_eq_false (by omega)
      have d5 : decide (5 ≤ f) = false := decide_eq_false (by omega)
      have d6 : decide (a < 0) = false := decide_eq_false (by omega)
      have d7 : decide (1000 < a) = false := decide_eq_false (by omega)
      have d8 : decide (b < 0) = false := decide_eq_false (by omega)
      have d9 : decide (1000 < b) = true := decide_eq_true (by omega)
      clear ho g0 g1 g2 g3 g4 g5 g6 g7 g8 g9
      go_enter Try.func42, Try.ntmps42
      go_wp2_with fail
      go_ret
      exact ⟨rfl, (Ext.refl _).alloc _, own_drop ha⟩
  · have ho' := ho
    unfold deskOut at ho'
    have d0 : decide (r < 0) = false := decide_eq_false (by omega)
    have d1 : decide (5 ≤ r) = false := decide_eq_false (by omega)
    have d2 : decide (k < 0) = false := decide_eq_false (by omega)
    have d3 : decide (3 < k) = false := decide_eq_false (by omega)
    have d4 : decide (f < -1) = false := decide_eq_false (by omega)
    have d5 : decide (5 ≤ f) = false := decide_eq_false (by omega)
    have d6 : decide (a < 0) = false := decide_eq_false (by omega)
    have d7 : decide (1000 < a) = false := decide_eq_false (by omega)
    have d8 : decide (b < 0) = false := decide_eq_false (by omega)
    have d9 : decide (1000 < b) = false := decide_eq_false (by omega)
    clear ho'
    by_cases h0 : k = 0
    · rw [deskF_0 ho h0]
      by_cases h1 : f = -1
      · by_cases h2 : a = 0
        · by_cases h3 : b = 0
          · rw [if_pos ⟨h1, h2, h3⟩]
            have th0 : (k == 0) = true := beq_iff_eq.2 h0
            have uh0 : (k != 0) = false := by simp [h0]
            have th1 : (f == -1) = true := beq_iff_eq.2 h1
            have uh1 : (f != -1) = false := by simp [h1]
            have th2 : (a == 0) = true := beq_iff_eq.2 h2
            have uh2 : (a != 0) = false := by simp [h2]
            have vh2 : decide (0 < a) = false := decide_eq_false (by omega)
            have th3 : (b == 0) = true := beq_iff_eq.2 h3
            have uh3 : (b != 0) = false := by simp [h3]
            have vh3 : decide (0 < b) = false := decide_eq_false (by omega)
            clear ho h0 h1 h2 h3
            go_enter Try.func42, Try.ntmps42
            go_wp2_with fail
            go_ret
            exact ⟨rfl, (Ext.refl _).alloc _, own_drop ha⟩
          · rw [if_neg (by omega)]
            have th0 : (k == 0) = true := beq_iff_eq.2 h0
            have uh0 : (k != 0) = false := by simp [h0]
            have th1 : (f == -1) = true := beq_iff_eq.2 h1
            have uh1 : (f != -1) = false := by simp [h1]
            have th2 : (a == 0) = true := beq_iff_eq.2 h2
            have uh2 : (a != 0) = false := by simp [h2]
            have vh2 : decide (0 < a) = false := decide_eq_false (by omega)
            have th3 : (b == 0) = false := beq_eq_false_iff_ne.2 h3
            have uh3 : (b != 0) = true := bne_iff_ne.2 h3
            have vh3 : decide (0 < b) = true := decide_eq_true (by have h6 := of_decide_eq_false d6; have h8 := of_decide_eq_false d8; omega)
            clear ho h0 h1 h2 h3
            go_enter Try.func42, Try.ntmps42
            go_wp2_with fail
            go_ret
            exact ⟨rfl, (Ext.refl _).alloc _, own_drop ha⟩
        · rw [if_neg (by omega)]
          have th0 : (k == 0) = true := beq_iff_eq.2 h0
          have uh0 : (k != 0) = false := by simp [h0]
          have th1 : (f == -1) = true := beq_iff_eq.2 h1
          have uh1 : (f != -1) = false := by simp [h1]
          have th2 : (a == 0) = false := beq_eq_false_iff_ne.2 h2
          have uh2 : (a != 0) = true := bne_iff_ne.2 h2
          have vh2 : decide (0 < a) = true := decide_eq_true (by have h6 := of_decide_eq_false d6; have h8 := of_decide_eq_false d8; omega)
          clear ho h0 h1 h2
          go_enter Try.func42, Try.ntmps42
          go_wp2_with fail
          go_ret
          exact ⟨rfl, (Ext.refl _).alloc _, own_drop ha⟩
      · rw [if_neg (by omega)]
        have th0 : (k == 0) = true := beq_iff_eq.2 h0
        have uh0 : (k != 0) = false := by simp [h0]
        have th1 : (f == -1) = false := beq_eq_false_iff_ne.2 h1
        have uh1 : (f != -1) = true := bne_iff_ne.2 h1
        clear ho h0 h1
        go_enter Try.func42, Try.ntmps42
        go_wp2_with fail
        go_ret
        exact ⟨rfl, (Ext.refl _).alloc _, own_drop ha⟩
    · rw [deskF_1 ho h0]
      by_cases h1 : f = r
      · rw [if_pos (.inl h1)]
        have th0 : (k == 0) = false := beq_eq_false_iff_ne.2 h0
        have uh0 : (k != 0) = true := bne_iff_ne.2 h0
        have th1 : (f == r) = true := beq_iff_eq.2 h1
        have uh1 : (f != r) = false := by simp [h1]
        clear ho h0 h1
        go_enter Try.func42, Try.ntmps42
        go_wp2_with fail
        go_ret
        exact ⟨rfl, (Ext.refl _).alloc _, own_drop ha⟩
      · by_cases h2 : f = -1
        · by_cases h3 : k = 2
          · rw [if_neg (by omega)]
            have th0 : (k == 0) = false := beq_eq_false_iff_ne.2 h0
            have uh0 : (k != 0) = true := bne_iff_ne.2 h0
            have th1 : (f == r) = false := beq_eq_false_iff_ne.2 h1
            have uh1 : (f != r) = true := bne_iff_ne.2 h1
            have th2 : (f == -1) = true := beq_iff_eq.2 h2
            have uh2 : (f != -1) = false := by simp [h2]
            have th3 : (k == 2) = true := beq_iff_eq.2 h3
            have uh3 : (k != 2) = false := by simp [h3]
            clear ho h0 h1 h2 h3
            go_enter Try.func42, Try.ntmps42
            go_wp2_with fail
            go_ret
            exact ⟨rfl, (Ext.refl _).alloc _, own_drop ha⟩
          · rw [if_pos (.inr ⟨h2, h3⟩)]
            have th0 : (k == 0) = false := beq_eq_false_iff_ne.2 h0
            have uh0 : (k != 0) = true := bne_iff_ne.2 h0
            have th1 : (f == r) = false := beq_eq_false_iff_ne.2 h1
            have uh1 : (f != r) = true := bne_iff_ne.2 h1
            have th2 : (f == -1) = true := beq_iff_eq.2 h2
            have uh2 : (f != -1) = false := by simp [h2]
            have th3 : (k == 2) = false := beq_eq_false_iff_ne.2 h3
            have uh3 : (k != 2) = true := bne_iff_ne.2 h3
            clear ho h0 h1 h2 h3
            go_enter Try.func42, Try.ntmps42
            go_wp2_with fail
            go_ret
            exact ⟨rfl, (Ext.refl _).alloc _, own_drop ha⟩
        · rw [if_neg (by omega)]
          by_cases h3 : k = 2
          · have th0 : (k == 0) = false := beq_eq_false_iff_ne.2 h0
            have uh0 : (k != 0) = true := bne_iff_ne.2 h0
            have th1 : (f == r) = false := beq_eq_false_iff_ne.2 h1
            have uh1 : (f != r) = true := bne_iff_ne.2 h1
            have th2 : (f == -1) = false := beq_eq_false_iff_ne.2 h2
            have uh2 : (f != -1) = true := bne_iff_ne.2 h2
            have th3 : (k == 2) = true := beq_iff_eq.2 h3
            have uh3 : (k != 2) = false := by simp [h3]
            clear ho h0 h1 h2 h3
            go_enter Try.func42, Try.ntmps42
            go_wp2_with fail
            go_ret
            exact ⟨rfl, (Ext.refl _).alloc _, own_drop ha⟩
          · have th0 : (k == 0) = false := beq_eq_false_iff_ne.2 h0
            have uh0 : (k != 0) = true := bne_iff_ne.2 h0
            have th1 : (f == r) = false := beq_eq_false_iff_ne.2 h1
            have uh1 : (f != r) = true := bne_iff_ne.2 h1
            have th2 : (f == -1) = false := beq_eq_false_iff_ne.2 h2
            have uh2 : (f != -1) = true := bne_iff_ne.2 h2
            have th3 : (k == 2) = false := beq_eq_false_iff_ne.2 h3
            have uh3 : (k != 2) = true := bne_iff_ne.2 h3
            clear ho h0 h1 h2 h3
            go_enter Try.func42, Try.ntmps42
            go_wp2_with fail
            go_ret
            exact ⟨rfl, (Ext.refl _).alloc _, own_drop ha⟩

set_option maxRecDepth 100000 in
set_option maxHeartbeats 4000000 in
theorem deskfault_any (r k f a b : Int) (R : List SL.HP) (w : World) (H : own w R) :
    Calls Try.prog 40 #[deskV r k f a b] w fun e w' => e = .returned (.int .i64 (deskF r k f a b)) ∧ Ext w w' ∧ own w' R := by
  have ha := own_alloc H (.cells #[.int .i64 r, .int .i64 k, .int .i64 f, .int .i64 a, .int .i64 b] 55)
  obtain ⟨cc, ff⟩ := own_cells 0 ha rfl
  unfold deskV
  by_cases ho : deskOut r k f a b
  · rw [deskF_out ho]
    rcases deskOut_cases ho with g0 | ⟨g0, g1⟩ | ⟨g0, g1, g2⟩ | ⟨g0, g1, g2, g3⟩ | ⟨g0, g1, g2, g3, g4⟩ | ⟨g0, g1, g2, g3, g4, g5⟩ | ⟨g0, g1, g2, g3, g4, g5, g6⟩ | ⟨g0, g1, g2, g3, g4, g5, g6, g7⟩ | ⟨g0, g1, g2, g3, g4, g5, g6, g7, g8⟩ | ⟨g0, g1, g2, g3, g4, g5, g6, g7, g8, g9⟩
    · have d0 : decide (r < 0) = true := decide_eq_true (by omega)
      clear ho g0
      go_enter Try.func40, Try.ntmps40
      go_wp2_with fail
      go_ret
      exact ⟨rfl, (Ext.refl _).alloc _, own_drop ha⟩
    · have d0 : decide (r < 0) = false := decide_eq_false (by omega)
      have d1 : decide (4 < r) = true := decide_eq_true (by omega)
      clear ho g0 g1
      go_enter Try.func40, Try.ntmps40
      go_wp2_with fail
      go_ret
      exact ⟨rfl, (Ext.refl _).alloc _, own_drop ha⟩
    · have d0 : decide (r < 0) = false := decide_eq_false (by omega)
      have d1 : decide (4 < r) = false := decide_eq_false (by omega)
      have d2 : decide (k < 0) = true := decide_eq_true (by omega)
      clear ho g0 g1 g2
      go_enter Try.func40, Try.ntmps40
      go_wp2_with fail
      go_ret
      exact ⟨rfl, (Ext.refl _).alloc _, own_drop ha⟩
    · have d0 : decide (r < 0) = false := decide_eq_false (by omega)
      have d1 : decide (4 < r) = false := decide_eq_false (by omega)
      have d2 : decide (k < 0) = false := decide_eq_false (by omega)
      have d3 : decide (3 < k) = true := decide_eq_true (by omega)
      clear ho g0 g1 g2 g3
      go_enter Try.func40, Try.ntmps40
      go_wp2_with fail
      go_ret
      exact ⟨rfl, (Ext.refl _).alloc _, own_drop ha⟩
    · have d0 : decide (r < 0) = false := decide_eq_false (by omega)
      have d1 : decide (4 < r) = false := decide_eq_false (by omega)
      have d2 : decide (k < 0) = false := decide_eq_false (by omega)
      have d3 : decide (3 < k) = false := decide_eq_false (by omega)
      have d4 : decide (f < -1) = true := decide_eq_true (by omega)
      clear ho g0 g1 g2 g3 g4
      go_enter Try.func40, Try.ntmps40
      go_wp2_with fail
      go_ret
      exact ⟨rfl, (Ext.refl _).alloc _, own_drop ha⟩
    · have d0 : decide (r < 0) = false := decide_eq_false (by omega)
      have d1 : decide (4 < r) = false := decide_eq_false (by omega)
      have d2 : decide (k < 0) = false := decide_eq_false (by omega)
      have d3 : decide (3 < k) = false := decide_eq_false (by omega)
      have d4 : decide (f < -1) = false := decide_eq_false (by omega)
      have d5 : decide (4 < f) = true := decide_eq_true (by omega)
      clear ho g0 g1 g2 g3 g4 g5
      go_enter Try.func40, Try.ntmps40
      go_wp2_with fail
      go_ret
      exact ⟨rfl, (Ext.refl _).alloc _, own_drop ha⟩
    · have d0 : decide (r < 0) = false := decide_eq_false (by omega)
      have d1 : decide (4 < r) = false := decide_eq_false (by omega)
      have d2 : decide (k < 0) = false := decide_eq_false (by omega)
      have d3 : decide (3 < k) = false := decide_eq_false (by omega)
      have d4 : decide (f < -1) = false := decide_eq_false (by omega)
      have d5 : decide (4 < f) = false := decide_eq_false (by omega)
      have d6 : decide (a < 0) = true := decide_eq_true (by omega)
      clear ho g0 g1 g2 g3 g4 g5 g6
      go_enter Try.func40, Try.ntmps40
      go_wp2_with fail
      go_ret
      exact ⟨rfl, (Ext.refl _).alloc _, own_drop ha⟩
    · have d0 : decide (r < 0) = false := decide_eq_false (by omega)
      have d1 : decide (4 < r) = false := decide_eq_false (by omega)
      have d2 : decide (k < 0) = false := decide_eq_false (by omega)
      have d3 : decide (3 < k) = false := decide_eq_false (by omega)
      have d4 : decide (f < -1) = false := decide_eq_false (by omega)
      have d5 : decide (4 < f) = false := decide_eq_false (by omega)
      have d6 : decide (a < 0) = false := decide_eq_false (by omega)
      have d7 : decide (1000 < a) = true := decide_eq_true (by omega)
      clear ho g0 g1 g2 g3 g4 g5 g6 g7
      go_enter Try.func40, Try.ntmps40
      go_wp2_with fail
      go_ret
      exact ⟨rfl, (Ext.refl _).alloc _, own_drop ha⟩
    · have d0 : decide (r < 0) = false := decide_eq_false (by omega)
      have d1 : decide (4 < r) = false := decide_eq_false (by omega)
      have d2 : decide (k < 0) = false := decide_eq_false (by omega)
      have d3 : decide (3 < k) = false := decide_eq_false (by omega)
      have d4 : decide (f < -1) = false := decide_eq_false (by omega)
      have d5 : decide (4 < f) = false := decide_eq_false (by omega)
      have d6 : decide (a < 0) = false := decide_eq_false (by omega)
      have d7 : decide (1000 < a) = false := decide_eq_false (by omega)
      have d8 : decide (b < 0) = true := decide_eq_true (by omega)
      clear ho g0 g1 g2 g3 g4 g5 g6 g7 g8
      go_enter Try.func40, Try.ntmps40
      go_wp2_with fail
      go_ret
      exact ⟨rfl, (Ext.refl _).alloc _, own_drop ha⟩
    · have d0 : decide (r < 0) = false := decide_eq_false (by omega)
      have d1 : decide (4 < r) = false := decide_eq_false (by omega)
      have d2 : decide (k < 0) = false := decide_eq_false (by omega)
      have d3 : decide (3 < k) = false := decide_eq_false (by omega)
      have d4 : decide (f < -1) = false := decide_eq_false (by omega)
      have d5 : decide (4 < f) = false := decide_eq_false (by omega)
      have d6 : decide (a < 0) = false := decide_eq_false (by omega)
      have d7 : decide (1000 < a) = false := decide_eq_false (by omega)
      have d8 : decide (b < 0) = false := decide_eq_false (by omega)
      have d9 : decide (1000 < b) = true := decide_eq_true (by omega)
      clear ho g0 g1 g2 g3 g4 g5 g6 g7 g8 g9
      go_enter Try.func40, Try.ntmps40
      go_wp2_with fail
      go_ret
      exact ⟨rfl, (Ext.refl _).alloc _, own_drop ha⟩
  · have ho' := ho
    unfold deskOut at ho'
    have d0 : decide (r < 0) = false := decide_eq_false (by omega)
    have d1 : decide (4 < r) = false := decide_eq_false (by omega)
    have d2 : decide (k < 0) = false := decide_eq_false (by omega)
    have d3 : decide (3 < k) = false := decide_eq_false (by omega)
    have d4 : decide (f < -1) = false := decide_eq_false (by omega)
    have d5 : decide (4 < f) = false := decide_eq_false (by omega)
    have d6 : decide (a < 0) = false := decide_eq_false (by omega)
    have d7 : decide (1000 < a) = false := decide_eq_false (by omega)
    have d8 : decide (b < 0) = false := decide_eq_false (by omega)
    have d9 : decide (1000 < b) = false := decide_eq_false (by omega)
    clear ho'
    by_cases h0 : k = 0
    · rw [deskF_0 ho h0]
      by_cases h1 : f = -1
      · by_cases h2 : a = 0
        · by_cases h3 : b = 0
          · rw [if_pos ⟨h1, h2, h3⟩]
            have th0 : (k == 0) = true := beq_iff_eq.2 h0
            have uh0 : (k != 0) = false := by simp [h0]
            have th1 : (f == -1) = true := beq_iff_eq.2 h1
            have uh1 : (f != -1) = false := by simp [h1]
            have th2 : (a == 0) = true := beq_iff_eq.2 h2
            have uh2 : (a != 0) = false := by simp [h2]
            have vh2 : decide (0 < a) = false := decide_eq_false (by omega)
            have th3 : (b == 0) = true := beq_iff_eq.2 h3
            have uh3 : (b != 0) = false := by simp [h3]
            have vh3 : decide (0 < b) = false := decide_eq_false (by omega)
            clear ho h0 h1 h2 h3
            go_enter Try.func40, Try.ntmps40
            go_wp2_with fail
            go_ret
            exact ⟨rfl, (Ext.refl _).alloc _, own_drop ha⟩
          · rw [if_neg (by omega)]
            have th0 : (k == 0) = true := beq_iff_eq.2 h0
            have uh0 : (k != 0) = false := by simp [h0]
            have th1 : (f == -1) = true := beq_iff_eq.2 h1
            have uh1 : (f != -1) = false := by simp [h1]
            have th2 : (a == 0) = true := beq_iff_eq.2 h2
            have uh2 : (a != 0) = false := by simp [h2]
            have vh2 : decide (0 < a) = false := decide_eq_false (by omega)
            have th3 : (b == 0) = false := beq_eq_false_iff_ne.2 h3
            have uh3 : (b != 0) = true := bne_iff_ne.2 h3
            have vh3 : decide (0 < b) = true := decide_eq_true (by have h6 := of_decide_eq_false d6; have h8 := of_decide_eq_false d8; omega)
            clear ho h0 h1 h2 h3
            go_enter Try.func40, Try.ntmps40
            go_wp2_with fail
            go_ret
            exact ⟨rfl, (Ext.refl _).alloc _, own_drop ha⟩
        · rw [if_neg (by omega)]
          have th0 : (k == 0) = true := beq_iff_eq.2 h0
          have uh0 : (k != 0) = false := by simp [h0]
          have th1 : (f == -1) = true := beq_iff_eq.2 h1
          have uh1 : (f != -1) = false := by simp [h1]
          have th2 : (a == 0) = false := beq_eq_false_iff_ne.2 h2
          have uh2 : (a != 0) = true := bne_iff_ne.2 h2
          have vh2 : decide (0 < a) = true := decide_eq_true (by have h6 := of_decide_eq_false d6; have h8 := of_decide_eq_false d8; omega)
          clear ho h0 h1 h2
          go_enter Try.func40, Try.ntmps40
          go_wp2_with fail
          go_ret
          exact ⟨rfl, (Ext.refl _).alloc _, own_drop ha⟩
      · rw [if_neg (by omega)]
        have th0 : (k == 0) = true := beq_iff_eq.2 h0
        have uh0 : (k != 0) = false := by simp [h0]
        have th1 : (f == -1) = false := beq_eq_false_iff_ne.2 h1
        have uh1 : (f != -1) = true := bne_iff_ne.2 h1
        clear ho h0 h1
        go_enter Try.func40, Try.ntmps40
        go_wp2_with fail
        go_ret
        exact ⟨rfl, (Ext.refl _).alloc _, own_drop ha⟩
    · rw [deskF_1 ho h0]
      by_cases h1 : f = r
      · rw [if_pos (.inl h1)]
        have th0 : (k == 0) = false := beq_eq_false_iff_ne.2 h0
        have uh0 : (k != 0) = true := bne_iff_ne.2 h0
        have th1 : (f == r) = true := beq_iff_eq.2 h1
        have uh1 : (f != r) = false := by simp [h1]
        clear ho h0 h1
        go_enter Try.func40, Try.ntmps40
        go_wp2_with fail
        go_ret
        exact ⟨rfl, (Ext.refl _).alloc _, own_drop ha⟩
      · by_cases h2 : f = -1
        · by_cases h3 : k = 2
          · rw [if_neg (by omega)]
            have th0 : (k == 0) = false := beq_eq_false_iff_ne.2 h0
            have uh0 : (k != 0) = true := bne_iff_ne.2 h0
            have th1 : (f == r) = false := beq_eq_false_iff_ne.2 h1
            have uh1 : (f != r) = true := bne_iff_ne.2 h1
            have th2 : (f == -1) = true := beq_iff_eq.2 h2
            have uh2 : (f != -1) = false := by simp [h2]
            have th3 : (k == 2) = true := beq_iff_eq.2 h3
            have uh3 : (k != 2) = false := by simp [h3]
            clear ho h0 h1 h2 h3
            go_enter Try.func40, Try.ntmps40
            go_wp2_with fail
            go_ret
            exact ⟨rfl, (Ext.refl _).alloc _, own_drop ha⟩
          · rw [if_pos (.inr ⟨h2, h3⟩)]
            have th0 : (k == 0) = false := beq_eq_false_iff_ne.2 h0
            have uh0 : (k != 0) = true := bne_iff_ne.2 h0
            have th1 : (f == r) = false := beq_eq_false_iff_ne.2 h1
            have uh1 : (f != r) = true := bne_iff_ne.2 h1
            have th2 : (f == -1) = true := beq_iff_eq.2 h2
            have uh2 : (f != -1) = false := by simp [h2]
            have th3 : (k == 2) = false := beq_eq_false_iff_ne.2 h3
            have uh3 : (k != 2) = true := bne_iff_ne.2 h3
            clear ho h0 h1 h2 h3
            go_enter Try.func40, Try.ntmps40
            go_wp2_with fail
            go_ret
            exact ⟨rfl, (Ext.refl _).alloc _, own_drop ha⟩
        · rw [if_neg (by omega)]
          by_cases h3 : k = 2
          · have th0 : (k == 0) = false := beq_eq_false_iff_ne.2 h0
            have uh0 : (k != 0) = true := bne_iff_ne.2 h0
            have th1 : (f == r) = false := beq_eq_false_iff_ne.2 h1
            have uh1 : (f != r) = true := bne_iff_ne.2 h1
            have th2 : (f == -1) = false := beq_eq_false_iff_ne.2 h2
            have uh2 : (f != -1) = true := bne_iff_ne.2 h2
            have th3 : (k == 2) = true := beq_iff_eq.2 h3
            have uh3 : (k != 2) = false := by simp [h3]
            clear ho h0 h1 h2 h3
            go_enter Try.func40, Try.ntmps40
            go_wp2_with fail
            go_ret
            exact ⟨rfl, (Ext.refl _).alloc _, own_drop ha⟩
          · have th0 : (k == 0) = false := beq_eq_false_iff_ne.2 h0
            have uh0 : (k != 0) = true := bne_iff_ne.2 h0
            have th1 : (f == r) = false := beq_eq_false_iff_ne.2 h1
            have uh1 : (f != r) = true := bne_iff_ne.2 h1
            have th2 : (f == -1) = false := beq_eq_false_iff_ne.2 h2
            have uh2 : (f != -1) = true := bne_iff_ne.2 h2
            have th3 : (k == 2) = false := beq_eq_false_iff_ne.2 h3
            have uh3 : (k != 2) = true := bne_iff_ne.2 h3
            clear ho h0 h1 h2 h3
            go_enter Try.func40, Try.ntmps40
            go_wp2_with fail
            go_ret
            exact ⟨rfl, (Ext.refl _).alloc _, own_drop ha⟩

def deskS (r k f a b : Int) : ByteArray := sealX [68, 75, r, k, f + 1, a % 256, a / 256, b % 256, b / 256]
end Go.Proofs.Ytbpblokfiajpjaa
