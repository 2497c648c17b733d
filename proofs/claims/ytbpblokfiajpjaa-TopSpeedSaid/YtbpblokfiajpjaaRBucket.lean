/- The reference's bucket: its Tick, a loop, comes to one sum. No conditions beyond the numbers' ranges. -/
import Derived.Test.YtbpblokfiajpjaaBucket
namespace Go.Proofs.Ytbpblokfiajpjaa
open Go.RowKit Go.SL

theorem lev_stop (u l r n k : Int) (hk : k ≤ n) (h0 : 0 ≤ k) (hr : 0 ≤ r) (hl : l ≤ u) (h : ¬ (k < n ∧ min u (l + k * r) < u ∧ 0 < r)) : min u (l + k * r) = min u (l + n * r) := by
  by_cases hkn : k = n
  · rw [hkn]
  · by_cases hr0 : r = 0
    · subst hr0; simp
    · have h1 : k * r ≤ n * r := Int.mul_le_mul_of_nonneg_right hk hr
      omega
theorem lev_step (u l r k : Int) (hr : 0 ≤ r) (h : min u (l + k * r) < u) : min u (min u (l + k * r) + r) = min u (l + (k + 1) * r) := by
  have : (k + 1) * r = k * r + r := by rw [Int.add_mul]; simp
  omega

set_option maxRecDepth 100000 in
set_option maxHeartbeats 1000000 in
theorem rbucket_tick (b : Nat) (r u l n : Int) (R : List HP) (w : World) (H : own w (rbucketAt b r u l :: R)) (hn : 0 ≤ n) (hn2 : n ≤ 100000) (hl : 0 ≤ l) (hl2 : l ≤ u) (hr : 0 ≤ r) (hr2 : r ≤ 1000) (hu : u ≤ 1000) :
    Calls Try.prog 17 #[.pointer (some ⟨b, 0, none⟩), .int .i64 n] w fun e w' => e = .returned (.tuple #[]) ∧ Ext w w' ∧ own w' (rbucketAt b r u (min u (l + n * r)) :: R) := by
  go_enter Try.func17, Try.ntmps17
  go_wp2
  go_loopw [4] (fun i wr => ∃ k : Nat, (k : Int) ≤ n ∧ i = .int .i64 k ∧ Ext w wr ∧ own wr (rbucketAt b r u (min u (l + k * r)) :: R)) (fun i _ => n.toNat - (intOf i).toNat)
  case atStart => exact ⟨0, by omega, rfl, Ext.refl _, by simpa [show min u l = l by omega] using H⟩
  case round =>
    obtain ⟨k, hk, rfl, hext, hown⟩ := hrel
    obtain ⟨c, f⟩ := own_cells 0 hown rfl
    have hkr : 0 ≤ (k : Int) * r := Int.mul_nonneg (by omega) hr
    have hstop := lev_stop u l r n k hk (by omega) hr hl2
    have hstep := lev_step u l r k hr
    have H1 := Lib.hid hstop
    have H2 := Lib.hid hstep
    clear hstop hstep
    by_cases hgo : (k : Int) < n ∧ min u (l + k * r) < u ∧ 0 < r
    · obtain ⟨g1, g2, g3⟩ := hgo
      have H3 := Lib.hid (H2.out g2)
      have hlo : 0 ≤ min u (l + k * r) := by omega
      generalize min u (l + k * r) = m at *
      have e1 : IntKind.i64.wrap (m + r) = m + r := IntWalk.i64_in _ (by omega)
      by_cases hmin : m + r < u
      all_goals
        go_wp2_with fail
        go_quiet (fail)
        go_wp2_with fail
        have hq := own_drewN nq hown
        have hxq := hext.drewN nq
        clear c f hown hext
        generalize wr.drewN nq = wq at *
        obtain ⟨c, f⟩ := own_cells 0 hq rfl
        go_still_tail 15, (by kernel_rfl)
        change wpList _ _ _ _ _ wq.drew
        go_wp2
        all_goals go_roundw
        case rel =>
          refine ⟨k + 1, by omega, by go_num, (hxq.setCell _ _).drew, ?_⟩
          rw [show ((k + 1 : Nat) : Int) = (k : Int) + 1 by omega, ← H3.out]
          first | rw [show min u (m + r) = m + r by omega] | rw [show min u (m + r) = u by omega]
          exact own_drew (own_set 0 hq rfl)
        case measure => simp [intOf]; omega
    · have H3 := Lib.hid (H1.out hgo)
      clear H1 H2
      have e4 : (((k : Int) < n) ∧ ¬ min u (l + k * r) < u) ∨ (((k : Int) < n) ∧ min u (l + k * r) < u ∧ ¬ 0 < r) ∨ ¬ ((k : Int) < n) := by omega
      generalize min u (l + k * r) = m at *
      rcases e4 with ⟨g1, g2⟩ | ⟨g1, g2, g3⟩ | g1
      · have d1 : decide (m < u) = false := decide_eq_false g2
        go_wp2_with fail
        go_quiet (fail)
        go_wp2_with fail
        go_end0
        exact ⟨rfl, hext.drewN _, by rw [← H3.out]; exact own_drewN _ hown⟩
      · have d1 : decide (0 < r) = false := decide_eq_false g3
        go_wp2_with fail
        go_quiet (fail)
        go_wp2_with fail
        go_end0
        exact ⟨rfl, hext.drewN _, by rw [← H3.out]; exact own_drewN _ hown⟩
      · have d1 : decide ((k : Int) < n) = false := decide_eq_false g1
        go_wp2_with fail
        go_quiet (fail)
        go_wp2_with fail
        go_end0
        exact ⟨rfl, hext.drewN _, by rw [← H3.out]; exact own_drewN _ hown⟩
end Go.Proofs.Ytbpblokfiajpjaa
