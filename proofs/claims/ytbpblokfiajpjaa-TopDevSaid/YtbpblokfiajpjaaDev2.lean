/- What a device's methods do that turn it: New, Write, Flush. No conditions. -/
import Derived.Test.YtbpblokfiajpjaaDev
namespace Go.Proofs.Ytbpblokfiajpjaa
open Go.RowKit Go.SL

set_option maxRecDepth 100000 in
set_option maxHeartbeats 1000000 in
theorem dev_write (b : Nat) (m : DevM) (hm : m.Ok) (n : Int) (s : ByteArray) (hs : s.size ≤ 9223372036854775807) (hwl : m.writes < 1000000) (hpl : m.pend.length < 1000000) (R : List SL.HP) (w : World) (H : own w (devAt b m :: R)) :
    Calls Try.prog 51 #[.pointer (some ⟨b, 0, none⟩), .int .i64 n, .string s] w fun e w' => e = .returned (errV (m.write n s).1) ∧ Ext w w' ∧ own w' (devAt b (m.write n s).2 :: R) := by
  obtain ⟨vf, vp, h⟩ := dev_open H
  have hl1 := hm.n
  obtain ⟨hf1, hf2⟩ := hm.fail
  obtain ⟨hw1, hw2⟩ := hm.writes
  obtain ⟨af, gf, cf, rfl, f1, f2, -, -, -, -, -⟩ := own_row_form 1 h rfl
  by_cases hb : m.bad n s = true
  · have e : m.write n s = (1, m) := by unfold DevM.write; rw [if_pos hb]
    rw [e]
    obtain ⟨c, f⟩ := own_cells 0 h rfl
    simp only [DevM.bad, Bool.or_eq_true, decide_eq_true_eq] at hb
    by_cases h0 : n < 0
    · go_enter Try.func51, Try.ntmps51
      go_wp2_with fail
      all_goals go_ret
      all_goals exact ⟨rfl, Ext.refl _, H⟩
    · by_cases h1 : (m.fl.length : Int) ≤ n
      · go_enter Try.func51, Try.ntmps51
        go_wp2_with fail
        all_goals go_ret
        all_goals exact ⟨rfl, Ext.refl _, H⟩
      · have h2 : s.size ≠ 16 := by omega
        clear hb
        go_enter Try.func51, Try.ntmps51
        go_wp2_with fail
        all_goals go_ret
        all_goals exact ⟨rfl, Ext.refl _, H⟩
  · have hb' := hb
    simp only [DevM.bad, Bool.or_eq_true, decide_eq_true_eq, not_or] at hb'
    obtain ⟨⟨h0, h1⟩, h2⟩ := hb'
    have h0 : 0 ≤ n := by omega
    have h1 : n < m.fl.length := by omega
    have h2 : s.size = 16 := by omega
    by_cases hz : m.fail = 0
    · have e : m.write n s = (7, { m with fail := -1 }) := by unfold DevM.write; rw [if_neg hb, if_pos hz]
      rw [e]
      clear hb
      obtain ⟨c, f⟩ := own_cells 0 h rfl
      go_enter Try.func51, Try.ntmps51
      go_wp2_with fail
      all_goals go_ret
      all_goals exact ⟨rfl, (Ext.refl _).setCell _ _, dev_close (m := { m with fail := -1 }) (own_set 0 h rfl)⟩
    · have e : m.write n s = (0, { m with fail := if 0 < m.fail then m.fail - 1 else m.fail, pend := m.pend ++ [(n, s)], writes := m.writes + 1 }) := by unfold DevM.write; rw [if_neg hb, if_neg hz]
      rw [e]
      clear hb e
      obtain ⟨ap, gp, cp, rfl, p1, p2, -, -, -, -, -⟩ := own_row_form 2 h rfl
      obtain ⟨c, f⟩ := own_cells 0 h rfl
      have hml : m.pend.length + 1 ≤ maxLen := by simp only [maxLen]; omega
      by_cases hpos : 0 < m.fail
      all_goals
        first
        | rw [if_pos hpos]
        | rw [if_neg hpos]
        go_enter Try.func51, Try.ntmps51
        go_upto_region 8 with (fail)
      all_goals first
      | (
        have hyes : 0 < m.fail := hpos
        have h3 := own_set (i := 2) (v := .int .i64 (m.fail - 1)) 0 h rfl
        have hx3 := (Ext.refl w).setCell ⟨b, 2, none⟩ (.int .i64 (m.fail - 1))
        generalize w.setCell ⟨b, 2, none⟩ (.int .i64 (m.fail - 1)) = w3 at *
        have hF := Lib.hid (rfl : m.fail - 1 = m.fail - 1))
      | (
        have h3 := h
        obtain ⟨w3, hw3⟩ : ∃ w3, w3 = w := ⟨w, rfl⟩
        subst hw3
        have hx3 := Ext.refl w3
        have hF := Lib.hid (rfl : m.fail = m.fail))
      all_goals
        clear c f
        obtain ⟨c, f⟩ := own_cells 0 h3 rfl
        have ha := own_alloc h3 (.cells #[.int .i64 n, .string s] 137)
        have hm1 : ∀ ad, some (⟨w3.heap.size, 0, none⟩ : Addr) = some ad → ∀ j u, [Value.int .i64 n, Value.string s][j]? = some u → (w3.alloc (.cells #[.int .i64 n, .string s] 137)).cell? (ad.add j) = some u := fun ad had j u hu => by
          obtain rfl := Option.some.inj had
          rw [add_none, Nat.zero_add, (own_cells 0 ha rfl).1]
          match j, hu with
          | 0, hu => exact hu
          | 1, hu => exact hu
        have hm2 : ∀ u ∈ [Value.int .i64 n, Value.string s], u.oneCell' = true := fun u hu => by
          simp at hu
          rcases hu with rfl | rfl <;> rfl
        go_wp2_with (first | (at_builtin; refine wpList_append_row rfl _ _ 131 rfl 3 137 Try.underlying131 elem_write rfl (by decide) rfl ha rfl (some ⟨w3.heap.size, 0, none⟩) 1 1 [.int .i64 n, .string s] rfl rfl hm1 (fun h => by cases h) hm2 hml (by omega) ?_))
        clear hm1 hm2 c f
        intro v4 w4 h4 hx4
        obtain ⟨a4, g4, c4, rfl, q1, q2, -, -, -, -, -⟩ := own_row_form 3 h4 rfl
        obtain ⟨c, f⟩ := own_cells 1 h4 rfl
        go_wp2_with fail
        go_ret
        refine ⟨rfl, ?_, ?_⟩
        · exact (((hx3.alloc _).trans hx4).setCell _ _).setCell _ _
        · have h5 := own_set (i := 1) (v := .slice a4 (m.pend.length + 1) c4) 1 h4 rfl
          have h6 := own_set (i := 3) (v := .int .i64 (m.writes + 1)) 1 h5 rfl
          have h7 := own_drop h6
          have ep : (m.pend ++ [(n, s)]).length = m.pend.length + 1 := by simp
          have ec : pendCells (m.pend ++ [(n, s)]) = pendCells m.pend ++ [.int .i64 n, .string s] := by simp [pendCells]
          first
          | exact dev_close (m := { m with fail := m.fail - 1, pend := m.pend ++ [(n, s)], writes := m.writes + 1 }) (by dsimp only; rw [ep, ec]; exact h7)
          | exact dev_close (m := { m with fail := m.fail, pend := m.pend ++ [(n, s)], writes := m.writes + 1 }) (by dsimp only; rw [ep, ec]; exact h7)
end Go.Proofs.Ytbpblokfiajpjaa
