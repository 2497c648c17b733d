/- The document's device: Write, Flush, Crash, NewDev. No conditions. -/
import Derived.Test.YtbpblokfiajpjaaRDev
namespace Go.Proofs.Ytbpblokfiajpjaa
open Go.RowKit Go.SL

set_option maxRecDepth 100000 in
set_option maxHeartbeats 1000000 in
theorem rdev_write (b : Nat) (m : DevM) (hm : m.Ok) (n : Int) (s : ByteArray) (hs : s.size ≤ 9223372036854775807) (hwl : m.writes < 1000000) (hpl : m.pend.length < 1000000) (R : List SL.HP) (w : World) (H : own w (rdevAt b m :: R)) :
    Calls Try.prog 52 #[.pointer (some ⟨b, 0, none⟩), .int .i64 n, .string s] w fun e w' => e = .returned (.int .i64 (m.write n s).1) ∧ Ext w w' ∧ own w' (rdevAt b (m.write n s).2 :: R) := by
  obtain ⟨vf, va, vw, h⟩ := rdev_open H
  have hl1 := hm.n
  obtain ⟨hf1, hf2⟩ := hm.fail
  obtain ⟨hw1, hw2⟩ := hm.writes
  obtain ⟨af, gf, cf, rfl, f1, f2, -, -, -, -, -⟩ := own_row_form 1 h rfl
  by_cases hb : m.bad n s = true
  · have e : m.write n s = (1, m) := by unfold DevM.write; rw [if_pos hb]
    rw [e]
    obtain ⟨c, f⟩ := own_cells 0 h rfl
    simp only [DevM.bad, Bool.or_eq_true, decide_eq_true_eq] at hb
    by_cases h0 : n < 0
    · go_enter Try.func52, Try.ntmps52
      go_wp2_with fail
      all_goals go_ret
      all_goals exact ⟨rfl, Ext.refl _, H⟩
    · by_cases h1 : (m.fl.length : Int) ≤ n
      · go_enter Try.func52, Try.ntmps52
        go_wp2_with fail
        all_goals go_ret
        all_goals exact ⟨rfl, Ext.refl _, H⟩
      · have h2 : s.size ≠ 16 := by omega
        clear hb
        go_enter Try.func52, Try.ntmps52
        go_wp2_with fail
        all_goals go_ret
        all_goals exact ⟨rfl, Ext.refl _, H⟩
  · have hb' := hb
    simp only [DevM.bad, Bool.or_eq_true, decide_eq_true_eq, not_or] at hb'
    obtain ⟨⟨h0, h1⟩, h2⟩ := hb'
    have h0 : 0 ≤ n := by omega
    have h1 : n < m.fl.length := by omega
    have h2 : s.size = 16 := by omega
    by_cases hz : m.fail = 0
    · have e : m.write n s = (7, { m with fail := -1 }) := by unfold DevM.write; rw [if_neg hb, if_pos hz]
      rw [e]
      clear hb
      obtain ⟨c, f⟩ := own_cells 0 h rfl
      go_enter Try.func52, Try.ntmps52
      go_wp2_with fail
      all_goals go_ret
      all_goals exact ⟨rfl, (Ext.refl _).setCell _ _, rdev_close (m := { m with fail := -1 }) (own_set 0 h rfl)⟩
    · have e : m.write n s = (0, { m with fail := if 0 < m.fail then m.fail - 1 else m.fail, pend := m.pend ++ [(n, s)], writes := m.writes + 1 }) := by unfold DevM.write; rw [if_neg hb, if_neg hz]
      rw [e]
      clear hb e
      obtain ⟨aa, ga, ca, rfl, p1, p2, -, -, -, -, -⟩ := own_row_form 2 h rfl
      obtain ⟨aw, gw, cw, rfl, p3, p4, -, -, -, -, -⟩ := own_row_form 3 h rfl
      obtain ⟨c, f⟩ := own_cells 0 h rfl
      have hml : m.pend.length + 1 ≤ maxLen := by simp only [maxLen]; omega
      by_cases hpos : 0 < m.fail
      all_goals
        first
        | rw [if_pos hpos]
        | rw [if_neg hpos]
        go_enter Try.func52, Try.ntmps52
        go_upto_region 8 with (fail)
      all_goals first
      | (
        have hyes : 0 < m.fail := hpos
        have h3 := own_set (i := 2 + 1) (v := .int .i64 (m.fail - 1)) 0 h rfl
        have hx3 := (Ext.refl w).setCell ⟨b, 3, none⟩ (.int .i64 (m.fail - 1))
        generalize w.setCell ⟨b, 3, none⟩ (.int .i64 (m.fail - 1)) = w3 at *
        have hF := Lib.hid (rfl : m.fail - 1 = m.fail - 1))
      | (
        have h3 := h
        obtain ⟨w3, hw3⟩ : ∃ w3, w3 = w := ⟨w, rfl⟩
        subst hw3
        have hx3 := Ext.refl w3
        have hF := Lib.hid (rfl : m.fail = m.fail))
      all_goals
        clear c f
        obtain ⟨c, f⟩ := own_cells 0 h3 rfl
        have ha := own_alloc h3 (.cells #[.int .i64 n] 3)
        go_wp2_with (first | (at_builtin; refine wpList_append_row rfl _ _ 88 rfl 3 3 Try.underlying88 elem_int rfl (by decide) rfl ha rfl (some ⟨w3.heap.size, 0, none⟩) 1 1 [.int .i64 n] rfl rfl (alloc_news w3 [.int .i64 n] _) (fun h => by cases h) (one_int _) hml (by omega) ?_))
        clear c f
        intro v4 w4 h4 hx4
        obtain ⟨a4, g4, c4, rfl, q1, q2, -, -, -, -, -⟩ := own_row_form 3 h4 rfl
        obtain ⟨c, f⟩ := own_cells 1 h4 rfl
        go_upto_region 9 with (fail)
        have h5 := own_drop (own_set (i := 1) (v := .slice a4 (m.pend.length + 1) c4) 1 h4 rfl)
        have hx5 := ((hx3.alloc (.cells #[.int .i64 n] 3)).trans hx4).setCell ⟨b, 1, none⟩ (.slice a4 (m.pend.length + 1) c4)
        generalize w4.setCell ⟨b, 1, none⟩ (.slice a4 (m.pend.length + 1) c4) = w5 at *
        clear c f h4 ha
        obtain ⟨c, f⟩ := own_cells 0 h5 rfl
        have ha := own_alloc h5 (.cells #[.string s] 9)
        go_wp2_with (first | (at_builtin; refine wpList_append_row rfl _ _ 42 rfl 4 9 Try.underlying42 elem_string rfl (by decide) rfl ha rfl (some ⟨w5.heap.size, 0, none⟩) 1 1 [.string s] rfl rfl (alloc_news w5 [.string s] _) (fun h => by cases h) (one_str _) hml (by omega) ?_))
        clear c f
        intro v6 w6 h6 hx6
        obtain ⟨a6, g6, c6, rfl, q3, q4, -, -, -, -, -⟩ := own_row_form 4 h6 rfl
        obtain ⟨c, f⟩ := own_cells 1 h6 rfl
        go_wp2_with fail
        go_ret
        refine ⟨rfl, ?_, ?_⟩
        · exact (((hx5.alloc _).trans hx6).setCell _ _).setCell _ _
        · have h7 := own_set (i := 2) (v := .slice a6 (m.pend.length + 1) c6) 1 h6 rfl
          have h8 := own_set (i := 4) (v := .int .i64 (m.writes + 1)) 1 h7 rfl
          have h9 := own_drop h8
          have ep : (m.pend ++ [(n, s)]).length = m.pend.length + 1 := by simp
          have ec : intCells (m.pend ++ [(n, s)]) = intCells m.pend ++ [.int .i64 n] := by simp [intCells]
          have ed : whatCells (m.pend ++ [(n, s)]) = whatCells m.pend ++ [.string s] := by simp [whatCells]
          first
          | exact rdev_close (m := { m with fail := m.fail - 1, pend := m.pend ++ [(n, s)], writes := m.writes + 1 }) (by dsimp only; rw [ep, ec, ed]; exact h9)
          | exact rdev_close (m := { m with fail := m.fail, pend := m.pend ++ [(n, s)], writes := m.writes + 1 }) (by dsimp only; rw [ep, ec, ed]; exact h9)

def rflushInv (b : Nat) (m : DevM) (vf va vw : Value) (R : List SL.HP) (w0 : World) (i : Value) (wr : World) : Prop :=
  ∃ q : Nat, q ≤ m.pend.length ∧ i = .int .i64 q ∧ Ext w0 wr ∧ own wr (pts b (.cells #[vf, va, vw, .int .i64 m.fail, .int .i64 m.writes] 90 (0, 0)) :: row 9 1 vf m.fl.length (strCells ((m.pend.take q).foldl setAt m.fl)) :: row 3 1 va m.pend.length (intCells m.pend) :: row 9 1 vw m.pend.length (whatCells m.pend) :: R)

set_option maxRecDepth 100000 in
set_option maxHeartbeats 1000000 in
theorem rdev_flush (b : Nat) (m : DevM) (hm : m.Ok) (R : List SL.HP) (w : World) (H : own w (rdevAt b m :: R)) :
    Calls Try.prog 56 #[.pointer (some ⟨b, 0, none⟩)] w fun e w' => e = .returned (.tuple #[]) ∧ Ext w w' ∧ own w' (rdevAt b m.flush :: R) := by
  obtain ⟨vf, va, vw, h⟩ := rdev_open H
  have hl1 := hm.n
  have hl2 := hm.p
  obtain ⟨aa, ga, ca, rfl, p1, p2, p3, -, -, -, -⟩ := own_row_form 2 h rfl
  obtain ⟨aw, gw, cw, rfl, p4, p5, p6, -, -, -, -⟩ := own_row_form 3 h rfl
  obtain ⟨af, gf, cf, rfl, f1, f2, f3, -, -, -, -⟩ := own_row_form 1 h rfl
  have P3 := Lib.hid p3
  have P6 := Lib.hid p6
  have F3 := Lib.hid f3
  clear p3 f3 p6
  go_enter Try.func56, Try.ntmps56
  go_wp2_with fail
  go_loopw [2] (rflushInv b m (.slice af m.fl.length cf) (.slice aa m.pend.length ca) (.slice aw m.pend.length cw) R w) (fun i _ => m.pend.length - (intOf i).toNat)
  case atStart => exact ⟨0, Nat.zero_le _, rfl, Ext.refl _, h⟩
  case round =>
    clear h H
    obtain ⟨q, hq, rfl, hxr, hown⟩ := hrel
    obtain ⟨c, f⟩ := own_cells 0 hown rfl
    by_cases hlt : q < m.pend.length
    · obtain rfl := P3.out (by omega)
      obtain rfl := P6.out (by omega)
      obtain ⟨x1, x2, x3⟩ := hm.pend _ (pend_mem hlt)
      have c1 := (own_row_cells 2 hown rfl).1 q _ (intCells_get hlt)
      have c2 := (own_row_cells 3 hown rfl).1 q _ (whatCells_get hlt)
      have hto := take_succ_getD (0, ByteArray.empty) hlt
      have HT := Lib.hid hto
      clear hto
      generalize hx : m.pend.getD q (0, ByteArray.empty) = x at *
      clear hx
      obtain ⟨n, s⟩ := x
      dsimp only at x1 x2 x3 c1 c2
      obtain ⟨k, rfl⟩ := Int.eq_ofNat_of_zero_le x1
      obtain rfl := F3.out (by omega)
      obtain ⟨k2, k3⟩ := own_row_cells 1 hown rfl
      have hlen := foldl_setAt_length (m.pend.take q) m.fl
      generalize hfq : (m.pend.take q).foldl setAt m.fl = fq at *
      have HFQ := Lib.hid hfq
      clear hfq
      have c3 := k2 k _ (strCells_get (by omega))
      clear k2
      go_upto_region 3 with (fail)
      go_still_tail 18, (by kernel_rfl)
      change wpList _ _ _ _ _ wr.drew
      go_wp2_with fail
      go_roundw
      case rel =>
        have h5 := own_row_set 1 k (.string s) (own_drew hown) rfl (by omega)
        refine ⟨q + 1, by omega, by go_num, hxr.drew.setCell _ _, ?_⟩
        rw [HT.out, List.foldl_append, HFQ.out]
        simp only [List.foldl_cons, List.foldl_nil, setAt, Int.toNat_natCast, strCells_set]
        exact h5
      case measure => simp [intOf]; omega
    · have hq' : q = m.pend.length := by omega
      subst hq'
      go_wp2_with fail
      go_end0
      refine ⟨rfl, (hxr.setCell _ _).setCell _ _, ?_⟩
      have h5 := own_set (i := 1) (v := .slice none 0 0) 0 hown rfl
      have h5 := own_set (i := 2) (v := .slice none 0 0) 0 h5 rfl
      have h6 := own_erase 3 h5 rfl
      have h6 := own_erase 2 h6 rfl
      have h7 := own_behind [_, _] (own_row_nil 9 1 h6)
      have h7 := own_behind [_, _] (own_row_nil 3 1 h7)
      rw [List.take_length] at h7
      refine rdev_close (m := m.flush) (vf := .slice af m.fl.length cf) (va := .slice none 0 0) (vw := .slice none 0 0) ?_
      simp only [DevM.flush, foldl_setAt_length]
      exact h7
end Go.Proofs.Ytbpblokfiajpjaa
