/- Tables: how many rows, one row written, the document's entry. No conditions. -/
import Derived.Test.YtbpblokfiajpjaaShape5
namespace Go.Proofs.Ytbpblokfiajpjaa
open Go.RowKit Go.SL Go.Crc
attribute [local go_sem ↓] Go.wp_at_zero Go.wp_at_succ

abbrev Ent := Int × Int
def entOk (e : Ent) (p : Int) : Bool := if e.1 = 2 then decide (0 ≤ e.2) && decide (e.2 < p) else (decide (e.1 = 0) || decide (e.1 = 1)) && decide (e.2 = 0)
def rowsN (n : Nat) : Nat := (n + 7) / 8
def entsAt (w : World) (v : Value) (l : List Ent) : Prop :=
  SlAt v l.length (fun b off i => w.cell? ⟨b, off + i * 2, none⟩ = some (.int .i64 (l.getD i (0, 0)).1) ∧ w.cell? ⟨b, off + i * 2 + 1, none⟩ = some (.int .i64 (l.getD i (0, 0)).2))
theorem entsAt.later {w w' : World} {v : Value} {l : List Ent} (h : entsAt w v l) {L : List HP} (k : Nat) (H : own w' L) (hk : L[k]? = some (exactly w)) : entsAt w' v l :=
  SlAt.later h fun _ _ _ h => ⟨rd_later k H hk h.1, rd_later k H hk h.2⟩

set_option maxRecDepth 100000 in
set_option maxHeartbeats 400000 in
theorem rows_any (n : Nat) (hn : n ≤ 1000000) (w : World) : Calls Try.prog 38 #[.int .i64 n] w fun e w' => e = .returned (.int .i64 (rowsN n : Nat)) ∧ w = w' := by
  go_enter Try.func38, Try.ntmps38
  go_wp2_with fail
  go_ret
  exact ⟨ret_int (by unfold rowsN; omega), rfl⟩

set_option maxRecDepth 100000 in
set_option maxHeartbeats 400000 in
theorem rrows_any (n : Nat) (hn : n ≤ 1000000) (w : World) : Calls Try.prog 39 #[.int .i64 n] w fun e w' => e = .returned (.int .i64 (rowsN n : Nat)) ∧ w = w' := by
  go_enter Try.func39, Try.ntmps39
  go_wp2_with fail
  go_loop [3] (fun i => ∃ k : Nat, i = .int .i64 k ∧ 8 * k < n + 8 ) (fun i => n + 8 - (intOf i).toNat)
  case atStart => exact ⟨0, rfl, by omega⟩
  case round =>
    obtain ⟨k, rfl, hk⟩ := hrel
    by_cases hlt : 8 * k < n
    · go_wp2_with fail
      go_round
      case rel => exact ⟨k + 1, by go_num, by omega⟩
      case measure => simp [intOf]; omega
    · go_wp2_with fail
      go_ret
      exact ⟨ret_int (by unfold rowsN; omega), rfl⟩

set_option maxRecDepth 100000 in
set_option maxHeartbeats 1000000 in
theorem entry_any (a b p : Int) (R : List SL.HP) (w : World) (H : own w R) :
    Calls Try.prog 81 #[.agg #[.int .i64 a, .int .i64 b], .int .i64 p] w fun e w' => e = .returned (.bool (entOk (a, b) p)) ∧ Ext w w' ∧ own w' R := by
  have ha := own_alloc H (.cells #[.int .i64 a, .int .i64 b] 64)
  obtain ⟨cc, ff⟩ := own_cells 0 ha rfl
  by_cases h2 : a = 2
  · subst h2
    have e : entOk (2, b) p = (decide (0 ≤ b) && decide (b < p)) := rfl
    rw [e]
    clear e
    by_cases hb : 0 ≤ b
    · rw [decide_eq_true hb]
      go_enter Try.func81, Try.ntmps81
      go_wp2_with fail
      all_goals go_ret
      all_goals exact ⟨ret_bool (by simp), (Ext.refl _).alloc _, own_drop ha⟩
    · rw [decide_eq_false hb]
      go_enter Try.func81, Try.ntmps81
      go_wp2_with fail
      all_goals go_ret
      all_goals exact ⟨ret_bool (by simp), (Ext.refl _).alloc _, own_drop ha⟩
  · have e : entOk (a, b) p = ((decide (a = 0) || decide (a = 1)) && decide (b = 0)) := if_neg h2
    rw [e]
    clear e
    have t2 : (a == 2) = false := beq_eq_false_iff_ne.2 h2
    clear h2
    by_cases h0 : a = 0
    · subst h0
      clear t2
      go_enter Try.func81, Try.ntmps81
      go_wp2_with fail
      all_goals go_ret
      all_goals exact ⟨ret_bool (by rw [Bool.eq_iff_iff]; simp), (Ext.refl _).alloc _, own_drop ha⟩
    · have t0 : (a == 0) = false := beq_eq_false_iff_ne.2 h0
      by_cases h1 : a = 1
      · subst h1
        clear t2 t0 h0
        go_enter Try.func81, Try.ntmps81
        go_wp2_with fail
        all_goals go_ret
        all_goals exact ⟨ret_bool (by rw [Bool.eq_iff_iff]; simp), (Ext.refl _).alloc _, own_drop ha⟩
      · have t1 : (a == 1) = false := beq_eq_false_iff_ne.2 h1
        have e : ((decide (a = 0) || decide (a = 1)) && decide (b = 0)) = false := by simp [h0, h1]
        rw [e]
        clear h0 h1 e
        go_enter Try.func81, Try.ntmps81
        go_wp2_with fail
        all_goals go_ret
        all_goals exact ⟨rfl, (Ext.refl _).alloc _, own_drop ha⟩
end Go.Proofs.Ytbpblokfiajpjaa
