/- Tables read back by the program. No conditions. -/
import Derived.Test.YtbpblokfiajpjabGreatPk5c524e2f17
import Derived.Test.YtbpblokfiajpjabGreatProg
namespace Go.Proofs.YtbpblokfiajpjabGreat
open Go.RowKit Go.SL Go.Crc
attribute [local go_sem ↓] Go.wp_at_zero Go.wp_at_succ

theorem elem_bool' : Elem Tryz.prog 4 1 1 (.bool false) := by unfold Elem; kernel_rfl
def usedCells (t : List Ent) : List Value := (List.range 40).map fun (q : Nat) => Value.bool (t.contains ((2, (q : Int)) : Ent))
theorem usedCells_len (t : List Ent) : (usedCells t).length = 40 := by simp [usedCells]
theorem usedCells_get (t : List Ent) {q : Nat} (h : q < 40) : (usedCells t)[q]? = some (.bool (t.contains ((2, (q : Int)) : Ent))) := by simp [usedCells, h]
theorem usedCells_add (t : List Ent) {q : Nat} (h : q < 40) : usedCells (t ++ [(2, (q : Int))]) = (usedCells t).set q (.bool true) := by
  apply List.ext_getElem?
  intro j
  rw [List.getElem?_set]
  by_cases hj : j < 40
  · rw [usedCells_get _ hj]
    by_cases e : q = j
    · subst e; rw [if_pos rfl, if_pos (by rw [usedCells_len]; exact h)]; simp
    · rw [if_neg e, usedCells_get _ hj, List.contains_append]
      congr 2
      have : ((2, (j : Int)) : Ent) ≠ (2, (q : Int)) := fun h => e (by have := (Prod.mk.inj h).2; omega)
      simp [List.contains_cons, this]
  · have h1 : (usedCells (t ++ [(2, (q : Int))]))[j]? = none := List.getElem?_eq_none (by rw [usedCells_len]; omega)
    have h2 : (usedCells t)[j]? = none := List.getElem?_eq_none (by rw [usedCells_len]; omega)
    rw [h1, h2]
    split
    · omega
    · rfl
theorem usedCells_other (t : List Ent) {e : Ent} (h : e.1 ≠ 2) : usedCells (t ++ [e]) = usedCells t := by
  unfold usedCells
  apply List.map_congr_left
  intro q _
  rw [List.contains_append]
  have : ((2, (q : Int)) : Ent) ≠ e := fun h' => h (by rw [← h'])
  simp [List.contains_cons, this]
theorem usedCells_nil : usedCells [] = List.replicate 40 (.bool false) := rfl
theorem bad_A {P x y : Int} {t : List Ent} (h : 2 < x) : tabBad P t (x, y) = true := by
  unfold tabBad entOk; simp [show x ≠ 2 by omega, show x ≠ 0 by omega, show x ≠ 1 by omega]
theorem bad_B {P x y : Int} {t : List Ent} (h : x < 2) (hy : 0 < y) : tabBad P t (x, y) = true := by
  unfold tabBad entOk; simp [show x ≠ 2 by omega, show y ≠ 0 by omega]
theorem bad_C {P x : Int} {t : List Ent} (h0 : 0 ≤ x) (h : x < 2) : tabBad P t (x, 0) = false := by
  unfold tabBad entOk; simp [show x ≠ 2 by omega]; omega
theorem bad_D {P y : Int} {t : List Ent} (h : P ≤ y) : tabBad P t (2, y) = true := by
  unfold tabBad entOk; simp; omega
theorem bad_E {P y : Int} {t : List Ent} (h0 : 0 ≤ y) (h : y < P) : tabBad P t (2, y) = t.contains (2, y) := by
  unfold tabBad entOk; simp [h0, h]

def ptabOut (C : Nat) (P : Int) (vu : Value) (rows : List ByteArray) (T : List Ent) (F : Int) (R : List SL.HP) (w0 : World) (vt vi : Value) (wr : World) : Prop :=
  ∃ (i : Nat) (t : List Ent), i ≤ rows.length ∧ vi = .int .i64 i ∧ t.length = min C (8 * i) ∧ tabRows C P t (rows.drop i) = (T, F) ∧ Ext w0 wr ∧ own wr (row 107 2 vt t.length (entCells t) :: row 4 1 vu 40 (usedCells t) :: R)
def ptabIn (C : Nat) (P : Int) (vu : Value) (s : ByteArray) (i : Nat) (r0 : Option (List Ent)) (R : List SL.HP) (w0 : World) (vt vk : Value) (wr : World) : Prop :=
  ∃ (k : Nat) (t : List Ent), k ≤ 8 ∧ vk = .int .i64 (2 * k : Nat) ∧ t.length = min C (8 * i + k) ∧ tabRow C P t ((sEnts s).drop k) = r0 ∧ Ext w0 wr ∧ own wr (row 107 2 vt t.length (entCells t) :: row 4 1 vu 40 (usedCells t) :: R)

end Go.Proofs.YtbpblokfiajpjabGreat
