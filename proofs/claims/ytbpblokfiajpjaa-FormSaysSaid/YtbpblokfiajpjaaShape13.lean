/- Tables read back: the model. No conditions. -/
import Derived.Test.YtbpblokfiajpjaaShape7
import Derived.Test.YtbpblokfiajpjaaDevLaw
namespace Go.Proofs.Ytbpblokfiajpjaa
open Go.RowKit Go.SL Go.Crc
attribute [local go_sem ↓] Go.wp_at_zero Go.wp_at_succ

def tabBad (P : Int) (t : List Ent) (e : Ent) : Bool := !entOk e P || (decide (e.1 = 2) && t.contains e)
def tabRow (C : Nat) (P : Int) : List Ent → List Ent → Option (List Ent)
  | t, [] => some t
  | t, e :: l => if t.length = C then (if e = (0, 0) then tabRow C P t l else none) else if tabBad P t e then none else tabRow C P (t ++ [e]) l
def sEnt (s : ByteArray) (k : Nat) : Ent := (bt s (2 * k), bt s (2 * k + 1))
def sEnts (s : ByteArray) : List Ent := (List.range 8).map (sEnt s)
def tabRows (C : Nat) (P : Int) : List Ent → List ByteArray → List Ent × Int
  | t, [] => (t, 0)
  | t, s :: l => if s.size ≠ 16 then ([], 1) else match tabRow C P t (sEnts s) with
    | none => ([], 2)
    | some t' => tabRows C P t' l
def tableOf (c p b : Int) (rows : List ByteArray) : List Ent × Int :=
  if headBad c p b then ([], 1) else if rows.length ≠ rowsN c.toNat then ([], 1) else tabRows c.toNat p [] rows

theorem sEnts_len (s : ByteArray) : (sEnts s).length = 8 := by simp [sEnts]
theorem sEnts_drop (s : ByteArray) {k : Nat} (h : k < 8) : (sEnts s).drop k = sEnt s k :: (sEnts s).drop (k + 1) := by
  rw [List.drop_eq_getElem_cons (by rw [sEnts_len]; exact h)]
  simp [sEnts]
theorem sEnts_end (s : ByteArray) : (sEnts s).drop 8 = [] := List.drop_of_length_le (by rw [sEnts_len]; omega)
theorem drop_getD {α : Type} (d : α) {l : List α} {i : Nat} (h : i < l.length) : l.drop i = l.getD i d :: l.drop (i + 1) := by
  rw [List.drop_eq_getElem_cons h]; simp [h]

theorem tabRow_full {C : Nat} {P : Int} {t l : List Ent} (h : t.length = C) : tabRow C P t ((0, 0) :: l) = tabRow C P t l := by
  rw [tabRow, if_pos h, if_pos rfl]
theorem tabRow_fullbad {C : Nat} {P : Int} {t l : List Ent} {e : Ent} (h : t.length = C) (he : e ≠ (0, 0)) : tabRow C P t (e :: l) = none := by
  rw [tabRow, if_pos h, if_neg he]
theorem tabRow_bad {C : Nat} {P : Int} {t l : List Ent} {e : Ent} (h : t.length ≠ C) (he : tabBad P t e = true) : tabRow C P t (e :: l) = none := by
  rw [tabRow, if_neg h, if_pos he]
theorem tabRow_step {C : Nat} {P : Int} {t l : List Ent} {e : Ent} (h : t.length ≠ C) (he : tabBad P t e = false) : tabRow C P t (e :: l) = tabRow C P (t ++ [e]) l := by
  rw [tabRow, if_neg h, if_neg (by simp [he])]
theorem tabRows_short {C : Nat} {P : Int} {t : List Ent} {s : ByteArray} {l : List ByteArray} (h : s.size ≠ 16) : tabRows C P t (s :: l) = ([], 1) := by rw [tabRows, if_pos h]
theorem tabRows_none {C : Nat} {P : Int} {t : List Ent} {s : ByteArray} {l : List ByteArray} (h : s.size = 16) (hn : tabRow C P t (sEnts s) = none) : tabRows C P t (s :: l) = ([], 2) := by
  rw [tabRows, if_neg (by simpa using h), hn]
theorem tabRows_some {C : Nat} {P : Int} {t t' : List Ent} {s : ByteArray} {l : List ByteArray} (h : s.size = 16) (hn : tabRow C P t (sEnts s) = some t') : tabRows C P t (s :: l) = tabRows C P t' l := by
  rw [tabRows, if_neg (by simpa using h), hn]

def entCells (l : List Ent) : List Value := l.flatMap fun e => [.int .i64 e.1, .int .i64 e.2]
theorem entCells_len (l : List Ent) : (entCells l).length = l.length * 2 := by
  induction l with
  | nil => rfl
  | cons x l ih => simp only [entCells, List.flatMap_cons, List.length_append, List.length_cons, List.length_nil] at ih ⊢; omega
theorem entCells_append (l m : List Ent) : entCells (l ++ m) = entCells l ++ entCells m := by simp [entCells]
theorem entCells_get {l : List Ent} : ∀ {i : Nat}, i < l.length → (entCells l)[i * 2]? = some (.int .i64 (l.getD i (0, 0)).1) ∧ (entCells l)[i * 2 + 1]? = some (.int .i64 (l.getD i (0, 0)).2) := by
  induction l with
  | nil => intro i h; simp at h
  | cons x l ih =>
    intro i h
    cases i with
    | zero => simp [entCells]
    | succ i =>
      have := ih (i := i) (by simpa using h)
      simp only [entCells, List.flatMap_cons] at this ⊢
      have e : (i + 1) * 2 = i * 2 + 2 := by omega
      rw [e]
      simpa using this
theorem two_ints (a b : Int) : ∀ u ∈ [Value.int .i64 a, Value.int .i64 b], u.oneCell' = true := fun u hu => by simp at hu; rcases hu with rfl | rfl <;> rfl
theorem elem_entry : Elem Try.prog 64 2 16 (.agg #[.int .i64 0, .int .i64 0]) := by unfold Elem; kernel_rfl

/-- all entries of a table that was read may be -/
def tabAll (C : Nat) (P : Int) (t : List Ent) : Prop := t.length ≤ C ∧ (∀ e ∈ t, entOk e P = true) ∧ (∀ i j, i < t.length → j < t.length → (t.getD i (0, 0)).1 = 2 → t.getD i (0, 0) = t.getD j (0, 0) → i = j)
theorem StrsAt.cells {w : World} {b off n cap : Nat} {l : List ByteArray} (h : StrsAt w (.slice (some ⟨b, off, none⟩) n cap) l) {i : Nat} (hi : i < l.length) : w.cell? ⟨b, off + i, none⟩ = some (.string (l.getD i ByteArray.empty)) := by
  obtain ⟨⟨ao, b', off', cap', hv, h1, h2, h3, h4⟩, _⟩ := h
  simp only [Value.slice.injEq] at hv
  have h5 := h3 (by omega)
  rw [← hv.1] at h5
  simp only [Option.some.injEq, Addr.mk.injEq, and_true] at h5
  obtain ⟨rfl, rfl⟩ := h5
  exact h4 i hi
end Go.Proofs.Ytbpblokfiajpjaa
