/- A list of rows in an array's slots; what a sector may be: the plain part of TopDev. No conditions. -/
import Derived.Test.YtbpblokfiajpjaaDevLaw
import Derived.Test.YtbpblokfiajpjaaRowO
namespace Go.Proofs.Ytbpblokfiajpjaa
open Go.RowKit Go.SL

def upd {α : Type} (f : Nat → α) (k : Nat) (x : α) : Nat → α := fun j => if j = k then x else f j
theorem upd_same {α : Type} (f : Nat → α) (k : Nat) (x : α) : upd f k x k = x := if_pos rfl
theorem upd_other {α : Type} (f : Nat → α) {k j : Nat} (x : α) (h : j ≠ k) : upd f k x j = f j := if_neg h

def rowsO (n : Nat) (vs : Nat → Value) (hs : Nat → List ByteArray) : List HP := (List.range n).map fun k => rowo 9 1 (vs k) (hs k).length (strCells (hs k))
theorem rowsO_len (n : Nat) (vs : Nat → Value) (hs : Nat → List ByteArray) : (rowsO n vs hs).length = n := by simp [rowsO]
theorem rowsO_get {n : Nat} (vs : Nat → Value) (hs : Nat → List ByteArray) {k : Nat} (h : k < n) : (rowsO n vs hs)[k]? = some (rowo 9 1 (vs k) (hs k).length (strCells (hs k))) := by simp [rowsO, h]
theorem rowsO_set {n : Nat} (vs : Nat → Value) (hs : Nat → List ByteArray) {k : Nat} (v : Value) (l : List ByteArray) (_h : k < n) : (rowsO n vs hs).set k (rowo 9 1 v l.length (strCells l)) = rowsO n (upd vs k v) (upd hs k l) := by
  apply List.ext_getElem?
  intro j
  rw [List.getElem?_set]
  by_cases hj : j < n
  · rw [rowsO_get _ _ hj]
    by_cases e : k = j
    · subst e
      rw [if_pos rfl, if_pos (by rw [rowsO_len]; exact hj), rowsO_get _ _ hj, upd_same, upd_same]
    · rw [if_neg e, rowsO_get _ _ hj, upd_other _ _ (fun h => e h.symm), upd_other _ _ (fun h => e h.symm)]
  · have h1 : (rowsO n (upd vs k v) (upd hs k l))[j]? = none := List.getElem?_eq_none (by rw [rowsO_len]; omega)
    have h2 : (rowsO n vs hs)[j]? = none := List.getElem?_eq_none (by rw [rowsO_len]; omega)
    rw [h1, h2]
    split
    · rw [if_neg (by rw [rowsO_len]; omega)]
    · rfl
theorem rowsO_succ (n : Nat) (vs : Nat → Value) (hs : Nat → List ByteArray) (v : Value) (l : List ByteArray) : rowsO (n + 1) (upd vs n v) (upd hs n l) = rowsO n vs hs ++ [rowo 9 1 v l.length (strCells l)] := by
  unfold rowsO
  rw [List.range_succ, List.map_append]
  congr 1
  · apply List.map_congr_left
    intro j hj
    have : j ≠ n := by have := List.mem_range.1 hj; omega
    rw [upd_other _ _ this, upd_other _ _ this]
  · simp [upd_same]
theorem rowsO_at {n : Nat} {A : List HP} {R : List HP} (vs : Nat → Value) (hs : Nat → List ByteArray) {k : Nat} (h : k < n) : (A ++ (rowsO n vs hs ++ R))[A.length + k]? = some (rowo 9 1 (vs k) (hs k).length (strCells (hs k))) := by
  rw [List.getElem?_append_right (by omega), Nat.add_sub_cancel_left, List.getElem?_append_left (by rw [rowsO_len]; exact h)]
  exact rowsO_get vs hs h
theorem rowsO_put {n : Nat} {A : List HP} {R : List HP} (vs : Nat → Value) (hs : Nat → List ByteArray) {k : Nat} (v : Value) (l : List ByteArray) (h : k < n) :
    (A ++ (rowsO n vs hs ++ R)).set (A.length + k) (rowo 9 1 v l.length (strCells l)) = A ++ (rowsO n (upd vs k v) (upd hs k l) ++ R) := by
  rw [List.set_append_right _ _ (by omega), Nat.add_sub_cancel_left, List.set_append_left _ _ (by rw [rowsO_len]; exact h), rowsO_set vs hs v l h]

/-- the array's cells: q of them set -/
def mayArr (q : Nat) (vs : Nat → Value) : Array Value := ((List.range 20).map fun k => if k < q then vs k else .slice none 0 0).toArray
theorem mayArr_get {q : Nat} (vs : Nat → Value) {k : Nat} (h : k < 20) (hq : k < q) : (mayArr q vs)[k]? = some (vs k) := by simp [mayArr, h, hq]
theorem mayArr_fresh {q : Nat} (vs : Nat → Value) (h : q < 20) : (mayArr q vs)[q]? = some (.slice none 0 0) := by simp [mayArr, h]
theorem mayArr_init (vs : Nat → Value) : mayArr 0 vs = #[.slice none 0 0, .slice none 0 0, .slice none 0 0, .slice none 0 0, .slice none 0 0, .slice none 0 0, .slice none 0 0, .slice none 0 0, .slice none 0 0, .slice none 0 0, .slice none 0 0, .slice none 0 0, .slice none 0 0, .slice none 0 0, .slice none 0 0, .slice none 0 0, .slice none 0 0, .slice none 0 0, .slice none 0 0, .slice none 0 0] := rfl
theorem mayArr_succ {q : Nat} (vs : Nat → Value) (v : Value) : (mayArr q vs).setIfInBounds q v = mayArr (q + 1) (upd vs q v) := by
  apply Array.ext
  · simp [mayArr]
  · intro j h1 h2
    simp only [mayArr, List.setIfInBounds_toArray, List.getElem_toArray, List.getElem_set, List.getElem_map, List.getElem_range]
    by_cases e : q = j
    · subst e; simp [upd]
    · rw [if_neg e]
      have : j ≠ q := fun h => e h.symm
      by_cases hl : j < q
      · rw [if_pos hl, if_pos (by omega), upd_other _ _ this]
      · rw [if_neg hl, if_neg (by omega)]
theorem mayArr_set {q : Nat} (vs : Nat → Value) (v : Value) {k : Nat} (h : k < q) : (mayArr q vs).setIfInBounds k v = mayArr q (upd vs k v) := by
  apply Array.ext
  · simp [mayArr]
  · intro j h1 h2
    simp only [mayArr, List.setIfInBounds_toArray, List.getElem_toArray, List.getElem_set, List.getElem_map, List.getElem_range]
    by_cases e : k = j
    · subst e; simp [upd, h]
    · rw [if_neg e]
      have : j ≠ k := fun h => e h.symm
      rw [upd_other _ _ this]

/-! ### what a sector may be -/
def DevM.may (m : DevM) (k : Nat) : List ByteArray := m.fl.getD k ByteArray.empty :: ((m.pend.filter fun x => decide (x.1 = (k : Int))).map (·.2))
theorem may_pos (m : DevM) (k : Nat) : 0 < (m.may k).length := by simp [DevM.may]
theorem may_len (m : DevM) (k : Nat) : (m.may k).length ≤ m.pend.length + 1 := by
  have := List.length_filter_le (fun x : Int × ByteArray => decide (x.1 = (k : Int))) m.pend
  simp [DevM.may]; omega
theorem may_write {m : DevM} {A : Int} {S : ByteArray} (hf : m.fail = -1) (hb : m.bad A S = false) (k : Nat) : (m.write A S).2.may k = if A = (k : Int) then m.may k ++ [S] else m.may k := by
  unfold DevM.write
  rw [if_neg (by simp [hb]), if_neg (by omega)]
  unfold DevM.may
  dsimp only
  rw [List.filter_append, List.map_append]
  by_cases h : A = (k : Int)
  · simp [h]
  · simp [h]
theorem write_ok_code {m : DevM} {A : Int} {S : ByteArray} (hf : m.fail = -1) (hb : m.bad A S = false) : (m.write A S).1 = 0 ∧ (m.write A S).2.fail = -1 ∧ (m.write A S).2.fl = m.fl ∧ (m.write A S).2.pend.length = m.pend.length + 1 ∧ (m.write A S).2.writes = m.writes + 1 := by
  unfold DevM.write
  rw [if_neg (by simp [hb]), if_neg (by omega)]
  dsimp only
  refine ⟨rfl, ?_, rfl, by simp, rfl⟩
  rw [if_neg (by omega)]; exact hf
theorem write_bad_code {m : DevM} {A : Int} {S : ByteArray} (hb : m.bad A S = true) : m.write A S = (1, m) := by
  unfold DevM.write
  rw [if_pos hb]
theorem may_flushed {m : DevM} (k : Nat) (h : m.pend = []) : m.may k = [m.fl.getD k ByteArray.empty] := by simp [DevM.may, h]
theorem foldl_sel {p : List (Int × ByteArray)} {k : Int} : ∀ s : ByteArray, p.foldl (fun s x => if x.1 = k then x.2 else s) s = (s :: ((p.filter fun x => decide (x.1 = k)).map (·.2))).getLastD ByteArray.empty := by
  induction p with
  | nil => intro s; rfl
  | cons x p ih =>
    intro s
    rw [List.foldl_cons, ih]
    by_cases h : x.1 = k
    · rw [if_pos h, List.filter_cons_of_pos (by simpa using h), List.map_cons]
      rfl
    · rw [if_neg h, List.filter_cons_of_neg (by simpa using h)]
theorem may_last (m : DevM) (k : Nat) : (m.may k).getLastD ByteArray.empty = m.seen (k : Int) := by
  unfold DevM.seen DevM.may
  rw [foldl_sel]
  rfl
theorem foldl_setAt_get {p : List (Int × ByteArray)} : ∀ {f : List ByteArray} {k : Nat}, k < f.length → (∀ x ∈ p, 0 ≤ x.1) → (p.foldl setAt f).getD k ByteArray.empty = p.foldl (fun s x => if x.1 = (k : Int) then x.2 else s) (f.getD k ByteArray.empty) := by
  induction p with
  | nil => intro f k _ _; rfl
  | cons x p ih =>
    intro f k hk hp
    have h0 := hp x (by simp)
    rw [List.foldl_cons, List.foldl_cons, ih (by simpa [setAt] using hk) fun y hy => hp y (by simp [hy])]
    congr 1
    unfold setAt
    by_cases h : x.1 = (k : Int)
    · rw [if_pos h]
      have : x.1.toNat = k := by omega
      rw [this]
      simp [hk]
    · rw [if_neg h]
      have : x.1.toNat ≠ k := by omega
      rw [List.getD_eq_getElem?_getD, List.getElem?_set, if_neg this, List.getD_eq_getElem?_getD]
theorem flush_get {m : DevM} (hm : m.Ok) {k : Nat} (hk : k < m.fl.length) : m.flush.fl.getD k ByteArray.empty = m.seen (k : Int) := by
  unfold DevM.flush DevM.seen
  exact foldl_setAt_get hk fun x hx => (hm.pend x hx).1
theorem may_flush {m : DevM} (hm : m.Ok) {k : Nat} (hk : k < m.fl.length) : m.flush.may k = [(m.may k).getLastD ByteArray.empty] := by
  rw [may_flushed k rfl, may_last, flush_get hm hk]
theorem sel_mem {p : List (Int × ByteArray)} {k : Int} (s : ByteArray) : p.foldl (fun s x => if x.1 = k then x.2 else s) s ∈ s :: ((p.filter fun x => decide (x.1 = k)).map (·.2)) := by
  rw [foldl_sel]
  have : ∀ (l : List ByteArray) (a : ByteArray), l.getLastD a ∈ a :: l := fun l => by
    induction l with
    | nil => intro a; simp
    | cons b l ih => intro a; rw [List.getLastD_cons]; exact List.mem_cons_of_mem _ (ih b)
  rw [List.getLastD_cons]
  exact this _ _
theorem kept_filter {p : List (Int × ByteArray)} {ks : List Bool} {x : Int × ByteArray} (h : x ∈ keptOnes p ks) : x ∈ p := keptOnes_mem h
theorem crash_seen {m : DevM} (hm : m.Ok) (ks : List Bool) {k : Nat} (hk : k < m.fl.length) : (m.crash ks).seen (k : Int) ∈ m.may k := by
  have e : (m.crash ks).seen (k : Int) = ((keptOnes m.pend ks).foldl setAt m.fl).getD k ByteArray.empty := rfl
  rw [e, foldl_setAt_get hk fun x hx => (hm.pend x (kept_filter hx)).1]
  have := sel_mem (p := keptOnes m.pend ks) (k := (k : Int)) (m.fl.getD k ByteArray.empty)
  unfold DevM.may
  rcases List.mem_cons.1 this with h | h
  · rw [h]; simp
  · refine List.mem_cons_of_mem _ ?_
    obtain ⟨x, hx, hxe⟩ := List.mem_map.1 h
    obtain ⟨h1, h2⟩ := List.mem_filter.1 hx
    exact List.mem_map.2 ⟨x, List.mem_filter.2 ⟨kept_filter h1, h2⟩, hxe⟩
theorem crash_none (m : DevM) : (m.crash []).fl = m.fl := by
  have : ∀ p : List (Int × ByteArray), keptOnes p [] = [] := fun p => by cases p <;> rfl
  unfold DevM.crash
  rw [this]
  rfl
theorem crash_flushed (m : DevM) (ks : List Bool) : (m.flush.crash ks).fl = m.flush.fl := by
  have : keptOnes [] ks = [] := by cases ks <;> rfl
  unfold DevM.crash
  rw [show m.flush.pend = [] from rfl, this]
  rfl
theorem newDev_may {n k : Nat} (h : k < n) : (newDev n).may k = [sect0] := by
  rw [may_flushed k rfl]
  simp [newDev, h]
theorem getLastD_getD {l : List ByteArray} (h : 0 < l.length) : l.getLastD ByteArray.empty = l.getD (l.length - 1) ByteArray.empty := by
  rw [List.getLastD_eq_getLast?, List.getLast?_eq_getElem?, List.getD_eq_getElem?_getD]
end Go.Proofs.Ytbpblokfiajpjaa
