/- A small separation logic over the model's heap: assertions on parts of the heap, their separating product over a list, and how new blocks, stores and draws turn them. No conditions. -/
import Derived.WalkKit
import Derived.Deep.Quiet
namespace Go.SL
open Go.RowKit

abbrev Hp := Nat → Option Obj
abbrev HP := Hp → Prop

def hpOf (w : World) : Hp := fun b => w.heap[b]?

def emp : HP := fun h => ∀ b, h b = none
def pts (b : Nat) (o : Obj) : HP := fun h => h b = some o ∧ ∀ c, c ≠ b → h c = none
def sep (P Q : HP) : HP := fun h => ∃ h1 h2 : Hp, (∀ b, (h1 b = none ∧ h2 b = h b) ∨ (h2 b = none ∧ h1 b = h b)) ∧ P h1 ∧ Q h2
def star : List HP → HP
  | [] => emp
  | P :: l => sep P (star l)
def exi {α : Type} (P : α → HP) : HP := fun h => ∃ x, P x h
def fact (p : Prop) : HP := fun h => p ∧ emp h
/-- a part of the world meets the list; of the rest nothing is said -/
def own (w : World) (l : List HP) : Prop := ∃ h : Hp, (∀ b, h b = none ∨ h b = hpOf w b) ∧ star l h

theorem sep_mono {P Q P' Q' : HP} {h : Hp} (hp : ∀ h, P h → P' h) (hq : ∀ h, Q h → Q' h) (H : sep P Q h) : sep P' Q' h :=
  let ⟨h1, h2, a, b, c⟩ := H; ⟨h1, h2, a, hp _ b, hq _ c⟩

theorem sep_comm {P Q : HP} {h : Hp} (H : sep P Q h) : sep Q P h :=
  let ⟨h1, h2, a, b, c⟩ := H; ⟨h2, h1, fun x => (a x).symm, c, b⟩

theorem sep_assoc {P Q R : HP} {h : Hp} (H : sep (sep P Q) R h) : sep P (sep Q R) h := by
  obtain ⟨h12, h3, a, ⟨h1, h2, b, p, q⟩, r⟩ := H
  refine ⟨h1, fun x => (h2 x).orElse fun _ => h3 x, fun x => ?_, p, h2, h3, fun x => ?_, q, r⟩
  · rcases a x with ⟨a1, a2⟩ | ⟨a1, a2⟩ <;> rcases b x with ⟨b1, b2⟩ | ⟨b1, b2⟩ <;> simp_all
  · rcases a x with ⟨a1, a2⟩ | ⟨a1, a2⟩ <;> rcases b x with ⟨b1, b2⟩ | ⟨b1, b2⟩ <;> cases e2 : h2 x <;> simp_all

theorem sep_emp_l {P : HP} {h : Hp} (H : sep emp P h) : P h := by
  obtain ⟨h1, h2, a, b, c⟩ := H
  have : h2 = h := funext fun x => by rcases a x with ⟨_, y⟩ | ⟨y, z⟩; exact y; rw [y, ← z, b x]
  exact this ▸ c

theorem sep_emp_mk {P : HP} {h : Hp} (H : P h) : sep emp P h := ⟨fun _ => none, h, fun _ => .inl ⟨rfl, rfl⟩, fun _ => rfl, H⟩

theorem sep_swap {P Q R : HP} {h : Hp} (H : sep P (sep Q R) h) : sep Q (sep P R) h := by
  have h1 := sep_comm H
  have h2 := sep_assoc h1
  exact sep_mono (fun _ h => h) (fun _ h => sep_comm h) h2

theorem star_append_mk {l m : List HP} {h : Hp} (H : sep (star l) (star m) h) : star (l ++ m) h := by
  induction l generalizing h with
  | nil => exact sep_emp_l H
  | cons P l ih => exact sep_mono (fun _ h => h) (fun _ h => ih h) (sep_assoc H)

theorem star_append {l m : List HP} {h : Hp} (H : star (l ++ m) h) : sep (star l) (star m) h := by
  induction l generalizing h with
  | nil => exact sep_emp_mk H
  | cons P l ih =>
    have h1 := sep_mono (fun _ h => h) (fun _ h => ih h) H
    obtain ⟨ha, hb, a, b, hc, hd, c, d, e⟩ := h1
    have := sep_comm (sep_assoc (sep_comm (P := P) (Q := sep (star l) (star m)) (h := h) ⟨ha, hb, a, b, hc, hd, c, d, e⟩ |> sep_mono (fun _ h => sep_comm h) (fun _ h => h)))
    exact sep_mono (fun _ h => sep_comm h) (fun _ h => h) (sep_comm (sep_mono (fun _ h => h) (fun _ h => h) (sep_comm this)))

/-- the k-th goes to the head -/
theorem star_pick {l : List HP} (k : Nat) {P : HP} {h : Hp} (hk : l[k]? = some P) (H : star l h) : star (P :: l.eraseIdx k) h := by
  induction l generalizing k h with
  | nil => simp at hk
  | cons Q l ih =>
    cases k with
    | zero => simp at hk; subst hk; exact H
    | succ k =>
      simp only [List.getElem?_cons_succ] at hk
      exact sep_swap (sep_mono (fun _ h => h) (fun _ h => ih k hk h) H)

theorem star_unpick {l : List HP} (k : Nat) {P : HP} {h : Hp} (hk : l[k]? = some P) (H : star (P :: l.eraseIdx k) h) : star l h := by
  induction l generalizing k h with
  | nil => simp at hk
  | cons Q l ih =>
    cases k with
    | zero => simp at hk; subst hk; exact H
    | succ k =>
      simp only [List.getElem?_cons_succ] at hk
      exact sep_mono (fun _ h => h) (fun _ h => ih k hk h) (sep_swap H)

theorem star_perm {l m : List HP} (p : l.Perm m) {h : Hp} (H : star l h) : star m h := by
  induction p generalizing h with
  | nil => exact H
  | cons x _ ih => exact sep_mono (fun _ h => h) (fun _ h => ih h) H
  | swap x y l => exact sep_swap H
  | trans _ _ ih1 ih2 => exact ih2 (ih1 H)

theorem hp_some {w : World} {b : Nat} {o : Obj} (h : hpOf w b = some o) : b < w.heap.size := by
  rcases Nat.lt_or_ge b w.heap.size with h' | h'
  · exact h'
  · simp [hpOf, Array.getElem?_eq_none h'] at h

theorem sep_head {P Q : HP} {h : Hp} {b : Nat} {o : Obj} (H : sep P Q h) (hp : ∀ h, P h → h b = some o) : h b = some o := by
  obtain ⟨h1, h2, a, p, q⟩ := H
  have e := hp _ p
  rcases a b with ⟨x, y⟩ | ⟨x, y⟩
  · rw [e] at x; cases x
  · rw [← y, e]

theorem own_at {w : World} {l : List HP} (k : Nat) {b : Nat} {o : Obj} (H : own w l) (hk : l[k]? = some (pts b o)) : w.heap[b]? = some o := by
  obtain ⟨h, hs, H⟩ := H
  have e := sep_head (star_pick k hk H) fun _ h => h.1
  rcases hs b with x | x
  · rw [e] at x; cases x
  · rw [e] at x; exact x.symm

theorem own_lt {w : World} {l : List HP} (k : Nat) {b : Nat} {o : Obj} (H : own w l) (hk : l[k]? = some (pts b o)) : b < w.heap.size := hp_some (own_at k H hk)

/-- what may be read of a block of cells that is not frozen -/
theorem own_cells {w : World} {l : List HP} (k : Nat) {b : Nat} {arr : Array Value} {T : TypeId} (H : own w l) (hk : l[k]? = some (pts b (.cells arr T (0, 0)))) :
    (∀ o, w.cell? ⟨b, o, none⟩ = arr[o]?) ∧ (∀ o, w.frozen? ⟨b, o, none⟩ = false) := by
  have h := own_at k H hk
  exact ⟨fun o => by simp [World.cell?, h], fun o => by simp [World.frozen?, h]⟩

theorem sep_upd {b : Nat} {o o' : Obj} {Q : HP} {h : Hp} (H : sep (pts b o) Q h) : sep (pts b o') Q (fun c => if c = b then some o' else h c) := by
  obtain ⟨h1, h2, a, p, q⟩ := H
  refine ⟨fun c => if c = b then some o' else none, h2, fun c => ?_, ⟨by simp, fun c hc => by simp [hc]⟩, q⟩
  by_cases hc : c = b
  · subst hc
    rcases a c with ⟨x, y⟩ | ⟨x, y⟩
    · rw [p.1] at x; cases x
    · exact .inr ⟨x, by simp⟩
  · rcases a c with ⟨x, y⟩ | ⟨x, y⟩
    · exact .inl ⟨by simp [hc], by simp [hc, y]⟩
    · exact .inl ⟨by simp [hc], by simp [hc]; rw [x, ← y, p.2 c hc]⟩

theorem star_set {l : List HP} (k : Nat) {b : Nat} {o o' : Obj} {h : Hp} (H : star l h) (hk : l[k]? = some (pts b o)) : star (l.set k (pts b o')) (fun c => if c = b then some o' else h c) := by
  have h1 := sep_upd (o' := o') (star_pick k hk H)
  refine star_unpick k (P := pts b o') ?_ ?_
  · have := (List.getElem?_eq_some_iff.1 hk).1
    simp [this]
  · have e : (l.set k (pts b o')).eraseIdx k = l.eraseIdx k := by
      rw [List.eraseIdx_set_eq]
    rw [e]; exact h1

theorem hp_setCell {w : World} {b i : Nat} {v : Value} {arr : Array Value} {T : TypeId} {fr : Nat × Nat} (h : w.heap[b]? = some (.cells arr T fr)) :
    hpOf (w.setCell ⟨b, i, none⟩ v) = fun c => if c = b then some (.cells (arr.setIfInBounds i v) T fr) else hpOf w c := by
  funext c
  simp only [hpOf, World.setCell, Array.getElem?_modify]
  by_cases hc : c = b
  · subst hc; simp [h]
  · have hc' : ¬ b = c := fun e => hc e.symm
    simp [hc, hc']

theorem own_upd {w w' : World} {l : List HP} (k : Nat) {b : Nat} {o o' : Obj} (H : own w l) (hk : l[k]? = some (pts b o)) (hw : hpOf w' = fun c => if c = b then some o' else hpOf w c) :
    own w' (l.set k (pts b o')) := by
  obtain ⟨h, hs, H⟩ := H
  refine ⟨_, fun c => ?_, star_set k (o' := o') H hk⟩
  rw [hw]
  by_cases hc : c = b
  · simp [hc]
  · simp only [hc, if_false]; exact hs c

theorem own_set {w : World} {l : List HP} (k : Nat) {b i : Nat} {v : Value} {arr : Array Value} {T : TypeId} {fr : Nat × Nat} (H : own w l) (hk : l[k]? = some (pts b (.cells arr T fr))) :
    own (w.setCell ⟨b, i, none⟩ v) (l.set k (pts b (.cells (arr.setIfInBounds i v) T fr))) :=
  own_upd k H hk (hp_setCell (own_at k H hk))

theorem hp_alloc (w : World) (o : Obj) : hpOf (w.alloc o) = fun c => if c = w.heap.size then some o else hpOf w c := by
  funext c
  show (w.heap.push o)[c]? = _
  rw [Array.getElem?_push]; rfl

theorem own_alloc {w : World} {l : List HP} (H : own w l) (o : Obj) : own (w.alloc o) (pts w.heap.size o :: l) := by
  obtain ⟨h, hs, H⟩ := H
  have hn : h w.heap.size = none := by
    rcases hs w.heap.size with x | x
    · exact x
    · rw [x]; simp [hpOf]
  refine ⟨fun c => if c = w.heap.size then some o else h c, fun c => ?_, fun c => if c = w.heap.size then some o else none, h, fun c => ?_, ⟨by simp, fun c hc => by simp [hc]⟩, H⟩
  · rw [hp_alloc]
    by_cases hc : c = w.heap.size
    · simp [hc]
    · simp only [hc, if_false]; exact hs c
  · by_cases hc : c = w.heap.size
    · subst hc; exact .inr ⟨hn, by simp⟩
    · exact .inl ⟨by simp [hc], by simp [hc]⟩

theorem own_drew {w : World} {l : List HP} (H : own w l) : own w.drew l := H
theorem own_drewN {w : World} {l : List HP} (n : Nat) (H : own w l) : own (w.drewN n) l := H

/-- the rest of the world: what every run of ours leaves -/
structure Ext (w w' : World) : Prop where
  os : w'.os = w.os
  tape : w'.tape = w.tape
  output : w'.output = w.output
  size : w.heap.size ≤ w'.heap.size
theorem Ext.refl (w : World) : Ext w w := ⟨rfl, rfl, rfl, Nat.le_refl _⟩
theorem Ext.trans {a b c : World} (h : Ext a b) (k : Ext b c) : Ext a c := ⟨k.os.trans h.os, k.tape.trans h.tape, k.output.trans h.output, Nat.le_trans h.size k.size⟩
theorem Ext.setCell {a w : World} (h : Ext a w) (p : Addr) (v : Value) : Ext a (w.setCell p v) := h.trans ⟨rfl, rfl, rfl, by simp [World.setCell]⟩
theorem Ext.alloc {a w : World} (h : Ext a w) (o : Obj) : Ext a (w.alloc o) := h.trans ⟨rfl, rfl, rfl, by simp⟩
theorem Ext.drew {a w : World} (h : Ext a w) : Ext a w.drew := h.trans ⟨rfl, rfl, rfl, Nat.le_refl _⟩
theorem Ext.drewN {a w : World} (n : Nat) (h : Ext a w) : Ext a (w.drewN n) := h.trans ⟨rfl, rfl, rfl, Nat.le_refl _⟩

/-- all that there is in a world, to the letter -/
def exactly (w : World) : HP := fun h => h = hpOf w
theorem own_exactly (w : World) : own w [exactly w] :=
  ⟨hpOf w, fun _ => .inr rfl, hpOf w, fun _ => none, fun b => .inr ⟨rfl, rfl⟩, rfl, fun _ => rfl⟩

theorem own_old {w w' : World} {l : List HP} (k : Nat) (H : own w' l) (hk : l[k]? = some (exactly w)) : ∀ b, b < w.heap.size → w'.heap[b]? = w.heap[b]? := by
  intro b hb
  obtain ⟨h, hs, H⟩ := H
  obtain ⟨h1, h2, a, p, _⟩ := star_pick k hk H
  have hb1 : h1 b ≠ none := by rw [p]; simp [hpOf, hb]
  have e : h b = hpOf w b := by
    rcases a b with ⟨x, y⟩ | ⟨x, y⟩
    · exact (hb1 x).elim
    · rw [p] at y; exact y.symm
  have hn : h b ≠ none := by rw [e]; simp [hpOf, hb]
  rcases hs b with x | x
  · exact (hn x).elim
  · exact (x.symm.trans e)

theorem below_of {w w' : World} {l : List HP} (k : Nat) (H : own w' l) (hk : l[k]? = some (exactly w)) (e : Ext w w') : Below w.heap.size w w' :=
  ⟨e.os, e.tape, e.output, e.size, own_old k H hk⟩

theorem own_mono {w : World} {l m : List HP} (hl : ∀ h, star l h → star m h) (H : own w l) : own w m :=
  let ⟨h, hs, H⟩ := H; ⟨h, hs, hl _ H⟩

theorem own_pick {w : World} {l : List HP} (k : Nat) {P : HP} (H : own w l) (hk : l[k]? = some P) : own w (P :: l.eraseIdx k) := own_mono (fun _ => star_pick k hk) H

theorem own_drop {w : World} {P : HP} {l : List HP} (H : own w (P :: l)) : own w l := by
  obtain ⟨h, hs, h1, h2, a, _, q⟩ := H
  refine ⟨h2, fun b => ?_, q⟩
  rcases a b with ⟨_, y⟩ | ⟨y, _⟩
  · rw [y]; exact hs b
  · exact .inl y

theorem own_erase {w : World} {l : List HP} (k : Nat) {P : HP} (H : own w l) (hk : l[k]? = some P) : own w (l.eraseIdx k) := own_drop (own_pick k H hk)

/-- the assertion at place k is another's consequence -/
theorem own_weak {w : World} {l : List HP} (k : Nat) {P Q : HP} (hP : ∀ h, P h → Q h) (H : own w l) (hk : l[k]? = some P) : own w (l.set k Q) := by
  have h1 := own_pick k H hk
  have h2 : own w (Q :: l.eraseIdx k) := own_mono (l := P :: l.eraseIdx k) (fun _ h => sep_mono hP (fun _ h => h) h) h1
  refine own_mono (fun h hh => star_unpick k (P := Q) ?_ ?_) h2
  · have := (List.getElem?_eq_some_iff.1 hk).1
    simp [this]
  · rw [List.eraseIdx_set_eq]; exact hh

theorem own_open {w : World} {l : List HP} (k : Nat) {P : HP} {α : Sort _} {L : α → List HP} (H : own w l) (hk : l[k]? = some P) (hP : ∀ h, P h → ∃ x, star (L x) h) : ∃ x, own w (L x ++ l.eraseIdx k) := by
  obtain ⟨h, hs, h1, h2, a, p, q⟩ := own_pick k H hk
  obtain ⟨x, hx⟩ := hP _ p
  exact ⟨x, h, hs, star_append_mk ⟨h1, h2, a, hx, q⟩⟩

theorem own_close {w : World} (l : List HP) {m : List HP} {P : HP} (hP : ∀ h, star l h → P h) (H : own w (l ++ m)) : own w (P :: m) :=
  own_mono (fun _ h => sep_mono hP (fun _ h => h) (star_append h)) H

/-- a new order: the list of old places -/
theorem own_order {w : World} {l : List HP} (idx : List Nat) {m : List HP} (n : Nat) (H : own w l) (hn : l.length = n) (hp : idx.Perm (List.range n)) (hm : m = idx.map fun i => l.getD i emp) : own w m := by
  subst hm
  subst hn
  refine own_mono (fun _ => star_perm ?_) H
  have e : l = (List.range l.length).map fun i => l.getD i emp := by
    apply List.ext_getElem
    · simp
    · intro i h1 h2; simp [h1]
  have := (hp.map fun i => l.getD i emp).symm
  rw [← e] at this
  exact this

/-- what was picked from place k, put back there, turned -/
theorem own_put {w w0 : World} {l : List HP} (_H0 : own w0 l) (k : Nat) {P Q : HP} (hk : l[k]? = some P) (H : own w (Q :: l.eraseIdx k)) : own w (l.set k Q) := by
  refine own_mono (fun h hh => star_unpick k (P := Q) ?_ ?_) H
  · have := (List.getElem?_eq_some_iff.1 hk).1
    simp [this]
  · rw [List.eraseIdx_set_eq]; exact hh

/-- a star of facts that needs no memory -/
theorem own_fact_mk {w : World} {l : List HP} {p : Prop} (hp : p) (H : own w l) : own w (fact p :: l) :=
  own_mono (fun h hh => ⟨fun _ => none, h, fun _ => .inl ⟨rfl, rfl⟩, ⟨hp, fun _ => rfl⟩, hh⟩) H

theorem own_fact {w : World} {l : List HP} (k : Nat) {p : Prop} (H : own w l) (hk : l[k]? = some (fact p)) : p := by
  obtain ⟨h, _, h1, _, _, a, _⟩ := own_pick k H hk
  exact a.1

/-- the star of one more list -/
theorem own_star {w : World} {l m : List HP} (H : own w (star l :: m)) : own w (l ++ m) :=
  own_mono (l := star l :: m) (fun _ h => star_append_mk h) H
theorem own_star_mk {w : World} (l : List HP) {m : List HP} (H : own w (l ++ m)) : own w (star l :: m) :=
  own_mono (fun _ h => star_append h) H

/-- reading: what an assertion lets be read -/
def Rd (h : Hp) (a : Addr) (v : Value) : Prop := a.spot = none ∧ ∃ c e f, h a.block = some (.cells c e f) ∧ c[a.off]? = some v
theorem cell_of_rd {w : World} {a : Addr} {v : Value} (h : Rd (hpOf w) a v) : w.cell? a = some v := by
  obtain ⟨hs, c, e, f, hb, hc⟩ := h
  have hb' : w.heap[a.block]? = some (.cells c e f) := hb
  simp [World.cell?, hb', hs, hc]
theorem rd_of_cell {w : World} {a : Addr} {v : Value} (h : w.cell? a = some v) : Rd (hpOf w) a v := by
  unfold World.cell? at h
  split at h
  · rename_i c e f hb
    split at h
    · cases h
    · rename_i hs
      refine ⟨by cases hx : a.spot <;> simp_all, c, e, f, hb, h⟩
  · cases h
/-- what is read at the start is read later -/
theorem rd_later {w w' : World} {l : List HP} (k : Nat) (H : own w' l) (hk : l[k]? = some (exactly w)) {a : Addr} {v : Value} (h : w.cell? a = some v) : w'.cell? a = some v := by
  obtain ⟨hs, c, e, f, hb, hc⟩ := rd_of_cell h
  have hlt := hp_some hb
  exact cell_of_rd ⟨hs, c, e, f, (own_old k H hk _ hlt).trans hb, hc⟩
end Go.SL
