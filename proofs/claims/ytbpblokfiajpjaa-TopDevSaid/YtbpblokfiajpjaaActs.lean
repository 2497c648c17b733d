/- What a law's arguments hold: a list of acts, read and never written; LightActs answers what it should. No conditions. -/
import Derived.Test.YtbpblokfiajpjaaProg
import Derived.Test.YtbpblokfiajpjaaSL
import Derived.Deep.Slices
import Derived.Deep.Fields
import Derived.ProofKit
import Derived.OpenShut
import Derived.WalkLawsBesides
namespace Go.Proofs.Ytbpblokfiajpjaa
open Go.RowKit Go.SL Go.Deep Go.ChangeShapes Go.WideShapes

/-- a slice that is read: element i lies at its address, i times its size on -/
def SlAt (v : Value) (n : Nat) (at_ : Nat → Nat → Nat → Prop) : Prop :=
  ∃ (ao : Option Addr) (b off cap : Nat), v = .slice ao n cap ∧ n ≤ cap ∧ cap ≤ 9223372036854775807 ∧ (0 < n → ao = some ⟨b, off, none⟩) ∧ ∀ i, i < n → at_ b off i

def BoolsAt (w : World) (v : Value) (ks : List Bool) : Prop :=
  SlAt v ks.length fun b off i => w.cell? ⟨b, off + i, none⟩ = some (.bool (ks.getD i false))

structure Act where
  kind : ByteArray
  A : Int
  B : Int
  C : Int
  D : Int
  S : ByteArray
  kv : Value
  keep : List Bool

def i64ok (n : Int) : Prop := -9223372036854775808 ≤ n ∧ n ≤ 9223372036854775807

def ActCells (w : World) (b o : Nat) (a : Act) : Prop :=
  w.cell? ⟨b, o, none⟩ = some (.string a.kind) ∧ w.cell? ⟨b, o + 1, none⟩ = some (.int .i64 a.A) ∧ w.cell? ⟨b, o + 2, none⟩ = some (.int .i64 a.B) ∧ w.cell? ⟨b, o + 3, none⟩ = some (.int .i64 a.C) ∧
  w.cell? ⟨b, o + 4, none⟩ = some (.int .i64 a.D) ∧ w.cell? ⟨b, o + 5, none⟩ = some (.string a.S) ∧ w.cell? ⟨b, o + 6, none⟩ = some a.kv

structure ActOk (w : World) (a : Act) : Prop where
  A : i64ok a.A
  B : i64ok a.B
  C : i64ok a.C
  D : i64ok a.D
  K : a.kind.size ≤ 9223372036854775807
  S : a.S.size ≤ 9223372036854775807
  keep : BoolsAt w a.kv a.keep

def actNone : Act := ⟨ByteArray.empty, 0, 0, 0, 0, ByteArray.empty, .slice none 0 0, []⟩
def ActsAt (w : World) (v : Value) (l : List Act) : Prop :=
  SlAt v l.length (fun b off i => ActCells w b (off + i * 7) (l.getD i actNone)) ∧ ∀ a ∈ l, ActOk w a

theorem wf_i64ok {n : Int} (h : (Lit.int .i64 n).wf = true) : i64ok n := by
  simpa [Lit.wf, IntKind.min, IntKind.max, IntKind.signed, IntKind.bits, i64ok] using h

section
variable {H : Type} {enc : TypeId × Value → H} {w : World} {base : Nat} {spare : Nat → Bool} {held : Bool}

theorem add_spot {a : Addr} {i : Nat} {v : Value} (h : w.cell? (a.add i) = some v) : ∃ b o, a.add i = ⟨b, o, none⟩ := by
  obtain ⟨b, o, s⟩ := a
  refine ⟨b, o + i, ?_⟩
  unfold Addr.add at h ⊢
  split
  · rename_i h0
    subst h0
    simp only [if_true] at h
    have := World.cell?_spot h
    simp_all
  · rfl
theorem add_none {b o i : Nat} : (⟨b, o, none⟩ : Addr).add i = ⟨b, o + i, none⟩ := by
  unfold Addr.add; split <;> simp_all

theorem list7 {α : Type} {l : List α} (h : l.length = 7) : ∃ c0 c1 c2 c3 c4 c5 c6, l = [c0, c1, c2, c3, c4, c5, c6] := by
  match l, h with
  | [c0, c1, c2, c3, c4, c5, c6], _ => exact ⟨_, _, _, _, _, _, _, rfl⟩
instance : Inhabited Act := ⟨actNone⟩

theorem struct_fields {P : Program} {t : TypeId} {fs : Array Field} {fuel : Nat} {cs : List Value} {x : DataW H × List MemPlace} (ht : P.underlying t = some (.struct fs)) (hone : oneCellFields P fs = true)
    (h : DataW.trod enc P w base spare held fuel t cs = some x) :
    ∃ (ys : List (DataW H × List MemPlace)) (n : Nat), ys.length = fs.size ∧ ∀ (j : Nat) (f : Field), fs[j]? = some f → DataW.trod enc P w base spare held n f.type ((cs.drop j).take 1) = ys[j]? := by
  obtain ⟨ys, n, _, _, _, hl, hg⟩ := DataW.trod_struct ht h
  refine ⟨ys, n, hl, fun j f hj => ?_⟩
  obtain ⟨ho, hk⟩ := hone_of hone j f hj
  have := hg j f hj
  rw [ho, hk] at this
  exact this

theorem bools_open {fuel : Nat} {v : Value} {x : DataW H × List MemPlace} (h : DataW.trod enc Try.prog w base spare held fuel 34 [v] = some x) : ∃ ks, BoolsAt w v ks := by
  rcases open_slice Try.underlying34 h with ⟨hcs, _⟩ | ⟨a, len, cap, m, n, D, Pl, hcs, _, hl, hm, hmm, _, hi⟩
  · simp only [List.cons.injEq, and_true] at hcs
    subst hcs
    exact ⟨[], none, 0, 0, 0, rfl, Nat.le_refl _, by omega, fun h => absurd h (by simp), fun i h => absurd h (by simp)⟩
  · simp only [List.cons.injEq, and_true] at hcs
    subst hcs
    have hC : Try.prog.cellsOf 4 = 1 := by kernel_rfl
    have hlm : len ≤ m := by rw [hmm]; split <;> omega
    have hb : ∀ i, i < len → ∃ b, w.cell? (a.add i) = some (.bool b) := fun i h => by
      obtain ⟨cs', hc, ht⟩ := hi i (by omega)
      obtain ⟨b, rfl, _⟩ := DataW.trod_bool Try.underlying4 ht
      rw [hC] at hc
      obtain ⟨_, _, hat⟩ := World.cells?_some hc
      have := hat 0 (by omega)
      rw [Deep.add_add] at this
      simp at this
      exact ⟨b, this⟩
    obtain ⟨f, hf⟩ := Deep.choose_lt hb
    refine ⟨(List.range len).map f, some a, a.block, a.off, cap, by simp, by simpa using hl, by simpa [maxLen] using hm, fun hlt => ?_, fun i hlt => ?_⟩
    · have h0 := hf 0 (by simpa using hlt)
      have := World.cell?_spot h0
      simp [Addr.add] at this
      obtain ⟨b, o, s⟩ := a
      simp_all
    · have hi := hf i (by simpa using hlt)
      have h0 := hf 0 (by simp at hlt; omega)
      have hs := World.cell?_spot h0
      obtain ⟨b, o, s⟩ := a
      simp [Addr.add] at hs
      subst hs
      rw [add_none] at hi
      have h' : i < len := by simpa using hlt
      simp [h', hi]

set_option maxRecDepth 100000 in
theorem acts_open {fuel : Nat} {v : Value} {x : DataW H × List MemPlace} (h : DataW.trod enc Try.prog w base spare held fuel 22 [v] = some x) : ∃ l, ActsAt w v l := by
  rcases open_slice Try.underlying22 h with ⟨hcs, _⟩ | ⟨a, len, cap, m, n, D, Pl, hcs, _, hl, hm, hmm, _, hi⟩
  · simp only [List.cons.injEq, and_true] at hcs
    subst hcs
    exact ⟨[], ⟨none, 0, 0, 0, rfl, Nat.le_refl _, by omega, fun h => absurd h (by simp), fun i h => absurd h (by simp)⟩, by simp⟩
  · simp only [List.cons.injEq, and_true] at hcs
    subst hcs
    have hC : Try.prog.cellsOf 36 = 7 := by kernel_rfl
    have hlm : len ≤ m := by rw [hmm]; split <;> omega
    have hb : ∀ i, i < len → ∃ x : Act, (∃ b o, a.add (i * 7) = ⟨b, o, none⟩ ∧ ActCells w b o x) ∧ ActOk w x := fun i h => by
      obtain ⟨cs', hc, ht⟩ := hi i (by omega)
      rw [hC] at hc
      obtain ⟨_, hlen, hat⟩ := World.cells?_some hc
      obtain ⟨ys, n', hyl, hg'⟩ := struct_fields Try.underlying36 (by kernel_rfl) ht
      obtain ⟨c0, c1, c2, c3, c4, c5, c6, rfl⟩ : ∃ c0 c1 c2 c3 c4 c5 c6, cs' = [c0, c1, c2, c3, c4, c5, c6] := list7 hlen
      obtain ⟨y0, y1, y2, y3, y4, y5, y6, rfl⟩ : ∃ c0 c1 c2 c3 c4 c5 c6, ys = [c0, c1, c2, c3, c4, c5, c6] := list7 hyl
      have g0 : DataW.trod enc Try.prog w base spare held n' 9 [c0] = some y0 := hg' 0 _ rfl
      have g1 : DataW.trod enc Try.prog w base spare held n' 3 [c1] = some y1 := hg' 1 _ rfl
      have g2 : DataW.trod enc Try.prog w base spare held n' 3 [c2] = some y2 := hg' 2 _ rfl
      have g3 : DataW.trod enc Try.prog w base spare held n' 3 [c3] = some y3 := hg' 3 _ rfl
      have g4 : DataW.trod enc Try.prog w base spare held n' 3 [c4] = some y4 := hg' 4 _ rfl
      have g5 : DataW.trod enc Try.prog w base spare held n' 9 [c5] = some y5 := hg' 5 _ rfl
      have g6 : DataW.trod enc Try.prog w base spare held n' 34 [c6] = some y6 := hg' 6 _ rfl
      obtain ⟨k, h0, _, hk⟩ := DataW.trod_string Try.underlying9 g0
      obtain ⟨A, h1, _, hA⟩ := DataW.trod_int Try.underlying3 g1
      obtain ⟨B, h2, _, hB⟩ := DataW.trod_int Try.underlying3 g2
      obtain ⟨C, h3, _, hC'⟩ := DataW.trod_int Try.underlying3 g3
      obtain ⟨D', h4, _, hD⟩ := DataW.trod_int Try.underlying3 g4
      obtain ⟨S, h5, _, hS⟩ := DataW.trod_string Try.underlying9 g5
      obtain ⟨ks, hks⟩ := bools_open g6
      simp only [List.cons.injEq, and_true] at h0 h1 h2 h3 h4 h5
      subst h0 h1 h2 h3 h4 h5
      have hat0 := hat 0 (by omega)
      have hat1 := hat 1 (by omega)
      have hat2 := hat 2 (by omega)
      have hat3 := hat 3 (by omega)
      have hat4 := hat 4 (by omega)
      have hat5 := hat 5 (by omega)
      have hat6 := hat 6 (by omega)
      simp only [List.getElem?_cons_succ, List.getElem?_cons_zero, Addr.add, if_true] at hat0
      obtain ⟨b, o, e⟩ := add_spot (i := i * 7) (by simpa [Addr.add] using hat0)
      rw [e, add_none] at hat1 hat2 hat3 hat4 hat5 hat6
      have hat0' : w.cell? ⟨b, o, none⟩ = some (.string k) := by rw [← e]; simpa [Addr.add] using hat0
      exact ⟨⟨k, A, B, C, D', S, c6, ks⟩, ⟨b, o, e, hat0', by simpa using hat1, by simpa using hat2, by simpa using hat3, by simpa using hat4, by simpa using hat5, by simpa using hat6⟩,
        ⟨wf_i64ok hA, wf_i64ok hB, wf_i64ok hC', wf_i64ok hD, by simpa [maxLen] using hk, by simpa [maxLen] using hS, hks⟩⟩
    obtain ⟨f, hf⟩ := Deep.choose_lt hb
    refine ⟨(List.range len).map f, ⟨some a, a.block, a.off, cap, by simp, by simpa using hl, by simpa [maxLen] using hm, fun hlt => ?_, fun i hlt => ?_⟩, fun x hx => ?_⟩
    · obtain ⟨⟨b, o, e, _⟩, _⟩ := hf 0 (by simpa using hlt)
      simp [Addr.add] at e
      rw [e]
    · simp at hlt
      obtain ⟨⟨b0, o0, e0, _⟩, _⟩ := hf 0 (by omega)
      simp [Addr.add] at e0
      obtain ⟨⟨b, o, e, hc⟩, _⟩ := hf i hlt
      subst e0
      rw [add_none] at e
      simp at e
      obtain ⟨rfl, rfl⟩ := e
      simp [hlt, hc]
    · simp at hx
      obtain ⟨i, hi, rfl⟩ := hx
      exact (hf i hi).2
end
end Go.Proofs.Ytbpblokfiajpjaa
