/- A law's arguments that are heads, desks, lists of entries: opened. No conditions. -/
import Derived.Test.YtbpblokfiajpjaaFormReadsLaw
import Derived.Lib.SmallJoins
namespace Go.Proofs.Ytbpblokfiajpjaa
open Go.RowKit Go.SL Go.Deep Go.ChangeShapes Go.WideShapes Go.Joins

section
variable {H : Type} {enc : TypeId × Value → H} {w : World} {base : Nat} {spare : Nat → Bool} {held : Bool}
set_option maxRecDepth 100000 in
theorem head_open {r : Reach} {b0 : Nat} {v : Value} {d : DataW H} {p : List MemPlace} (hv : Value.okWide Try.prog w r b0 52 v) (h : DataW.Trod enc Try.prog w base spare held 52 v d p) :
    ∃ a b c, v = headV a b c ∧ i64ok a ∧ i64ok b ∧ i64ok c := by
  obtain ⟨v0, v1, v2, y0, y1, y2, n, rfl, -, -, g0, g1, g2⟩ := open_agg3 (P := Try.prog) Try.underlying52 (by kernel_rfl) (by kernel_rfl) hv h
  obtain ⟨a, h0, _, k0⟩ := DataW.trod_int Try.underlying3 g0
  obtain ⟨b, h1, _, k1⟩ := DataW.trod_int Try.underlying3 g1
  obtain ⟨c, h2, _, k2⟩ := DataW.trod_int Try.underlying3 g2
  simp only [List.cons.injEq, and_true] at h0 h1 h2
  subst h0 h1 h2
  exact ⟨a, b, c, rfl, wf_i64ok k0, wf_i64ok k1, wf_i64ok k2⟩
theorem list5 {α : Type} {l : List α} (h : l.length = 5) : ∃ c0 c1 c2 c3 c4, l = [c0, c1, c2, c3, c4] := by
  match l, h with
  | [c0, c1, c2, c3, c4], _ => exact ⟨_, _, _, _, _, rfl⟩
theorem list2 {α : Type} {l : List α} (h : l.length = 2) : ∃ c0 c1, l = [c0, c1] := by
  match l, h with
  | [c0, c1], _ => exact ⟨_, _, rfl⟩
set_option maxRecDepth 100000 in
theorem desk_open {r : Reach} {b0 : Nat} {v : Value} {d : DataW H} {p : List MemPlace} (hv : Value.okWide Try.prog w r b0 55 v) (h : DataW.Trod enc Try.prog w base spare held 55 v d p) :
    ∃ a b c x y, v = deskV a b c x y := by
  obtain ⟨cs, rfl, hsz⟩ := okWide_struct Try.underlying55 hv
  have hC : Try.prog.cellsOf 55 = 5 := by kernel_rfl
  obtain ⟨l⟩ := cs
  obtain ⟨c0, c1, c2, c3, c4, rfl⟩ := list5 (hsz.trans hC)
  obtain ⟨fuel, hf⟩ := h
  obtain ⟨ys, n', hyl, hg'⟩ := struct_fields Try.underlying55 (by kernel_rfl) hf
  obtain ⟨y0, y1, y2, y3, y4, rfl⟩ : ∃ c0 c1 c2 c3 c4, ys = [c0, c1, c2, c3, c4] := list5 hyl
  have g0 : DataW.trod enc Try.prog w base spare held n' 3 [c0] = some y0 := hg' 0 _ rfl
  have g1 : DataW.trod enc Try.prog w base spare held n' 3 [c1] = some y1 := hg' 1 _ rfl
  have g2 : DataW.trod enc Try.prog w base spare held n' 3 [c2] = some y2 := hg' 2 _ rfl
  have g3 : DataW.trod enc Try.prog w base spare held n' 3 [c3] = some y3 := hg' 3 _ rfl
  have g4 : DataW.trod enc Try.prog w base spare held n' 3 [c4] = some y4 := hg' 4 _ rfl
  obtain ⟨a, h0, _, k0⟩ := DataW.trod_int Try.underlying3 g0
  obtain ⟨b, h1, _, k1⟩ := DataW.trod_int Try.underlying3 g1
  obtain ⟨c, h2, _, k2⟩ := DataW.trod_int Try.underlying3 g2
  obtain ⟨x, h3, _, k3⟩ := DataW.trod_int Try.underlying3 g3
  obtain ⟨y, h4, _, k4⟩ := DataW.trod_int Try.underlying3 g4
  simp only [List.cons.injEq, and_true] at h0 h1 h2 h3 h4
  subst h0 h1 h2 h3 h4
  exact ⟨a, b, c, x, y, rfl⟩

set_option maxRecDepth 100000 in
theorem ents_open {fuel : Nat} {v : Value} {x : DataW H × List MemPlace} (h : DataW.trod enc Try.prog w base spare held fuel 53 [v] = some x) : ∃ l, entsAt w v l := by
  rcases open_slice Try.underlying53 h with ⟨hcs, _⟩ | ⟨a, len, cap, m, n, D, Pl, hcs, _, hl, hm, hmm, _, hi⟩
  · simp only [List.cons.injEq, and_true] at hcs
    subst hcs
    exact ⟨[], none, 0, 0, 0, rfl, Nat.le_refl _, by omega, fun h => absurd h (by simp), fun i h => absurd h (by simp)⟩
  · simp only [List.cons.injEq, and_true] at hcs
    subst hcs
    have hC : Try.prog.cellsOf 64 = 2 := by kernel_rfl
    have hlm : len ≤ m := by rw [hmm]; split <;> omega
    have hb : ∀ i, i < len → ∃ x : Ent, ∃ b o, a.add (i * 2) = ⟨b, o, none⟩ ∧ w.cell? ⟨b, o, none⟩ = some (.int .i64 x.1) ∧ w.cell? ⟨b, o + 1, none⟩ = some (.int .i64 x.2) := fun i h => by
      obtain ⟨cs', hc, ht⟩ := hi i (by omega)
      rw [hC] at hc
      obtain ⟨_, hlen, hat⟩ := World.cells?_some hc
      obtain ⟨ys, n', hyl, hg'⟩ := struct_fields Try.underlying64 (by kernel_rfl) ht
      obtain ⟨c0, c1, rfl⟩ := list2 hlen
      obtain ⟨y0, y1, rfl⟩ : ∃ c0 c1, ys = [c0, c1] := list2 hyl
      have g0 : DataW.trod enc Try.prog w base spare held n' 3 [c0] = some y0 := hg' 0 _ rfl
      have g1 : DataW.trod enc Try.prog w base spare held n' 3 [c1] = some y1 := hg' 1 _ rfl
      obtain ⟨A, h0, _, hA⟩ := DataW.trod_int Try.underlying3 g0
      obtain ⟨B, h1, _, hB⟩ := DataW.trod_int Try.underlying3 g1
      simp only [List.cons.injEq, and_true] at h0 h1
      subst h0 h1
      have hat0 := hat 0 (by omega)
      have hat1 := hat 1 (by omega)
      simp only [List.getElem?_cons_succ, List.getElem?_cons_zero, Addr.add, if_true] at hat0
      obtain ⟨b, o, e⟩ := add_spot (i := i * 2) (by simpa [Addr.add] using hat0)
      rw [e, add_none] at hat1
      have hat0' : w.cell? ⟨b, o, none⟩ = some (.int .i64 A) := by rw [← e]; simpa [Addr.add] using hat0
      exact ⟨(A, B), b, o, e, hat0', by simpa using hat1⟩
    obtain ⟨f, hf⟩ := Deep.choose_lt hb
    refine ⟨(List.range len).map f, some a, a.block, a.off, cap, by simp, by simpa using hl, by simpa [maxLen] using hm, fun hlt => ?_, fun i hlt => ?_⟩
    · obtain ⟨b, o, e, _⟩ := hf 0 (by simpa using hlt)
      simp [Addr.add] at e
      rw [e]
    · simp at hlt
      obtain ⟨b0, o0, e0, _⟩ := hf 0 (by omega)
      simp [Addr.add] at e0
      obtain ⟨b, o, e, hc⟩ := hf i hlt
      subst e0
      rw [add_none] at e
      simp at e
      obtain ⟨rfl, rfl⟩ := e
      simpa [hlt] using hc
end
end Go.Proofs.Ytbpblokfiajpjaa
