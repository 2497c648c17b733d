/- Lists of texts that are read: opened from an argument; kept while other memory turns. No conditions. -/
import Derived.Test.YtbpblokfiajpjaaErrs
namespace Go.Proofs.Ytbpblokfiajpjaa
open Go.RowKit Go.SL Go.Deep Go.ChangeShapes Go.WideShapes

theorem SlAt.later {v : Value} {n : Nat} {p q : Nat → Nat → Nat → Prop} (h : SlAt v n p) (hpq : ∀ b o i, p b o i → q b o i) : SlAt v n q := by
  obtain ⟨ao, b, off, cap, hv, h1, h2, h3, h4⟩ := h
  exact ⟨ao, b, off, cap, hv, h1, h2, h3, fun i hi => hpq _ _ _ (h4 i hi)⟩
theorem BoolsAt.later {w w' : World} {v : Value} {ks : List Bool} (h : BoolsAt w v ks) {l : List HP} (k : Nat) (H : own w' l) (hk : l[k]? = some (exactly w)) : BoolsAt w' v ks :=
  SlAt.later h fun _ _ _ h => rd_later k H hk h
theorem ActCells.later {w w' : World} {b o : Nat} {a : Act} (h : ActCells w b o a) {l : List HP} (k : Nat) (H : own w' l) (hk : l[k]? = some (exactly w)) : ActCells w' b o a := by
  obtain ⟨h0, h1, h2, h3, h4, h5, h6⟩ := h
  exact ⟨rd_later k H hk h0, rd_later k H hk h1, rd_later k H hk h2, rd_later k H hk h3, rd_later k H hk h4, rd_later k H hk h5, rd_later k H hk h6⟩
theorem ActsAt.later {w w' : World} {v : Value} {l : List Act} (h : ActsAt w v l) {L : List HP} (k : Nat) (H : own w' L) (hk : L[k]? = some (exactly w)) : ActsAt w' v l :=
  ⟨SlAt.later h.1 fun _ _ _ h => ActCells.later h k H hk, fun a ha => { h.2 a ha with keep := (h.2 a ha).keep.later k H hk }⟩
theorem ActsAt.form {w : World} {v : Value} {l : List Act} (h : ActsAt w v l) : ∃ ao b off cap, v = .slice ao l.length cap ∧ l.length ≤ 9223372036854775807 ∧ (0 < l.length → ao = some ⟨b, off, none⟩) ∧
    ∀ i, i < l.length → ActCells w b (off + i * 7) (l.getD i actNone) := by
  obtain ⟨⟨ao, b, off, cap, hv, h1, h2, h3, h4⟩, _⟩ := h
  exact ⟨ao, b, off, cap, hv, by omega, h3, h4⟩

theorem toList_inj {a b : ByteArray} (h : a.toList = b.toList) : a = b := by
  rw [ByteArray.toList_eq, ByteArray.toList_eq] at h
  exact bytes_inj h

def StrsAt (w : World) (v : Value) (l : List ByteArray) : Prop :=
  SlAt v l.length (fun b off i => w.cell? ⟨b, off + i, none⟩ = some (.string (l.getD i ByteArray.empty))) ∧ ∀ s ∈ l, s.size ≤ 9223372036854775807
theorem StrsAt.later {w w' : World} {v : Value} {l : List ByteArray} (h : StrsAt w v l) {L : List HP} (k : Nat) (H : own w' L) (hk : L[k]? = some (exactly w)) : StrsAt w' v l :=
  ⟨SlAt.later h.1 fun _ _ _ h => rd_later k H hk h, h.2⟩
theorem StrsAt.form {w : World} {v : Value} {l : List ByteArray} (h : StrsAt w v l) : ∃ ao b off cap, v = .slice ao l.length cap ∧ l.length ≤ cap ∧ cap ≤ 9223372036854775807 ∧ (0 < l.length → ao = some ⟨b, off, none⟩) ∧
    ∀ i, i < l.length → w.cell? ⟨b, off + i, none⟩ = some (.string (l.getD i ByteArray.empty)) := by
  obtain ⟨⟨ao, b, off, cap, hv, h1, h2, h3, h4⟩, _⟩ := h
  exact ⟨ao, b, off, cap, hv, h1, h2, h3, h4⟩

section
variable {H : Type} {enc : TypeId × Value → H} {w : World} {base : Nat} {spare : Nat → Bool} {held : Bool}
theorem strs_open {fuel : Nat} {v : Value} {x : DataW H × List MemPlace} (h : DataW.trod enc Try.prog w base spare held fuel 42 [v] = some x) : ∃ l, StrsAt w v l := by
  rcases open_slice Try.underlying42 h with ⟨hcs, _⟩ | ⟨a, len, cap, m, n, D, Pl, hcs, _, hl, hm, hmm, _, hi⟩
  · simp only [List.cons.injEq, and_true] at hcs
    subst hcs
    exact ⟨[], ⟨none, 0, 0, 0, rfl, Nat.le_refl _, by omega, fun h => absurd h (by simp), fun i h => absurd h (by simp)⟩, by simp⟩
  · simp only [List.cons.injEq, and_true] at hcs
    subst hcs
    have hC : Try.prog.cellsOf 9 = 1 := by kernel_rfl
    have hlm : len ≤ m := by rw [hmm]; split <;> omega
    have hb : ∀ i, i < len → ∃ b, w.cell? (a.add i) = some (.string b) ∧ b.size ≤ maxLen := fun i h => by
      obtain ⟨cs', hc, ht⟩ := hi i (by omega)
      obtain ⟨b, rfl, _, hs⟩ := DataW.trod_string Try.underlying9 ht
      rw [hC] at hc
      obtain ⟨_, _, hat⟩ := World.cells?_some hc
      have := hat 0 (by omega)
      rw [Deep.add_add] at this
      simp at this
      exact ⟨b, this, hs⟩
    obtain ⟨f, hf⟩ := Deep.choose_lt hb
    refine ⟨(List.range len).map f, ⟨some a, a.block, a.off, cap, by simp, by simpa using hl, by simpa [maxLen] using hm, fun hlt => ?_, fun i hlt => ?_⟩, fun s hs => ?_⟩
    · have h0 := (hf 0 (by simpa using hlt)).1
      have := World.cell?_spot h0
      simp [Addr.add] at this
      obtain ⟨b, o, s⟩ := a
      simp_all
    · have hi := (hf i (by simpa using hlt)).1
      have h0 := (hf 0 (by simp at hlt; omega)).1
      have hs := World.cell?_spot h0
      obtain ⟨b, o, s⟩ := a
      simp [Addr.add] at hs
      subst hs
      rw [add_none] at hi
      have h' : i < len := by simpa using hlt
      simp [h', hi]
    · simp at hs
      obtain ⟨i, hi, rfl⟩ := hs
      simpa [maxLen] using (hf i hi).2
end

/-! ### few -/
def fewOne (most : Int) (s : ByteArray) : Bool := decide ((s.size : Int) ≤ most)
def fewB (l : List ByteArray) (most : Int) : Bool := decide (l.length ≤ 20) && l.all (fewOne most)
theorem str_getD {l : List ByteArray} {i : Nat} (hi : i < l.length) : l.getD i ByteArray.empty ∈ l := by
  simp [hi]

set_option maxRecDepth 100000 in
set_option maxHeartbeats 1000000 in
theorem few_any (v : Value) (l : List ByteArray) (most : Int) (w : World) (hv : StrsAt w v l) :
    Calls Try.prog 23 #[v, .int .i64 most] w fun e w' => e = .returned (.bool (fewB l most)) ∧ w = w' := by
  obtain ⟨ao, b, off, cap, rfl, hc1, hc2, hao, hat⟩ := hv.form
  by_cases hm : l.length ≤ 20
  · go_enter Try.func23, Try.ntmps23
    go_wp2
    go_loop [5] (fun i => ∃ k : Nat, k ≤ l.length ∧ i = .int .i64 k ∧ ∀ j, j < k → fewOne most (l.getD j ByteArray.empty) = true) (fun i => l.length - (intOf i).toNat)
    case atStart => exact ⟨0, Nat.zero_le _, rfl, fun j h => absurd h (by omega)⟩
    case round =>
      obtain ⟨k, hk, rfl, hj⟩ := hrel
      by_cases hlt : k < l.length
      · obtain rfl := hao (by omega)
        have c5 := hat k hlt
        have hS := hv.2 _ (str_getD hlt)
        have HJ := Lib.hid hj
        clear hj hv hat hao
        generalize hx : l.getD k ByteArray.empty = x at *
        have HX := Lib.hid hx
        clear hx
        by_cases h1 : (x.size : Int) ≤ most
        · go_wp2
          go_round
          case rel => exact ⟨k + 1, by omega, by go_num, fun j h => by
            by_cases e : j = k
            · subst e; rw [HX.out]; simp [fewOne, h1]
            · exact HJ.out j (by omega)⟩
          case measure => simp [intOf]; omega
        · go_wp2
          go_ret
          refine ⟨ret_bool ?_, rfl⟩
          symm
          unfold fewB
          rw [Bool.and_eq_false_iff]
          refine .inr (List.all_eq_false.2 ⟨_, str_getD hlt, ?_⟩)
          rw [HX.out]; unfold fewOne; rw [decide_eq_false (by omega)]; simp
      · have HJ := Lib.hid hj
        clear hj
        go_wp2
        go_ret
        refine ⟨ret_bool ?_, rfl⟩
        unfold fewB
        rw [eq_comm, Bool.and_eq_true]
        refine ⟨by simpa using hm, List.all_eq_true.2 fun x hx => ?_⟩
        obtain ⟨j, hj, rfl⟩ := List.getElem_of_mem hx
        have := HJ.out j (by omega)
        simpa [hj] using this
  · go_enter Try.func23, Try.ntmps23
    go_wp2
    go_ret
    exact ⟨ret_bool (by rw [fewB, decide_eq_false (show ¬ l.length ≤ 20 by omega)]; rfl), rfl⟩
end Go.Proofs.Ytbpblokfiajpjaa
