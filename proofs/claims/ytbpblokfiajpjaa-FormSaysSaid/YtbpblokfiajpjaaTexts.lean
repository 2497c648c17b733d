/- Texts: two lists compared; what a row of texts lets be read. No conditions. -/
import Derived.Test.YtbpblokfiajpjaaDevLaw
namespace Go.Proofs.Ytbpblokfiajpjaa
open Go.RowKit Go.SL

theorem drewN_add (w : World) (a b : Nat) : (w.drewN a).drewN b = w.drewN (a + b) := by simp [World.drewN, Nat.add_assoc]
def smark : ByteArray := ⟨#[109, 97, 114, 107]⟩
theorem strs_row {w : World} {L : List HP} (k : Nat) {e : TypeId} {g cap n : Nat} {l : List ByteArray} {xs rest : List Value} (H : own w L) (hk : L[k]? = some (row e 1 (.slice (some ⟨g, 0, none⟩) n cap) n xs))
    (hx : xs = l.map Value.string ++ rest) (hs : ∀ s ∈ l, s.size ≤ 9223372036854775807) : StrsAt w (.slice (some ⟨g, 0, none⟩) l.length cap) l := by
  obtain ⟨ao3, g3, cap3, hv, c31, c32, a31, a32, a33, cells3, fr3⟩ := own_row_form k H hk
  simp only [Value.slice.injEq] at hv
  obtain ⟨rfl, _, rfl⟩ := hv
  have hg := a33 _ rfl
  simp only [Addr.mk.injEq, and_true] at hg
  subst hg
  have hlen := (own_row k H hk).1
  have hn : l.length ≤ n := by rw [hx, List.length_append, List.length_map] at hlen; omega
  refine ⟨⟨_, g, 0, cap, rfl, by omega, by simp only [maxLen] at c32; omega, fun _ => rfl, fun i hi => ?_⟩, hs⟩
  dsimp only
  rw [Nat.zero_add]
  exact cells3 i _ (by rw [hx, List.getElem?_append_left (by simpa using hi)]; simp [hi])

set_option maxRecDepth 100000 in
set_option maxHeartbeats 1000000 in
theorem sametexts_any (va vb : Value) (la lb : List ByteArray) (w : World) (ha : StrsAt w va la) (hb : StrsAt w vb lb) :
    Calls Try.prog 28 #[va, vb] w fun e w' => e = .returned (.bool (decide (la = lb))) ∧ ∃ n, w' = w.drewN n := by
  obtain ⟨aoa, ba, offa, capa, rfl, a1, a2, a3, a4⟩ := ha.form
  obtain ⟨aob, bb, offb, capb, rfl, b1, b2, b3, b4⟩ := hb.form
  by_cases hl : la.length = lb.length
  · go_enter Try.func28, Try.ntmps28
    have hl2 : ((la.length : Int) != (lb.length : Int)) = false := by rw [hl]; simp
    have HL := Lib.hid hl
    clear hl
    go_wp2_with fail
    go_loopw [5] (fun i wr => ∃ k : Nat, k ≤ la.length ∧ i = .int .i64 k ∧ (∀ j, j < k → la.getD j ByteArray.empty = lb.getD j ByteArray.empty) ∧ ∃ n, wr = w.drewN n) (fun i _ => la.length - (intOf i).toNat)
    case atStart => exact ⟨0, by omega, rfl, fun j hj => absurd hj (by omega), 0, rfl⟩
    case round =>
      obtain ⟨k, hk, rfl, hj, nd, rfl⟩ := hrel
      have HJ := Lib.hid hj
      clear hj
      by_cases hlt : k < la.length
      · obtain rfl := a3 (by omega)
        have hlt2 : k < lb.length := by rw [← HL.out]; exact hlt
        obtain rfl := b3 (by omega)
        have c1 := a4 k hlt
        have c2 := b4 k hlt2
        clear a3 a4 b3 b4 ha hb
        generalize hxa : la.getD k ByteArray.empty = xa at *
        generalize hxb : lb.getD k ByteArray.empty = xb at *
        have HXA := Lib.hid hxa
        have HXB := Lib.hid hxb
        clear hxa hxb
        have ha5 : (k : Int) < (la.length : Int) := by omega
        have hb5 : (k : Int) < (lb.length : Int) := by omega
        by_cases hx : xa = xb
        · have HX := Lib.hid hx
          have ht : (!xa.toList == xb.toList) = false := by rw [hx]; simp
          clear hx
          go_wp2_with fail
          go_quiet (fail)
          go_wp2_with fail
          go_roundw
          case rel => exact ⟨k + 1, by omega, by go_num, (fun j hj => by
            by_cases e : j = k
            · subst e; rw [HXA.out, HXB.out, HX.out]
            · exact HJ.out j (by omega)), nd + nq, by first | rfl | exact drewN_add _ _ _⟩
          case measure => simp [intOf]; omega
        · have ht : (!xa.toList == xb.toList) = true := by
            rw [Bool.not_eq_true', beq_eq_false_iff_ne]
            intro e
            exact hx (toList_inj e)
          have HX := Lib.hid hx
          clear hx
          go_wp2_with fail
          go_quiet (fail)
          go_wp2_with fail
          go_ret
          refine ⟨ret_bool ?_, nd + nq, by first | rfl | exact drewN_add _ _ _⟩
          symm
          apply decide_eq_false
          intro e
          exact HX.out (by rw [← HXA.out, ← HXB.out, e])
      · obtain rfl : k = la.length := by omega
        go_wp2_with fail
        go_ret
        refine ⟨ret_bool ?_, _, rfl⟩
        symm
        apply decide_eq_true
        apply List.ext_getElem HL.out
        intro i h1 h2
        have := HJ.out i h1
        simpa [h1, h2] using this
  · have hl2 : ((la.length : Int) != (lb.length : Int)) = true := by rw [bne_iff_ne]; omega
    go_enter Try.func28, Try.ntmps28
    have HL := Lib.hid hl
    clear hl
    go_wp2_with fail
    go_ret
    refine ⟨ret_bool ?_, 0, rfl⟩
    symm
    apply decide_eq_false
    intro e
    exact HL.out (by rw [e])

end Go.Proofs.Ytbpblokfiajpjaa
