/- Lists of numbers that are read; SameNumbers answers whether two are one. No conditions. -/
import Derived.Test.YtbpblokfiajpjaaDoorErrs
namespace Go.Proofs.YtbpblokfiajpjaaDoor
open Go.RowKit Go.SL

def IntsAt (w : World) (v : Value) (l : List Int) : Prop := SlAt v l.length (fun b off i => w.cell? ⟨b, off + i, none⟩ = some (.int .i64 (l.getD i 0)))
theorem IntsAt.form {w : World} {v : Value} {l : List Int} (h : IntsAt w v l) : ∃ ao b off cap, v = .slice ao l.length cap ∧ l.length ≤ cap ∧ cap ≤ 9223372036854775807 ∧ (0 < l.length → ao = some ⟨b, off, none⟩) ∧
    ∀ i, i < l.length → w.cell? ⟨b, off + i, none⟩ = some (.int .i64 (l.getD i 0)) := by
  obtain ⟨ao, b, off, cap, hv, h1, h2, h3, h4⟩ := h
  exact ⟨ao, b, off, cap, hv, h1, h2, h3, h4⟩
theorem drewN_add' (w : World) (a b : Nat) : (w.drewN a).drewN b = w.drewN (a + b) := by simp [World.drewN, Nat.add_assoc]

theorem ints_own {w : World} {L : List HP} (k : Nat) {b n : Nat} {arr : Array Value} {T : TypeId} {l : List Int} (H : own w L) (hk : L[k]? = some (pts b (.cells arr T (0, 0)))) (hn : l.length = n)
    (ha : ∀ i, i < l.length → arr[i]? = some (.int .i64 (l.getD i 0))) (hb : n ≤ 9223372036854775807) : IntsAt w (.slice (some ⟨b, 0, none⟩) n n) l := by
  subst hn
  exact ⟨_, b, 0, l.length, rfl, Nat.le_refl _, hb, fun _ => rfl, fun i hi => by dsimp only; rw [Nat.zero_add, (own_cells k H hk).1]; exact ha i hi⟩

set_option maxRecDepth 100000 in
set_option maxHeartbeats 1000000 in
theorem samenumbers_any (va vb : Value) (la lb : List Int) (w : World) (ha : IntsAt w va la) (hb : IntsAt w vb lb) :
    Calls Tryd.prog 20 #[va, vb] w fun e w' => e = .returned (.bool (decide (la = lb))) ∧ ∃ n, w' = w.drewN n := by
  obtain ⟨aoa, ba, offa, capa, rfl, a1, a2, a3, a4⟩ := ha.form
  obtain ⟨aob, bb, offb, capb, rfl, b1, b2, b3, b4⟩ := hb.form
  by_cases hl : la.length = lb.length
  · go_enter Tryd.func20, Tryd.ntmps20
    have hl2 : ((la.length : Int) != (lb.length : Int)) = false := by rw [hl]; simp
    have HL := Lib.hid hl
    clear hl
    go_wp2_with fail
    go_loopw [5] (fun i wr => ∃ k : Nat, k ≤ la.length ∧ i = .int .i64 k ∧ (∀ j, j < k → la.getD j 0 = lb.getD j 0) ∧ ∃ n, wr = w.drewN n) (fun i _ => la.length - (intOf i).toNat)
    case atStart => exact ⟨0, by omega, rfl, fun j hj => absurd hj (by omega), 0, rfl⟩
    case round =>
      obtain ⟨k, hk, rfl, hj, nd, rfl⟩ := hrel
      have HJ := Lib.hid hj
      clear hj
      by_cases hlt : k < la.length
      · obtain rfl := a3 (by omega)
        have hlt2 : k < lb.length := by rw [← HL.out]; exact hlt
        obtain rfl := b3 (by omega)
        have c1 := a4 k hlt
        have c2 := b4 k hlt2
        clear a3 a4 b3 b4 ha hb
        generalize hxa : la.getD k 0 = xa at *
        generalize hxb : lb.getD k 0 = xb at *
        have HXA := Lib.hid hxa
        have HXB := Lib.hid hxb
        clear hxa hxb
        have ha5 : (k : Int) < (la.length : Int) := by omega
        have hb5 : (k : Int) < (lb.length : Int) := by omega
        by_cases hx : xa = xb
        · have HX := Lib.hid hx
          have ht : (xa != xb) = false := by rw [hx]; simp
          clear hx
          go_wp2_with fail
          go_quiet (fail)
          go_wp2_with fail
          go_roundw
          case rel => exact ⟨k + 1, by omega, by go_num, (fun j hj => by
            by_cases e : j = k
            · subst e; rw [HXA.out, HXB.out, HX.out]
            · exact HJ.out j (by omega)), nd + nq, by first | rfl | exact drewN_add' _ _ _⟩
          case measure => simp [intOf]; omega
        · have ht : (xa != xb) = true := by rw [bne_iff_ne]; exact hx
          have HX := Lib.hid hx
          clear hx
          go_wp2_with fail
          go_quiet (fail)
          go_wp2_with fail
          go_ret
          refine ⟨ret_bool ?_, nd + nq, by first | rfl | exact drewN_add' _ _ _⟩
          symm
          apply decide_eq_false
          intro e
          exact HX.out (by rw [← HXA.out, ← HXB.out, e])
      · obtain rfl : k = la.length := by omega
        go_wp2_with fail
        go_ret
        refine ⟨ret_bool ?_, _, rfl⟩
        symm
        apply decide_eq_true
        apply List.ext_getElem HL.out
        intro i h1 h2
        have := HJ.out i h1
        simpa [h1, h2] using this
  · have hl2 : ((la.length : Int) != (lb.length : Int)) = true := by rw [bne_iff_ne]; omega
    go_enter Tryd.func20, Tryd.ntmps20
    have HL := Lib.hid hl
    clear hl
    go_wp2_with fail
    go_ret
    refine ⟨ret_bool ?_, 0, rfl⟩
    symm
    apply decide_eq_false
    intro e
    exact HL.out (by rw [e])
end Go.Proofs.YtbpblokfiajpjaaDoor
