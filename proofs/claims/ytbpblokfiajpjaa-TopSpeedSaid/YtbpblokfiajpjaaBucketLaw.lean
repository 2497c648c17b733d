/- BucketSays answers true, whatever the numbers and the acts, and leaves what it was given as it was. No conditions. -/
import Derived.Test.YtbpblokfiajpjaaRBucket
import Derived.Deep.RegionHeld3
import Derived.Deep.Cut
namespace Go.Proofs.Ytbpblokfiajpjaa
open Go.RowKit Go.SL

theorem SlAt.later {v : Value} {n : Nat} {p q : Nat → Nat → Nat → Prop} (h : SlAt v n p) (hpq : ∀ b o i, p b o i → q b o i) : SlAt v n q := by
  obtain ⟨ao, b, off, cap, hv, h1, h2, h3, h4⟩ := h
  exact ⟨ao, b, off, cap, hv, h1, h2, h3, fun i hi => hpq _ _ _ (h4 i hi)⟩
theorem BoolsAt.later {w w' : World} {v : Value} {ks : List Bool} (h : BoolsAt w v ks) {l : List HP} (k : Nat) (H : own w' l) (hk : l[k]? = some (exactly w)) : BoolsAt w' v ks :=
  SlAt.later h fun _ _ _ h => rd_later k H hk h
theorem ActCells.later {w w' : World} {b o : Nat} {a : Act} (h : ActCells w b o a) {l : List HP} (k : Nat) (H : own w' l) (hk : l[k]? = some (exactly w)) : ActCells w' b o a := by
  obtain ⟨h0, h1, h2, h3, h4, h5, h6⟩ := h
  exact ⟨rd_later k H hk h0, rd_later k H hk h1, rd_later k H hk h2, rd_later k H hk h3, rd_later k H hk h4, rd_later k H hk h5, rd_later k H hk h6⟩
theorem ActsAt.later {w w' : World} {v : Value} {l : List Act} (h : ActsAt w v l) {L : List HP} (k : Nat) (H : own w' L) (hk : L[k]? = some (exactly w)) : ActsAt w' v l :=
  ⟨SlAt.later h.1 fun _ _ _ h => ActCells.later h k H hk, fun a ha => { h.2 a ha with keep := (h.2 a ha).keep.later k H hk }⟩
theorem ActsAt.form {w : World} {v : Value} {l : List Act} (h : ActsAt w v l) : ∃ ao b off cap, v = .slice ao l.length cap ∧ l.length ≤ 9223372036854775807 ∧ (0 < l.length → ao = some ⟨b, off, none⟩) ∧
    ∀ i, i < l.length → ActCells w b (off + i * 7) (l.getD i actNone) := by
  obtain ⟨⟨ao, b, off, cap, hv, h1, h2, h3, h4⟩, _⟩ := h
  exact ⟨ao, b, off, cap, hv, by omega, h3, h4⟩

set_option maxRecDepth 100000 in
set_option maxHeartbeats 1000000 in
theorem flows_any (R : List HP) (w : World) (H : own w R) : Calls Try.prog 13 #[] w fun e w' => e = .returned (.bool true) ∧ Ext w w' ∧ own w' R := by
  go_enter Try.func13, Try.ntmps13
  go_wp2_with fail
  refine (bucket_new_yes 3 5 R w rfl H).mono ?_
  rintro e w1 ⟨rfl, hx1, h1⟩
  go_wp2_with fail
  refine (bucket_take _ 3 5 5 4 R w1 (by omega) h1).mono ?_
  rintro e w2 ⟨rfl, hx2, h2⟩
  go_wp2_with fail
  refine (bucket_take _ 3 5 1 2 R w2 (by omega) h2).mono ?_
  rintro e w3 ⟨rfl, hx3, h3⟩
  go_wp2_with fail
  refine (bucket_level _ 3 5 1 R w3 h3).mono ?_
  rintro e w4 ⟨rfl, rfl⟩
  go_wp2_with fail
  go_ret
  exact ⟨rfl, (hx1.trans hx2).trans hx3, own_drop h3⟩

def bInv (rate burst : Int) (b1 b2 : Nat) (w0 : World) (n : Nat) (i : Value) (wr : World) : Prop :=
  ∃ k : Nat, k ≤ n ∧ i = .int .i64 k ∧ Ext w0 wr ∧ ∃ lev : Int, 0 ≤ lev ∧ lev ≤ burst ∧ own wr [rbucketAt b2 rate burst lev, bucketAt b1 rate burst lev, exactly w0]

theorem rb_cell {w : World} {l : List HP} (k : Nat) {b : Nat} {r u v : Int} (H : own w l) (hk : l[k]? = some (rbucketAt b r u v)) : w.cell? ⟨b, 2, none⟩ = some (.int .i64 v) := (own_cells k H hk).1 2

set_option maxRecDepth 100000 in
set_option maxHeartbeats 4000000 in
theorem bucketSays_walk (rate burst : Int) (v : Value) (l : List Act) (w : World) (hv : ActsAt w v l) :
    Calls Try.prog 3 #[.int .i64 rate, .int .i64 burst, v] w fun e w' => e = .returned (.bool true) ∧ Below w.heap.size w w' := by
  obtain ⟨ao, b, off, cap, rfl, hlen, hao, hat⟩ := hv.form
  have h0 := own_exactly w
  go_enter Try.func3, Try.ntmps3
  go_wp2_with fail
  refine (flows_any _ w h0).mono ?_
  rintro e w1 ⟨rfl, hx1, h1⟩
  go_wp2_with fail
  refine (light_any _ l 80 w1 (hv.later 0 h1 rfl)).mono ?_
  rintro e w1' ⟨rfl, rfl⟩
  by_cases hL : light l 80 = true
  · by_cases hN : newOk rate burst = true
    · have hN' := hN
      simp only [newOk, decide_eq_true_eq] at hN'
      obtain ⟨n1, n2, n3, n4⟩ := hN'
      go_wp2_with fail
      refine (bucket_new_yes rate burst _ w1 hN h1).mono ?_
      rintro e w2 ⟨rfl, hx2, h2⟩
      go_wp2_with fail
      generalize w1.heap.size = b1 at *
      have h3 := own_alloc h2 (.cells #[.int .i64 rate, .int .i64 burst, .int .i64 burst] 33)
      have hx3 := (hx1.trans hx2).alloc (.cells #[.int .i64 rate, .int .i64 burst, .int .i64 burst] 33)
      generalize w2.heap.size = b2 at *
      generalize w2.alloc (.cells #[.int .i64 rate, .int .i64 burst, .int .i64 burst] 33) = w3 at *
      go_loopw [11] (bInv rate burst b1 b2 w l.length) (fun i _ => l.length - (intOf i).toNat)
      case atStart => exact ⟨0, Nat.zero_le _, rfl, hx3, burst, n3, Int.le_refl _, h3⟩
      case round =>
        obtain ⟨k, hk, rfl, hxr, lev, l1, l2, hown⟩ := hrel
        by_cases hlt : k < l.length
        · obtain rfl := hao (by omega)
          obtain ⟨c0, c1, c2, c3, c4, c5, c6⟩ := (hat k hlt).later 2 hown rfl
          have ok := hv.2 _ (all_getD hlt)
          obtain ⟨ko, kc, hkv, hkl⟩ := keep_len ok.keep
          rw [hkv] at c6
          obtain ⟨A1, A2⟩ := ok.A
          generalize l.getD k actNone = x at *
          clear hao hat hv hkv ok h0 h1 h2 h3 hx1 hx2 hx3
          go_upto_region 14 with (fail)
          have ha := own_alloc hown (.cells #[.string x.kind, .int .i64 x.A, .int .i64 x.B, .int .i64 x.C, .int .i64 x.D, .string x.S, .slice ko x.keep.length kc] 36)
          have hxa := hxr.alloc (.cells #[.string x.kind, .int .i64 x.A, .int .i64 x.B, .int .i64 x.C, .int .i64 x.D, .string x.S, .slice ko x.keep.length kc] 36)
          clear c0 c1 c2 c3 c4 c5 c6 hown hxr
          generalize wr.heap.size = ba at *
          generalize wr.alloc (.cells #[.string x.kind, .int .i64 x.A, .int .i64 x.B, .int .i64 x.C, .int .i64 x.D, .string x.S, .slice ko x.keep.length kc] 36) = wa at *
          obtain ⟨c, f⟩ := own_cells 0 ha rfl
          by_cases hkd : (x.kind.toList == [116, 105, 99, 107]) = true
          · by_cases hin : 0 ≤ x.A ∧ x.A ≤ 100000
            · have hin' := hin
              obtain ⟨i1, i2⟩ := hin'
              go_wp2_with fail
              refine (rbucket_tick b2 rate burst lev x.A _ wa (own_pick 1 ha rfl) i1 i2 l1 l2 n1 n2 n4).mono ?_
              rintro e w4 ⟨rfl, hx4, h4'⟩
              have h4 := own_put ha 1 rfl h4'
              clear c f
              obtain ⟨c, f⟩ := own_cells 0 h4 rfl
              go_wp2_with fail
              refine (bucket_tick b1 rate burst lev x.A _ w4 (own_pick 2 h4 rfl) l1 (by omega) n1 n2 n4).mono ?_
              rintro e w5 ⟨rfl, hx5, h5'⟩
              rw [if_pos hin]
              go_wp2_with fail
              refine (same_any 0 0 w5 (by omega)).mono ?_
              rintro e w6 ⟨rfl, rfl⟩
              go_wp2_with fail
              clear c f h4'
              have h5 := own_put h4 2 rfl h5'
              rw [if_pos hin] at h5
              clear h4 h5'
              have m1 : 0 ≤ min burst (lev + x.A * rate) := by have := Int.mul_nonneg i1 n1; omega
              have m2 : min burst (lev + x.A * rate) ≤ burst := by omega
              generalize min burst (lev + x.A * rate) = m at *
              obtain ⟨cr, fr⟩ := own_cells 1 h5 rfl
              go_wp2_with fail
              go_quiet ((go_at_call 21; exact Calls.quiet_of_same ((bucket_level b1 rate burst m _ _ (own_drewN _ (own_pick 2 h5 rfl))).mono fun _ _ h => ⟨h.1, h.2.symm⟩)))
              go_wp2_with fail
              go_roundw
              case rel =>
                refine ⟨k + 1, by omega, by go_num, ((hxa.trans hx4).trans hx5).drewN _, m, m1, m2, own_drewN _ ?_⟩
                exact own_order [0, 1, 2, 3] 4 h5 rfl (by decide) rfl |> own_drop
              case measure => simp [intOf]; omega
            · go_wp2_with fail
              all_goals
                refine (bucket_tick b1 rate burst lev x.A _ wa (own_pick 2 ha rfl) l1 (by omega) n1 n2 n4).mono ?_
                rintro e w5 ⟨rfl, hx5, h5'⟩
                rw [if_neg hin]
                have h5 := own_put ha 2 rfl h5'
                rw [if_neg hin] at h5
                clear c f h5'
                go_wp2_with fail
                refine (same_any 1 1 w5 (by omega)).mono ?_
                rintro e w6 ⟨rfl, rfl⟩
                go_wp2_with fail
                obtain ⟨cr, fr⟩ := own_cells 1 h5 rfl
                go_wp2_with fail
                go_quiet ((go_at_call 21; exact Calls.quiet_of_same ((bucket_level b1 rate burst lev _ _ (own_drewN _ (own_pick 2 h5 rfl))).mono fun _ _ h => ⟨h.1, h.2.symm⟩)))
                go_wp2_with fail
                go_roundw
                case rel =>
                  refine ⟨k + 1, by omega, by go_num, (hxa.trans hx5).drewN _, lev, l1, l2, own_drewN _ ?_⟩
                  exact own_order [0, 1, 2, 3] 4 h5 rfl (by decide) rfl |> own_drop
                case measure => simp [intOf]; omega
          · go_wp2_with fail
            go_region_held3 (fun w' => w'.cell? ⟨ba, 1, none⟩ = some (.int .i64 x.A)) (first | exact (own_cells 0 ha rfl).1 1 | exact (own_cells 1 h4 rfl).1 1 | exact (own_cells 2 h5 rfl).1 1)
              (first | (go_at_call 19; refine (bucket_take b1 rate burst lev x.A _ _ (by omega) (own_pick 2 (own_drew ha) rfl)).mono ?_; rintro e w4 ⟨rfl, hx4, h4⟩) | (go_at_call 20; refine (rbucket_take b2 rate burst lev x.A _ _ (by omega) (own_pick 2 h4 rfl)).mono ?_; rintro e w5 ⟨rfl, hx5, h5⟩))
            go_wp2_with fail
            have h6 : own w5 [rbucketAt b2 rate burst (if 0 ≤ x.A ∧ x.A ≤ lev then lev - x.A else lev), bucketAt b1 rate burst (if 0 ≤ x.A ∧ x.A ≤ lev then lev - x.A else lev), exactly w] := own_erase 2 h5 rfl
            have m1 : 0 ≤ (if 0 ≤ x.A ∧ x.A ≤ lev then lev - x.A else lev) := by split <;> omega
            have m2 : (if 0 ≤ x.A ∧ x.A ≤ lev then lev - x.A else lev) ≤ burst := by split <;> omega
            clear h4 h5 c f
            generalize (if 0 ≤ x.A ∧ x.A ≤ lev then lev - x.A else lev) = m at *
            obtain ⟨cr, fr⟩ := own_cells 0 h6 rfl
            go_quiet ((go_at_call 21; exact Calls.quiet_of_same ((bucket_level b1 rate burst m _ _ (own_drewN _ (own_pick 1 h6 rfl))).mono fun _ _ h => ⟨h.1, h.2.symm⟩)))
            go_wp2_with fail
            go_roundw
            case rel => exact ⟨k + 1, by omega, by go_num, ((hxa.drew.trans hx4).trans hx5).drewN _, m, m1, m2, own_drewN _ h6⟩
            case measure => simp [intOf]; omega
        · clear hao hat hv
          go_wp2_with fail
          go_ret
          exact ⟨rfl, below_of 2 hown rfl hxr⟩
    · have hN' : newOk rate burst = false := by simpa using hN
      have hN2 := hN'
      simp only [newOk, decide_eq_false_iff_not] at hN2
      go_wp2_with fail
      refine (bucket_new_no rate burst w1 hN').mono ?_
      rintro e w2 ⟨rfl, rfl⟩
      go_wp2_with fail
      all_goals
        refine (same_any 1 1 w1 (by omega)).mono ?_
        rintro e w6 ⟨rfl, rfl⟩
        go_wp2_with fail
        go_ret
        exact ⟨rfl, below_of 0 h1 rfl hx1⟩
  · go_wp2_with fail
    go_ret
    exact ⟨rfl, below_of 0 h1 rfl hx1⟩
end Go.Proofs.Ytbpblokfiajpjaa
