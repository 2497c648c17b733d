/- TopSpeed answers true: what is taken from a bucket is at most its burst and what came by ticks. No conditions. -/
import Derived.Test.YtbpblokfiajpjaaBucketLaw
namespace Go.Proofs.Ytbpblokfiajpjaa
open Go.RowKit Go.SL

def sInv (rate burst : Int) (b1 : Nat) (w0 : World) (n : Nat) (most took i : Value) (wr : World) : Prop :=
  ∃ k : Nat, k ≤ n ∧ i = .int .i64 k ∧ Ext w0 wr ∧ ∃ lev m t : Int, 0 ≤ lev ∧ lev ≤ burst ∧ 0 ≤ t ∧ t + lev ≤ m ∧ m ≤ 1000 + 100000000 * k ∧ most = .int .i64 m ∧ took = .int .i64 t ∧ own wr [bucketAt b1 rate burst lev, exactly w0]

set_option maxRecDepth 100000 in
set_option maxHeartbeats 4000000 in
theorem topSpeed_walk (rate burst : Int) (v : Value) (l : List Act) (w : World) (hv : ActsAt w v l) :
    Calls Try.prog 6 #[.int .i64 rate, .int .i64 burst, v] w fun e w' => e = .returned (.bool true) ∧ Below w.heap.size w w' := by
  obtain ⟨ao, b, off, cap, rfl, hlen, hao, hat⟩ := hv.form
  have h0 := own_exactly w
  by_cases hN : newOk rate burst = true
  · have hN' := hN
    simp only [newOk, decide_eq_true_eq] at hN'
    obtain ⟨n1, n2, n3, n4⟩ := hN'
    go_enter Try.func6, Try.ntmps6
    go_wp2_with fail
    refine (bucket_new_yes rate burst _ w hN h0).mono ?_
    rintro e w2 ⟨rfl, hx2, h2⟩
    go_wp2_with fail
    refine (light_any _ l 80 w2 (hv.later 1 h2 rfl)).mono ?_
    rintro e w2' ⟨rfl, rfl⟩
    by_cases hL : light l 80 = true
    · have hL80 : l.length ≤ 80 := by
        simp only [light, Bool.and_eq_true, decide_eq_true_eq] at hL
        omega
      go_wp2_with fail
      generalize w.heap.size = b1 at h2 ⊢
      go_loopw [9, 10, 11] (sInv rate burst b1 w l.length) (fun _ _ i _ => l.length - (intOf i).toNat)
      case atStart => exact ⟨0, Nat.zero_le _, rfl, hx2, burst, burst, 0, n3, Int.le_refl _, Int.le_refl _, by omega, by omega, rfl, rfl, h2⟩
      case round =>
        obtain ⟨k, hk, rfl, hxr, lev, m, t, l1, l2, t1, t2, m1, rfl, rfl, hown⟩ := hrel
        by_cases hlt : k < l.length
        · obtain rfl := hao (by omega)
          obtain ⟨c0, c1, c2, c3, c4, c5, c6⟩ := (hat k hlt).later 1 hown rfl
          have ok := hv.2 _ (all_getD hlt)
          obtain ⟨ko, kc, hkv, hkl⟩ := keep_len ok.keep
          rw [hkv] at c6
          obtain ⟨A1, A2⟩ := ok.A
          generalize l.getD k actNone = x at *
          clear hao hat hv hkv ok h0 h2 hx2
          go_upto_region 10 with (fail)
          have ha := own_alloc hown (.cells #[.string x.kind, .int .i64 x.A, .int .i64 x.B, .int .i64 x.C, .int .i64 x.D, .string x.S, .slice ko x.keep.length kc] 36)
          have hxa := hxr.alloc (.cells #[.string x.kind, .int .i64 x.A, .int .i64 x.B, .int .i64 x.C, .int .i64 x.D, .string x.S, .slice ko x.keep.length kc] 36)
          clear c0 c1 c2 c3 c4 c5 c6 hown hxr
          generalize wr.heap.size = ba at *
          generalize wr.alloc (.cells #[.string x.kind, .int .i64 x.A, .int .i64 x.B, .int .i64 x.C, .int .i64 x.D, .string x.S, .slice ko x.keep.length kc] 36) = wa at *
          obtain ⟨c, f⟩ := own_cells 0 ha rfl
          by_cases hkd : (x.kind.toList == [116, 105, 99, 107]) = true
          · by_cases hin : 0 ≤ x.A ∧ x.A ≤ 100000
            · have hin' := hin
              obtain ⟨i1, i2⟩ := hin'
              go_wp2_with fail
              refine (bucket_tick b1 rate burst lev x.A _ wa (own_pick 1 ha rfl) l1 (by omega) n1 n2 n4).mono ?_
              rintro e w5 ⟨rfl, hx5, h5'⟩
              rw [if_pos hin]
              rw [if_pos hin] at h5'
              clear c f
              have h5 := own_put ha 1 rfl h5'
              obtain ⟨c, f⟩ := own_cells 0 h5 rfl
              obtain ⟨q1, q2⟩ := mul_le x.A rate i1 i2 n1 n2
              have e1 : IntKind.i64.wrap (rate * x.A) = rate * x.A := IntWalk.i64_in _ (by rw [Int.mul_comm]; omega)
              have e2 : IntKind.i64.wrap (m + rate * x.A) = m + rate * x.A := IntWalk.i64_in _ (by rw [Int.mul_comm]; omega)
              rw [errV_0]
              go_wp2_with fail
              go_roundw
              case rel =>
                refine ⟨k + 1, by omega, by go_num, hxa.trans hx5, min burst (lev + x.A * rate), m + rate * x.A, t, by omega, by omega, t1, ?_, ?_, rfl, rfl, own_drop h5⟩
                · rw [Int.mul_comm rate]; omega
                · rw [Int.mul_comm rate]; omega
              case measure => simp [intOf]; omega
            · go_wp2_with fail
              refine (bucket_tick b1 rate burst lev x.A _ wa (own_pick 1 ha rfl) l1 (by omega) n1 n2 n4).mono ?_
              rintro e w5 ⟨rfl, hx5, h5'⟩
              rw [if_neg hin]
              rw [if_neg hin] at h5'
              clear c f
              have h5 := own_put ha 1 rfl h5'
              rw [errV_pos (by omega)]
              go_wp2_with fail
              go_roundw
              case rel => exact ⟨k + 1, by omega, by go_num, hxa.trans hx5, lev, m, t, l1, l2, t1, t2, by omega, rfl, rfl, own_drop h5⟩
              case measure => simp [intOf]; omega
          · go_wp2_with fail
            refine (bucket_take b1 rate burst lev x.A _ wa (by omega) (own_pick 1 ha rfl)).mono ?_
            rintro e w5 ⟨rfl, hx5, h5'⟩
            clear c f
            by_cases hin : 0 ≤ x.A ∧ x.A ≤ lev
            · have hin' := hin
              obtain ⟨i1, i2⟩ := hin'
              rw [if_pos hin] at h5'
              have h5 := own_put ha 1 rfl h5'
              obtain ⟨c, f⟩ := own_cells 0 h5 rfl
              simp only [hin, and_self, decide_true]
              go_wp2_with fail
              refine (bucket_level b1 rate burst (lev - x.A) _ _ (own_pick 1 h5 rfl)).mono ?_
              rintro e w6 ⟨rfl, rfl⟩
              go_wp2_with fail
              refine (bucket_level b1 rate burst (lev - x.A) _ _ (own_pick 1 h5 rfl)).mono ?_
              rintro e w6 ⟨rfl, rfl⟩
              go_wp2_with fail
              go_roundw
              case rel => exact ⟨k + 1, by omega, by go_num, hxa.trans hx5, lev - x.A, m, t + x.A, by omega, by omega, by omega, by omega, by omega, rfl, rfl, own_drop h5⟩
              case measure => simp [intOf]; omega
            · rw [if_neg hin] at h5'
              have h5 := own_put ha 1 rfl h5'
              simp only [hin, decide_false]
              go_wp2_with fail
              refine (bucket_level b1 rate burst lev _ _ (own_pick 1 h5 rfl)).mono ?_
              rintro e w6 ⟨rfl, rfl⟩
              go_wp2_with fail
              refine (bucket_level b1 rate burst lev _ _ (own_pick 1 h5 rfl)).mono ?_
              rintro e w6 ⟨rfl, rfl⟩
              go_wp2_with fail
              go_roundw
              case rel => exact ⟨k + 1, by omega, by go_num, hxa.trans hx5, lev, m, t, l1, l2, t1, t2, by omega, rfl, rfl, own_drop h5⟩
              case measure => simp [intOf]; omega
        · clear hao hat hv
          go_wp2_with fail
          go_ret
          exact ⟨rfl, below_of 1 hown rfl hxr⟩
    · go_wp2_with fail
      go_ret
      exact ⟨rfl, below_of 1 h2 rfl hx2⟩
  · have hN' : newOk rate burst = false := by simpa using hN
    go_enter Try.func6, Try.ntmps6
    go_wp2_with fail
    refine (bucket_new_no rate burst w hN').mono ?_
    rintro e w2 ⟨rfl, rfl⟩
    rw [errV_pos (by omega)]
    go_wp2_with fail
    go_ret
    exact ⟨rfl, Below.refl _ _⟩
end Go.Proofs.Ytbpblokfiajpjaa
