/- DevSays answers true, whatever the device and the acts, and leaves what it was given as it was. No conditions. -/
import Derived.Test.YtbpblokfiajpjaaDevSaysLoop
namespace Go.Proofs.Ytbpblokfiajpjaa
open Go.RowKit Go.SL
attribute [local go_sem ↓] Go.wp_at_zero Go.wp_at_succ

set_option maxRecDepth 100000 in
set_option maxHeartbeats 8000000 in
theorem devSays_walk (sec : Int) (s : ByteArray) (v : Value) (l : List Act) (w : World) (hs : s.size ≤ 9223372036854775807) (hv : ActsAt w v l) :
    Calls Try.prog 7 #[.int .i64 sec, .string s, v] w fun e w' => e = .returned (.bool true) ∧ Below w.heap.size w w' := by
  obtain ⟨ao, b, off, cap, rfl, hlen, hao, hat⟩ := hv.form
  have h0 := own_exactly w
  go_enter Try.func7, Try.ntmps7
  go_wp2_with fail
  refine (stays_any _ w h0).mono ?_
  rintro e w1 ⟨rfl, hx1, h1⟩
  go_wp2_with fail
  refine (light_any _ l 60 w1 (hv.later 0 h1 rfl)).mono ?_
  rintro e w1' ⟨rfl, rfl⟩
  by_cases hL : light l 60 = true
  · have hL60 : l.length ≤ 60 := by
      simp only [light, Bool.and_eq_true, decide_eq_true_eq] at hL; omega
    have HL : Hid (∀ a ∈ l, a.keep.length ≤ 300) := Lib.hid (by
      simp only [light, Bool.and_eq_true, List.all_eq_true] at hL
      intro a ha
      have := hL.2 a ha
      simp only [lightOne, Bool.and_eq_true, decide_eq_true_eq] at this
      exact this.2)
    by_cases h4000 : (s.size : Int) ≤ 4000
    · have ht := tmod16 s.size
      go_wp2_with fail
      refine (dev_of s (by omega) _ w1 h1).mono ?_
      rintro e w2 ⟨hno, hyes⟩
      have HAT := Lib.hid hat
      have HV := Lib.hid hv
      clear hat hv
      by_cases hok : ofOk s = true
      · obtain ⟨xb, rfl, hx2, h2⟩ := hyes hok
        clear hno hyes
        have hokd := ofDev_ok hok
        have hcat := ofDev_cat hok
        have hfl : (ofDev s).fl.length = s.size / 16 := cutAt_length _ _ _
        simp only [ofOk, decide_eq_true_eq] at hok
        obtain ⟨o1, o2, o3⟩ := hok
        rw [o1] at ht
        have hz1 : ¬ s.size = 0 := by omega
        have hz2 : ¬ s = ByteArray.empty := fun h => hz1 (by rw [h]; rfl)
        have hz3 : ¬ ((s.size : Int) = 0) := by omega
        have hz4 : (s.size : Int) ≤ 3200 := by omega
        have hz5 : ((s.size : Int) == 0) = false := by simp [hz1]
        go_wp2_with fail
        refine (dev_bytes xb _ hokd _ w2 h2).mono ?_
        rintro e w3 ⟨rfl, hx3, h3⟩
        rw [hcat]
        go_wp2_with fail
        refine (dev_size xb _ _ w3 h3).mono ?_
        rintro e w3' ⟨rfl, rfl⟩
        rw [hfl]
        have e16 : IntKind.i64.wrap (16 * ((s.size / 16 : Nat) : Int)) = (s.size : Int) := by rw [IntWalk.i64_in _ (by omega)]; omega
        go_upto_region 10 with (fail)
        have h9 := own_drop h3
        have hx9 := (hx1.trans hx2).trans hx3
        clear h3 hx2 hx3 hokd hcat hfl o1 o2 o3 hz1 hz2 hz3 hz4 hz5 e16
        generalize w3 = w9 at *
        clear h0 h1 h2 hx1 h4000 ht
        by_cases hsec : sectOk sec = true
        · have hsec' := hsec
          simp only [sectOk, decide_eq_true_eq] at hsec'
          obtain ⟨s1, s2⟩ := hsec'
          obtain ⟨n, rfl⟩ := Int.eq_ofNat_of_zero_le (show 0 ≤ sec by omega)
          go_wp2_with fail
          refine (dev_new_yes n _ w9 hsec h9).mono ?_
          rintro e wa ⟨b1, rfl, hxa, ha⟩
          go_wp2_with fail
          refine (rdev_new n _ wa (by omega) ha).mono ?_
          rintro e wb ⟨b2, rfl, hxb, hb⟩
          have hb' := own_behind [_] hb
          have hx := (hx9.trans hxa).trans hxb
          clear hx9 hxa hxb ha hb h9
          go_wp2_with fail
          refine wp_loop (dWI n (.slice ao l.length cap) w l.length) (dMu l.length) ?_ ?_
          · exact dWI_mk rfl rfl rfl rfl ⟨0, Nat.zero_le _, rfl, hx, b1, b2, newDev n, rfl, rfl, newDev_ok (by omega), by simp [newDev], by simp [newDev], by simp [newDev], hb'⟩
          · intro a w'' hI
            refine dRound (by omega) hao hL60 HL.out HAT HV _ ?_ a w'' hI
            rintro a w' ⟨T, d, r, i, ⟨q, hq, rfl, hxr, b1, b2, m, rfl, rfl, okm, hn, hpq, hwq, hown⟩, rfl⟩
            go_wp2_with fail
            refine (asdev_any b1 b2 m okm _ w' hown).mono ?_
            rintro e w7 ⟨rfl, hx7, h7⟩
            go_wp2_with fail
            go_ret
            exact ⟨rfl, below_of 2 h7 rfl (hxr.trans hx7)⟩
        · have hsec' : sectOk sec = false := by simpa using hsec
          have hsec2 := hsec'
          simp only [sectOk, decide_eq_false_iff_not] at hsec2
          go_wp2_with fail
          refine (dev_new_no sec w9 hsec').mono ?_
          rintro e wa ⟨rfl, rfl⟩
          by_cases hsec3 : sec < 1
          · go_wp2_with fail
            refine (same_any 1 1 _ (by omega)).mono ?_
            rintro e w5 ⟨rfl, rfl⟩
            go_wp2_with fail
            go_ret
            exact ⟨rfl, below_of 0 h9 rfl hx9⟩
          · have hsec4 : (200 : Int) < sec := by omega
            go_wp2_with fail
            refine (same_any 1 1 _ (by omega)).mono ?_
            rintro e w5 ⟨rfl, rfl⟩
            go_wp2_with fail
            go_ret
            exact ⟨rfl, below_of 0 h9 rfl hx9⟩
      · have hok' : ofOk s = false := by simpa using hok
        obtain ⟨rfl, rfl⟩ := hno hok'
        clear hno hyes
        simp only [ofOk, decide_eq_false_iff_not] at hok'
        by_cases hmod : s.size % 16 = 0
        · rw [hmod] at ht
          by_cases hz : s.size = 0
          · go_wp2_with fail
            refine (same_any 1 1 w2 (by omega)).mono ?_
            rintro e w3' ⟨rfl, rfl⟩
            go_upto_region 10 with (fail)
            have h9 := h1
            have hx9 := hx1
            have h2 := trivial
            generalize w2 = w9 at *
            clear h0 h1 h2 hx1 h4000 ht
            by_cases hsec : sectOk sec = true
            · have hsec' := hsec
              simp only [sectOk, decide_eq_true_eq] at hsec'
              obtain ⟨s1, s2⟩ := hsec'
              obtain ⟨n, rfl⟩ := Int.eq_ofNat_of_zero_le (show 0 ≤ sec by omega)
              go_wp2_with fail
              refine (dev_new_yes n _ w9 hsec h9).mono ?_
              rintro e wa ⟨b1, rfl, hxa, ha⟩
              go_wp2_with fail
              refine (rdev_new n _ wa (by omega) ha).mono ?_
              rintro e wb ⟨b2, rfl, hxb, hb⟩
              have hb' := own_behind [_] hb
              have hx := (hx9.trans hxa).trans hxb
              clear hx9 hxa hxb ha hb h9
              go_wp2_with fail
              refine wp_loop (dWI n (.slice ao l.length cap) w l.length) (dMu l.length) ?_ ?_
              · exact dWI_mk rfl rfl rfl rfl ⟨0, Nat.zero_le _, rfl, hx, b1, b2, newDev n, rfl, rfl, newDev_ok (by omega), by simp [newDev], by simp [newDev], by simp [newDev], hb'⟩
              · intro a w'' hI
                refine dRound (by omega) hao hL60 HL.out HAT HV _ ?_ a w'' hI
                rintro a w' ⟨T, d, r, i, ⟨q, hq, rfl, hxr, b1, b2, m, rfl, rfl, okm, hn, hpq, hwq, hown⟩, rfl⟩
                go_wp2_with fail
                refine (asdev_any b1 b2 m okm _ w' hown).mono ?_
                rintro e w7 ⟨rfl, hx7, h7⟩
                go_wp2_with fail
                go_ret
                exact ⟨rfl, below_of 2 h7 rfl (hxr.trans hx7)⟩
            · have hsec' : sectOk sec = false := by simpa using hsec
              have hsec2 := hsec'
              simp only [sectOk, decide_eq_false_iff_not] at hsec2
              go_wp2_with fail
              refine (dev_new_no sec w9 hsec').mono ?_
              rintro e wa ⟨rfl, rfl⟩
              by_cases hsec3 : sec < 1
              · go_wp2_with fail
                refine (same_any 1 1 _ (by omega)).mono ?_
                rintro e w5 ⟨rfl, rfl⟩
                go_wp2_with fail
                go_ret
                exact ⟨rfl, below_of 0 h9 rfl hx9⟩
              · have hsec4 : (200 : Int) < sec := by omega
                go_wp2_with fail
                refine (same_any 1 1 _ (by omega)).mono ?_
                rintro e w5 ⟨rfl, rfl⟩
                go_wp2_with fail
                go_ret
                exact ⟨rfl, below_of 0 h9 rfl hx9⟩
          · have hbig : (3200 : Int) < s.size := by omega
            go_wp2_with fail
            refine (same_any 1 1 w2 (by omega)).mono ?_
            rintro e w3' ⟨rfl, rfl⟩
            go_upto_region 10 with (fail)
            have h9 := h1
            have hx9 := hx1
            have h2 := trivial
            generalize w2 = w9 at *
            clear h0 h1 h2 hx1 h4000 ht
            by_cases hsec : sectOk sec = true
            · have hsec' := hsec
              simp only [sectOk, decide_eq_true_eq] at hsec'
              obtain ⟨s1, s2⟩ := hsec'
              obtain ⟨n, rfl⟩ := Int.eq_ofNat_of_zero_le (show 0 ≤ sec by omega)
              go_wp2_with fail
              refine (dev_new_yes n _ w9 hsec h9).mono ?_
              rintro e wa ⟨b1, rfl, hxa, ha⟩
              go_wp2_with fail
              refine (rdev_new n _ wa (by omega) ha).mono ?_
              rintro e wb ⟨b2, rfl, hxb, hb⟩
              have hb' := own_behind [_] hb
              have hx := (hx9.trans hxa).trans hxb
              clear hx9 hxa hxb ha hb h9
              go_wp2_with fail
              refine wp_loop (dWI n (.slice ao l.length cap) w l.length) (dMu l.length) ?_ ?_
              · exact dWI_mk rfl rfl rfl rfl ⟨0, Nat.zero_le _, rfl, hx, b1, b2, newDev n, rfl, rfl, newDev_ok (by omega), by simp [newDev], by simp [newDev], by simp [newDev], hb'⟩
              · intro a w'' hI
                refine dRound (by omega) hao hL60 HL.out HAT HV _ ?_ a w'' hI
                rintro a w' ⟨T, d, r, i, ⟨q, hq, rfl, hxr, b1, b2, m, rfl, rfl, okm, hn, hpq, hwq, hown⟩, rfl⟩
                go_wp2_with fail
                refine (asdev_any b1 b2 m okm _ w' hown).mono ?_
                rintro e w7 ⟨rfl, hx7, h7⟩
                go_wp2_with fail
                go_ret
                exact ⟨rfl, below_of 2 h7 rfl (hxr.trans hx7)⟩
            · have hsec' : sectOk sec = false := by simpa using hsec
              have hsec2 := hsec'
              simp only [sectOk, decide_eq_false_iff_not] at hsec2
              go_wp2_with fail
              refine (dev_new_no sec w9 hsec').mono ?_
              rintro e wa ⟨rfl, rfl⟩
              by_cases hsec3 : sec < 1
              · go_wp2_with fail
                refine (same_any 1 1 _ (by omega)).mono ?_
                rintro e w5 ⟨rfl, rfl⟩
                go_wp2_with fail
                go_ret
                exact ⟨rfl, below_of 0 h9 rfl hx9⟩
              · have hsec4 : (200 : Int) < sec := by omega
                go_wp2_with fail
                refine (same_any 1 1 _ (by omega)).mono ?_
                rintro e w5 ⟨rfl, rfl⟩
                go_wp2_with fail
                go_ret
                exact ⟨rfl, below_of 0 h9 rfl hx9⟩
        · have hp : ((0 : Int) < ((s.size % 16 : Nat) : Int)) := by omega
          go_wp2_with fail
          refine (same_any 1 1 w2 (by omega)).mono ?_
          rintro e w3' ⟨rfl, rfl⟩
          go_upto_region 10 with (fail)
          have h9 := h1
          have hx9 := hx1
          have h2 := trivial
          generalize w2 = w9 at *
          clear h0 h1 h2 hx1 h4000 ht
          by_cases hsec : sectOk sec = true
          · have hsec' := hsec
            simp only [sectOk, decide_eq_true_eq] at hsec'
            obtain ⟨s1, s2⟩ := hsec'
            obtain ⟨n, rfl⟩ := Int.eq_ofNat_of_zero_le (show 0 ≤ sec by omega)
            go_wp2_with fail
            refine (dev_new_yes n _ w9 hsec h9).mono ?_
            rintro e wa ⟨b1, rfl, hxa, ha⟩
            go_wp2_with fail
            refine (rdev_new n _ wa (by omega) ha).mono ?_
            rintro e wb ⟨b2, rfl, hxb, hb⟩
            have hb' := own_behind [_] hb
            have hx := (hx9.trans hxa).trans hxb
            clear hx9 hxa hxb ha hb h9
            go_wp2_with fail
            refine wp_loop (dWI n (.slice ao l.length cap) w l.length) (dMu l.length) ?_ ?_
            · exact dWI_mk rfl rfl rfl rfl ⟨0, Nat.zero_le _, rfl, hx, b1, b2, newDev n, rfl, rfl, newDev_ok (by omega), by simp [newDev], by simp [newDev], by simp [newDev], hb'⟩
            · intro a w'' hI
              refine dRound (by omega) hao hL60 HL.out HAT HV _ ?_ a w'' hI
              rintro a w' ⟨T, d, r, i, ⟨q, hq, rfl, hxr, b1, b2, m, rfl, rfl, okm, hn, hpq, hwq, hown⟩, rfl⟩
              go_wp2_with fail
              refine (asdev_any b1 b2 m okm _ w' hown).mono ?_
              rintro e w7 ⟨rfl, hx7, h7⟩
              go_wp2_with fail
              go_ret
              exact ⟨rfl, below_of 2 h7 rfl (hxr.trans hx7)⟩
          · have hsec' : sectOk sec = false := by simpa using hsec
            have hsec2 := hsec'
            simp only [sectOk, decide_eq_false_iff_not] at hsec2
            go_wp2_with fail
            refine (dev_new_no sec w9 hsec').mono ?_
            rintro e wa ⟨rfl, rfl⟩
            by_cases hsec3 : sec < 1
            · go_wp2_with fail
              refine (same_any 1 1 _ (by omega)).mono ?_
              rintro e w5 ⟨rfl, rfl⟩
              go_wp2_with fail
              go_ret
              exact ⟨rfl, below_of 0 h9 rfl hx9⟩
            · have hsec4 : (200 : Int) < sec := by omega
              go_wp2_with fail
              refine (same_any 1 1 _ (by omega)).mono ?_
              rintro e w5 ⟨rfl, rfl⟩
              go_wp2_with fail
              go_ret
              exact ⟨rfl, below_of 0 h9 rfl hx9⟩
    · go_wp2_with fail
      go_ret
      exact ⟨rfl, below_of 0 h1 rfl hx1⟩
  · go_wp2_with fail
    go_ret
    exact ⟨rfl, below_of 0 h1 rfl hx1⟩
end Go.Proofs.Ytbpblokfiajpjaa
