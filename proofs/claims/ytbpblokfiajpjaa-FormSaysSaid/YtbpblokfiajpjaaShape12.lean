/- Desks read back by the program. No conditions. -/
import Derived.Test.YtbpblokfiajpjaaShape11
namespace Go.Proofs.Ytbpblokfiajpjaa
open Go.RowKit Go.SL Go.Crc
attribute [local go_sem ↓] Go.wp_at_zero Go.wp_at_succ

set_option maxRecDepth 100000 in
set_option maxHeartbeats 4000000 in
theorem readdesk_any (s : ByteArray) (hs : s.size ≤ 9223372036854775807) (R : List SL.HP) (w : World) (H : own w R) :
    Calls Try.prog 43 #[.string s] w fun e w' => e = .returned (.tuple #[deskV (deskOf s).1.1 (deskOf s).1.2.1 (deskOf s).1.2.2.1 (deskOf s).1.2.2.2.1 (deskOf s).1.2.2.2.2, errV (deskOf s).2]) ∧ Ext w w' ∧ own w' R := by
  have ha := own_alloc H (.cells #[.int .i64 0, .int .i64 0, .int .i64 0, .int .i64 0, .int .i64 0] 55)
  have hxa := (Ext.refl w).alloc (.cells #[.int .i64 0, .int .i64 0, .int .i64 0, .int .i64 0, .int .i64 0] 55)
  rcases openF_nonneg s with hF | hF
  · have h16 := openF_size hF
    have e : deskOf s = if deskOfBad s then ((0, 0, 0, 0, 0), 2) else (deskGood s, 0) := by rw [deskOf, if_neg (by omega)]
    rw [e]
    clear e
    have h16' : (s.size : Int) = 16 := by omega
    go_enter Try.func43, Try.ntmps43
    go_upto_region 1 with (fail)
    generalize w.heap.size = g at *
    generalize w.alloc (.cells #[.int .i64 0, .int .i64 0, .int .i64 0, .int .i64 0, .int .i64 0] 55) = w1 at *
    go_wp2_with fail
    refine (open_any s hs _ w1 ha).mono ?_
    rintro e w2 ⟨rfl, hx2, h2⟩
    rw [hF, errV_0, show openS s = s.extract 0 12 from if_pos hF]
    have hu : (s.extract 0 12).size = 12 := by simp [ByteArray.size_extract, h16]
    have g2 := bt_extract (i := 2) h16 (by decide)
    have g3 := bt_extract (i := 3) h16 (by decide)
    have g4 := bt_extract (i := 4) h16 (by decide)
    have g5 := bt_extract (i := 5) h16 (by decide)
    have g6 := bt_extract (i := 6) h16 (by decide)
    have g7 := bt_extract (i := 7) h16 (by decide)
    have g8 := bt_extract (i := 8) h16 (by decide)
    generalize s.extract 0 12 = u at *
    have hu' : (u.size : Int) = 12 := by omega
    have q2 := bt_get (s := u) (i := 2) (by omega)
    have q3 := bt_get (s := u) (i := 3) (by omega)
    have q4 := bt_get (s := u) (i := 4) (by omega)
    have q5 := bt_get (s := u) (i := 5) (by omega)
    have q6 := bt_get (s := u) (i := 6) (by omega)
    have q7 := bt_get (s := u) (i := 7) (by omega)
    have q8 := bt_get (s := u) (i := 8) (by omega)
    rw [g2] at q2
    rw [g3] at q3
    rw [g4] at q4
    rw [g5] at q5
    rw [g6] at q6
    rw [g7] at q7
    rw [g8] at q8
    clear g2 g3 g4 g5 g6 g7 g8
    have l2 := bt_le s 2
    have l3 := bt_le s 3
    have l4 := bt_le s 4
    have l5 := bt_le s 5
    have l6 := bt_le s 6
    have l7 := bt_le s 7
    have l8 := bt_le s 8
    have hcond : deskOfBad s ↔ (deskF (bt s 2) (bt s 3) (bt s 4 - 1) (bt s 5 + bt s 6 * 256) (bt s 7 + bt s 8 * 256) ≠ 0 ∨ deskS (bt s 2) (bt s 3) (bt s 4 - 1) (bt s 5 + bt s 6 * 256) (bt s 7 + bt s 8 * 256) ≠ s) := by rw [Int.mul_comm (bt s 6), Int.mul_comm (bt s 8)]; exact Iff.rfl
    have HCD := Lib.hid hcond
    clear hcond
    have hgood : deskGood s = (bt s 2, bt s 3, bt s 4 - 1, bt s 5 + bt s 6 * 256, bt s 7 + bt s 8 * 256) := by rw [Int.mul_comm (bt s 6), Int.mul_comm (bt s 8)]; rfl
    have HX := Lib.hid hgood
    clear hgood
    generalize bt s 2 = x2 at *
    generalize bt s 3 = x3 at *
    generalize bt s 4 = x4 at *
    generalize bt s 5 = x5 at *
    generalize bt s 6 = x6 at *
    generalize bt s 7 = x7 at *
    generalize bt s 8 = x8 at *
    have e2 : IntKind.i64.wrap x2 = x2 := IntWalk.i64_in _ (by omega)
    have e3 : IntKind.i64.wrap x3 = x3 := IntWalk.i64_in _ (by omega)
    have e4 : IntKind.i64.wrap x4 = x4 := IntWalk.i64_in _ (by omega)
    have e4' : IntKind.i64.wrap (x4 - 1) = x4 - 1 := IntWalk.i64_in _ (by omega)
    have e5 : IntKind.i64.wrap x5 = x5 := IntWalk.i64_in _ (by omega)
    have e6 : IntKind.i64.wrap x6 = x6 := IntWalk.i64_in _ (by omega)
    have e6' : IntKind.i64.wrap (x6 * 256) = x6 * 256 := IntWalk.i64_in _ (by omega)
    have e6'' : IntKind.i64.wrap (x5 + x6 * 256) = x5 + x6 * 256 := IntWalk.i64_in _ (by omega)
    have e7 : IntKind.i64.wrap x7 = x7 := IntWalk.i64_in _ (by omega)
    have e8 : IntKind.i64.wrap x8 = x8 := IntWalk.i64_in _ (by omega)
    have e8' : IntKind.i64.wrap (x8 * 256) = x8 * 256 := IntWalk.i64_in _ (by omega)
    have e8'' : IntKind.i64.wrap (x7 + x8 * 256) = x7 + x8 * 256 := IntWalk.i64_in _ (by omega)
    go_upto_region 4 with (fail)
    refine wp_region_held_drew (S := fun _ => True) (by kernel_rfl) trivial (fun hHeld => ?_)
    refine wpAnyH_take (i := 0) (v := ?_) rfl (by kernel_rfl) (by kernel_rfl) (by kernel_rfl) (fun _ _ _ h => h) (Or.inl ⟨by rfl, ?_⟩) (by assumption) ?_
    rotate_left
    · intro w hSw
      go_simp
      try with_reducible rfl
    try simp only [Act.put, List.setIfInBounds_toArray, List.set_cons_zero, List.set_cons_succ]
    refine wpAnyH_take (i := 1) (v := ?_) rfl (by kernel_rfl) (by kernel_rfl) (by kernel_rfl) (fun _ _ _ h => h) (Or.inl ⟨by rfl, ?_⟩) (by assumption) ?_
    rotate_left
    · intro w hSw
      go_simp
      try with_reducible rfl
    try simp only [Act.put, List.setIfInBounds_toArray, List.set_cons_zero, List.set_cons_succ]
    refine wpAnyH_take (i := 2) (v := ?_) rfl (by kernel_rfl) (by kernel_rfl) (by kernel_rfl) (fun _ _ _ h => h) (Or.inl ⟨by rfl, ?_⟩) (by assumption) ?_
    rotate_left
    · intro w hSw
      go_simp
      try with_reducible rfl
    try simp only [Act.put, List.setIfInBounds_toArray, List.set_cons_zero, List.set_cons_succ]
    refine wpAnyH_take (i := 3) (v := ?_) rfl (by kernel_rfl) (by kernel_rfl) (by kernel_rfl) (fun _ _ _ h => h) (Or.inl ⟨by rfl, ?_⟩) (by assumption) ?_
    rotate_left
    · intro w hSw
      go_simp
      try with_reducible rfl
    try simp only [Act.put, List.setIfInBounds_toArray, List.set_cons_zero, List.set_cons_succ]
    refine wpAnyH_take (i := 4) (v := ?_) rfl (by kernel_rfl) (by kernel_rfl) (by kernel_rfl) (fun _ _ _ h => h) (Or.inl ⟨by rfl, ?_⟩) (by assumption) ?_
    rotate_left
    · intro w hSw
      go_simp
      try with_reducible rfl
    try simp only [Act.put, List.setIfInBounds_toArray, List.set_cons_zero, List.set_cons_succ]
    refine wpAnyH_take (i := 5) (v := ?_) rfl (by kernel_rfl) (by kernel_rfl) (by kernel_rfl) (fun _ _ _ h => h) (Or.inl ⟨by rfl, ?_⟩) (by assumption) ?_
    rotate_left
    · intro w hSw
      go_simp
      try with_reducible rfl
    try simp only [Act.put, List.setIfInBounds_toArray, List.set_cons_zero, List.set_cons_succ]
    refine wpAnyH_take (i := 6) (v := ?_) rfl (by kernel_rfl) (by kernel_rfl) (by kernel_rfl) (fun _ _ _ h => h) (Or.inl ⟨by rfl, ?_⟩) (by assumption) ?_
    rotate_left
    · intro w hSw
      go_simp
      try with_reducible rfl
    try simp only [Act.put, List.setIfInBounds_toArray, List.set_cons_zero, List.set_cons_succ]
    refine wpAnyH_take (i := 7) (v := ?_) rfl (by kernel_rfl) (by kernel_rfl) (by kernel_rfl) (fun _ _ _ h => h) (Or.inl ⟨by rfl, ?_⟩) (by assumption) ?_
    rotate_left
    · intro w hSw
      go_simp
      try with_reducible rfl
    try simp only [Act.put, List.setIfInBounds_toArray, List.set_cons_zero, List.set_cons_succ]
    refine wpAnyH_take (i := 8) (v := ?_) rfl (by kernel_rfl) (by kernel_rfl) (by kernel_rfl) (fun _ _ _ h => h) (Or.inl ⟨by rfl, ?_⟩) (by assumption) ?_
    rotate_left
    · intro w hSw
      go_simp
      try with_reducible rfl
    try simp only [Act.put, List.setIfInBounds_toArray, List.set_cons_zero, List.set_cons_succ]
    refine wpAnyH_take (i := 9) (v := ?_) rfl (by kernel_rfl) (by kernel_rfl) (by kernel_rfl) (fun _ _ _ h => h) (Or.inl ⟨by rfl, ?_⟩) (by assumption) ?_
    rotate_left
    · intro w hSw
      go_simp
      try with_reducible rfl
    try simp only [Act.put, List.setIfInBounds_toArray, List.set_cons_zero, List.set_cons_succ]
    refine wpAnyH_take (i := 10) (v := ?_) rfl (by kernel_rfl) (by kernel_rfl) (by kernel_rfl) (fun _ _ _ h => h) (Or.inl ⟨by rfl, ?_⟩) (by assumption) ?_
    rotate_left
    · intro w hSw
      go_simp
      try with_reducible rfl
    try simp only [Act.put, List.setIfInBounds_toArray, List.set_cons_zero, List.set_cons_succ]
    refine wpAnyH_take (i := 11) (v := ?_) rfl (by kernel_rfl) (by kernel_rfl) (by kernel_rfl) (fun _ _ _ h => h) (Or.inl ⟨by rfl, ?_⟩) (by assumption) ?_
    rotate_left
    · intro w hSw
      go_simp
      try with_reducible rfl
    try simp only [Act.put, List.setIfInBounds_toArray, List.set_cons_zero, List.set_cons_succ]
    refine wpAnyH_take (i := 12) (v := ?_) rfl (by kernel_rfl) (by kernel_rfl) (by kernel_rfl) (fun _ _ _ h => h) (Or.inl ⟨by rfl, ?_⟩) (by assumption) ?_
    rotate_left
    · intro w hSw
      go_simp
      try with_reducible rfl
    try simp only [Act.put, List.setIfInBounds_toArray, List.set_cons_zero, List.set_cons_succ]
    refine wpAnyH_take (i := 13) (v := ?_) rfl (by kernel_rfl) (by kernel_rfl) (by kernel_rfl) (fun _ _ _ h => h) (Or.inl ⟨by rfl, ?_⟩) (by assumption) ?_
    rotate_left
    · intro w hSw
      go_simp
      try with_reducible rfl
    try simp only [Act.put, List.setIfInBounds_toArray, List.set_cons_zero, List.set_cons_succ]
    refine wpAnyH_take (i := 14) (v := ?_) rfl (by kernel_rfl) (by kernel_rfl) (by kernel_rfl) (fun _ _ _ h => h) (Or.inl ⟨by rfl, ?_⟩) (by assumption) ?_
    rotate_left
    · intro w hSw
      go_simp
      try with_reducible rfl
    try simp only [Act.put, List.setIfInBounds_toArray, List.set_cons_zero, List.set_cons_succ]
    refine wpAnyH_take (i := 15) (v := ?_) rfl (by kernel_rfl) (by kernel_rfl) (by kernel_rfl) (fun _ _ _ h => h) (Or.inl ⟨by rfl, ?_⟩) (by assumption) ?_
    rotate_left
    · intro w hSw
      go_simp
      try with_reducible rfl
    try simp only [Act.put, List.setIfInBounds_toArray, List.set_cons_zero, List.set_cons_succ]
    refine wpAnyH_take (i := 16) (v := ?_) rfl (by kernel_rfl) (by kernel_rfl) (by kernel_rfl) (fun _ _ _ h => h) (Or.inl ⟨by rfl, ?_⟩) (by assumption) ?_
    rotate_left
    · intro w hSw
      go_simp
      try with_reducible rfl
    try simp only [Act.put, List.setIfInBounds_toArray, List.set_cons_zero, List.set_cons_succ]
    refine wpAnyH_take (i := 17) (v := ?_) rfl (by kernel_rfl) (by kernel_rfl) (by kernel_rfl) (fun _ _ _ h => h) (Or.inl ⟨by rfl, ?_⟩) (by assumption) ?_
    rotate_left
    · intro w hSw
      go_simp
      try with_reducible rfl
    try simp only [Act.put, List.setIfInBounds_toArray, List.set_cons_zero, List.set_cons_succ]
    refine wpAnyH_take (i := 18) (v := ?_) rfl (by kernel_rfl) (by kernel_rfl) (by kernel_rfl) (fun _ _ _ h => h) (Or.inl ⟨by rfl, ?_⟩) (by assumption) ?_
    rotate_left
    · intro w hSw
      go_simp
      try with_reducible rfl
    try simp only [Act.put, List.setIfInBounds_toArray, List.set_cons_zero, List.set_cons_succ]
    refine wpAnyH_take (i := 19) (v := ?_) rfl (by kernel_rfl) (by kernel_rfl) (by kernel_rfl) (fun _ _ _ h => h) (Or.inl ⟨by rfl, ?_⟩) (by assumption) ?_
    rotate_left
    · intro w hSw
      go_simp
      try with_reducible rfl
    try simp only [Act.put, List.setIfInBounds_toArray, List.set_cons_zero, List.set_cons_succ]
    refine wpAnyH_take (i := 20) (v := ?_) rfl (by kernel_rfl) (by kernel_rfl) (by kernel_rfl) (fun _ _ _ h => h) (Or.inl ⟨by rfl, ?_⟩) (by assumption) ?_
    rotate_left
    · intro w hSw
      go_simp
      try with_reducible rfl
    try simp only [Act.put, List.setIfInBounds_toArray, List.set_cons_zero, List.set_cons_succ]
    refine wpAnyH_take (i := 21) (v := ?_) rfl (by kernel_rfl) (by kernel_rfl) (by kernel_rfl) (fun _ _ _ h => h) (Or.inl ⟨by rfl, ?_⟩) (by assumption) ?_
    rotate_left
    · intro w hSw
      go_simp
      try with_reducible rfl
    try simp only [Act.put, List.setIfInBounds_toArray, List.set_cons_zero, List.set_cons_succ]
    refine wpAnyH_take (i := 22) (v := ?_) rfl (by kernel_rfl) (by kernel_rfl) (by kernel_rfl) (fun _ _ _ h => h) (Or.inl ⟨by rfl, ?_⟩) (by assumption) ?_
    rotate_left
    · intro w hSw
      go_simp
      try with_reducible rfl
    try simp only [Act.put, List.setIfInBounds_toArray, List.set_cons_zero, List.set_cons_succ]
    refine wpAnyH_take (i := 23) (v := ?_) rfl (by kernel_rfl) (by kernel_rfl) (by kernel_rfl) (fun _ _ _ h => h) (Or.inl ⟨by rfl, ?_⟩) (by assumption) ?_
    rotate_left
    · intro w hSw
      go_simp
      try with_reducible rfl
    try simp only [Act.put, List.setIfInBounds_toArray, List.set_cons_zero, List.set_cons_succ]
    refine wpAnyH_take (i := 24) (v := ?_) rfl (by kernel_rfl) (by kernel_rfl) (by kernel_rfl) (fun _ _ _ h => h) (Or.inl ⟨by rfl, ?_⟩) (by assumption) ?_
    rotate_left
    · intro w hSw
      go_simp
      try with_reducible rfl
    try simp only [Act.put, List.setIfInBounds_toArray, List.set_cons_zero, List.set_cons_succ]
    refine wpAnyH_take (i := 25) (v := ?_) rfl (by kernel_rfl) (by kernel_rfl) (by kernel_rfl) (fun _ _ _ h => h) (Or.inl ⟨by rfl, ?_⟩) (by assumption) ?_
    rotate_left
    · intro w hSw
      go_simp
      try with_reducible rfl
    try simp only [Act.put, List.setIfInBounds_toArray, List.set_cons_zero, List.set_cons_succ]
    refine wpAnyH_take (i := 26) (v := ?_) rfl (by kernel_rfl) (by kernel_rfl) (by kernel_rfl) (fun _ _ _ h => h) (Or.inl ⟨by rfl, ?_⟩) (by assumption) ?_
    rotate_left
    · intro w hSw
      go_simp
      try with_reducible rfl
    try simp only [Act.put, List.setIfInBounds_toArray, List.set_cons_zero, List.set_cons_succ]
    refine wpAnyH_ready (rs := [27]) (by kernel_rfl) (by simp) ?_
    refine AllReadyH.cons rfl (fun K hK => ?_) AllReadyH.nil
    go_simp
    refine hK.out _ _ trivial (fun _ => ?_)
    clear hK K
    try simp only [Act.put, List.setIfInBounds_toArray, List.set_cons_zero, List.set_cons_succ]
    refine wpAnyH_ready (rs := [28]) (by kernel_rfl) (by simp) ?_
    refine AllReadyH.cons rfl (fun K hK => ?_) AllReadyH.nil
    go_simp
    refine hK.out _ _ trivial (fun _ => ?_)
    clear hK K
    try simp only [Act.put, List.setIfInBounds_toArray, List.set_cons_zero, List.set_cons_succ]
    refine wpAnyH_done (by kernel_rfl) ?_ _
    have h3 := own_drew (own_alloc h2 (.cells #[.int .i64 x2, .int .i64 x3, .int .i64 (x4 - 1), .int .i64 (x5 + x6 * 256), .int .i64 (x7 + x8 * 256)] 55))
    have hx3 := ((hxa.trans hx2).alloc (.cells #[.int .i64 x2, .int .i64 x3, .int .i64 (x4 - 1), .int .i64 (x5 + x6 * 256), .int .i64 (x7 + x8 * 256)] 55)).drew
    clear q2 q3 q4 q5 q6 q7 q8 e2 e3 e4 e4' e5 e6 e6' e6'' e7 e8 e8' e8'' h2 hx2 ha hxa
    generalize w2.heap.size = p at *
    generalize (w2.alloc (.cells #[.int .i64 x2, .int .i64 x3, .int .i64 (x4 - 1), .int .i64 (x5 + x6 * 256), .int .i64 (x7 + x8 * 256)] 55)).drew = w3 at *
    generalize x4 - 1 = y at *
    generalize x5 + x6 * 256 = a at *
    generalize x7 + x8 * 256 = b at *
    obtain ⟨c, f⟩ := own_cells 0 h3 rfl
    have hq := desk_any x2 x3 y a b _ w3 h3
    by_cases hb : deskF x2 x3 y a b = 0
    · rw [hb, if_pos rfl, errV_0] at hq
      have HQ := Lib.hid hq
      clear hq
      unfold deskV at HQ
      go_wp2_with fail
      refine HQ.out.mono ?_
      rintro e w5 ⟨rfl, hx5, h5⟩
      clear c f
      obtain ⟨c, f⟩ := own_cells 0 h5 rfl
      obtain ⟨c', f'⟩ := own_cells 1 h5 rfl
      by_cases hne : deskS x2 x3 y a b = s
      · have hgood : ¬ deskOfBad s := fun h => (HCD.out.1 h).elim (fun h => h hb) (fun h => h hne)
        have HG := Lib.hid hgood
        rw [hne]
        clear hgood hb
        go_wp2_with fail
        have h6 := own_set (i := 4) (v := .int .i64 b) 1 (own_set (i := 3) (v := .int .i64 a) 1 (own_set (i := 2) (v := .int .i64 y) 1 (own_set (i := 1) (v := .int .i64 x3) 1 (own_set (i := 0) (v := .int .i64 x2) 1 h5 rfl) rfl) rfl) rfl) rfl
        obtain ⟨c3, -⟩ := own_cells 1 h6 rfl
        refine bodyPost_ret (results_desk rfl _ _ g x2 x3 y a b rfl (c3 0) (c3 1) (c3 2) (c3 3) (c3 4)) rfl ?_
        exact ⟨by first | (rw [HX.out]; rfl) | (rw [if_neg HG.out, HX.out]; rfl), (((((hx3.trans hx5).setCell _ _).setCell _ _).setCell _ _).setCell _ _).setCell _ _, own_drop (own_drop h6)⟩
      · have hbad : deskOfBad s := HCD.out.2 (.inr hne)
        have HB := Lib.hid hbad
        have hnl : ((deskS x2 x3 y a b).toList == s.toList) = false := by simpa using fun h => hne (toList_inj h)
        clear hb hbad
        go_wp2_with fail
        have h6 := own_set (i := 4) (v := .int .i64 0) 1 (own_set (i := 3) (v := .int .i64 0) 1 (own_set (i := 2) (v := .int .i64 0) 1 (own_set (i := 1) (v := .int .i64 0) 1 (own_set (i := 0) (v := .int .i64 0) 1 h5 rfl) rfl) rfl) rfl) rfl
        obtain ⟨c3, -⟩ := own_cells 1 h6 rfl
        refine bodyPost_ret (results_desk rfl _ _ g 0 0 0 0 0 rfl (c3 0) (c3 1) (c3 2) (c3 3) (c3 4)) rfl ?_
        exact ⟨by first | rfl | (rw [if_pos HB.out]; rfl), (((((hx3.trans hx5).setCell _ _).setCell _ _).setCell _ _).setCell _ _).setCell _ _, own_drop (own_drop h6)⟩
    · have hbad : deskOfBad s := HCD.out.2 (.inl hb)
      have HB := Lib.hid hbad
      have hp := deskF_pos hb
      rw [if_neg hb, errV_pos hp] at hq
      have HQ := Lib.hid hq
      clear hq hb hbad
      generalize deskF x2 x3 y a b = fc at *
      unfold deskV at HQ
      go_wp2_with fail
      refine HQ.out.mono ?_
      rintro e w4 ⟨rfl, hx4, h4⟩
      clear c f
      obtain ⟨c, f⟩ := own_cells 1 h4 rfl
      go_wp2_with fail
      have h5 := own_set (i := 4) (v := .int .i64 0) 1 (own_set (i := 3) (v := .int .i64 0) 1 (own_set (i := 2) (v := .int .i64 0) 1 (own_set (i := 1) (v := .int .i64 0) 1 (own_set (i := 0) (v := .int .i64 0) 1 h4 rfl) rfl) rfl) rfl) rfl
      obtain ⟨c3, -⟩ := own_cells 1 h5 rfl
      refine bodyPost_ret (results_desk rfl _ _ g 0 0 0 0 0 rfl (c3 0) (c3 1) (c3 2) (c3 3) (c3 4)) rfl ?_
      exact ⟨by first | rfl | (rw [if_pos HB.out]; rfl), (((((hx3.trans hx4).setCell _ _).setCell _ _).setCell _ _).setCell _ _).setCell _ _, own_drop (own_drop h5)⟩
  · have e : deskOf s = ((0, 0, 0, 0, 0), openF s) := by rw [deskOf, if_pos (by omega)]
    rw [e]
    clear e
    go_enter Try.func43, Try.ntmps43
    go_upto_region 1 with (fail)
    generalize w.heap.size = g at *
    generalize w.alloc (.cells #[.int .i64 0, .int .i64 0, .int .i64 0, .int .i64 0, .int .i64 0] 55) = w1 at *
    go_wp2_with fail
    refine (open_any s hs _ w1 ha).mono ?_
    rintro e w2 ⟨rfl, hx2, h2⟩
    rw [errV_pos hF]
    obtain ⟨c, f⟩ := own_cells 0 h2 rfl
    go_wp2_with fail
    have h3 := own_set (i := 4) (v := .int .i64 0) 0 (own_set (i := 3) (v := .int .i64 0) 0 (own_set (i := 2) (v := .int .i64 0) 0 (own_set (i := 1) (v := .int .i64 0) 0 (own_set (i := 0) (v := .int .i64 0) 0 h2 rfl) rfl) rfl) rfl) rfl
    obtain ⟨c3, -⟩ := own_cells 0 h3 rfl
    refine bodyPost_ret (results_desk rfl _ _ g 0 0 0 0 0 rfl (c3 0) (c3 1) (c3 2) (c3 3) (c3 4)) rfl ?_
    exact ⟨by rw [errV_pos hF]; rfl, (((((hxa.trans hx2).setCell _ _).setCell _ _).setCell _ _).setCell _ _).setCell _ _, own_drop h3⟩
end Go.Proofs.Ytbpblokfiajpjaa
