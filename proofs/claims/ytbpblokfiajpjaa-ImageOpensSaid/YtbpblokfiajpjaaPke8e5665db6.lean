/- Desks read back by the program. Texts: two lists compared; what a row of texts lets be read. Two tables compared; a head is written and read. FormReads answers true, whatever the sectors, and leaves what it was given as it was. No conditions. -/
import Derived.Test.YtbpblokfiajpjaaPk635a73a6ce
import Derived.Test.YtbpblokfiajpjaaProg
namespace Go.Proofs.Ytbpblokfiajpjaa
open Go.RowKit Go.SL Go.Crc
attribute [local go_sem ↓] Go.wp_at_zero Go.wp_at_succ

set_option maxRecDepth 100000 in
set_option maxHeartbeats 4000000 in
theorem readdesk_any (s : ByteArray) (hs : s.size ≤ 9223372036854775807) (R : List SL.HP) (w : World) (H : own w R) :
    Calls Try.prog 43 #[.string s] w fun e w' => e = .returned (.tuple #[deskV (deskOf s).1.1 (deskOf s).1.2.1 (deskOf s).1.2.2.1 (deskOf s).1.2.2.2.1 (deskOf s).1.2.2.2.2, errV (deskOf s).2]) ∧ Ext w w' ∧ own w' R := by
  have ha := own_alloc H (.cells #[.int .i64 0, .int .i64 0, .int .i64 0, .int .i64 0, .int .i64 0] 55)
  have hxa := (Ext.refl w).alloc (.cells #[.int .i64 0, .int .i64 0, .int .i64 0, .int .i64 0, .int .i64 0] 55)
  rcases openF_nonneg s with hF | hF
  · have h16 := openF_size hF
    have e : deskOf s = if deskOfBad s then ((0, 0, 0, 0, 0), 2) else (deskGood s, 0) := by rw [deskOf, if_neg (by omega)]
    rw [e]
    clear e
    have h16' : (s.size : Int) = 16 := by omega
    go_enter Try.func43, Try.ntmps43
    go_upto_region 1 with (fail)
    generalize w.heap.size = g at *
    generalize w.alloc (.cells #[.int .i64 0, .int .i64 0, .int .i64 0, .int .i64 0, .int .i64 0] 55) = w1 at *
    go_wp2_with fail
    refine (open_any s hs _ w1 ha).mono ?_
    rintro e w2 ⟨rfl, hx2, h2⟩
    rw [hF, errV_0, show openS s = s.extract 0 12 from if_pos hF]
    have hu : (s.extract 0 12).size = 12 := by simp [ByteArray.size_extract, h16]
    have g2 := bt_extract (i := 2) h16 (by decide)
    have g3 := bt_extract (i := 3) h16 (by decide)
    have g4 := bt_extract (i := 4) h16 (by decide)
    have g5 := bt_extract (i := 5) h16 (by decide)
    have g6 := bt_extract (i := 6) h16 (by decide)
    have g7 := bt_extract (i := 7) h16 (by decide)
    have g8 := bt_extract (i := 8) h16 (by decide)
    generalize s.extract 0 12 = u at *
    have hu' : (u.size : Int) = 12 := by omega
    have q2 := bt_get (s := u) (i := 2) (by omega)
    have q3 := bt_get (s := u) (i := 3) (by omega)
    have q4 := bt_get (s := u) (i := 4) (by omega)
    have q5 := bt_get (s := u) (i := 5) (by omega)
    have q6 := bt_get (s := u) (i := 6) (by omega)
    have q7 := bt_get (s := u) (i := 7) (by omega)
    have q8 := bt_get (s := u) (i := 8) (by omega)
    rw [g2] at q2
    rw [g3] at q3
    rw [g4] at q4
    rw [g5] at q5
    rw [g6] at q6
    rw [g7] at q7
    rw [g8] at q8
    clear g2 g3 g4 g5 g6 g7 g8
    have l2 := bt_le s 2
    have l3 := bt_le s 3
    have l4 := bt_le s 4
    have l5 := bt_le s 5
    have l6 := bt_le s 6
    have l7 := bt_le s 7
    have l8 := bt_le s 8
    have hcond : deskOfBad s ↔ (deskF (bt s 2) (bt s 3) (bt s 4 - 1) (bt s 5 + bt s 6 * 256) (bt s 7 + bt s 8 * 256) ≠ 0 ∨ deskS (bt s 2) (bt s 3) (bt s 4 - 1) (bt s 5 + bt s 6 * 256) (bt s 7 + bt s 8 * 256) ≠ s) := by rw [Int.mul_comm (bt s 6), Int.mul_comm (bt s 8)]; exact Iff.rfl
    have HCD := Lib.hid hcond
    clear hcond
    have hgood : deskGood s = (bt s 2, bt s 3, bt s 4 - 1, bt s 5 + bt s 6 * 256, bt s 7 + bt s 8 * 256) := by rw [Int.mul_comm (bt s 6), Int.mul_comm (bt s 8)]; rfl
    have HX := Lib.hid hgood
    clear hgood
    generalize bt s 2 = x2 at *
    generalize bt s 3 = x3 at *
    generalize bt s 4 = x4 at *
    generalize bt s 5 = x5 at *
    generalize bt s 6 = x6 at *
    generalize bt s 7 = x7 at *
    generalize bt s 8 = x8 at *
    have e2 : IntKind.i64.wrap x2 = x2 := IntWalk.i64_in _ (by omega)
    have e3 : IntKind.i64.wrap x3 = x3 := IntWalk.i64_in _ (by omega)
    have e4 : IntKind.i64.wrap x4 = x4 := IntWalk.i64_in _ (by omega)
    have e4' : IntKind.i64.wrap (x4 - 1) = x4 - 1 := IntWalk.i64_in _ (by omega)
    have e5 : IntKind.i64.wrap x5 = x5 := IntWalk.i64_in _ (by omega)
    have e6 : IntKind.i64.wrap x6 = x6 := IntWalk.i64_in _ (by omega)
    have e6' : IntKind.i64.wrap (x6 * 256) = x6 * 256 := IntWalk.i64_in _ (by omega)
    have e6'' : IntKind.i64.wrap (x5 + x6 * 256) = x5 + x6 * 256 := IntWalk.i64_in _ (by omega)
    have e7 : IntKind.i64.wrap x7 = x7 := IntWalk.i64_in _ (by omega)
    have e8 : IntKind.i64.wrap x8 = x8 := IntWalk.i64_in _ (by omega)
    have e8' : IntKind.i64.wrap (x8 * 256) = x8 * 256 := IntWalk.i64_in _ (by omega)
    have e8'' : IntKind.i64.wrap (x7 + x8 * 256) = x7 + x8 * 256 := IntWalk.i64_in _ (by omega)
    go_upto_region 4 with (fail)
    refine wp_region_held_drew (S := fun _ => True) (by kernel_rfl) trivial (fun hHeld => ?_)
    refine wpAnyH_take (i := 0) (v := ?_) rfl (by kernel_rfl) (by kernel_rfl) (by kernel_rfl) (fun _ _ _ h => h) (Or.inl ⟨by rfl, ?_⟩) (by assumption) ?_
    rotate_left
    · intro w hSw
      go_simp
      try with_reducible rfl
    try simp only [Act.put, List.setIfInBounds_toArray, List.set_cons_zero, List.set_cons_succ]
    refine wpAnyH_take (i := 1) (v := ?_) rfl (by kernel_rfl) (by kernel_rfl) (by kernel_rfl) (fun _ _ _ h => h) (Or.inl ⟨by rfl, ?_⟩) (by assumption) ?_
    rotate_left
    · intro w hSw
      go_simp
      try with_reducible rfl
    try simp only [Act.put, List.setIfInBounds_toArray, List.set_cons_zero, List.set_cons_succ]
    refine wpAnyH_take (i := 2) (v := ?_) rfl (by kernel_rfl) (by kernel_rfl) (by kernel_rfl) (fun _ _ _ h => h) (Or.inl ⟨by rfl, ?_⟩) (by assumption) ?_
    rotate_left
    · intro w hSw
      go_simp
      try with_reducible rfl
    try simp only [Act.put, List.setIfInBounds_toArray, List.set_cons_zero, List.set_cons_succ]
    refine wpAnyH_take (i := 3) (v := ?_) rfl (by kernel_rfl) (by kernel_rfl) (by kernel_rfl) (fun _ _ _ h => h) (Or.inl ⟨by rfl, ?_⟩) (by assumption) ?_
    rotate_left
    · intro w hSw
      go_simp
      try with_reducible rfl
    try simp only [Act.put, List.setIfInBounds_toArray, List.set_cons_zero, List.set_cons_succ]
    refine wpAnyH_take (i := 4) (v := ?_) rfl (by kernel_rfl) (by kernel_rfl) (by kernel_rfl) (fun _ _ _ h => h) (Or.inl ⟨by rfl, ?_⟩) (by assumption) ?_
    rotate_left
    · intro w hSw
      go_simp
      try with_reducible rfl
    try simp only [Act.put, List.setIfInBounds_toArray, List.set_cons_zero, List.set_cons_succ]
    refine wpAnyH_take (i := 5) (v := ?_) rfl (by kernel_rfl) (by kernel_rfl) (by kernel_rfl) (fun _ _ _ h => h) (Or.inl ⟨by rfl, ?_⟩) (by assumption) ?_
    rotate_left
    · intro w hSw
      go_simp
      try with_reducible rfl
    try simp only [Act.put, List.setIfInBounds_toArray, List.set_cons_zero, List.set_cons_succ]
    refine wpAnyH_take (i := 6) (v := ?_) rfl (by kernel_rfl) (by kernel_rfl) (by kernel_rfl) (fun _ _ _ h => h) (Or.inl ⟨by rfl, ?_⟩) (by assumption) ?_
    rotate_left
    · intro w hSw
      go_simp
      try with_reducible rfl
    try simp only [Act.put, List.setIfInBounds_toArray, List.set_cons_zero, List.set_cons_succ]
    refine wpAnyH_take (i := 7) (v := ?_) rfl (by kernel_rfl) (by kernel_rfl) (by kernel_rfl) (fun _ _ _ h => h) (Or.inl ⟨by rfl, ?_⟩) (by assumption) ?_
    rotate_left
    · intro w hSw
      go_simp
      try with_reducible rfl
    try simp only [Act.put, List.setIfInBounds_toArray, List.set_cons_zero, List.set_cons_succ]
    refine wpAnyH_take (i := 8) (v := ?_) rfl (by kernel_rfl) (by kernel_rfl) (by kernel_rfl) (fun _ _ _ h => h) (Or.inl ⟨by rfl, ?_⟩) (by assumption) ?_
    rotate_left
    · intro w hSw
      go_simp
      try with_reducible rfl
    try simp only [Act.put, List.setIfInBounds_toArray, List.set_cons_zero, List.set_cons_succ]
    refine wpAnyH_take (i := 9) (v := ?_) rfl (by kernel_rfl) (by kernel_rfl) (by kernel_rfl) (fun _ _ _ h => h) (Or.inl ⟨by rfl, ?_⟩) (by assumption) ?_
    rotate_left
    · intro w hSw
      go_simp
      try with_reducible rfl
    try simp only [Act.put, List.setIfInBounds_toArray, List.set_cons_zero, List.set_cons_succ]
    refine wpAnyH_take (i := 10) (v := ?_) rfl (by kernel_rfl) (by kernel_rfl) (by kernel_rfl) (fun _ _ _ h => h) (Or.inl ⟨by rfl, ?_⟩) (by assumption) ?_
    rotate_left
    · intro w hSw
      go_simp
      try with_reducible rfl
    try simp only [Act.put, List.setIfInBounds_toArray, List.set_cons_zero, List.set_cons_succ]
    refine wpAnyH_take (i := 11) (v := ?_) rfl (by kernel_rfl) (by kernel_rfl) (by kernel_rfl) (fun _ _ _ h => h) (Or.inl ⟨by rfl, ?_⟩) (by assumption) ?_
    rotate_left
    · intro w hSw
      go_simp
      try with_reducible rfl
    try simp only [Act.put, List.setIfInBounds_toArray, List.set_cons_zero, List.set_cons_succ]
    refine wpAnyH_take (i := 12) (v := ?_) rfl (by kernel_rfl) (by kernel_rfl) (by kernel_rfl) (fun _ _ _ h => h) (Or.inl ⟨by rfl, ?_⟩) (by assumption) ?_
    rotate_left
    · intro w hSw
      go_simp
      try with_reducible rfl
    try simp only [Act.put, List.setIfInBounds_toArray, List.set_cons_zero, List.set_cons_succ]
    refine wpAnyH_take (i := 13) (v := ?_) rfl (by kernel_rfl) (by kernel_rfl) (by kernel_rfl) (fun _ _ _ h => h) (Or.inl ⟨by rfl, ?_⟩) (by assumption) ?_
    rotate_left
    · intro w hSw
      go_simp
      try with_reducible rfl
    try simp only [Act.put, List.setIfInBounds_toArray, List.set_cons_zero, List.set_cons_succ]
    refine wpAnyH_take (i := 14) (v := ?_) rfl (by kernel_rfl) (by kernel_rfl) (by kernel_rfl) (fun _ _ _ h => h) (Or.inl ⟨by rfl, ?_⟩) (by assumption) ?_
    rotate_left
    · intro w hSw
      go_simp
      try with_reducible rfl
    try simp only [Act.put, List.setIfInBounds_toArray, List.set_cons_zero, List.set_cons_succ]
    refine wpAnyH_take (i := 15) (v := ?_) rfl (by kernel_rfl) (by kernel_rfl) (by kernel_rfl) (fun _ _ _ h => h) (Or.inl ⟨by rfl, ?_⟩) (by assumption) ?_
    rotate_left
    · intro w hSw
      go_simp
      try with_reducible rfl
    try simp only [Act.put, List.setIfInBounds_toArray, List.set_cons_zero, List.set_cons_succ]
    refine wpAnyH_take (i := 16) (v := ?_) rfl (by kernel_rfl) (by kernel_rfl) (by kernel_rfl) (fun _ _ _ h => h) (Or.inl ⟨by rfl, ?_⟩) (by assumption) ?_
    rotate_left
    · intro w hSw
      go_simp
      try with_reducible rfl
    try simp only [Act.put, List.setIfInBounds_toArray, List.set_cons_zero, List.set_cons_succ]
    refine wpAnyH_take (i := 17) (v := ?_) rfl (by kernel_rfl) (by kernel_rfl) (by kernel_rfl) (fun _ _ _ h => h) (Or.inl ⟨by rfl, ?_⟩) (by assumption) ?_
    rotate_left
    · intro w hSw
      go_simp
      try with_reducible rfl
    try simp only [Act.put, List.setIfInBounds_toArray, List.set_cons_zero, List.set_cons_succ]
    refine wpAnyH_take (i := 18) (v := ?_) rfl (by kernel_rfl) (by kernel_rfl) (by kernel_rfl) (fun _ _ _ h => h) (Or.inl ⟨by rfl, ?_⟩) (by assumption) ?_
    rotate_left
    · intro w hSw
      go_simp
      try with_reducible rfl
    try simp only [Act.put, List.setIfInBounds_toArray, List.set_cons_zero, List.set_cons_succ]
    refine wpAnyH_take (i := 19) (v := ?_) rfl (by kernel_rfl) (by kernel_rfl) (by kernel_rfl) (fun _ _ _ h => h) (Or.inl ⟨by rfl, ?_⟩) (by assumption) ?_
    rotate_left
    · intro w hSw
      go_simp
      try with_reducible rfl
    try simp only [Act.put, List.setIfInBounds_toArray, List.set_cons_zero, List.set_cons_succ]
    refine wpAnyH_take (i := 20) (v := ?_) rfl (by kernel_rfl) (by kernel_rfl) (by kernel_rfl) (fun _ _ _ h => h) (Or.inl ⟨by rfl, ?_⟩) (by assumption) ?_
    rotate_left
    · intro w hSw
      go_simp
      try with_reducible rfl
    try simp only [Act.put, List.setIfInBounds_toArray, List.set_cons_zero, List.set_cons_succ]
    refine wpAnyH_take (i := 21) (v := ?_) rfl (by kernel_rfl) (by kernel_rfl) (by kernel_rfl) (fun _ _ _ h => h) (Or.inl ⟨by rfl, ?_⟩) (by assumption) ?_
    rotate_left
    · intro w hSw
      go_simp
      try with_reducible rfl
    try simp only [Act.put, List.setIfInBounds_toArray, List.set_cons_zero, List.set_cons_succ]
    refine wpAnyH_take (i := 22) (v := ?_) rfl (by kernel_rfl) (by kernel_rfl) (by kernel_rfl) (fun _ _ _ h => h) (Or.inl ⟨by rfl, ?_⟩) (by assumption) ?_
    rotate_left
    · intro w hSw
      go_simp
      try with_reducible rfl
    try simp only [Act.put, List.setIfInBounds_toArray, List.set_cons_zero, List.set_cons_succ]
    refine wpAnyH_take (i := 23) (v := ?_) rfl (by kernel_rfl) (by kernel_rfl) (by kernel_rfl) (fun _ _ _ h => h) (Or.inl ⟨by rfl, ?_⟩) (by assumption) ?_
    rotate_left
    · intro w hSw
      go_simp
      try with_reducible rfl
    try simp only [Act.put, List.setIfInBounds_toArray, List.set_cons_zero, List.set_cons_succ]
    refine wpAnyH_take (i := 24) (v := ?_) rfl (by kernel_rfl) (by kernel_rfl) (by kernel_rfl) (fun _ _ _ h => h) (Or.inl ⟨by rfl, ?_⟩) (by assumption) ?_
    rotate_left
    · intro w hSw
      go_simp
      try with_reducible rfl
    try simp only [Act.put, List.setIfInBounds_toArray, List.set_cons_zero, List.set_cons_succ]
    refine wpAnyH_take (i := 25) (v := ?_) rfl (by kernel_rfl) (by kernel_rfl) (by kernel_rfl) (fun _ _ _ h => h) (Or.inl ⟨by rfl, ?_⟩) (by assumption) ?_
    rotate_left
    · intro w hSw
      go_simp
      try with_reducible rfl
    try simp only [Act.put, List.setIfInBounds_toArray, List.set_cons_zero, List.set_cons_succ]
    refine wpAnyH_take (i := 26) (v := ?_) rfl (by kernel_rfl) (by kernel_rfl) (by kernel_rfl) (fun _ _ _ h => h) (Or.inl ⟨by rfl, ?_⟩) (by assumption) ?_
    rotate_left
    · intro w hSw
      go_simp
      try with_reducible rfl
    try simp only [Act.put, List.setIfInBounds_toArray, List.set_cons_zero, List.set_cons_succ]
    refine wpAnyH_ready (rs := [27]) (by kernel_rfl) (by simp) ?_
    refine AllReadyH.cons rfl (fun K hK => ?_) AllReadyH.nil
    go_simp
    refine hK.out _ _ trivial (fun _ => ?_)
    clear hK K
    try simp only [Act.put, List.setIfInBounds_toArray, List.set_cons_zero, List.set_cons_succ]
    refine wpAnyH_ready (rs := [28]) (by kernel_rfl) (by simp) ?_
    refine AllReadyH.cons rfl (fun K hK => ?_) AllReadyH.nil
    go_simp
    refine hK.out _ _ trivial (fun _ => ?_)
    clear hK K
    try simp only [Act.put, List.setIfInBounds_toArray, List.set_cons_zero, List.set_cons_succ]
    refine wpAnyH_done (by kernel_rfl) ?_ _
    have h3 := own_drew (own_alloc h2 (.cells #[.int .i64 x2, .int .i64 x3, .int .i64 (x4 - 1), .int .i64 (x5 + x6 * 256), .int .i64 (x7 + x8 * 256)] 55))
    have hx3 := ((hxa.trans hx2).alloc (.cells #[.int .i64 x2, .int .i64 x3, .int .i64 (x4 - 1), .int .i64 (x5 + x6 * 256), .int .i64 (x7 + x8 * 256)] 55)).drew
    clear q2 q3 q4 q5 q6 q7 q8 e2 e3 e4 e4' e5 e6 e6' e6'' e7 e8 e8' e8'' h2 hx2 ha hxa
    generalize w2.heap.size = p at *
    generalize (w2.alloc (.cells #[.int .i64 x2, .int .i64 x3, .int .i64 (x4 - 1), .int .i64 (x5 + x6 * 256), .int .i64 (x7 + x8 * 256)] 55)).drew = w3 at *
    generalize x4 - 1 = y at *
    generalize x5 + x6 * 256 = a at *
    generalize x7 + x8 * 256 = b at *
    obtain ⟨c, f⟩ := own_cells 0 h3 rfl
    have hq := desk_any x2 x3 y a b _ w3 h3
    by_cases hb : deskF x2 x3 y a b = 0
    · rw [hb, if_pos rfl, errV_0] at hq
      have HQ := Lib.hid hq
      clear hq
      unfold deskV at HQ
      go_wp2_with fail
      refine HQ.out.mono ?_
      rintro e w5 ⟨rfl, hx5, h5⟩
      clear c f
      obtain ⟨c, f⟩ := own_cells 0 h5 rfl
      obtain ⟨c', f'⟩ := own_cells 1 h5 rfl
      by_cases hne : deskS x2 x3 y a b = s
      · have hgood : ¬ deskOfBad s := fun h => (HCD.out.1 h).elim (fun h => h hb) (fun h => h hne)
        have HG := Lib.hid hgood
        rw [hne]
        clear hgood hb
        go_wp2_with fail
        have h6 := own_set (i := 4) (v := .int .i64 b) 1 (own_set (i := 3) (v := .int .i64 a) 1 (own_set (i := 2) (v := .int .i64 y) 1 (own_set (i := 1) (v := .int .i64 x3) 1 (own_set (i := 0) (v := .int .i64 x2) 1 h5 rfl) rfl) rfl) rfl) rfl
        obtain ⟨c3, -⟩ := own_cells 1 h6 rfl
        refine bodyPost_ret (results_desk rfl _ _ g x2 x3 y a b rfl (c3 0) (c3 1) (c3 2) (c3 3) (c3 4)) rfl ?_
        exact ⟨by first | (rw [HX.out]; rfl) | (rw [if_neg HG.out, HX.out]; rfl), (((((hx3.trans hx5).setCell _ _).setCell _ _).setCell _ _).setCell _ _).setCell _ _, own_drop (own_drop h6)⟩
      · have hbad : deskOfBad s := HCD.out.2 (.inr hne)
        have HB := Lib.hid hbad
        have hnl : ((deskS x2 x3 y a b).toList == s.toList) = false := by simpa using fun h => hne (toList_inj h)
        clear hb hbad
        go_wp2_with fail
        have h6 := own_set (i := 4) (v := .int .i64 0) 1 (own_set (i := 3) (v := .int .i64 0) 1 (own_set (i := 2) (v := .int .i64 0) 1 (own_set (i := 1) (v := .int .i64 0) 1 (own_set (i := 0) (v := .int .i64 0) 1 h5 rfl) rfl) rfl) rfl) rfl
        obtain ⟨c3, -⟩ := own_cells 1 h6 rfl
        refine bodyPost_ret (results_desk rfl _ _ g 0 0 0 0 0 rfl (c3 0) (c3 1) (c3 2) (c3 3) (c3 4)) rfl ?_
        exact ⟨by first | rfl | (rw [if_pos HB.out]; rfl), (((((hx3.trans hx5).setCell _ _).setCell _ _).setCell _ _).setCell _ _).setCell _ _, own_drop (own_drop h6)⟩
    · have hbad : deskOfBad s := HCD.out.2 (.inl hb)
      have HB := Lib.hid hbad
      have hp := deskF_pos hb
      rw [if_neg hb, errV_pos hp] at hq
      have HQ := Lib.hid hq
      clear hq hb hbad
      generalize deskF x2 x3 y a b = fc at *
      unfold deskV at HQ
      go_wp2_with fail
      refine HQ.out.mono ?_
      rintro e w4 ⟨rfl, hx4, h4⟩
      clear c f
      obtain ⟨c, f⟩ := own_cells 1 h4 rfl
      go_wp2_with fail
      have h5 := own_set (i := 4) (v := .int .i64 0) 1 (own_set (i := 3) (v := .int .i64 0) 1 (own_set (i := 2) (v := .int .i64 0) 1 (own_set (i := 1) (v := .int .i64 0) 1 (own_set (i := 0) (v := .int .i64 0) 1 h4 rfl) rfl) rfl) rfl) rfl
      obtain ⟨c3, -⟩ := own_cells 1 h5 rfl
      refine bodyPost_ret (results_desk rfl _ _ g 0 0 0 0 0 rfl (c3 0) (c3 1) (c3 2) (c3 3) (c3 4)) rfl ?_
      exact ⟨by first | rfl | (rw [if_pos HB.out]; rfl), (((((hx3.trans hx4).setCell _ _).setCell _ _).setCell _ _).setCell _ _).setCell _ _, own_drop (own_drop h5)⟩
  · have e : deskOf s = ((0, 0, 0, 0, 0), openF s) := by rw [deskOf, if_pos (by omega)]
    rw [e]
    clear e
    go_enter Try.func43, Try.ntmps43
    go_upto_region 1 with (fail)
    generalize w.heap.size = g at *
    generalize w.alloc (.cells #[.int .i64 0, .int .i64 0, .int .i64 0, .int .i64 0, .int .i64 0] 55) = w1 at *
    go_wp2_with fail
    refine (open_any s hs _ w1 ha).mono ?_
    rintro e w2 ⟨rfl, hx2, h2⟩
    rw [errV_pos hF]
    obtain ⟨c, f⟩ := own_cells 0 h2 rfl
    go_wp2_with fail
    have h3 := own_set (i := 4) (v := .int .i64 0) 0 (own_set (i := 3) (v := .int .i64 0) 0 (own_set (i := 2) (v := .int .i64 0) 0 (own_set (i := 1) (v := .int .i64 0) 0 (own_set (i := 0) (v := .int .i64 0) 0 h2 rfl) rfl) rfl) rfl) rfl
    obtain ⟨c3, -⟩ := own_cells 0 h3 rfl
    refine bodyPost_ret (results_desk rfl _ _ g 0 0 0 0 0 rfl (c3 0) (c3 1) (c3 2) (c3 3) (c3 4)) rfl ?_
    exact ⟨by rw [errV_pos hF]; rfl, (((((hxa.trans hx2).setCell _ _).setCell _ _).setCell _ _).setCell _ _).setCell _ _, own_drop h3⟩
end Go.Proofs.Ytbpblokfiajpjaa

namespace Go.Proofs.Ytbpblokfiajpjaa
open Go.RowKit Go.SL

theorem drewN_add (w : World) (a b : Nat) : (w.drewN a).drewN b = w.drewN (a + b) := by simp [World.drewN, Nat.add_assoc]
def smark : ByteArray := ⟨#[109, 97, 114, 107]⟩
theorem strs_row {w : World} {L : List HP} (k : Nat) {e : TypeId} {g cap n : Nat} {l : List ByteArray} {xs rest : List Value} (H : own w L) (hk : L[k]? = some (row e 1 (.slice (some ⟨g, 0, none⟩) n cap) n xs))
    (hx : xs = l.map Value.string ++ rest) (hs : ∀ s ∈ l, s.size ≤ 9223372036854775807) : StrsAt w (.slice (some ⟨g, 0, none⟩) l.length cap) l := by
  obtain ⟨ao3, g3, cap3, hv, c31, c32, a31, a32, a33, cells3, fr3⟩ := own_row_form k H hk
  simp only [Value.slice.injEq] at hv
  obtain ⟨rfl, _, rfl⟩ := hv
  have hg := a33 _ rfl
  simp only [Addr.mk.injEq, and_true] at hg
  subst hg
  have hlen := (own_row k H hk).1
  have hn : l.length ≤ n := by rw [hx, List.length_append, List.length_map] at hlen; omega
  refine ⟨⟨_, g, 0, cap, rfl, by omega, by simp only [maxLen] at c32; omega, fun _ => rfl, fun i hi => ?_⟩, hs⟩
  dsimp only
  rw [Nat.zero_add]
  exact cells3 i _ (by rw [hx, List.getElem?_append_left (by simpa using hi)]; simp [hi])

set_option maxRecDepth 100000 in
set_option maxHeartbeats 1000000 in
theorem sametexts_any (va vb : Value) (la lb : List ByteArray) (w : World) (ha : StrsAt w va la) (hb : StrsAt w vb lb) :
    Calls Try.prog 28 #[va, vb] w fun e w' => e = .returned (.bool (decide (la = lb))) ∧ ∃ n, w' = w.drewN n := by
  obtain ⟨aoa, ba, offa, capa, rfl, a1, a2, a3, a4⟩ := ha.form
  obtain ⟨aob, bb, offb, capb, rfl, b1, b2, b3, b4⟩ := hb.form
  by_cases hl : la.length = lb.length
  · go_enter Try.func28, Try.ntmps28
    have hl2 : ((la.length : Int) != (lb.length : Int)) = false := by rw [hl]; simp
    have HL := Lib.hid hl
    clear hl
    go_wp2_with fail
    go_loopw [5] (fun i wr => ∃ k : Nat, k ≤ la.length ∧ i = .int .i64 k ∧ (∀ j, j < k → la.getD j ByteArray.empty = lb.getD j ByteArray.empty) ∧ ∃ n, wr = w.drewN n) (fun i _ => la.length - (intOf i).toNat)
    case atStart => exact ⟨0, by omega, rfl, fun j hj => absurd hj (by omega), 0, rfl⟩
    case round =>
      obtain ⟨k, hk, rfl, hj, nd, rfl⟩ := hrel
      have HJ := Lib.hid hj
      clear hj
      by_cases hlt : k < la.length
      · obtain rfl := a3 (by omega)
        have hlt2 : k < lb.length := by rw [← HL.out]; exact hlt
        obtain rfl := b3 (by omega)
        have c1 := a4 k hlt
        have c2 := b4 k hlt2
        clear a3 a4 b3 b4 ha hb
        generalize hxa : la.getD k ByteArray.empty = xa at *
        generalize hxb : lb.getD k ByteArray.empty = xb at *
        have HXA := Lib.hid hxa
        have HXB := Lib.hid hxb
        clear hxa hxb
        have ha5 : (k : Int) < (la.length : Int) := by omega
        have hb5 : (k : Int) < (lb.length : Int) := by omega
        by_cases hx : xa = xb
        · have HX := Lib.hid hx
          have ht : (!xa.toList == xb.toList) = false := by rw [hx]; simp
          clear hx
          go_wp2_with fail
          go_quiet (fail)
          go_wp2_with fail
          go_roundw
          case rel => exact ⟨k + 1, by omega, by go_num, (fun j hj => by
            by_cases e : j = k
            · subst e; rw [HXA.out, HXB.out, HX.out]
            · exact HJ.out j (by omega)), nd + nq, by first | rfl | exact drewN_add _ _ _⟩
          case measure => simp [intOf]; omega
        · have ht : (!xa.toList == xb.toList) = true := by
            rw [Bool.not_eq_true', beq_eq_false_iff_ne]
            intro e
            exact hx (toList_inj e)
          have HX := Lib.hid hx
          clear hx
          go_wp2_with fail
          go_quiet (fail)
          go_wp2_with fail
          go_ret
          refine ⟨ret_bool ?_, nd + nq, by first | rfl | exact drewN_add _ _ _⟩
          symm
          apply decide_eq_false
          intro e
          exact HX.out (by rw [← HXA.out, ← HXB.out, e])
      · obtain rfl : k = la.length := by omega
        go_wp2_with fail
        go_ret
        refine ⟨ret_bool ?_, _, rfl⟩
        symm
        apply decide_eq_true
        apply List.ext_getElem HL.out
        intro i h1 h2
        have := HJ.out i h1
        simpa [h1, h2] using this
  · have hl2 : ((la.length : Int) != (lb.length : Int)) = true := by rw [bne_iff_ne]; omega
    go_enter Try.func28, Try.ntmps28
    have HL := Lib.hid hl
    clear hl
    go_wp2_with fail
    go_ret
    refine ⟨ret_bool ?_, 0, rfl⟩
    symm
    apply decide_eq_false
    intro e
    exact HL.out (by rw [e])

end Go.Proofs.Ytbpblokfiajpjaa

namespace Go.Proofs.Ytbpblokfiajpjaa
open Go.RowKit Go.SL Go.Crc
attribute [local go_sem ↓] Go.wp_at_zero Go.wp_at_succ

set_option maxRecDepth 100000 in
set_option maxHeartbeats 1000000 in
theorem sametable_any (va vb : Value) (l : List Ent) (w : World) (ha : entsAt w va l) (hb : entsAt w vb l) :
    Calls Try.prog 37 #[va, vb] w fun e w' => e = .returned (.bool true) ∧ ∃ n, w' = w.drewN n := by
  obtain ⟨aoa, ba, offa, capa, rfl, a1, a2, a3⟩ := ha.form
  obtain ⟨aob, bb, offb, capb, rfl, b1, b2, b3⟩ := hb.form
  have A3 := Lib.hid a3
  have B3 := Lib.hid b3
  have HA := Lib.hid ha
  have HB := Lib.hid hb
  clear a3 b3 ha hb
  go_enter Try.func37, Try.ntmps37
  go_wp2_with fail
  go_loopw [5] (fun i wr => ∃ k : Nat, k ≤ l.length ∧ i = .int .i64 k ∧ ∃ n, wr = w.drewN n) (fun i _ => l.length - (intOf i).toNat)
  case atStart => exact ⟨0, by omega, rfl, 0, rfl⟩
  case round =>
    obtain ⟨k, hk, rfl, nd, rfl⟩ := hrel
    by_cases hlt : k < l.length
    · obtain rfl := A3.out (by omega)
      obtain rfl := B3.out (by omega)
      obtain ⟨c1, c2⟩ := HA.out.cells hlt
      obtain ⟨d1, d2⟩ := HB.out.cells hlt
      generalize l.getD k (0, 0) = x at *
      obtain ⟨x1, x2⟩ := x
      dsimp only at c1 c2 d1 d2
      have ha5 : (k : Int) < (l.length : Int) := by omega
      go_wp2_with fail
      go_quiet (fail)
      go_wp2_with fail
      go_roundw
      case rel => exact ⟨k + 1, by omega, by go_num, nd + nq, by first | rfl | exact drewN_add _ _ _⟩
      case measure => simp [intOf]; omega
    · obtain rfl : k = l.length := by omega
      go_wp2_with fail
      go_ret
      exact ⟨rfl, _, rfl⟩

theorem seal_size {xs : List Int} (h : xs.length ≤ 12) : (sealX xs).size = 16 := by
  unfold sealX
  rw [ByteArray.size_append, padded_size h]
  rfl
theorem openF_seal {xs : List Int} (h : xs.length ≤ 12) : openF (sealX xs) = 0 := by
  have hlen : (padded xs).data.toList.length = 12 := by have := padded_size h; rw [← this]; rfl
  have hpre : (sealX xs).extract 0 12 = padded xs := by
    unfold sealX
    apply Go.WideShapes.bytes_inj
    rw [ByteArray.data_extract]
    simp only [ByteArray.data_append, Array.toList_extract, Array.toList_append, List.extract, List.drop_zero, Nat.sub_zero]
    exact List.take_left' hlen
  have hsuf : (sealX xs).extract 12 16 = ⟨(le32 (sumOf (padded xs).data.toList)).toArray⟩ := by
    unfold sealX
    apply Go.WideShapes.bytes_inj
    rw [ByteArray.data_extract]
    simp only [ByteArray.data_append, Array.toList_extract, Array.toList_append, List.extract]
    rw [List.drop_left' hlen]
    rfl
  unfold openF
  rw [if_neg (by simpa using seal_size h), hpre, hsuf, if_neg]
  unfold sumStr
  simp
theorem bt_seal {xs : List Int} {i : Nat} {x : Int} (hx : xs[i]? = some x) (h0 : 0 ≤ x) (h1 : x ≤ 255) : bt (sealX xs) i = x := by
  have hi := (List.getElem?_eq_some_iff.1 hx).1
  have e : (sealX xs).data.toList[i]? = some (UInt8.ofNat x.toNat) := by
    unfold sealX padded
    simp only [ByteArray.data_append, Array.toList_append]
    rw [List.getElem?_append_left (by simp [strOfNums]; omega), List.getElem?_append_left (by simp [strOfNums]; omega)]
    simp only [strOfNums, List.getElem?_map, hx]
    rfl
  unfold bt
  rw [List.getD_eq_getElem?_getD, e]
  simp
  omega
theorem headOf_headS {c p b : Int} (h : ¬ headBad c p b) : headOf (headS c p b) = ((c, p, b), 0) := by
  have hF : openF (headS c p b) = 0 := openF_seal (xs := [83, 89, c, p, b + 1]) (by simp)
  have hr := h
  unfold headBad at hr
  have b2 : bt (headS c p b) 2 = c := bt_seal (xs := [83, 89, c, p, b + 1]) rfl (by omega) (by omega)
  have b3 : bt (headS c p b) 3 = p := bt_seal (xs := [83, 89, c, p, b + 1]) rfl (by omega) (by omega)
  have b4 : bt (headS c p b) 4 = b + 1 := bt_seal (xs := [83, 89, c, p, b + 1]) rfl (by omega) (by omega)
  have hcb : b + 1 - 1 = b := by omega
  have hbad : ¬ headOfBad (headS c p b) := by
    unfold headOfBad
    rw [b2, b3, b4, hcb]
    exact fun h' => h'.elim h fun h' => h' rfl
  rw [headOf, if_neg (by simpa using hF), if_neg hbad, b2, b3, b4, hcb]
theorem deskOf_deskS {r k f a b : Int} (h : deskF r k f a b = 0) : deskOf (deskS r k f a b) = ((r, k, f, a, b), 0) := by
  have hF : openF (deskS r k f a b) = 0 := openF_seal (xs := [68, 75, r, k, f + 1, a % 256, a / 256, b % 256, b / 256]) (by simp)
  have hr := deskF_in h
  unfold deskOut at hr
  have b2 : bt (deskS r k f a b) 2 = r := bt_seal (xs := [68, 75, r, k, f + 1, a % 256, a / 256, b % 256, b / 256]) rfl (by omega) (by omega)
  have b3 : bt (deskS r k f a b) 3 = k := bt_seal (xs := [68, 75, r, k, f + 1, a % 256, a / 256, b % 256, b / 256]) rfl (by omega) (by omega)
  have b4 : bt (deskS r k f a b) 4 = f + 1 := bt_seal (xs := [68, 75, r, k, f + 1, a % 256, a / 256, b % 256, b / 256]) rfl (by omega) (by omega)
  have b5 : bt (deskS r k f a b) 5 = a % 256 := bt_seal (xs := [68, 75, r, k, f + 1, a % 256, a / 256, b % 256, b / 256]) rfl (by omega) (by omega)
  have b6 : bt (deskS r k f a b) 6 = a / 256 := bt_seal (xs := [68, 75, r, k, f + 1, a % 256, a / 256, b % 256, b / 256]) rfl (by omega) (by omega)
  have b7 : bt (deskS r k f a b) 7 = b % 256 := bt_seal (xs := [68, 75, r, k, f + 1, a % 256, a / 256, b % 256, b / 256]) rfl (by omega) (by omega)
  have b8 : bt (deskS r k f a b) 8 = b / 256 := bt_seal (xs := [68, 75, r, k, f + 1, a % 256, a / 256, b % 256, b / 256]) rfl (by omega) (by omega)
  have e1 : f + 1 - 1 = f := by omega
  have e2 : a % 256 + 256 * (a / 256) = a := by omega
  have e3 : b % 256 + 256 * (b / 256) = b := by omega
  have hbad : ¬ deskOfBad (deskS r k f a b) := by
    unfold deskOfBad
    rw [b2, b3, b4, b5, b6, b7, b8, e1, e2, e3]
    exact fun h' => h'.elim (fun h' => h' h) fun h' => h' rfl
  rw [deskOf, if_neg (by simpa using hF), if_neg hbad, deskGood, b2, b3, b4, b5, b6, b7, b8, e1, e2, e3]

set_option maxRecDepth 100000 in
set_option maxHeartbeats 1000000 in
theorem heads_any (R : List SL.HP) (w : World) (H : own w R) : Calls Try.prog 29 #[] w fun e w' => e = .returned (.bool true) ∧ Ext w w' ∧ own w' R := by
  have hof := headOf_headS (c := 3) (p := 4) (b := -1) (by decide)
  have hh := fun w H => head_any 3 4 (-1) R w H
  rw [show headF 3 4 (-1) = 0 from rfl, if_pos rfl, errV_0] at hh
  have HH := Lib.hid hh
  have HO := Lib.hid hof
  have hs : (headS 3 4 (-1)).size ≤ 9223372036854775807 := by
    have : (headS 3 4 (-1)).size = 16 := seal_size (xs := [83, 89, 3, 4, -1 + 1]) (by simp)
    omega
  unfold headV at HH
  clear hh hof
  generalize headS 3 4 (-1) = s at *
  go_enter Try.func29, Try.ntmps29
  go_wp2_with fail
  refine (HH.out _ H).mono ?_
  rintro e w1 ⟨rfl, hx1, h1⟩
  go_wp2_with fail
  refine (readhead_any s hs _ w1 h1).mono ?_
  rw [HO.out]
  unfold headV
  rintro e w2 ⟨rfl, hx2, h2⟩
  dsimp only
  rw [errV_0]
  go_wp2_with fail
  have h3 := own_alloc h2 (.cells #[.int .i64 3, .int .i64 4, .int .i64 (-1)] 52)
  refine (same_any 0 0 _ (by omega)).mono ?_
  rintro e w3 ⟨rfl, rfl⟩
  go_wp2_with fail
  refine (same_any 0 0 _ (by omega)).mono ?_
  rintro e w3 ⟨rfl, rfl⟩
  obtain ⟨cc, ff⟩ := own_cells 0 h3 rfl
  go_wp2_with fail
  go_ret
  exact ⟨rfl, (hx1.trans hx2).alloc _, own_drop h3⟩
end Go.Proofs.Ytbpblokfiajpjaa

namespace Go.Proofs.Ytbpblokfiajpjaa
open Go.RowKit Go.SL Go.Crc
attribute [local go_sem ↓] Go.wp_at_zero Go.wp_at_succ

theorem at_behind {l R : List HP} {k : Nat} {P : HP} (h : R[k]? = some P) : (l ++ R)[l.length + k]? = some P := by
  rw [List.getElem?_append_right (by omega), Nat.add_sub_cancel_left]; exact h
theorem ents_row {w : World} {L : List HP} (k : Nat) {v : Value} {l : List Ent} (H : own w L) (hk : L[k]? = some (row 64 2 v l.length (entCells l))) : entsAt w v l := by
  obtain ⟨ao, g, cap, rfl, h1, h2, h3, -, -, h6, -⟩ := own_row_form k H hk
  refine ⟨ao, g, 0, cap, rfl, h1, by simp only [maxLen] at h2; omega, h3, fun i hi => ?_⟩
  dsimp only
  rw [Nat.zero_add]
  exact ⟨h6 _ _ (entCells_get hi).1, h6 _ _ (entCells_get hi).2⟩
theorem tabRows_nonneg {C : Nat} {P : Int} : ∀ (l : List ByteArray) (t : List Ent), 0 ≤ (tabRows C P t l).2
  | [], t => by simp [tabRows]
  | s :: l, t => by
    rw [tabRows]
    split
    · decide
    · split
      · decide
      · exact tabRows_nonneg l _
theorem tableOf_nonneg (c p b : Int) (rows : List ByteArray) : 0 ≤ (tableOf c p b rows).2 := by
  unfold tableOf
  split
  · decide
  · split
    · decide
    · exact tabRows_nonneg _ _
theorem headOf_nonneg (s : ByteArray) : 0 ≤ (headOf s).2 := by
  unfold headOf
  split
  · rcases openF_nonneg s with h | h <;> dsimp only <;> omega
  · split
    · simp
    · simp
theorem deskOf_nonneg (s : ByteArray) : 0 ≤ (deskOf s).2 := by
  unfold deskOf
  split
  · rcases openF_nonneg s with h | h <;> dsimp only <;> omega
  · split
    · simp
    · simp

set_option maxRecDepth 100000 in
set_option maxHeartbeats 8000000 in
theorem formReads_walk (s : ByteArray) (c p b : Int) (v : Value) (l : List ByteArray) (w : World) (hs : s.size ≤ 9223372036854775807) (hv : StrsAt w v l) :
    Calls Try.prog 9 #[.string s, headV c p b, v] w fun e w' => e = .returned (.bool true) ∧ Below w.heap.size w w' := by
  obtain ⟨ao, bb, off, cap, rfl, hc1, hc2, hao, hat⟩ := hv.form
  have h0 := own_exactly w
  have ha := own_alloc h0 (.cells #[.int .i64 c, .int .i64 p, .int .i64 b] 52)
  have hxa := (Ext.refl w).alloc (.cells #[.int .i64 c, .int .i64 p, .int .i64 b] 52)
  have HV := Lib.hid hv
  have HC := Lib.hid hao
  clear hv hat hao h0
  unfold headV
  go_enter Try.func9, Try.ntmps9
  go_upto_region 1 with (fail)
  generalize w.heap.size = g at *
  generalize w.alloc (.cells #[.int .i64 c, .int .i64 p, .int .i64 b] 52) = w0 at *
  go_wp2_with fail
  refine (heads_any _ w0 ha).mono ?_
  rintro e w1 ⟨rfl, hx1, h1⟩
  replace hx1 := hxa.trans hx1
  clear ha hxa
  have hv1 := HV.out.later 1 h1 rfl
  by_cases hs5 : s.size ≤ 100
  · go_wp2_with fail
    refine (few_any _ l 100 w1 hv1).mono ?_
    rintro e w1' ⟨rfl, rfl⟩
    clear hv1
    by_cases hF : fewB l 100 = true
    · have hl20 : l.length ≤ 20 ∧ ∀ s ∈ l, s.size ≤ 100 := by
        simp only [fewB, Bool.and_eq_true, decide_eq_true_eq, List.all_eq_true, fewOne] at hF
        exact ⟨hF.1, fun s hs => by have := hF.2 s hs; omega⟩
      obtain ⟨hl, hsz⟩ := hl20
      have HS := Lib.hid hsz
      clear hsz
      rw [hF]
      clear hF
      have N1 := headOf_nonneg s
      have N2 := deskOf_nonneg s
      have N3 := tableOf_nonneg c p b l
      generalize hT : tableOf c p b l = TF at *
      obtain ⟨T, F⟩ := TF
      have HT := Lib.hid hT
      have RH := Lib.hid (fun (R : List SL.HP) (w : World) (H : own w R) => readhead_any s hs R w H)
      have RO := Lib.hid (fun (R : List SL.HP) (w : World) (H : own w R) => headof_any s hs R w H)
      have DR := Lib.hid (fun (R : List SL.HP) (w : World) (H : own w R) => readdesk_any s hs R w H)
      have DO := Lib.hid (fun (R : List SL.HP) (w : World) (H : own w R) => deskof_any s hs R w H)
      generalize headOf s = hh at *
      generalize deskOf s = dd at *
      obtain ⟨⟨a1, a2, a3⟩, f1⟩ := hh
      obtain ⟨⟨d1, d2, d3, d4, d5⟩, f2⟩ := dd
      dsimp only at N1 N2 N3 RH RO DR DO
      unfold headV at RH RO
      unfold deskV at DR DO
      clear hT
      go_wp2_with fail
      refine (RH.out _ w1 h1).mono ?_
      rintro e w2 ⟨rfl, hx2, h2⟩
      replace hx2 := hx1.trans hx2
      clear hx1 h1
      go_upto_region 5 with (fail)
      have h3 := own_alloc h2 (.cells #[.int .i64 a1, .int .i64 a2, .int .i64 a3] 52)
      have hx3 := hx2.alloc (.cells #[.int .i64 a1, .int .i64 a2, .int .i64 a3] 52)
      generalize w2.heap.size = p1 at *
      generalize w2.alloc (.cells #[.int .i64 a1, .int .i64 a2, .int .i64 a3] 52) = w3 at *
      clear h2 hx2
      go_wp2_with fail
      refine (RO.out _ w3 h3).mono ?_
      rintro e w4 ⟨rfl, hx4, h4⟩
      replace hx4 := hx3.trans hx4
      clear hx3 h3
      go_upto_region 6 with (fail)
      have h5 := own_alloc h4 (.cells #[.int .i64 a1, .int .i64 a2, .int .i64 a3] 52)
      have hx5 := hx4.alloc (.cells #[.int .i64 a1, .int .i64 a2, .int .i64 a3] 52)
      generalize w4.heap.size = p2 at *
      generalize w4.alloc (.cells #[.int .i64 a1, .int .i64 a2, .int .i64 a3] 52) = w5 at *
      clear h4 hx4
      go_wp2_with fail
      refine (DR.out _ w5 h5).mono ?_
      rintro e w6 ⟨rfl, hx6, h6⟩
      replace hx6 := hx5.trans hx6
      clear hx5 h5
      go_upto_region 7 with (fail)
      have h7 := own_alloc h6 (.cells #[.int .i64 d1, .int .i64 d2, .int .i64 d3, .int .i64 d4, .int .i64 d5] 55)
      have hx7 := hx6.alloc (.cells #[.int .i64 d1, .int .i64 d2, .int .i64 d3, .int .i64 d4, .int .i64 d5] 55)
      generalize w6.heap.size = p3 at *
      generalize w6.alloc (.cells #[.int .i64 d1, .int .i64 d2, .int .i64 d3, .int .i64 d4, .int .i64 d5] 55) = w7 at *
      clear h6 hx6
      go_wp2_with fail
      refine (DO.out _ w7 h7).mono ?_
      rintro e w8 ⟨rfl, hx8, h8⟩
      replace hx8 := hx7.trans hx8
      clear hx7 h7
      go_upto_region 8 with (fail)
      have h9 := own_alloc h8 (.cells #[.int .i64 d1, .int .i64 d2, .int .i64 d3, .int .i64 d4, .int .i64 d5] 55)
      have hx9 := hx8.alloc (.cells #[.int .i64 d1, .int .i64 d2, .int .i64 d3, .int .i64 d4, .int .i64 d5] 55)
      generalize w8.heap.size = p4 at *
      generalize w8.alloc (.cells #[.int .i64 d1, .int .i64 d2, .int .i64 d3, .int .i64 d4, .int .i64 d5] 55) = w9 at *
      clear h8 hx8
      have hat9 := (HV.out.later 5 h9 rfl).form
      obtain ⟨ao', bb', off', cap', hve, -, -, hao', hat'⟩ := hat9
      simp only [Value.slice.injEq, true_and] at hve
      obtain ⟨rfl, rfl⟩ := hve
      have hn1 : ∀ ad, ao = some ad → ∀ j u, (l.map Value.string)[j]? = some u → w9.cell? (ad.add j) = some u := fun ad had j u hu => by
        obtain ⟨hj, rfl⟩ := List.getElem?_eq_some_iff.1 hu
        simp only [List.length_map] at hj
        obtain rfl : ad = ⟨bb', off', none⟩ := by rw [hao' (by omega)] at had; exact (Option.some.inj had).symm
        rw [add_none, hat' j hj]
        simp [hj]
      have hn2 : ao = none → l.length = 0 := fun h => by
        rcases Nat.eq_zero_or_pos l.length with h0 | h0
        · exact h0
        · rw [hao' h0] at h; cases h
      have hn3 : ∀ u ∈ l.map Value.string, u.oneCell' = true := fun u hu => by
        obtain ⟨_, _, rfl⟩ := List.mem_map.1 hu; rfl
      have hml : 0 + l.length ≤ maxLen := by simp only [maxLen]; omega
      have hnl : (l.map Value.string).length = l.length * 1 := by simp
      clear hat' hao'
      go_wp2_with (first | (at_builtin; refine wpList_append_row rfl _ _ 42 rfl 0 9 Try.underlying42 elem_string rfl (by decide) rfl (own_row_nil 9 1 h9) rfl ao l.length cap (l.map Value.string) rfl hnl hn1 hn2 hn3 hml (by omega) ?_))
      clear hn1 hn2
      intro v10 w10 h10 hx10
      obtain ⟨ao2, g2, cap2, rfl, c21, c22, a21, a22, a23, cells2, fr2⟩ := own_row_form 0 h10 rfl
      clear a21 a22 a23 cells2 fr2
      replace hx10 := hx9.trans hx10
      have hb := own_alloc h10 (.cells #[.string smark] 9)
      have hml2 : l.length + 1 ≤ maxLen := by simp only [maxLen]; omega
      go_wp2_with (first | (at_builtin; refine wpList_append_row rfl _ _ 42 rfl 1 9 Try.underlying42 elem_string rfl (by decide) rfl hb rfl (some ⟨w10.heap.size, 0, none⟩) 1 1 [.string smark] rfl rfl (alloc_news w10 [.string smark] _) (fun h => by cases h) (one_str _) hml2 (by omega) ?_))
      intro v11 w11 h11 hx11
      obtain ⟨ao3, g3, cap3, rfl, c31, c32, a31, a32, a33, cells3, fr3⟩ := own_row_form 1 h11 rfl
      obtain rfl := a31 (by omega)
      have hx11 := (hx10.alloc (.cells #[.string smark] 9)).trans hx11
      clear a31 a32 a33 cells3 fr3 hb h10 hx10 h9 hx9
      have h12 := own_drop h11
      clear h11
      replace h12 : own w11 (row 9 1 (.slice (some ⟨g3, 0, none⟩) (l.length + 1) cap3) (l.length + 1) (l.map Value.string ++ [.string smark]) :: pts p4 (.cells #[.int .i64 d1, .int .i64 d2, .int .i64 d3, .int .i64 d4, .int .i64 d5] 55 (0, 0)) :: pts p3 (.cells #[.int .i64 d1, .int .i64 d2, .int .i64 d3, .int .i64 d4, .int .i64 d5] 55 (0, 0)) :: pts p2 (.cells #[.int .i64 a1, .int .i64 a2, .int .i64 a3] 52 (0, 0)) :: pts p1 (.cells #[.int .i64 a1, .int .i64 a2, .int .i64 a3] 52 (0, 0)) :: pts g (.cells #[.int .i64 c, .int .i64 p, .int .i64 b] 52 (0, 0)) :: [exactly w]) := h12
      have HO := Lib.hid (fun w' L (H : own w' (L ++ (row 9 1 (.slice (some ⟨g3, 0, none⟩) (l.length + 1) cap3) (l.length + 1) (l.map Value.string ++ [.string smark]) :: pts p4 (.cells #[.int .i64 d1, .int .i64 d2, .int .i64 d3, .int .i64 d4, .int .i64 d5] 55 (0, 0)) :: pts p3 (.cells #[.int .i64 d1, .int .i64 d2, .int .i64 d3, .int .i64 d4, .int .i64 d5] 55 (0, 0)) :: pts p2 (.cells #[.int .i64 a1, .int .i64 a2, .int .i64 a3] 52 (0, 0)) :: pts p1 (.cells #[.int .i64 a1, .int .i64 a2, .int .i64 a3] 52 (0, 0)) :: pts g (.cells #[.int .i64 c, .int .i64 p, .int .i64 b] 52 (0, 0)) :: [exactly w]))) => (strs_row (L.length + 0) (l := l) H (at_behind (l := L) rfl) rfl (fun x hx => by have := HS.out x hx; omega) : StrsAt w' (.slice (some ⟨g3, 0, none⟩) l.length cap3) l))
      have HVL := Lib.hid (fun w' L (H : own w' (L ++ (row 9 1 (.slice (some ⟨g3, 0, none⟩) (l.length + 1) cap3) (l.length + 1) (l.map Value.string ++ [.string smark]) :: pts p4 (.cells #[.int .i64 d1, .int .i64 d2, .int .i64 d3, .int .i64 d4, .int .i64 d5] 55 (0, 0)) :: pts p3 (.cells #[.int .i64 d1, .int .i64 d2, .int .i64 d3, .int .i64 d4, .int .i64 d5] 55 (0, 0)) :: pts p2 (.cells #[.int .i64 a1, .int .i64 a2, .int .i64 a3] 52 (0, 0)) :: pts p1 (.cells #[.int .i64 a1, .int .i64 a2, .int .i64 a3] 52 (0, 0)) :: pts g (.cells #[.int .i64 c, .int .i64 p, .int .i64 b] 52 (0, 0)) :: [exactly w]))) => HV.out.later (L.length + 6) H (at_behind (l := L) rfl))
      obtain ⟨cc, ff⟩ := own_cells 5 h12 rfl
      go_wp2_with fail
      refine (readtable_any c p b _ l T F HT.out (by omega) _ w11 HO.out h12).mono ?_
      rintro e w13 ⟨vt1, rfl, hx13, h13⟩
      replace hx13 := hx11.trans hx13
      clear cc ff hx11 h12
      obtain ⟨cc, ff⟩ := own_cells 6 h13 rfl
      go_wp2_with fail
      refine (tableof_any c p b _ l T F HT.out (by omega) _ w13 (fun w' L H => HVL.out w' (L ++ [_]) (by rw [List.append_assoc]; exact H)) h13).mono ?_
      rintro e w14 ⟨vt2, rfl, hx14, h14⟩
      replace hx14 := hx13.trans hx14
      clear cc ff hx13 h13
      have HS1 := Lib.hid (ents_row 0 h14 rfl)
      have HS2 := Lib.hid (ents_row 1 h14 rfl)
      have HO4 := Lib.hid (HO.out w14 [_, _] h14)
      have HV4 := Lib.hid (HVL.out w14 [_, _] h14)
      obtain ⟨x1, y1⟩ := own_cells 6 h14 rfl
      obtain ⟨x2, y2⟩ := own_cells 5 h14 rfl
      obtain ⟨x3, y3⟩ := own_cells 4 h14 rfl
      obtain ⟨x4, y4⟩ := own_cells 3 h14 rfl
      have H14 := Lib.hid h14
      clear h14
      go_wp2_with fail
      refine (same_any f1 f1 _ N1).mono ?_
      rintro e w15 ⟨rfl, rfl⟩
      go_wp2_with fail
      refine (same_any f2 f2 _ N2).mono ?_
      rintro e w15 ⟨rfl, rfl⟩
      go_wp2_with fail
      refine (same_any F F _ N3).mono ?_
      rintro e w15 ⟨rfl, rfl⟩
      go_wp2_with fail
      refine (sametable_any _ _ T w14 HS2.out HS1.out).mono ?_
      rintro e w15 ⟨rfl, nd, rfl⟩
      go_wp2_with fail
      refine (sametexts_any _ _ l l _ (HO.out _ [_, _] (own_drewN nd H14.out)) (HVL.out _ [_, _] (own_drewN nd H14.out))).mono ?_
      rintro e w15 ⟨rfl, nd2, rfl⟩
      go_wp2_with fail
      go_ret
      exact ⟨by simp, below_of 8 (own_drewN (nd + nd2) H14.out) rfl (hx14.drewN _)⟩
    · have hFf : fewB l 100 = false := by simpa using hF
      rw [hFf]
      clear hF hFf
      go_wp2_with fail
      go_ret
      exact ⟨rfl, below_of 1 h1 rfl hx1⟩
  · go_wp2_with fail
    go_ret
    exact ⟨rfl, below_of 1 h1 rfl hx1⟩
end Go.Proofs.Ytbpblokfiajpjaa
