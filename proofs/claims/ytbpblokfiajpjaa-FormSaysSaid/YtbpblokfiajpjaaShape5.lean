/- Heads read back by the program. No conditions. -/
import Derived.Test.YtbpblokfiajpjaaShape4
namespace Go.Proofs.Ytbpblokfiajpjaa
open Go.RowKit Go.SL Go.Crc
attribute [local go_sem ↓] Go.wp_at_zero Go.wp_at_succ

theorem bt_extract {s : ByteArray} {i : Nat} (h : s.size = 16) (hi : i < 12) : bt (s.extract 0 12) i = bt s i := by
  unfold bt
  simp only [ByteArray.data_extract, Array.toList_extract, List.extract]
  congr 1
  simp [hi]

set_option maxRecDepth 100000 in
set_option maxHeartbeats 1000000 in
theorem readhead_any (s : ByteArray) (hs : s.size ≤ 9223372036854775807) (R : List SL.HP) (w : World) (H : own w R) :
    Calls Try.prog 33 #[.string s] w fun e w' => e = .returned (.tuple #[headV (headOf s).1.1 (headOf s).1.2.1 (headOf s).1.2.2, errV (headOf s).2]) ∧ Ext w w' ∧ own w' R := by
  have ha := own_alloc H (.cells #[.int .i64 0, .int .i64 0, .int .i64 0] 52)
  have hxa := (Ext.refl w).alloc (.cells #[.int .i64 0, .int .i64 0, .int .i64 0] 52)
  rcases openF_nonneg s with hF | hF
  · have h16 := openF_size hF
    have e : headOf s = if headOfBad s then ((0, 0, 0), 2) else ((bt s 2, bt s 3, bt s 4 - 1), 0) := by rw [headOf, if_neg (by omega)]
    rw [e]
    clear e
    have h16' : (s.size : Int) = 16 := by omega
    go_enter Try.func33, Try.ntmps33
    go_upto_region 1 with (fail)
    generalize w.heap.size = g at *
    generalize w.alloc (.cells #[.int .i64 0, .int .i64 0, .int .i64 0] 52) = w1 at *
    go_wp2_with fail
    refine (open_any s hs _ w1 ha).mono ?_
    rintro e w2 ⟨rfl, hx2, h2⟩
    rw [hF, errV_0, show openS s = s.extract 0 12 from if_pos hF]
    have hu : (s.extract 0 12).size = 12 := by simp [ByteArray.size_extract, h16]
    have g2 := bt_extract (i := 2) h16 (by decide)
    have g3 := bt_extract (i := 3) h16 (by decide)
    have g4 := bt_extract (i := 4) h16 (by decide)
    generalize s.extract 0 12 = u at *
    have hu' : (u.size : Int) = 12 := by omega
    have q2 := bt_get (s := u) (i := 2) (by omega)
    have q3 := bt_get (s := u) (i := 3) (by omega)
    have q4 := bt_get (s := u) (i := 4) (by omega)
    rw [g2] at q2
    rw [g3] at q3
    rw [g4] at q4
    clear g2 g3 g4
    have l2 := bt_le s 2
    have l3 := bt_le s 3
    have l4 := bt_le s 4
    have hcond : headOfBad s ↔ (headBad (bt s 2) (bt s 3) (bt s 4 - 1) ∨ headS (bt s 2) (bt s 3) (bt s 4 - 1) ≠ s) := Iff.rfl
    have HCD := Lib.hid hcond
    clear hcond
    generalize b2 : bt s 2 = x2 at *
    generalize b3 : bt s 3 = x3 at *
    generalize b4 : bt s 4 = x4 at *
    have HX := Lib.hid (And.intro b2 (And.intro b3 (show bt s 4 - 1 = x4 - 1 by rw [b4])))
    clear b2 b3 b4
    have e2 : IntKind.i64.wrap x2 = x2 := IntWalk.i64_in _ (by omega)
    have e3 : IntKind.i64.wrap x3 = x3 := IntWalk.i64_in _ (by omega)
    have e4 : IntKind.i64.wrap x4 = x4 := IntWalk.i64_in _ (by omega)
    have e5 : IntKind.i64.wrap (x4 - 1) = x4 - 1 := IntWalk.i64_in _ (by omega)
    go_upto_region 4 with (fail)
    refine wp_region_held_drew (S := fun _ => True) (by kernel_rfl) trivial (fun hHeld => ?_)
    refine wpAnyH_take (i := 0) (v := ?_) rfl (by kernel_rfl) (by kernel_rfl) (by kernel_rfl) (fun _ _ _ h => h) (Or.inl ⟨by rfl, ?_⟩) (by assumption) ?_
    rotate_left
    · intro w hSw
      go_simp
      try with_reducible rfl
    try simp only [Act.put, List.setIfInBounds_toArray, List.set_cons_zero, List.set_cons_succ]
    refine wpAnyH_take (i := 1) (v := ?_) rfl (by kernel_rfl) (by kernel_rfl) (by kernel_rfl) (fun _ _ _ h => h) (Or.inl ⟨by rfl, ?_⟩) (by assumption) ?_
    rotate_left
    · intro w hSw
      go_simp
      try with_reducible rfl
    try simp only [Act.put, List.setIfInBounds_toArray, List.set_cons_zero, List.set_cons_succ]
    refine wpAnyH_take (i := 2) (v := ?_) rfl (by kernel_rfl) (by kernel_rfl) (by kernel_rfl) (fun _ _ _ h => h) (Or.inl ⟨by rfl, ?_⟩) (by assumption) ?_
    rotate_left
    · intro w hSw
      go_simp
      try with_reducible rfl
    try simp only [Act.put, List.setIfInBounds_toArray, List.set_cons_zero, List.set_cons_succ]
    refine wpAnyH_take (i := 3) (v := ?_) rfl (by kernel_rfl) (by kernel_rfl) (by kernel_rfl) (fun _ _ _ h => h) (Or.inl ⟨by rfl, ?_⟩) (by assumption) ?_
    rotate_left
    · intro w hSw
      go_simp
      try with_reducible rfl
    try simp only [Act.put, List.setIfInBounds_toArray, List.set_cons_zero, List.set_cons_succ]
    refine wpAnyH_take (i := 4) (v := ?_) rfl (by kernel_rfl) (by kernel_rfl) (by kernel_rfl) (fun _ _ _ h => h) (Or.inl ⟨by rfl, ?_⟩) (by assumption) ?_
    rotate_left
    · intro w hSw
      go_simp
      try with_reducible rfl
    try simp only [Act.put, List.setIfInBounds_toArray, List.set_cons_zero, List.set_cons_succ]
    refine wpAnyH_take (i := 5) (v := ?_) rfl (by kernel_rfl) (by kernel_rfl) (by kernel_rfl) (fun _ _ _ h => h) (Or.inl ⟨by rfl, ?_⟩) (by assumption) ?_
    rotate_left
    · intro w hSw
      go_simp
      try with_reducible rfl
    try simp only [Act.put, List.setIfInBounds_toArray, List.set_cons_zero, List.set_cons_succ]
    refine wpAnyH_take (i := 6) (v := ?_) rfl (by kernel_rfl) (by kernel_rfl) (by kernel_rfl) (fun _ _ _ h => h) (Or.inl ⟨by rfl, ?_⟩) (by assumption) ?_
    rotate_left
    · intro w hSw
      go_simp
      try with_reducible rfl
    try simp only [Act.put, List.setIfInBounds_toArray, List.set_cons_zero, List.set_cons_succ]
    refine wpAnyH_take (i := 7) (v := ?_) rfl (by kernel_rfl) (by kernel_rfl) (by kernel_rfl) (fun _ _ _ h => h) (Or.inl ⟨by rfl, ?_⟩) (by assumption) ?_
    rotate_left
    · intro w hSw
      go_simp
      try with_reducible rfl
    try simp only [Act.put, List.setIfInBounds_toArray, List.set_cons_zero, List.set_cons_succ]
    refine wpAnyH_take (i := 8) (v := ?_) rfl (by kernel_rfl) (by kernel_rfl) (by kernel_rfl) (fun _ _ _ h => h) (Or.inl ⟨by rfl, ?_⟩) (by assumption) ?_
    rotate_left
    · intro w hSw
      go_simp
      try with_reducible rfl
    try simp only [Act.put, List.setIfInBounds_toArray, List.set_cons_zero, List.set_cons_succ]
    refine wpAnyH_take (i := 9) (v := ?_) rfl (by kernel_rfl) (by kernel_rfl) (by kernel_rfl) (fun _ _ _ h => h) (Or.inl ⟨by rfl, ?_⟩) (by assumption) ?_
    rotate_left
    · intro w hSw
      go_simp
      try with_reducible rfl
    try simp only [Act.put, List.setIfInBounds_toArray, List.set_cons_zero, List.set_cons_succ]
    refine wpAnyH_take (i := 10) (v := ?_) rfl (by kernel_rfl) (by kernel_rfl) (by kernel_rfl) (fun _ _ _ h => h) (Or.inl ⟨by rfl, ?_⟩) (by assumption) ?_
    rotate_left
    · intro w hSw
      go_simp
      try with_reducible rfl
    try simp only [Act.put, List.setIfInBounds_toArray, List.set_cons_zero, List.set_cons_succ]
    refine wpAnyH_ready (rs := [11]) (by kernel_rfl) (by simp) ?_
    refine AllReadyH.cons rfl (fun K hK => ?_) AllReadyH.nil
    go_simp
    refine hK.out _ _ trivial (fun _ => ?_)
    clear hK K
    try simp only [Act.put, List.setIfInBounds_toArray, List.set_cons_zero, List.set_cons_succ]
    refine wpAnyH_ready (rs := [12]) (by kernel_rfl) (by simp) ?_
    refine AllReadyH.cons rfl (fun K hK => ?_) AllReadyH.nil
    go_simp
    refine hK.out _ _ trivial (fun _ => ?_)
    clear hK K
    try simp only [Act.put, List.setIfInBounds_toArray, List.set_cons_zero, List.set_cons_succ]
    refine wpAnyH_done (by kernel_rfl) ?_ _
    have h3 := own_drew (own_alloc h2 (.cells #[.int .i64 x2, .int .i64 x3, .int .i64 (x4 - 1)] 52))
    have hx3 := ((hxa.trans hx2).alloc (.cells #[.int .i64 x2, .int .i64 x3, .int .i64 (x4 - 1)] 52)).drew
    clear q2 q3 q4 e2 e3 e4 e5 h2 hx2 ha hxa
    generalize w2.heap.size = p at *
    generalize (w2.alloc (.cells #[.int .i64 x2, .int .i64 x3, .int .i64 (x4 - 1)] 52)).drew = w3 at *
    generalize x4 - 1 = y at *
    obtain ⟨c, f⟩ := own_cells 0 h3 rfl
    have hq := head_any x2 x3 y _ w3 h3
    by_cases hb : headBad x2 x3 y
    · have hbad : headOfBad s := HCD.out.2 (.inl hb)
      have HB := Lib.hid hbad
      rw [show headF x2 x3 y = 1 from if_pos hb, if_neg (by decide)] at hq
      have HQ := Lib.hid hq
      clear hq hb hbad
      unfold headV at HQ
      go_wp2_with fail
      refine HQ.out.mono ?_
      rintro e w4 ⟨rfl, hx4, h4⟩
      have he : errV 1 = .iface 121 (.int .i64 1) := rfl
      rw [he]
      clear c f
      obtain ⟨c, f⟩ := own_cells 1 h4 rfl
      go_wp2_with fail
      have h5 := own_set (i := 2) (v := .int .i64 0) 1 (own_set (i := 1) (v := .int .i64 0) 1 (own_set (i := 0) (v := .int .i64 0) 1 h4 rfl) rfl) rfl
      obtain ⟨c3, -⟩ := own_cells 1 h5 rfl
      refine bodyPost_ret (results_head rfl _ _ g 0 0 0 rfl (c3 0) (c3 1) (c3 2)) rfl ?_
      exact ⟨by first | rfl | (rw [if_pos HB.out]; rfl), (((hx3.trans hx4).setCell _ _).setCell _ _).setCell _ _, own_drop (own_drop h5)⟩
    · rw [show headF x2 x3 y = 0 from if_neg hb, if_pos rfl] at hq
      have HQ := Lib.hid hq
      clear hq
      unfold headV at HQ
      go_wp2_with fail
      refine HQ.out.mono ?_
      rintro e w5 ⟨rfl, hx5, h5⟩
      rw [errV_0]
      clear c f
      obtain ⟨c, f⟩ := own_cells 0 h5 rfl
      obtain ⟨c', f'⟩ := own_cells 1 h5 rfl
      by_cases hne : headS x2 x3 y = s
      · have hgood : ¬ headOfBad s := fun h => (HCD.out.1 h).elim hb (fun h => h hne)
        have HG := Lib.hid hgood
        rw [hne]
        clear hgood hb
        go_wp2_with fail
        have h6 := own_set (i := 2) (v := .int .i64 y) 1 (own_set (i := 1) (v := .int .i64 x3) 1 (own_set (i := 0) (v := .int .i64 x2) 1 h5 rfl) rfl) rfl
        obtain ⟨c3, -⟩ := own_cells 1 h6 rfl
        refine bodyPost_ret (results_head rfl _ _ g x2 x3 y rfl (c3 0) (c3 1) (c3 2)) rfl ?_
        exact ⟨by first | (rw [HX.out.1, HX.out.2.1, HX.out.2.2]; rfl) | (rw [if_neg HG.out, HX.out.1, HX.out.2.1, HX.out.2.2]; rfl), (((hx3.trans hx5).setCell _ _).setCell _ _).setCell _ _, own_drop (own_drop h6)⟩
      · have hbad : headOfBad s := HCD.out.2 (.inr hne)
        have HB := Lib.hid hbad
        have hnl : ((headS x2 x3 y).toList == s.toList) = false := by simpa using fun h => hne (toList_inj h)
        clear hb hbad
        go_wp2_with fail
        have h6 := own_set (i := 2) (v := .int .i64 0) 1 (own_set (i := 1) (v := .int .i64 0) 1 (own_set (i := 0) (v := .int .i64 0) 1 h5 rfl) rfl) rfl
        obtain ⟨c3, -⟩ := own_cells 1 h6 rfl
        refine bodyPost_ret (results_head rfl _ _ g 0 0 0 rfl (c3 0) (c3 1) (c3 2)) rfl ?_
        exact ⟨by first | rfl | (rw [if_pos HB.out]; rfl), (((hx3.trans hx5).setCell _ _).setCell _ _).setCell _ _, own_drop (own_drop h6)⟩
  · have e : headOf s = ((0, 0, 0), openF s) := by rw [headOf, if_pos (by omega)]
    rw [e]
    clear e
    go_enter Try.func33, Try.ntmps33
    go_upto_region 1 with (fail)
    generalize w.heap.size = g at *
    generalize w.alloc (.cells #[.int .i64 0, .int .i64 0, .int .i64 0] 52) = w1 at *
    go_wp2_with fail
    refine (open_any s hs _ w1 ha).mono ?_
    rintro e w2 ⟨rfl, hx2, h2⟩
    rw [errV_pos hF]
    obtain ⟨c, f⟩ := own_cells 0 h2 rfl
    go_wp2_with fail
    have h3 := own_set (i := 2) (v := .int .i64 0) 0 (own_set (i := 1) (v := .int .i64 0) 0 (own_set (i := 0) (v := .int .i64 0) 0 h2 rfl) rfl) rfl
    obtain ⟨c3, -⟩ := own_cells 0 h3 rfl
    refine bodyPost_ret (results_head rfl _ _ g 0 0 0 rfl (c3 0) (c3 1) (c3 2)) rfl ?_
    exact ⟨by rw [errV_pos hF]; rfl, (((hxa.trans hx2).setCell _ _).setCell _ _).setCell _ _, own_drop h3⟩
end Go.Proofs.Ytbpblokfiajpjaa
