/- An image made: Created (the document's). ImageSays answers true, whatever the image and the acts, and leaves what it was given as it was. A law's arguments that are heads, desks, lists of entries: opened. The openings of a law that takes a head, beside its walk. No conditions. -/
import Derived.Test.YtbpblokfiajpjaaPk206978c10b
import Derived.Test.YtbpblokfiajpjaaProg
import Derived.Lib.SmallJoins
namespace Go.Proofs.Ytbpblokfiajpjaa
open Go.RowKit Go.SL Go.Crc
attribute [local go_sem ↓] Go.wp_at_zero Go.wp_at_succ

set_option maxRecDepth 100000 in
set_option maxHeartbeats 8000000 in
theorem created_any (bd : Nat) (d : DevM) (hd : d.Ok) (hp : d.pend.length < 999000) (hw : d.writes < 999000) (c p b : Int) (R : List SL.HP) (w : World) (H : own w (rdevAt bd d :: R)) :
    Calls Try.prog 68 #[.pointer (some ⟨bd, 0, none⟩), headV c p b] w (RMadePost bd (createR d c p b) R w) := by
  have hE : createR d c p b = if fitBad d c p b then (1, madeM d c p b)
    else if (d.puts 1 (rowsL (zeroT c))).1 ≠ 0 then ((d.puts 1 (rowsL (zeroT c))).1, madeM (d.puts 1 (rowsL (zeroT c))).2 c p b)
    else if ((d.puts 1 (rowsL (zeroT c))).2.flush.write 0 (headS c p b)).1 ≠ 0 then (((d.puts 1 (rowsL (zeroT c))).2.flush.write 0 (headS c p b)).1, madeM ((d.puts 1 (rowsL (zeroT c))).2.flush.write 0 (headS c p b)).2 c p b)
    else (0, madeM ((d.puts 1 (rowsL (zeroT c))).2.flush.write 0 (headS c p b)).2.flush c p b) := rfl
  generalize createR d c p b = S at *
  have HE := Lib.hid hE
  clear hE
  have ha := own_alloc H (.cells #[.int .i64 c, .int .i64 p, .int .i64 b] 52)
  have hxa := (Ext.refl w).alloc (.cells #[.int .i64 c, .int .i64 p, .int .i64 b] 52)
  obtain ⟨vf, va, vw, h⟩ := rdev_open (own_pick 1 ha rfl)
  obtain ⟨af, gf, cf, rfl, -, -, -, -, -, -, -⟩ := own_row_form 1 h rfl
  have hn := hd.n
  have hfh := fun (R : List SL.HP) (w : World) (H : own w R) => headfault_any c p b R w H
  by_cases hb : headBad c p b
  · have hS : S = (1, madeM d c p b) := by rw [HE.out, if_pos (show fitBad d c p b from .inl hb)]
    rw [show headF c p b = 1 from if_pos hb] at hfh
    have HFH := Lib.hid hfh
    have HS := Lib.hid hS
    clear hb hS hfh
    unfold headV at HFH
    unfold headV
    go_enter Try.func68, Try.ntmps68
    go_upto_region 1 with (fail)
    generalize w.heap.size = gh at *
    generalize w.alloc (.cells #[.int .i64 c, .int .i64 p, .int .i64 b] 52) = w1 at *
    have hd1 := own_drew h
    clear h
    refine wp_region_held_drew (S := fun w' => w'.cell? ⟨gh, 0, none⟩ = some (.int .i64 c) ∧ w'.cell? ⟨gh, 1, none⟩ = some (.int .i64 p) ∧ w'.cell? ⟨gh, 2, none⟩ = some (.int .i64 b) ∧ w'.cell? ⟨bd, 0, none⟩ = some (.slice af d.fl.length cf)) (by kernel_rfl) ⟨(own_cells 4 hd1 rfl).1 0, (own_cells 4 hd1 rfl).1 1, (own_cells 4 hd1 rfl).1 2, (own_cells 0 hd1 rfl).1 0⟩ (fun hHeld => ?_)
    refine wpAnyH_take (i := 0) (v := ?_) rfl (by kernel_rfl) (by kernel_rfl) (by kernel_rfl) (fun _ _ _ h => h) (Or.inl ⟨by rfl, ?_⟩) (by assumption) ?_
    rotate_left
    · intro w hSw
      go_simp
      try with_reducible rfl
    try simp only [Act.put, List.setIfInBounds_toArray, List.set_cons_zero, List.set_cons_succ]
    refine wpAnyH_ready (rs := [1]) (by kernel_rfl) (by simp) ?_
    refine AllReadyH.cons rfl (fun K hK => ?_) AllReadyH.nil
    go_simp
    go_at_call 30
    refine (HFH.out _ _ hd1).mono ?_
    rintro e w2 ⟨rfl, hx2, h2⟩
    go_simp
    refine hK.out _ _ ⟨(own_cells 4 h2 rfl).1 0, (own_cells 4 h2 rfl).1 1, (own_cells 4 h2 rfl).1 2, (own_cells 0 h2 rfl).1 0⟩ (fun _ => ?_)
    clear hK K
    try simp only [Act.put, List.setIfInBounds_toArray, List.set_cons_zero, List.set_cons_succ]
    refine wpAnyH_take (i := 2) (v := ?_) rfl (by kernel_rfl) (by kernel_rfl) (by kernel_rfl) (fun _ _ _ h => h) (Or.inl ⟨by rfl, ?_⟩) (by assumption) ?_
    rotate_left
    · intro w hSw
      go_simp
      try with_reducible rfl
    try simp only [Act.put, List.setIfInBounds_toArray, List.set_cons_zero, List.set_cons_succ]
    refine wpAnyH_take (i := 3) (v := ?_) rfl (by kernel_rfl) (by kernel_rfl) (by kernel_rfl) (fun _ _ _ h => h) (Or.inl ⟨by rfl, ?_⟩) (by assumption) ?_
    rotate_left
    · intro w hSw
      go_simp
      try with_reducible rfl
    try simp only [Act.put, List.setIfInBounds_toArray, List.set_cons_zero, List.set_cons_succ]
    refine wpAnyH_take (i := 4) (v := undef) rfl (by kernel_rfl) (by kernel_rfl) (by kernel_rfl) (fun _ _ _ h => h) (Or.inr ⟨by kernel_rfl, rfl⟩) (by assumption) ?_
    try simp only [Act.put, List.setIfInBounds_toArray, List.set_cons_zero, List.set_cons_succ]
    refine wpAnyH_take (i := 5) (v := undef) rfl (by kernel_rfl) (by kernel_rfl) (by kernel_rfl) (fun _ _ _ h => h) (Or.inr ⟨by kernel_rfl, rfl⟩) (by assumption) ?_
    try simp only [Act.put, List.setIfInBounds_toArray, List.set_cons_zero, List.set_cons_succ]
    refine wpAnyH_take (i := 6) (v := undef) rfl (by kernel_rfl) (by kernel_rfl) (by kernel_rfl) (fun _ _ _ h => h) (Or.inr ⟨by kernel_rfl, rfl⟩) (by assumption) ?_
    try simp only [Act.put, List.setIfInBounds_toArray, List.set_cons_zero, List.set_cons_succ]
    refine wpAnyH_take (i := 7) (v := undef) rfl (by kernel_rfl) (by kernel_rfl) (by kernel_rfl) (fun _ _ _ h => h) (Or.inr ⟨by kernel_rfl, rfl⟩) (by assumption) ?_
    try simp only [Act.put, List.setIfInBounds_toArray, List.set_cons_zero, List.set_cons_succ]
    refine wpAnyH_take (i := 8) (v := undef) rfl (by kernel_rfl) (by kernel_rfl) (by kernel_rfl) (fun _ _ _ h => h) (Or.inr ⟨by kernel_rfl, rfl⟩) (by assumption) ?_
    try simp only [Act.put, List.setIfInBounds_toArray, List.set_cons_zero, List.set_cons_succ]
    refine wpAnyH_take (i := 9) (v := undef) rfl (by kernel_rfl) (by kernel_rfl) (by kernel_rfl) (fun _ _ _ h => h) (Or.inr ⟨by kernel_rfl, rfl⟩) (by assumption) ?_
    try simp only [Act.put, List.setIfInBounds_toArray, List.set_cons_zero, List.set_cons_succ]
    refine wpAnyH_take (i := 10) (v := undef) rfl (by kernel_rfl) (by kernel_rfl) (by kernel_rfl) (fun _ _ _ h => h) (Or.inr ⟨by kernel_rfl, rfl⟩) (by assumption) ?_
    try simp only [Act.put, List.setIfInBounds_toArray, List.set_cons_zero, List.set_cons_succ]
    refine wpAnyH_take (i := 11) (v := undef) rfl (by kernel_rfl) (by kernel_rfl) (by kernel_rfl) (fun _ _ _ h => h) (Or.inr ⟨by kernel_rfl, rfl⟩) (by assumption) ?_
    try simp only [Act.put, List.setIfInBounds_toArray, List.set_cons_zero, List.set_cons_succ]
    refine wpAnyH_ready (rs := [12]) (by kernel_rfl) (by simp) ?_
    refine AllReadyH.cons rfl (fun K hK => ?_) AllReadyH.nil
    go_simp
    refine hK.out _ _ (by assumption) (fun _ => ?_)
    clear hK K
    try simp only [Act.put, List.setIfInBounds_toArray, List.set_cons_zero, List.set_cons_succ]
    refine wpAnyH_done (by kernel_rfl) ?_ _
    have h3 := rdev_close h2
    have hx3 := hxa.drew.trans hx2
    clear hd1 h2
    go_wp2_with fail
    go_ret2
    rw [HS.out]
    exact .inl ⟨by simp, rfl, hx3, own_erase 1 h3 rfl⟩
  · rw [show headF c p b = 0 from if_neg hb] at hfh
    have HFH := Lib.hid hfh
    have HND := Lib.hid (fun (R : List SL.HP) (w : World) (H : own w R) => rneed_any c p b hb R w H)
    have HB := Lib.hid hb
    have hfb : fitBad d c p b ↔ (d.fl.length : Int) < needN c p := ⟨fun h => h.elim (fun h => absurd h hb) id, .inr⟩
    have HFB := Lib.hid hfb
    clear hb hfh hfb
    generalize needN c p = nd at *
    by_cases hl : (d.fl.length : Int) < nd
    · have d0 : decide ((d.fl.length : Int) < nd) = true := decide_eq_true hl
      have HL := Lib.hid hl
      clear hl
      unfold headV at HFH HND
      unfold headV
      go_enter Try.func68, Try.ntmps68
      go_upto_region 1 with (fail)
      generalize w.heap.size = gh at *
      generalize w.alloc (.cells #[.int .i64 c, .int .i64 p, .int .i64 b] 52) = w1 at *
      have hd1 := own_drew h
      clear h
      refine wp_region_held_drew (S := fun w' => w'.cell? ⟨gh, 0, none⟩ = some (.int .i64 c) ∧ w'.cell? ⟨gh, 1, none⟩ = some (.int .i64 p) ∧ w'.cell? ⟨gh, 2, none⟩ = some (.int .i64 b) ∧ w'.cell? ⟨bd, 0, none⟩ = some (.slice af d.fl.length cf)) (by kernel_rfl) ⟨(own_cells 4 hd1 rfl).1 0, (own_cells 4 hd1 rfl).1 1, (own_cells 4 hd1 rfl).1 2, (own_cells 0 hd1 rfl).1 0⟩ (fun hHeld => ?_)
      refine wpAnyH_take (i := 0) (v := ?_) rfl (by kernel_rfl) (by kernel_rfl) (by kernel_rfl) (fun _ _ _ h => h) (Or.inl ⟨by rfl, ?_⟩) (by assumption) ?_
      rotate_left
      · intro w hSw
        go_simp
        try with_reducible rfl
      try simp only [Act.put, List.setIfInBounds_toArray, List.set_cons_zero, List.set_cons_succ]
      refine wpAnyH_ready (rs := [1]) (by kernel_rfl) (by simp) ?_
      refine AllReadyH.cons rfl (fun K hK => ?_) AllReadyH.nil
      go_simp
      go_at_call 30
      refine (HFH.out _ _ hd1).mono ?_
      rintro e w2 ⟨rfl, hx2, h2⟩
      go_simp
      refine hK.out _ _ ⟨(own_cells 4 h2 rfl).1 0, (own_cells 4 h2 rfl).1 1, (own_cells 4 h2 rfl).1 2, (own_cells 0 h2 rfl).1 0⟩ (fun _ => ?_)
      clear hK K
      try simp only [Act.put, List.setIfInBounds_toArray, List.set_cons_zero, List.set_cons_succ]
      refine wpAnyH_take (i := 2) (v := ?_) rfl (by kernel_rfl) (by kernel_rfl) (by kernel_rfl) (fun _ _ _ h => h) (Or.inl ⟨by rfl, ?_⟩) (by assumption) ?_
      rotate_left
      · intro w hSw
        go_simp
        try with_reducible rfl
      try simp only [Act.put, List.setIfInBounds_toArray, List.set_cons_zero, List.set_cons_succ]
      refine wpAnyH_take (i := 3) (v := ?_) rfl (by kernel_rfl) (by kernel_rfl) (by kernel_rfl) (fun _ _ _ h => h) (Or.inl ⟨by rfl, ?_⟩) (by assumption) ?_
      rotate_left
      · intro w hSw
        go_simp
        try with_reducible rfl
      try simp only [Act.put, List.setIfInBounds_toArray, List.set_cons_zero, List.set_cons_succ]
      refine wpAnyH_take (i := 4) (v := ?_) rfl (by kernel_rfl) (by kernel_rfl) (by kernel_rfl) (fun _ _ _ h => h) (Or.inl ⟨by rfl, ?_⟩) (by assumption) ?_
      rotate_left
      · intro w hSw
        go_simp
        try with_reducible rfl
      try simp only [Act.put, List.setIfInBounds_toArray, List.set_cons_zero, List.set_cons_succ]
      refine wpAnyH_take (i := 6) (v := ?_) rfl (by kernel_rfl) (by kernel_rfl) (by kernel_rfl) (fun _ _ _ h => h) (Or.inl ⟨by rfl, ?_⟩) (by assumption) ?_
      rotate_left
      · intro w hSw
        go_simp
        try with_reducible rfl
      try simp only [Act.put, List.setIfInBounds_toArray, List.set_cons_zero, List.set_cons_succ]
      refine wpAnyH_take (i := 7) (v := ?_) rfl (by kernel_rfl) (by kernel_rfl) (by kernel_rfl) (fun _ _ _ h => h) (Or.inl ⟨by rfl, ?_⟩) (by assumption) ?_
      rotate_left
      · intro w hSw
        go_simp
        try with_reducible rfl
      try simp only [Act.put, List.setIfInBounds_toArray, List.set_cons_zero, List.set_cons_succ]
      refine wpAnyH_take (i := 8) (v := ?_) rfl (by kernel_rfl) (by kernel_rfl) (by kernel_rfl) (fun _ _ _ h => h) (Or.inl ⟨by rfl, ?_⟩) (by assumption) ?_
      rotate_left
      · intro w hSw
        go_simp
        try with_reducible rfl
      try simp only [Act.put, List.setIfInBounds_toArray, List.set_cons_zero, List.set_cons_succ]
      refine wpAnyH_take (i := 9) (v := ?_) rfl (by kernel_rfl) (by kernel_rfl) (by kernel_rfl) (fun _ _ _ h => h) (Or.inl ⟨by rfl, ?_⟩) (by assumption) ?_
      rotate_left
      · intro w hSw
        go_simp
        try with_reducible rfl
      try simp only [Act.put, List.setIfInBounds_toArray, List.set_cons_zero, List.set_cons_succ]
      refine wpAnyH_take (i := 10) (v := ?_) rfl (by kernel_rfl) (by kernel_rfl) (by kernel_rfl) (fun _ _ _ h => h) (Or.inl ⟨by rfl, ?_⟩) (by assumption) ?_
      rotate_left
      · intro w hSw
        go_simp
        try with_reducible rfl
      try simp only [Act.put, List.setIfInBounds_toArray, List.set_cons_zero, List.set_cons_succ]
      refine wpAnyH_ready (rs := [5]) (by kernel_rfl) (by simp) ?_
      refine AllReadyH.cons rfl (fun K hK => ?_) AllReadyH.nil
      go_simp
      go_at_call 70
      refine (HND.out _ _ h2).mono ?_
      rintro e w3 ⟨rfl, hx3, h3⟩
      go_simp
      refine hK.out _ _ ⟨(own_cells 4 h3 rfl).1 0, (own_cells 4 h3 rfl).1 1, (own_cells 4 h3 rfl).1 2, (own_cells 0 h3 rfl).1 0⟩ (fun _ => ?_)
      clear hK K
      try simp only [Act.put, List.setIfInBounds_toArray, List.set_cons_zero, List.set_cons_succ]
      refine wpAnyH_ready (rs := [11]) (by kernel_rfl) (by simp) ?_
      refine AllReadyH.cons rfl (fun K hK => ?_) AllReadyH.nil
      go_simp
      refine hK.out _ _ (by assumption) (fun _ => ?_)
      clear hK K
      try simp only [Act.put, List.setIfInBounds_toArray, List.set_cons_zero, List.set_cons_succ]
      refine wpAnyH_ready (rs := [12]) (by kernel_rfl) (by simp) ?_
      refine AllReadyH.cons rfl (fun K hK => ?_) AllReadyH.nil
      go_simp
      refine hK.out _ _ (by assumption) (fun _ => ?_)
      clear hK K
      try simp only [Act.put, List.setIfInBounds_toArray, List.set_cons_zero, List.set_cons_succ]
      refine wpAnyH_done (by kernel_rfl) ?_ _
      have h4 := rdev_close h3
      have hx4 := (hxa.drew.trans hx2).trans hx3
      clear hd1 h2 h3
      go_wp2_with fail
      go_ret2
      rw [HE.out, if_pos (HFB.out.2 HL.out)]
      exact .inl ⟨by simp, rfl, hx4, own_erase 1 h4 rfl⟩
    · have d0 : decide ((d.fl.length : Int) < nd) = false := decide_eq_false hl
      have HL := Lib.hid hl
      clear hl
      unfold headV at HFH HND
      unfold headV
      go_enter Try.func68, Try.ntmps68
      go_upto_region 1 with (fail)
      generalize w.heap.size = gh at *
      generalize w.alloc (.cells #[.int .i64 c, .int .i64 p, .int .i64 b] 52) = w1 at *
      have hd1 := own_drew h
      clear h
      refine wp_region_held_drew (S := fun w' => w'.cell? ⟨gh, 0, none⟩ = some (.int .i64 c) ∧ w'.cell? ⟨gh, 1, none⟩ = some (.int .i64 p) ∧ w'.cell? ⟨gh, 2, none⟩ = some (.int .i64 b) ∧ w'.cell? ⟨bd, 0, none⟩ = some (.slice af d.fl.length cf)) (by kernel_rfl) ⟨(own_cells 4 hd1 rfl).1 0, (own_cells 4 hd1 rfl).1 1, (own_cells 4 hd1 rfl).1 2, (own_cells 0 hd1 rfl).1 0⟩ (fun hHeld => ?_)
      refine wpAnyH_take (i := 0) (v := ?_) rfl (by kernel_rfl) (by kernel_rfl) (by kernel_rfl) (fun _ _ _ h => h) (Or.inl ⟨by rfl, ?_⟩) (by assumption) ?_
      rotate_left
      · intro w hSw
        go_simp
        try with_reducible rfl
      try simp only [Act.put, List.setIfInBounds_toArray, List.set_cons_zero, List.set_cons_succ]
      refine wpAnyH_ready (rs := [1]) (by kernel_rfl) (by simp) ?_
      refine AllReadyH.cons rfl (fun K hK => ?_) AllReadyH.nil
      go_simp
      go_at_call 30
      refine (HFH.out _ _ hd1).mono ?_
      rintro e w2 ⟨rfl, hx2, h2⟩
      go_simp
      refine hK.out _ _ ⟨(own_cells 4 h2 rfl).1 0, (own_cells 4 h2 rfl).1 1, (own_cells 4 h2 rfl).1 2, (own_cells 0 h2 rfl).1 0⟩ (fun _ => ?_)
      clear hK K
      try simp only [Act.put, List.setIfInBounds_toArray, List.set_cons_zero, List.set_cons_succ]
      refine wpAnyH_take (i := 2) (v := ?_) rfl (by kernel_rfl) (by kernel_rfl) (by kernel_rfl) (fun _ _ _ h => h) (Or.inl ⟨by rfl, ?_⟩) (by assumption) ?_
      rotate_left
      · intro w hSw
        go_simp
        try with_reducible rfl
      try simp only [Act.put, List.setIfInBounds_toArray, List.set_cons_zero, List.set_cons_succ]
      refine wpAnyH_take (i := 3) (v := ?_) rfl (by kernel_rfl) (by kernel_rfl) (by kernel_rfl) (fun _ _ _ h => h) (Or.inl ⟨by rfl, ?_⟩) (by assumption) ?_
      rotate_left
      · intro w hSw
        go_simp
        try with_reducible rfl
      try simp only [Act.put, List.setIfInBounds_toArray, List.set_cons_zero, List.set_cons_succ]
      refine wpAnyH_take (i := 4) (v := ?_) rfl (by kernel_rfl) (by kernel_rfl) (by kernel_rfl) (fun _ _ _ h => h) (Or.inl ⟨by rfl, ?_⟩) (by assumption) ?_
      rotate_left
      · intro w hSw
        go_simp
        try with_reducible rfl
      try simp only [Act.put, List.setIfInBounds_toArray, List.set_cons_zero, List.set_cons_succ]
      refine wpAnyH_take (i := 6) (v := ?_) rfl (by kernel_rfl) (by kernel_rfl) (by kernel_rfl) (fun _ _ _ h => h) (Or.inl ⟨by rfl, ?_⟩) (by assumption) ?_
      rotate_left
      · intro w hSw
        go_simp
        try with_reducible rfl
      try simp only [Act.put, List.setIfInBounds_toArray, List.set_cons_zero, List.set_cons_succ]
      refine wpAnyH_take (i := 7) (v := ?_) rfl (by kernel_rfl) (by kernel_rfl) (by kernel_rfl) (fun _ _ _ h => h) (Or.inl ⟨by rfl, ?_⟩) (by assumption) ?_
      rotate_left
      · intro w hSw
        go_simp
        try with_reducible rfl
      try simp only [Act.put, List.setIfInBounds_toArray, List.set_cons_zero, List.set_cons_succ]
      refine wpAnyH_take (i := 8) (v := ?_) rfl (by kernel_rfl) (by kernel_rfl) (by kernel_rfl) (fun _ _ _ h => h) (Or.inl ⟨by rfl, ?_⟩) (by assumption) ?_
      rotate_left
      · intro w hSw
        go_simp
        try with_reducible rfl
      try simp only [Act.put, List.setIfInBounds_toArray, List.set_cons_zero, List.set_cons_succ]
      refine wpAnyH_take (i := 9) (v := ?_) rfl (by kernel_rfl) (by kernel_rfl) (by kernel_rfl) (fun _ _ _ h => h) (Or.inl ⟨by rfl, ?_⟩) (by assumption) ?_
      rotate_left
      · intro w hSw
        go_simp
        try with_reducible rfl
      try simp only [Act.put, List.setIfInBounds_toArray, List.set_cons_zero, List.set_cons_succ]
      refine wpAnyH_take (i := 10) (v := ?_) rfl (by kernel_rfl) (by kernel_rfl) (by kernel_rfl) (fun _ _ _ h => h) (Or.inl ⟨by rfl, ?_⟩) (by assumption) ?_
      rotate_left
      · intro w hSw
        go_simp
        try with_reducible rfl
      try simp only [Act.put, List.setIfInBounds_toArray, List.set_cons_zero, List.set_cons_succ]
      refine wpAnyH_ready (rs := [5]) (by kernel_rfl) (by simp) ?_
      refine AllReadyH.cons rfl (fun K hK => ?_) AllReadyH.nil
      go_simp
      go_at_call 70
      refine (HND.out _ _ h2).mono ?_
      rintro e w3 ⟨rfl, hx3, h3⟩
      go_simp
      refine hK.out _ _ ⟨(own_cells 4 h3 rfl).1 0, (own_cells 4 h3 rfl).1 1, (own_cells 4 h3 rfl).1 2, (own_cells 0 h3 rfl).1 0⟩ (fun _ => ?_)
      clear hK K
      try simp only [Act.put, List.setIfInBounds_toArray, List.set_cons_zero, List.set_cons_succ]
      refine wpAnyH_ready (rs := [11]) (by kernel_rfl) (by simp) ?_
      refine AllReadyH.cons rfl (fun K hK => ?_) AllReadyH.nil
      go_simp
      refine hK.out _ _ (by assumption) (fun _ => ?_)
      clear hK K
      try simp only [Act.put, List.setIfInBounds_toArray, List.set_cons_zero, List.set_cons_succ]
      refine wpAnyH_ready (rs := [12]) (by kernel_rfl) (by simp) ?_
      refine AllReadyH.cons rfl (fun K hK => ?_) AllReadyH.nil
      go_simp
      refine hK.out _ _ (by assumption) (fun _ => ?_)
      clear hK K
      try simp only [Act.put, List.setIfInBounds_toArray, List.set_cons_zero, List.set_cons_succ]
      refine wpAnyH_done (by kernel_rfl) ?_ _
      have h4 := rdev_close h3
      have hx4 := (hxa.drew.trans hx2).trans hx3
      clear hd1 h2 h3
      go_upto_region 4 with (fail)
      have hhb := HB.out
      unfold headBad at hhb
      obtain ⟨C, rfl⟩ := Int.eq_ofNat_of_zero_le (show 0 ≤ c by omega)
      have c2 : C ≤ 32 := by omega
      clear hhb
      have h5 := own_alloc h4 (.cells #[.pointer (some ⟨bd, 0, none⟩), .int .i64 C, .int .i64 p, .int .i64 b, .slice none 0 0, .slice none 0 0] 144)
      have hx5 := hx4.alloc (.cells #[.pointer (some ⟨bd, 0, none⟩), .int .i64 C, .int .i64 p, .int .i64 b, .slice none 0 0, .slice none 0 0] 144)
      generalize w3.heap.size = bi at *
      generalize w3.alloc (.cells #[.pointer (some ⟨bd, 0, none⟩), .int .i64 C, .int .i64 p, .int .i64 b, .slice none 0 0, .slice none 0 0] 144) = w5 at *
      have h6 := own_row_nil 64 2 h5
      clear h5 h4 hx4
      go_wp2_with fail
      go_loopw [7] (fun i wr => ∃ (q : Nat) (v : Value), q ≤ C ∧ i = .int .i64 q ∧ Ext w wr ∧ own wr (row 64 2 v q (entCells (List.replicate q (0, 0))) :: pts bi (.cells #[.pointer (some ⟨bd, 0, none⟩), .int .i64 C, .int .i64 p, .int .i64 b, v, .slice none 0 0] 144 (0, 0)) :: rdevAt bd d :: pts gh (.cells #[.int .i64 C, .int .i64 p, .int .i64 b] 52 (0, 0)) :: R)) (fun i _ => C - (intOf i).toNat)
      case atStart => exact ⟨0, _, by omega, rfl, hx5, h6⟩
      case round =>
        obtain ⟨q, v, hq, rfl, hxr, hown⟩ := hrel
        by_cases hlt : q < C
        · obtain ⟨cc, ff⟩ := own_cells 1 hown rfl
          obtain ⟨cg, fg⟩ := own_cells 3 hown rfl
          have hqC : (q : Int) < (C : Int) := by omega
          have hml : q + 1 ≤ maxLen := by simp only [maxLen]; omega
          have e1 : IntKind.i64.wrap ((q : Int) + 1) = (q : Int) + 1 := IntWalk.i64_in _ (by omega)
          have ha2 := own_alloc hown (.cells #[.int .i64 0, .int .i64 0] 64)
          have one0 : ∀ u ∈ [Value.int .i64 0, Value.int .i64 0], u.oneCell' = true := fun u hu => by simp at hu; subst hu; rfl
          go_wp2_with (first | (at_builtin; refine wpList_append_row rfl _ _ 53 rfl 1 64 Try.underlying53 elem_entry rfl (by decide) rfl ha2 rfl (some ⟨wr.heap.size, 0, none⟩) 1 1 [.int .i64 0, .int .i64 0] rfl rfl (alloc_news wr [.int .i64 0, .int .i64 0] _) (fun h => by cases h) one0 hml (by omega) ?_))
          intro v' w6 h6' hx6
          have hx7 := (hxr.alloc (.cells #[.int .i64 0, .int .i64 0] 64)).trans hx6
          clear cc ff cg fg ha2 hown hxr hx6
          obtain ⟨cc, ff⟩ := own_cells 2 h6' rfl
          obtain ⟨ao', g', cap', rfl, -, -, -, -, -, -, -⟩ := own_row_form 1 h6' rfl
          have h7 := own_set (i := 4) (v := .slice ao' (q + 1) cap') 2 h6' rfl
          have hx8 := hx7.setCell ⟨bi, 4, none⟩ (.slice ao' (q + 1) cap')
          go_wp2_with fail
          go_roundw
          case rel =>
            refine ⟨q + 1, .slice ao' (q + 1) cap', by omega, by go_num, hx8, ?_⟩
            have h8 := own_drop h7
            have e9 : entCells (List.replicate (q + 1) ((0, 0) : Ent)) = entCells (List.replicate q (0, 0)) ++ [.int .i64 0, .int .i64 0] := by
              rw [List.replicate_succ', entCells, List.flatMap_append]; rfl
            rw [e9]
            exact h8
          case measure => simp [intOf]; omega
        · obtain rfl : C = q := by omega
          have h7 : own wr (rimgAt bi bd (madeM d C p b) :: rdevAt bd d :: pts gh (.cells #[.int .i64 C, .int .i64 p, .int .i64 b] 52 (0, 0)) :: R) := by
            have h1 := own_behind [_, _] (own_row_nil 3 1 (own_pick 1 hown rfl))
            exact rimg_close (m := madeM d C p b) (by
              show own _ (pts bi _ :: row 64 2 v (List.replicate C ((0, 0) : Ent)).length _ :: row 3 1 _ 0 [] :: _)
              rw [List.length_replicate]
              exact h1)
          have hx7 := hxr
          clear hown hxr hq hlt
          have hlz : (zeroT (C : Int)).length = C := by simp [zeroT]
          have hrn : rowsN C ≤ 4 := by unfold rowsN; omega
          have hll : (rowsL (zeroT (C : Int))).length = rowsN C := by simp [rowsL, hlz]
          have HGET := Lib.hid (fun (k : Nat) (h : k < rowsN C) => rowsL_get (c := (C : Int)) (k := k) (by rw [hlz]; exact h))
          have HEND := Lib.hid (show (rowsL (zeroT (C : Int))).drop (rowsN C) = [] from List.drop_of_length_le (by omega))
          have HOK := Lib.hid (fun (k : Nat) (h : k < rowsN C) => rowOf_valid (t := zeroT (C : Int)) (r := k) (by rw [hlz]; omega) (by rw [hlz]; exact h) (zero_valid C))
          have HRW := Lib.hid (rrows_any C (by omega))
          have hpo := puts_ok (l := rowsL (zeroT (C : Int))) (d := d) (a := 1) hd (by omega) (by omega)
          have hpn := puts_nonneg (l := rowsL (zeroT (C : Int))) (d := d) (a := 1)
          rw [hll] at hpo
          have hE3 := HE.out
          rw [if_neg (fun h => by have h1 := HFB.out.1 h; have h2 := HL.out; omega)] at hE3
          have HLZ := Lib.hid hlz
          generalize hrl : rowsL (zeroT (C : Int)) = RL at *
          generalize hres : d.puts 1 RL = res at *
          have HRES := Lib.hid hres
          have HE4 := Lib.hid hE3
          generalize hN : rowsN C = N at *
          obtain ⟨o1, o2, o3, o4⟩ := hpo
          clear hE3 hlz HE hres hrl HL HFB HND HFH d0
          obtain ⟨c0, f0⟩ := own_cells 2 h7 rfl
          go_wp2_with fail
          clear c0 f0
          go_loopw [8] (putInvL (fun dk => rimgAt bi bd (madeM d C p b) :: rdevAt bd dk :: pts gh (.cells #[.int .i64 C, .int .i64 p, .int .i64 b] 52 (0, 0)) :: R) d 1 RL res w) (fun i _ => N - (intOf i).toNat)
          case atStart => exact ⟨0, d, by omega, rfl, by simpa using HRES.out, hd, by omega, by simp, hx7, h7⟩
          case round =>
            obtain ⟨k, dk, hk, rfl, hput, okd, hpk, hwk, hxr, hown⟩ := hrel
            rw [hll] at hk
            obtain ⟨cg, fg⟩ := own_cells 2 (by exact hown) rfl
            by_cases hlt : k < N
            · rw [HGET.out k hlt] at hput
              obtain ⟨z, hz⟩ : ∃ z, rowOf (zeroT (C : Int)) (k : Int) = (z, 0) := ⟨_, Prod.ext rfl (HOK.out k hlt)⟩
              have hsz := rowOf_size (HOK.out k hlt)
              rw [hz] at hput hsz
              dsimp only at hput hsz
              have HZ := Lib.hid hz
              have HPUT := Lib.hid hput
              clear hput hz
              have e1 : IntKind.i64.wrap ((k : Int) + 1) = (k : Int) + 1 := IntWalk.i64_in _ (by omega)
              have e2 : IntKind.i64.wrap (1 + (k : Int)) = 1 + (k : Int) := IntWalk.i64_in _ (by omega)
              have hkN : (k : Int) < (N : Int) := by omega
              have HW := Lib.hid (fun (R : List SL.HP) (w : World) (H : own w (rdevAt bd dk :: R)) => rdev_write bd dk okd (1 + (k : Int)) z (by omega) (by omega) (by omega) R w H)
              have hcode := write_nonneg dk (1 + (k : Int)) z
              obtain ⟨l1, l2, l3⟩ := write_lens dk (1 + (k : Int)) z
              have okw := DevM.write_ok okd (1 + (k : Int)) z (by omega) (by omega)
              have hstep : dk.puts (1 + (k : Int)) (z :: RL.drop (k + 1)) = if (dk.write (1 + (k : Int)) z).1 ≠ 0 then dk.write (1 + (k : Int)) z else (dk.write (1 + (k : Int)) z).2.puts (1 + (k : Int) + 1) (RL.drop (k + 1)) := rfl
              rw [HPUT.out] at hstep
              have HSTP := Lib.hid hstep
              clear hstep l1
              generalize dk.write (1 + (k : Int)) z = r at *
              clear HGET HOK
              obtain ⟨vt, vh, h⟩ := rimg_open hown
              obtain ⟨cc, ff⟩ := own_cells 0 h rfl
              go_wp2_with fail
              refine (HRW.out wr).mono ?_
              rintro e w' ⟨rfl, rfl⟩
              go_wp2_with fail
              refine (rrowof_any vt (zeroT (C : Int)) (k : Int) (by have := HLZ.out; omega) _ wr (fun w' L H => ents_row (L.length + 1) (l := zeroT (C : Int)) H (at_behind (l := L) rfl)) h).mono ?_
              rw [HZ.out]
              rintro e w4 ⟨rfl, hx4, h4⟩
              clear cc ff cg fg
              go_wp2_with fail
              refine (HW.out _ w4 (own_pick 3 h4 rfl)).mono ?_
              rintro e w5 ⟨rfl, hx5', h5'⟩
              have h5 := rimg_close (m := madeM d C p b) (own_put h4 3 rfl h5')
              have hx5 := (hxr.trans hx4).trans hx5'
              clear hx5' hx4 hown hxr h h4 h5'
              by_cases hz : r.1 = 0
              · have HZ0 := Lib.hid hz
                have t0 : decide (0 < r.1) = false := decide_eq_false (by omega)
                clear hz
                go_wp2_with fail
                go_roundw
                case rel => exact ⟨k + 1, r.2, by rw [hll]; omega, by go_num, by have := HSTP.out; rw [if_neg (by simpa using HZ0.out)] at this; rw [this]; congr 1 <;> omega, okw, by omega, by omega, hx5, h5⟩
                case measure => simp [intOf]; omega
              · have hfin : res = r := by have := HSTP.out; rw [if_pos hz] at this; exact this
                have hS2 : S = (r.1, madeM r.2 C p b) := by rw [HE4.out, hfin, if_pos hz]
                have HF := Lib.hid hS2
                have t0 : decide (0 < r.1) = true := decide_eq_true (by omega)
                have hpz : 0 < r.1 := by omega
                clear hz hfin hS2
                go_wp2_with fail
                go_ret2
                rw [HF.out]
                exact .inl ⟨by dsimp only; omega, rfl, hx5, own_erase 1 (own_erase 0 h5 rfl) rfl⟩
            · obtain rfl : N = k := by omega
              rw [HEND.out, DevM.puts] at hput
              have hr0 : res.1 = 0 := by rw [← hput]
              have hr2 : res.2 = dk := by rw [← hput]
              have hS2 := HE4.out
              rw [if_neg (by simpa using hr0), hr2] at hS2
              have HF := Lib.hid hS2
              clear hput hlt hS2 hr0 hr2
              have HFL := Lib.hid (fun (R : List SL.HP) (w : World) (H : own w (rdevAt bd dk :: R)) => rdev_flush bd dk okd R w H)
              have okf := DevM.flush_ok okd
              have hpl : dk.flush.pend.length = 0 := rfl
              have hwl : dk.flush.writes = dk.writes := rfl
              have hhs : (headS C p b).size = 16 := seal_size (by simp)
              have HWR := Lib.hid (fun (R : List SL.HP) (w : World) (H : own w (rdevAt bd dk.flush :: R)) => rdev_write bd dk.flush okf 0 (headS C p b) (by omega) (by omega) (by omega) R w H)
              have hcode := write_nonneg dk.flush 0 (headS C p b)
              have okw := DevM.write_ok okf 0 (headS C p b) (by omega) (by omega)
              generalize dk.flush = df at *
              have HHD := Lib.hid (fun (R : List SL.HP) (w : World) (H : own w R) => headsector_any C p b HB.out R w H)
              unfold headV at HHD
              generalize headS C p b = hs at *
              generalize df.write 0 hs = r at *
              clear HGET HOK
              go_wp2_with fail
              refine (HRW.out wr).mono ?_
              rintro e w' ⟨rfl, rfl⟩
              go_wp2_with fail
              refine (HFL.out _ wr (own_pick 1 hown rfl)).mono ?_
              rintro e w5 ⟨rfl, hx5, h5'⟩
              have h5 := own_put hown 1 rfl h5'
              clear cg fg
              obtain ⟨cc, ff⟩ := own_cells 2 h5 rfl
              go_wp2_with fail
              refine (HHD.out _ w5 h5).mono ?_
              rintro e w6 ⟨rfl, hx6, h6⟩
              clear cc ff
              go_wp2_with fail
              refine (HWR.out _ w6 (own_pick 1 h6 rfl)).mono ?_
              rintro e w7 ⟨rfl, hx7', h7'⟩
              have h7 := own_put h6 1 rfl h7'
              have hx7f := ((hxr.trans hx5).trans hx6).trans hx7'
              by_cases hz : r.1 = 0
              · have hS2 := HF.out
                rw [if_neg (by simpa using hz)] at hS2
                have HS2 := Lib.hid hS2
                have t0 : decide (0 < r.1) = false := decide_eq_false (by omega)
                have HFL2 := Lib.hid (fun (R : List SL.HP) (w : World) (H : own w (rdevAt bd r.2 :: R)) => rdev_flush bd r.2 okw R w H)
                clear hz hS2
                go_wp2_with fail
                refine (HFL2.out _ w7 (own_pick 1 h7 rfl)).mono ?_
                rintro e w8 ⟨rfl, hx8, h8'⟩
                have h8 := own_put h7 1 rfl h8'
                go_wp2_with fail
                go_ret2
                rw [HS2.out]
                exact .inr ⟨rfl, bi, rfl, hx7f.trans hx8, own_erase 2 h8 rfl⟩
              · have hS2 := HF.out
                rw [if_pos hz] at hS2
                have HS2 := Lib.hid hS2
                have t0 : decide (0 < r.1) = true := decide_eq_true (by omega)
                clear hz hS2
                go_wp2_with fail
                go_ret2
                rw [HS2.out]
                exact .inl ⟨by dsimp only; have := of_decide_eq_true t0; omega, rfl, hx7f, own_erase 1 (own_erase 0 h7 rfl) rfl⟩
end Go.Proofs.Ytbpblokfiajpjaa

namespace Go.Proofs.Ytbpblokfiajpjaa
open Go.RowKit Go.SL Go.Crc
attribute [local go_sem ↓] Go.wp_at_zero Go.wp_at_succ

set_option maxRecDepth 1000000 in
set_option maxHeartbeats 8000000 in
theorem imageSays_walk (c p b sec : Int) (v : Value) (l : List Act) (w : World) (hv : ActsAt w v l) :
    Calls Try.prog 10 #[headV c p b, .int .i64 sec, v] w fun e w' => e = .returned (.bool true) ∧ Below w.heap.size w w' := by
  obtain ⟨ao, bb, off, cap, rfl, hlen, hao, hat⟩ := hv.form
  have ha := own_alloc (own_exactly w) (.cells #[.int .i64 c, .int .i64 p, .int .i64 b] 52)
  have hxa := (Ext.refl w).alloc (.cells #[.int .i64 c, .int .i64 p, .int .i64 b] 52)
  have HAT := Lib.hid hat
  have HV := Lib.hid hv
  have HAO := Lib.hid hao
  clear hat hv hao
  unfold headV
  go_enter Try.func10, Try.ntmps10
  go_upto_region 1 with (fail)
  generalize w.heap.size = gh at *
  generalize w.alloc (.cells #[.int .i64 c, .int .i64 p, .int .i64 b] 52) = w0 at *
  go_wp2_with fail
  refine (images_any _ w0 ha).mono ?_
  rintro e w1 ⟨rfl, hx1', h1⟩
  have hx1 := hxa.trans hx1'
  clear ha hxa hx1'
  have HV1 := Lib.hid (HV.out.later 1 h1 rfl)
  go_wp2_with fail
  refine (light_any _ l 50 w1 HV1.out).mono ?_
  rintro e w1' ⟨rfl, rfl⟩
  by_cases hL : light l 50 = true
  · have hl2 : l.length ≤ 50 ∧ ∀ a ∈ l, a.keep.length ≤ 300 := by
      simp only [light, Bool.and_eq_true, decide_eq_true_eq, List.all_eq_true, lightOne] at hL
      exact ⟨by omega, fun a h => (hL.2 a h).2⟩
    obtain ⟨hL50, hk⟩ := hl2
    have HL := Lib.hid hk
    clear hk
    rw [hL]
    clear hL
    by_cases hsec : sectOk sec = true
    · have hsec' := hsec
      simp only [sectOk, decide_eq_true_eq] at hsec'
      obtain ⟨s1, s2⟩ := hsec'
      obtain ⟨n, rfl⟩ := Int.eq_ofNat_of_zero_le (show 0 ≤ sec by omega)
      have n1 : 1 ≤ n := by omega
      have n2 : n ≤ 200 := by omega
      have ok0 := newDev_ok n2
      have hp0 : (newDev n).pend.length < 999000 := by show (0 : Nat) < 999000; omega
      have hw0 : (newDev n).writes < 999000 := by show (0 : Int) < 999000; omega
      have hcr := created_ok (c := c) (p := p) (b := b) ok0 hp0 hw0
      have hcn : 0 ≤ (createR (newDev n) c p b).1 := by
        unfold createR
        split
        · simp
        · split
          · exact puts_nonneg
          · split
            · exact write_nonneg _ _ _
            · simp
      have HC1 := Lib.hid (fun (bd : Nat) (R : List SL.HP) (w : World) (H : own w (devAt bd (newDev n) :: R)) => create_any bd (newDev n) ok0 hp0 hw0 c p b R w H)
      have HC2 := Lib.hid (fun (bd : Nat) (R : List SL.HP) (w : World) (H : own w (rdevAt bd (newDev n) :: R)) => created_any bd (newDev n) ok0 hp0 hw0 c p b R w H)
      unfold headV at HC1 HC2
      have HCR := Lib.hid hcr
      clear hcr ok0 hp0 hw0
      generalize createR (newDev n) c p b = S at *
      obtain ⟨f, m⟩ := S
      dsimp only at hcn HCR
      go_wp2_with fail
      refine (dev_new_yes n _ w1 hsec h1).mono ?_
      rintro e wa ⟨bd1, rfl, hxa, ha⟩
      go_wp2_with fail
      refine (rdev_new n _ wa (by omega) ha).mono ?_
      rintro e wb ⟨bd2, rfl, hxb, hb⟩
      have hxb' := (hx1.trans hxa).trans hxb
      clear hx1 hxa hxb h1 HV1
      obtain ⟨cc, ff⟩ := own_cells 2 hb rfl
      by_cases hf : f = 0
      · subst hf
        obtain ⟨hm, hsafe, hpend, hgood⟩ := HCR.out.2.2.2.2 rfl
        have hwr := HCR.out.2.2.2.1
        rw [show (newDev n).writes = 0 from rfl] at hwr
        have HM := Lib.hid hm
        have HS := Lib.hid hsafe
        have HG := Lib.hid hgood
        have HP := Lib.hid hpend
        clear HCR hm hsafe hgood hpend
        go_wp2_with fail
        refine (HC1.out bd1 _ wb (own_pick 1 hb rfl)).mono ?_
        rintro e w3 (⟨hne, -⟩ | ⟨-, b1, bh, rfl, hx3, h3⟩)
        · exact absurd rfl hne
        dsimp only at h3
        clear cc ff
        obtain ⟨cc, ff⟩ := own_cells 3 h3 rfl
        go_wp2_with fail
        refine (HC2.out bd2 _ w3 (own_pick 2 h3 rfl)).mono ?_
        rintro e w4 (⟨hne, -⟩ | ⟨-, b2, rfl, hx4, h4⟩)
        · exact absurd rfl hne
        dsimp only at h4
        have hx4' := (hxb'.trans hx3).trans hx4
        clear cc ff hx3 hx4 hxb' h3 hb ha HC1 HC2
        obtain ⟨cc, ff⟩ := own_cells 4 h4 rfl
        have HN1 := Lib.hid (fun (R : List SL.HP) (w : World) (H : own w R) => need_any c p b HG.out R w H)
        have HN2 := Lib.hid (fun (R : List SL.HP) (w : World) (H : own w R) => rneed_any c p b HG.out R w H)
        unfold headV at HN1 HN2
        go_upto_region 10 with (fail)
        have hz := own_drew h4
        have hxz := hx4'.drew
        clear cc ff
        go_region_held3 (fun w' => w'.cell? ⟨gh, 0, none⟩ = some (.int .i64 c) ∧ w'.cell? ⟨gh, 1, none⟩ = some (.int .i64 p) ∧ w'.cell? ⟨gh, 2, none⟩ = some (.int .i64 b)) (exact ⟨(own_cells 4 hz rfl).1 0, (own_cells 4 hz rfl).1 1, (own_cells 4 hz rfl).1 2⟩) (first | (go_at_call 16; refine (same_any 0 0 _ (by omega)).mono ?_; rintro e w' ⟨rfl, rfl⟩) | (go_at_call 69; refine (HN1.out _ _ hz).mono ?_; rintro e w5 ⟨rfl, hx5, hz'⟩; have hxz := hxz.trans hx5; have hz := hz') | (go_at_call 70; refine (HN2.out _ _ hz).mono ?_; rintro e w6 ⟨rfl, hx6, hz'⟩; have hxz := hxz.trans hx6; have hz := hz'))
        all_goals
          go_wp2_with fail
          refine wp_loop (iWI w l.length (.slice ao l.length cap)) (iMu l.length) ?_ ?_
          · exact iWI_mk rfl rfl rfl ⟨0, Nat.zero_le _, rfl, hxz, b1, bd1, bh, b2, bd2, m, zeroT c, rfl, rfl, rfl, rfl, HM.out, HS.out, by rw [HP.out]; decide, by omega, own_erase 4 (own_pick 3 (own_pick 3 hz rfl) rfl) rfl⟩
          · intro a w'' hI
            refine iRound HAO.out (by omega) HL.out HAT HV _ ?_ a w'' hI
            rintro a w' ⟨T, d, n, i, r, k, ⟨q, hq, rfl, hxr, b1, bd1, bh, b2, bd2, m, u, rfl, rfl, rfl, rfl, hm, hsafe, hpq, hwq, hown⟩, rfl⟩
            have HM2 := Lib.hid hm
            clear hm hsafe
            go_wp2_with fail
            refine (asimage_any b1 bd1 bh b2 bd2 m HM2.out _ w' hown).mono ?_
            rintro e w7 ⟨rfl, hx7, h7⟩
            go_wp2_with fail
            go_ret
            exact ⟨rfl, below_of 4 h7 rfl (hxr.trans hx7)⟩
      · have t0 : (f == 0) = false := beq_eq_false_iff_ne.2 hf
        have HF := Lib.hid hf
        have hpos : 0 < f := by omega
        have hPE := errV_pos hpos
        have HPE := Lib.hid hPE
        clear hf HCR hPE
        go_wp2_with fail
        refine (HC1.out bd1 _ wb (own_pick 1 hb rfl)).mono ?_
        rintro e w3 (⟨-, rfl, hx3, h3⟩ | ⟨hz, -⟩)
        case inr => exact absurd hz HF.out
        dsimp only at h3
        rw [HPE.out]
        clear cc ff
        obtain ⟨cc, ff⟩ := own_cells 2 h3 rfl
        go_wp2_with fail
        refine (HC2.out bd2 _ w3 (own_pick 1 h3 rfl)).mono ?_
        rintro e w4 (⟨-, rfl, hx4, h4⟩ | ⟨hz, -⟩)
        case inr => exact absurd hz HF.out
        dsimp only at h4
        have hx4' := (hxb'.trans hx3).trans hx4
        clear cc ff hx3 hx4 hxb' h3 hb ha HC1 HC2
        have HSM := Lib.hid (fun (w : World) => (by
          have h := same_any f f w hcn
          rw [HPE.out] at h
          exact h : Calls Try.prog 16 #[.iface 121 (.int .i64 f), .int .i64 f] w fun e w' => e = .returned (.bool (decide (f = f))) ∧ w = w'))
        go_upto_region 10 with (fail)
        go_quiet ((go_at_call 16; exact Calls.quiet_of_same ((HSM.out _).mono fun e w' h => ⟨h.1, h.2.symm⟩)))
        go_wp2_with fail
        go_ret
        exact ⟨rfl, below_of 3 (own_drewN _ h4) rfl (hx4'.drewN _)⟩
    · have hsec' : sectOk sec = false := by simpa using hsec
      go_wp2_with fail
      refine (dev_new_no sec w1 hsec').mono ?_
      rintro e wa ⟨rfl, rfl⟩
      rw [show errV 1 = .iface 121 (.int .i64 1) from rfl]
      go_wp2_with fail
      go_ret
      exact ⟨rfl, below_of 1 h1 rfl hx1⟩
  · have hF : light l 50 = false := by simpa using hL
    rw [hF]
    clear hL hF
    go_wp2_with fail
    go_ret
    exact ⟨rfl, below_of 1 h1 rfl hx1⟩
end Go.Proofs.Ytbpblokfiajpjaa

namespace Go.Proofs.Ytbpblokfiajpjaa
open Go.RowKit Go.SL Go.Deep Go.ChangeShapes Go.WideShapes Go.Joins

section
variable {H : Type} {enc : TypeId × Value → H} {w : World} {base : Nat} {spare : Nat → Bool} {held : Bool}
set_option maxRecDepth 100000 in
theorem head_open {r : Reach} {b0 : Nat} {v : Value} {d : DataW H} {p : List MemPlace} (hv : Value.okWide Try.prog w r b0 52 v) (h : DataW.Trod enc Try.prog w base spare held 52 v d p) :
    ∃ a b c, v = headV a b c ∧ i64ok a ∧ i64ok b ∧ i64ok c := by
  obtain ⟨v0, v1, v2, y0, y1, y2, n, rfl, -, -, g0, g1, g2⟩ := open_agg3 (P := Try.prog) Try.underlying52 (by kernel_rfl) (by kernel_rfl) hv h
  obtain ⟨a, h0, _, k0⟩ := DataW.trod_int Try.underlying3 g0
  obtain ⟨b, h1, _, k1⟩ := DataW.trod_int Try.underlying3 g1
  obtain ⟨c, h2, _, k2⟩ := DataW.trod_int Try.underlying3 g2
  simp only [List.cons.injEq, and_true] at h0 h1 h2
  subst h0 h1 h2
  exact ⟨a, b, c, rfl, wf_i64ok k0, wf_i64ok k1, wf_i64ok k2⟩
theorem list5 {α : Type} {l : List α} (h : l.length = 5) : ∃ c0 c1 c2 c3 c4, l = [c0, c1, c2, c3, c4] := by
  match l, h with
  | [c0, c1, c2, c3, c4], _ => exact ⟨_, _, _, _, _, rfl⟩
theorem list2 {α : Type} {l : List α} (h : l.length = 2) : ∃ c0 c1, l = [c0, c1] := by
  match l, h with
  | [c0, c1], _ => exact ⟨_, _, rfl⟩
set_option maxRecDepth 100000 in
theorem desk_open {r : Reach} {b0 : Nat} {v : Value} {d : DataW H} {p : List MemPlace} (hv : Value.okWide Try.prog w r b0 55 v) (h : DataW.Trod enc Try.prog w base spare held 55 v d p) :
    ∃ a b c x y, v = deskV a b c x y := by
  obtain ⟨cs, rfl, hsz⟩ := okWide_struct Try.underlying55 hv
  have hC : Try.prog.cellsOf 55 = 5 := by kernel_rfl
  obtain ⟨l⟩ := cs
  obtain ⟨c0, c1, c2, c3, c4, rfl⟩ := list5 (hsz.trans hC)
  obtain ⟨fuel, hf⟩ := h
  obtain ⟨ys, n', hyl, hg'⟩ := struct_fields Try.underlying55 (by kernel_rfl) hf
  obtain ⟨y0, y1, y2, y3, y4, rfl⟩ : ∃ c0 c1 c2 c3 c4, ys = [c0, c1, c2, c3, c4] := list5 hyl
  have g0 : DataW.trod enc Try.prog w base spare held n' 3 [c0] = some y0 := hg' 0 _ rfl
  have g1 : DataW.trod enc Try.prog w base spare held n' 3 [c1] = some y1 := hg' 1 _ rfl
  have g2 : DataW.trod enc Try.prog w base spare held n' 3 [c2] = some y2 := hg' 2 _ rfl
  have g3 : DataW.trod enc Try.prog w base spare held n' 3 [c3] = some y3 := hg' 3 _ rfl
  have g4 : DataW.trod enc Try.prog w base spare held n' 3 [c4] = some y4 := hg' 4 _ rfl
  obtain ⟨a, h0, _, k0⟩ := DataW.trod_int Try.underlying3 g0
  obtain ⟨b, h1, _, k1⟩ := DataW.trod_int Try.underlying3 g1
  obtain ⟨c, h2, _, k2⟩ := DataW.trod_int Try.underlying3 g2
  obtain ⟨x, h3, _, k3⟩ := DataW.trod_int Try.underlying3 g3
  obtain ⟨y, h4, _, k4⟩ := DataW.trod_int Try.underlying3 g4
  simp only [List.cons.injEq, and_true] at h0 h1 h2 h3 h4
  subst h0 h1 h2 h3 h4
  exact ⟨a, b, c, x, y, rfl⟩

set_option maxRecDepth 100000 in
theorem ents_open {fuel : Nat} {v : Value} {x : DataW H × List MemPlace} (h : DataW.trod enc Try.prog w base spare held fuel 53 [v] = some x) : ∃ l, entsAt w v l := by
  rcases open_slice Try.underlying53 h with ⟨hcs, _⟩ | ⟨a, len, cap, m, n, D, Pl, hcs, _, hl, hm, hmm, _, hi⟩
  · simp only [List.cons.injEq, and_true] at hcs
    subst hcs
    exact ⟨[], none, 0, 0, 0, rfl, Nat.le_refl _, by omega, fun h => absurd h (by simp), fun i h => absurd h (by simp)⟩
  · simp only [List.cons.injEq, and_true] at hcs
    subst hcs
    have hC : Try.prog.cellsOf 64 = 2 := by kernel_rfl
    have hlm : len ≤ m := by rw [hmm]; split <;> omega
    have hb : ∀ i, i < len → ∃ x : Ent, ∃ b o, a.add (i * 2) = ⟨b, o, none⟩ ∧ w.cell? ⟨b, o, none⟩ = some (.int .i64 x.1) ∧ w.cell? ⟨b, o + 1, none⟩ = some (.int .i64 x.2) := fun i h => by
      obtain ⟨cs', hc, ht⟩ := hi i (by omega)
      rw [hC] at hc
      obtain ⟨_, hlen, hat⟩ := World.cells?_some hc
      obtain ⟨ys, n', hyl, hg'⟩ := struct_fields Try.underlying64 (by kernel_rfl) ht
      obtain ⟨c0, c1, rfl⟩ := list2 hlen
      obtain ⟨y0, y1, rfl⟩ : ∃ c0 c1, ys = [c0, c1] := list2 hyl
      have g0 : DataW.trod enc Try.prog w base spare held n' 3 [c0] = some y0 := hg' 0 _ rfl
      have g1 : DataW.trod enc Try.prog w base spare held n' 3 [c1] = some y1 := hg' 1 _ rfl
      obtain ⟨A, h0, _, hA⟩ := DataW.trod_int Try.underlying3 g0
      obtain ⟨B, h1, _, hB⟩ := DataW.trod_int Try.underlying3 g1
      simp only [List.cons.injEq, and_true] at h0 h1
      subst h0 h1
      have hat0 := hat 0 (by omega)
      have hat1 := hat 1 (by omega)
      simp only [List.getElem?_cons_succ, List.getElem?_cons_zero, Addr.add, if_true] at hat0
      obtain ⟨b, o, e⟩ := add_spot (i := i * 2) (by simpa [Addr.add] using hat0)
      rw [e, add_none] at hat1
      have hat0' : w.cell? ⟨b, o, none⟩ = some (.int .i64 A) := by rw [← e]; simpa [Addr.add] using hat0
      exact ⟨(A, B), b, o, e, hat0', by simpa using hat1⟩
    obtain ⟨f, hf⟩ := Deep.choose_lt hb
    refine ⟨(List.range len).map f, some a, a.block, a.off, cap, by simp, by simpa using hl, by simpa [maxLen] using hm, fun hlt => ?_, fun i hlt => ?_⟩
    · obtain ⟨b, o, e, _⟩ := hf 0 (by simpa using hlt)
      simp [Addr.add] at e
      rw [e]
    · simp at hlt
      obtain ⟨b0, o0, e0, _⟩ := hf 0 (by omega)
      simp [Addr.add] at e0
      obtain ⟨b, o, e, hc⟩ := hf i hlt
      subst e0
      rw [add_none] at e
      simp at e
      obtain ⟨rfl, rfl⟩ := e
      simpa [hlt] using hc
end
end Go.Proofs.Ytbpblokfiajpjaa
