/- Desks read back. No conditions. -/
import Derived.Test.YtbpblokfiajpjaaPke1edfd5012
import Derived.Test.YtbpblokfiajpjaaProg
namespace Go.Proofs.Ytbpblokfiajpjaa
open Go.RowKit Go.SL Go.Crc
attribute [local go_sem ↓] Go.wp_at_zero Go.wp_at_succ

theorem results_desk {fn : Func} {t u : Tmp} (h : fn.results = #[.cell t 55, .tmp u]) (tmps : Array Value) (w : World) (g : Nat) (r k f a b : Int) (hg : tmps.getD t undef = .pointer (some ⟨g, 0, none⟩))
    (h0 : w.cell? ⟨g, 0, none⟩ = some (.int .i64 r)) (h1 : w.cell? ⟨g, 1, none⟩ = some (.int .i64 k)) (h2 : w.cell? ⟨g, 2, none⟩ = some (.int .i64 f)) (h3 : w.cell? ⟨g, 3, none⟩ = some (.int .i64 a)) (h4 : w.cell? ⟨g, 4, none⟩ = some (.int .i64 b)) :
    (results fn tmps).run Try.prog w = .ok (.tuple #[deskV r k f a b, tmps.getD u undef]) w := by
  rw [results_cell_tmp h, hg]
  unfold deskV
  go_simp

def deskGood (s : ByteArray) : Int × Int × Int × Int × Int := (bt s 2, bt s 3, bt s 4 - 1, bt s 5 + 256 * bt s 6, bt s 7 + 256 * bt s 8)
def deskOfBad (s : ByteArray) : Prop := deskF (bt s 2) (bt s 3) (bt s 4 - 1) (bt s 5 + 256 * bt s 6) (bt s 7 + 256 * bt s 8) ≠ 0 ∨ deskS (bt s 2) (bt s 3) (bt s 4 - 1) (bt s 5 + 256 * bt s 6) (bt s 7 + 256 * bt s 8) ≠ s
instance (s : ByteArray) : Decidable (deskOfBad s) := by unfold deskOfBad; infer_instance
def deskOf (s : ByteArray) : (Int × Int × Int × Int × Int) × Int :=
  if openF s ≠ 0 then ((0, 0, 0, 0, 0), openF s) else if deskOfBad s then ((0, 0, 0, 0, 0), 2) else (deskGood s, 0)
theorem deskF_pos {r k f a b : Int} (h : deskF r k f a b ≠ 0) : 0 < deskF r k f a b := by
  unfold deskF at h ⊢
  split
  · decide
  · rename_i h1
    rw [if_neg h1] at h
    split
    · decide
    · rename_i h2; rw [if_neg h2] at h; exact absurd rfl h
theorem deskF_in {r k f a b : Int} (h : deskF r k f a b = 0) : ¬ deskOut r k f a b := fun h' => by rw [deskF_out h'] at h; cases h

set_option maxRecDepth 100000 in
set_option maxHeartbeats 4000000 in
theorem deskof_any (s : ByteArray) (hs : s.size ≤ 9223372036854775807) (R : List SL.HP) (w : World) (H : own w R) :
    Calls Try.prog 63 #[.string s] w fun e w' => e = .returned (.tuple #[deskV (deskOf s).1.1 (deskOf s).1.2.1 (deskOf s).1.2.2.1 (deskOf s).1.2.2.2.1 (deskOf s).1.2.2.2.2, .int .i64 (deskOf s).2]) ∧ Ext w w' ∧ own w' R := by
  have ha := own_alloc H (.cells #[.int .i64 0, .int .i64 0, .int .i64 0, .int .i64 0, .int .i64 0] 55)
  have hxa := (Ext.refl w).alloc (.cells #[.int .i64 0, .int .i64 0, .int .i64 0, .int .i64 0, .int .i64 0] 55)
  rcases openF_nonneg s with hF | hF
  · have h16 := openF_size hF
    have e : deskOf s = if deskOfBad s then ((0, 0, 0, 0, 0), 2) else (deskGood s, 0) := by rw [deskOf, if_neg (by omega)]
    rw [e]
    clear e
    have h16' : (s.size : Int) = 16 := by omega
    go_enter Try.func63, Try.ntmps63
    go_upto_region 1 with (fail)
    generalize w.heap.size = g at *
    generalize w.alloc (.cells #[.int .i64 0, .int .i64 0, .int .i64 0, .int .i64 0, .int .i64 0] 55) = w1 at *
    go_wp2_with fail
    refine (opened_any s hs _ w1 ha).mono ?_
    rintro e w2 ⟨rfl, hx2, h2⟩
    rw [hF]
    have q2 := bt_get (s := s) (i := 2) (by omega)
    have q3 := bt_get (s := s) (i := 3) (by omega)
    have q4 := bt_get (s := s) (i := 4) (by omega)
    have q5 := bt_get (s := s) (i := 5) (by omega)
    have q6 := bt_get (s := s) (i := 6) (by omega)
    have q7 := bt_get (s := s) (i := 7) (by omega)
    have q8 := bt_get (s := s) (i := 8) (by omega)
    have l2 := bt_le s 2
    have l3 := bt_le s 3
    have l4 := bt_le s 4
    have l5 := bt_le s 5
    have l6 := bt_le s 6
    have l7 := bt_le s 7
    have l8 := bt_le s 8
    have hcond : deskOfBad s ↔ (deskF (bt s 2) (bt s 3) (bt s 4 - 1) (bt s 5 + 256 * bt s 6) (bt s 7 + 256 * bt s 8) ≠ 0 ∨ deskS (bt s 2) (bt s 3) (bt s 4 - 1) (bt s 5 + 256 * bt s 6) (bt s 7 + 256 * bt s 8) ≠ s) := Iff.rfl
    have HCD := Lib.hid hcond
    clear hcond
    have hgood : deskGood s = (bt s 2, bt s 3, bt s 4 - 1, bt s 5 + 256 * bt s 6, bt s 7 + 256 * bt s 8) := rfl
    have HX := Lib.hid hgood
    clear hgood
    generalize bt s 2 = x2 at *
    generalize bt s 3 = x3 at *
    generalize bt s 4 = x4 at *
    generalize bt s 5 = x5 at *
    generalize bt s 6 = x6 at *
    generalize bt s 7 = x7 at *
    generalize bt s 8 = x8 at *
    have e2 : IntKind.i64.wrap x2 = x2 := IntWalk.i64_in _ (by omega)
    have e3 : IntKind.i64.wrap x3 = x3 := IntWalk.i64_in _ (by omega)
    have e4 : IntKind.i64.wrap x4 = x4 := IntWalk.i64_in _ (by omega)
    have e4' : IntKind.i64.wrap (x4 - 1) = x4 - 1 := IntWalk.i64_in _ (by omega)
    have e5 : IntKind.i64.wrap x5 = x5 := IntWalk.i64_in _ (by omega)
    have e6 : IntKind.i64.wrap x6 = x6 := IntWalk.i64_in _ (by omega)
    have e6' : IntKind.i64.wrap (256 * x6) = 256 * x6 := IntWalk.i64_in _ (by omega)
    have e6'' : IntKind.i64.wrap (x5 + 256 * x6) = x5 + 256 * x6 := IntWalk.i64_in _ (by omega)
    have e7 : IntKind.i64.wrap x7 = x7 := IntWalk.i64_in _ (by omega)
    have e8 : IntKind.i64.wrap x8 = x8 := IntWalk.i64_in _ (by omega)
    have e8' : IntKind.i64.wrap (256 * x8) = 256 * x8 := IntWalk.i64_in _ (by omega)
    have e8'' : IntKind.i64.wrap (x7 + 256 * x8) = x7 + 256 * x8 := IntWalk.i64_in _ (by omega)
    go_upto_region 4 with (fail)
    refine wp_region_held_drew (S := fun _ => True) (by kernel_rfl) trivial (fun hHeld => ?_)
    refine wpAnyH_take (i := 0) (v := ?_) rfl (by kernel_rfl) (by kernel_rfl) (by kernel_rfl) (fun _ _ _ h => h) (Or.inl ⟨by rfl, ?_⟩) (by assumption) ?_
    rotate_left
    · intro w hSw
      go_simp
      try with_reducible rfl
    try simp only [Act.put, List.setIfInBounds_toArray, List.set_cons_zero, List.set_cons_succ]
    refine wpAnyH_take (i := 1) (v := ?_) rfl (by kernel_rfl) (by kernel_rfl) (by kernel_rfl) (fun _ _ _ h => h) (Or.inl ⟨by rfl, ?_⟩) (by assumption) ?_
    rotate_left
    · intro w hSw
      go_simp
      try with_reducible rfl
    try simp only [Act.put, List.setIfInBounds_toArray, List.set_cons_zero, List.set_cons_succ]
    refine wpAnyH_take (i := 2) (v := ?_) rfl (by kernel_rfl) (by kernel_rfl) (by kernel_rfl) (fun _ _ _ h => h) (Or.inl ⟨by rfl, ?_⟩) (by assumption) ?_
    rotate_left
    · intro w hSw
      go_simp
      try with_reducible rfl
    try simp only [Act.put, List.setIfInBounds_toArray, List.set_cons_zero, List.set_cons_succ]
    refine wpAnyH_take (i := 3) (v := ?_) rfl (by kernel_rfl) (by kernel_rfl) (by kernel_rfl) (fun _ _ _ h => h) (Or.inl ⟨by rfl, ?_⟩) (by assumption) ?_
    rotate_left
    · intro w hSw
      go_simp
      try with_reducible rfl
    try simp only [Act.put, List.setIfInBounds_toArray, List.set_cons_zero, List.set_cons_succ]
    refine wpAnyH_take (i := 4) (v := ?_) rfl (by kernel_rfl) (by kernel_rfl) (by kernel_rfl) (fun _ _ _ h => h) (Or.inl ⟨by rfl, ?_⟩) (by assumption) ?_
    rotate_left
    · intro w hSw
      go_simp
      try with_reducible rfl
    try simp only [Act.put, List.setIfInBounds_toArray, List.set_cons_zero, List.set_cons_succ]
    refine wpAnyH_take (i := 5) (v := ?_) rfl (by kernel_rfl) (by kernel_rfl) (by kernel_rfl) (fun _ _ _ h => h) (Or.inl ⟨by rfl, ?_⟩) (by assumption) ?_
    rotate_left
    · intro w hSw
      go_simp
      try with_reducible rfl
    try simp only [Act.put, List.setIfInBounds_toArray, List.set_cons_zero, List.set_cons_succ]
    refine wpAnyH_take (i := 6) (v := ?_) rfl (by kernel_rfl) (by kernel_rfl) (by kernel_rfl) (fun _ _ _ h => h) (Or.inl ⟨by rfl, ?_⟩) (by assumption) ?_
    rotate_left
    · intro w hSw
      go_simp
      try with_reducible rfl
    try simp only [Act.put, List.setIfInBounds_toArray, List.set_cons_zero, List.set_cons_succ]
    refine wpAnyH_take (i := 7) (v := ?_) rfl (by kernel_rfl) (by kernel_rfl) (by kernel_rfl) (fun _ _ _ h => h) (Or.inl ⟨by rfl, ?_⟩) (by assumption) ?_
    rotate_left
    · intro w hSw
      go_simp
      try with_reducible rfl
    try simp only [Act.put, List.setIfInBounds_toArray, List.set_cons_zero, List.set_cons_succ]
    refine wpAnyH_take (i := 8) (v := ?_) rfl (by kernel_rfl) (by kernel_rfl) (by kernel_rfl) (fun _ _ _ h => h) (Or.inl ⟨by rfl, ?_⟩) (by assumption) ?_
    rotate_left
    · intro w hSw
      go_simp
      try with_reducible rfl
    try simp only [Act.put, List.setIfInBounds_toArray, List.set_cons_zero, List.set_cons_succ]
    refine wpAnyH_take (i := 9) (v := ?_) rfl (by kernel_rfl) (by kernel_rfl) (by kernel_rfl) (fun _ _ _ h => h) (Or.inl ⟨by rfl, ?_⟩) (by assumption) ?_
    rotate_left
    · intro w hSw
      go_simp
      try with_reducible rfl
    try simp only [Act.put, List.setIfInBounds_toArray, List.set_cons_zero, List.set_cons_succ]
    refine wpAnyH_take (i := 10) (v := ?_) rfl (by kernel_rfl) (by kernel_rfl) (by kernel_rfl) (fun _ _ _ h => h) (Or.inl ⟨by rfl, ?_⟩) (by assumption) ?_
    rotate_left
    · intro w hSw
      go_simp
      try with_reducible rfl
    try simp only [Act.put, List.setIfInBounds_toArray, List.set_cons_zero, List.set_cons_succ]
    refine wpAnyH_take (i := 11) (v := ?_) rfl (by kernel_rfl) (by kernel_rfl) (by kernel_rfl) (fun _ _ _ h => h) (Or.inl ⟨by rfl, ?_⟩) (by assumption) ?_
    rotate_left
    · intro w hSw
      go_simp
      try with_reducible rfl
    try simp only [Act.put, List.setIfInBounds_toArray, List.set_cons_zero, List.set_cons_succ]
    refine wpAnyH_take (i := 12) (v := ?_) rfl (by kernel_rfl) (by kernel_rfl) (by kernel_rfl) (fun _ _ _ h => h) (Or.inl ⟨by rfl, ?_⟩) (by assumption) ?_
    rotate_left
    · intro w hSw
      go_simp
      try with_reducible rfl
    try simp only [Act.put, List.setIfInBounds_toArray, List.set_cons_zero, List.set_cons_succ]
    refine wpAnyH_take (i := 13) (v := ?_) rfl (by kernel_rfl) (by kernel_rfl) (by kernel_rfl) (fun _ _ _ h => h) (Or.inl ⟨by rfl, ?_⟩) (by assumption) ?_
    rotate_left
    · intro w hSw
      go_simp
      try with_reducible rfl
    try simp only [Act.put, List.setIfInBounds_toArray, List.set_cons_zero, List.set_cons_succ]
    refine wpAnyH_take (i := 14) (v := ?_) rfl (by kernel_rfl) (by kernel_rfl) (by kernel_rfl) (fun _ _ _ h => h) (Or.inl ⟨by rfl, ?_⟩) (by assumption) ?_
    rotate_left
    · intro w hSw
      go_simp
      try with_reducible rfl
    try simp only [Act.put, List.setIfInBounds_toArray, List.set_cons_zero, List.set_cons_succ]
    refine wpAnyH_take (i := 15) (v := ?_) rfl (by kernel_rfl) (by kernel_rfl) (by kernel_rfl) (fun _ _ _ h => h) (Or.inl ⟨by rfl, ?_⟩) (by assumption) ?_
    rotate_left
    · intro w hSw
      go_simp
      try with_reducible rfl
    try simp only [Act.put, List.setIfInBounds_toArray, List.set_cons_zero, List.set_cons_succ]
    refine wpAnyH_take (i := 16) (v := ?_) rfl (by kernel_rfl) (by kernel_rfl) (by kernel_rfl) (fun _ _ _ h => h) (Or.inl ⟨by rfl, ?_⟩) (by assumption) ?_
    rotate_left
    · intro w hSw
      go_simp
      try with_reducible rfl
    try simp only [Act.put, List.setIfInBounds_toArray, List.set_cons_zero, List.set_cons_succ]
    refine wpAnyH_take (i := 17) (v := ?_) rfl (by kernel_rfl) (by kernel_rfl) (by kernel_rfl) (fun _ _ _ h => h) (Or.inl ⟨by rfl, ?_⟩) (by assumption) ?_
    rotate_left
    · intro w hSw
      go_simp
      try with_reducible rfl
    try simp only [Act.put, List.setIfInBounds_toArray, List.set_cons_zero, List.set_cons_succ]
    refine wpAnyH_take (i := 18) (v := ?_) rfl (by kernel_rfl) (by kernel_rfl) (by kernel_rfl) (fun _ _ _ h => h) (Or.inl ⟨by rfl, ?_⟩) (by assumption) ?_
    rotate_left
    · intro w hSw
      go_simp
      try with_reducible rfl
    try simp only [Act.put, List.setIfInBounds_toArray, List.set_cons_zero, List.set_cons_succ]
    refine wpAnyH_take (i := 19) (v := ?_) rfl (by kernel_rfl) (by kernel_rfl) (by kernel_rfl) (fun _ _ _ h => h) (Or.inl ⟨by rfl, ?_⟩) (by assumption) ?_
    rotate_left
    · intro w hSw
      go_simp
      try with_reducible rfl
    try simp only [Act.put, List.setIfInBounds_toArray, List.set_cons_zero, List.set_cons_succ]
    refine wpAnyH_take (i := 20) (v := ?_) rfl (by kernel_rfl) (by kernel_rfl) (by kernel_rfl) (fun _ _ _ h => h) (Or.inl ⟨by rfl, ?_⟩) (by assumption) ?_
    rotate_left
    · intro w hSw
      go_simp
      try with_reducible rfl
    try simp only [Act.put, List.setIfInBounds_toArray, List.set_cons_zero, List.set_cons_succ]
    refine wpAnyH_take (i := 21) (v := ?_) rfl (by kernel_rfl) (by kernel_rfl) (by kernel_rfl) (fun _ _ _ h => h) (Or.inl ⟨by rfl, ?_⟩) (by assumption) ?_
    rotate_left
    · intro w hSw
      go_simp
      try with_reducible rfl
    try simp only [Act.put, List.setIfInBounds_toArray, List.set_cons_zero, List.set_cons_succ]
    refine wpAnyH_take (i := 22) (v := ?_) rfl (by kernel_rfl) (by kernel_rfl) (by kernel_rfl) (fun _ _ _ h => h) (Or.inl ⟨by rfl, ?_⟩) (by assumption) ?_
    rotate_left
    · intro w hSw
      go_simp
      try with_reducible rfl
    try simp only [Act.put, List.setIfInBounds_toArray, List.set_cons_zero, List.set_cons_succ]
    refine wpAnyH_take (i := 23) (v := ?_) rfl (by kernel_rfl) (by kernel_rfl) (by kernel_rfl) (fun _ _ _ h => h) (Or.inl ⟨by rfl, ?_⟩) (by assumption) ?_
    rotate_left
    · intro w hSw
      go_simp
      try with_reducible rfl
    try simp only [Act.put, List.setIfInBounds_toArray, List.set_cons_zero, List.set_cons_succ]
    refine wpAnyH_take (i := 24) (v := ?_) rfl (by kernel_rfl) (by kernel_rfl) (by kernel_rfl) (fun _ _ _ h => h) (Or.inl ⟨by rfl, ?_⟩) (by assumption) ?_
    rotate_left
    · intro w hSw
      go_simp
      try with_reducible rfl
    try simp only [Act.put, List.setIfInBounds_toArray, List.set_cons_zero, List.set_cons_succ]
    refine wpAnyH_take (i := 25) (v := ?_) rfl (by kernel_rfl) (by kernel_rfl) (by kernel_rfl) (fun _ _ _ h => h) (Or.inl ⟨by rfl, ?_⟩) (by assumption) ?_
    rotate_left
    · intro w hSw
      go_simp
      try with_reducible rfl
    try simp only [Act.put, List.setIfInBounds_toArray, List.set_cons_zero, List.set_cons_succ]
    refine wpAnyH_take (i := 26) (v := ?_) rfl (by kernel_rfl) (by kernel_rfl) (by kernel_rfl) (fun _ _ _ h => h) (Or.inl ⟨by rfl, ?_⟩) (by assumption) ?_
    rotate_left
    · intro w hSw
      go_simp
      try with_reducible rfl
    try simp only [Act.put, List.setIfInBounds_toArray, List.set_cons_zero, List.set_cons_succ]
    refine wpAnyH_ready (rs := [27]) (by kernel_rfl) (by simp) ?_
    refine AllReadyH.cons rfl (fun K hK => ?_) AllReadyH.nil
    go_simp
    refine hK.out _ _ trivial (fun _ => ?_)
    clear hK K
    try simp only [Act.put, List.setIfInBounds_toArray, List.set_cons_zero, List.set_cons_succ]
    refine wpAnyH_ready (rs := [28]) (by kernel_rfl) (by simp) ?_
    refine AllReadyH.cons rfl (fun K hK => ?_) AllReadyH.nil
    go_simp
    refine hK.out _ _ trivial (fun _ => ?_)
    clear hK K
    try simp only [Act.put, List.setIfInBounds_toArray, List.set_cons_zero, List.set_cons_succ]
    refine wpAnyH_done (by kernel_rfl) ?_ _
    have h3 := own_drew (own_alloc h2 (.cells #[.int .i64 x2, .int .i64 x3, .int .i64 (x4 - 1), .int .i64 (x5 + 256 * x6), .int .i64 (x7 + 256 * x8)] 55))
    have hx3 := ((hxa.trans hx2).alloc (.cells #[.int .i64 x2, .int .i64 x3, .int .i64 (x4 - 1), .int .i64 (x5 + 256 * x6), .int .i64 (x7 + 256 * x8)] 55)).drew
    clear q2 q3 q4 q5 q6 q7 q8 e2 e3 e4 e4' e5 e6 e6' e6'' e7 e8 e8' e8'' h2 hx2 ha hxa
    generalize w2.heap.size = p at *
    generalize (w2.alloc (.cells #[.int .i64 x2, .int .i64 x3, .int .i64 (x4 - 1), .int .i64 (x5 + 256 * x6), .int .i64 (x7 + 256 * x8)] 55)).drew = w3 at *
    generalize x4 - 1 = y at *
    generalize x5 + 256 * x6 = a at *
    generalize x7 + 256 * x8 = b at *
    obtain ⟨c, f⟩ := own_cells 0 h3 rfl
    have hq := deskfault_any x2 x3 y a b _ w3 h3
    by_cases hb : deskF x2 x3 y a b = 0
    · have HS := Lib.hid (fun R w H => desksector_any x2 x3 y a b (deskF_in hb) R w H)
      rw [hb] at hq
      have HQ := Lib.hid hq
      clear hq
      unfold deskV at HQ HS
      go_wp2_with fail
      refine HQ.out.mono ?_
      rintro e w4 ⟨rfl, hx4, h4⟩
      clear c f
      obtain ⟨c, f⟩ := own_cells 0 h4 rfl
      go_wp2_with fail
      refine (HS.out _ w4 h4).mono ?_
      rintro e w5 ⟨rfl, hx5, h5⟩
      clear c f
      obtain ⟨c, f⟩ := own_cells 0 h5 rfl
      obtain ⟨c', f'⟩ := own_cells 1 h5 rfl
      by_cases hne : deskS x2 x3 y a b = s
      · have hgood : ¬ deskOfBad s := fun h => (HCD.out.1 h).elim (fun h => h hb) (fun h => h hne)
        have HG := Lib.hid hgood
        rw [hne]
        clear hgood hb
        go_wp2_with fail
        have h6 := own_set (i := 4) (v := .int .i64 b) 1 (own_set (i := 3) (v := .int .i64 a) 1 (own_set (i := 2) (v := .int .i64 y) 1 (own_set (i := 1) (v := .int .i64 x3) 1 (own_set (i := 0) (v := .int .i64 x2) 1 h5 rfl) rfl) rfl) rfl) rfl
        obtain ⟨c3, -⟩ := own_cells 1 h6 rfl
        refine bodyPost_ret (results_desk rfl _ _ g x2 x3 y a b rfl (c3 0) (c3 1) (c3 2) (c3 3) (c3 4)) rfl ?_
        exact ⟨by first | (rw [HX.out]; rfl) | (rw [if_neg HG.out, HX.out]; rfl), ((((((hx3.trans hx4).trans hx5).setCell _ _).setCell _ _).setCell _ _).setCell _ _).setCell _ _, own_drop (own_drop h6)⟩
      · have hbad : deskOfBad s := HCD.out.2 (.inr hne)
        have HB := Lib.hid hbad
        have hnl : ((deskS x2 x3 y a b).toList == s.toList) = false := by simpa using fun h => hne (toList_inj h)
        clear hb hbad
        go_wp2_with fail
        have h6 := own_set (i := 4) (v := .int .i64 0) 1 (own_set (i := 3) (v := .int .i64 0) 1 (own_set (i := 2) (v := .int .i64 0) 1 (own_set (i := 1) (v := .int .i64 0) 1 (own_set (i := 0) (v := .int .i64 0) 1 h5 rfl) rfl) rfl) rfl) rfl
        obtain ⟨c3, -⟩ := own_cells 1 h6 rfl
        refine bodyPost_ret (results_desk rfl _ _ g 0 0 0 0 0 rfl (c3 0) (c3 1) (c3 2) (c3 3) (c3 4)) rfl ?_
        exact ⟨by first | rfl | (rw [if_pos HB.out]; rfl), ((((((hx3.trans hx4).trans hx5).setCell _ _).setCell _ _).setCell _ _).setCell _ _).setCell _ _, own_drop (own_drop h6)⟩
    · have hbad : deskOfBad s := HCD.out.2 (.inl hb)
      have HB := Lib.hid hbad
      have hp := deskF_pos hb
      have HQ := Lib.hid hq
      clear hq hb hbad
      generalize deskF x2 x3 y a b = fc at *
      unfold deskV at HQ
      go_wp2_with fail
      refine HQ.out.mono ?_
      rintro e w4 ⟨rfl, hx4, h4⟩
      clear c f
      obtain ⟨c, f⟩ := own_cells 1 h4 rfl
      go_wp2_with fail
      have h5 := own_set (i := 4) (v := .int .i64 0) 1 (own_set (i := 3) (v := .int .i64 0) 1 (own_set (i := 2) (v := .int .i64 0) 1 (own_set (i := 1) (v := .int .i64 0) 1 (own_set (i := 0) (v := .int .i64 0) 1 h4 rfl) rfl) rfl) rfl) rfl
      obtain ⟨c3, -⟩ := own_cells 1 h5 rfl
      refine bodyPost_ret (results_desk rfl _ _ g 0 0 0 0 0 rfl (c3 0) (c3 1) (c3 2) (c3 3) (c3 4)) rfl ?_
      exact ⟨by first | rfl | (rw [if_pos HB.out]; rfl), (((((hx3.trans hx4).setCell _ _).setCell _ _).setCell _ _).setCell _ _).setCell _ _, own_drop (own_drop h5)⟩
  · have e : deskOf s = ((0, 0, 0, 0, 0), openF s) := by rw [deskOf, if_pos (by omega)]
    rw [e]
    clear e
    go_enter Try.func63, Try.ntmps63
    go_upto_region 1 with (fail)
    generalize w.heap.size = g at *
    generalize w.alloc (.cells #[.int .i64 0, .int .i64 0, .int .i64 0, .int .i64 0, .int .i64 0] 55) = w1 at *
    go_wp2_with fail
    refine (opened_any s hs _ w1 ha).mono ?_
    rintro e w2 ⟨rfl, hx2, h2⟩
    obtain ⟨c, f⟩ := own_cells 0 h2 rfl
    go_wp2_with fail
    have h3 := own_set (i := 4) (v := .int .i64 0) 0 (own_set (i := 3) (v := .int .i64 0) 0 (own_set (i := 2) (v := .int .i64 0) 0 (own_set (i := 1) (v := .int .i64 0) 0 (own_set (i := 0) (v := .int .i64 0) 0 h2 rfl) rfl) rfl) rfl) rfl
    obtain ⟨c3, -⟩ := own_cells 0 h3 rfl
    refine bodyPost_ret (results_desk rfl _ _ g 0 0 0 0 0 rfl (c3 0) (c3 1) (c3 2) (c3 3) (c3 4)) rfl ?_
    exact ⟨rfl, (((((hxa.trans hx2).setCell _ _).setCell _ _).setCell _ _).setCell _ _).setCell _ _, own_drop h3⟩
end Go.Proofs.Ytbpblokfiajpjaa
