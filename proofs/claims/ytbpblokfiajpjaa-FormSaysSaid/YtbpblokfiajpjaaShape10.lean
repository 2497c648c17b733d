/- Desks: written and read back. No conditions. -/
import Derived.Test.YtbpblokfiajpjaaShape8
namespace Go.Proofs.Ytbpblokfiajpjaa
open Go.RowKit Go.SL Go.Crc
attribute [local go_sem ↓] Go.wp_at_zero Go.wp_at_succ

set_option maxRecDepth 100000 in
set_option maxHeartbeats 1000000 in
theorem desksector_any (r k f a b : Int) (hh : ¬ deskOut r k f a b) (R : List SL.HP) (w : World) (H : own w R) :
    Calls Try.prog 44 #[deskV r k f a b] w fun e w' => e = .returned (.string (deskS r k f a b)) ∧ Ext w w' ∧ own w' R := by
  have ha := own_alloc H (.cells #[.int .i64 r, .int .i64 k, .int .i64 f, .int .i64 a, .int .i64 b] 55)
  have hxa := (Ext.refl w).alloc (.cells #[.int .i64 r, .int .i64 k, .int .i64 f, .int .i64 a, .int .i64 b] 55)
  obtain ⟨cc, ff⟩ := own_cells 0 ha rfl
  unfold deskOut at hh
  unfold deskV deskS
  have g1 : 0 ≤ r := by omega
  have g2 : r ≤ 4 := by omega
  have g3 : -1 ≤ f := by omega
  have g4 : f ≤ 4 := by omega
  have g5 : 0 ≤ a := by omega
  have g6 : a ≤ 1000 := by omega
  have g7 : 0 ≤ b := by omega
  have g8 : b ≤ 1000 := by omega
  have g9 : 0 ≤ k := by omega
  have g0 : k ≤ 3 := by omega
  have e1 : 0 ≤ a % 256 := by omega
  have e2 : a % 256 ≤ 255 := by omega
  have e3 : 0 ≤ a / 256 := by omega
  have e4 : a / 256 ≤ 3 := by omega
  have e5 : 0 ≤ b % 256 := by omega
  have e6 : b % 256 ≤ 255 := by omega
  have e7 : 0 ≤ b / 256 := by omega
  have e8 : b / 256 ≤ 3 := by omega
  clear hh
  go_enter Try.func44, Try.ntmps44
  go_upto_region 1 with (fail)
  generalize w.heap.size = g at *
  generalize w.alloc (.cells #[.int .i64 r, .int .i64 k, .int .i64 f, .int .i64 a, .int .i64 b] 55) = w1 at *
  go_wp2_with fail
  have h7 := own_row_of 0 (n := 9) (cap := 9) (sz := 1) (xs := byteCells [68, 75, r, k, f + 1, a % 256, a / 256, b % 256, b / 256]) (own_alloc ha (.cells #[.int .u8 68, .int .u8 75, .int .u8 r, .int .u8 k, .int .u8 (f + 1), .int .u8 (a % 256), .int .u8 (a / 256), .int .u8 (b % 256), .int .u8 (b / 256)] 5)) rfl (by decide) (by simp [maxLen]) rfl rfl
  refine (rsealed_any _ [68, 75, r, k, f + 1, a % 256, a / 256, b % 256, b / 256] 9 rfl (by decide) _ _ h7).mono ?_
  rintro e w2 ⟨rfl, hx2, h2'⟩
  go_wp2_with fail
  go_ret
  exact ⟨rfl, (hxa.alloc _).trans hx2, own_drop h2'⟩

set_option maxRecDepth 100000 in
set_option maxHeartbeats 1000000 in
theorem desk_any (r k f a b : Int) (R : List SL.HP) (w : World) (H : own w R) :
    Calls Try.prog 41 #[deskV r k f a b] w fun e w' => e = .returned (.tuple #[.string (if deskF r k f a b = 0 then deskS r k f a b else ByteArray.empty), errV (deskF r k f a b)]) ∧ Ext w w' ∧ own w' R := by
  have ha := own_alloc H (.cells #[.int .i64 r, .int .i64 k, .int .i64 f, .int .i64 a, .int .i64 b] 55)
  have hxa := (Ext.refl w).alloc (.cells #[.int .i64 r, .int .i64 k, .int .i64 f, .int .i64 a, .int .i64 b] 55)
  have hck := checkdesk_any r k f a b _ _ ha
  by_cases h : deskF r k f a b = 0
  · rw [h, if_pos rfl]
    rw [h] at hck
    have HK := Lib.hid hck
    have hh : ¬ deskOut r k f a b := fun h' => by rw [deskF_out h'] at h; cases h
    clear hck h
    unfold deskOut at hh
    unfold deskV at HK
    unfold deskV deskS
    have g1 : 0 ≤ r := by omega
    have g2 : r ≤ 4 := by omega
    have g3 : -1 ≤ f := by omega
    have g4 : f ≤ 4 := by omega
    have g5 : 0 ≤ a := by omega
    have g6 : a ≤ 1000 := by omega
    have g7 : 0 ≤ b := by omega
    have g8 : b ≤ 1000 := by omega
    have g9 : 0 ≤ k := by omega
    have g0 : k ≤ 3 := by omega
    have e1 : 0 ≤ a % 256 := by omega
    have e2 : a % 256 ≤ 255 := by omega
    have e3 : 0 ≤ a / 256 := by omega
    have e4 : a / 256 ≤ 3 := by omega
    have e5 : 0 ≤ b % 256 := by omega
    have e6 : b % 256 ≤ 255 := by omega
    have e7 : 0 ≤ b / 256 := by omega
    have e8 : b / 256 ≤ 3 := by omega
    clear hh
    go_enter Try.func41, Try.ntmps41
    go_upto_region 1 with (fail)
    obtain ⟨cc, ff⟩ := own_cells 0 ha rfl
    generalize w.heap.size = g at *
    generalize w.alloc (.cells #[.int .i64 r, .int .i64 k, .int .i64 f, .int .i64 a, .int .i64 b] 55) = w1 at *
    go_wp2_with fail
    refine HK.out.mono ?_
    rintro e w2 ⟨rfl, hx2, h2'⟩
    rw [errV_0]
    clear cc ff
    obtain ⟨cc, ff⟩ := own_cells 0 h2' rfl
    go_wp2_with fail
    have h7 := own_row_of 0 (n := 9) (cap := 9) (sz := 1) (xs := byteCells [68, 75, r, k, f + 1, a % 256, a / 256, b % 256, b / 256]) (own_alloc h2' (.cells #[.int .u8 68, .int .u8 75, .int .u8 r, .int .u8 k, .int .u8 (f + 1), .int .u8 (a % 256), .int .u8 (a / 256), .int .u8 (b % 256), .int .u8 (b / 256)] 5)) rfl (by decide) (by simp [maxLen]) rfl rfl
    refine (sealed_any _ [68, 75, r, k, f + 1, a % 256, a / 256, b % 256, b / 256] 9 rfl (by decide) (by decide) _ _ h7).mono ?_
    rintro e w3 ⟨rfl, hx3, h3'⟩
    go_wp2_with fail
    go_ret2
    exact ⟨rfl, ((hxa.trans hx2).alloc _).trans hx3, own_drop h3'⟩
  · rw [if_neg h]
    have hp : 0 < deskF r k f a b := by unfold deskF at h ⊢; split; decide; split; decide; rename_i h1 h2; rw [if_neg h1, if_neg h2] at h; exact absurd rfl h
    rw [errV_pos hp] at hck ⊢
    have HK := Lib.hid hck
    clear hck h
    generalize deskF r k f a b = ff at *
    unfold deskV at HK
    unfold deskV
    go_enter Try.func41, Try.ntmps41
    go_upto_region 1 with (fail)
    obtain ⟨cc, ff⟩ := own_cells 0 ha rfl
    generalize w.heap.size = g at *
    generalize w.alloc (.cells #[.int .i64 r, .int .i64 k, .int .i64 f, .int .i64 a, .int .i64 b] 55) = w1 at *
    go_wp2_with fail
    refine HK.out.mono ?_
    rintro e w2 ⟨rfl, hx2, h2'⟩
    go_wp2_with fail
    go_ret2
    exact ⟨rfl, hxa.trans hx2, own_drop h2'⟩
end Go.Proofs.Ytbpblokfiajpjaa
