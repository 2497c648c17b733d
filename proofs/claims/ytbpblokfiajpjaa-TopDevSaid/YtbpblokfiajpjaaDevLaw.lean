/- asDev and stays answer true of equal devices. No conditions. -/
import Derived.Test.YtbpblokfiajpjaaRDev3
import Derived.Test.YtbpblokfiajpjaaStrs
import Derived.Deep.DrawnRows
namespace Go.Proofs.Ytbpblokfiajpjaa
open Go.RowKit Go.SL
attribute [local go_sem ↓] Go.wp_at_zero Go.wp_at_succ

set_option maxRecDepth 100000 in
set_option maxHeartbeats 4000000 in
theorem asdev_any (b1 b2 : Nat) (m : DevM) (hm : m.Ok) (R : List SL.HP) (w : World) (H : own w (devAt b1 m :: rdevAt b2 m :: R)) :
    Calls Try.prog 59 #[.pointer (some ⟨b1, 0, none⟩), .pointer (some ⟨b2, 0, none⟩)] w fun e w' => e = .returned (.bool true) ∧ Ext w w' ∧ own w' (devAt b1 m :: rdevAt b2 m :: R) := by
  obtain ⟨vf, va, vw, h⟩ := rdev_open (own_behind [_] H)
  have hl1 := hm.n
  obtain ⟨aa, ga, ca, rfl, p1, p2, -, -, -, -, -⟩ := own_row_form 2 h rfl
  obtain ⟨af, gf, cf, rfl, f1, f2, -, -, -, -, -⟩ := own_row_form 1 h rfl
  obtain ⟨c, f⟩ := own_cells 0 h rfl
  have hd := own_drew h
  go_enter Try.func59, Try.ntmps59
  go_upto_region 1 with (fail)
  go_region_held3 (fun w' => w'.cell? ⟨b2, 0, none⟩ = some (.slice af m.fl.length cf) ∧ w'.cell? ⟨b2, 1, none⟩ = some (.slice aa m.pend.length ca) ∧ w'.cell? ⟨b2, 4, none⟩ = some (.int .i64 m.writes)) (first | exact ⟨(own_cells 0 hd rfl).1 0, (own_cells 0 hd rfl).1 1, (own_cells 0 hd rfl).1 4⟩ | exact ⟨(own_cells 0 h2 rfl).1 0, (own_cells 0 h2 rfl).1 1, (own_cells 0 h2 rfl).1 4⟩)
    (first | (go_at_call 48; refine (dev_size b1 m _ _ (own_pick 4 hd rfl)).mono ?_; rintro e w' ⟨rfl, rfl⟩) | (go_at_call 76; refine (dev_pending b1 m _ _ (own_pick 4 hd rfl)).mono ?_; rintro e w' ⟨rfl, rfl⟩) | (go_at_call 84; refine (dev_writes b1 m _ _ (own_pick 4 hd rfl)).mono ?_; rintro e w' ⟨rfl, rfl⟩) | (go_at_call 47; refine (dev_bytes b1 m hm _ _ (own_pick 4 hd rfl)).mono ?_; rintro e w2 ⟨rfl, hx2, h2'⟩; have h2 := own_put hd 4 rfl h2') | (go_at_call 85; refine (rdev_bytes b2 m hm _ _ (rdev_close h2)).mono ?_; rintro e w' ⟨rfl, rfl⟩))
  have h3 : own w2 (rdevAt b2 m :: devAt b1 m :: R) := rdev_close h2
  have h4 : own w2 (devAt b1 m :: rdevAt b2 m :: R) := own_behind [_] h3
  have hx3 : Ext w w2 := (Ext.refl w).drew.trans hx2
  clear c f
  obtain ⟨c, f⟩ := own_cells 0 h2 rfl
  clear h2 h2' hx2 hd h H
  go_wp2_with fail
  go_loop [5] (fun i => ∃ q : Nat, q ≤ m.fl.length ∧ i = .int .i64 q) (fun i => m.fl.length - (intOf i).toNat)
  case atStart => exact ⟨0, Nat.zero_le _, rfl⟩
  case round =>
    obtain ⟨q, hq, rfl⟩ := hrel
    by_cases hlt : q < m.fl.length
    · go_wp2_with fail
      refine (dev_read b1 m hm q _ w2 h4).mono ?_
      rintro e w' ⟨rfl, rfl⟩
      rw [if_neg (by omega)]
      go_wp2_with fail
      refine (rdev_seen b2 m hm q (by omega) (by omega) _ w2 h3).mono ?_
      rintro e w' ⟨rfl, rfl⟩
      go_wp2_with fail
      go_round
      case rel => exact ⟨q + 1, by omega, by go_num⟩
      case measure => simp [intOf]; omega
    · go_wp2_with fail
      go_ret
      exact ⟨rfl, hx3, h4⟩

def text16 : ByteArray := ⟨#[48, 49, 50, 51, 52, 53, 54, 55, 56, 57, 97, 98, 99, 100, 101, 102]⟩

set_option maxRecDepth 100000 in
set_option maxHeartbeats 4000000 in
theorem stays_any (R : List SL.HP) (w : World) (H : own w R) :
    Calls Try.prog 45 #[] w fun e w' => e = .returned (.bool true) ∧ Ext w w' ∧ own w' R := by
  have ok0 : (newDev 2).Ok := newDev_ok (by decide)
  have e1 : (newDev 2).write 1 text16 = (0, { fl := [sect0, sect0], pend := [(1, text16)], fail := -1, writes := 1 }) := rfl
  have ok1 := DevM.write_ok ok0 1 text16 (by decide) (by decide)
  rw [e1] at ok1
  dsimp only at ok1
  go_enter Try.func45, Try.ntmps45
  go_wp2_with fail
  refine (dev_new_yes 2 R w rfl H).mono ?_
  rintro e w1 ⟨b, rfl, hx1, h1⟩
  go_wp2_with fail
  refine (dev_write b (newDev 2) ok0 1 text16 (by decide) (by decide) (by decide) R w1 h1).mono ?_
  rw [e1]
  rintro e w2 ⟨rfl, hx2, h2⟩
  dsimp only at h2
  clear e1 ok0 h1
  go_wp2_with fail
  refine (dev_read b _ ok1 1 R w2 h2).mono ?_
  rintro e w3 ⟨rfl, rfl⟩
  rw [if_neg (by decide), show DevM.seen { fl := [sect0, sect0], pend := [(1, text16)], fail := -1, writes := 1 } 1 = text16 from rfl]
  have ht : text16.toList = [48, 49, 50, 51, 52, 53, 54, 55, 56, 57, 97, 98, 99, 100, 101, 102] := by rw [ByteArray.toList_eq]; rfl
  go_wp2_with fail
  refine (same_any 0 0 w2 (by omega)).mono ?_
  rintro e w3 ⟨rfl, rfl⟩
  go_wp2_with fail
  refine (same_any 0 0 w2 (by omega)).mono ?_
  rintro e w3 ⟨rfl, rfl⟩
  go_wp2_with fail
  refine (dev_pending b _ R w2 h2).mono ?_
  rintro e w3 ⟨rfl, rfl⟩
  rw [show ((([((1 : Int), text16)] : List (Int × ByteArray)).length : Nat) : Int) = 1 from rfl]
  go_wp2_with fail
  refine (dev_crash b _ ok1 (.slice none 0 0) [] R w2 (fun _ _ _ => ⟨none, 0, 0, 0, rfl, Nat.le_refl _, by decide, fun h => absurd h (by simp), fun i h => absurd h (by simp)⟩) h2).mono ?_
  rintro e w3 ⟨cc, rfl, hx3, h3⟩
  go_wp2_with fail
  refine (dev_bytes cc _ (DevM.crash_ok ok1 []) _ w3 h3).mono ?_
  rintro e w4 ⟨rfl, hx4, h4⟩
  rw [show cat (DevM.crash { fl := [sect0, sect0], pend := [(1, text16)], fail := -1, writes := 1 } []).fl = zs 32 from rfl]
  go_wp2_with fail
  refine (noughts_any 32 (by decide) _ w4 h4).mono ?_
  rintro e w5 ⟨rfl, hx5, h5⟩
  go_wp2_with fail
  go_ret
  exact ⟨rfl, (((hx1.trans hx2).trans hx3).trans hx4).trans hx5, own_drop (own_drop h5)⟩
end Go.Proofs.Ytbpblokfiajpjaa
