/- Names answers true. No conditions. -/
import Derived.Test.YtbpblokfiajpjaaDoorInts
import Derived.Deep.Cut
namespace Go.Proofs.YtbpblokfiajpjaaDoor
open Go.RowKit Go.SL

def named : List Int := [16, 4, 200, 32, 40, 5, 64, 1000, 100000, 80, 200, 0, 1, 2, 1, 2, 3, 0, 1, 2, 3, 4, 5]
theorem ints_lit (i : Nat) (hi : i < named.length) : (#[.int .i64 16, .int .i64 4, .int .i64 200, .int .i64 32, .int .i64 40, .int .i64 5, .int .i64 64, .int .i64 1000, .int .i64 100000, .int .i64 80, .int .i64 200, .int .i64 0, .int .i64 1, .int .i64 2, .int .i64 1, .int .i64 2, .int .i64 3, .int .i64 0, .int .i64 1, .int .i64 2, .int .i64 3, .int .i64 4, .int .i64 5] : Array Value)[i]? = some (.int .i64 (named.getD i 0)) := by
  have : (#[.int .i64 16, .int .i64 4, .int .i64 200, .int .i64 32, .int .i64 40, .int .i64 5, .int .i64 64, .int .i64 1000, .int .i64 100000, .int .i64 80, .int .i64 200, .int .i64 0, .int .i64 1, .int .i64 2, .int .i64 1, .int .i64 2, .int .i64 3, .int .i64 0, .int .i64 1, .int .i64 2, .int .i64 3, .int .i64 4, .int .i64 5] : Array Value) = (named.map (Value.int .i64)).toArray := rfl
  rw [this]
  simp [hi]
theorem eleven {k : Nat} (h : k < 11) : k = 0 ∨ k = 1 ∨ k = 2 ∨ k = 3 ∨ k = 4 ∨ k = 5 ∨ k = 6 ∨ k = 7 ∨ k = 8 ∨ k = 9 ∨ k = 10 := by omega

set_option maxRecDepth 100000 in
set_option maxHeartbeats 4000000 in
theorem error11 (w : World) : Calls Tryd.prog 21 #[.int .i64 11] w fun e w' => e = .returned (.string ⟨#[115,116,97,99,107,121,97,114,100,58,32,101,114,114,111,114,32,49,49]⟩) ∧ w = w' := by
  go_enter Tryd.func21, Tryd.ntmps21
  go_wp2
  go_ret
  exact ⟨rfl, rfl⟩

set_option maxRecDepth 100000 in
set_option maxHeartbeats 4000000 in
theorem names_walk (w : World) : Calls Tryd.prog 4 #[] w fun e w' => e = .returned (.bool true) ∧ Below w.heap.size w w' := by
  have h0 := own_exactly w
  go_enter Tryd.func4, Tryd.ntmps4
  go_upto_region 2 with (fail)
  have h1 := own_alloc h0 (.cells #[.int .i64 16, .int .i64 4, .int .i64 200, .int .i64 32, .int .i64 40, .int .i64 5, .int .i64 64, .int .i64 1000, .int .i64 100000, .int .i64 80, .int .i64 200, .int .i64 0, .int .i64 1, .int .i64 2, .int .i64 1, .int .i64 2, .int .i64 3, .int .i64 0, .int .i64 1, .int .i64 2, .int .i64 3, .int .i64 4, .int .i64 5] 3)
  have hx1 := (Ext.refl w).alloc (.cells #[.int .i64 16, .int .i64 4, .int .i64 200, .int .i64 32, .int .i64 40, .int .i64 5, .int .i64 64, .int .i64 1000, .int .i64 100000, .int .i64 80, .int .i64 200, .int .i64 0, .int .i64 1, .int .i64 2, .int .i64 1, .int .i64 2, .int .i64 3, .int .i64 0, .int .i64 1, .int .i64 2, .int .i64 3, .int .i64 4, .int .i64 5] 3)
  generalize hw1 : w.alloc (.cells #[.int .i64 16, .int .i64 4, .int .i64 200, .int .i64 32, .int .i64 40, .int .i64 5, .int .i64 64, .int .i64 1000, .int .i64 100000, .int .i64 80, .int .i64 200, .int .i64 0, .int .i64 1, .int .i64 2, .int .i64 1, .int .i64 2, .int .i64 3, .int .i64 0, .int .i64 1, .int .i64 2, .int .i64 3, .int .i64 4, .int .i64 5] 3) = w1 at *
  generalize hp1 : w.heap.size = p1 at h1 ⊢
  clear hw1
  go_upto_region 3 with (fail)
  have h2 := own_alloc h1 (.cells #[.int .i64 16, .int .i64 4, .int .i64 200, .int .i64 32, .int .i64 40, .int .i64 5, .int .i64 64, .int .i64 1000, .int .i64 100000, .int .i64 80, .int .i64 200, .int .i64 0, .int .i64 1, .int .i64 2, .int .i64 1, .int .i64 2, .int .i64 3, .int .i64 0, .int .i64 1, .int .i64 2, .int .i64 3, .int .i64 4, .int .i64 5] 3)
  have hx2 := hx1.alloc (.cells #[.int .i64 16, .int .i64 4, .int .i64 200, .int .i64 32, .int .i64 40, .int .i64 5, .int .i64 64, .int .i64 1000, .int .i64 100000, .int .i64 80, .int .i64 200, .int .i64 0, .int .i64 1, .int .i64 2, .int .i64 1, .int .i64 2, .int .i64 3, .int .i64 0, .int .i64 1, .int .i64 2, .int .i64 3, .int .i64 4, .int .i64 5] 3)
  generalize hw2 : w1.alloc (.cells #[.int .i64 16, .int .i64 4, .int .i64 200, .int .i64 32, .int .i64 40, .int .i64 5, .int .i64 64, .int .i64 1000, .int .i64 100000, .int .i64 80, .int .i64 200, .int .i64 0, .int .i64 1, .int .i64 2, .int .i64 1, .int .i64 2, .int .i64 3, .int .i64 0, .int .i64 1, .int .i64 2, .int .i64 3, .int .i64 4, .int .i64 5] 3) = w2 at *
  generalize hp2 : w1.heap.size = p2 at h2 ⊢
  clear hw2
  go_upto_region 4 with (fail)
  have h3 := own_alloc h2 (.cells #[.iface 48 (.int .i64 1), .iface 48 (.int .i64 2), .iface 48 (.int .i64 3), .iface 48 (.int .i64 4), .iface 48 (.int .i64 5), .iface 48 (.int .i64 6), .iface 48 (.int .i64 7), .iface 48 (.int .i64 8), .iface 48 (.int .i64 9), .iface 48 (.int .i64 10), .iface 48 (.int .i64 11)] 27)
  have hx3 := hx2.alloc (.cells #[.iface 48 (.int .i64 1), .iface 48 (.int .i64 2), .iface 48 (.int .i64 3), .iface 48 (.int .i64 4), .iface 48 (.int .i64 5), .iface 48 (.int .i64 6), .iface 48 (.int .i64 7), .iface 48 (.int .i64 8), .iface 48 (.int .i64 9), .iface 48 (.int .i64 10), .iface 48 (.int .i64 11)] 27)
  generalize hw3 : w2.alloc (.cells #[.iface 48 (.int .i64 1), .iface 48 (.int .i64 2), .iface 48 (.int .i64 3), .iface 48 (.int .i64 4), .iface 48 (.int .i64 5), .iface 48 (.int .i64 6), .iface 48 (.int .i64 7), .iface 48 (.int .i64 8), .iface 48 (.int .i64 9), .iface 48 (.int .i64 10), .iface 48 (.int .i64 11)] 27) = w3 at *
  generalize hp3 : w2.heap.size = p3 at h3 ⊢
  clear hw3 hp1 hp2 hp3
  go_wp2_with fail
  have hc := (own_cells 0 h3 rfl).1
  go_loop [4] (fun i => ∃ k : Nat, k ≤ 11 ∧ i = .int .i64 k) (fun i => 11 - (intOf i).toNat)
  case atStart => exact ⟨0, by omega, rfl⟩
  case round =>
    obtain ⟨k, hk, rfl⟩ := hrel
    by_cases hlt : k < 11
    · have c5 : w3.cell? ⟨p3, k, none⟩ = some (.iface 48 (.int .i64 ((k : Int) + 1))) := by
        rw [hc]
        rcases eleven hlt with rfl | rfl | rfl | rfl | rfl | rfl | rfl | rfl | rfl | rfl | rfl <;> rfl
      have hsm := same_err ((k : Int) + 1) ((k : Int) + 1) w3
      have hb : (decide ((0 : Int) < (k : Int) + 1) && ((k : Int) + 1 == (k : Int) + 1)) = true := by rw [decide_eq_true (by omega)]; simp
      rw [hb] at hsm
      have HM := Lib.hid hsm
      clear hsm hb hc
      go_wp2_with fail
      refine HM.out.mono ?_
      rintro e w' ⟨rfl, rfl⟩
      go_wp2_with fail
      go_round
      case rel => exact ⟨k + 1, by omega, by go_num⟩
      case measure => simp [intOf]; omega
    · clear hc
      have i1 : IntsAt w3 (.slice (some ⟨p1, 0, none⟩) 23 23) named := ints_own 2 h3 rfl rfl (fun i hi => ints_lit i hi) (by omega)
      have i2 : IntsAt w3 (.slice (some ⟨p2, 0, none⟩) 23 23) named := ints_own 1 h3 rfl rfl (fun i hi => ints_lit i hi) (by omega)
      go_wp2_with fail
      refine (samenumbers_any _ _ named named w3 i1 i2).mono ?_
      rintro e w' ⟨rfl, nd, rfl⟩
      have hd : decide (named = named) = true := decide_eq_true rfl
      rw [hd]
      clear hd i1 i2
      go_wp2_with fail
      refine (error11 _).mono ?_
      rintro e w' ⟨rfl, rfl⟩
      go_wp2_with fail
      go_ret
      exact ⟨rfl, below_of 3 (own_drewN nd h3) rfl (hx3.drewN nd)⟩
end Go.Proofs.YtbpblokfiajpjaaDoor
