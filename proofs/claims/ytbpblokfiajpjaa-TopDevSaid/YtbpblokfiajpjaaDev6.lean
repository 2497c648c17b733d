/- Of: a device of bytes. No conditions. -/
import Derived.Test.YtbpblokfiajpjaaDev5
import Derived.Laws.Strings2
namespace Go.Proofs.Ytbpblokfiajpjaa
open Go.RowKit Go.SL

def chunk (s : ByteArray) (i : Nat) : ByteArray := s.extract (i * 16) ((i + 1) * 16)
def cutAt (s : ByteArray) (n q : Nat) : List ByteArray := (List.range n).map fun i => if i < q then chunk s i else sect0
theorem cutAt_zero (s : ByteArray) (n : Nat) : cutAt s n 0 = List.replicate n sect0 := by
  simp [cutAt, List.map_const']
theorem cutAt_length (s : ByteArray) (n q : Nat) : (cutAt s n q).length = n := by simp [cutAt]
theorem cutAt_set (s : ByteArray) (n q : Nat) : (cutAt s n q).set q (chunk s q) = cutAt s n (q + 1) := by
  apply List.ext_getElem
  · simp [cutAt]
  · intro i h1 h2
    simp only [cutAt, List.getElem_set, List.getElem_map, List.getElem_range]
    by_cases h : q = i
    · subst h; simp
    · rw [if_neg h]
      by_cases h3 : i < q
      · simp [h3, Nat.lt_succ_of_lt h3]
      · rw [if_neg h3, if_neg (by omega)]
def ofDev (s : ByteArray) : DevM := { fl := cutAt s (s.size / 16) (s.size / 16), pend := [], fail := -1, writes := 0 }
def ofOk (s : ByteArray) : Bool := decide (s.size % 16 = 0 ∧ 1 ≤ s.size ∧ s.size ≤ 3200)

def ofInv (b : Nat) (s : ByteArray) (n : Nat) (R : List SL.HP) (w0 : World) (ao : Option Addr) (cap : Nat) (vp : Value) (i : Value) (wr : World) : Prop :=
  ∃ q : Nat, q ≤ n ∧ i = .int .i64 q ∧ Ext w0 wr ∧ own wr (pts b (.cells #[.slice ao n cap, vp, .int .i64 (-1), .int .i64 0] 133 (0, 0)) :: row 9 1 (.slice ao n cap) n (strCells (cutAt s n q)) :: row 137 2 vp 0 [] :: R)

theorem tmod16 (n : Nat) : ((n : Int)).tmod 16 = ((n % 16 : Nat) : Int) := by
  rw [Int.tmod_eq_emod_of_nonneg (by omega)]; omega

set_option maxRecDepth 100000 in
set_option maxHeartbeats 1000000 in
theorem dev_of (s : ByteArray) (hs : s.size ≤ 100000) (R : List SL.HP) (w : World) (H : own w R) : Calls Try.prog 46 #[.string s] w fun e w' =>
    (ofOk s = false → e = .returned (.tuple #[.pointer none, errV 1]) ∧ w' = w) ∧ (ofOk s = true → ∃ b, e = .returned (.tuple #[.pointer (some ⟨b, 0, none⟩), .nilIface]) ∧ Ext w w' ∧ own w' (devAt b (ofDev s) :: R)) := by
  have ht := tmod16 s.size
  by_cases hm : s.size % 16 = 0
  · rw [hm] at ht
    have hdiv : IntKind.i64.wrap ((s.size : Int) / 16) = ((s.size / 16 : Nat) : Int) := by rw [IntWalk.i64_in _ (by omega)]; omega
    by_cases hok : sectOk ((s.size / 16 : Nat) : Int) = true
    · have hok' := hok
      simp only [sectOk, decide_eq_true_eq] at hok'
      obtain ⟨o1, o2⟩ := hok'
      have hO : ofOk s = true := by simp only [ofOk, decide_eq_true_eq]; omega
      simp only [hO, Bool.true_eq_false, false_implies, true_implies, true_and]
      go_enter Try.func46, Try.ntmps46
      go_wp2_with fail
      refine (dev_new_yes (s.size / 16) R w hok H).mono ?_
      rintro e w1 ⟨b, rfl, hx1, h1⟩
      obtain ⟨vf, vp, h1⟩ := dev_open h1
      obtain ⟨ao, g, cap, rfl, r1, r2, r3, -, -, -, -⟩ := own_row_form 1 h1 rfl
      simp only [newDev, List.length_replicate] at h1 r1 r3
      simp only [List.length_nil, pendCells, List.flatMap_nil] at h1
      have h2 := h1
      rw [← cutAt_zero s] at h2
      clear h1 H ht hm hO hok
      have hsz : s.size / 16 * 16 ≤ s.size := by omega
      generalize hn : s.size / 16 = n at *
      have HN := Lib.hid hn
      clear hn
      obtain ⟨c, f⟩ := own_cells 0 h2 rfl
      obtain rfl := r3 (by omega)
      go_wp2_with fail
      go_loopw [27] (ofInv b s n R w (some ⟨g, 0, none⟩) cap vp) (fun i _ => n - (intOf i).toNat)
      case atStart => exact ⟨0, Nat.zero_le _, rfl, hx1, h2⟩
      case round =>
        clear c f h2 hx1 r3
        obtain ⟨q, hq, rfl, hxr, hown⟩ := hrel
        by_cases hlt : q < n
        · obtain ⟨c, f⟩ := own_cells 0 hown rfl
          obtain ⟨k2, k3⟩ := own_row_cells 1 hown rfl
          have c2 := k2 q _ (strCells_get (by rw [cutAt_length]; exact hlt))
          clear k2
          have e1 : IntKind.i64.wrap ((q : Int) * 16) = (q : Int) * 16 := IntWalk.i64_in _ (by omega)
          have e2 : IntKind.i64.wrap ((q : Int) + 1) = (q : Int) + 1 := IntWalk.i64_in _ (by omega)
          have e3 : IntKind.i64.wrap (((q : Int) + 1) * 16) = ((q : Int) + 1) * 16 := IntWalk.i64_in _ (by omega)
          have b1 : (0 : Int) ≤ (q : Int) * 16 := by omega
          have b2 : (q : Int) * 16 ≤ ((q : Int) + 1) * 16 := by omega
          have b3 : ((q : Int) + 1) * 16 ≤ (s.size : Int) := by omega
          have hsl : ∀ wx : World, (Instr.slice 9 (.string s) (some (.int .i64 ((q : Int) * 16))) (some (.int .i64 (((q : Int) + 1) * 16))) none).run Try.prog wx = .ok (.string (chunk s q)) wx := fun wx => by
            have := run_slice_string (P := Try.prog) wx 9 s .i64 .i64 ((q : Int) * 16) (((q : Int) + 1) * 16) Try.underlying9 b1 b2 b3
            rw [this, chunk, show ((q : Int) * 16).toNat = q * 16 from by omega, show (((q : Int) + 1) * 16).toNat = (q + 1) * 16 from by omega]
          go_upto_region 9 with (fail)
          go_still_tail 12, (by kernel_rfl)
          change wpList _ _ _ _ _ wr.drew
          go_wp2_with fail
          go_roundw
          case rel =>
            have h5 := own_row_set 1 q (.string (chunk s q)) (own_drew hown) rfl (by omega)
            refine ⟨q + 1, by omega, by go_num, hxr.drew.setCell _ _, ?_⟩
            rw [← cutAt_set, strCells_set]
            exact h5
          case measure => simp [intOf]; omega
        · have hq' : q = n := by omega
          subst hq'
          go_wp2_with fail
          go_ret2
          refine ⟨b, rfl, hxr, dev_close (m := ofDev s) (vf := .slice (some ⟨g, 0, none⟩) q cap) (vp := vp) ?_⟩
          simp only [ofDev, HN.out, cutAt_length]
          exact hown
    · have hok' : sectOk ((s.size / 16 : Nat) : Int) = false := by simpa using hok
      have hO : ofOk s = false := by
        simp only [sectOk, decide_eq_false_iff_not] at hok'
        simp only [ofOk, decide_eq_false_iff_not]; omega
      simp only [hO, Bool.false_eq_true, false_implies, true_implies, and_true]
      go_enter Try.func46, Try.ntmps46
      go_wp2_with fail
      refine (dev_new_no _ w hok').mono ?_
      rintro e w1 ⟨rfl, rfl⟩
      have he : errV 1 = .iface 121 (.int .i64 1) := rfl
      rw [he]
      go_wp2_with fail
      all_goals go_ret2
      all_goals exact ⟨rfl, rfl⟩
  · have hO : ofOk s = false := by simp only [ofOk, decide_eq_false_iff_not]; omega
    simp only [hO, Bool.false_eq_true, false_implies, true_implies, and_true]
    go_enter Try.func46, Try.ntmps46
    have hp : ((0 : Int) < ((s.size % 16 : Nat) : Int)) := by omega
    go_wp2_with fail
    go_ret2
    exact ⟨rfl, rfl⟩
end Go.Proofs.Ytbpblokfiajpjaa
