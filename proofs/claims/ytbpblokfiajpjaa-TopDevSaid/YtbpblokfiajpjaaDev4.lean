/- Crash, Copy and Bytes of a device. No conditions. -/
import Derived.Test.YtbpblokfiajpjaaDev3
namespace Go.SL
open Go.RowKit
/-- what append reads of a row -/
theorem own_row_news {w : World} {L : List HP} (k : Nat) {e : TypeId} {sz n cap : Nat} {ao : Option Addr} {xs : List Value} (H : own w L) (hk : L[k]? = some (row e sz (.slice ao n cap) n xs)) :
    (∀ ad, ao = some ad → ∀ j u, xs[j]? = some u → w.cell? (ad.add j) = some u) ∧ (ao = none → n = 0) := by
  obtain ⟨ap', gp', cp', hv, -, -, -, h5, k1, k2, k3⟩ := own_row_form k H hk
  simp only [Value.slice.injEq, true_and] at hv
  obtain ⟨rfl, rfl⟩ := hv
  refine ⟨fun ad had j u hu => ?_, fun h => (h5 h).1⟩
  obtain rfl := k1 _ had
  rw [Go.Proofs.Ytbpblokfiajpjaa.add_none, Nat.zero_add]
  exact k2 j u hu
end Go.SL
namespace Go.Proofs.Ytbpblokfiajpjaa
open Go.RowKit Go.SL

theorem strCells_one {l : List ByteArray} : ∀ u ∈ strCells l, u.oneCell' = true := fun u hu => by
  obtain ⟨_, _, rfl⟩ := List.mem_map.1 hu; rfl
theorem pendCells_one {l : List (Int × ByteArray)} : ∀ u ∈ pendCells l, u.oneCell' = true := fun u hu => by
  simp only [pendCells, List.mem_flatMap] at hu
  obtain ⟨_, _, hu⟩ := hu
  simp at hu
  rcases hu with rfl | rfl <;> rfl
theorem pendCells_len (l : List (Int × ByteArray)) : (pendCells l).length = l.length * 2 := by
  induction l with
  | nil => rfl
  | cons x l ih => simp only [pendCells, List.flatMap_cons, List.length_append, List.length_cons, List.length_nil] at ih ⊢; omega

def crashInv (c b : Nat) (m : DevM) (vc vf vp : Value) (ks : List Bool) (R : List SL.HP) (w0 : World) (i : Value) (wr : World) : Prop :=
  ∃ q : Nat, q ≤ m.pend.length ∧ i = .int .i64 q ∧ Ext w0 wr ∧ own wr (pts c (.cells #[vc, .slice none 0 0, .int .i64 (-1), .int .i64 m.writes] 133 (0, 0)) :: row 9 1 vc m.fl.length (strCells ((keptOnes (m.pend.take q) ks).foldl setAt m.fl)) ::
    pts b (.cells #[vf, vp, .int .i64 m.fail, .int .i64 m.writes] 133 (0, 0)) :: row 9 1 vf m.fl.length (strCells m.fl) :: row 137 2 vp m.pend.length (pendCells m.pend) :: R)

set_option maxRecDepth 100000 in
set_option maxHeartbeats 2000000 in
theorem dev_crash (b : Nat) (m : DevM) (hm : m.Ok) (v : Value) (ks : List Bool) (R : List SL.HP) (w : World) (hv : ∀ w' l, own w' (l ++ R) → BoolsAt w' v ks) (H : own w (devAt b m :: R)) :
    Calls Try.prog 58 #[.pointer (some ⟨b, 0, none⟩), v] w fun e w' => ∃ c, e = .returned (.pointer (some ⟨c, 0, none⟩)) ∧ Ext w w' ∧ own w' (devAt c (m.crash ks) :: devAt b m :: R) := by
  obtain ⟨vf, vp, h⟩ := dev_open H
  have hl1 := hm.n
  have hl2 := hm.p
  obtain ⟨ao, kb, koff, kcap, rfl, kc1, kc2, -, -⟩ := hv w [devAt b m] H
  obtain ⟨ap, gp, cp, rfl, p1, p2, p3, -, -, -, -⟩ := own_row_form 2 h rfl
  obtain ⟨af, gf, cf, rfl, f1, f2, f3, -, -, -, -⟩ := own_row_form 1 h rfl
  obtain ⟨c, f⟩ := own_cells 0 h rfl
  obtain ⟨n1, n2⟩ := own_row_news 1 (own_drew h) rfl
  have hml : 0 + m.fl.length ≤ maxLen := by simp only [maxLen]; omega
  have hnl : (strCells m.fl).length = m.fl.length * 1 := by simp [strCells]
  go_enter Try.func58, Try.ntmps58
  go_wp2_with fail
  go_region_held3 (fun w' => w'.cell? ⟨b, 0, none⟩ = some (.slice af m.fl.length cf) ∧ w'.cell? ⟨b, 3, none⟩ = some (.int .i64 m.writes)) (first | exact ⟨(own_cells 0 (own_drew h) rfl).1 0, (own_cells 0 (own_drew h) rfl).1 3⟩ | exact ⟨(own_cells 1 h2 rfl).1 0, (own_cells 1 h2 rfl).1 3⟩ | exact ⟨(own_cells 2 (own_alloc h2 _) rfl).1 0, (own_cells 2 (own_alloc h2 _) rfl).1 3⟩)
    ((refine step_append_row (by rfl) _ _ 42 (by rfl) 0 9 Try.underlying42 elem_string rfl (by decide) (by rfl) (own_row_nil 9 1 (own_drew h)) rfl af m.fl.length cf (strCells m.fl) (by rfl) hnl n1 n2 strCells_one hml (by omega) ?_; intro v2 w2 h2 hx2; obtain ⟨a2, g2, c2, rfl, q1, q2, q3, -, -, -, -⟩ := own_row_form 0 h2 rfl))
  simp only [Nat.zero_add, List.nil_append, List.set_cons_zero] at h2 q1 q3
  have h3 := own_alloc h2 (.cells #[.slice a2 m.fl.length c2, .slice none 0 0, .int .i64 (-1), .int .i64 m.writes] 133)
  have hx3 := (((Ext.refl w).drew).trans hx2).alloc (.cells #[.slice a2 m.fl.length c2, .slice none 0 0, .int .i64 (-1), .int .i64 m.writes] 133)
  clear n1 n2 c f h2 hx2 h H
  generalize w2.heap.size = cc at *
  generalize w2.alloc (.cells #[.slice a2 m.fl.length c2, .slice none 0 0, .int .i64 (-1), .int .i64 m.writes] 133) = w3 at *
  have P3 := Lib.hid p3
  have F3 := Lib.hid q3
  have HV := Lib.hid hv
  clear p3 q3 f3 hv
  obtain ⟨c, f⟩ := own_cells 2 h3 rfl
  go_wp2_with fail
  go_loopw [24] (crashInv cc b m (.slice a2 m.fl.length c2) (.slice af m.fl.length cf) (.slice ap m.pend.length cp) ks R w) (fun i _ => m.pend.length - (intOf i).toNat)
  case atStart => exact ⟨0, Nat.zero_le _, rfl, hx3, h3⟩
  case round =>
    clear c f h3 hx3
    obtain ⟨q, hq, rfl, hxr, hown⟩ := hrel
    by_cases hlt : q < m.pend.length
    · obtain rfl := P3.out (by omega)
      obtain ⟨x1, x2, x3⟩ := hm.pend _ (pend_mem hlt)
      obtain ⟨e1, e2⟩ := pendCells_get hlt
      obtain ⟨k2, -⟩ := own_row_cells 4 hown rfl
      have c1 := k2 _ _ e1
      have c2' := k2 _ _ e2
      have hto := keptOnes_snoc (m.pend.take q) (m.pend.getD q (0, ByteArray.empty)) ks
      rw [← take_succ_getD (0, ByteArray.empty) hlt, List.length_take, Nat.min_eq_left (by omega)] at hto
      have HT := Lib.hid hto
      clear hto
      generalize hx : m.pend.getD q (0, ByteArray.empty) = x at *
      clear k2 e1 e2 hx
      obtain ⟨n, s⟩ := x
      dsimp only at x1 x2 x3 c1 c2'
      obtain ⟨k, rfl⟩ := Int.eq_ofNat_of_zero_le x1
      obtain rfl := F3.out (by omega)
      go_upto_region 5 with (fail)
      have ha := own_alloc hown (.cells #[.int .i64 k, .string s] 137)
      have hxa := hxr.alloc (.cells #[.int .i64 k, .string s] 137)
      clear c1 c2' hown
      generalize wr.heap.size = ba at *
      generalize wr.alloc (.cells #[.int .i64 k, .string s] 137) = wa at *
      obtain ⟨c0, f0⟩ := own_cells 0 ha rfl
      obtain ⟨c, f⟩ := own_cells 1 ha rfl
      obtain ⟨k2, k3⟩ := own_row_cells 2 ha rfl
      have hlen := foldl_setAt_length (keptOnes (m.pend.take q) ks) m.fl
      generalize hfq : (keptOnes (m.pend.take q) ks).foldl setAt m.fl = fq at *
      have HFQ := Lib.hid hfq
      clear hfq
      have c2 := k2 k _ (strCells_get (by omega))
      clear k2
      obtain ⟨ao', kb', koff', kcap', hkv, -, -, hk1, hk2⟩ := HV.out wa [_, _, _, _, _, _] ha
      simp only [Value.slice.injEq, true_and] at hkv
      obtain ⟨rfl, rfl⟩ := hkv
      have hkeep : ks.getD q false = true → q < ks.length := fun h => by
        rcases Nat.lt_or_ge q ks.length with h' | h'
        · exact h'
        · simp [h'] at h
      by_cases hin : q < ks.length
      · obtain rfl := hk1 (by omega)
        have ck := hk2 q hin
        dsimp only at ck
        clear hk1 hk2
        cases hkq : ks.getD q false
        · rw [hkq] at ck
          clear hkeep
          go_wp2_with fail
          go_roundw
          case rel =>
            refine ⟨q + 1, by omega, by go_num, hxa, ?_⟩
            have h6 := own_drop ha
            rw [HT.out, hkq, if_neg (by simp), List.append_nil, HFQ.out]
            exact h6
          case measure => simp [intOf]; omega
        · rw [hkq] at ck
          clear hkeep
          go_upto_region 6 with (fail)
          go_still_tail 8, (by kernel_rfl)
          change wpList _ _ _ _ _ wa.drew
          go_wp2_with fail
          go_roundw
          case rel =>
            have h5 := own_row_set 2 k (.string s) (own_drew ha) rfl (by omega)
            refine ⟨q + 1, by omega, by go_num, hxa.drew.setCell _ _, ?_⟩
            have h6 := own_drop h5
            rw [HT.out, hkq, if_pos rfl, List.foldl_append, HFQ.out]
            simp only [List.foldl_cons, List.foldl_nil, setAt, Int.toNat_natCast, strCells_set]
            exact h6
          case measure => simp [intOf]; omega
      · have hkq : ks.getD q false = false := by
          cases h : ks.getD q false
          · rfl
          · exact absurd (hkeep h) hin
        clear hkeep hk1 hk2
        go_wp2_with fail
        go_roundw
        case rel =>
          refine ⟨q + 1, by omega, by go_num, hxa, ?_⟩
          have h6 := own_drop ha
          rw [HT.out, hkq, if_neg (by simp), List.append_nil, HFQ.out]
          exact h6
        case measure => simp [intOf]; omega
    · have hq' : q = m.pend.length := by omega
      subst hq'
      rw [List.take_length] at hown
      clear HV
      go_wp2_with fail
      go_ret
      refine ⟨cc, rfl, hxr, ?_⟩
      have h7 := own_behind [_, _] (own_row_nil 137 2 hown)
      have h8 := dev_close (b := cc) (m := m.crash ks) (vf := .slice a2 m.fl.length c2) (vp := .slice none 0 0) (by
        simp only [DevM.crash, foldl_setAt_length]
        exact h7)
      exact own_behind [_] (dev_close (own_behind [_, _, _] h8))
end Go.Proofs.Ytbpblokfiajpjaa
