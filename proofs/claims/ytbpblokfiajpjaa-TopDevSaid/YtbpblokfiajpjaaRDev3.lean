/- The document's device: Crash, NewDev. No conditions. -/
import Derived.Test.YtbpblokfiajpjaaRDev2
namespace Go.Proofs.Ytbpblokfiajpjaa
open Go.RowKit Go.SL

theorem keptOnes_take : ∀ (p : List (Int × ByteArray)) (ks : List Bool) (q : Nat), ks.length ≤ q → keptOnes (p.take q) ks = keptOnes p ks
  | [], _, q, _ => by simp
  | x :: p, [], q, _ => by cases q <;> simp [keptOnes]
  | x :: p, k :: ks, 0, h => by simp at h
  | x :: p, k :: ks, q + 1, h => by
    have ih := keptOnes_take p ks q (by simpa using h)
    simp only [List.take_succ_cons, keptOnes, ih]

def rcrashInv (c b : Nat) (m : DevM) (vc vf va vw : Value) (ks : List Bool) (R : List SL.HP) (w0 : World) (i : Value) (wr : World) : Prop :=
  ∃ q : Nat, q ≤ m.pend.length ∧ i = .int .i64 q ∧ Ext w0 wr ∧ own wr (pts c (.cells #[vc, .slice none 0 0, .slice none 0 0, .int .i64 (-1), .int .i64 m.writes] 90 (0, 0)) :: row 9 1 vc m.fl.length (strCells ((keptOnes (m.pend.take q) ks).foldl setAt m.fl)) ::
    pts b (.cells #[vf, va, vw, .int .i64 m.fail, .int .i64 m.writes] 90 (0, 0)) :: row 9 1 vf m.fl.length (strCells m.fl) :: row 3 1 va m.pend.length (intCells m.pend) :: row 9 1 vw m.pend.length (whatCells m.pend) :: R)

set_option maxRecDepth 100000 in
set_option maxHeartbeats 2000000 in
theorem rdev_crash (b : Nat) (m : DevM) (hm : m.Ok) (v : Value) (ks : List Bool) (R : List SL.HP) (w : World) (hv : ∀ w' l, own w' (l ++ R) → BoolsAt w' v ks) (H : own w (rdevAt b m :: R)) :
    Calls Try.prog 60 #[.pointer (some ⟨b, 0, none⟩), v] w fun e w' => ∃ c, e = .returned (.pointer (some ⟨c, 0, none⟩)) ∧ Ext w w' ∧ own w' (rdevAt c (m.crash ks) :: rdevAt b m :: R) := by
  obtain ⟨vf, va, vw, h⟩ := rdev_open H
  have hl1 := hm.n
  have hl2 := hm.p
  obtain ⟨ao, kb, koff, kcap, rfl, kc1, kc2, -, -⟩ := hv w [rdevAt b m] H
  obtain ⟨aa, ga, ca, rfl, p1, p2, p3, -, -, -, -⟩ := own_row_form 2 h rfl
  obtain ⟨aw, gw, cw, rfl, p4, p5, p6, -, -, -, -⟩ := own_row_form 3 h rfl
  obtain ⟨af, gf, cf, rfl, f1, f2, f3, -, -, -, -⟩ := own_row_form 1 h rfl
  have hml : 0 + m.fl.length ≤ maxLen := by simp only [maxLen]; omega
  have hnl : (strCells m.fl).length = m.fl.length * 1 := by simp [strCells]
  obtain ⟨c, f⟩ := own_cells 0 h rfl
  go_enter Try.func60, Try.ntmps60
  go_upto_region 2 with (fail)
  have ha := own_alloc h (.cells #[.slice none 0 0, .slice none 0 0, .slice none 0 0, .int .i64 (-1), .int .i64 m.writes] 90)
  have hxa := (Ext.refl w).alloc (.cells #[.slice none 0 0, .slice none 0 0, .slice none 0 0, .int .i64 (-1), .int .i64 m.writes] 90)
  clear c f h H
  generalize w.heap.size = cc at *
  generalize w.alloc (.cells #[.slice none 0 0, .slice none 0 0, .slice none 0 0, .int .i64 (-1), .int .i64 m.writes] 90) = w1 at *
  obtain ⟨c0, f0⟩ := own_cells 0 (own_drew ha) rfl
  obtain ⟨c1, f1'⟩ := own_cells 1 (own_drew ha) rfl
  obtain ⟨n1, n2⟩ := own_row_news 2 (own_drew ha) rfl
  go_region_law (refine step_append_row (by rfl) _ _ 42 (by rfl) 0 9 Try.underlying42 elem_string rfl (by decide) (by rfl) (own_row_nil 9 1 (own_drew ha)) rfl af m.fl.length cf (strCells m.fl) (by rfl) hnl n1 n2 strCells_one hml (by omega) ?_; intro v4 w4 h4 hx4; obtain ⟨a4, g4, c4, rfl, s1, s2, s3, -, -, -, -⟩ := own_row_form 0 h4 rfl; obtain ⟨cd, fd⟩ := own_cells 1 h4 rfl)
  all_goals
    try simp only [Nat.zero_add, List.nil_append, List.set_cons_zero] at h4
    try simp only [Nat.zero_add] at s1
    try simp only [Nat.zero_add] at s3
    have h3 := own_behind [_] (own_set (i := 0) (v := .slice a4 m.fl.length c4) 1 h4 rfl)
    have hx3 := (hxa.drew.trans hx4).setCell ⟨cc, 0, none⟩ (.slice a4 m.fl.length c4)
    clear c0 f0 c1 f1' n1 n2 cd fd h4 ha hxa hx4
    generalize w4.setCell ⟨cc, 0, none⟩ (.slice a4 m.fl.length c4) = w3 at *
    have P3 := Lib.hid p3
    have P6 := Lib.hid p6
    have F3 := Lib.hid s3
    have HV := Lib.hid hv
    clear p3 p6 s3 f3 hv
    go_upto_region 3 with (fail)
    go_wp2_with fail
    go_loopw [6] (rcrashInv cc b m (.slice a4 m.fl.length c4) (.slice af m.fl.length cf) (.slice aa m.pend.length ca) (.slice aw m.pend.length cw) ks R w) (fun i _ => m.pend.length - (intOf i).toNat)
    case atStart => exact ⟨0, Nat.zero_le _, rfl, hx3, h3⟩
    case round =>
      clear h3 hx3
      obtain ⟨q, hq, rfl, hxr, hown⟩ := hrel
      obtain ⟨c, f⟩ := own_cells 0 hown rfl
      obtain ⟨c', f'⟩ := own_cells 2 hown rfl
      have close : ∀ q, keptOnes (m.pend.take q) ks = keptOnes m.pend ks → own wr (pts cc (.cells #[.slice a4 m.fl.length c4, .slice none 0 0, .slice none 0 0, .int .i64 (-1), .int .i64 m.writes] 90 (0, 0)) :: row 9 1 (.slice a4 m.fl.length c4) m.fl.length (strCells ((keptOnes (m.pend.take q) ks).foldl setAt m.fl)) ::
          pts b (.cells #[.slice af m.fl.length cf, .slice aa m.pend.length ca, .slice aw m.pend.length cw, .int .i64 m.fail, .int .i64 m.writes] 90 (0, 0)) :: row 9 1 (.slice af m.fl.length cf) m.fl.length (strCells m.fl) :: row 3 1 (.slice aa m.pend.length ca) m.pend.length (intCells m.pend) :: row 9 1 (.slice aw m.pend.length cw) m.pend.length (whatCells m.pend) :: R) → own wr (rdevAt cc (m.crash ks) :: rdevAt b m :: R) := fun q he h => by
        rw [he] at h
        have h7 := own_behind [_, _] (own_row_nil 9 1 h)
        have h7 := own_behind [_, _] (own_row_nil 3 1 h7)
        have h8 := rdev_close (b := cc) (m := m.crash ks) (vf := .slice a4 m.fl.length c4) (va := .slice none 0 0) (vw := .slice none 0 0) (by
          simp only [DevM.crash, foldl_setAt_length]
          exact h7)
        exact own_behind [_] (rdev_close (own_behind [_, _, _, _] h8))
      have CL := Lib.hid close
      clear close
      by_cases hlt : q < m.pend.length
      · by_cases hin : q < ks.length
        · obtain ⟨ao', kb', koff', kcap', hkv, -, -, hk1, hk2⟩ := HV.out wr [_, _, _, _, _, _] hown
          simp only [Value.slice.injEq, true_and] at hkv
          obtain ⟨rfl, rfl⟩ := hkv
          obtain rfl := hk1 (by omega)
          have ck := hk2 q hin
          dsimp only at ck
          clear hk1 hk2
          obtain rfl := P3.out (by omega)
          obtain rfl := P6.out (by omega)
          obtain ⟨x1, x2, x3⟩ := hm.pend _ (pend_mem hlt)
          have c1 := (own_row_cells 4 hown rfl).1 q _ (intCells_get hlt)
          have c2 := (own_row_cells 5 hown rfl).1 q _ (whatCells_get hlt)
          have hto := keptOnes_snoc (m.pend.take q) (m.pend.getD q (0, ByteArray.empty)) ks
          rw [← take_succ_getD (0, ByteArray.empty) hlt, List.length_take, Nat.min_eq_left (by omega)] at hto
          have HT := Lib.hid hto
          clear hto
          generalize hx : m.pend.getD q (0, ByteArray.empty) = x at *
          clear hx
          obtain ⟨n, s⟩ := x
          dsimp only at x1 x2 x3 c1 c2
          obtain ⟨k, rfl⟩ := Int.eq_ofNat_of_zero_le x1
          obtain rfl := F3.out (by omega)
          obtain ⟨k2, k3⟩ := own_row_cells 1 hown rfl
          have hlen := foldl_setAt_length (keptOnes (m.pend.take q) ks) m.fl
          generalize hfq : (keptOnes (m.pend.take q) ks).foldl setAt m.fl = fq at *
          have HFQ := Lib.hid hfq
          clear hfq
          have c3 := k2 k _ (strCells_get (by omega))
          clear k2
          cases hkq : ks.getD q false
          · rw [hkq] at ck
            go_wp2_with fail
            go_roundw
            case rel =>
              refine ⟨q + 1, by omega, by go_num, hxr, ?_⟩
              rw [HT.out, hkq, if_neg (by simp), List.append_nil, HFQ.out]
              exact hown
            case measure => simp [intOf]; omega
          · rw [hkq] at ck
            go_upto_region 7 with (fail)
            go_still_tail 18, (by kernel_rfl)
            change wpList _ _ _ _ _ wr.drew
            go_wp2_with fail
            go_roundw
            case rel =>
              have h5 := own_row_set 1 k (.string s) (own_drew hown) rfl (by omega)
              refine ⟨q + 1, by omega, by go_num, hxr.drew.setCell _ _, ?_⟩
              rw [HT.out, hkq, if_pos rfl, List.foldl_append, HFQ.out]
              simp only [List.foldl_cons, List.foldl_nil, setAt, Int.toNat_natCast, strCells_set]
              exact h5
            case measure => simp [intOf]; omega
        · clear HV
          go_wp2_with fail
          go_ret
          exact ⟨cc, rfl, hxr, CL.out q (keptOnes_take _ _ _ (by omega)) hown⟩
      · have hq' : q = m.pend.length := by omega
        clear HV
        go_wp2_with fail
        go_ret
        exact ⟨cc, rfl, hxr, CL.out q (by rw [hq', List.take_length]) hown⟩

def rnewInv (b : Nat) (n : Nat) (R : List SL.HP) (w0 : World) (i : Value) (wr : World) : Prop :=
  ∃ q : Nat, q ≤ n ∧ i = .int .i64 q ∧ Ext w0 wr ∧ ∃ ao g cap, q ≤ cap ∧ cap ≤ maxLen ∧ own wr (pts b (.cells #[.slice ao q cap, .slice none 0 0, .slice none 0 0, .int .i64 (-1), .int .i64 0] 90 (0, 0)) :: row 9 1 (.slice ao q cap) q (strCells (List.replicate q sect0)) :: R) ∧ (0 < q → ao = some ⟨g, 0, none⟩)

theorem noughts_16 (R : List SL.HP) (w : World) (H : own w R) : Calls Try.prog 75 #[.int .i64 16] w fun e w' => e = .returned (.string sect0) ∧ Ext w w' ∧ own w' R := noughts_any 16 (by decide) R w H

set_option maxRecDepth 100000 in
set_option maxHeartbeats 1000000 in
theorem rdev_new (n : Nat) (R : List SL.HP) (w : World) (hn : n ≤ 200) (H : own w R) : Calls Try.prog 50 #[.int .i64 n] w fun e w' => ∃ b, e = .returned (.pointer (some ⟨b, 0, none⟩)) ∧ Ext w w' ∧ own w' (rdevAt b (newDev n) :: R) := by
  go_enter Try.func50, Try.ntmps50
  go_upto_region 2 with (fail)
  have ha := own_alloc H (.cells #[.slice none 0 0, .slice none 0 0, .slice none 0 0, .int .i64 (-1), .int .i64 0] 90)
  have hx1 := (Ext.refl w).alloc (.cells #[.slice none 0 0, .slice none 0 0, .slice none 0 0, .int .i64 (-1), .int .i64 0] 90)
  generalize w.heap.size = b at *
  generalize w.alloc (.cells #[.slice none 0 0, .slice none 0 0, .slice none 0 0, .int .i64 (-1), .int .i64 0] 90) = w1 at *
  have h1 := own_behind [_] (own_row_nil 9 1 ha)
  clear ha
  go_wp2_with fail
  go_loopw [4] (rnewInv b n R w) (fun i _ => n - (intOf i).toNat)
  case atStart => exact ⟨0, Nat.zero_le _, rfl, hx1, none, 0, 0, Nat.le_refl _, by simp [maxLen], h1, fun h => absurd h (by simp)⟩
  case round =>
    clear h1 hx1
    obtain ⟨q, hq, rfl, hxr, ao, g, cap, q1, q2, hown, q3⟩ := hrel
    by_cases hlt : q < n
    · have hml : q + 1 ≤ maxLen := by simp only [maxLen]; omega
      clear q3
      go_upto_region 5 with (fail)
      obtain ⟨c, f⟩ := own_cells 0 (own_drew hown) rfl
      go_region_law (first | (refine step_append_row (by rfl) _ _ 42 (by rfl) 2 9 Try.underlying42 elem_string rfl (by decide) (by rfl) (own_alloc h2 _) rfl (some ⟨w2.heap.size, 0, none⟩) 1 1 [.string sect0] (by rfl) rfl (alloc_news w2 [.string sect0] _) (fun h => by cases h) (one_str _) hml (by omega) ?_; intro v4 w4 h4 hx4; obtain ⟨a4, g4, c4, rfl, s1, s2, s3, -, -, -, -⟩ := own_row_form 2 h4 rfl; obtain rfl := s3 (by omega); obtain ⟨cc, ff⟩ := own_cells 1 h4 rfl) | (go_simp; go_at_call 75; refine (noughts_16 _ _ (own_drew hown)).mono ?_; rintro e w2 ⟨rfl, hx2, h2⟩; obtain ⟨c2, f2⟩ := own_cells 0 h2 rfl; have h2a := own_alloc h2 (.cells #[.string sect0] 9); obtain ⟨c3, f3⟩ := own_cells 1 h2a rfl))
      all_goals
        go_wp2_with fail
        go_roundw
        case rel =>
          have h5 := own_set (i := 0) (v := .slice (some ⟨g4, 0, none⟩) (q + 1) c4) 1 h4 rfl
          refine ⟨q + 1, by omega, by go_num, ?_, _, g4, c4, s1, s2, ?_, fun _ => rfl⟩
          · exact (((hxr.drew.trans hx2).alloc _).trans hx4).setCell _ _
          · have h6 := own_drop h5
            have e : strCells (List.replicate (q + 1) sect0) = strCells (List.replicate q sect0) ++ [.string sect0] := by simp [strCells, List.replicate_succ']
            rw [e]
            exact h6
        case measure => simp [intOf]; omega
    · have hq' : q = n := by omega
      subst hq'
      clear q3
      go_wp2_with fail
      go_ret
      refine ⟨b, rfl, hxr, rdev_close (m := newDev q) (vf := .slice ao q cap) (va := .slice none 0 0) (vw := .slice none 0 0) ?_⟩
      have h5 := own_behind [_, _] (own_row_nil 9 1 hown)
      have h5 := own_behind [_, _] (own_row_nil 3 1 h5)
      simp only [newDev, List.length_replicate]
      exact h5
end Go.Proofs.Ytbpblokfiajpjaa
