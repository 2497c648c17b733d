/- TopDev answers true, whatever the acts, and leaves what it was given as it was. No conditions. -/
import Derived.Test.YtbpblokfiajpjaaTopDevP
namespace Go.Proofs.Ytbpblokfiajpjaa
open Go.RowKit Go.SL
attribute [local go_sem ↓] Go.wp_at_zero Go.wp_at_succ

theorem rowsO_congr {n : Nat} (vs : Nat → Value) {hs hs' : Nat → List ByteArray} (h : ∀ k, k < n → hs k = hs' k) : rowsO n vs hs = rowsO n vs hs' :=
  List.map_congr_left fun k hk => by rw [h k (List.mem_range.1 hk)]
theorem rowsO_end {n : Nat} {A R : List HP} (vs : Nat → Value) (hs : Nat → List ByteArray) {P : HP} (h : R[0]? = some P) : (A ++ (rowsO n vs hs ++ R))[A.length + n]? = some P := by
  rw [List.getElem?_append_right (by omega), Nat.add_sub_cancel_left, List.getElem?_append_right (by rw [rowsO_len]; omega), rowsO_len, Nat.sub_self]
  exact h
theorem at_behind' {l R : List HP} {k : Nat} {P : HP} (h : R[k]? = some P) : (l ++ R)[l.length + k]? = some P := by
  rw [List.getElem?_append_right (by omega), Nat.add_sub_cancel_left]; exact h

def tInit (n b bm : Nat) (w0 : World) (i : Value) (wr : World) : Prop :=
  ∃ (q : Nat) (vs : Nat → Value), q ≤ n ∧ i = .int .i64 q ∧ Ext w0 wr ∧ own wr (devAt b (newDev n) :: pts bm (.cells (mayArr q vs) 118 (0, 0)) :: (rowsO q vs (fun _ => [sect0]) ++ [exactly w0]))
def tAct (n b bm len : Nat) (w0 : World) (i : Value) (wr : World) : Prop :=
  ∃ (q : Nat) (m : DevM) (vs : Nat → Value), q ≤ len ∧ i = .int .i64 q ∧ m.Ok ∧ m.fl.length = n ∧ m.fail = -1 ∧ m.pend.length ≤ q ∧ m.writes ≤ q ∧ Ext w0 wr ∧
    own wr (devAt b m :: pts bm (.cells (mayArr n vs) 118 (0, 0)) :: (rowsO n vs m.may ++ [exactly w0]))

def tFl (n bd bm : Nat) (A : HP) (m : DevM) (w0 : World) (i : Value) (wr : World) : Prop :=
  ∃ (k : Nat) (vs : Nat → Value) (hs : Nat → List ByteArray), k ≤ n ∧ i = .int .i64 k ∧ (∀ j, j < k → hs j = m.flush.may j) ∧ (∀ j, k ≤ j → j < n → hs j = m.may j) ∧ Ext w0 wr ∧
    own wr (devAt bd m.flush :: A :: pts bm (.cells (mayArr n vs) 118 (0, 0)) :: (rowsO n vs hs ++ [exactly w0]))
theorem last_cells {l : List ByteArray} (h : 0 < l.length) : (strCells l).drop ((l.length - 1) * 1) = strCells [l.getLastD ByteArray.empty] := by
  rw [getLastD_getD h, Nat.mul_one, strCells, ← List.map_drop, List.drop_eq_getElem_cons (by omega), List.drop_of_length_le (by omega)]
  simp [strCells, show l.length - 1 < l.length by omega]
theorem run_cut (g off L cp : Nat) (h1 : 1 ≤ L) (h2 : L ≤ cp) (w : World) : (Instr.slice 42 (.slice (some ⟨g, off, none⟩) L cp) (some (.int .i64 ((L : Int) - 1))) none none).run Try.prog w = .ok (.slice (some ⟨g, off + (L - 1), none⟩) 1 (cp - (L - 1))) w := by
  have e : ((L : Int) - 1).toNat = L - 1 := by omega
  have e1 : (0 : Int) ≤ (L : Int) - 1 := by omega
  have e2 : (L : Int) - 1 ≤ (L : Int) := by omega
  have e3 : L - (L - 1) = 1 := by omega
  have e4 : ¬ (cp - (L - 1) = 0) := by omega
  simp [Instr.slice, Instr.sliceBounds, Instr.sliceBound, asIntOf, run_underlying Try.underlying42, e, e1, e2, e3, e4]
  rw [if_pos (by omega), if_neg (by omega), add_none]
def foundB (s : ByteArray) (l : List ByteArray) : Bool := l.any fun y => y.toList == s.toList
theorem foundB_mem {s : ByteArray} {l : List ByteArray} (h : s ∈ l) : foundB s l = true := List.any_eq_true.2 ⟨s, h, by simp⟩
def tFound (s : ByteArray) (l : List ByteArray) (f k : Value) : Prop := ∃ q : Nat, q ≤ l.length ∧ k = .int .i64 q ∧ f = .bool (foundB s (l.take q))
def tEnd (n : Nat) (L : List HP) (w0 : World) (i : Value) (wr : World) : Prop := ∃ k : Nat, k ≤ n ∧ i = .int .i64 k ∧ Ext w0 wr ∧ own wr L

set_option maxRecDepth 100000 in
set_option maxHeartbeats 16000000 in
theorem topDev_walk (n0 : Int) (v : Value) (l : List Act) (kv : Value) (ks : List Bool) (w : World) (hv : ActsAt w v l) (hk : BoolsAt w kv ks) :
    Calls Try.prog 11 #[.int .i64 n0, v, kv] w fun e w' => e = .returned (.bool true) ∧ Below w.heap.size w w' := by
  obtain ⟨ao, b, off, cap, rfl, hc1, hao, hat⟩ := hv.form
  obtain ⟨kao, kcap, rfl, hkl⟩ := keep_len hk
  have h0 := own_exactly w
  have HKS := Lib.hid hk
  have HAO := Lib.hid hao
  have HAT := Lib.hid hat
  have HV := Lib.hid hv
  clear hk hao hat hv
  by_cases hn1 : n0 < 1
  · have d1 : decide (n0 < 1) = true := decide_eq_true hn1
    go_enter Try.func11, Try.ntmps11
    go_wp2_with fail
    go_ret
    exact ⟨rfl, below_of 0 h0 rfl (Ext.refl _)⟩
  · have d1 : decide (n0 < 1) = false := decide_eq_false hn1
    by_cases hn2 : 20 < n0
    · have d2 : decide (20 < n0) = true := decide_eq_true hn2
      go_enter Try.func11, Try.ntmps11
      go_wp2_with fail
      go_ret
      exact ⟨rfl, below_of 0 h0 rfl (Ext.refl _)⟩
    · have d2 : decide (20 < n0) = false := decide_eq_false hn2
      obtain ⟨n, rfl⟩ := Int.eq_ofNat_of_zero_le (show 0 ≤ n0 by omega)
      have n1 : 1 ≤ n := by omega
      have n2 : n ≤ 20 := by omega
      clear hn1 hn2
      by_cases hL : light l 60 = true
      · by_cases hk100 : ks.length ≤ 100
        · have d3 : decide (100 < (ks.length : Int)) = false := decide_eq_false (by omega)
          have hl60 : l.length ≤ 60 := by
            unfold light at hL
            simp only [Bool.and_eq_true, decide_eq_true_eq] at hL
            omega
          go_enter Try.func11, Try.ntmps11
          go_wp2_with fail
          refine (light_any _ l 60 w HV.out).mono ?_
          rintro e w1 ⟨rfl, rfl⟩
          rw [hL]
          clear hL
          go_wp2_with fail
          refine (dev_new_yes n _ w (by simp [sectOk]; omega) h0).mono ?_
          rintro e w1 ⟨bd, rfl, hx1, h1⟩
          clear h0
          go_upto_region 7 with (fail)
          have h2 := own_alloc h1 (.cells (mayArr 0 fun _ => undef) 118)
          have hx2 := hx1.alloc (.cells (mayArr 0 fun _ => undef) 118)
          rw [mayArr_init] at hx2
          have h3 := own_pick 1 h2 rfl
          rw [mayArr_init] at h3
          clear h1 hx1 h2
          generalize w1.heap.size = bm at *
          generalize w1.alloc _ = w2 at *
          go_wp2_with fail
          go_loopw [10] (tInit n bd bm w) (fun i _ => n - (intOf i).toNat)
          case atStart =>
            refine ⟨0, fun _ => undef, by omega, rfl, hx2, ?_⟩
            rw [mayArr_init]
            exact h3
          case round =>
            obtain ⟨q, vs, hq, rfl, hxr, hown⟩ := hrel
            clear h3 hx2
            by_cases hlt : q < n
            · have i1 : (0 : Int) ≤ (q : Int) := by omega
              have i2 : (q : Int) < 20 := by omega
              go_wp2_with fail
              refine (noughts_any 16 (by decide) _ wr hown).mono ?_
              rintro e w4 ⟨rfl, hx4, h4⟩
              rw [zs_16]
              have h5 := own_alloc h4 (.cells #[.string sect0] 9)
              have hx5 := (hxr.trans hx4).alloc (.cells #[.string sect0] 9)
              have h6 := own_rowo_of 0 (n := 1) (off := 0) (cap := 1) (sz := 1) (xs := strCells [sect0]) h5 rfl (by decide) (by simp [maxLen]) rfl rfl
              obtain ⟨cc, ff⟩ := own_cells 2 h5 rfl
              have cm := cc q
              rw [mayArr_fresh vs (by omega)] at cm
              clear cc
              go_wp2_with fail
              go_roundw
              case rel =>
                have h7 := own_set (i := q) (v := .slice (some ⟨w4.heap.size, 0, none⟩) 1 1) 2 h6 rfl
                have h8 : own ((w4.alloc (.cells #[.string sect0] 9)).setCell ⟨bm, q, none⟩ (.slice (some ⟨w4.heap.size, 0, none⟩) 1 1)) (rowo 9 1 (.slice (some ⟨w4.heap.size, 0, none⟩) 1 1) 1 (strCells [sect0]) :: ((devAt bd (newDev n) :: pts bm (.cells (mayArr (q + 1) (upd vs q (.slice (some ⟨w4.heap.size, 0, none⟩) 1 1))) 118 (0, 0)) :: rowsO q vs (fun _ => [sect0])) ++ [exactly w])) := by
                  rw [← mayArr_succ]
                  exact h7
                have h9 := own_behind _ h8
                have e := rowsO_succ q vs (fun _ => [sect0]) (.slice (some ⟨w4.heap.size, 0, none⟩) 1 1) [sect0]
                rw [show upd (fun _ => [sect0]) q [sect0] = fun _ => [sect0] from funext fun j => by unfold upd; split <;> rfl] at e
                refine ⟨q + 1, upd vs q (.slice (some ⟨w4.heap.size, 0, none⟩) 1 1), by omega, by go_num, hx5.setCell _ _, ?_⟩
                rw [e, List.append_assoc]
                exact h9
              case measure => simp [intOf]; omega
            · have hqn : q = n := by omega
              subst hqn
              have hst : own wr (devAt bd (newDev q) :: pts bm (.cells (mayArr q vs) 118 (0, 0)) :: (rowsO q vs (newDev q).may ++ [exactly w])) := by
                rw [rowsO_congr vs (hs' := fun _ => [sect0]) fun k hk => newDev_may hk]
                exact hown
              have okn := newDev_ok (n := q) (by omega)
              clear hown hlt hq
              go_wp2_with fail
              obtain ⟨wo, rfl⟩ : ∃ wo : World, wo = wr := ⟨_, rfl⟩
              go_loopw [11] (tAct q bd bm l.length w) (fun i _ => l.length - (intOf i).toNat)
              case atStart => exact ⟨0, newDev q, vs, by omega, rfl, okn, by simp [newDev], rfl, by simp [newDev], by simp [newDev], hxr, hst⟩
              case round =>
                clear hst okn hxr
                rename_i _
                obtain ⟨n, hnq⟩ : ∃ n, n = q := ⟨q, rfl⟩
                subst hnq
                obtain ⟨q, m, vs, hq, rfl, okm, hfl, hfa, hpq, hwq, hxr, hown⟩ := hrel
                by_cases hlt : q < l.length
                · obtain rfl := HAO.out (by omega)
                  obtain ⟨c0, c1, c2, c3, c4, c5, c6⟩ := (HAT.out q hlt).later (2 + n) hown (rowsO_end (A := [_, _]) vs m.may rfl)
                  have ok := HV.out.2 _ (all_getD hlt)
                  have hSz := ok.S
                  obtain ⟨A1, A2⟩ := ok.A
                  obtain ⟨ko, kc, hkv, hkl2⟩ := keep_len ok.keep
                  rw [hkv] at c6
                  clear hkv ok
                  generalize l.getD q actNone = x at *
                  go_upto_region 15 with (fail)
                  have ha := own_alloc hown (.cells #[.string x.kind, .int .i64 x.A, .int .i64 x.B, .int .i64 x.C, .int .i64 x.D, .string x.S, .slice ko x.keep.length kc] 36)
                  have hxa := hxr.alloc (.cells #[.string x.kind, .int .i64 x.A, .int .i64 x.B, .int .i64 x.C, .int .i64 x.D, .string x.S, .slice ko x.keep.length kc] 36)
                  clear c0 c1 c2 c3 c4 c5 c6 hown hxr
                  generalize wr.heap.size = ba at *
                  generalize wr.alloc (.cells #[.string x.kind, .int .i64 x.A, .int .i64 x.B, .int .i64 x.C, .int .i64 x.D, .string x.S, .slice ko x.keep.length kc] 36) = wa at *
                  have h1 := own_pick 1 ha rfl
                  clear ha
                  replace h1 : own wa (devAt bd m :: pts ba (.cells #[.string x.kind, .int .i64 x.A, .int .i64 x.B, .int .i64 x.C, .int .i64 x.D, .string x.S, .slice ko x.keep.length kc] 36 (0, 0)) :: pts bm (.cells (mayArr n vs) 118 (0, 0)) :: (rowsO n vs m.may ++ [exactly w])) := h1
                  obtain ⟨c, f⟩ := own_cells 1 h1 rfl
                  by_cases hw : (x.kind.toList == [119, 114, 105, 116, 101]) = true
                  · go_wp2_with fail
                    refine (dev_write bd m okm x.A x.S hSz (by omega) (by omega) _ wa h1).mono ?_
                    rintro e w4 ⟨rfl, hx4, h4⟩
                    replace hx4 := hxa.trans hx4
                    clear c f h1 hxa
                    cases hb : m.bad x.A x.S
                    · obtain ⟨W0, W1, W2, W3, W4⟩ := write_ok_code (S := x.S) hfa hb
                      have ok' := DevM.write_ok okm x.A x.S (by omega) (by omega)
                      have hmay := may_write (S := x.S) hfa hb
                      have hrange : 0 ≤ x.A ∧ x.A < (n : Int) := by
                        simp only [DevM.bad, Bool.or_eq_false_iff, decide_eq_false_iff_not] at hb
                        omega
                      have hw1 := okm.writes
                      rw [W0, errV_0]
                      have HMAY := Lib.hid hmay
                      clear hmay W0 hb
                      generalize (m.write x.A x.S).2 = m' at *
                      obtain ⟨k, hka⟩ := Int.eq_ofNat_of_zero_le hrange.1
                      have hkn : k < n := by omega
                      have hk0 : (0 : Int) ≤ x.A := hrange.1
                      clear hrange
                      have hpos := may_pos m k
                      have hmlen := may_len m k
                      have hatk := rowsO_at (A := [devAt bd m', pts ba (.cells #[.string x.kind, .int .i64 x.A, .int .i64 x.B, .int .i64 x.C, .int .i64 x.D, .string x.S, .slice ko x.keep.length kc] 36 (0, 0)), pts bm (.cells (mayArr n vs) 118 (0, 0))]) (R := [exactly w]) vs m.may hkn
                      obtain ⟨ao9, g9, o9, cp9, hv9, p1, p2, p3, -, -⟩ := own_rowo_form (3 + k) h4 hatk
                      obtain rfl := p3 hpos
                      go_upto_region 17 with (fail)
                      obtain ⟨c4, f4⟩ := own_cells 1 h4 rfl
                      obtain ⟨c5, f5⟩ := own_cells 2 h4 rfl
                      have s1 : w4.cell? ⟨ba, 1, none⟩ = some (.int .i64 (k : Int)) := by rw [c4, ← hka]; rfl
                      have HKA := Lib.hid hka
                      clear hka
                      have s2 : w4.cell? ⟨bm, k, none⟩ = some (.slice (some ⟨g9, o9, none⟩) (m.may k).length cp9) := by rw [c5, mayArr_get vs (by omega) hkn, hv9]
                      have s3 : w4.cell? ⟨ba, 5, none⟩ = some (.string x.S) := c4 5
                      have i1 : (0 : Int) ≤ (k : Int) := by omega
                      have i2 : (k : Int) < 20 := by omega
                      clear c4 f4 c5 f5 p3
                      have S2 := Lib.hid s2
                      have H5 := Lib.hid (own_drew (own_alloc h4 (.cells #[.string x.S] 9)))
                      have HX5 := Lib.hid (hx4.alloc (.cells #[.string x.S] 9)).drew
                      have hatk5 := rowsO_at (A := [pts w4.heap.size (.cells #[.string x.S] 9 (0, 0)), devAt bd m', pts ba (.cells #[.string x.kind, .int .i64 x.A, .int .i64 x.B, .int .i64 x.C, .int .i64 x.D, .string x.S, .slice ko x.keep.length kc] 36 (0, 0)), pts bm (.cells (mayArr n vs) 118 (0, 0))]) (R := [exactly w]) vs m.may hkn
                      rw [hv9] at hatk5
                      have HATK := Lib.hid hatk5
                      have HV9 := Lib.hid hv9
                      have hml : (m.may k).length + 1 ≤ maxLen := by simp only [maxLen]; omega
                      clear hatk5 hv9 hatk h4 hx4
                      clear s2
                      refine wp_region_held_drew (S := fun w' => w'.cell? ⟨ba, 1, none⟩ = some (.int .i64 (k : Int)) ∧ w'.cell? ⟨ba, 5, none⟩ = some (.string x.S)) (by kernel_rfl) ⟨s1, s3⟩ (fun hHeld => ?_)
                      refine wpAnyH_take (i := 0) (v := ?_) rfl (by kernel_rfl) (by kernel_rfl) (by kernel_rfl) (fun _ _ _ h => h) (Or.inl ⟨by rfl, ?_⟩) (by assumption) ?_
                      rotate_left
                      · intro w hSw
                        go_simp
                        try with_reducible rfl
                      try simp only [Act.put, List.setIfInBounds_toArray, List.set_cons_zero, List.set_cons_succ]
                      refine wpAnyH_take (i := 1) (v := ?_) rfl (by kernel_rfl) (by kernel_rfl) (by kernel_rfl) (fun _ _ _ h => h) (Or.inl ⟨by rfl, ?_⟩) (by assumption) ?_
                      rotate_left
                      · intro w hSw
                        go_simp
                        try with_reducible rfl
                      try simp only [Act.put, List.setIfInBounds_toArray, List.set_cons_zero, List.set_cons_succ]
                      refine wpAnyH_take (i := 2) (v := ?_) rfl (by kernel_rfl) (by kernel_rfl) (by kernel_rfl) (fun _ _ _ h => h) (Or.inl ⟨by rfl, ?_⟩) (by assumption) ?_
                      rotate_left
                      · intro w hSw
                        go_simp
                        try with_reducible rfl
                      try simp only [Act.put, List.setIfInBounds_toArray, List.set_cons_zero, List.set_cons_succ]
                      refine wpAnyH_take (i := 3) (v := ?_) rfl (by kernel_rfl) (by kernel_rfl) (by kernel_rfl) (fun _ _ _ h => h) (Or.inl ⟨by rfl, ?_⟩) (by assumption) ?_
                      rotate_left
                      · intro w hSw
                        go_simp
                        try with_reducible rfl
                      try simp only [Act.put, List.setIfInBounds_toArray, List.set_cons_zero, List.set_cons_succ]
                      refine wpAnyH_take (i := 4) (v := ?_) rfl (by kernel_rfl) (by kernel_rfl) (by kernel_rfl) (fun _ _ _ h => h) (Or.inl ⟨by rfl, ?_⟩) (by assumption) ?_
                      rotate_left
                      · intro w hSw
                        go_simp
                        try with_reducible rfl
                      try simp only [Act.put, List.setIfInBounds_toArray, List.set_cons_zero, List.set_cons_succ]
                      refine wpAnyH_take (i := 6) (v := ?_) rfl (by kernel_rfl) (by kernel_rfl) (by kernel_rfl) (fun _ _ _ h => h) (Or.inl ⟨by rfl, ?_⟩) (by assumption) ?_
                      rotate_left
                      · intro w hSw
                        go_simp
                        try with_reducible rfl
                      try simp only [Act.put, List.setIfInBounds_toArray, List.set_cons_zero, List.set_cons_succ]
                      refine wpAnyH_take (i := 7) (v := ?_) rfl (by kernel_rfl) (by kernel_rfl) (by kernel_rfl) (fun _ _ _ h => h) (Or.inl ⟨by rfl, ?_⟩) (by assumption) ?_
                      rotate_left
                      · intro w hSw
                        go_simp
                        try with_reducible rfl
                      try simp only [Act.put, List.setIfInBounds_toArray, List.set_cons_zero, List.set_cons_succ]
                      refine wpAnyH_ready (rs := [5, 8]) (by kernel_rfl) (by simp) ?_
                      refine AllReadyH.cons rfl (fun K hK => ?_) (AllReadyH.cons rfl (fun K hK => ?_) AllReadyH.nil)
                      · have s2 := S2.out
                        go_simp
                        refine hK.out _ _ ⟨s1, s3⟩ (fun _ => ?_)
                        clear hK K s2
                        try simp only [Act.put, List.setIfInBounds_toArray, List.set_cons_zero, List.set_cons_succ]
                        refine wpAnyH_ready (rs := [8]) (by kernel_rfl) (by simp) ?_
                        refine AllReadyH.cons rfl (fun K hK => ?_) AllReadyH.nil
                        go_simp
                        refine hK.out _ _ ⟨by rw [(own_cells 2 H5.out rfl).1, ← HKA.out]; rfl, (own_cells 2 H5.out rfl).1 5⟩ (fun _ => ?_)
                        clear hK K
                        try simp only [Act.put, List.setIfInBounds_toArray, List.set_cons_zero, List.set_cons_succ]
                        refine wpAnyH_ready (rs := [9]) (by kernel_rfl) (by simp) ?_
                        refine AllReadyH.cons rfl (fun K hK => ?_) AllReadyH.nil
                        have h5 := H5.out
                        refine step_append_rowo (by rfl) _ _ 42 (by rfl) (4 + k) 9 Try.underlying42 elem_string rfl (by decide) (by rfl) h5 HATK.out ⟨w4.heap.size, 0, none⟩ 1 1 [.string x.S] (by rfl) rfl (fun j u hu => (alloc_news w4 [.string x.S] 9) _ rfl j u hu) (one_str _) hml (by omega) ?_
                        intro g6 o6 cp6 w6 z1 z2 h6 hx6
                        replace hx6 := HX5.out.trans hx6
                        replace h6 : own w6 (pts w4.heap.size (.cells #[.string x.S] 9 (0, 0)) :: devAt bd m' :: pts ba (.cells #[.string x.kind, .int .i64 x.A, .int .i64 x.B, .int .i64 x.C, .int .i64 x.D, .string x.S, .slice ko x.keep.length kc] 36 (0, 0)) :: pts bm (.cells (mayArr n vs) 118 (0, 0)) :: (rowsO n (upd vs k (.slice (some ⟨g6, o6, none⟩) ((m.may k).length + 1) cp6)) (upd m.may k (m.may k ++ [x.S])) ++ [exactly w])) := by
                          have e := rowsO_put (A := [pts w4.heap.size (.cells #[.string x.S] 9 (0, 0)), devAt bd m', pts ba (.cells #[.string x.kind, .int .i64 x.A, .int .i64 x.B, .int .i64 x.C, .int .i64 x.D, .string x.S, .slice ko x.keep.length kc] 36 (0, 0)), pts bm (.cells (mayArr n vs) 118 (0, 0))]) (R := [exactly w]) vs m.may (.slice (some ⟨g6, o6, none⟩) ((m.may k).length + 1) cp6) (m.may k ++ [x.S]) hkn
                          rw [show (m.may k ++ [x.S]).length = (m.may k).length + 1 by simp, show strCells (m.may k ++ [x.S]) = strCells (m.may k) ++ [.string x.S] by simp [strCells]] at e
                          exact (congrArg (own w6) e).mp h6
                        refine hK.out _ _ ⟨by rw [(own_cells 2 h6 rfl).1, ← HKA.out]; rfl, (own_cells 2 h6 rfl).1 5⟩ (fun _ => ?_)
                        clear hK K h5
                        try simp only [Act.put, List.setIfInBounds_toArray, List.set_cons_zero, List.set_cons_succ]
                        refine wpAnyH_take (i := 10) (v := ?_) rfl (by kernel_rfl) (by kernel_rfl) (by kernel_rfl) (fun _ _ _ h => h) (Or.inl ⟨by rfl, ?_⟩) (by assumption) ?_
                        rotate_left
                        · intro w hSw
                          go_simp
                          try with_reducible rfl
                        try simp only [Act.put, List.setIfInBounds_toArray, List.set_cons_zero, List.set_cons_succ]
                        refine wpAnyH_ready (rs := [11]) (by kernel_rfl) (by simp) ?_
                        refine AllReadyH.cons rfl (fun K hK => ?_) AllReadyH.nil
                        obtain ⟨c5, f5⟩ := own_cells 3 h6 rfl
                        have s4 : w6.cell? ⟨bm, k, none⟩ = some (.slice (some ⟨g9, o9, none⟩) (m.may k).length cp9) := by rw [c5, mayArr_get vs (by omega) hkn, HV9.out]
                        clear c5
                        have h7 := own_set (i := k) (v := .slice (some ⟨g6, o6, none⟩) ((m.may k).length + 1) cp6) 3 h6 rfl
                        have hx7 := hx6.setCell ⟨bm, k, none⟩ (.slice (some ⟨g6, o6, none⟩) ((m.may k).length + 1) cp6)
                        replace h7 : own (w6.setCell ⟨bm, k, none⟩ (.slice (some ⟨g6, o6, none⟩) ((m.may k).length + 1) cp6)) (pts w4.heap.size (.cells #[.string x.S] 9 (0, 0)) :: devAt bd m' :: pts ba (.cells #[.string x.kind, .int .i64 x.A, .int .i64 x.B, .int .i64 x.C, .int .i64 x.D, .string x.S, .slice ko x.keep.length kc] 36 (0, 0)) :: pts bm (.cells (mayArr n (upd vs k (.slice (some ⟨g6, o6, none⟩) ((m.may k).length + 1) cp6))) 118 (0, 0)) :: (rowsO n (upd vs k (.slice (some ⟨g6, o6, none⟩) ((m.may k).length + 1) cp6)) (upd m.may k (m.may k ++ [x.S])) ++ [exactly w])) := by
                          rw [← mayArr_set _ _ hkn]
                          exact h7
                        go_simp
                        refine hK.out _ _ ⟨by rw [(own_cells 2 h7 rfl).1, ← HKA.out]; rfl, (own_cells 2 h7 rfl).1 5⟩ (fun _ => ?_)
                        clear hK K s4 f5
                        try simp only [Act.put, List.setIfInBounds_toArray, List.set_cons_zero, List.set_cons_succ]
                        refine wpAnyH_done (by kernel_rfl) ?_ _
                        generalize w6.setCell ⟨bm, k, none⟩ (.slice (some ⟨g6, o6, none⟩) ((m.may k).length + 1) cp6) = w7 at *
                        go_wp2_with fail
                        go_roundw
                        case rel =>
                          refine ⟨q + 1, m', upd vs k (.slice (some ⟨g6, o6, none⟩) ((m.may k).length + 1) cp6), by omega, by go_num, ok', by rw [W2]; exact hfl, W1, by omega, by omega, ?_, ?_⟩
                          · first | exact hx7 | exact hx7.drew
                          · have h8 := own_erase 1 (own_drop h7) rfl
                            rw [rowsO_congr _ (hs' := m'.may) fun j hj => ?_] at h8
                            · first | exact h8 | exact own_drew h8
                            · rw [HMAY.out j]
                              by_cases e : j = k
                              · subst e; rw [upd_same, if_pos HKA.out]
                              · rw [upd_other _ _ e, if_neg (by have := HKA.out; omega)]
                        case measure => simp [intOf]; omega
                      · go_simp
                        refine hK.out _ _ ⟨by rw [(own_cells 2 H5.out rfl).1, ← HKA.out]; rfl, (own_cells 2 H5.out rfl).1 5⟩ (fun _ => ?_)
                        clear hK K
                        try simp only [Act.put, List.setIfInBounds_toArray, List.set_cons_zero, List.set_cons_succ]
                        refine wpAnyH_ready (rs := [5]) (by kernel_rfl) (by simp) ?_
                        refine AllReadyH.cons rfl (fun K hK => ?_) AllReadyH.nil
                        have s2 : (w4.alloc (.cells #[.string x.S] 9)).drew.cell? ⟨bm, k, none⟩ = some (.slice (some ⟨g9, o9, none⟩) (m.may k).length cp9) := by rw [(own_cells 3 H5.out rfl).1, mayArr_get vs (by omega) hkn, HV9.out]
                        go_simp
                        refine hK.out _ _ ⟨by rw [(own_cells 2 H5.out rfl).1, ← HKA.out]; rfl, (own_cells 2 H5.out rfl).1 5⟩ (fun _ => ?_)
                        clear hK K s2
                        try simp only [Act.put, List.setIfInBounds_toArray, List.set_cons_zero, List.set_cons_succ]
                        refine wpAnyH_ready (rs := [9]) (by kernel_rfl) (by simp) ?_
                        refine AllReadyH.cons rfl (fun K hK => ?_) AllReadyH.nil
                        have h5 := H5.out
                        refine step_append_rowo (by rfl) _ _ 42 (by rfl) (4 + k) 9 Try.underlying42 elem_string rfl (by decide) (by rfl) h5 HATK.out ⟨w4.heap.size, 0, none⟩ 1 1 [.string x.S] (by rfl) rfl (fun j u hu => (alloc_news w4 [.string x.S] 9) _ rfl j u hu) (one_str _) hml (by omega) ?_
                        intro g6 o6 cp6 w6 z1 z2 h6 hx6
                        replace hx6 := HX5.out.trans hx6
                        replace h6 : own w6 (pts w4.heap.size (.cells #[.string x.S] 9 (0, 0)) :: devAt bd m' :: pts ba (.cells #[.string x.kind, .int .i64 x.A, .int .i64 x.B, .int .i64 x.C, .int .i64 x.D, .string x.S, .slice ko x.keep.length kc] 36 (0, 0)) :: pts bm (.cells (mayArr n vs) 118 (0, 0)) :: (rowsO n (upd vs k (.slice (some ⟨g6, o6, none⟩) ((m.may k).length + 1) cp6)) (upd m.may k (m.may k ++ [x.S])) ++ [exactly w])) := by
                          have e := rowsO_put (A := [pts w4.heap.size (.cells #[.string x.S] 9 (0, 0)), devAt bd m', pts ba (.cells #[.string x.kind, .int .i64 x.A, .int .i64 x.B, .int .i64 x.C, .int .i64 x.D, .string x.S, .slice ko x.keep.length kc] 36 (0, 0)), pts bm (.cells (mayArr n vs) 118 (0, 0))]) (R := [exactly w]) vs m.may (.slice (some ⟨g6, o6, none⟩) ((m.may k).length + 1) cp6) (m.may k ++ [x.S]) hkn
                          rw [show (m.may k ++ [x.S]).length = (m.may k).length + 1 by simp, show strCells (m.may k ++ [x.S]) = strCells (m.may k) ++ [.string x.S] by simp [strCells]] at e
                          exact (congrArg (own w6) e).mp h6
                        refine hK.out _ _ ⟨by rw [(own_cells 2 h6 rfl).1, ← HKA.out]; rfl, (own_cells 2 h6 rfl).1 5⟩ (fun _ => ?_)
                        clear hK K h5
                        try simp only [Act.put, List.setIfInBounds_toArray, List.set_cons_zero, List.set_cons_succ]
                        refine wpAnyH_take (i := 10) (v := ?_) rfl (by kernel_rfl) (by kernel_rfl) (by kernel_rfl) (fun _ _ _ h => h) (Or.inl ⟨by rfl, ?_⟩) (by assumption) ?_
                        rotate_left
                        · intro w hSw
                          go_simp
                          try with_reducible rfl
                        try simp only [Act.put, List.setIfInBounds_toArray, List.set_cons_zero, List.set_cons_succ]
                        refine wpAnyH_ready (rs := [11]) (by kernel_rfl) (by simp) ?_
                        refine AllReadyH.cons rfl (fun K hK => ?_) AllReadyH.nil
                        obtain ⟨c5, f5⟩ := own_cells 3 h6 rfl
                        have s4 : w6.cell? ⟨bm, k, none⟩ = some (.slice (some ⟨g9, o9, none⟩) (m.may k).length cp9) := by rw [c5, mayArr_get vs (by omega) hkn, HV9.out]
                        clear c5
                        have h7 := own_set (i := k) (v := .slice (some ⟨g6, o6, none⟩) ((m.may k).length + 1) cp6) 3 h6 rfl
                        have hx7 := hx6.setCell ⟨bm, k, none⟩ (.slice (some ⟨g6, o6, none⟩) ((m.may k).length + 1) cp6)
                        replace h7 : own (w6.setCell ⟨bm, k, none⟩ (.slice (some ⟨g6, o6, none⟩) ((m.may k).length + 1) cp6)) (pts w4.heap.size (.cells #[.string x.S] 9 (0, 0)) :: devAt bd m' :: pts ba (.cells #[.string x.kind, .int .i64 x.A, .int .i64 x.B, .int .i64 x.C, .int .i64 x.D, .string x.S, .slice ko x.keep.length kc] 36 (0, 0)) :: pts bm (.cells (mayArr n (upd vs k (.slice (some ⟨g6, o6, none⟩) ((m.may k).length + 1) cp6))) 118 (0, 0)) :: (rowsO n (upd vs k (.slice (some ⟨g6, o6, none⟩) ((m.may k).length + 1) cp6)) (upd m.may k (m.may k ++ [x.S])) ++ [exactly w])) := by
                          rw [← mayArr_set _ _ hkn]
                          exact h7
                        go_simp
                        refine hK.out _ _ ⟨by rw [(own_cells 2 h7 rfl).1, ← HKA.out]; rfl, (own_cells 2 h7 rfl).1 5⟩ (fun _ => ?_)
                        clear hK K s4 f5
                        try simp only [Act.put, List.setIfInBounds_toArray, List.set_cons_zero, List.set_cons_succ]
                        refine wpAnyH_done (by kernel_rfl) ?_ _
                        generalize w6.setCell ⟨bm, k, none⟩ (.slice (some ⟨g6, o6, none⟩) ((m.may k).length + 1) cp6) = w7 at *
                        go_wp2_with fail
                        go_roundw
                        case rel =>
                          refine ⟨q + 1, m', upd vs k (.slice (some ⟨g6, o6, none⟩) ((m.may k).length + 1) cp6), by omega, by go_num, ok', by rw [W2]; exact hfl, W1, by omega, by omega, ?_, ?_⟩
                          · first | exact hx7 | exact hx7.drew
                          · have h8 := own_erase 1 (own_drop h7) rfl
                            rw [rowsO_congr _ (hs' := m'.may) fun j hj => ?_] at h8
                            · first | exact h8 | exact own_drew h8
                            · rw [HMAY.out j]
                              by_cases e : j = k
                              · subst e; rw [upd_same, if_pos HKA.out]
                              · rw [upd_other _ _ e, if_neg (by have := HKA.out; omega)]
                        case measure => simp [intOf]; omega
                    · rw [write_bad_code hb] at h4 ⊢
                      rw [show errV 1 = .iface 121 (.int .i64 1) from rfl]
                      go_wp2_with fail
                      go_roundw
                      case rel => exact ⟨q + 1, m, vs, by omega, by go_num, okm, hfl, hfa, by omega, by omega, hx4, own_erase 1 h4 rfl⟩
                      case measure => simp [intOf]; omega
                  · have hwf : (x.kind.toList == [119, 114, 105, 116, 101]) = false := by simpa using hw
                    clear hw
                    go_wp2_with fail
                    refine (dev_flush bd m okm _ wa h1).mono ?_
                    rintro e w4 ⟨rfl, hx4, h4⟩
                    replace hx4 := hxa.trans hx4
                    clear c f h1 hxa
                    go_wp2_with fail
                    go_loopw [13] (tFl n bd bm (pts ba (.cells #[.string x.kind, .int .i64 x.A, .int .i64 x.B, .int .i64 x.C, .int .i64 x.D, .string x.S, .slice ko x.keep.length kc] 36 (0, 0))) m w) (fun i _ => n - (intOf i).toNat)
                    case atStart => exact ⟨0, vs, m.may, by omega, rfl, fun j h => absurd h (by omega), fun j _ _ => rfl, hx4, h4⟩
                    case round =>
                      clear hx4 h4
                      obtain ⟨k, vs', hs, hk, rfl, hlo, hhi, hxr, hown⟩ := hrel
                      have HLO := Lib.hid hlo
                      have HHI := Lib.hid hhi
                      clear hlo hhi
                      by_cases hkn : k < n
                      · have hsk : hs k = m.may k := HHI.out k (Nat.le_refl _) hkn
                        have hpos : 0 < (hs k).length := by rw [hsk]; exact may_pos m k
                        have hmlen : (hs k).length ≤ m.pend.length + 1 := by rw [hsk]; exact may_len m k
                        have hlc := last_cells hpos
                        have hnew : [(hs k).getLastD ByteArray.empty] = m.flush.may k := by rw [hsk, may_flush okm (by omega)]
                        have hatk := rowsO_at (A := [devAt bd m.flush, pts ba (.cells #[.string x.kind, .int .i64 x.A, .int .i64 x.B, .int .i64 x.C, .int .i64 x.D, .string x.S, .slice ko x.keep.length kc] 36 (0, 0)), pts bm (.cells (mayArr n vs') 118 (0, 0))]) (R := [exactly w]) vs' hs hkn
                        obtain ⟨ao9, g9, o9, cp9, hv9, p1, p2, p3, -, -⟩ := own_rowo_form (3 + k) hown hatk
                        obtain rfl := p3 hpos
                        rw [hv9] at hatk
                        have hcut := own_rowo_cut (3 + k) hown hatk ((hs k).length - 1) (by omega)
                        rw [hlc, hnew, show (hs k).length - ((hs k).length - 1) = 1 by omega, Nat.mul_one] at hcut
                        have s2 : wr.cell? ⟨bm, k, none⟩ = some (.slice (some ⟨g9, o9, none⟩) (hs k).length cp9) := by rw [(own_cells 2 hown rfl).1, mayArr_get vs' (by omega) hkn, hv9]
                        have e := rowsO_put (A := [devAt bd m.flush, pts ba (.cells #[.string x.kind, .int .i64 x.A, .int .i64 x.B, .int .i64 x.C, .int .i64 x.D, .string x.S, .slice ko x.keep.length kc] 36 (0, 0)), pts bm (.cells (mayArr n vs') 118 (0, 0))]) (R := [exactly w]) vs' hs (.slice (some ⟨g9, o9 + ((hs k).length - 1), none⟩) 1 (cp9 - ((hs k).length - 1))) (m.flush.may k) hkn
                        rw [show (m.flush.may k).length = 1 by rw [← hnew]; rfl] at e
                        have hcut2 := (congrArg (own wr) e).mp hcut
                        have hff := (own_cells 2 hown rfl).2
                        have hsl := fun wx => run_cut g9 o9 (hs k).length cp9 (by omega) p1 wx
                        have i1 : (0 : Int) ≤ (k : Int) := by omega
                        have i2 : (k : Int) < 20 := by omega
                        have HC2 := Lib.hid hcut2
                        clear e hcut hatk hv9 hlc hsk hnew hcut2 p3 hown
                        generalize (hs k).length = L at *
                        go_wp2_with fail
                        go_roundw
                        case rel =>
                          have h8 := own_set (i := k) (v := .slice (some ⟨g9, o9 + (L - 1), none⟩) 1 (cp9 - (L - 1))) 2 HC2.out rfl
                          refine ⟨k + 1, upd vs' k (.slice (some ⟨g9, o9 + (L - 1), none⟩) 1 (cp9 - (L - 1))), upd hs k (m.flush.may k), by omega, by go_num, fun j hj => ?_, fun j h1 h2 => ?_, hxr.setCell _ _, ?_⟩
                          · by_cases ej : j = k
                            · subst ej; rw [upd_same]
                            · rw [upd_other _ _ ej]; exact HLO.out j (by omega)
                          · rw [upd_other _ _ (by omega)]; exact HHI.out j (by omega) h2
                          · rw [← mayArr_set _ _ hkn]
                            exact h8
                        case measure => simp [intOf]; omega
                      · have hkn' : k = n := by omega
                        subst hkn'
                        go_wp2_with fail
                        go_roundw
                        case rel =>
                          refine ⟨q + 1, m.flush, vs', by omega, by go_num, DevM.flush_ok okm, by simp only [DevM.flush, foldl_setAt_length]; exact hfl, hfa, by simp [DevM.flush], by simp only [DevM.flush]; omega, hxr, ?_⟩
                          have h8 := own_erase 1 hown rfl
                          rw [← rowsO_congr vs' (fun j hj => HLO.out j hj)]
                          exact h8
                        case measure => simp [intOf]; omega
                · have hq' : q = l.length := by omega
                  clear hlt
                  have hR : ([pts bm (.cells (mayArr n vs) 118 (0, 0))] ++ (rowsO n vs m.may ++ [exactly w]))[1 + n]? = some (exactly w) := rowsO_end (A := [pts bm (.cells (mayArr n vs) 118 (0, 0))]) vs m.may rfl
                  have HR := Lib.hid hR
                  clear hR
                  go_wp2_with fail
                  refine (dev_crash bd m okm _ ks _ wr (fun w' L H => HKS.out.later (L.length + (1 + n)) H (at_behind' HR.out)) hown).mono ?_
                  rintro e w4 ⟨bc, rfl, hx4, h4⟩
                  replace hx4 := hxr.trans hx4
                  clear hown hxr
                  have okc := DevM.crash_ok okm ks
                  have okn := DevM.crash_ok okm []
                  have hcl : (m.crash ks).fl.length = n := by simp only [DevM.crash, foldl_setAt_length]; exact hfl
                  have h4' := own_pick 1 h4 rfl
                  go_wp2_with fail
                  refine (dev_crash bd m okm (.slice none 0 0) [] _ w4 (fun _ _ _ => ⟨none, 0, 0, 0, rfl, Nat.le_refl _, by decide, fun h => absurd h (by simp), fun i h => absurd h (by simp)⟩) h4').mono ?_
                  rintro e w5 ⟨bn, rfl, hx5, h5⟩
                  replace hx5 := hx4.trans hx5
                  clear h4 h4' hx4
                  go_wp2_with fail
                  refine (dev_bytes bn (m.crash []) okn _ w5 h5).mono ?_
                  rintro e w6 ⟨rfl, hx6, h6⟩
                  replace hx6 := hx5.trans hx6
                  clear h5 hx5
                  rw [crash_none]
                  have h7 := own_drop h6
                  clear h6
                  go_wp2_with fail
                  refine (dev_bytes bd m okm _ w6 h7).mono ?_
                  rintro e w7 ⟨rfl, hx7, h7'⟩
                  replace hx7 := hx6.trans hx7
                  clear h7 hx6
                  replace h7' : own w7 (devAt bd m :: devAt bc (m.crash ks) :: pts bm (.cells (mayArr n vs) 118 (0, 0)) :: (rowsO n vs m.may ++ [exactly w])) := h7'
                  go_wp2_with fail
                  obtain ⟨wo2, rfl⟩ : ∃ wo2 : World, wo2 = wr := ⟨_, rfl⟩
                  go_loopw [17] (tEnd n (devAt bd m :: devAt bc (m.crash ks) :: pts bm (.cells (mayArr n vs) 118 (0, 0)) :: (rowsO n vs m.may ++ [exactly w])) w) (fun i _ => n - (intOf i).toNat)
                  case atStart => exact ⟨0, by omega, rfl, hx7, h7'⟩
                  case round =>
                    clear hx7 h7'
                    obtain ⟨k, hk, rfl, hxr, hown⟩ := hrel
                    by_cases hkn : k < n
                    · have h1 := own_pick 1 hown rfl
                      go_wp2_with fail
                      refine (dev_read bc (m.crash ks) okc k _ wr h1).mono ?_
                      rintro e w' ⟨rfl, rfl⟩
                      rw [hcl, if_neg (by omega)]
                      go_wp2_with fail
                      refine (dev_read bd m okm k _ wr hown).mono ?_
                      rintro e w' ⟨rfl, rfl⟩
                      rw [hfl, if_neg (by omega)]
                      have hmem := crash_seen okm ks (k := k) (by omega)
                      have hpos := may_pos m k
                      have hmlen := may_len m k
                      have hlast := may_last m k
                      rw [getLastD_getD hpos] at hlast
                      have hatk := rowsO_at (A := [devAt bd m, devAt bc (m.crash ks), pts bm (.cells (mayArr n vs) 118 (0, 0))]) (R := [exactly w]) vs m.may hkn
                      obtain ⟨ao9, g9, o9, cp9, hv9, p1, p2, p3, p4, -⟩ := own_rowo_form (3 + k) hown hatk
                      obtain rfl := p3 hpos
                      have s2 : wr.cell? ⟨bm, k, none⟩ = some (.slice (some ⟨g9, o9, none⟩) (m.may k).length cp9) := by rw [(own_cells 2 hown rfl).1, mayArr_get vs (by omega) hkn, hv9]
                      have i1 : (0 : Int) ≤ (k : Int) := by omega
                      have i2 : (k : Int) < 20 := by omega
                      have P4 := Lib.hid (fun (j : Nat) (hj : j < (m.may k).length) => p4 j _ (strCells_get hj))
                      have HM := Lib.hid hmem
                      have HLA := Lib.hid hlast
                      have HOWN := Lib.hid hown
                      clear p4 p3 hatk hv9 hmem hlast h1 hown
                      generalize hS : (m.crash ks).seen (k : Int) = S at *
                      generalize hX : m.seen (k : Int) = X at *
                      generalize m.may k = M at *
                      clear hS hX
                      go_wp2_with fail
                      go_loop [22, 23] (tFound S M) (fun _ k => M.length - (intOf k).toNat)
                      case atStart => exact ⟨0, by omega, rfl, rfl⟩
                      case round =>
                        obtain ⟨j, hj, rfl, rfl⟩ := hrel
                        by_cases hjl : j < M.length
                        · have cj := P4.out j hjl
                          have hto := take_succ_getD ByteArray.empty hjl
                          have HT := Lib.hid hto
                          clear hto
                          generalize M.getD j ByteArray.empty = y at *
                          cases hin : foundB S (M.take j)
                          · have HIN := Lib.hid hin
                            clear hin
                            by_cases hy : y = S
                            · subst hy
                              go_wp2_with fail
                              go_round
                              case rel => exact ⟨j + 1, by omega, by go_num, by rw [HT.out]; simp [foundB]⟩
                              case measure => simp [intOf]; omega
                            · have hyl : (y.toList == S.toList) = false := by simpa using fun h => hy (toList_inj h)
                              have hfb : foundB S (M.take j ++ [y]) = false := by
                                have := HIN.out
                                unfold foundB at this ⊢
                                rw [List.any_append, this]
                                simp [hyl]
                              have HFB := Lib.hid hfb
                              clear hy hfb
                              go_wp2_with fail
                              go_round
                              case rel => exact ⟨j + 1, by omega, by go_num, by rw [HT.out, HFB.out]⟩
                              case measure => simp [intOf]; omega
                          · have hfb : foundB S (M.take j ++ [y]) = true := by
                              unfold foundB at hin ⊢
                              rw [List.any_append, hin]
                              simp
                            have HFB := Lib.hid hfb
                            clear hin hfb
                            go_wp2_with fail
                            go_round
                            case rel => exact ⟨j + 1, by omega, by go_num, by rw [HT.out, HFB.out]⟩
                            case measure => simp [intOf]; omega
                        · have hje : j = M.length := by omega
                          subst hje
                          rw [List.take_length, foundB_mem HM.out]
                          have hle := P4.out (M.length - 1) (by omega)
                          rw [HLA.out] at hle
                          have tn : ((M.length : Int) - 1).toNat = M.length - 1 := by omega
                          have i3 : (0 : Int) ≤ (M.length : Int) - 1 := by omega
                          go_wp2_with fail
                          all_goals trace_state
                          go_roundw
                          case rel => exact ⟨k + 1, by omega, by go_num, hxr, HOWN.out⟩
                          case measure => simp [intOf]; omega
                    · have hkn' : k = n := by omega
                      subst hkn'
                      go_wp2_with fail
                      refine (dev_flush bd m okm _ wr hown).mono ?_
                      rintro e w8 ⟨rfl, hx8, h8⟩
                      replace hx8 := hxr.trans hx8
                      clear hown hxr
                      have okf := DevM.flush_ok okm
                      go_wp2_with fail
                      refine (dev_crash bd m.flush okf _ ks _ w8 (fun w' L H => HKS.out.later (L.length + (2 + k)) H (at_behind' (rowsO_end (A := [_, _]) vs m.may rfl))) h8).mono ?_
                      rintro e w9 ⟨be, rfl, hx9, h9⟩
                      replace hx9 := hx8.trans hx9
                      clear h8 hx8
                      go_wp2_with fail
                      refine (dev_bytes be _ (DevM.crash_ok okf ks) _ w9 h9).mono ?_
                      rintro e w10 ⟨rfl, hx10, h10⟩
                      replace hx10 := hx9.trans hx10
                      clear h9 hx9
                      rw [crash_flushed]
                      have h11 := own_drop h10
                      go_wp2_with fail
                      refine (dev_bytes bd m.flush okf _ w10 h11).mono ?_
                      rintro e w11 ⟨rfl, hx11, h12⟩
                      go_wp2_with fail
                      go_ret
                      exact ⟨by simp, below_of (3 + k) h12 (rowsO_end (A := [_, _, _]) vs m.may rfl) (hx10.trans hx11)⟩
        · have d3 : decide (100 < (ks.length : Int)) = true := decide_eq_true (by omega)
          go_enter Try.func11, Try.ntmps11
          go_wp2_with fail
          refine (light_any _ l 60 w HV.out).mono ?_
          rintro e w1 ⟨rfl, rfl⟩
          rw [hL]
          clear hL
          go_wp2_with fail
          go_ret
          exact ⟨rfl, below_of 0 h0 rfl (Ext.refl _)⟩
      · have hL' : light l 60 = false := by simpa using hL
        clear hL
        go_enter Try.func11, Try.ntmps11
        go_wp2_with fail
        refine (light_any _ l 60 w HV.out).mono ?_
        rintro e w1 ⟨rfl, rfl⟩
        rw [hL']
        clear hL'
        go_wp2_with fail
        go_ret
        exact ⟨rfl, below_of 0 h0 rfl (Ext.refl _)⟩
end Go.Proofs.Ytbpblokfiajpjaa
