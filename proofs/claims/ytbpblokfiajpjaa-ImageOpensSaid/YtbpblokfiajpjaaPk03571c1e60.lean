/- Tables read back by the program. No conditions. -/
import Derived.Test.YtbpblokfiajpjaaPkf4969bc169
import Derived.Test.YtbpblokfiajpjaaProg
namespace Go.Proofs.Ytbpblokfiajpjaa
open Go.RowKit Go.SL Go.Crc
attribute [local go_sem ↓] Go.wp_at_zero Go.wp_at_succ

theorem elem_bool' : Elem Try.prog 4 1 1 (.bool false) := by unfold Elem; kernel_rfl
def usedCells (t : List Ent) : List Value := (List.range 40).map fun (q : Nat) => Value.bool (t.contains ((2, (q : Int)) : Ent))
theorem usedCells_len (t : List Ent) : (usedCells t).length = 40 := by simp [usedCells]
theorem usedCells_get (t : List Ent) {q : Nat} (h : q < 40) : (usedCells t)[q]? = some (.bool (t.contains ((2, (q : Int)) : Ent))) := by simp [usedCells, h]
theorem usedCells_add (t : List Ent) {q : Nat} (h : q < 40) : usedCells (t ++ [(2, (q : Int))]) = (usedCells t).set q (.bool true) := by
  apply List.ext_getElem?
  intro j
  rw [List.getElem?_set]
  by_cases hj : j < 40
  · rw [usedCells_get _ hj]
    by_cases e : q = j
    · subst e; rw [if_pos rfl, if_pos (by rw [usedCells_len]; exact h)]; simp
    · rw [if_neg e, usedCells_get _ hj, List.contains_append]
      congr 2
      have : ((2, (j : Int)) : Ent) ≠ (2, (q : Int)) := fun h => e (by have := (Prod.mk.inj h).2; omega)
      simp [List.contains_cons, this]
  · have h1 : (usedCells (t ++ [(2, (q : Int))]))[j]? = none := List.getElem?_eq_none (by rw [usedCells_len]; omega)
    have h2 : (usedCells t)[j]? = none := List.getElem?_eq_none (by rw [usedCells_len]; omega)
    rw [h1, h2]
    split
    · omega
    · rfl
theorem usedCells_other (t : List Ent) {e : Ent} (h : e.1 ≠ 2) : usedCells (t ++ [e]) = usedCells t := by
  unfold usedCells
  apply List.map_congr_left
  intro q _
  rw [List.contains_append]
  have : ((2, (q : Int)) : Ent) ≠ e := fun h' => h (by rw [← h'])
  simp [List.contains_cons, this]
theorem usedCells_nil : usedCells [] = List.replicate 40 (.bool false) := rfl
theorem bad_A {P x y : Int} {t : List Ent} (h : 2 < x) : tabBad P t (x, y) = true := by
  unfold tabBad entOk; simp [show x ≠ 2 by omega, show x ≠ 0 by omega, show x ≠ 1 by omega]
theorem bad_B {P x y : Int} {t : List Ent} (h : x < 2) (hy : 0 < y) : tabBad P t (x, y) = true := by
  unfold tabBad entOk; simp [show x ≠ 2 by omega, show y ≠ 0 by omega]
theorem bad_C {P x : Int} {t : List Ent} (h0 : 0 ≤ x) (h : x < 2) : tabBad P t (x, 0) = false := by
  unfold tabBad entOk; simp [show x ≠ 2 by omega]; omega
theorem bad_D {P y : Int} {t : List Ent} (h : P ≤ y) : tabBad P t (2, y) = true := by
  unfold tabBad entOk; simp; omega
theorem bad_E {P y : Int} {t : List Ent} (h0 : 0 ≤ y) (h : y < P) : tabBad P t (2, y) = t.contains (2, y) := by
  unfold tabBad entOk; simp [h0, h]

def ptabOut (C : Nat) (P : Int) (vu : Value) (rows : List ByteArray) (T : List Ent) (F : Int) (R : List SL.HP) (w0 : World) (vt vi : Value) (wr : World) : Prop :=
  ∃ (i : Nat) (t : List Ent), i ≤ rows.length ∧ vi = .int .i64 i ∧ t.length = min C (8 * i) ∧ tabRows C P t (rows.drop i) = (T, F) ∧ Ext w0 wr ∧ own wr (row 64 2 vt t.length (entCells t) :: row 4 1 vu 40 (usedCells t) :: R)
def ptabIn (C : Nat) (P : Int) (vu : Value) (s : ByteArray) (i : Nat) (r0 : Option (List Ent)) (R : List SL.HP) (w0 : World) (vt vk : Value) (wr : World) : Prop :=
  ∃ (k : Nat) (t : List Ent), k ≤ 8 ∧ vk = .int .i64 (2 * k : Nat) ∧ t.length = min C (8 * i + k) ∧ tabRow C P t ((sEnts s).drop k) = r0 ∧ Ext w0 wr ∧ own wr (row 64 2 vt t.length (entCells t) :: row 4 1 vu 40 (usedCells t) :: R)

set_option maxRecDepth 100000 in
set_option maxHeartbeats 4000000 in
theorem readtable_any (c p b : Int) (v : Value) (rows : List ByteArray) (T : List Ent) (F : Int) (hT : tableOf c p b rows = (T, F)) (hr : rows.length ≤ 1000) (R : List SL.HP) (w : World) (hv : ∀ w' l, own w' (l ++ R) → StrsAt w' v rows) (H : own w R) :
    Calls Try.prog 64 #[headV c p b, v] w (TabPost (errV F) T R w) := by
  obtain ⟨ao, bb, off, cap, rfl, c1, c2, c3, -⟩ := (hv w [] H).form
  have ha := own_alloc H (.cells #[.int .i64 c, .int .i64 p, .int .i64 b] 52)
  have hxa := (Ext.refl w).alloc (.cells #[.int .i64 c, .int .i64 p, .int .i64 b] 52)
  have HV := Lib.hid hv
  have HC := Lib.hid c3
  clear hv c3
  have he1 : errV 1 = .iface 121 (.int .i64 1) := rfl
  unfold headV
  by_cases hb : headBad c p b
  · have hT' : ([], 1) = (T, F) := by rw [← hT, tableOf, if_pos hb]
    obtain ⟨rfl, rfl⟩ := Prod.mk.inj hT'
    have hq := checkhead_any c p b _ _ ha
    rw [show headF c p b = 1 from if_pos hb] at hq
    have HQ := Lib.hid hq
    unfold headV at HQ
    clear hq hb hT hT'
    rw [he1] at HQ ⊢
    go_enter Try.func64, Try.ntmps64
    go_upto_region 1 with (fail)
    obtain ⟨cc, ff⟩ := own_cells 0 ha rfl
    generalize w.heap.size = g at *
    generalize w.alloc (.cells #[.int .i64 c, .int .i64 p, .int .i64 b] 52) = w1 at *
    go_wp2_with fail
    refine HQ.out.mono ?_
    rintro e w2 ⟨rfl, hx2, h2⟩
    go_wp2_with fail
    go_ret2
    exact ⟨_, rfl, hxa.trans hx2, own_row_nil _ _ (own_drop h2)⟩
  · have hq := checkhead_any c p b _ _ ha
    rw [show headF c p b = 0 from if_neg hb, errV_0] at hq
    have HQ := Lib.hid hq
    unfold headV at HQ
    have hT2 : (if rows.length ≠ rowsN c.toNat then (([], 1) : List Ent × Int) else tabRows c.toNat p [] rows) = (T, F) := by rw [← hT, tableOf, if_neg hb]
    clear hq hT
    unfold headBad at hb
    have h1 : 1 ≤ c := by omega
    obtain ⟨C, rfl⟩ := Int.eq_ofNat_of_zero_le (show 0 ≤ c by omega)
    have h2 : C ≤ 32 := by omega
    have h3 : 0 ≤ p := by omega
    have h4 : p ≤ 40 := by omega
    clear hb
    rw [Int.toNat_natCast] at hT2
    by_cases hl : rows.length = rowsN C
    · rw [if_neg (by simpa using hl)] at hT2
      have HT := Lib.hid hT2
      have tl : (rows.length != rowsN C) = false := by simp [hl]
      have HL := Lib.hid hl
      have hr4 : rows.length ≤ 4 := by rw [hl]; unfold rowsN; omega
      clear hT2 he1
      go_enter Try.func64, Try.ntmps64
      go_upto_region 1 with (fail)
      obtain ⟨cc, ff⟩ := own_cells 0 ha rfl
      generalize w.heap.size = g at *
      generalize w.alloc (.cells #[.int .i64 C, .int .i64 p, .int .i64 b] 52) = w1 at *
      go_wp2_with fail
      refine HQ.out.mono ?_
      rintro e w2 ⟨rfl, hx2, h2'⟩
      clear cc ff
      obtain ⟨cc, ff⟩ := own_cells 0 h2' rfl
      go_wp2_with fail
      refine (rows_any C (by omega) _).mono ?_
      rintro e w' ⟨rfl, rfl⟩
      rw [← HL.out]
      clear hl tl
      go_wp2_with (first | (refine wpList_make_row rfl _ _ 34 rfl 4 Try.underlying34 elem_bool' rfl .i64 .i64 40 rfl rfl (by decide) (by simp [maxLen]) h2' ?_))
      intro w3 h3' hx3
      try simp only [Nat.mul_one] at h3'
      try rw [show (Value.bool false).cells = #[.bool false] from rfl] at h3'
      rw [toList_madeCells_one, ← usedCells_nil] at h3'
      generalize w2.heap.size = ug at *
      have hxo := (hxa.trans hx2).trans hx3
      go_wp2_with fail
      clear cc ff
      go_loopw [7, 28] (ptabOut C p (.slice (some ⟨ug, 0, none⟩) 40 40) rows T F (pts g (.cells #[.int .i64 C, .int .i64 p, .int .i64 b] 52 (0, 0)) :: R) w) (fun _ i _ => rows.length - (intOf i).toNat)
      case atStart => exact ⟨0, [], by omega, rfl, by simp, HT.out, hxo, own_row_nil _ _ h3'⟩
      case round =>
        obtain ⟨i, t, hi, rfl, htl, htr, hxr, hown⟩ := hrel
        have htC : t.length ≤ C := by omega
        have HTL := Lib.hid htl
        clear htl
        obtain ⟨ta, tg, tc, rfl, q1, q2, -, -, -, -, -⟩ := own_row_form 0 hown rfl
        by_cases hlt : i < rows.length
        · obtain rfl := HC.out (by omega)
          have hcell := (HV.out wr [_, _, _] hown).cells hlt
          rw [drop_getD ByteArray.empty hlt] at htr
          have hsz : (rows.getD i ByteArray.empty).size ≤ 9223372036854775807 := (HV.out wr [_, _, _] hown).2 _ (str_getD hlt)
          generalize hs : rows.getD i ByteArray.empty = s at *
          have HS := Lib.hid hs
          clear hs
          have HTR := Lib.hid htr
          clear htr
          by_cases h16 : s.size = 16
          · have tz : ((s.size : Int) != 16) = false := by simp [h16]
            have H16 := Lib.hid h16
            clear h16
            generalize hr0 : tabRow C p t (sEnts s) = r0 at *
            have HR0 := Lib.hid hr0
            clear hr0
            go_wp2_with fail
            obtain ⟨wo, rfl⟩ : ∃ wo : World, wo = wr := ⟨_, rfl⟩
            go_loopw [7, 11] (ptabIn C p (.slice (some ⟨ug, 0, none⟩) 40 40) s i r0 (pts g (.cells #[.int .i64 C, .int .i64 p, .int .i64 b] 52 (0, 0)) :: R) w) (fun _ k _ => 16 - (intOf k).toNat)
            case atStart => exact ⟨0, t, by omega, rfl, by have := HTL.out; omega, HR0.out, hxr, hown⟩
            case round =>
              obtain ⟨k, t1, hk, rfl, htl1, htr1, hxr1, hown1⟩ := hrel
              have htC1 : t1.length ≤ C := by omega
              have HTL1 := Lib.hid htl1
              have HTR1 := Lib.hid htr1
              clear htl1 htr1 hcell hown hxr
              obtain ⟨ta1, tg1, tc1, rfl, q3, q4, -, -, -, -, -⟩ := own_row_form 0 hown1 rfl
              by_cases hk8 : k < 8
              · have i1 : (0 : Int) ≤ 2 * (k : Int) := by omega
                have i2 : 2 * (k : Int) < (s.size : Int) := by have := H16.out; omega
                have i3 : 2 * (k : Int) + 1 < (s.size : Int) := by have := H16.out; omega
                have i4 : (0 : Int) ≤ 2 * (k : Int) + 1 := by omega
                have tn : (2 * (k : Int) + 1).toNat = 2 * k + 1 := by omega
                have tn2 : (2 * (k : Int)).toNat = 2 * k := by omega
                have q5 := bt_get (s := s) (i := 2 * k) (by omega)
                have q6 := bt_get (s := s) (i := 2 * k + 1) (by omega)
                have l5 := bt_le s (2 * k)
                have l6 := bt_le s (2 * k + 1)
                have HE := Lib.hid (show sEnt s k = (bt s (2 * k), bt s (2 * k + 1)) from rfl)
                generalize bt s (2 * k) = x at *
                generalize bt s (2 * k + 1) = y at *
                have e2 : IntKind.i64.wrap (2 * (k : Int) + 1) = 2 * (k : Int) + 1 := IntWalk.i64_in _ (by omega)
                have e3 : IntKind.i64.wrap x = x := IntWalk.i64_in _ (by omega)
                have e4 : IntKind.i64.wrap y = y := IntWalk.i64_in _ (by omega)
                go_upto_region 16 with (fail)
                refine wp_region_held_drew (S := fun _ => True) (by kernel_rfl) trivial (fun hHeld => ?_)
                refine wpAnyH_take (i := 0) (v := ?_) rfl (by kernel_rfl) (by kernel_rfl) (by kernel_rfl) (fun _ _ _ h => h) (Or.inl ⟨by rfl, ?_⟩) (by assumption) ?_
                rotate_left
                · intro w hSw
                  go_simp
                  try with_reducible rfl
                try simp only [Act.put, List.setIfInBounds_toArray, List.set_cons_zero, List.set_cons_succ]
                refine wpAnyH_take (i := 1) (v := ?_) rfl (by kernel_rfl) (by kernel_rfl) (by kernel_rfl) (fun _ _ _ h => h) (Or.inl ⟨by rfl, ?_⟩) (by assumption) ?_
                rotate_left
                · intro w hSw
                  go_simp
                  try with_reducible rfl
                try simp only [Act.put, List.setIfInBounds_toArray, List.set_cons_zero, List.set_cons_succ]
                refine wpAnyH_take (i := 2) (v := ?_) rfl (by kernel_rfl) (by kernel_rfl) (by kernel_rfl) (fun _ _ _ h => h) (Or.inl ⟨by rfl, ?_⟩) (by assumption) ?_
                rotate_left
                · intro w hSw
                  go_simp
                  try with_reducible rfl
                try simp only [Act.put, List.setIfInBounds_toArray, List.set_cons_zero, List.set_cons_succ]
                refine wpAnyH_take (i := 3) (v := ?_) rfl (by kernel_rfl) (by kernel_rfl) (by kernel_rfl) (fun _ _ _ h => h) (Or.inl ⟨by rfl, ?_⟩) (by assumption) ?_
                rotate_left
                · intro w hSw
                  go_simp
                  try with_reducible rfl
                try simp only [Act.put, List.setIfInBounds_toArray, List.set_cons_zero, List.set_cons_succ]
                refine wpAnyH_take (i := 4) (v := ?_) rfl (by kernel_rfl) (by kernel_rfl) (by kernel_rfl) (fun _ _ _ h => h) (Or.inl ⟨by rfl, ?_⟩) (by assumption) ?_
                rotate_left
                · intro w hSw
                  go_simp
                  try with_reducible rfl
                try simp only [Act.put, List.setIfInBounds_toArray, List.set_cons_zero, List.set_cons_succ]
                refine wpAnyH_take (i := 5) (v := ?_) rfl (by kernel_rfl) (by kernel_rfl) (by kernel_rfl) (fun _ _ _ h => h) (Or.inl ⟨by rfl, ?_⟩) (by assumption) ?_
                rotate_left
                · intro w hSw
                  go_simp
                  try with_reducible rfl
                try simp only [Act.put, List.setIfInBounds_toArray, List.set_cons_zero, List.set_cons_succ]
                refine wpAnyH_take (i := 6) (v := ?_) rfl (by kernel_rfl) (by kernel_rfl) (by kernel_rfl) (fun _ _ _ h => h) (Or.inl ⟨by rfl, ?_⟩) (by assumption) ?_
                rotate_left
                · intro w hSw
                  go_simp
                  try with_reducible rfl
                try simp only [Act.put, List.setIfInBounds_toArray, List.set_cons_zero, List.set_cons_succ]
                refine wpAnyH_take (i := 7) (v := ?_) rfl (by kernel_rfl) (by kernel_rfl) (by kernel_rfl) (fun _ _ _ h => h) (Or.inl ⟨by rfl, ?_⟩) (by assumption) ?_
                rotate_left
                · intro w hSw
                  go_simp
                  try with_reducible rfl
                try simp only [Act.put, List.setIfInBounds_toArray, List.set_cons_zero, List.set_cons_succ]
                refine wpAnyH_take (i := 8) (v := ?_) rfl (by kernel_rfl) (by kernel_rfl) (by kernel_rfl) (fun _ _ _ h => h) (Or.inl ⟨by rfl, ?_⟩) (by assumption) ?_
                rotate_left
                · intro w hSw
                  go_simp
                  try with_reducible rfl
                try simp only [Act.put, List.setIfInBounds_toArray, List.set_cons_zero, List.set_cons_succ]
                refine wpAnyH_take (i := 9) (v := ?_) rfl (by kernel_rfl) (by kernel_rfl) (by kernel_rfl) (fun _ _ _ h => h) (Or.inl ⟨by rfl, ?_⟩) (by assumption) ?_
                rotate_left
                · intro w hSw
                  go_simp
                  try with_reducible rfl
                try simp only [Act.put, List.setIfInBounds_toArray, List.set_cons_zero, List.set_cons_succ]
                refine wpAnyH_ready (rs := [10]) (by kernel_rfl) (by simp) ?_
                refine AllReadyH.cons rfl (fun K hK => ?_) AllReadyH.nil
                go_simp
                refine hK.out _ _ trivial (fun _ => ?_)
                clear hK K
                try simp only [Act.put, List.setIfInBounds_toArray, List.set_cons_zero, List.set_cons_succ]
                refine wpAnyH_ready (rs := [11]) (by kernel_rfl) (by simp) ?_
                refine AllReadyH.cons rfl (fun K hK => ?_) AllReadyH.nil
                go_simp
                refine hK.out _ _ trivial (fun _ => ?_)
                clear hK K
                try simp only [Act.put, List.setIfInBounds_toArray, List.set_cons_zero, List.set_cons_succ]
                refine wpAnyH_done (by kernel_rfl) ?_ _
                have h5 := own_drew (own_alloc hown1 (.cells #[.int .i64 x, .int .i64 y] 64))
                have hx5 := (hxr1.alloc (.cells #[.int .i64 x, .int .i64 y] 64)).drew
                clear q5 q6 e2 e3 e4 i1 i2 i3 i4 tn tn2 hHeld
                generalize wr.heap.size = eb at *
                generalize (wr.alloc (.cells #[.int .i64 x, .int .i64 y] 64)).drew = w5 at *
                obtain ⟨cc, ff⟩ := own_cells 0 h5 rfl
                obtain ⟨ch, fh⟩ := own_cells 3 h5 rfl
                obtain ⟨l51, l52⟩ := l5
                obtain ⟨l61, l62⟩ := l6
                have hd := HTR1.out
                rw [sEnts_drop s hk8, HE.out] at hd
                have HD := Lib.hid hd
                clear hd
                by_cases hfull : C ≤ 8 * i + k
                · have HFU : Hid (t1.length = C) := Lib.hid (by have := HTL1.out; omega)
                  by_cases hz : x = 0 ∧ y = 0
                  · obtain ⟨rfl, rfl⟩ := hz
                    go_wp2_with fail
                    go_roundw
                    case rel => exact ⟨k + 1, t1, by omega, by go_num, by have := HTL1.out; have := HFU.out; omega, by have := HD.out; rw [tabRow_full HFU.out] at this; exact this, hx5, own_drop h5⟩
                    case measure => simp [intOf]; omega
                  · have hne : ((x, y) : Ent) ≠ (0, 0) := fun h => hz (Prod.mk.inj h)
                    have hnone : r0 = none := by have := HD.out; rw [tabRow_fullbad HFU.out hne] at this; exact this.symm
                    have HN := Lib.hid hnone
                    clear hnone hne
                    by_cases hx0 : x = 0
                    · have hy0 : (y == 0) = false := beq_eq_false_iff_ne.2 fun h => hz ⟨hx0, h⟩
                      subst hx0
                      clear hz
                      go_wp2_with fail
                      go_ret2
                      have hf := HTR.out
                      rw [tabRows_none H16.out (HR0.out.trans HN.out)] at hf
                      obtain ⟨rfl, rfl⟩ := Prod.mk.inj hf
                      exact ⟨_, rfl, hx5, own_row_nil _ _ (own_drop (own_drop (own_drop (own_drop h5))))⟩
                    · have hx0' : (x == 0) = false := beq_eq_false_iff_ne.2 hx0
                      clear hz hx0
                      go_wp2_with fail
                      go_ret2
                      have hf := HTR.out
                      rw [tabRows_none H16.out (HR0.out.trans HN.out)] at hf
                      obtain ⟨rfl, rfl⟩ := Prod.mk.inj hf
                      exact ⟨_, rfl, hx5, own_row_nil _ _ (own_drop (own_drop (own_drop (own_drop h5))))⟩
                · have HFU : Hid (t1.length ≠ C) := Lib.hid (by have := HTL1.out; omega)
                  have hlt2 : 8 * i + k < C := by omega
                  clear hfull
                  by_cases hA : 2 < x
                  · have HN : Hid (r0 = none) := Lib.hid (by have := HD.out; rw [tabRow_bad HFU.out (bad_A hA)] at this; exact this.symm)
                    go_wp2_with fail
                    go_ret2
                    have hf := HTR.out
                    rw [tabRows_none H16.out (HR0.out.trans HN.out)] at hf
                    obtain ⟨rfl, rfl⟩ := Prod.mk.inj hf
                    exact ⟨_, rfl, hx5, own_row_nil _ _ (own_drop (own_drop (own_drop (own_drop h5))))⟩
                  · by_cases hX : x = 2
                    · subst hX
                      obtain ⟨yn, rfl⟩ := Int.eq_ofNat_of_zero_le l61
                      by_cases hP : p ≤ (yn : Int)
                      · have HN : Hid (r0 = none) := Lib.hid (by have := HD.out; rw [tabRow_bad HFU.out (bad_D hP)] at this; exact this.symm)
                        go_wp2_with fail
                        go_ret2
                        have hf := HTR.out
                        rw [tabRows_none H16.out (HR0.out.trans HN.out)] at hf
                        obtain ⟨rfl, rfl⟩ := Prod.mk.inj hf
                        exact ⟨_, rfl, hx5, own_row_nil _ _ (own_drop (own_drop (own_drop (own_drop h5))))⟩
                      · have hyp : (yn : Int) < p := by omega
                        have hy40 : yn < 40 := by omega
                        have hbe := bad_E (t := t1) l61 hyp
                        obtain ⟨k2, k3⟩ := own_row_cells 2 h5 rfl
                        have cu := k2 yn _ (usedCells_get t1 hy40)
                        clear k2
                        cases hcon : t1.contains ((2, (yn : Int)) : Ent)
                        · rw [hcon] at cu hbe
                          have HBE := Lib.hid hbe
                          clear hbe hcon
                          go_upto_region 26 with (fail)
                          have h6 := own_row_set 2 yn (.bool true) h5 rfl (by decide)
                          have hx6 := hx5.setCell ⟨ug, yn, none⟩ (.bool true)
                          generalize w5.setCell ⟨ug, yn, none⟩ (.bool true) = w6 at *
                          have HUS : Hid ((usedCells t1).set yn (.bool true) = usedCells (t1 ++ [(2, (yn : Int))])) := Lib.hid (usedCells_add t1 hy40).symm
                          clear cc ff ch fh cu k3
                          obtain ⟨cc, ff⟩ := own_cells 0 h6 rfl
                          have h8 := own_alloc h6 (.cells #[.int .i64 2, .int .i64 (yn : Int)] 64)
                          have hml : t1.length + 1 ≤ maxLen := by simp only [maxLen]; omega
                          go_wp2_with (first | (at_builtin; refine wpList_append_row rfl _ _ 53 rfl 2 64 Try.underlying53 elem_entry rfl (by decide) rfl h8 rfl (some ⟨w6.heap.size, 0, none⟩) 1 1 [.int .i64 2, .int .i64 (yn : Int)] rfl rfl (alloc_news w6 [.int .i64 2, .int .i64 (yn : Int)] _) (fun h => by cases h) (two_ints _ _) hml (by omega) ?_))
                          intro v9 w9 h9 hx9
                          go_wp2_with fail
                          go_roundw
                          case rel =>
                            have hne := HFU.out
                            refine ⟨k + 1, t1 ++ [(2, (yn : Int))], by omega, by go_num, by have := HTL1.out; simp; omega, by have := HD.out; rw [tabRow_step hne HBE.out] at this; exact this, (hx6.alloc _).trans hx9, ?_⟩
                            rw [show (t1 ++ [((2, (yn : Int)) : Ent)]).length = t1.length + 1 by simp, entCells_append, ← HUS.out]
                            exact own_drop (own_drop h9)
                          case measure => simp [intOf]; omega
                        · rw [hcon] at cu hbe
                          have HN : Hid (r0 = none) := Lib.hid (by have := HD.out; rw [tabRow_bad HFU.out hbe] at this; exact this.symm)
                          clear hbe hcon
                          go_wp2_with fail
                          go_ret2
                          have hf := HTR.out
                          rw [tabRows_none H16.out (HR0.out.trans HN.out)] at hf
                          obtain ⟨rfl, rfl⟩ := Prod.mk.inj hf
                          exact ⟨_, rfl, hx5, own_row_nil _ _ (own_drop (own_drop (own_drop (own_drop h5))))⟩
                    · have hx2 : x < 2 := by omega
                      have hxb : (x == 2) = false := beq_eq_false_iff_ne.2 hX
                      have hxb2 : (x != 2) = true := bne_iff_ne.2 hX
                      clear hX hA
                      by_cases hB : 0 < y
                      · have HN : Hid (r0 = none) := Lib.hid (by have := HD.out; rw [tabRow_bad HFU.out (bad_B hx2 hB)] at this; exact this.symm)
                        go_wp2_with fail
                        go_ret2
                        have hf := HTR.out
                        rw [tabRows_none H16.out (HR0.out.trans HN.out)] at hf
                        obtain ⟨rfl, rfl⟩ := Prod.mk.inj hf
                        exact ⟨_, rfl, hx5, own_row_nil _ _ (own_drop (own_drop (own_drop (own_drop h5))))⟩
                      · obtain rfl : y = 0 := by omega
                        have HBE : Hid (tabBad p t1 (x, 0) = false) := Lib.hid (bad_C l51 hx2)
                        have HUS : Hid (usedCells t1 = usedCells (t1 ++ [(x, 0)])) := Lib.hid (usedCells_other t1 (show ((x, (0 : Int)) : Ent).1 ≠ 2 by dsimp only; omega)).symm
                        have h6 := h5
                        have hx6 := hx5
                        go_upto_region 26 with (fail)
                        generalize w5 = w6 at *
                        have h8 := own_alloc h6 (.cells #[.int .i64 x, .int .i64 0] 64)
                        have hml : t1.length + 1 ≤ maxLen := by simp only [maxLen]; omega
                        go_wp2_with (first | (at_builtin; refine wpList_append_row rfl _ _ 53 rfl 2 64 Try.underlying53 elem_entry rfl (by decide) rfl h8 rfl (some ⟨w6.heap.size, 0, none⟩) 1 1 [.int .i64 x, .int .i64 0] rfl rfl (alloc_news w6 [.int .i64 x, .int .i64 0] _) (fun h => by cases h) (two_ints _ _) hml (by omega) ?_))
                        intro v9 w9 h9 hx9
                        go_wp2_with fail
                        go_roundw
                        case rel =>
                          have hne := HFU.out
                          refine ⟨k + 1, t1 ++ [(x, 0)], by omega, by go_num, by have := HTL1.out; simp; omega, by have := HD.out; rw [tabRow_step hne HBE.out] at this; exact this, (hx6.alloc _).trans hx9, ?_⟩
                          rw [show (t1 ++ [((x, 0) : Ent)]).length = t1.length + 1 by simp, entCells_append, ← HUS.out]
                          exact own_drop (own_drop h9)
                        case measure => simp [intOf]; omega
              · have hke : k = 8 := by omega
                subst hke
                have hsome : r0 = some t1 := by have := HTR1.out; rw [sEnts_end, tabRow] at this; exact this.symm
                have HSM := Lib.hid hsome
                clear hsome
                go_wp2_with fail
                go_roundw
                case rel => exact ⟨i + 1, t1, by omega, by go_num, by have := HTL1.out; omega, by have := HTR.out; rw [tabRows_some H16.out (HR0.out.trans HSM.out)] at this; exact this, hxr1, hown1⟩
                case measure => simp [intOf]; omega
          · have tz : ((s.size : Int) != 16) = true := by rw [bne_iff_ne]; omega
            go_wp2_with fail
            go_ret2
            have hf := HTR.out
            rw [tabRows_short h16] at hf
            obtain ⟨rfl, rfl⟩ := Prod.mk.inj hf
            exact ⟨_, rfl, hxr, own_row_nil _ _ (own_drop (own_drop (own_drop hown)))⟩
        · have hie : i = rows.length := by omega
          rw [hie, List.drop_length, tabRows] at htr
          obtain ⟨rfl, rfl⟩ := Prod.mk.inj htr
          subst hie
          go_wp2_with fail
          go_ret2
          exact ⟨_, rfl, hxr, own_erase 1 (own_erase 1 hown rfl) rfl⟩
    · rw [if_pos hl] at hT2
      obtain ⟨rfl, rfl⟩ := Prod.mk.inj hT2
      have tl : (rows.length != rowsN C) = true := by simp [hl]
      have tl2 : ((rows.length : Int) != (rowsN C : Int)) = true := by rw [bne_iff_ne]; omega
      clear hT2 hl
      rw [he1]
      go_enter Try.func64, Try.ntmps64
      go_upto_region 1 with (fail)
      obtain ⟨cc, ff⟩ := own_cells 0 ha rfl
      generalize w.heap.size = g at *
      generalize w.alloc (.cells #[.int .i64 C, .int .i64 p, .int .i64 b] 52) = w1 at *
      go_wp2_with fail
      refine HQ.out.mono ?_
      rintro e w2 ⟨rfl, hx2, h2'⟩
      clear cc ff
      obtain ⟨cc, ff⟩ := own_cells 0 h2' rfl
      go_wp2_with fail
      refine (rows_any C (by omega) _).mono ?_
      rintro e w' ⟨rfl, rfl⟩
      go_wp2_with fail
      go_ret2
      exact ⟨_, rfl, hxa.trans hx2, own_row_nil _ _ (own_drop h2')⟩
end Go.Proofs.Ytbpblokfiajpjaa
