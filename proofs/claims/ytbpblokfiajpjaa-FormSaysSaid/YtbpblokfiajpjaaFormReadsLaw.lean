/- FormReads answers true, whatever the sectors, and leaves what it was given as it was. No conditions. -/
import Derived.Test.YtbpblokfiajpjaaShape16
namespace Go.Proofs.Ytbpblokfiajpjaa
open Go.RowKit Go.SL Go.Crc
attribute [local go_sem ↓] Go.wp_at_zero Go.wp_at_succ

theorem at_behind {l R : List HP} {k : Nat} {P : HP} (h : R[k]? = some P) : (l ++ R)[l.length + k]? = some P := by
  rw [List.getElem?_append_right (by omega), Nat.add_sub_cancel_left]; exact h
theorem ents_row {w : World} {L : List HP} (k : Nat) {v : Value} {l : List Ent} (H : own w L) (hk : L[k]? = some (row 64 2 v l.length (entCells l))) : entsAt w v l := by
  obtain ⟨ao, g, cap, rfl, h1, h2, h3, -, -, h6, -⟩ := own_row_form k H hk
  refine ⟨ao, g, 0, cap, rfl, h1, by simp only [maxLen] at h2; omega, h3, fun i hi => ?_⟩
  dsimp only
  rw [Nat.zero_add]
  exact ⟨h6 _ _ (entCells_get hi).1, h6 _ _ (entCells_get hi).2⟩
theorem tabRows_nonneg {C : Nat} {P : Int} : ∀ (l : List ByteArray) (t : List Ent), 0 ≤ (tabRows C P t l).2
  | [], t => by simp [tabRows]
  | s :: l, t => by
    rw [tabRows]
    split
    · decide
    · split
      · decide
      · exact tabRows_nonneg l _
theorem tableOf_nonneg (c p b : Int) (rows : List ByteArray) : 0 ≤ (tableOf c p b rows).2 := by
  unfold tableOf
  split
  · decide
  · split
    · decide
    · exact tabRows_nonneg _ _
theorem headOf_nonneg (s : ByteArray) : 0 ≤ (headOf s).2 := by
  unfold headOf
  split
  · rcases openF_nonneg s with h | h <;> dsimp only <;> omega
  · split
    · simp
    · simp
theorem deskOf_nonneg (s : ByteArray) : 0 ≤ (deskOf s).2 := by
  unfold deskOf
  split
  · rcases openF_nonneg s with h | h <;> dsimp only <;> omega
  · split
    · simp
    · simp

set_option maxRecDepth 100000 in
set_option maxHeartbeats 8000000 in
theorem formReads_walk (s : ByteArray) (c p b : Int) (v : Value) (l : List ByteArray) (w : World) (hs : s.size ≤ 9223372036854775807) (hv : StrsAt w v l) :
    Calls Try.prog 9 #[.string s, headV c p b, v] w fun e w' => e = .returned (.bool true) ∧ Below w.heap.size w w' := by
  obtain ⟨ao, bb, off, cap, rfl, hc1, hc2, hao, hat⟩ := hv.form
  have h0 := own_exactly w
  have ha := own_alloc h0 (.cells #[.int .i64 c, .int .i64 p, .int .i64 b] 52)
  have hxa := (Ext.refl w).alloc (.cells #[.int .i64 c, .int .i64 p, .int .i64 b] 52)
  have HV := Lib.hid hv
  have HC := Lib.hid hao
  clear hv hat hao h0
  unfold headV
  go_enter Try.func9, Try.ntmps9
  go_upto_region 1 with (fail)
  generalize w.heap.size = g at *
  generalize w.alloc (.cells #[.int .i64 c, .int .i64 p, .int .i64 b] 52) = w0 at *
  go_wp2_with fail
  refine (heads_any _ w0 ha).mono ?_
  rintro e w1 ⟨rfl, hx1, h1⟩
  replace hx1 := hxa.trans hx1
  clear ha hxa
  have hv1 := HV.out.later 1 h1 rfl
  by_cases hs5 : s.size ≤ 100
  · go_wp2_with fail
    refine (few_any _ l 100 w1 hv1).mono ?_
    rintro e w1' ⟨rfl, rfl⟩
    clear hv1
    by_cases hF : fewB l 100 = true
    · have hl20 : l.length ≤ 20 ∧ ∀ s ∈ l, s.size ≤ 100 := by
        simp only [fewB, Bool.and_eq_true, decide_eq_true_eq, List.all_eq_true, fewOne] at hF
        exact ⟨hF.1, fun s hs => by have := hF.2 s hs; omega⟩
      obtain ⟨hl, hsz⟩ := hl20
      have HS := Lib.hid hsz
      clear hsz
      rw [hF]
      clear hF
      have N1 := headOf_nonneg s
      have N2 := deskOf_nonneg s
      have N3 := tableOf_nonneg c p b l
      generalize hT : tableOf c p b l = TF at *
      obtain ⟨T, F⟩ := TF
      have HT := Lib.hid hT
      have RH := Lib.hid (fun (R : List SL.HP) (w : World) (H : own w R) => readhead_any s hs R w H)
      have RO := Lib.hid (fun (R : List SL.HP) (w : World) (H : own w R) => headof_any s hs R w H)
      have DR := Lib.hid (fun (R : List SL.HP) (w : World) (H : own w R) => readdesk_any s hs R w H)
      have DO := Lib.hid (fun (R : List SL.HP) (w : World) (H : own w R) => deskof_any s hs R w H)
      generalize headOf s = hh at *
      generalize deskOf s = dd at *
      obtain ⟨⟨a1, a2, a3⟩, f1⟩ := hh
      obtain ⟨⟨d1, d2, d3, d4, d5⟩, f2⟩ := dd
      dsimp only at N1 N2 N3 RH RO DR DO
      unfold headV at RH RO
      unfold deskV at DR DO
      clear hT
      go_wp2_with fail
      refine (RH.out _ w1 h1).mono ?_
      rintro e w2 ⟨rfl, hx2, h2⟩
      replace hx2 := hx1.trans hx2
      clear hx1 h1
      go_upto_region 5 with (fail)
      have h3 := own_alloc h2 (.cells #[.int .i64 a1, .int .i64 a2, .int .i64 a3] 52)
      have hx3 := hx2.alloc (.cells #[.int .i64 a1, .int .i64 a2, .int .i64 a3] 52)
      generalize w2.heap.size = p1 at *
      generalize w2.alloc (.cells #[.int .i64 a1, .int .i64 a2, .int .i64 a3] 52) = w3 at *
      clear h2 hx2
      go_wp2_with fail
      refine (RO.out _ w3 h3).mono ?_
      rintro e w4 ⟨rfl, hx4, h4⟩
      replace hx4 := hx3.trans hx4
      clear hx3 h3
      go_upto_region 6 with (fail)
      have h5 := own_alloc h4 (.cells #[.int .i64 a1, .int .i64 a2, .int .i64 a3] 52)
      have hx5 := hx4.alloc (.cells #[.int .i64 a1, .int .i64 a2, .int .i64 a3] 52)
      generalize w4.heap.size = p2 at *
      generalize w4.alloc (.cells #[.int .i64 a1, .int .i64 a2, .int .i64 a3] 52) = w5 at *
      clear h4 hx4
      go_wp2_with fail
      refine (DR.out _ w5 h5).mono ?_
      rintro e w6 ⟨rfl, hx6, h6⟩
      replace hx6 := hx5.trans hx6
      clear hx5 h5
      go_upto_region 7 with (fail)
      have h7 := own_alloc h6 (.cells #[.int .i64 d1, .int .i64 d2, .int .i64 d3, .int .i64 d4, .int .i64 d5] 55)
      have hx7 := hx6.alloc (.cells #[.int .i64 d1, .int .i64 d2, .int .i64 d3, .int .i64 d4, .int .i64 d5] 55)
      generalize w6.heap.size = p3 at *
      generalize w6.alloc (.cells #[.int .i64 d1, .int .i64 d2, .int .i64 d3, .int .i64 d4, .int .i64 d5] 55) = w7 at *
      clear h6 hx6
      go_wp2_with fail
      refine (DO.out _ w7 h7).mono ?_
      rintro e w8 ⟨rfl, hx8, h8⟩
      replace hx8 := hx7.trans hx8
      clear hx7 h7
      go_upto_region 8 with (fail)
      have h9 := own_alloc h8 (.cells #[.int .i64 d1, .int .i64 d2, .int .i64 d3, .int .i64 d4, .int .i64 d5] 55)
      have hx9 := hx8.alloc (.cells #[.int .i64 d1, .int .i64 d2, .int .i64 d3, .int .i64 d4, .int .i64 d5] 55)
      generalize w8.heap.size = p4 at *
      generalize w8.alloc (.cells #[.int .i64 d1, .int .i64 d2, .int .i64 d3, .int .i64 d4, .int .i64 d5] 55) = w9 at *
      clear h8 hx8
      have hat9 := (HV.out.later 5 h9 rfl).form
      obtain ⟨ao', bb', off', cap', hve, -, -, hao', hat'⟩ := hat9
      simp only [Value.slice.injEq, true_and] at hve
      obtain ⟨rfl, rfl⟩ := hve
      have hn1 : ∀ ad, ao = some ad → ∀ j u, (l.map Value.string)[j]? = some u → w9.cell? (ad.add j) = some u := fun ad had j u hu => by
        obtain ⟨hj, rfl⟩ := List.getElem?_eq_some_iff.1 hu
        simp only [List.length_map] at hj
        obtain rfl : ad = ⟨bb', off', none⟩ := by rw [hao' (by omega)] at had; exact (Option.some.inj had).symm
        rw [add_none, hat' j hj]
        simp [hj]
      have hn2 : ao = none → l.length = 0 := fun h => by
        rcases Nat.eq_zero_or_pos l.length with h0 | h0
        · exact h0
        · rw [hao' h0] at h; cases h
      have hn3 : ∀ u ∈ l.map Value.string, u.oneCell' = true := fun u hu => by
        obtain ⟨_, _, rfl⟩ := List.mem_map.1 hu; rfl
      have hml : 0 + l.length ≤ maxLen := by simp only [maxLen]; omega
      have hnl : (l.map Value.string).length = l.length * 1 := by simp
      clear hat' hao'
      go_wp2_with (first | (at_builtin; refine wpList_append_row rfl _ _ 42 rfl 0 9 Try.underlying42 elem_string rfl (by decide) rfl (own_row_nil 9 1 h9) rfl ao l.length cap (l.map Value.string) rfl hnl hn1 hn2 hn3 hml (by omega) ?_))
      clear hn1 hn2
      intro v10 w10 h10 hx10
      obtain ⟨ao2, g2, cap2, rfl, c21, c22, a21, a22, a23, cells2, fr2⟩ := own_row_form 0 h10 rfl
      clear a21 a22 a23 cells2 fr2
      replace hx10 := hx9.trans hx10
      have hb := own_alloc h10 (.cells #[.string smark] 9)
      have hml2 : l.length + 1 ≤ maxLen := by simp only [maxLen]; omega
      go_wp2_with (first | (at_builtin; refine wpList_append_row rfl _ _ 42 rfl 1 9 Try.underlying42 elem_string rfl (by decide) rfl hb rfl (some ⟨w10.heap.size, 0, none⟩) 1 1 [.string smark] rfl rfl (alloc_news w10 [.string smark] _) (fun h => by cases h) (one_str _) hml2 (by omega) ?_))
      intro v11 w11 h11 hx11
      obtain ⟨ao3, g3, cap3, rfl, c31, c32, a31, a32, a33, cells3, fr3⟩ := own_row_form 1 h11 rfl
      obtain rfl := a31 (by omega)
      have hx11 := (hx10.alloc (.cells #[.string smark] 9)).trans hx11
      clear a31 a32 a33 cells3 fr3 hb h10 hx10 h9 hx9
      have h12 := own_drop h11
      clear h11
      replace h12 : own w11 (row 9 1 (.slice (some ⟨g3, 0, none⟩) (l.length + 1) cap3) (l.length + 1) (l.map Value.string ++ [.string smark]) :: pts p4 (.cells #[.int .i64 d1, .int .i64 d2, .int .i64 d3, .int .i64 d4, .int .i64 d5] 55 (0, 0)) :: pts p3 (.cells #[.int .i64 d1, .int .i64 d2, .int .i64 d3, .int .i64 d4, .int .i64 d5] 55 (0, 0)) :: pts p2 (.cells #[.int .i64 a1, .int .i64 a2, .int .i64 a3] 52 (0, 0)) :: pts p1 (.cells #[.int .i64 a1, .int .i64 a2, .int .i64 a3] 52 (0, 0)) :: pts g (.cells #[.int .i64 c, .int .i64 p, .int .i64 b] 52 (0, 0)) :: [exactly w]) := h12
      have HO := Lib.hid (fun w' L (H : own w' (L ++ (row 9 1 (.slice (some ⟨g3, 0, none⟩) (l.length + 1) cap3) (l.length + 1) (l.map Value.string ++ [.string smark]) :: pts p4 (.cells #[.int .i64 d1, .int .i64 d2, .int .i64 d3, .int .i64 d4, .int .i64 d5] 55 (0, 0)) :: pts p3 (.cells #[.int .i64 d1, .int .i64 d2, .int .i64 d3, .int .i64 d4, .int .i64 d5] 55 (0, 0)) :: pts p2 (.cells #[.int .i64 a1, .int .i64 a2, .int .i64 a3] 52 (0, 0)) :: pts p1 (.cells #[.int .i64 a1, .int .i64 a2, .int .i64 a3] 52 (0, 0)) :: pts g (.cells #[.int .i64 c, .int .i64 p, .int .i64 b] 52 (0, 0)) :: [exactly w]))) => (strs_row (L.length + 0) (l := l) H (at_behind (l := L) rfl) rfl (fun x hx => by have := HS.out x hx; omega) : StrsAt w' (.slice (some ⟨g3, 0, none⟩) l.length cap3) l))
      have HVL := Lib.hid (fun w' L (H : own w' (L ++ (row 9 1 (.slice (some ⟨g3, 0, none⟩) (l.length + 1) cap3) (l.length + 1) (l.map Value.string ++ [.string smark]) :: pts p4 (.cells #[.int .i64 d1, .int .i64 d2, .int .i64 d3, .int .i64 d4, .int .i64 d5] 55 (0, 0)) :: pts p3 (.cells #[.int .i64 d1, .int .i64 d2, .int .i64 d3, .int .i64 d4, .int .i64 d5] 55 (0, 0)) :: pts p2 (.cells #[.int .i64 a1, .int .i64 a2, .int .i64 a3] 52 (0, 0)) :: pts p1 (.cells #[.int .i64 a1, .int .i64 a2, .int .i64 a3] 52 (0, 0)) :: pts g (.cells #[.int .i64 c, .int .i64 p, .int .i64 b] 52 (0, 0)) :: [exactly w]))) => HV.out.later (L.length + 6) H (at_behind (l := L) rfl))
      obtain ⟨cc, ff⟩ := own_cells 5 h12 rfl
      go_wp2_with fail
      refine (readtable_any c p b _ l T F HT.out (by omega) _ w11 HO.out h12).mono ?_
      rintro e w13 ⟨vt1, rfl, hx13, h13⟩
      replace hx13 := hx11.trans hx13
      clear cc ff hx11 h12
      obtain ⟨cc, ff⟩ := own_cells 6 h13 rfl
      go_wp2_with fail
      refine (tableof_any c p b _ l T F HT.out (by omega) _ w13 (fun w' L H => HVL.out w' (L ++ [_]) (by rw [List.append_assoc]; exact H)) h13).mono ?_
      rintro e w14 ⟨vt2, rfl, hx14, h14⟩
      replace hx14 := hx13.trans hx14
      clear cc ff hx13 h13
      have HS1 := Lib.hid (ents_row 0 h14 rfl)
      have HS2 := Lib.hid (ents_row 1 h14 rfl)
      have HO4 := Lib.hid (HO.out w14 [_, _] h14)
      have HV4 := Lib.hid (HVL.out w14 [_, _] h14)
      obtain ⟨x1, y1⟩ := own_cells 6 h14 rfl
      obtain ⟨x2, y2⟩ := own_cells 5 h14 rfl
      obtain ⟨x3, y3⟩ := own_cells 4 h14 rfl
      obtain ⟨x4, y4⟩ := own_cells 3 h14 rfl
      have H14 := Lib.hid h14
      clear h14
      go_wp2_with fail
      refine (same_any f1 f1 _ N1).mono ?_
      rintro e w15 ⟨rfl, rfl⟩
      go_wp2_with fail
      refine (same_any f2 f2 _ N2).mono ?_
      rintro e w15 ⟨rfl, rfl⟩
      go_wp2_with fail
      refine (same_any F F _ N3).mono ?_
      rintro e w15 ⟨rfl, rfl⟩
      go_wp2_with fail
      refine (sametable_any _ _ T w14 HS2.out HS1.out).mono ?_
      rintro e w15 ⟨rfl, nd, rfl⟩
      go_wp2_with fail
      refine (sametexts_any _ _ l l _ (HO.out _ [_, _] (own_drewN nd H14.out)) (HVL.out _ [_, _] (own_drewN nd H14.out))).mono ?_
      rintro e w15 ⟨rfl, nd2, rfl⟩
      go_wp2_with fail
      go_ret
      exact ⟨by simp, below_of 8 (own_drewN (nd + nd2) H14.out) rfl (hx14.drewN _)⟩
    · have hFf : fewB l 100 = false := by simpa using hF
      rw [hFf]
      clear hF hFf
      go_wp2_with fail
      go_ret
      exact ⟨rfl, below_of 1 h1 rfl hx1⟩
  · go_wp2_with fail
    go_ret
    exact ⟨rfl, below_of 1 h1 rfl hx1⟩
end Go.Proofs.Ytbpblokfiajpjaa
