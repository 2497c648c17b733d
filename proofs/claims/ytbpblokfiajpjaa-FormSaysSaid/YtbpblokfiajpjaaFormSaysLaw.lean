/- FormSays answers true, whatever the head, the table and the desk, and leaves what it was given as it was. No conditions. -/
import Derived.Test.YtbpblokfiajpjaaFormReadsLaw
namespace Go.Proofs.Ytbpblokfiajpjaa
open Go.RowKit Go.SL Go.Crc
attribute [local go_sem ↓] Go.wp_at_zero Go.wp_at_succ

theorem row_any (v : Value) (t : List Ent) (row : Int) (ht : t.length ≤ 1000) (R : List SL.HP) (w : World) (hv : ∀ w' l, own w' (l ++ R) → entsAt w' v t) (H : own w R) :
    Calls Try.prog 35 #[v, .int .i64 row] w fun e w' => e = .returned (.tuple #[.string (rowOf t row).1, errV (rowOf t row).2]) ∧ Ext w w' ∧ own w' R := by
  by_cases ho : rowOut t row
  · have e : rowOf t row = (ByteArray.empty, 1) := by rw [rowOf, if_pos ho]
    rw [e]
    exact row_out v t row ht ho R w hv H
  · obtain ⟨r, rfl⟩ := Int.eq_ofNat_of_zero_le (show 0 ≤ row by unfold rowOut at ho; omega)
    exact row_in v t r ho R w hv H
theorem rrowof_any (v : Value) (t : List Ent) (row : Int) (ht : t.length ≤ 1000) (R : List SL.HP) (w : World) (hv : ∀ w' l, own w' (l ++ R) → entsAt w' v t) (H : own w R) :
    Calls Try.prog 36 #[v, .int .i64 row] w fun e w' => e = .returned (.tuple #[.string (rowOf t row).1, .int .i64 (rowOf t row).2]) ∧ Ext w w' ∧ own w' R := by
  by_cases ho : rowOut t row
  · have e : rowOf t row = (ByteArray.empty, 1) := by rw [rowOf, if_pos ho]
    rw [e]
    exact rrowof_out v t row ht ho R w hv H
  · obtain ⟨r, rfl⟩ := Int.eq_ofNat_of_zero_le (show 0 ≤ row by unfold rowOut at ho; omega)
    exact rrowof_in v t r ho R w hv H
theorem rowOf_nonneg (t : List Ent) (row : Int) : 0 ≤ (rowOf t row).2 := by
  unfold rowOf
  split
  · simp
  · split <;> simp
theorem ents_news {w : World} {ao : Option Addr} {n cap : Nat} {l : List Ent} (h : entsAt w (.slice ao n cap) l) : (∀ ad, ao = some ad → ∀ j u, (entCells l)[j]? = some u → w.cell? (ad.add j) = some u) ∧ (ao = none → l.length = 0) := by
  obtain ⟨ao', b, off, cap', hv, h1, h2, h3, h4⟩ := h
  simp only [Value.slice.injEq] at hv
  obtain ⟨rfl, rfl, rfl⟩ := hv
  refine ⟨fun ad had j u hu => ?_, fun h => ?_⟩
  · have hj := (List.getElem?_eq_some_iff.1 hu).1
    rw [entCells_len] at hj
    have e := h3 (by omega)
    rw [e] at had
    obtain rfl := Option.some.inj had
    rw [add_none]
    have hi : j / 2 < l.length := by omega
    obtain ⟨c1, c2⟩ := h4 _ hi
    obtain ⟨g1, g2⟩ := entCells_get hi
    rcases Nat.mod_two_eq_zero_or_one j with hm | hm
    · have ej : j / 2 * 2 = j := by omega
      rw [ej] at c1 g1
      rw [hu] at g1
      rw [c1, Option.some.inj g1]
    · have ej : j / 2 * 2 + 1 = j := by omega
      rw [ej] at g2
      rw [Nat.add_assoc, ej] at c2
      rw [hu] at g2
      rw [c2, Option.some.inj g2]
  · rcases Nat.eq_zero_or_pos l.length with h0 | h0
    · exact h0
    · rw [h3 h0] at h; cases h
theorem entCells_one {l : List Ent} : ∀ u ∈ entCells l, u.oneCell' = true := fun u hu => by
  simp only [entCells, List.mem_flatMap] at hu
  obtain ⟨e, _, he⟩ := hu
  simp at he
  rcases he with rfl | rfl <;> rfl
theorem ents_row_part {w : World} {L : List HP} (k : Nat) {g cap n : Nat} {l : List Ent} {rest : List Value} (H : own w L) (hk : L[k]? = some (row 64 2 (.slice (some ⟨g, 0, none⟩) n cap) n (entCells l ++ rest))) : entsAt w (.slice (some ⟨g, 0, none⟩) l.length cap) l := by
  obtain ⟨ao3, g3, cap3, hv, c31, c32, a31, a32, a33, cells3, fr3⟩ := own_row_form k H hk
  simp only [Value.slice.injEq] at hv
  obtain ⟨rfl, _, rfl⟩ := hv
  have hg := a33 _ rfl
  simp only [Addr.mk.injEq, and_true] at hg
  subst hg
  have hlen := (own_row k H hk).1
  have hn : l.length ≤ n := by rw [List.length_append, entCells_len] at hlen; omega
  refine ⟨_, g, 0, cap, rfl, by omega, by simp only [maxLen] at c32; omega, fun _ => rfl, fun i hi => ?_⟩
  dsimp only
  rw [Nat.zero_add]
  have hl := entCells_len l
  exact ⟨cells3 _ _ (by rw [List.getElem?_append_left (by omega)]; exact (entCells_get hi).1), cells3 _ _ (by rw [List.getElem?_append_left (by omega)]; exact (entCells_get hi).2)⟩

set_option maxRecDepth 100000 in
set_option maxHeartbeats 16000000 in
theorem formSays_walk (c p b : Int) (v : Value) (t : List Ent) (row_ : Int) (r k f x y : Int) (w : World) (hv : entsAt w v t) :
    Calls Try.prog 5 #[headV c p b, v, .int .i64 row_, deskV r k f x y] w fun e w' => e = .returned (.bool true) ∧ Below w.heap.size w w' := by
  obtain ⟨ao, bb, off, cap, rfl, hc1, hc2, hao⟩ := hv.form
  have h0 := own_exactly w
  have ha := own_alloc h0 (.cells #[.int .i64 c, .int .i64 p, .int .i64 b] 52)
  have hxa := (Ext.refl w).alloc (.cells #[.int .i64 c, .int .i64 p, .int .i64 b] 52)
  have HV := Lib.hid hv
  have HC := Lib.hid hao
  clear hv hao h0
  unfold headV deskV
  go_enter Try.func5, Try.ntmps5
  go_upto_region 1 with (fail)
  have hb := own_alloc ha (.cells #[.int .i64 r, .int .i64 k, .int .i64 f, .int .i64 x, .int .i64 y] 55)
  have hxb := hxa.alloc (.cells #[.int .i64 r, .int .i64 k, .int .i64 f, .int .i64 x, .int .i64 y] 55)
  have hw0 : (w.alloc (.cells #[.int .i64 c, .int .i64 p, .int .i64 b] 52)).heap.size = w.heap.size + 1 := by simp
  rw [hw0] at hb
  clear hw0
  generalize w.heap.size + 1 = gd at *
  generalize w.heap.size = g at *
  generalize (w.alloc (.cells #[.int .i64 c, .int .i64 p, .int .i64 b] 52)).alloc (.cells #[.int .i64 r, .int .i64 k, .int .i64 f, .int .i64 x, .int .i64 y] 55) = w0 at *
  clear ha hxa
  go_wp2_with fail
  refine (heads_any _ w0 hb).mono ?_
  rintro e w1 ⟨rfl, hx1, h1⟩
  replace hx1 := hxb.trans hx1
  clear hb hxb
  by_cases ht : t.length ≤ 50
  · obtain ⟨cc, ff⟩ := own_cells 1 h1 rfl
    go_wp2_with fail
    refine (headfault_any c p b _ w1 h1).mono ?_
    rintro e w2 ⟨rfl, hx2, h2⟩
    replace hx2 := hx1.trans hx2
    clear cc ff hx1 h1
    obtain ⟨cc, ff⟩ := own_cells 1 h2 rfl
    go_wp2_with fail
    refine (head_any c p b _ w2 h2).mono ?_
    rintro e w3 ⟨rfl, hx3, h3⟩
    replace hx3 := hx2.trans hx3
    clear cc ff hx2 h2
    obtain ⟨cc, ff⟩ := own_cells 1 h3 rfl
    have hck := checkhead_any c p b _ w3 h3
    have HCK := Lib.hid hck
    clear hck
    unfold headV at HCK
    have N4 := rowOf_nonneg t row_
    generalize hrow : rowOf t row_ = rw_ at *
    obtain ⟨sr, fr⟩ := rw_
    dsimp only at N4
    have HR := Lib.hid hrow
    clear hrow
    by_cases hb : headBad c p b
    · rw [show headF c p b = 1 from if_pos hb] at HCK ⊢
      rw [if_neg (by decide)]
      clear hb
      go_wp2_with fail
      refine HCK.out.mono ?_
      rintro e w4 ⟨rfl, hx4, h4⟩
      replace hx4 := hx3.trans hx4
      clear cc ff hx3 h3
      go_wp2_with fail
      refine (same_any 1 1 _ (by decide)).mono ?_
      rintro e w5 ⟨rfl, rfl⟩
      go_wp2_with fail
      refine (same_any 1 1 _ (by decide)).mono ?_
      rintro e w5 ⟨rfl, rfl⟩
      have h9 := h4
      have hx9 := hx4
      generalize w4 = w9 at *
      clear h4 hx4
      go_upto_region 12 with (fail)
      obtain ⟨hn1, hn2⟩ := ents_news (HV.out.later 2 h9 rfl)
      have hml : 0 + t.length ≤ maxLen := by simp only [maxLen]; omega
      go_wp2_with (first | (at_builtin; refine wpList_append_row rfl _ _ 53 rfl 0 64 Try.underlying53 elem_entry rfl (by decide) rfl (own_row_nil 64 2 h9) rfl ao t.length cap (entCells t) rfl (entCells_len t) hn1 hn2 entCells_one hml (by omega) ?_))
      clear hn1 hn2
      intro v10 w10 h10 hx10
      obtain ⟨ao2, g2, cap2, rfl, c21, c22, a21, a22, a23, cells2, fr2⟩ := own_row_form 0 h10 rfl
      clear a21 a22 a23 cells2 fr2
      replace hx10 := hx9.trans hx10
      have hb := own_alloc h10 (.cells #[.int .i64 77, .int .i64 0] 64)
      have hml2 : t.length + 1 ≤ maxLen := by simp only [maxLen]; omega
      go_wp2_with (first | (at_builtin; refine wpList_append_row rfl _ _ 53 rfl 1 64 Try.underlying53 elem_entry rfl (by decide) rfl hb rfl (some ⟨w10.heap.size, 0, none⟩) 1 1 [.int .i64 77, .int .i64 0] rfl rfl (alloc_news w10 [.int .i64 77, .int .i64 0] _) (fun h => by cases h) (two_ints _ _) hml2 (by omega) ?_))
      intro v11 w11 h11 hx11
      obtain ⟨ao3, g3, cap3, rfl, c31, c32, a31, a32, a33, cells3, fr3⟩ := own_row_form 1 h11 rfl
      obtain rfl := a31 (by omega)
      have hx11 := (hx10.alloc (.cells #[.int .i64 77, .int .i64 0] 64)).trans hx11
      clear a31 a32 a33 cells3 fr3 hb h10 hx10 h9 hx9
      have h12 := own_drop h11
      clear h11
      replace h12 : own w11 (row 64 2 (.slice (some ⟨g3, 0, none⟩) (t.length + 1) cap3) (t.length + 1) (entCells t ++ [.int .i64 77, .int .i64 0]) :: pts gd (.cells #[.int .i64 r, .int .i64 k, .int .i64 f, .int .i64 x, .int .i64 y] 55 (0, 0)) :: pts g (.cells #[.int .i64 c, .int .i64 p, .int .i64 b] 52 (0, 0)) :: [exactly w]) := h12
      have HO := Lib.hid (fun w' L (H : own w' (L ++ (row 64 2 (.slice (some ⟨g3, 0, none⟩) (t.length + 1) cap3) (t.length + 1) (entCells t ++ [.int .i64 77, .int .i64 0]) :: pts gd (.cells #[.int .i64 r, .int .i64 k, .int .i64 f, .int .i64 x, .int .i64 y] 55 (0, 0)) :: pts g (.cells #[.int .i64 c, .int .i64 p, .int .i64 b] 52 (0, 0)) :: [exactly w]))) => (ents_row_part (L.length + 0) (l := t) H (at_behind (l := L) rfl) : entsAt w' (.slice (some ⟨g3, 0, none⟩) t.length cap3) t))
      have HVL := Lib.hid (fun w' L (H : own w' (L ++ (row 64 2 (.slice (some ⟨g3, 0, none⟩) (t.length + 1) cap3) (t.length + 1) (entCells t ++ [.int .i64 77, .int .i64 0]) :: pts gd (.cells #[.int .i64 r, .int .i64 k, .int .i64 f, .int .i64 x, .int .i64 y] 55 (0, 0)) :: pts g (.cells #[.int .i64 c, .int .i64 p, .int .i64 b] 52 (0, 0)) :: [exactly w]))) => HV.out.later (L.length + 3) H (at_behind (l := L) rfl))
      go_wp2_with fail
      refine (row_any _ t row_ (by omega) _ w11 HO.out h12).mono ?_
      rw [HR.out]
      rintro e w13 ⟨rfl, hx13, h13⟩
      replace hx13 := hx11.trans hx13
      clear hx11 h12
      dsimp only
      go_wp2_with fail
      refine (rrowof_any _ t row_ (by omega) _ w13 HVL.out h13).mono ?_
      rw [HR.out]
      rintro e w14 ⟨rfl, hx14, h14⟩
      replace hx14 := hx13.trans hx14
      clear hx13 h13
      dsimp only
      go_wp2_with fail
      refine (same_any fr fr _ N4).mono ?_
      rintro e w15 ⟨rfl, rfl⟩
      go_wp2_with fail
      refine (sametable_any _ _ t w14 (HO.out w14 [] h14) (HVL.out w14 [] h14)).mono ?_
      rintro e w15 ⟨rfl, nd, rfl⟩
      have h15 := own_drewN nd h14
      have hx15 := hx14.drewN nd
      clear h14 hx14
      generalize w14.drewN nd = w15 at *
      by_cases h32 : t.length ≤ 32
      · go_wp2_with fail
        refine (rows_any t.length (by omega) _).mono ?_
        rintro e w16 ⟨rfl, rfl⟩
        go_wp2_with fail
        refine (rrows_any t.length (by omega) _).mono ?_
        rintro e w16 ⟨rfl, rfl⟩
        obtain ⟨cc, ff⟩ := own_cells 1 h15 rfl
        go_wp2_with fail
        refine (deskfault_any r k f x y _ w15 h15).mono ?_
        rintro e w16 ⟨rfl, hx16, h16⟩
        replace hx16 := hx15.trans hx16
        clear cc ff hx15 h15
        obtain ⟨cc, ff⟩ := own_cells 1 h16 rfl
        go_wp2_with fail
        refine (desk_any r k f x y _ w16 h16).mono ?_
        rintro e w17 ⟨rfl, hx17, h17⟩
        replace hx17 := hx16.trans hx17
        clear cc ff hx16 h16
        obtain ⟨cc, ff⟩ := own_cells 1 h17 rfl
        have hckd := checkdesk_any r k f x y _ w17 h17
        have HCD := Lib.hid hckd
        clear hckd
        unfold deskV at HCD
        by_cases hd : deskF r k f x y = 0
        · have hof := deskOf_deskS hd
          have HSD := Lib.hid (fun (R : List SL.HP) (w : World) (H : own w R) => desksector_any r k f x y (deskF_in hd) R w H)
          have hszd : (deskS r k f x y).size ≤ 9223372036854775807 := by
            have : (deskS r k f x y).size = 16 := seal_size (xs := [68, 75, r, k, f + 1, x % 256, x / 256, y % 256, y / 256]) (by simp)
            omega
          have RD := Lib.hid (fun (R : List SL.HP) (w : World) (H : own w R) => readdesk_any (deskS r k f x y) hszd R w H)
          rw [hof] at RD
          dsimp only at RD
          unfold deskV at RD HSD
          rw [hd] at HCD
          rw [hd, if_pos rfl]
          clear hd hof
          generalize deskS r k f x y = ds at *
          go_wp2_with fail
          refine HCD.out.mono ?_
          rintro e w18 ⟨rfl, hx18, h18⟩
          replace hx18 := hx17.trans hx18
          clear cc ff hx17 h17
          go_wp2_with fail
          refine (same_any 0 0 _ (by decide)).mono ?_
          rintro e w19 ⟨rfl, rfl⟩
          go_wp2_with fail
          refine (same_any 0 0 _ (by decide)).mono ?_
          rintro e w19 ⟨rfl, rfl⟩
          go_wp2_with fail
          refine (RD.out _ w18 h18).mono ?_
          rintro e w20 ⟨rfl, hx20, h20⟩
          replace hx20 := hx18.trans hx20
          clear hx18 h18
          go_upto_region 24 with (fail)
          have h21 := own_alloc h20 (.cells #[.int .i64 r, .int .i64 k, .int .i64 f, .int .i64 x, .int .i64 y] 55)
          have hx21 := hx20.alloc (.cells #[.int .i64 r, .int .i64 k, .int .i64 f, .int .i64 x, .int .i64 y] 55)
          generalize w20.heap.size = p2 at *
          generalize w20.alloc (.cells #[.int .i64 r, .int .i64 k, .int .i64 f, .int .i64 x, .int .i64 y] 55) = w21 at *
          clear hx20 h20
          obtain ⟨cc, ff⟩ := own_cells 2 h21 rfl
          go_wp2_with fail
          refine (HSD.out _ w21 h21).mono ?_
          rintro e w22 ⟨rfl, hx22, h22⟩
          replace hx22 := hx21.trans hx22
          clear cc ff hx21 h21
          obtain ⟨cc, ff⟩ := own_cells 2 h22 rfl
          obtain ⟨c2, f2⟩ := own_cells 0 h22 rfl
          go_wp2_with fail
          refine (same_any 0 0 _ (by decide)).mono ?_
          rintro e w23 ⟨rfl, rfl⟩
          go_wp2_with fail
          go_ret
          exact ⟨by simp, below_of 4 h22 rfl hx22⟩
        · have hp := deskF_pos hd
          rw [if_neg hd]
          clear hd
          generalize deskF r k f x y = fd at *
          rw [errV_pos hp] at HCD ⊢
          have HPE := Lib.hid (errV_pos hp)
          go_wp2_with fail
          refine HCD.out.mono ?_
          rintro e w18 ⟨rfl, hx18, h18⟩
          replace hx18 := hx17.trans hx18
          clear cc ff hx17 h17
          rw [← HPE.out]
          go_wp2_with fail
          refine (same_any fd fd _ (by omega)).mono ?_
          rintro e w19 ⟨rfl, rfl⟩
          go_wp2_with fail
          refine (same_any fd fd _ (by omega)).mono ?_
          rintro e w19 ⟨rfl, rfl⟩
          go_wp2_with fail
          go_ret
          exact ⟨rfl, below_of 3 h18 rfl hx18⟩
      · obtain ⟨cc, ff⟩ := own_cells 1 h15 rfl
        go_wp2_with fail
        refine (deskfault_any r k f x y _ w15 h15).mono ?_
        rintro e w16 ⟨rfl, hx16, h16⟩
        replace hx16 := hx15.trans hx16
        clear cc ff hx15 h15
        obtain ⟨cc, ff⟩ := own_cells 1 h16 rfl
        go_wp2_with fail
        refine (desk_any r k f x y _ w16 h16).mono ?_
        rintro e w17 ⟨rfl, hx17, h17⟩
        replace hx17 := hx16.trans hx17
        clear cc ff hx16 h16
        obtain ⟨cc, ff⟩ := own_cells 1 h17 rfl
        have hckd := checkdesk_any r k f x y _ w17 h17
        have HCD := Lib.hid hckd
        clear hckd
        unfold deskV at HCD
        by_cases hd : deskF r k f x y = 0
        · have hof := deskOf_deskS hd
          have HSD := Lib.hid (fun (R : List SL.HP) (w : World) (H : own w R) => desksector_any r k f x y (deskF_in hd) R w H)
          have hszd : (deskS r k f x y).size ≤ 9223372036854775807 := by
            have : (deskS r k f x y).size = 16 := seal_size (xs := [68, 75, r, k, f + 1, x % 256, x / 256, y % 256, y / 256]) (by simp)
            omega
          have RD := Lib.hid (fun (R : List SL.HP) (w : World) (H : own w R) => readdesk_any (deskS r k f x y) hszd R w H)
          rw [hof] at RD
          dsimp only at RD
          unfold deskV at RD HSD
          rw [hd] at HCD
          rw [hd, if_pos rfl]
          clear hd hof
          generalize deskS r k f x y = ds at *
          go_wp2_with fail
          refine HCD.out.mono ?_
          rintro e w18 ⟨rfl, hx18, h18⟩
          replace hx18 := hx17.trans hx18
          clear cc ff hx17 h17
          go_wp2_with fail
          refine (same_any 0 0 _ (by decide)).mono ?_
          rintro e w19 ⟨rfl, rfl⟩
          go_wp2_with fail
          refine (same_any 0 0 _ (by decide)).mono ?_
          rintro e w19 ⟨rfl, rfl⟩
          go_wp2_with fail
          refine (RD.out _ w18 h18).mono ?_
          rintro e w20 ⟨rfl, hx20, h20⟩
          replace hx20 := hx18.trans hx20
          clear hx18 h18
          go_upto_region 24 with (fail)
          have h21 := own_alloc h20 (.cells #[.int .i64 r, .int .i64 k, .int .i64 f, .int .i64 x, .int .i64 y] 55)
          have hx21 := hx20.alloc (.cells #[.int .i64 r, .int .i64 k, .int .i64 f, .int .i64 x, .int .i64 y] 55)
          generalize w20.heap.size = p2 at *
          generalize w20.alloc (.cells #[.int .i64 r, .int .i64 k, .int .i64 f, .int .i64 x, .int .i64 y] 55) = w21 at *
          clear hx20 h20
          obtain ⟨cc, ff⟩ := own_cells 2 h21 rfl
          go_wp2_with fail
          refine (HSD.out _ w21 h21).mono ?_
          rintro e w22 ⟨rfl, hx22, h22⟩
          replace hx22 := hx21.trans hx22
          clear cc ff hx21 h21
          obtain ⟨cc, ff⟩ := own_cells 2 h22 rfl
          obtain ⟨c2, f2⟩ := own_cells 0 h22 rfl
          go_wp2_with fail
          refine (same_any 0 0 _ (by decide)).mono ?_
          rintro e w23 ⟨rfl, rfl⟩
          go_wp2_with fail
          go_ret
          exact ⟨by simp, below_of 4 h22 rfl hx22⟩
        · have hp := deskF_pos hd
          rw [if_neg hd]
          clear hd
          generalize deskF r k f x y = fd at *
          rw [errV_pos hp] at HCD ⊢
          have HPE := Lib.hid (errV_pos hp)
          go_wp2_with fail
          refine HCD.out.mono ?_
          rintro e w18 ⟨rfl, hx18, h18⟩
          replace hx18 := hx17.trans hx18
          clear cc ff hx17 h17
          rw [← HPE.out]
          go_wp2_with fail
          refine (same_any fd fd _ (by omega)).mono ?_
          rintro e w19 ⟨rfl, rfl⟩
          go_wp2_with fail
          refine (same_any fd fd _ (by omega)).mono ?_
          rintro e w19 ⟨rfl, rfl⟩
          go_wp2_with fail
          go_ret
          exact ⟨rfl, below_of 3 h18 rfl hx18⟩
    · rw [show headF c p b = 0 from if_neg hb] at HCK ⊢
      rw [if_pos rfl]
      have hof := headOf_headS hb
      have HSS := Lib.hid (fun (R : List SL.HP) (w : World) (H : own w R) => headsector_any c p b hb R w H)
      have hsz : (headS c p b).size ≤ 9223372036854775807 := by
        have : (headS c p b).size = 16 := seal_size (xs := [83, 89, c, p, b + 1]) (by simp)
        omega
      have RH := Lib.hid (fun (R : List SL.HP) (w : World) (H : own w R) => readhead_any (headS c p b) hsz R w H)
      rw [hof] at RH
      dsimp only at RH
      unfold headV at RH HSS
      clear hb hof
      generalize headS c p b = hs at *
      go_wp2_with fail
      refine HCK.out.mono ?_
      rintro e w4 ⟨rfl, hx4, h4⟩
      replace hx4 := hx3.trans hx4
      clear cc ff hx3 h3
      go_wp2_with fail
      refine (same_any 0 0 _ (by decide)).mono ?_
      rintro e w5 ⟨rfl, rfl⟩
      go_wp2_with fail
      refine (same_any 0 0 _ (by decide)).mono ?_
      rintro e w5 ⟨rfl, rfl⟩
      go_wp2_with fail
      refine (RH.out _ w4 h4).mono ?_
      rintro e w6 ⟨rfl, hx6, h6⟩
      replace hx6 := hx4.trans hx6
      clear hx4 h4
      go_upto_region 10 with (fail)
      have h7 := own_alloc h6 (.cells #[.int .i64 c, .int .i64 p, .int .i64 b] 52)
      have hx7 := hx6.alloc (.cells #[.int .i64 c, .int .i64 p, .int .i64 b] 52)
      generalize w6.heap.size = p1 at *
      generalize w6.alloc (.cells #[.int .i64 c, .int .i64 p, .int .i64 b] 52) = w7 at *
      clear hx6 h6
      obtain ⟨cc, ff⟩ := own_cells 2 h7 rfl
      go_wp2_with fail
      refine (HSS.out _ w7 h7).mono ?_
      rintro e w8 ⟨rfl, hx8, h8⟩
      replace hx8 := hx7.trans hx8
      clear cc ff hx7 h7
      obtain ⟨cc, ff⟩ := own_cells 2 h8 rfl
      obtain ⟨c2, f2⟩ := own_cells 0 h8 rfl
      go_wp2_with fail
      refine (same_any 0 0 _ (by decide)).mono ?_
      rintro e w9 ⟨rfl, rfl⟩
      go_upto_region 12 with (fail)
      have h9 := own_drop h8
      have hx9 := hx8
      generalize w8 = w9 at *
      clear h8 hx8 cc ff c2 f2 RH HSS
      obtain ⟨hn1, hn2⟩ := ents_news (HV.out.later 2 h9 rfl)
      have hml : 0 + t.length ≤ maxLen := by simp only [maxLen]; omega
      go_wp2_with (first | (at_builtin; refine wpList_append_row rfl _ _ 53 rfl 0 64 Try.underlying53 elem_entry rfl (by decide) rfl (own_row_nil 64 2 h9) rfl ao t.length cap (entCells t) rfl (entCells_len t) hn1 hn2 entCells_one hml (by omega) ?_))
      clear hn1 hn2
      intro v10 w10 h10 hx10
      obtain ⟨ao2, g2, cap2, rfl, c21, c22, a21, a22, a23, cells2, fr2⟩ := own_row_form 0 h10 rfl
      clear a21 a22 a23 cells2 fr2
      replace hx10 := hx9.trans hx10
      have hb := own_alloc h10 (.cells #[.int .i64 77, .int .i64 0] 64)
      have hml2 : t.length + 1 ≤ maxLen := by simp only [maxLen]; omega
      go_wp2_with (first | (at_builtin; refine wpList_append_row rfl _ _ 53 rfl 1 64 Try.underlying53 elem_entry rfl (by decide) rfl hb rfl (some ⟨w10.heap.size, 0, none⟩) 1 1 [.int .i64 77, .int .i64 0] rfl rfl (alloc_news w10 [.int .i64 77, .int .i64 0] _) (fun h => by cases h) (two_ints _ _) hml2 (by omega) ?_))
      intro v11 w11 h11 hx11
      obtain ⟨ao3, g3, cap3, rfl, c31, c32, a31, a32, a33, cells3, fr3⟩ := own_row_form 1 h11 rfl
      obtain rfl := a31 (by omega)
      have hx11 := (hx10.alloc (.cells #[.int .i64 77, .int .i64 0] 64)).trans hx11
      clear a31 a32 a33 cells3 fr3 hb h10 hx10 h9 hx9
      have h12 := own_drop h11
      clear h11
      replace h12 : own w11 (row 64 2 (.slice (some ⟨g3, 0, none⟩) (t.length + 1) cap3) (t.length + 1) (entCells t ++ [.int .i64 77, .int .i64 0]) :: pts gd (.cells #[.int .i64 r, .int .i64 k, .int .i64 f, .int .i64 x, .int .i64 y] 55 (0, 0)) :: pts g (.cells #[.int .i64 c, .int .i64 p, .int .i64 b] 52 (0, 0)) :: [exactly w]) := h12
      have HO := Lib.hid (fun w' L (H : own w' (L ++ (row 64 2 (.slice (some ⟨g3, 0, none⟩) (t.length + 1) cap3) (t.length + 1) (entCells t ++ [.int .i64 77, .int .i64 0]) :: pts gd (.cells #[.int .i64 r, .int .i64 k, .int .i64 f, .int .i64 x, .int .i64 y] 55 (0, 0)) :: pts g (.cells #[.int .i64 c, .int .i64 p, .int .i64 b] 52 (0, 0)) :: [exactly w]))) => (ents_row_part (L.length + 0) (l := t) H (at_behind (l := L) rfl) : entsAt w' (.slice (some ⟨g3, 0, none⟩) t.length cap3) t))
      have HVL := Lib.hid (fun w' L (H : own w' (L ++ (row 64 2 (.slice (some ⟨g3, 0, none⟩) (t.length + 1) cap3) (t.length + 1) (entCells t ++ [.int .i64 77, .int .i64 0]) :: pts gd (.cells #[.int .i64 r, .int .i64 k, .int .i64 f, .int .i64 x, .int .i64 y] 55 (0, 0)) :: pts g (.cells #[.int .i64 c, .int .i64 p, .int .i64 b] 52 (0, 0)) :: [exactly w]))) => HV.out.later (L.length + 3) H (at_behind (l := L) rfl))
      go_wp2_with fail
      refine (row_any _ t row_ (by omega) _ w11 HO.out h12).mono ?_
      rw [HR.out]
      rintro e w13 ⟨rfl, hx13, h13⟩
      replace hx13 := hx11.trans hx13
      clear hx11 h12
      dsimp only
      go_wp2_with fail
      refine (rrowof_any _ t row_ (by omega) _ w13 HVL.out h13).mono ?_
      rw [HR.out]
      rintro e w14 ⟨rfl, hx14, h14⟩
      replace hx14 := hx13.trans hx14
      clear hx13 h13
      dsimp only
      go_wp2_with fail
      refine (same_any fr fr _ N4).mono ?_
      rintro e w15 ⟨rfl, rfl⟩
      go_wp2_with fail
      refine (sametable_any _ _ t w14 (HO.out w14 [] h14) (HVL.out w14 [] h14)).mono ?_
      rintro e w15 ⟨rfl, nd, rfl⟩
      have h15 := own_drewN nd h14
      have hx15 := hx14.drewN nd
      clear h14 hx14
      generalize w14.drewN nd = w15 at *
      by_cases h32 : t.length ≤ 32
      · go_wp2_with fail
        refine (rows_any t.length (by omega) _).mono ?_
        rintro e w16 ⟨rfl, rfl⟩
        go_wp2_with fail
        refine (rrows_any t.length (by omega) _).mono ?_
        rintro e w16 ⟨rfl, rfl⟩
        obtain ⟨cc, ff⟩ := own_cells 1 h15 rfl
        go_wp2_with fail
        refine (deskfault_any r k f x y _ w15 h15).mono ?_
        rintro e w16 ⟨rfl, hx16, h16⟩
        replace hx16 := hx15.trans hx16
        clear cc ff hx15 h15
        obtain ⟨cc, ff⟩ := own_cells 1 h16 rfl
        go_wp2_with fail
        refine (desk_any r k f x y _ w16 h16).mono ?_
        rintro e w17 ⟨rfl, hx17, h17⟩
        replace hx17 := hx16.trans hx17
        clear cc ff hx16 h16
        obtain ⟨cc, ff⟩ := own_cells 1 h17 rfl
        have hckd := checkdesk_any r k f x y _ w17 h17
        have HCD := Lib.hid hckd
        clear hckd
        unfold deskV at HCD
        by_cases hd : deskF r k f x y = 0
        · have hof := deskOf_deskS hd
          have HSD := Lib.hid (fun (R : List SL.HP) (w : World) (H : own w R) => desksector_any r k f x y (deskF_in hd) R w H)
          have hszd : (deskS r k f x y).size ≤ 9223372036854775807 := by
            have : (deskS r k f x y).size = 16 := seal_size (xs := [68, 75, r, k, f + 1, x % 256, x / 256, y % 256, y / 256]) (by simp)
            omega
          have RD := Lib.hid (fun (R : List SL.HP) (w : World) (H : own w R) => readdesk_any (deskS r k f x y) hszd R w H)
          rw [hof] at RD
          dsimp only at RD
          unfold deskV at RD HSD
          rw [hd] at HCD
          rw [hd, if_pos rfl]
          clear hd hof
          generalize deskS r k f x y = ds at *
          go_wp2_with fail
          refine HCD.out.mono ?_
          rintro e w18 ⟨rfl, hx18, h18⟩
          replace hx18 := hx17.trans hx18
          clear cc ff hx17 h17
          go_wp2_with fail
          refine (same_any 0 0 _ (by decide)).mono ?_
          rintro e w19 ⟨rfl, rfl⟩
          go_wp2_with fail
          refine (same_any 0 0 _ (by decide)).mono ?_
          rintro e w19 ⟨rfl, rfl⟩
          go_wp2_with fail
          refine (RD.out _ w18 h18).mono ?_
          rintro e w20 ⟨rfl, hx20, h20⟩
          replace hx20 := hx18.trans hx20
          clear hx18 h18
          go_upto_region 24 with (fail)
          have h21 := own_alloc h20 (.cells #[.int .i64 r, .int .i64 k, .int .i64 f, .int .i64 x, .int .i64 y] 55)
          have hx21 := hx20.alloc (.cells #[.int .i64 r, .int .i64 k, .int .i64 f, .int .i64 x, .int .i64 y] 55)
          generalize w20.heap.size = p2 at *
          generalize w20.alloc (.cells #[.int .i64 r, .int .i64 k, .int .i64 f, .int .i64 x, .int .i64 y] 55) = w21 at *
          clear hx20 h20
          obtain ⟨cc, ff⟩ := own_cells 2 h21 rfl
          go_wp2_with fail
          refine (HSD.out _ w21 h21).mono ?_
          rintro e w22 ⟨rfl, hx22, h22⟩
          replace hx22 := hx21.trans hx22
          clear cc ff hx21 h21
          obtain ⟨cc, ff⟩ := own_cells 2 h22 rfl
          obtain ⟨c2, f2⟩ := own_cells 0 h22 rfl
          go_wp2_with fail
          refine (same_any 0 0 _ (by decide)).mono ?_
          rintro e w23 ⟨rfl, rfl⟩
          go_wp2_with fail
          go_ret
          exact ⟨by simp, below_of 4 h22 rfl hx22⟩
        · have hp := deskF_pos hd
          rw [if_neg hd]
          clear hd
          generalize deskF r k f x y = fd at *
          rw [errV_pos hp] at HCD ⊢
          have HPE := Lib.hid (errV_pos hp)
          go_wp2_with fail
          refine HCD.out.mono ?_
          rintro e w18 ⟨rfl, hx18, h18⟩
          replace hx18 := hx17.trans hx18
          clear cc ff hx17 h17
          rw [← HPE.out]
          go_wp2_with fail
          refine (same_any fd fd _ (by omega)).mono ?_
          rintro e w19 ⟨rfl, rfl⟩
          go_wp2_with fail
          refine (same_any fd fd _ (by omega)).mono ?_
          rintro e w19 ⟨rfl, rfl⟩
          go_wp2_with fail
          go_ret
          exact ⟨rfl, below_of 3 h18 rfl hx18⟩
      · obtain ⟨cc, ff⟩ := own_cells 1 h15 rfl
        go_wp2_with fail
        refine (deskfault_any r k f x y _ w15 h15).mono ?_
        rintro e w16 ⟨rfl, hx16, h16⟩
        replace hx16 := hx15.trans hx16
        clear cc ff hx15 h15
        obtain ⟨cc, ff⟩ := own_cells 1 h16 rfl
        go_wp2_with fail
        refine (desk_any r k f x y _ w16 h16).mono ?_
        rintro e w17 ⟨rfl, hx17, h17⟩
        replace hx17 := hx16.trans hx17
        clear cc ff hx16 h16
        obtain ⟨cc, ff⟩ := own_cells 1 h17 rfl
        have hckd := checkdesk_any r k f x y _ w17 h17
        have HCD := Lib.hid hckd
        clear hckd
        unfold deskV at HCD
        by_cases hd : deskF r k f x y = 0
        · have hof := deskOf_deskS hd
          have HSD := Lib.hid (fun (R : List SL.HP) (w : World) (H : own w R) => desksector_any r k f x y (deskF_in hd) R w H)
          have hszd : (deskS r k f x y).size ≤ 9223372036854775807 := by
            have : (deskS r k f x y).size = 16 := seal_size (xs := [68, 75, r, k, f + 1, x % 256, x / 256, y % 256, y / 256]) (by simp)
            omega
          have RD := Lib.hid (fun (R : List SL.HP) (w : World) (H : own w R) => readdesk_any (deskS r k f x y) hszd R w H)
          rw [hof] at RD
          dsimp only at RD
          unfold deskV at RD HSD
          rw [hd] at HCD
          rw [hd, if_pos rfl]
          clear hd hof
          generalize deskS r k f x y = ds at *
          go_wp2_with fail
          refine HCD.out.mono ?_
          rintro e w18 ⟨rfl, hx18, h18⟩
          replace hx18 := hx17.trans hx18
          clear cc ff hx17 h17
          go_wp2_with fail
          refine (same_any 0 0 _ (by decide)).mono ?_
          rintro e w19 ⟨rfl, rfl⟩
          go_wp2_with fail
          refine (same_any 0 0 _ (by decide)).mono ?_
          rintro e w19 ⟨rfl, rfl⟩
          go_wp2_with fail
          refine (RD.out _ w18 h18).mono ?_
          rintro e w20 ⟨rfl, hx20, h20⟩
          replace hx20 := hx18.trans hx20
          clear hx18 h18
          go_upto_region 24 with (fail)
          have h21 := own_alloc h20 (.cells #[.int .i64 r, .int .i64 k, .int .i64 f, .int .i64 x, .int .i64 y] 55)
          have hx21 := hx20.alloc (.cells #[.int .i64 r, .int .i64 k, .int .i64 f, .int .i64 x, .int .i64 y] 55)
          generalize w20.heap.size = p2 at *
          generalize w20.alloc (.cells #[.int .i64 r, .int .i64 k, .int .i64 f, .int .i64 x, .int .i64 y] 55) = w21 at *
          clear hx20 h20
          obtain ⟨cc, ff⟩ := own_cells 2 h21 rfl
          go_wp2_with fail
          refine (HSD.out _ w21 h21).mono ?_
          rintro e w22 ⟨rfl, hx22, h22⟩
          replace hx22 := hx21.trans hx22
          clear cc ff hx21 h21
          obtain ⟨cc, ff⟩ := own_cells 2 h22 rfl
          obtain ⟨c2, f2⟩ := own_cells 0 h22 rfl
          go_wp2_with fail
          refine (same_any 0 0 _ (by decide)).mono ?_
          rintro e w23 ⟨rfl, rfl⟩
          go_wp2_with fail
          go_ret
          exact ⟨by simp, below_of 4 h22 rfl hx22⟩
        · have hp := deskF_pos hd
          rw [if_neg hd]
          clear hd
          generalize deskF r k f x y = fd at *
          rw [errV_pos hp] at HCD ⊢
          have HPE := Lib.hid (errV_pos hp)
          go_wp2_with fail
          refine HCD.out.mono ?_
          rintro e w18 ⟨rfl, hx18, h18⟩
          replace hx18 := hx17.trans hx18
          clear cc ff hx17 h17
          rw [← HPE.out]
          go_wp2_with fail
          refine (same_any fd fd _ (by omega)).mono ?_
          rintro e w19 ⟨rfl, rfl⟩
          go_wp2_with fail
          refine (same_any fd fd _ (by omega)).mono ?_
          rintro e w19 ⟨rfl, rfl⟩
          go_wp2_with fail
          go_ret
          exact ⟨rfl, below_of 3 h18 rfl hx18⟩
  · go_wp2_with fail
    go_ret
    exact ⟨rfl, below_of 2 h1 rfl hx1⟩
end Go.Proofs.Ytbpblokfiajpjaa
