/- Tables: one row, by the document and by the program. No conditions. -/
import Derived.Test.YtbpblokfiajpjaaShape6
namespace Go.Proofs.Ytbpblokfiajpjaa
open Go.RowKit Go.SL Go.Crc
attribute [local go_sem ↓] Go.wp_at_zero Go.wp_at_succ

def rowEnts (t : List Ent) (r : Nat) : List Ent := (List.range 8).map fun k => t.getD (8 * r + k) (0, 0)
def entNums (l : List Ent) : List Int := l.flatMap fun e => [e.1, e.2]
def rowOut (t : List Ent) (row : Int) : Prop := 32 < t.length ∨ row < 0 ∨ (rowsN t.length : Int) ≤ row
instance (t : List Ent) (row : Int) : Decidable (rowOut t row) := by unfold rowOut; infer_instance
def rowOf (t : List Ent) (row : Int) : ByteArray × Int :=
  if rowOut t row then (ByteArray.empty, 1) else if (rowEnts t row.toNat).all (fun e => entOk e 40) then (strOfNums (entNums (rowEnts t row.toNat)), 0) else (ByteArray.empty, 2)

theorem rowEnts_len (t : List Ent) (r : Nat) : (rowEnts t r).length = 8 := by simp [rowEnts]
theorem rowEnts_get (t : List Ent) (r k : Nat) (h : k < 8) : (rowEnts t r).getD k (0, 0) = t.getD (8 * r + k) (0, 0) := by simp [rowEnts, h]
theorem rowOf_bad {t : List Ent} {r k : Nat} (h : ¬ rowOut t r) (hk : k < 8) (hb : entOk (t.getD (8 * r + k) (0, 0)) 40 = false) : rowOf t r = (ByteArray.empty, 2) := by
  rw [rowOf, if_neg h, if_neg]
  intro hall
  have := List.all_eq_true.1 hall (t.getD (8 * r + k) (0, 0)) (by simp only [rowEnts, Int.toNat_natCast, List.mem_map, List.mem_range]; exact ⟨k, hk, rfl⟩)
  rw [hb] at this
  cases this
theorem rowOf_ok {t : List Ent} {r : Nat} (h : ¬ rowOut t r) (ha : ∀ k, k < 8 → entOk (t.getD (8 * r + k) (0, 0)) 40 = true) : rowOf t r = (strOfNums (entNums (rowEnts t r)), 0) := by
  rw [rowOf, if_neg h, if_pos]
  · rfl
  · refine List.all_eq_true.2 fun e he => ?_
    simp only [rowEnts, Int.toNat_natCast, List.mem_map, List.mem_range] at he
    obtain ⟨k, hk, rfl⟩ := he
    exact ha k hk
theorem entNums_len (l : List Ent) : (entNums l).length = l.length * 2 := by
  induction l with
  | nil => rfl
  | cons x l ih => simp only [entNums, List.flatMap_cons, List.length_append, List.length_cons, List.length_nil] at ih ⊢; omega
theorem rowNums_succ (t : List Ent) (r k : Nat) (h : k < 8) : byteCells (entNums ((rowEnts t r).take (k + 1))) = byteCells (entNums ((rowEnts t r).take k)) ++ [.int .u8 (t.getD (8 * r + k) (0, 0)).1, .int .u8 (t.getD (8 * r + k) (0, 0)).2] := by
  rw [take_succ_getD (0, 0) (by rw [rowEnts_len]; exact h), rowEnts_get _ _ _ h]
  simp [entNums, byteCells]
theorem entOk_range {e : Ent} {p : Int} (h : entOk e p = true) : 0 ≤ e.1 ∧ e.1 ≤ 2 ∧ 0 ≤ e.2 ∧ (e.2 < p ∨ e.2 = 0) := by
  unfold entOk at h
  split at h
  · simp at h; omega
  · simp at h; omega

theorem entsAt.form {w : World} {v : Value} {l : List Ent} (h : entsAt w v l) : ∃ ao b off cap, v = .slice ao l.length cap ∧ l.length ≤ cap ∧ cap ≤ 9223372036854775807 ∧ (0 < l.length → ao = some ⟨b, off, none⟩) := by
  obtain ⟨ao, b, off, cap, hv, h1, h2, h3, h4⟩ := h
  exact ⟨ao, b, off, cap, hv, h1, h2, h3⟩
theorem entsAt.cells {w : World} {b off n cap : Nat} {l : List Ent} (h : entsAt w (.slice (some ⟨b, off, none⟩) n cap) l) {i : Nat} (hi : i < l.length) :
    w.cell? ⟨b, off + i * 2, none⟩ = some (.int .i64 (l.getD i (0, 0)).1) ∧ w.cell? ⟨b, off + i * 2 + 1, none⟩ = some (.int .i64 (l.getD i (0, 0)).2) := by
  obtain ⟨ao, b', off', cap', hv, h1, h2, h3, h4⟩ := h
  simp only [Value.slice.injEq] at hv
  have h5 := h3 (by omega)
  rw [← hv.1] at h5
  simp only [Option.some.injEq, Addr.mk.injEq, and_true] at h5
  obtain ⟨rfl, rfl⟩ := h5
  exact h4 i hi
theorem two_bytes (a b : Int) : ∀ u ∈ [Value.int .u8 a, Value.int .u8 b], u.oneCell' = true := fun u hu => by simp at hu; rcases hu with rfl | rfl <;> rfl
theorem conv_u8 {a : Int} (h0 : 0 ≤ a) (h1 : a < 256) : IntKind.u8.wrap a = a := by
  simp [IntKind.wrap, IntKind.signed, IntKind.bits]; omega

def rowInv (t : List Ent) (r : Nat) (R : List SL.HP) (w0 : World) (vb vi : Value) (wr : World) : Prop :=
  ∃ k : Nat, k ≤ 8 ∧ vi = .int .i64 k ∧ (∀ j, j < k → entOk (t.getD (8 * r + j) (0, 0)) 40 = true) ∧ Ext w0 wr ∧ own wr (row 5 1 vb (2 * k) (byteCells (entNums ((rowEnts t r).take k))) :: R)

set_option maxRecDepth 100000 in
set_option maxHeartbeats 1000000 in
theorem rrowof_out (v : Value) (t : List Ent) (row : Int) (ht : t.length ≤ 1000) (ho : rowOut t row) (R : List SL.HP) (w : World) (hv : ∀ w' l, own w' (l ++ R) → entsAt w' v t) (H : own w R) :
    Calls Try.prog 36 #[v, .int .i64 row] w fun e w' => e = .returned (.tuple #[.string ByteArray.empty, .int .i64 1]) ∧ Ext w w' ∧ own w' R := by
  obtain ⟨ao, b, off, cap, rfl, c1, c2, c3⟩ := (hv w [] H).form
  unfold rowOut at ho
  by_cases h1 : 32 < t.length
  · clear hv c3 ho
    go_enter Try.func36, Try.ntmps36
    go_wp2_with fail
    go_ret2
    exact ⟨rfl, Ext.refl _, H⟩
  · by_cases h2 : row < 0
    · clear hv c3 ho
      go_enter Try.func36, Try.ntmps36
      go_wp2_with fail
      go_ret2
      exact ⟨rfl, Ext.refl _, H⟩
    · have h3 : (rowsN t.length : Int) ≤ row := by omega
      clear hv c3 ho
      go_enter Try.func36, Try.ntmps36
      go_wp2_with (go_at_call 39; refine (rrows_any _ (by omega) _).mono ?_; rintro e w' ⟨rfl, rfl⟩)
      go_ret2
      exact ⟨rfl, Ext.refl _, H⟩

set_option maxRecDepth 100000 in
set_option maxHeartbeats 2000000 in
theorem rrowof_in (v : Value) (t : List Ent) (r : Nat) (ho : ¬ rowOut t r) (R : List SL.HP) (w : World) (hv : ∀ w' l, own w' (l ++ R) → entsAt w' v t) (H : own w R) :
    Calls Try.prog 36 #[v, .int .i64 r] w fun e w' => e = .returned (.tuple #[.string (rowOf t r).1, .int .i64 (rowOf t r).2]) ∧ Ext w w' ∧ own w' R := by
  obtain ⟨ao, b, off, cap, rfl, c1, c2, c3⟩ := (hv w [] H).form
  have hbad : ∀ k : Nat, k < 8 → entOk (t.getD (8 * r + k) (0, 0)) 40 = false → rowOf t r = (ByteArray.empty, 2) := fun k h1 h2 => rowOf_bad ho h1 h2
  have hok := rowOf_ok ho
  have HO := Lib.hid ho
  have HB := Lib.hid hbad
  have HK := Lib.hid hok
  unfold rowOut at ho
  have h1 : t.length ≤ 32 := by omega
  have h3 : (r : Int) < (rowsN t.length : Int) := by omega
  have h4 : r ≤ 4 := by have : rowsN t.length ≤ 4 := by unfold rowsN; omega
                        omega
  have HV := Lib.hid hv
  have HC := Lib.hid c3
  have b1 : decide (32 < (t.length : Int)) = false := by simp; omega
  have b2 : decide ((r : Int) < 0) = false := by simp
  have b3 : decide (rowsN t.length ≤ r) = false := by simp; omega
  clear hv c3 ho hbad hok
  go_enter Try.func36, Try.ntmps36
  go_wp2_with (go_at_call 39; refine (rrows_any _ (by omega) _).mono ?_; rintro e w' ⟨rfl, rfl⟩)
  go_loopw [6, 7] (rowInv t r R w) (fun _ i _ => 8 - (intOf i).toNat)
  case atStart => exact ⟨0, by omega, rfl, fun j h => absurd h (by omega), Ext.refl _, own_row_nil _ _ H⟩
  case round =>
    obtain ⟨k, hk, rfl, hj, hxr, hown⟩ := hrel
    have HJ := Lib.hid hj
    clear hj
    obtain ⟨a1, g1, c1', rfl, q1, q2, -, -, -, -, -⟩ := own_row_form 0 hown rfl
    by_cases hlt : k < 8
    · go_upto_region 8 with (fail)
      have ha := own_alloc hown (.cells #[.int .i64 0, .int .i64 0] 64)
      have hxa := hxr.alloc (.cells #[.int .i64 0, .int .i64 0] 64)
      generalize wr.heap.size = p at *
      generalize wr.alloc (.cells #[.int .i64 0, .int .i64 0] 64) = wa at *
      by_cases hin : 8 * r + k < t.length
      · obtain rfl := HC.out (by omega)
        have hcell := (HV.out wa [_, _] ha).cells hin
        obtain ⟨e1, e2⟩ := hcell
        obtain ⟨cc, ff⟩ := own_cells 0 ha rfl
        generalize hx : t.getD (8 * r + k) (0, 0) = x at *
        have HX := Lib.hid hx
        clear hx
        obtain ⟨x1, x2⟩ := x
        dsimp only at e1 e2
        go_wp2_with fail
        have h5 := own_set (i := 1) (v := .int .i64 x2) 0 (own_set (i := 0) (v := .int .i64 x1) 0 ha rfl) rfl
        have hx5 := (hxa.setCell ⟨p, 0, none⟩ (.int .i64 x1)).setCell ⟨p, 1, none⟩ (.int .i64 x2)
        clear e1 e2
        refine (entry_any x1 x2 40 _ _ h5).mono ?_
        rintro e w2 ⟨rfl, hx2, h2⟩
        by_cases hok : entOk (x1, x2) 40 = true
        · rw [hok]
          obtain ⟨y1, y2, y3, y4⟩ := entOk_range hok
          dsimp only at y1 y2 y3 y4
          have y5 : x2 < 40 := by omega
          have HE := Lib.hid hok
          clear hok y4 cc ff
          obtain ⟨cc, ff⟩ := own_cells 0 h2 rfl
          have h3 := own_alloc h2 (.cells #[.int .u8 x1, .int .u8 x2] 5)
          have hml : 2 * k + 2 ≤ maxLen := by simp only [maxLen]; omega
          go_wp2_with (first | (at_builtin; refine wpList_append_row rfl _ _ 96 rfl 2 5 Try.underlying96 elem_byte rfl (by decide) rfl h3 rfl (some ⟨w2.heap.size, 0, none⟩) 2 2 [.int .u8 x1, .int .u8 x2] rfl rfl (alloc_news w2 [.int .u8 x1, .int .u8 x2] _) (fun h => by cases h) (two_bytes _ _) hml (by omega) ?_))
          intro v4 w4 h4 hx4
          obtain ⟨a4, g4, c4, rfl, z1, z2, -, -, -, -, -⟩ := own_row_form 2 h4 rfl
          go_wp2_with fail
          go_roundw
          case rel =>
            refine ⟨k + 1, by omega, by go_num, fun j hj => ?_, (((hx5.trans hx2).alloc _).trans hx4), ?_⟩
            · by_cases ej : j = k
              · subst ej; rw [HX.out]; exact HE.out
              · exact HJ.out j (by omega)
            · rw [rowNums_succ _ _ _ hlt, HX.out]
              exact own_drop (own_drop h4)
          case measure => simp [intOf]; omega
        · have hok' : entOk (x1, x2) 40 = false := by simpa using hok
          have hfin := HB.out k hlt (by rw [HX.out]; exact hok')
          have HF := Lib.hid hfin
          rw [hok']
          clear hfin hok' hok cc ff
          go_wp2_with fail
          go_ret2
          exact ⟨by rw [HF.out]; rfl, hx5.trans hx2, own_drop (own_drop h2)⟩
      · have hx : t.getD (8 * r + k) (0, 0) = (0, 0) := by simp [List.getD, show t.length ≤ 8 * r + k by omega]
        have HX := Lib.hid hx
        clear hx
        obtain ⟨cc, ff⟩ := own_cells 0 ha rfl
        have h5 := ha
        have hx5 := hxa
        go_wp2_with fail
        refine (entry_any 0 0 40 _ _ h5).mono ?_
        rintro e w2 ⟨rfl, hx2, h2⟩
        by_cases hok : entOk (0, 0) 40 = true
        · rw [hok]
          obtain ⟨y1, y2, y3, y4⟩ := entOk_range hok
          dsimp only at y1 y2 y3 y4
          have y5 : 0 < 40 := by omega
          have HE := Lib.hid hok
          clear hok y4 cc ff
          obtain ⟨cc, ff⟩ := own_cells 0 h2 rfl
          have h3 := own_alloc h2 (.cells #[.int .u8 0, .int .u8 0] 5)
          have hml : 2 * k + 2 ≤ maxLen := by simp only [maxLen]; omega
          go_wp2_with (first | (at_builtin; refine wpList_append_row rfl _ _ 96 rfl 2 5 Try.underlying96 elem_byte rfl (by decide) rfl h3 rfl (some ⟨w2.heap.size, 0, none⟩) 2 2 [.int .u8 0, .int .u8 0] rfl rfl (alloc_news w2 [.int .u8 0, .int .u8 0] _) (fun h => by cases h) (two_bytes _ _) hml (by omega) ?_))
          intro v4 w4 h4 hx4
          obtain ⟨a4, g4, c4, rfl, z1, z2, -, -, -, -, -⟩ := own_row_form 2 h4 rfl
          go_wp2_with fail
          go_roundw
          case rel =>
            refine ⟨k + 1, by omega, by go_num, fun j hj => ?_, (((hx5.trans hx2).alloc _).trans hx4), ?_⟩
            · by_cases ej : j = k
              · subst ej; rw [HX.out]; exact HE.out
              · exact HJ.out j (by omega)
            · rw [rowNums_succ _ _ _ hlt, HX.out]
              exact own_drop (own_drop h4)
          case measure => simp [intOf]; omega
        · have hok' : entOk (0, 0) 40 = false := by simpa using hok
          have hfin := HB.out k hlt (by rw [HX.out]; exact hok')
          have HF := Lib.hid hfin
          rw [hok']
          clear hfin hok' hok cc ff
          go_wp2_with fail
          go_ret2
          exact ⟨by rw [HF.out]; rfl, hx5.trans hx2, own_drop (own_drop h2)⟩
    · have hk8 : k = 8 := by omega
      subst hk8
      have hok := HK.out HJ.out
      have hall : (rowEnts t r).take 8 = rowEnts t r := List.take_of_length_le (by rw [rowEnts_len]; omega)
      rw [hall] at hown
      have hlen : (entNums (rowEnts t r)).length = 2 * 8 := by rw [entNums_len, rowEnts_len]
      have hcv := conv_row 0 hlen hown rfl (by omega)
      have HF := Lib.hid hok
      clear hok hall hlen
      generalize strOfNums (entNums (rowEnts t r)) = z at *
      simp only [Nat.reduceMul] at hcv
      go_wp2_with fail
      go_ret2
      exact ⟨by rw [HF.out]; rfl, hxr, own_drop hown⟩
end Go.Proofs.Ytbpblokfiajpjaa
