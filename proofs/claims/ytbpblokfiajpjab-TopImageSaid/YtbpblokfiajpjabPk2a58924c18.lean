/- Heads read back by the program. Tables: how many rows, one row written, the document's entry. Tables: one row, by the document and by the program. The document's device: Write, Flush, Crash, NewDev. The document's device: Crash, NewDev. asDev and stays answer true of equal devices. Tables read back: the model. No conditions. -/
import Derived.Test.YtbpblokfiajpjabPkc53b62f666
import Derived.Test.YtbpblokfiajpjabProg
import Derived.Deep.DrawnRows
namespace Go.Proofs.Ytbpblokfiajpjab
open Go.RowKit Go.SL Go.Crc
attribute [local go_sem ↓] Go.wp_at_zero Go.wp_at_succ

theorem bt_extract {s : ByteArray} {i : Nat} (h : s.size = 16) (hi : i < 12) : bt (s.extract 0 12) i = bt s i := by
  unfold bt
  simp only [ByteArray.data_extract, Array.toList_extract, List.extract]
  congr 1
  simp [hi]

set_option maxRecDepth 100000 in
set_option maxHeartbeats 1000000 in
theorem readhead_any (s : ByteArray) (hs : s.size ≤ 9223372036854775807) (R : List SL.HP) (w : World) (H : own w R) :
    Calls Try.prog 28 #[.string s] w fun e w' => e = .returned (.tuple #[headV (headOf s).1.1 (headOf s).1.2.1 (headOf s).1.2.2, errV (headOf s).2]) ∧ Ext w w' ∧ own w' R := by
  have ha := own_alloc H (.cells #[.int .i64 0, .int .i64 0, .int .i64 0] 34)
  have hxa := (Ext.refl w).alloc (.cells #[.int .i64 0, .int .i64 0, .int .i64 0] 34)
  rcases openF_nonneg s with hF | hF
  · have h16 := openF_size hF
    have e : headOf s = if headOfBad s then ((0, 0, 0), 2) else ((bt s 2, bt s 3, bt s 4 - 1), 0) := by rw [headOf, if_neg (by omega)]
    rw [e]
    clear e
    have h16' : (s.size : Int) = 16 := by omega
    go_enter Try.func28, Try.ntmps28
    go_upto_region 1 with (fail)
    generalize w.heap.size = g at *
    generalize w.alloc (.cells #[.int .i64 0, .int .i64 0, .int .i64 0] 34) = w1 at *
    go_wp2_with fail
    refine (open_any s hs _ w1 ha).mono ?_
    rintro e w2 ⟨rfl, hx2, h2⟩
    rw [hF, errV_0, show openS s = s.extract 0 12 from if_pos hF]
    have hu : (s.extract 0 12).size = 12 := by simp [ByteArray.size_extract, h16]
    have g2 := bt_extract (i := 2) h16 (by decide)
    have g3 := bt_extract (i := 3) h16 (by decide)
    have g4 := bt_extract (i := 4) h16 (by decide)
    generalize s.extract 0 12 = u at *
    have hu' : (u.size : Int) = 12 := by omega
    have q2 := bt_get (s := u) (i := 2) (by omega)
    have q3 := bt_get (s := u) (i := 3) (by omega)
    have q4 := bt_get (s := u) (i := 4) (by omega)
    rw [g2] at q2
    rw [g3] at q3
    rw [g4] at q4
    clear g2 g3 g4
    have l2 := bt_le s 2
    have l3 := bt_le s 3
    have l4 := bt_le s 4
    have hcond : headOfBad s ↔ (headBad (bt s 2) (bt s 3) (bt s 4 - 1) ∨ headS (bt s 2) (bt s 3) (bt s 4 - 1) ≠ s) := Iff.rfl
    have HCD := Lib.hid hcond
    clear hcond
    generalize b2 : bt s 2 = x2 at *
    generalize b3 : bt s 3 = x3 at *
    generalize b4 : bt s 4 = x4 at *
    have HX := Lib.hid (And.intro b2 (And.intro b3 (show bt s 4 - 1 = x4 - 1 by rw [b4])))
    clear b2 b3 b4
    have e2 : IntKind.i64.wrap x2 = x2 := IntWalk.i64_in _ (by omega)
    have e3 : IntKind.i64.wrap x3 = x3 := IntWalk.i64_in _ (by omega)
    have e4 : IntKind.i64.wrap x4 = x4 := IntWalk.i64_in _ (by omega)
    have e5 : IntKind.i64.wrap (x4 - 1) = x4 - 1 := IntWalk.i64_in _ (by omega)
    go_upto_region 4 with (fail)
    refine wp_region_held_drew (S := fun _ => True) (by kernel_rfl) trivial (fun hHeld => ?_)
    refine wpAnyH_take (i := 0) (v := ?_) rfl (by kernel_rfl) (by kernel_rfl) (by kernel_rfl) (fun _ _ _ h => h) (Or.inl ⟨by rfl, ?_⟩) (by assumption) ?_
    rotate_left
    · intro w hSw
      go_simp
      try with_reducible rfl
    try simp only [Act.put, List.setIfInBounds_toArray, List.set_cons_zero, List.set_cons_succ]
    refine wpAnyH_take (i := 1) (v := ?_) rfl (by kernel_rfl) (by kernel_rfl) (by kernel_rfl) (fun _ _ _ h => h) (Or.inl ⟨by rfl, ?_⟩) (by assumption) ?_
    rotate_left
    · intro w hSw
      go_simp
      try with_reducible rfl
    try simp only [Act.put, List.setIfInBounds_toArray, List.set_cons_zero, List.set_cons_succ]
    refine wpAnyH_take (i := 2) (v := ?_) rfl (by kernel_rfl) (by kernel_rfl) (by kernel_rfl) (fun _ _ _ h => h) (Or.inl ⟨by rfl, ?_⟩) (by assumption) ?_
    rotate_left
    · intro w hSw
      go_simp
      try with_reducible rfl
    try simp only [Act.put, List.setIfInBounds_toArray, List.set_cons_zero, List.set_cons_succ]
    refine wpAnyH_take (i := 3) (v := ?_) rfl (by kernel_rfl) (by kernel_rfl) (by kernel_rfl) (fun _ _ _ h => h) (Or.inl ⟨by rfl, ?_⟩) (by assumption) ?_
    rotate_left
    · intro w hSw
      go_simp
      try with_reducible rfl
    try simp only [Act.put, List.setIfInBounds_toArray, List.set_cons_zero, List.set_cons_succ]
    refine wpAnyH_take (i := 4) (v := ?_) rfl (by kernel_rfl) (by kernel_rfl) (by kernel_rfl) (fun _ _ _ h => h) (Or.inl ⟨by rfl, ?_⟩) (by assumption) ?_
    rotate_left
    · intro w hSw
      go_simp
      try with_reducible rfl
    try simp only [Act.put, List.setIfInBounds_toArray, List.set_cons_zero, List.set_cons_succ]
    refine wpAnyH_take (i := 5) (v := ?_) rfl (by kernel_rfl) (by kernel_rfl) (by kernel_rfl) (fun _ _ _ h => h) (Or.inl ⟨by rfl, ?_⟩) (by assumption) ?_
    rotate_left
    · intro w hSw
      go_simp
      try with_reducible rfl
    try simp only [Act.put, List.setIfInBounds_toArray, List.set_cons_zero, List.set_cons_succ]
    refine wpAnyH_take (i := 6) (v := ?_) rfl (by kernel_rfl) (by kernel_rfl) (by kernel_rfl) (fun _ _ _ h => h) (Or.inl ⟨by rfl, ?_⟩) (by assumption) ?_
    rotate_left
    · intro w hSw
      go_simp
      try with_reducible rfl
    try simp only [Act.put, List.setIfInBounds_toArray, List.set_cons_zero, List.set_cons_succ]
    refine wpAnyH_take (i := 7) (v := ?_) rfl (by kernel_rfl) (by kernel_rfl) (by kernel_rfl) (fun _ _ _ h => h) (Or.inl ⟨by rfl, ?_⟩) (by assumption) ?_
    rotate_left
    · intro w hSw
      go_simp
      try with_reducible rfl
    try simp only [Act.put, List.setIfInBounds_toArray, List.set_cons_zero, List.set_cons_succ]
    refine wpAnyH_take (i := 8) (v := ?_) rfl (by kernel_rfl) (by kernel_rfl) (by kernel_rfl) (fun _ _ _ h => h) (Or.inl ⟨by rfl, ?_⟩) (by assumption) ?_
    rotate_left
    · intro w hSw
      go_simp
      try with_reducible rfl
    try simp only [Act.put, List.setIfInBounds_toArray, List.set_cons_zero, List.set_cons_succ]
    refine wpAnyH_take (i := 9) (v := ?_) rfl (by kernel_rfl) (by kernel_rfl) (by kernel_rfl) (fun _ _ _ h => h) (Or.inl ⟨by rfl, ?_⟩) (by assumption) ?_
    rotate_left
    · intro w hSw
      go_simp
      try with_reducible rfl
    try simp only [Act.put, List.setIfInBounds_toArray, List.set_cons_zero, List.set_cons_succ]
    refine wpAnyH_take (i := 10) (v := ?_) rfl (by kernel_rfl) (by kernel_rfl) (by kernel_rfl) (fun _ _ _ h => h) (Or.inl ⟨by rfl, ?_⟩) (by assumption) ?_
    rotate_left
    · intro w hSw
      go_simp
      try with_reducible rfl
    try simp only [Act.put, List.setIfInBounds_toArray, List.set_cons_zero, List.set_cons_succ]
    refine wpAnyH_ready (rs := [11]) (by kernel_rfl) (by simp) ?_
    refine AllReadyH.cons rfl (fun K hK => ?_) AllReadyH.nil
    go_simp
    refine hK.out _ _ trivial (fun _ => ?_)
    clear hK K
    try simp only [Act.put, List.setIfInBounds_toArray, List.set_cons_zero, List.set_cons_succ]
    refine wpAnyH_ready (rs := [12]) (by kernel_rfl) (by simp) ?_
    refine AllReadyH.cons rfl (fun K hK => ?_) AllReadyH.nil
    go_simp
    refine hK.out _ _ trivial (fun _ => ?_)
    clear hK K
    try simp only [Act.put, List.setIfInBounds_toArray, List.set_cons_zero, List.set_cons_succ]
    refine wpAnyH_done (by kernel_rfl) ?_ _
    have h3 := own_drew (own_alloc h2 (.cells #[.int .i64 x2, .int .i64 x3, .int .i64 (x4 - 1)] 34))
    have hx3 := ((hxa.trans hx2).alloc (.cells #[.int .i64 x2, .int .i64 x3, .int .i64 (x4 - 1)] 34)).drew
    clear q2 q3 q4 e2 e3 e4 e5 h2 hx2 ha hxa
    generalize w2.heap.size = p at *
    generalize (w2.alloc (.cells #[.int .i64 x2, .int .i64 x3, .int .i64 (x4 - 1)] 34)).drew = w3 at *
    generalize x4 - 1 = y at *
    obtain ⟨c, f⟩ := own_cells 0 h3 rfl
    have hq := head_any x2 x3 y _ w3 h3
    by_cases hb : headBad x2 x3 y
    · have hbad : headOfBad s := HCD.out.2 (.inl hb)
      have HB := Lib.hid hbad
      rw [show headF x2 x3 y = 1 from if_pos hb, if_neg (by decide)] at hq
      have HQ := Lib.hid hq
      clear hq hb hbad
      unfold headV at HQ
      go_wp2_with fail
      refine HQ.out.mono ?_
      rintro e w4 ⟨rfl, hx4, h4⟩
      have he : errV 1 = .iface 48 (.int .i64 1) := rfl
      rw [he]
      clear c f
      obtain ⟨c, f⟩ := own_cells 1 h4 rfl
      go_wp2_with fail
      have h5 := own_set (i := 2) (v := .int .i64 0) 1 (own_set (i := 1) (v := .int .i64 0) 1 (own_set (i := 0) (v := .int .i64 0) 1 h4 rfl) rfl) rfl
      obtain ⟨c3, -⟩ := own_cells 1 h5 rfl
      refine bodyPost_ret (results_head rfl _ _ g 0 0 0 rfl (c3 0) (c3 1) (c3 2)) rfl ?_
      exact ⟨by first | rfl | (rw [if_pos HB.out]; rfl), (((hx3.trans hx4).setCell _ _).setCell _ _).setCell _ _, own_drop (own_drop h5)⟩
    · rw [show headF x2 x3 y = 0 from if_neg hb, if_pos rfl] at hq
      have HQ := Lib.hid hq
      clear hq
      unfold headV at HQ
      go_wp2_with fail
      refine HQ.out.mono ?_
      rintro e w5 ⟨rfl, hx5, h5⟩
      rw [errV_0]
      clear c f
      obtain ⟨c, f⟩ := own_cells 0 h5 rfl
      obtain ⟨c', f'⟩ := own_cells 1 h5 rfl
      by_cases hne : headS x2 x3 y = s
      · have hgood : ¬ headOfBad s := fun h => (HCD.out.1 h).elim hb (fun h => h hne)
        have HG := Lib.hid hgood
        rw [hne]
        clear hgood hb
        go_wp2_with fail
        have h6 := own_set (i := 2) (v := .int .i64 y) 1 (own_set (i := 1) (v := .int .i64 x3) 1 (own_set (i := 0) (v := .int .i64 x2) 1 h5 rfl) rfl) rfl
        obtain ⟨c3, -⟩ := own_cells 1 h6 rfl
        refine bodyPost_ret (results_head rfl _ _ g x2 x3 y rfl (c3 0) (c3 1) (c3 2)) rfl ?_
        exact ⟨by first | (rw [HX.out.1, HX.out.2.1, HX.out.2.2]; rfl) | (rw [if_neg HG.out, HX.out.1, HX.out.2.1, HX.out.2.2]; rfl), (((hx3.trans hx5).setCell _ _).setCell _ _).setCell _ _, own_drop (own_drop h6)⟩
      · have hbad : headOfBad s := HCD.out.2 (.inr hne)
        have HB := Lib.hid hbad
        have hnl : ((headS x2 x3 y).toList == s.toList) = false := by simpa using fun h => hne (toList_inj h)
        clear hb hbad
        go_wp2_with fail
        have h6 := own_set (i := 2) (v := .int .i64 0) 1 (own_set (i := 1) (v := .int .i64 0) 1 (own_set (i := 0) (v := .int .i64 0) 1 h5 rfl) rfl) rfl
        obtain ⟨c3, -⟩ := own_cells 1 h6 rfl
        refine bodyPost_ret (results_head rfl _ _ g 0 0 0 rfl (c3 0) (c3 1) (c3 2)) rfl ?_
        exact ⟨by first | rfl | (rw [if_pos HB.out]; rfl), (((hx3.trans hx5).setCell _ _).setCell _ _).setCell _ _, own_drop (own_drop h6)⟩
  · have e : headOf s = ((0, 0, 0), openF s) := by rw [headOf, if_pos (by omega)]
    rw [e]
    clear e
    go_enter Try.func28, Try.ntmps28
    go_upto_region 1 with (fail)
    generalize w.heap.size = g at *
    generalize w.alloc (.cells #[.int .i64 0, .int .i64 0, .int .i64 0] 34) = w1 at *
    go_wp2_with fail
    refine (open_any s hs _ w1 ha).mono ?_
    rintro e w2 ⟨rfl, hx2, h2⟩
    rw [errV_pos hF]
    obtain ⟨c, f⟩ := own_cells 0 h2 rfl
    go_wp2_with fail
    have h3 := own_set (i := 2) (v := .int .i64 0) 0 (own_set (i := 1) (v := .int .i64 0) 0 (own_set (i := 0) (v := .int .i64 0) 0 h2 rfl) rfl) rfl
    obtain ⟨c3, -⟩ := own_cells 0 h3 rfl
    refine bodyPost_ret (results_head rfl _ _ g 0 0 0 rfl (c3 0) (c3 1) (c3 2)) rfl ?_
    exact ⟨by rw [errV_pos hF]; rfl, (((hxa.trans hx2).setCell _ _).setCell _ _).setCell _ _, own_drop h3⟩
end Go.Proofs.Ytbpblokfiajpjab

namespace Go.Proofs.Ytbpblokfiajpjab
open Go.RowKit Go.SL Go.Crc
attribute [local go_sem ↓] Go.wp_at_zero Go.wp_at_succ

abbrev Ent := Int × Int
def entOk (e : Ent) (p : Int) : Bool := if e.1 = 2 then decide (0 ≤ e.2) && decide (e.2 < p) else (decide (e.1 = 0) || decide (e.1 = 1)) && decide (e.2 = 0)
def rowsN (n : Nat) : Nat := (n + 7) / 8
def entsAt (w : World) (v : Value) (l : List Ent) : Prop :=
  SlAt v l.length (fun b off i => w.cell? ⟨b, off + i * 2, none⟩ = some (.int .i64 (l.getD i (0, 0)).1) ∧ w.cell? ⟨b, off + i * 2 + 1, none⟩ = some (.int .i64 (l.getD i (0, 0)).2))
theorem entsAt.later {w w' : World} {v : Value} {l : List Ent} (h : entsAt w v l) {L : List HP} (k : Nat) (H : own w' L) (hk : L[k]? = some (exactly w)) : entsAt w' v l :=
  SlAt.later h fun _ _ _ h => ⟨rd_later k H hk h.1, rd_later k H hk h.2⟩

set_option maxRecDepth 100000 in
set_option maxHeartbeats 400000 in
theorem rows_any (n : Nat) (hn : n ≤ 1000000) (w : World) : Calls Try.prog 17 #[.int .i64 n] w fun e w' => e = .returned (.int .i64 (rowsN n : Nat)) ∧ w = w' := by
  go_enter Try.func17, Try.ntmps17
  go_wp2_with fail
  go_ret
  exact ⟨ret_int (by unfold rowsN; omega), rfl⟩

end Go.Proofs.Ytbpblokfiajpjab

namespace Go.Proofs.Ytbpblokfiajpjab
open Go.RowKit Go.SL Go.Crc
attribute [local go_sem ↓] Go.wp_at_zero Go.wp_at_succ

def rowEnts (t : List Ent) (r : Nat) : List Ent := (List.range 8).map fun k => t.getD (8 * r + k) (0, 0)
def entNums (l : List Ent) : List Int := l.flatMap fun e => [e.1, e.2]
def rowOut (t : List Ent) (row : Int) : Prop := 32 < t.length ∨ row < 0 ∨ (rowsN t.length : Int) ≤ row
instance (t : List Ent) (row : Int) : Decidable (rowOut t row) := by unfold rowOut; infer_instance
def rowOf (t : List Ent) (row : Int) : ByteArray × Int :=
  if rowOut t row then (ByteArray.empty, 1) else if (rowEnts t row.toNat).all (fun e => entOk e 40) then (strOfNums (entNums (rowEnts t row.toNat)), 0) else (ByteArray.empty, 2)

theorem rowEnts_len (t : List Ent) (r : Nat) : (rowEnts t r).length = 8 := by simp [rowEnts]
theorem rowEnts_get (t : List Ent) (r k : Nat) (h : k < 8) : (rowEnts t r).getD k (0, 0) = t.getD (8 * r + k) (0, 0) := by simp [rowEnts, h]
theorem rowOf_bad {t : List Ent} {r k : Nat} (h : ¬ rowOut t r) (hk : k < 8) (hb : entOk (t.getD (8 * r + k) (0, 0)) 40 = false) : rowOf t r = (ByteArray.empty, 2) := by
  rw [rowOf, if_neg h, if_neg]
  intro hall
  have := List.all_eq_true.1 hall (t.getD (8 * r + k) (0, 0)) (by simp only [rowEnts, Int.toNat_natCast, List.mem_map, List.mem_range]; exact ⟨k, hk, rfl⟩)
  rw [hb] at this
  cases this
theorem rowOf_ok {t : List Ent} {r : Nat} (h : ¬ rowOut t r) (ha : ∀ k, k < 8 → entOk (t.getD (8 * r + k) (0, 0)) 40 = true) : rowOf t r = (strOfNums (entNums (rowEnts t r)), 0) := by
  rw [rowOf, if_neg h, if_pos]
  · rfl
  · refine List.all_eq_true.2 fun e he => ?_
    simp only [rowEnts, Int.toNat_natCast, List.mem_map, List.mem_range] at he
    obtain ⟨k, hk, rfl⟩ := he
    exact ha k hk
theorem entNums_len (l : List Ent) : (entNums l).length = l.length * 2 := by
  induction l with
  | nil => rfl
  | cons x l ih => simp only [entNums, List.flatMap_cons, List.length_append, List.length_cons, List.length_nil] at ih ⊢; omega
theorem rowNums_succ (t : List Ent) (r k : Nat) (h : k < 8) : byteCells (entNums ((rowEnts t r).take (k + 1))) = byteCells (entNums ((rowEnts t r).take k)) ++ [.int .u8 (t.getD (8 * r + k) (0, 0)).1, .int .u8 (t.getD (8 * r + k) (0, 0)).2] := by
  rw [take_succ_getD (0, 0) (by rw [rowEnts_len]; exact h), rowEnts_get _ _ _ h]
  simp [entNums, byteCells]
theorem entOk_range {e : Ent} {p : Int} (h : entOk e p = true) : 0 ≤ e.1 ∧ e.1 ≤ 2 ∧ 0 ≤ e.2 ∧ (e.2 < p ∨ e.2 = 0) := by
  unfold entOk at h
  split at h
  · simp at h; omega
  · simp at h; omega

theorem entsAt.form {w : World} {v : Value} {l : List Ent} (h : entsAt w v l) : ∃ ao b off cap, v = .slice ao l.length cap ∧ l.length ≤ cap ∧ cap ≤ 9223372036854775807 ∧ (0 < l.length → ao = some ⟨b, off, none⟩) := by
  obtain ⟨ao, b, off, cap, hv, h1, h2, h3, h4⟩ := h
  exact ⟨ao, b, off, cap, hv, h1, h2, h3⟩
theorem entsAt.cells {w : World} {b off n cap : Nat} {l : List Ent} (h : entsAt w (.slice (some ⟨b, off, none⟩) n cap) l) {i : Nat} (hi : i < l.length) :
    w.cell? ⟨b, off + i * 2, none⟩ = some (.int .i64 (l.getD i (0, 0)).1) ∧ w.cell? ⟨b, off + i * 2 + 1, none⟩ = some (.int .i64 (l.getD i (0, 0)).2) := by
  obtain ⟨ao, b', off', cap', hv, h1, h2, h3, h4⟩ := h
  simp only [Value.slice.injEq] at hv
  have h5 := h3 (by omega)
  rw [← hv.1] at h5
  simp only [Option.some.injEq, Addr.mk.injEq, and_true] at h5
  obtain ⟨rfl, rfl⟩ := h5
  exact h4 i hi
theorem two_bytes (a b : Int) : ∀ u ∈ [Value.int .u8 a, Value.int .u8 b], u.oneCell' = true := fun u hu => by simp at hu; rcases hu with rfl | rfl <;> rfl
theorem conv_u8 {a : Int} (h0 : 0 ≤ a) (h1 : a < 256) : IntKind.u8.wrap a = a := by
  simp [IntKind.wrap, IntKind.signed, IntKind.bits]; omega

def rowInv (t : List Ent) (r : Nat) (R : List SL.HP) (w0 : World) (vb vi : Value) (wr : World) : Prop :=
  ∃ k : Nat, k ≤ 8 ∧ vi = .int .i64 k ∧ (∀ j, j < k → entOk (t.getD (8 * r + j) (0, 0)) 40 = true) ∧ Ext w0 wr ∧ own wr (row 5 1 vb (2 * k) (byteCells (entNums ((rowEnts t r).take k))) :: R)

end Go.Proofs.Ytbpblokfiajpjab

namespace Go.Proofs.Ytbpblokfiajpjab
open Go.RowKit Go.SL

end Go.Proofs.Ytbpblokfiajpjab

namespace Go.Proofs.Ytbpblokfiajpjab
open Go.RowKit Go.SL

theorem keptOnes_take : ∀ (p : List (Int × ByteArray)) (ks : List Bool) (q : Nat), ks.length ≤ q → keptOnes (p.take q) ks = keptOnes p ks
  | [], _, q, _ => by simp
  | x :: p, [], q, _ => by cases q <;> simp [keptOnes]
  | x :: p, k :: ks, 0, h => by simp at h
  | x :: p, k :: ks, q + 1, h => by
    have ih := keptOnes_take p ks q (by simpa using h)
    simp only [List.take_succ_cons, keptOnes, ih]

end Go.Proofs.Ytbpblokfiajpjab

namespace Go.Proofs.Ytbpblokfiajpjab
open Go.RowKit Go.SL
attribute [local go_sem ↓] Go.wp_at_zero Go.wp_at_succ

def text16 : ByteArray := ⟨#[48, 49, 50, 51, 52, 53, 54, 55, 56, 57, 97, 98, 99, 100, 101, 102]⟩

end Go.Proofs.Ytbpblokfiajpjab

namespace Go.Proofs.Ytbpblokfiajpjab
open Go.RowKit Go.SL Go.Crc
attribute [local go_sem ↓] Go.wp_at_zero Go.wp_at_succ

def tabBad (P : Int) (t : List Ent) (e : Ent) : Bool := !entOk e P || (decide (e.1 = 2) && t.contains e)
def tabRow (C : Nat) (P : Int) : List Ent → List Ent → Option (List Ent)
  | t, [] => some t
  | t, e :: l => if t.length = C then (if e = (0, 0) then tabRow C P t l else none) else if tabBad P t e then none else tabRow C P (t ++ [e]) l
def sEnt (s : ByteArray) (k : Nat) : Ent := (bt s (2 * k), bt s (2 * k + 1))
def sEnts (s : ByteArray) : List Ent := (List.range 8).map (sEnt s)
def tabRows (C : Nat) (P : Int) : List Ent → List ByteArray → List Ent × Int
  | t, [] => (t, 0)
  | t, s :: l => if s.size ≠ 16 then ([], 1) else match tabRow C P t (sEnts s) with
    | none => ([], 2)
    | some t' => tabRows C P t' l
def tableOf (c p b : Int) (rows : List ByteArray) : List Ent × Int :=
  if headBad c p b then ([], 1) else if rows.length ≠ rowsN c.toNat then ([], 1) else tabRows c.toNat p [] rows

theorem sEnts_len (s : ByteArray) : (sEnts s).length = 8 := by simp [sEnts]
theorem sEnts_drop (s : ByteArray) {k : Nat} (h : k < 8) : (sEnts s).drop k = sEnt s k :: (sEnts s).drop (k + 1) := by
  rw [List.drop_eq_getElem_cons (by rw [sEnts_len]; exact h)]
  simp [sEnts]
theorem sEnts_end (s : ByteArray) : (sEnts s).drop 8 = [] := List.drop_of_length_le (by rw [sEnts_len]; omega)
theorem drop_getD {α : Type} (d : α) {l : List α} {i : Nat} (h : i < l.length) : l.drop i = l.getD i d :: l.drop (i + 1) := by
  rw [List.drop_eq_getElem_cons h]; simp [h]

theorem tabRow_full {C : Nat} {P : Int} {t l : List Ent} (h : t.length = C) : tabRow C P t ((0, 0) :: l) = tabRow C P t l := by
  rw [tabRow, if_pos h, if_pos rfl]
theorem tabRow_fullbad {C : Nat} {P : Int} {t l : List Ent} {e : Ent} (h : t.length = C) (he : e ≠ (0, 0)) : tabRow C P t (e :: l) = none := by
  rw [tabRow, if_pos h, if_neg he]
theorem tabRow_bad {C : Nat} {P : Int} {t l : List Ent} {e : Ent} (h : t.length ≠ C) (he : tabBad P t e = true) : tabRow C P t (e :: l) = none := by
  rw [tabRow, if_neg h, if_pos he]
theorem tabRow_step {C : Nat} {P : Int} {t l : List Ent} {e : Ent} (h : t.length ≠ C) (he : tabBad P t e = false) : tabRow C P t (e :: l) = tabRow C P (t ++ [e]) l := by
  rw [tabRow, if_neg h, if_neg (by simp [he])]
theorem tabRows_short {C : Nat} {P : Int} {t : List Ent} {s : ByteArray} {l : List ByteArray} (h : s.size ≠ 16) : tabRows C P t (s :: l) = ([], 1) := by rw [tabRows, if_pos h]
theorem tabRows_none {C : Nat} {P : Int} {t : List Ent} {s : ByteArray} {l : List ByteArray} (h : s.size = 16) (hn : tabRow C P t (sEnts s) = none) : tabRows C P t (s :: l) = ([], 2) := by
  rw [tabRows, if_neg (by simpa using h), hn]
theorem tabRows_some {C : Nat} {P : Int} {t t' : List Ent} {s : ByteArray} {l : List ByteArray} (h : s.size = 16) (hn : tabRow C P t (sEnts s) = some t') : tabRows C P t (s :: l) = tabRows C P t' l := by
  rw [tabRows, if_neg (by simpa using h), hn]

def entCells (l : List Ent) : List Value := l.flatMap fun e => [.int .i64 e.1, .int .i64 e.2]
theorem entCells_len (l : List Ent) : (entCells l).length = l.length * 2 := by
  induction l with
  | nil => rfl
  | cons x l ih => simp only [entCells, List.flatMap_cons, List.length_append, List.length_cons, List.length_nil] at ih ⊢; omega
theorem entCells_append (l m : List Ent) : entCells (l ++ m) = entCells l ++ entCells m := by simp [entCells]
theorem entCells_get {l : List Ent} : ∀ {i : Nat}, i < l.length → (entCells l)[i * 2]? = some (.int .i64 (l.getD i (0, 0)).1) ∧ (entCells l)[i * 2 + 1]? = some (.int .i64 (l.getD i (0, 0)).2) := by
  induction l with
  | nil => intro i h; simp at h
  | cons x l ih =>
    intro i h
    cases i with
    | zero => simp [entCells]
    | succ i =>
      have := ih (i := i) (by simpa using h)
      simp only [entCells, List.flatMap_cons] at this ⊢
      have e : (i + 1) * 2 = i * 2 + 2 := by omega
      rw [e]
      simpa using this
theorem two_ints (a b : Int) : ∀ u ∈ [Value.int .i64 a, Value.int .i64 b], u.oneCell' = true := fun u hu => by simp at hu; rcases hu with rfl | rfl <;> rfl
theorem elem_entry : Elem Try.prog 63 2 16 (.agg #[.int .i64 0, .int .i64 0]) := by unfold Elem; kernel_rfl

/-- all entries of a table that was read may be -/
def tabAll (C : Nat) (P : Int) (t : List Ent) : Prop := t.length ≤ C ∧ (∀ e ∈ t, entOk e P = true) ∧ (∀ i j, i < t.length → j < t.length → (t.getD i (0, 0)).1 = 2 → t.getD i (0, 0) = t.getD j (0, 0) → i = j)
theorem StrsAt.cells {w : World} {b off n cap : Nat} {l : List ByteArray} (h : StrsAt w (.slice (some ⟨b, off, none⟩) n cap) l) {i : Nat} (hi : i < l.length) : w.cell? ⟨b, off + i, none⟩ = some (.string (l.getD i ByteArray.empty)) := by
  obtain ⟨⟨ao, b', off', cap', hv, h1, h2, h3, h4⟩, _⟩ := h
  simp only [Value.slice.injEq] at hv
  have h5 := h3 (by omega)
  rw [← hv.1] at h5
  simp only [Option.some.injEq, Addr.mk.injEq, and_true] at h5
  obtain ⟨rfl, rfl⟩ := h5
  exact h4 i hi
end Go.Proofs.Ytbpblokfiajpjab
