/- Heads: checked, written. Heads read back. No conditions. -/
import Derived.Test.YtbpblokfiajpjaaPk0eced049d0
import Derived.Test.YtbpblokfiajpjaaProg
import Derived.Laws.ResultCell
namespace Go.Proofs.Ytbpblokfiajpjaa
open Go.RowKit Go.SL Go.Crc
attribute [local go_sem ↓] Go.wp_at_zero Go.wp_at_succ

def headV (c p b : Int) : Value := .agg #[.int .i64 c, .int .i64 p, .int .i64 b]
def headBad (c p b : Int) : Prop := c < 1 ∨ 32 < c ∨ p < 0 ∨ 40 < p ∨ b < -1 ∨ 4 < b
instance (c p b : Int) : Decidable (headBad c p b) := by unfold headBad; infer_instance
def headF (c p b : Int) : Int := if headBad c p b then 1 else 0

set_option maxRecDepth 100000 in
set_option maxHeartbeats 1000000 in
theorem checkhead_any (c p b : Int) (R : List SL.HP) (w : World) (H : own w R) :
    Calls Try.prog 32 #[headV c p b] w fun e w' => e = .returned (errV (headF c p b)) ∧ Ext w w' ∧ own w' R := by
  have ha := own_alloc H (.cells #[.int .i64 c, .int .i64 p, .int .i64 b] 52)
  obtain ⟨cc, ff⟩ := own_cells 0 ha rfl
  by_cases h : headBad c p b
  · have e : headF c p b = 1 := if_pos h
    rw [e]
    clear e
    unfold headBad at h
    unfold headV
    go_enter Try.func32, Try.ntmps32
    go_wp2_with fail
    all_goals go_ret
    all_goals exact ⟨rfl, (Ext.refl _).alloc _, own_drop ha⟩
  · have e : headF c p b = 0 := if_neg h
    rw [e]
    clear e
    unfold headBad at h
    unfold headV
    have h1 : 1 ≤ c := by omega
    have h2 : c ≤ 32 := by omega
    have h3 : 0 ≤ p := by omega
    have h4 : p ≤ 40 := by omega
    have h5 : -1 ≤ b := by omega
    have h6 : b ≤ 4 := by omega
    clear h
    go_enter Try.func32, Try.ntmps32
    go_wp2_with fail
    all_goals go_ret
    all_goals exact ⟨rfl, (Ext.refl _).alloc _, own_drop ha⟩

set_option maxRecDepth 100000 in
set_option maxHeartbeats 1000000 in
theorem headfault_any (c p b : Int) (R : List SL.HP) (w : World) (H : own w R) :
    Calls Try.prog 30 #[headV c p b] w fun e w' => e = .returned (.int .i64 (headF c p b)) ∧ Ext w w' ∧ own w' R := by
  have ha := own_alloc H (.cells #[.int .i64 c, .int .i64 p, .int .i64 b] 52)
  obtain ⟨cc, ff⟩ := own_cells 0 ha rfl
  by_cases h : headBad c p b
  · have e : headF c p b = 1 := if_pos h
    rw [e]
    clear e
    unfold headBad at h
    unfold headV
    go_enter Try.func30, Try.ntmps30
    go_wp2_with fail
    all_goals go_ret
    all_goals exact ⟨rfl, (Ext.refl _).alloc _, own_drop ha⟩
  · have e : headF c p b = 0 := if_neg h
    rw [e]
    clear e
    unfold headBad at h
    unfold headV
    have h1 : 1 ≤ c := by omega
    have h2 : c ≤ 32 := by omega
    have h3 : 0 ≤ p := by omega
    have h4 : p ≤ 40 := by omega
    have h5 : -1 ≤ b := by omega
    have h6 : b ≤ 4 := by omega
    clear h
    go_enter Try.func30, Try.ntmps30
    go_wp2_with fail
    all_goals go_ret
    all_goals exact ⟨rfl, (Ext.refl _).alloc _, own_drop ha⟩

def headS (c p b : Int) : ByteArray := sealX [83, 89, c, p, b + 1]

set_option maxRecDepth 100000 in
set_option maxHeartbeats 1000000 in
theorem headsector_any (c p b : Int) (hh : ¬ headBad c p b) (R : List SL.HP) (w : World) (H : own w R) :
    Calls Try.prog 34 #[headV c p b] w fun e w' => e = .returned (.string (headS c p b)) ∧ Ext w w' ∧ own w' R := by
  have ha := own_alloc H (.cells #[.int .i64 c, .int .i64 p, .int .i64 b] 52)
  have hxa := (Ext.refl w).alloc (.cells #[.int .i64 c, .int .i64 p, .int .i64 b] 52)
  obtain ⟨cc, ff⟩ := own_cells 0 ha rfl
  unfold headBad at hh
  unfold headV headS
  have h1 : 1 ≤ c := by omega
  have h2 : c ≤ 32 := by omega
  have h3 : 0 ≤ p := by omega
  have h4 : p ≤ 40 := by omega
  have h5 : -1 ≤ b := by omega
  have h6 : b ≤ 4 := by omega
  clear hh
  go_enter Try.func34, Try.ntmps34
  go_upto_region 1 with (fail)
  generalize w.heap.size = g at *
  generalize w.alloc (.cells #[.int .i64 c, .int .i64 p, .int .i64 b] 52) = w1 at *
  go_wp2_with fail
  have h7 := own_row_of 0 (n := 5) (cap := 5) (sz := 1) (xs := byteCells [83, 89, c, p, b + 1]) (own_alloc ha (.cells #[.int .u8 83, .int .u8 89, .int .u8 c, .int .u8 p, .int .u8 (b + 1)] 5)) rfl (by decide) (by simp [maxLen]) rfl rfl
  refine (rsealed_any _ [83, 89, c, p, b + 1] 5 rfl (by decide) _ _ h7).mono ?_
  rintro e w2 ⟨rfl, hx2, h2'⟩
  go_wp2_with fail
  go_ret
  exact ⟨rfl, (hxa.alloc _).trans hx2, own_drop h2'⟩

set_option maxRecDepth 100000 in
set_option maxHeartbeats 1000000 in
theorem head_any (c p b : Int) (R : List SL.HP) (w : World) (H : own w R) :
    Calls Try.prog 31 #[headV c p b] w fun e w' => e = .returned (.tuple #[.string (if headF c p b = 0 then headS c p b else ByteArray.empty), errV (headF c p b)]) ∧ Ext w w' ∧ own w' R := by
  have ha := own_alloc H (.cells #[.int .i64 c, .int .i64 p, .int .i64 b] 52)
  have hxa := (Ext.refl w).alloc (.cells #[.int .i64 c, .int .i64 p, .int .i64 b] 52)
  by_cases h : headBad c p b
  · have e : headF c p b = 1 := if_pos h
    have hck := checkhead_any c p b _ _ ha
    rw [e, if_neg (by decide)]
    rw [e] at hck
    have HK := Lib.hid hck
    clear hck e h
    unfold headV at HK
    unfold headV
    go_enter Try.func31, Try.ntmps31
    go_upto_region 1 with (fail)
    obtain ⟨cc, ff⟩ := own_cells 0 ha rfl
    generalize w.heap.size = g at *
    generalize w.alloc (.cells #[.int .i64 c, .int .i64 p, .int .i64 b] 52) = w1 at *
    go_wp2_with fail
    refine HK.out.mono ?_
    rintro e w2 ⟨rfl, hx2, h2'⟩
    have he : errV 1 = .iface 121 (.int .i64 1) := rfl
    rw [he]
    go_wp2_with fail
    go_ret2
    exact ⟨rfl, hxa.trans hx2, own_drop h2'⟩
  · have e : headF c p b = 0 := if_neg h
    have hck := checkhead_any c p b _ _ ha
    rw [e, if_pos rfl]
    rw [e] at hck
    have HK := Lib.hid hck
    clear hck e
    unfold headBad at h
    unfold headV at HK
    unfold headV headS
    have h1 : 1 ≤ c := by omega
    have h2 : c ≤ 32 := by omega
    have h3 : 0 ≤ p := by omega
    have h4 : p ≤ 40 := by omega
    have h5 : -1 ≤ b := by omega
    have h6 : b ≤ 4 := by omega
    clear h
    go_enter Try.func31, Try.ntmps31
    go_upto_region 1 with (fail)
    obtain ⟨cc, ff⟩ := own_cells 0 ha rfl
    generalize w.heap.size = g at *
    generalize w.alloc (.cells #[.int .i64 c, .int .i64 p, .int .i64 b] 52) = w1 at *
    go_wp2_with fail
    refine HK.out.mono ?_
    rintro e w2 ⟨rfl, hx2, h2'⟩
    rw [errV_0]
    clear cc ff
    obtain ⟨cc, ff⟩ := own_cells 0 h2' rfl
    go_wp2_with fail
    have h7 := own_row_of 0 (n := 5) (cap := 5) (sz := 1) (xs := byteCells [83, 89, c, p, b + 1]) (own_alloc h2' (.cells #[.int .u8 83, .int .u8 89, .int .u8 c, .int .u8 p, .int .u8 (b + 1)] 5)) rfl (by decide) (by simp [maxLen]) rfl rfl
    refine (sealed_any _ [83, 89, c, p, b + 1] 5 rfl (by decide) (by decide) _ _ h7).mono ?_
    rintro e w3 ⟨rfl, hx3, h3'⟩
    go_wp2_with fail
    go_ret2
    exact ⟨rfl, ((hxa.trans hx2).alloc _).trans hx3, own_drop h3'⟩
end Go.Proofs.Ytbpblokfiajpjaa

namespace Go.Proofs.Ytbpblokfiajpjaa
open Go.RowKit Go.SL Go.Crc
attribute [local go_sem ↓] Go.wp_at_zero Go.wp_at_succ

theorem results_head {fn : Func} {t u : Tmp} (h : fn.results = #[.cell t 52, .tmp u]) (tmps : Array Value) (w : World) (g : Nat) (c p b : Int) (hg : tmps.getD t undef = .pointer (some ⟨g, 0, none⟩))
    (h0 : w.cell? ⟨g, 0, none⟩ = some (.int .i64 c)) (h1 : w.cell? ⟨g, 1, none⟩ = some (.int .i64 p)) (h2 : w.cell? ⟨g, 2, none⟩ = some (.int .i64 b)) :
    (results fn tmps).run Try.prog w = .ok (.tuple #[headV c p b, tmps.getD u undef]) w := by
  rw [results_cell_tmp h, hg]
  unfold headV
  go_simp

def bt (s : ByteArray) (i : Nat) : Int := ((s.data.toList.getD i 0).toNat : Int)
theorem openF_nonneg (s : ByteArray) : openF s = 0 ∨ 0 < openF s := by
  unfold openF
  split
  · exact .inr (by decide)
  · split
    · exact .inr (by decide)
    · exact .inl rfl
theorem openF_size {s : ByteArray} (h : openF s = 0) : s.size = 16 := by
  unfold openF at h
  split at h
  · cases h
  · rename_i h'; omega
theorem bt_get {s : ByteArray} {i : Nat} (h : i < s.size) : ((s[i]'h).toNat : Int) = bt s i := by
  have hb := bytes_get s i h
  unfold bt
  rw [List.getD_eq_getElem?_getD, hb]
  rfl
theorem bt_le (s : ByteArray) (i : Nat) : 0 ≤ bt s i ∧ bt s i ≤ 255 := by
  unfold bt
  have := (s.data.toList.getD i 0).toNat_lt
  omega
def headOfBad (s : ByteArray) : Prop := headBad (bt s 2) (bt s 3) (bt s 4 - 1) ∨ headS (bt s 2) (bt s 3) (bt s 4 - 1) ≠ s
instance (s : ByteArray) : Decidable (headOfBad s) := by unfold headOfBad; infer_instance
def headOf (s : ByteArray) : (Int × Int × Int) × Int :=
  if openF s ≠ 0 then ((0, 0, 0), openF s) else if headOfBad s then ((0, 0, 0), 2) else ((bt s 2, bt s 3, bt s 4 - 1), 0)

set_option maxRecDepth 100000 in
set_option maxHeartbeats 1000000 in
theorem headof_any (s : ByteArray) (hs : s.size ≤ 9223372036854775807) (R : List SL.HP) (w : World) (H : own w R) :
    Calls Try.prog 62 #[.string s] w fun e w' => e = .returned (.tuple #[headV (headOf s).1.1 (headOf s).1.2.1 (headOf s).1.2.2, .int .i64 (headOf s).2]) ∧ Ext w w' ∧ own w' R := by
  have ha := own_alloc H (.cells #[.int .i64 0, .int .i64 0, .int .i64 0] 52)
  have hxa := (Ext.refl w).alloc (.cells #[.int .i64 0, .int .i64 0, .int .i64 0] 52)
  rcases openF_nonneg s with hF | hF
  · have h16 := openF_size hF
    have e : headOf s = if headOfBad s then ((0, 0, 0), 2) else ((bt s 2, bt s 3, bt s 4 - 1), 0) := by rw [headOf, if_neg (by omega)]
    rw [e]
    clear e
    have h16' : (s.size : Int) = 16 := by omega
    go_enter Try.func62, Try.ntmps62
    go_upto_region 1 with (fail)
    generalize w.heap.size = g at *
    generalize w.alloc (.cells #[.int .i64 0, .int .i64 0, .int .i64 0] 52) = w1 at *
    go_wp2_with fail
    refine (opened_any s hs _ w1 ha).mono ?_
    rintro e w2 ⟨rfl, hx2, h2⟩
    rw [hF]
    have q2 := bt_get (s := s) (i := 2) (by omega)
    have q3 := bt_get (s := s) (i := 3) (by omega)
    have q4 := bt_get (s := s) (i := 4) (by omega)
    have l2 := bt_le s 2
    have l3 := bt_le s 3
    have l4 := bt_le s 4
    have hcond : headOfBad s ↔ (headBad (bt s 2) (bt s 3) (bt s 4 - 1) ∨ headS (bt s 2) (bt s 3) (bt s 4 - 1) ≠ s) := Iff.rfl
    have HCD := Lib.hid hcond
    clear hcond
    generalize b2 : bt s 2 = x2 at *
    generalize b3 : bt s 3 = x3 at *
    generalize b4 : bt s 4 = x4 at *
    have HX := Lib.hid (And.intro b2 (And.intro b3 (show bt s 4 - 1 = x4 - 1 by rw [b4])))
    clear b2 b3 b4
    have e2 : IntKind.i64.wrap x2 = x2 := IntWalk.i64_in _ (by omega)
    have e3 : IntKind.i64.wrap x3 = x3 := IntWalk.i64_in _ (by omega)
    have e4 : IntKind.i64.wrap x4 = x4 := IntWalk.i64_in _ (by omega)
    have e5 : IntKind.i64.wrap (x4 - 1) = x4 - 1 := IntWalk.i64_in _ (by omega)
    go_upto_region 4 with (fail)
    refine wp_region_held_drew (S := fun _ => True) (by kernel_rfl) trivial (fun hHeld => ?_)
    refine wpAnyH_take (i := 0) (v := ?_) rfl (by kernel_rfl) (by kernel_rfl) (by kernel_rfl) (fun _ _ _ h => h) (Or.inl ⟨by rfl, ?_⟩) (by assumption) ?_
    rotate_left
    · intro w hSw
      go_simp
      try with_reducible rfl
    try simp only [Act.put, List.setIfInBounds_toArray, List.set_cons_zero, List.set_cons_succ]
    refine wpAnyH_take (i := 1) (v := ?_) rfl (by kernel_rfl) (by kernel_rfl) (by kernel_rfl) (fun _ _ _ h => h) (Or.inl ⟨by rfl, ?_⟩) (by assumption) ?_
    rotate_left
    · intro w hSw
      go_simp
      try with_reducible rfl
    try simp only [Act.put, List.setIfInBounds_toArray, List.set_cons_zero, List.set_cons_succ]
    refine wpAnyH_take (i := 2) (v := ?_) rfl (by kernel_rfl) (by kernel_rfl) (by kernel_rfl) (fun _ _ _ h => h) (Or.inl ⟨by rfl, ?_⟩) (by assumption) ?_
    rotate_left
    · intro w hSw
      go_simp
      try with_reducible rfl
    try simp only [Act.put, List.setIfInBounds_toArray, List.set_cons_zero, List.set_cons_succ]
    refine wpAnyH_take (i := 3) (v := ?_) rfl (by kernel_rfl) (by kernel_rfl) (by kernel_rfl) (fun _ _ _ h => h) (Or.inl ⟨by rfl, ?_⟩) (by assumption) ?_
    rotate_left
    · intro w hSw
      go_simp
      try with_reducible rfl
    try simp only [Act.put, List.setIfInBounds_toArray, List.set_cons_zero, List.set_cons_succ]
    refine wpAnyH_take (i := 4) (v := ?_) rfl (by kernel_rfl) (by kernel_rfl) (by kernel_rfl) (fun _ _ _ h => h) (Or.inl ⟨by rfl, ?_⟩) (by assumption) ?_
    rotate_left
    · intro w hSw
      go_simp
      try with_reducible rfl
    try simp only [Act.put, List.setIfInBounds_toArray, List.set_cons_zero, List.set_cons_succ]
    refine wpAnyH_take (i := 5) (v := ?_) rfl (by kernel_rfl) (by kernel_rfl) (by kernel_rfl) (fun _ _ _ h => h) (Or.inl ⟨by rfl, ?_⟩) (by assumption) ?_
    rotate_left
    · intro w hSw
      go_simp
      try with_reducible rfl
    try simp only [Act.put, List.setIfInBounds_toArray, List.set_cons_zero, List.set_cons_succ]
    refine wpAnyH_take (i := 6) (v := ?_) rfl (by kernel_rfl) (by kernel_rfl) (by kernel_rfl) (fun _ _ _ h => h) (Or.inl ⟨by rfl, ?_⟩) (by assumption) ?_
    rotate_left
    · intro w hSw
      go_simp
      try with_reducible rfl
    try simp only [Act.put, List.setIfInBounds_toArray, List.set_cons_zero, List.set_cons_succ]
    refine wpAnyH_take (i := 7) (v := ?_) rfl (by kernel_rfl) (by kernel_rfl) (by kernel_rfl) (fun _ _ _ h => h) (Or.inl ⟨by rfl, ?_⟩) (by assumption) ?_
    rotate_left
    · intro w hSw
      go_simp
      try with_reducible rfl
    try simp only [Act.put, List.setIfInBounds_toArray, List.set_cons_zero, List.set_cons_succ]
    refine wpAnyH_take (i := 8) (v := ?_) rfl (by kernel_rfl) (by kernel_rfl) (by kernel_rfl) (fun _ _ _ h => h) (Or.inl ⟨by rfl, ?_⟩) (by assumption) ?_
    rotate_left
    · intro w hSw
      go_simp
      try with_reducible rfl
    try simp only [Act.put, List.setIfInBounds_toArray, List.set_cons_zero, List.set_cons_succ]
    refine wpAnyH_take (i := 9) (v := ?_) rfl (by kernel_rfl) (by kernel_rfl) (by kernel_rfl) (fun _ _ _ h => h) (Or.inl ⟨by rfl, ?_⟩) (by assumption) ?_
    rotate_left
    · intro w hSw
      go_simp
      try with_reducible rfl
    try simp only [Act.put, List.setIfInBounds_toArray, List.set_cons_zero, List.set_cons_succ]
    refine wpAnyH_take (i := 10) (v := ?_) rfl (by kernel_rfl) (by kernel_rfl) (by kernel_rfl) (fun _ _ _ h => h) (Or.inl ⟨by rfl, ?_⟩) (by assumption) ?_
    rotate_left
    · intro w hSw
      go_simp
      try with_reducible rfl
    try simp only [Act.put, List.setIfInBounds_toArray, List.set_cons_zero, List.set_cons_succ]
    refine wpAnyH_ready (rs := [11]) (by kernel_rfl) (by simp) ?_
    refine AllReadyH.cons rfl (fun K hK => ?_) AllReadyH.nil
    go_simp
    refine hK.out _ _ trivial (fun _ => ?_)
    clear hK K
    try simp only [Act.put, List.setIfInBounds_toArray, List.set_cons_zero, List.set_cons_succ]
    refine wpAnyH_ready (rs := [12]) (by kernel_rfl) (by simp) ?_
    refine AllReadyH.cons rfl (fun K hK => ?_) AllReadyH.nil
    go_simp
    refine hK.out _ _ trivial (fun _ => ?_)
    clear hK K
    try simp only [Act.put, List.setIfInBounds_toArray, List.set_cons_zero, List.set_cons_succ]
    refine wpAnyH_done (by kernel_rfl) ?_ _
    have h3 := own_drew (own_alloc h2 (.cells #[.int .i64 x2, .int .i64 x3, .int .i64 (x4 - 1)] 52))
    have hx3 := ((hxa.trans hx2).alloc (.cells #[.int .i64 x2, .int .i64 x3, .int .i64 (x4 - 1)] 52)).drew
    clear q2 q3 q4 e2 e3 e4 e5 h2 hx2 ha hxa
    generalize w2.heap.size = p at *
    generalize (w2.alloc (.cells #[.int .i64 x2, .int .i64 x3, .int .i64 (x4 - 1)] 52)).drew = w3 at *
    generalize x4 - 1 = y at *
    obtain ⟨c, f⟩ := own_cells 0 h3 rfl
    by_cases hb : headBad x2 x3 y
    · have hbad : headOfBad s := HCD.out.2 (.inl hb)
      have HB := Lib.hid hbad
      have hq := headfault_any x2 x3 y _ w3 h3
      rw [show headF x2 x3 y = 1 from if_pos hb] at hq
      have HQ := Lib.hid hq
      clear hq hb hbad
      unfold headV at HQ
      go_wp2_with fail
      refine HQ.out.mono ?_
      rintro e w4 ⟨rfl, hx4, h4⟩
      clear c f
      obtain ⟨c, f⟩ := own_cells 1 h4 rfl
      go_wp2_with fail
      have h5 := own_set (i := 2) (v := .int .i64 0) 1 (own_set (i := 1) (v := .int .i64 0) 1 (own_set (i := 0) (v := .int .i64 0) 1 h4 rfl) rfl) rfl
      obtain ⟨c3, -⟩ := own_cells 1 h5 rfl
      refine bodyPost_ret (results_head rfl _ _ g 0 0 0 rfl (c3 0) (c3 1) (c3 2)) rfl ?_
      exact ⟨by first | rfl | (rw [if_pos HB.out]; rfl), (((hx3.trans hx4).setCell _ _).setCell _ _).setCell _ _, own_drop (own_drop h5)⟩
    · have hq := headfault_any x2 x3 y _ w3 h3
      rw [show headF x2 x3 y = 0 from if_neg hb] at hq
      have HQ := Lib.hid hq
      clear hq
      unfold headV at HQ
      have HS := Lib.hid (fun R w H => headsector_any x2 x3 y hb R w H)
      unfold headV at HS
      go_wp2_with fail
      refine HQ.out.mono ?_
      rintro e w4 ⟨rfl, hx4, h4⟩
      clear c f
      obtain ⟨c, f⟩ := own_cells 0 h4 rfl
      go_wp2_with fail
      refine (HS.out _ w4 h4).mono ?_
      rintro e w5 ⟨rfl, hx5, h5⟩
      clear c f
      obtain ⟨c, f⟩ := own_cells 0 h5 rfl
      obtain ⟨c', f'⟩ := own_cells 1 h5 rfl
      by_cases hne : headS x2 x3 y = s
      · have hgood : ¬ headOfBad s := fun h => (HCD.out.1 h).elim hb (fun h => h hne)
        have HG := Lib.hid hgood
        rw [hne]
        clear hgood hb
        go_wp2_with fail
        have h6 := own_set (i := 2) (v := .int .i64 y) 1 (own_set (i := 1) (v := .int .i64 x3) 1 (own_set (i := 0) (v := .int .i64 x2) 1 h5 rfl) rfl) rfl
        obtain ⟨c3, -⟩ := own_cells 1 h6 rfl
        refine bodyPost_ret (results_head rfl _ _ g x2 x3 y rfl (c3 0) (c3 1) (c3 2)) rfl ?_
        exact ⟨by first | (rw [HX.out.1, HX.out.2.1, HX.out.2.2]; rfl) | (rw [if_neg HG.out, HX.out.1, HX.out.2.1, HX.out.2.2]; rfl), ((((hx3.trans hx4).trans hx5).setCell _ _).setCell _ _).setCell _ _, own_drop (own_drop h6)⟩
      · have hbad : headOfBad s := HCD.out.2 (.inr hne)
        have HB := Lib.hid hbad
        have hnl : ((headS x2 x3 y).toList == s.toList) = false := by simpa using fun h => hne (toList_inj h)
        clear hb hbad
        go_wp2_with fail
        have h6 := own_set (i := 2) (v := .int .i64 0) 1 (own_set (i := 1) (v := .int .i64 0) 1 (own_set (i := 0) (v := .int .i64 0) 1 h5 rfl) rfl) rfl
        obtain ⟨c3, -⟩ := own_cells 1 h6 rfl
        refine bodyPost_ret (results_head rfl _ _ g 0 0 0 rfl (c3 0) (c3 1) (c3 2)) rfl ?_
        exact ⟨by first | rfl | (rw [if_pos HB.out]; rfl), ((((hx3.trans hx4).trans hx5).setCell _ _).setCell _ _).setCell _ _, own_drop (own_drop h6)⟩
  · have e : headOf s = ((0, 0, 0), openF s) := by rw [headOf, if_pos (by omega)]
    rw [e]
    clear e
    go_enter Try.func62, Try.ntmps62
    go_upto_region 1 with (fail)
    generalize w.heap.size = g at *
    generalize w.alloc (.cells #[.int .i64 0, .int .i64 0, .int .i64 0] 52) = w1 at *
    go_wp2_with fail
    refine (opened_any s hs _ w1 ha).mono ?_
    rintro e w2 ⟨rfl, hx2, h2⟩
    obtain ⟨c, f⟩ := own_cells 0 h2 rfl
    go_wp2_with fail
    have h3 := own_set (i := 2) (v := .int .i64 0) 0 (own_set (i := 1) (v := .int .i64 0) 0 (own_set (i := 0) (v := .int .i64 0) 0 h2 rfl) rfl) rfl
    obtain ⟨c3, -⟩ := own_cells 0 h3 rfl
    refine bodyPost_ret (results_head rfl _ _ g 0 0 0 rfl (c3 0) (c3 1) (c3 2)) rfl ?_
    exact ⟨rfl, (((hxa.trans hx2).setCell _ _).setCell _ _).setCell _ _, own_drop h3⟩
end Go.Proofs.Ytbpblokfiajpjaa
