/- Copy, Bytes, New and Of of a device. No conditions. -/
import Derived.Test.YtbpblokfiajpjaaDev4
import Derived.Deep.RegionLaw
namespace Go.SL
open Go.RowKit
theorem own_row_lt {w : World} {L : List HP} (k : Nat) {e : TypeId} {sz g n cap : Nat} {xs : List Value} (H : own w L) (hk : L[k]? = some (row e sz (.slice (some ⟨g, 0, none⟩) n cap) n xs)) : g < w.heap.size := by
  obtain ⟨hl, ⟨h1, h2⟩ | ⟨g', cap', cur, h1, h2, h3, h4, h5, h6⟩⟩ := own_row k H hk
  · cases h1
  · simp only [Value.slice.injEq, Option.some.injEq, Addr.mk.injEq, and_true, true_and] at h1
    obtain ⟨rfl, rfl⟩ := h1
    have hkl : k < L.length := (List.getElem?_eq_some_iff.1 hk).1
    exact own_lt k (b := g) (o := .cells cur e (0, 0)) h6 (by simp [hkl])
end Go.SL
namespace Go.Proofs.Ytbpblokfiajpjaa
open Go.RowKit Go.SL

def catL (l : List ByteArray) : List UInt8 := l.flatMap fun s => s.data.toList
def cat (l : List ByteArray) : ByteArray := ⟨(catL l).toArray⟩
theorem join_cat (l : List ByteArray) : Lib.join (l.map (·.data.toList)) [] = catL l := by
  have h : ∀ m : List (List UInt8), ([] : List UInt8).intercalate m = m.flatten := fun m => by
    induction m with
    | nil => rfl
    | cons x m ih =>
      cases m with
      | nil => simp [List.intercalate]
      | cons y m =>
        simp only [List.intercalate, List.intersperse, List.flatten_cons, List.nil_append] at ih ⊢
        rw [ih]
  rw [Lib.join, h, catL, List.flatMap]
theorem catL_length {l : List ByteArray} {k : Nat} (h : ∀ s ∈ l, s.size = k) : (catL l).length = l.length * k := by
  induction l with
  | nil => simp [catL]
  | cons x l ih =>
    have h1 := ih fun s hs => h s (by simp [hs])
    have h2 := h x (by simp)
    have h3 : x.data.toList.length = k := by rw [← h2]; rfl
    simp only [catL, List.flatMap_cons, List.length_append, List.length_cons, Nat.add_mul, h3] at h1 ⊢
    omega

set_option maxRecDepth 100000 in
set_option maxHeartbeats 1000000 in
theorem dev_bytes (b : Nat) (m : DevM) (hm : m.Ok) (R : List SL.HP) (w : World) (H : own w (devAt b m :: R)) :
    Calls Try.prog 47 #[.pointer (some ⟨b, 0, none⟩)] w fun e w' => e = .returned (.string (cat m.fl)) ∧ Ext w w' ∧ own w' (devAt b m :: R) := by
  obtain ⟨vf, vp, h⟩ := dev_open H
  have hl1 := hm.n
  have hcl := catL_length hm.fl
  obtain ⟨af, gf, cf, rfl, f1, f2, f3, -, -, f6, -⟩ := own_row_form 1 h rfl
  obtain ⟨c, f⟩ := own_cells 0 h rfl
  by_cases h0 : m.fl.length = 0
  · have e0 : cat m.fl = ⟨#[]⟩ := by rw [List.eq_nil_of_length_eq_zero h0]; rfl
    rw [e0]
    rw [h0] at c
    clear f3 f6
    go_enter Try.func47, Try.ntmps47
    go_wp2_with fail
    refine (Try.strings_Join_none _ _ _ w).mono ?_
    rintro e w1 ⟨rfl, rfl⟩
    go_wp2_with fail
    go_ret
    exact ⟨rfl, Ext.refl _, H⟩
  · obtain rfl := f3 (by omega)
    have hlt := own_row_lt 1 h rfl
    have hJ := Try.strings_Join gf 0 cf m.fl ⟨#[]⟩ w (fun j x hx => by rw [Nat.zero_add]; exact f6 j _ (by simp [strCells, hx])) hlt (by omega) f1 (by simp only [List.toList_toArray]; rw [join_cat]; omega)
    rw [show (⟨#[]⟩ : ByteArray).data.toList = [] from rfl, join_cat] at hJ
    have HJ := Lib.hid hJ
    clear f3 f6 hJ
    go_enter Try.func47, Try.ntmps47
    go_wp2_with fail
    refine HJ.out.mono ?_
    rintro e w1 ⟨rfl, hb⟩
    go_wp2_with fail
    go_ret
    exact ⟨rfl, ext_below hb, own_below H hb⟩

set_option maxRecDepth 100000 in
set_option maxHeartbeats 1000000 in
theorem dev_copy (b : Nat) (m : DevM) (hm : m.Ok) (R : List SL.HP) (w : World) (H : own w (devAt b m :: R)) :
    Calls Try.prog 61 #[.pointer (some ⟨b, 0, none⟩)] w fun e w' => ∃ c, e = .returned (.pointer (some ⟨c, 0, none⟩)) ∧ Ext w w' ∧ own w' (devAt c m :: devAt b m :: R) := by
  obtain ⟨vf, vp, h⟩ := dev_open H
  have hl1 := hm.n
  have hl2 := hm.p
  obtain ⟨ap, gp, cp, rfl, p1, p2, p3, -, -, -, -⟩ := own_row_form 2 h rfl
  obtain ⟨af, gf, cf, rfl, f1, f2, f3, -, -, -, -⟩ := own_row_form 1 h rfl
  obtain ⟨c, f⟩ := own_cells 0 h rfl
  have hml : 0 + m.fl.length ≤ maxLen := by simp only [maxLen]; omega
  have hnl : (strCells m.fl).length = m.fl.length * 1 := by simp [strCells]
  have hml2 : 0 + m.pend.length ≤ maxLen := by simp only [maxLen]; omega
  go_enter Try.func61, Try.ntmps61
  go_upto_region 2 with (fail)
  have h1 := own_alloc h (.cells #[.slice af m.fl.length cf, .slice ap m.pend.length cp, .int .i64 m.fail, .int .i64 m.writes] 133)
  have hx1 := (Ext.refl w).alloc (.cells #[.slice af m.fl.length cf, .slice ap m.pend.length cp, .int .i64 m.fail, .int .i64 m.writes] 133)
  clear c f h H
  generalize w.heap.size = cc at *
  generalize w.alloc (.cells #[.slice af m.fl.length cf, .slice ap m.pend.length cp, .int .i64 m.fail, .int .i64 m.writes] 133) = w1 at *
  obtain ⟨c0, f0⟩ := own_cells 0 h1 rfl
  obtain ⟨c1, f1'⟩ := own_cells 1 h1 rfl
  obtain ⟨n1, n2⟩ := own_row_news 2 h1 rfl
  go_wp2_with (first | (at_builtin; refine wpList_append_row rfl _ _ 42 rfl 0 9 Try.underlying42 elem_string rfl (by decide) rfl (own_row_nil 9 1 h1) rfl af m.fl.length cf (strCells m.fl) rfl hnl n1 n2 strCells_one hml (by omega) ?_))
  clear n1 n2 c0 f0 c1 f1'
  intro v2 w2 h2 hx2
  obtain ⟨a2, g2, c2, rfl, q1, q2, q3, -, -, -, -⟩ := own_row_form 0 h2 rfl
  try simp only [Nat.zero_add, List.nil_append, List.set_cons_zero] at h2
  try simp only [Nat.zero_add] at q1
  try simp only [Nat.zero_add] at q3
  obtain ⟨c0, f0⟩ := own_cells 1 h2 rfl
  obtain ⟨c1, f1'⟩ := own_cells 2 h2 rfl
  go_upto_region 3 with (fail)
  have h3 := own_set (i := 0) (v := .slice a2 m.fl.length c2) 1 h2 rfl
  have hx3 := (hx1.trans hx2).setCell ⟨cc, 0, none⟩ (.slice a2 m.fl.length c2)
  clear c0 f0 c1 f1' hx1 hx2 h1 h2
  generalize w2.setCell ⟨cc, 0, none⟩ (.slice a2 m.fl.length c2) = w3 at *
  obtain ⟨c0, f0⟩ := own_cells 1 h3 rfl
  obtain ⟨c1, f1'⟩ := own_cells 2 h3 rfl
  obtain ⟨n1, n2⟩ := own_row_news 4 h3 rfl
  go_wp2_with (first | (at_builtin; refine wpList_append_row rfl _ _ 131 rfl 0 137 Try.underlying131 elem_write rfl (by decide) rfl (own_row_nil 137 2 h3) rfl ap m.pend.length cp (pendCells m.pend) rfl (pendCells_len _) n1 n2 pendCells_one hml2 (by omega) ?_))
  clear n1 n2 c0 f0 c1 f1'
  intro v4 w4 h4 hx4
  obtain ⟨a4, g4, c4, rfl, q4, q5, q6, -, -, -, -⟩ := own_row_form 0 h4 rfl
  try simp only [Nat.zero_add, List.nil_append, List.set_cons_zero] at h4
  try simp only [Nat.zero_add] at q4
  try simp only [Nat.zero_add] at q6
  obtain ⟨c0, f0⟩ := own_cells 2 h4 rfl
  go_wp2_with fail
  go_ret
  refine ⟨cc, rfl, (hx3.trans hx4).setCell _ _, ?_⟩
  have h5 := own_set (i := 1) (v := .slice a4 m.pend.length c4) 2 h4 rfl
  have h6 := own_behind [_] (own_behind [_, _] h5)
  exact own_behind [_] (dev_close (own_behind [_, _, _] (dev_close h6)))

/-! ### New -/
def sect0 : ByteArray := ⟨#[0, 0, 0, 0, 0, 0, 0, 0, 0, 0, 0, 0, 0, 0, 0, 0]⟩
def newDev (n : Nat) : DevM := { fl := List.replicate n sect0, pend := [], fail := -1, writes := 0 }
theorem newDev_ok {n : Nat} (h : n ≤ 200) : (newDev n).Ok :=
  ⟨by simp [newDev]; exact h, fun s hs => by rw [(List.mem_replicate.1 hs).2]; rfl, by simp [newDev], fun x hx => by simp [newDev] at hx, by simp [newDev], by simp [newDev]⟩
theorem rep16 : (⟨(Lib.repeatL (⟨#[0]⟩ : ByteArray).data.toList 16).toArray⟩ : ByteArray) = sect0 := rfl
def sectOk (n : Int) : Bool := decide (1 ≤ n ∧ n ≤ 200)

set_option maxHeartbeats 400000 in
theorem dev_new_no (n : Int) (w : World) (h : sectOk n = false) : Calls Try.prog 49 #[.int .i64 n] w fun e w' => e = .returned (.tuple #[.pointer none, errV 1]) ∧ w = w' := by
  simp only [sectOk, decide_eq_false_iff_not] at h
  by_cases h1 : n < 1
  · go_enter Try.func49, Try.ntmps49
    go_wp2_with fail
    all_goals go_ret2
    all_goals exact ⟨rfl, rfl⟩
  · go_enter Try.func49, Try.ntmps49
    go_wp2_with fail
    all_goals go_ret2
    all_goals exact ⟨rfl, rfl⟩

theorem alloc_news (w : World) (cs : List Value) (T : TypeId) : ∀ ad, some (⟨w.heap.size, 0, none⟩ : Addr) = some ad → ∀ j u, cs[j]? = some u → (w.alloc (.cells cs.toArray T)).cell? (ad.add j) = some u := fun ad had j u hu => by
  obtain rfl := Option.some.inj had
  rw [add_none, Nat.zero_add]
  have h := own_alloc (own_exactly w) (.cells cs.toArray T)
  rw [(own_cells 0 h rfl).1]
  simpa using hu
theorem one_str (s : ByteArray) : ∀ u ∈ [Value.string s], u.oneCell' = true := fun u hu => by simp at hu; subst hu; rfl
theorem zeros_any (w : World) : Calls Try.prog 83 #[.string ⟨#[0]⟩, .int .i64 16] w fun e w' => e = .returned (.string sect0) ∧ Below w.heap.size w w' :=
  (Try.strings_Repeat ⟨#[0]⟩ 16 w (by decide) (by decide)).mono fun _ _ h => ⟨by rw [h.1, rep16], h.2⟩

def newInv (b : Nat) (n : Nat) (R : List SL.HP) (w0 : World) (i : Value) (wr : World) : Prop :=
  ∃ q : Nat, q ≤ n ∧ i = .int .i64 q ∧ Ext w0 wr ∧ ∃ ao g cap, q ≤ cap ∧ cap ≤ maxLen ∧ own wr (pts b (.cells #[.slice ao q cap, .slice none 0 0, .int .i64 (-1), .int .i64 0] 133 (0, 0)) :: row 9 1 (.slice ao q cap) q (strCells (List.replicate q sect0)) :: R) ∧ (0 < q → ao = some ⟨g, 0, none⟩)

set_option maxRecDepth 100000 in
set_option maxHeartbeats 1000000 in
theorem dev_new_yes (n : Nat) (R : List SL.HP) (w : World) (h : sectOk n = true) (H : own w R) : Calls Try.prog 49 #[.int .i64 n] w fun e w' => ∃ b, e = .returned (.tuple #[.pointer (some ⟨b, 0, none⟩), .nilIface]) ∧ Ext w w' ∧ own w' (devAt b (newDev n) :: R) := by
  simp only [sectOk, decide_eq_true_eq] at h
  obtain ⟨n1, n2⟩ := h
  go_enter Try.func49, Try.ntmps49
  go_upto_region 4 with (fail)
  have ha := own_alloc H (.cells #[.slice none 0 0, .slice none 0 0, .int .i64 (-1), .int .i64 0] 133)
  have hx1 := (Ext.refl w).alloc (.cells #[.slice none 0 0, .slice none 0 0, .int .i64 (-1), .int .i64 0] 133)
  generalize w.heap.size = b at *
  generalize w.alloc (.cells #[.slice none 0 0, .slice none 0 0, .int .i64 (-1), .int .i64 0] 133) = w1 at *
  have h1 := own_behind [_] (own_row_nil 9 1 ha)
  clear ha
  go_wp2_with fail
  go_loopw [15] (newInv b n R w) (fun i _ => n - (intOf i).toNat)
  case atStart => exact ⟨0, Nat.zero_le _, rfl, hx1, none, 0, 0, Nat.le_refl _, by simp [maxLen], h1, fun h => absurd h (by simp)⟩
  case round =>
    clear h1 hx1
    obtain ⟨q, hq, rfl, hxr, ao, g, cap, q1, q2, hown, q3⟩ := hrel
    by_cases hlt : q < n
    · have hml : q + 1 ≤ maxLen := by simp only [maxLen]; omega
      clear q3
      go_upto_region 6 with (fail)
      obtain ⟨c, f⟩ := own_cells 0 (own_drew hown) rfl
      go_region_law (first | (refine step_append_row (by rfl) _ _ 42 (by rfl) 2 9 Try.underlying42 elem_string rfl (by decide) (by rfl) (own_alloc h2 _) rfl (some ⟨w2.heap.size, 0, none⟩) 1 1 [.string sect0] (by rfl) rfl (alloc_news w2 [.string sect0] _) (fun h => by cases h) (one_str _) hml (by omega) ?_; intro v4 w4 h4 hx4; obtain ⟨a4, g4, c4, rfl, s1, s2, s3, -, -, -, -⟩ := own_row_form 2 h4 rfl; obtain rfl := s3 (by omega); obtain ⟨cc, ff⟩ := own_cells 1 h4 rfl) | (go_simp; go_at_call 83; refine (zeros_any _).mono ?_; rintro e w2 ⟨rfl, hb2⟩; have h2 := own_below (own_drew hown) hb2; obtain ⟨c2, f2⟩ := own_cells 0 h2 rfl; have h2a := own_alloc h2 (.cells #[.string sect0] 9); obtain ⟨c3, f3⟩ := own_cells 1 h2a rfl))
      all_goals
        go_wp2_with fail
        go_roundw
        case rel =>
          have h5 := own_set (i := 0) (v := .slice (some ⟨g4, 0, none⟩) (q + 1) c4) 1 h4 rfl
          refine ⟨q + 1, by omega, by go_num, ?_, _, g4, c4, s1, s2, ?_, fun _ => rfl⟩
          · exact (((hxr.drew.trans (ext_below hb2)).alloc _).trans hx4).setCell _ _
          · have h6 := own_drop h5
            have e : strCells (List.replicate (q + 1) sect0) = strCells (List.replicate q sect0) ++ [.string sect0] := by simp [strCells, List.replicate_succ']
            rw [e]
            exact h6
        case measure => simp [intOf]; omega
    · have hq' : q = n := by omega
      subst hq'
      clear q3
      go_wp2_with fail
      go_ret2
      refine ⟨b, rfl, hxr, dev_close (m := newDev q) (vf := .slice ao q cap) (vp := .slice none 0 0) ?_⟩
      have h5 := own_behind [_, _] (own_row_nil 137 2 hown)
      simp only [newDev, List.length_replicate]
      exact h5
end Go.Proofs.Ytbpblokfiajpjaa
