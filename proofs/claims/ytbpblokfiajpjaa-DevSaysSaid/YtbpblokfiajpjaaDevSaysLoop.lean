/- DevSays: its facts, and its loop: one theorem for each kind of act. No conditions. -/
import Derived.Test.YtbpblokfiajpjaaDevLaw
namespace Go.Proofs.Ytbpblokfiajpjaa
open Go.RowKit Go.SL
attribute [local go_sem ↓] Go.wp_at_zero Go.wp_at_succ

theorem elem_bool : Elem Try.prog 4 1 1 (.bool false) := by unfold Elem; kernel_rfl
def boolCells (ks : List Bool) : List Value := ks.map .bool
theorem boolCells_one {ks : List Bool} : ∀ u ∈ boolCells ks, u.oneCell' = true := fun u hu => by
  obtain ⟨_, _, rfl⟩ := List.mem_map.1 hu; rfl
theorem row_bools {w : World} {L : List HP} (k : Nat) {v : Value} {ks : List Bool} {e : TypeId} (H : own w L) (hk : L[k]? = some (row e 1 v ks.length (boolCells ks))) : BoolsAt w v ks := by
  obtain ⟨ao, g, cap, rfl, h1, h2, h3, -, -, h6, -⟩ := own_row_form k H hk
  exact ⟨ao, g, 0, cap, rfl, h1, by simpa [maxLen] using h2, h3, fun i hi => by
    dsimp only
    rw [Nat.zero_add]
    exact h6 i _ (by simp [boolCells, hi])⟩
theorem bools_news {w : World} {ao : Option Addr} {n cap : Nat} {ks : List Bool} (hn : ks.length = n) (h : BoolsAt w (.slice ao n cap) ks) :
    (∀ ad, ao = some ad → ∀ j u, (boolCells ks)[j]? = some u → w.cell? (ad.add j) = some u) ∧ (ao = none → n = 0) := by
  subst hn
  obtain ⟨ao', b, off, cap', hv, h1, h2, h3, h4⟩ := h
  simp only [Value.slice.injEq, true_and] at hv
  obtain ⟨rfl, rfl⟩ := hv
  refine ⟨fun ad had j u hu => ?_, fun h0 => ?_⟩
  · have hj : j < ks.length := by simpa [boolCells] using (List.getElem?_eq_some_iff.1 hu).1
    obtain rfl : ad = ⟨b, off, none⟩ := by rw [h3 (by omega)] at had; exact (Option.some.inj had).symm
    rw [add_none, h4 j hj, ← hu]
    simp [boolCells, hj]
  · rcases Nat.eq_zero_or_pos ks.length with h | h
    · exact h
    · rw [h3 h] at h0; cases h0

theorem catL_cut (s : ByteArray) : ∀ n : Nat, n * 16 ≤ s.size → catL ((List.range n).map (chunk s)) = s.data.toList.take (n * 16) := by
  intro n
  induction n with
  | zero => intro _; simp [catL]
  | succ n ih =>
    intro h
    have ih' := ih (by omega)
    rw [List.range_succ, List.map_append, catL, List.flatMap_append]
    change catL _ ++ catL _ = _
    rw [ih']
    have e : catL ([n].map (chunk s)) = (s.data.toList.drop (n * 16)).take 16 := by
      simp only [catL, List.map_cons, List.map_nil, List.flatMap_cons, List.flatMap_nil, List.append_nil, chunk, ByteArray.data_extract, Array.toList_extract, List.extract]
      congr 1
      omega
    rw [e, show (n + 1) * 16 = n * 16 + 16 from by omega, List.take_add]
theorem ofDev_cat {s : ByteArray} (h : ofOk s = true) : cat (ofDev s).fl = s := by
  simp only [ofOk, decide_eq_true_eq] at h
  have e : cutAt s (s.size / 16) (s.size / 16) = (List.range (s.size / 16)).map (chunk s) := by
    apply List.map_congr_left
    intro i hi
    rw [if_pos (by simpa using hi)]
  apply Go.WideShapes.bytes_inj
  simp only [cat, ofDev, List.toList_toArray]
  rw [e, catL_cut s _ (by omega)]
  apply List.take_of_length_le
  have : s.data.toList.length = s.size := rfl
  omega
theorem ofDev_ok {s : ByteArray} (h : ofOk s = true) : (ofDev s).Ok := by
  simp only [ofOk, decide_eq_true_eq] at h
  refine ⟨by simp [ofDev, cutAt_length]; omega, fun x hx => ?_, by simp [ofDev], fun x hx => by simp [ofDev] at hx, by simp [ofDev], by simp [ofDev]⟩
  simp only [ofDev, cutAt, List.mem_map, List.mem_range] at hx
  obtain ⟨i, hi, rfl⟩ := hx
  rw [if_pos hi, chunk, ByteArray.size_extract]
  omega
theorem write_code (m : DevM) (n : Int) (s : ByteArray) : 0 ≤ (m.write n s).1 := by
  unfold DevM.write
  split
  · show (0 : Int) ≤ 1; omega
  · split
    · show (0 : Int) ≤ 7; omega
    · show (0 : Int) ≤ 0; omega
theorem write_len (m : DevM) (n : Int) (s : ByteArray) : (m.write n s).2.fl.length = m.fl.length ∧ (m.write n s).2.pend.length ≤ m.pend.length + 1 ∧ (m.write n s).2.writes ≤ m.writes + 1 := by
  unfold DevM.write
  split
  · exact ⟨rfl, by dsimp only; omega, by dsimp only; omega⟩
  · split
    · exact ⟨rfl, by dsimp only; omega, by dsimp only; omega⟩
    · exact ⟨rfl, by simp, by dsimp only; omega⟩


theorem tmod4 (n : Nat) : ((n : Int)).tmod 4 = ((n % 4 : Nat) : Int) := by
  rw [Int.tmod_eq_emod_of_nonneg (by omega)]; omega

def firstLoop : Code → Option Code
  | .loop c => some c
  | .seq a b => match firstLoop a with
    | some c => some c
    | none => firstLoop b
  | .block _ c => firstLoop c
  | .scope c => firstLoop c
  | .cond _ a b => match firstLoop a with
    | some c => some c
    | none => firstLoop b
  | _ => none
noncomputable def dBody : Code := ((Try.f7.body.bind firstLoop).getD .skip)

theorem frame_of (t : Array Value) (n : Nat) (h : t.size = n) : t = ((List.range n).map fun k => t.getD k undef).toArray := by
  apply Array.ext
  · simp [h]
  · intro i h1 h2
    simp [h1]

def dRel (n : Nat) (w0 : World) (len : Nat) (d r i : Value) (wr : World) : Prop :=
  ∃ q : Nat, q ≤ len ∧ i = .int .i64 q ∧ Ext w0 wr ∧ ∃ (b1 b2 : Nat) (m : DevM), d = .pointer (some ⟨b1, 0, none⟩) ∧ r = .pointer (some ⟨b2, 0, none⟩) ∧ m.Ok ∧ m.fl.length = n ∧ m.pend.length ≤ q ∧ m.writes ≤ q ∧ own wr [devAt b1 m, rdevAt b2 m, exactly w0]
set_option maxRecDepth 1000000 in
def dWI (n : Nat) (v : Value) (w0 : World) (len : Nat) (a : Go.Act) (w' : World) : Prop :=
  ∃ (T : Nat → Value) (d r i : Value), dRel n w0 len d r i w' ∧ a = ⟨#[.int .i64 (n : Int), T 1, v, T 3, T 4, T 5, T 6, T 7, T 8, T 9, d, r, i, T 13, T 14, T 15, T 16, T 17, T 18, T 19, T 20, T 21, T 22, T 23, T 24, T 25, T 26, T 27, T 28, T 29, T 30, T 31, T 32, T 33, T 34, T 35, T 36, T 37, T 38, T 39, T 40, T 41, T 42, T 43, T 44, T 45, T 46, T 47, T 48, T 49, T 50, T 51, T 52, T 53, T 54, T 55, T 56, T 57, T 58, T 59, T 60, T 61, T 62, T 63, T 64, T 65, T 66, T 67, T 68, T 69, T 70, T 71, T 72, T 73, T 74, T 75, T 76, T 77, T 78, T 79, T 80, T 81, T 82, T 83, T 84, T 85, T 86, T 87, T 88, T 89, T 90, T 91, T 92, T 93, T 94, T 95, T 96, T 97, T 98, T 99, T 100, T 101, T 102, T 103, T 104, T 105, T 106, T 107, T 108, T 109, T 110, T 111, T 112, T 113, T 114, T 115, T 116, T 117, T 118, T 119, T 120, T 121, T 122, T 123, T 124, T 125, T 126, T 127, T 128, T 129, T 130, T 131, T 132, T 133, T 134, T 135, T 136, T 137, T 138, T 139, T 140, T 141, T 142, T 143, T 144, T 145, T 146, T 147, T 148, T 149, T 150, T 151, T 152, T 153, T 154, T 155, T 156, T 157, T 158, T 159, T 160, T 161, T 162, T 163, T 164, T 165, T 166, T 167, T 168, T 169, T 170, T 171, T 172, T 173, T 174, T 175, T 176, T 177, T 178, T 179, T 180, T 181, T 182, T 183, T 184, T 185, T 186, T 187, T 188, T 189, T 190, T 191, T 192, T 193, T 194, T 195, T 196, T 197, T 198, T 199, T 200, T 201, T 202, T 203, T 204, T 205, T 206, T 207, T 208, T 209, T 210, T 211, T 212, T 213, T 214, T 215, T 216, T 217, T 218, T 219, T 220, T 221, T 222, T 223, T 224, T 225, T 226, T 227, T 228, T 229, T 230], []⟩
def dMu (len : Nat) (a : Go.Act) (_w' : World) : Nat := len - (intOf (a.tmps.getD 12 undef)).toNat
set_option maxRecDepth 1000000 in
theorem dWI_mk {n : Nat} {v : Value} {w0 : World} {len : Nat} {a : Go.Act} {w' : World} (hd : a.defers = []) (hs : a.tmps.size = 231) (h0 : a.tmps.getD 0 undef = .int .i64 n) (h2 : a.tmps.getD 2 undef = v)
    (h : dRel n w0 len (a.tmps.getD 10 undef) (a.tmps.getD 11 undef) (a.tmps.getD 12 undef) w') : dWI n v w0 len a w' := by
  obtain ⟨t, df⟩ := a
  dsimp only at hd hs h0 h2 h
  subst hd
  have e := frame_of t 231 hs
  obtain ⟨T, hT⟩ : ∃ T : Nat → Value, T = fun k => t.getD k undef := ⟨_, rfl⟩
  rw [← hT] at e
  rw [show t.getD 0 undef = T 0 from by rw [hT]] at h0
  rw [show t.getD 2 undef = T 2 from by rw [hT]] at h2
  rw [show t.getD 10 undef = T 10 from by rw [hT], show t.getD 11 undef = T 11 from by rw [hT], show t.getD 12 undef = T 12 from by rw [hT]] at h
  refine ⟨T, T 10, T 11, T 12, h, ?_⟩
  rw [e, ← h0, ← h2]
  rfl

def text2 : ByteArray := ⟨#[102, 101, 100, 99, 98, 97, 57, 56, 55, 54, 53, 52, 51, 50, 49, 48]⟩

set_option maxRecDepth 1000000 in
set_option maxHeartbeats 8000000 in
theorem dRound1 {n : Nat} (hn200 : n ≤ 200) {b off cap : Nat} {l : List Act} {w wr : World} (hL60 : l.length ≤ 60) (HL : ∀ a ∈ l, a.keep.length ≤ 300) (HAT : Hid (∀ i, i < l.length → ActCells w b (off + i * 7) (l.getD i actNone))) (HV : Hid (ActsAt w (.slice (some ⟨b, off, none⟩) l.length cap) l))
    (T : Nat → Value) {q b1 b2 : Nat} {m : DevM} (hlt : q < l.length) (hxr : Ext w wr) (okm : m.Ok) (hn : m.fl.length = n) (hpq : m.pend.length ≤ q) (hwq : m.writes ≤ q) (hown : own wr [devAt b1 m, rdevAt b2 m, exactly w]) (Q0 : Exit → Go.Act → World → Prop) (k1 : ((l.getD q actNone).kind.toList == [119, 114, 105, 116, 101]) = true) :
    Code.wp Try.prog dBody (Exit.then (fun a' w'' => dWI n (.slice (some ⟨b, off, none⟩) l.length cap) w l.length a' w'' ∧ dMu l.length a' w'' < dMu l.length ⟨#[.int .i64 (n : Int), T 1, .slice (some ⟨b, off, none⟩) l.length cap, T 3, T 4, T 5, T 6, T 7, T 8, T 9, .pointer (some ⟨b1, 0, none⟩), .pointer (some ⟨b2, 0, none⟩), .int .i64 (q : Int), T 13, T 14, T 15, T 16, T 17, T 18, T 19, T 20, T 21, T 22, T 23, T 24, T 25, T 26, T 27, T 28, T 29, T 30, T 31, T 32, T 33, T 34, T 35, T 36, T 37, T 38, T 39, T 40, T 41, T 42, T 43, T 44, T 45, T 46, T 47, T 48, T 49, T 50, T 51, T 52, T 53, T 54, T 55, T 56, T 57, T 58, T 59, T 60, T 61, T 62, T 63, T 64, T 65, T 66, T 67, T 68, T 69, T 70, T 71, T 72, T 73, T 74, T 75, T 76, T 77, T 78, T 79, T 80, T 81, T 82, T 83, T 84, T 85, T 86, T 87, T 88, T 89, T 90, T 91, T 92, T 93, T 94, T 95, T 96, T 97, T 98, T 99, T 100, T 101, T 102, T 103, T 104, T 105, T 106, T 107, T 108, T 109, T 110, T 111, T 112, T 113, T 114, T 115, T 116, T 117, T 118, T 119, T 120, T 121, T 122, T 123, T 124, T 125, T 126, T 127, T 128, T 129, T 130, T 131, T 132, T 133, T 134, T 135, T 136, T 137, T 138, T 139, T 140, T 141, T 142, T 143, T 144, T 145, T 146, T 147, T 148, T 149, T 150, T 151, T 152, T 153, T 154, T 155, T 156, T 157, T 158, T 159, T 160, T 161, T 162, T 163, T 164, T 165, T 166, T 167, T 168, T 169, T 170, T 171, T 172, T 173, T 174, T 175, T 176, T 177, T 178, T 179, T 180, T 181, T 182, T 183, T 184, T 185, T 186, T 187, T 188, T 189, T 190, T 191, T 192, T 193, T 194, T 195, T 196, T 197, T 198, T 199, T 200, T 201, T 202, T 203, T 204, T 205, T 206, T 207, T 208, T 209, T 210, T 211, T 212, T 213, T 214, T 215, T 216, T 217, T 218, T 219, T 220, T 221, T 222, T 223, T 224, T 225, T 226, T 227, T 228, T 229, T 230], []⟩ wr) Q0) ⟨#[.int .i64 (n : Int), T 1, .slice (some ⟨b, off, none⟩) l.length cap, T 3, T 4, T 5, T 6, T 7, T 8, T 9, .pointer (some ⟨b1, 0, none⟩), .pointer (some ⟨b2, 0, none⟩), .int .i64 (q : Int), T 13, T 14, T 15, T 16, T 17, T 18, T 19, T 20, T 21, T 22, T 23, T 24, T 25, T 26, T 27, T 28, T 29, T 30, T 31, T 32, T 33, T 34, T 35, T 36, T 37, T 38, T 39, T 40, T 41, T 42, T 43, T 44, T 45, T 46, T 47, T 48, T 49, T 50, T 51, T 52, T 53, T 54, T 55, T 56, T 57, T 58, T 59, T 60, T 61, T 62, T 63, T 64, T 65, T 66, T 67, T 68, T 69, T 70, T 71, T 72, T 73, T 74, T 75, T 76, T 77, T 78, T 79, T 80, T 81, T 82, T 83, T 84, T 85, T 86, T 87, T 88, T 89, T 90, T 91, T 92, T 93, T 94, T 95, T 96, T 97, T 98, T 99, T 100, T 101, T 102, T 103, T 104, T 105, T 106, T 107, T 108, T 109, T 110, T 111, T 112, T 113, T 114, T 115, T 116, T 117, T 118, T 119, T 120, T 121, T 122, T 123, T 124, T 125, T 126, T 127, T 128, T 129, T 130, T 131, T 132, T 133, T 134, T 135, T 136, T 137, T 138, T 139, T 140, T 141, T 142, T 143, T 144, T 145, T 146, T 147, T 148, T 149, T 150, T 151, T 152, T 153, T 154, T 155, T 156, T 157, T 158, T 159, T 160, T 161, T 162, T 163, T 164, T 165, T 166, T 167, T 168, T 169, T 170, T 171, T 172, T 173, T 174, T 175, T 176, T 177, T 178, T 179, T 180, T 181, T 182, T 183, T 184, T 185, T 186, T 187, T 188, T 189, T 190, T 191, T 192, T 193, T 194, T 195, T 196, T 197, T 198, T 199, T 200, T 201, T 202, T 203, T 204, T 205, T 206, T 207, T 208, T 209, T 210, T 211, T 212, T 213, T 214, T 215, T 216, T 217, T 218, T 219, T 220, T 221, T 222, T 223, T 224, T 225, T 226, T 227, T 228, T 229, T 230], []⟩ wr := by
  conv => arg 2; whnf
  have hq : q ≤ l.length := by omega
  obtain ⟨c0, c1, c2, c3, c4, c5, c6⟩ := (HAT.out q hlt).later 2 hown rfl
  have ok := HV.out.2 _ (all_getD hlt)
  have hkeep := ok.keep
  obtain ⟨ko, kc, hkv, hkl⟩ := keep_len ok.keep
  rw [hkv] at c6 hkeep
  obtain ⟨A1, A2⟩ := ok.A
  have hSz := ok.S
  have hk3 := HL _ (all_getD hlt)
  clear HL
  generalize l.getD q actNone = x at *
  have HK := Lib.hid hkeep
  clear hkv ok hkeep
  go_upto_region 20 with (fail)
  have ha := own_alloc hown (.cells #[.string x.kind, .int .i64 x.A, .int .i64 x.B, .int .i64 x.C, .int .i64 x.D, .string x.S, .slice ko x.keep.length kc] 36)
  have hxa := hxr.alloc (.cells #[.string x.kind, .int .i64 x.A, .int .i64 x.B, .int .i64 x.C, .int .i64 x.D, .string x.S, .slice ko x.keep.length kc] 36)
  clear c0 c1 c2 c3 c4 c5 c6 hown hxr
  generalize wr.heap.size = ba at *
  generalize wr.alloc (.cells #[.string x.kind, .int .i64 x.A, .int .i64 x.B, .int .i64 x.C, .int .i64 x.D, .string x.S, .slice ko x.keep.length kc] 36) = wa at *
  obtain ⟨c, f⟩ := own_cells 0 ha rfl
  obtain ⟨W1, W2, W3⟩ := write_len m x.A x.S
  have W4 := write_code m x.A x.S
  have W5 := DevM.write_ok okm x.A x.S (by omega) (by omega)
  go_upto_region 28 with (fail)
  have hd := own_drew ha
  go_region_held3 (fun w' => w'.cell? ⟨ba, 1, none⟩ = some (.int .i64 x.A) ∧ w'.cell? ⟨ba, 5, none⟩ = some (.string x.S)) (first | exact ⟨(own_cells 0 hd rfl).1 1, (own_cells 0 hd rfl).1 5⟩ | exact ⟨(own_cells 0 h4 rfl).1 1, (own_cells 0 h4 rfl).1 5⟩ | exact ⟨(own_cells 0 h5 rfl).1 1, (own_cells 0 h5 rfl).1 5⟩) (first | (go_at_call 51; refine (dev_write b1 m okm x.A x.S hSz (by omega) (by omega) _ _ (own_pick 1 hd rfl)).mono ?_; rintro e w4 ⟨rfl, hx4, h4'⟩; have h4 := own_put hd 1 rfl h4') | (go_at_call 52; refine (rdev_write b2 m okm x.A x.S hSz (by omega) (by omega) _ _ (own_pick 2 h4 rfl)).mono ?_; rintro e w5 ⟨rfl, hx5, h5'⟩; have h5 := own_put h4 2 rfl h5') | (go_at_call 16; refine (same_any _ _ _ W4).mono ?_; rintro e w' ⟨rfl, rfl⟩))
  clear c f
  obtain ⟨m5, ok5, hn5, hp5, hw5, h6⟩ : ∃ m5 : DevM, m5.Ok ∧ m5.fl.length = n ∧ m5.pend.length ≤ q + 1 ∧ m5.writes ≤ q + 1 ∧ own w5 [devAt b1 m5, rdevAt b2 m5, exactly w] := ⟨_, W5, by omega, by omega, by omega, own_drop h5⟩
  have hx6 : Ext w w5 := (hxa.drew.trans hx4).trans hx5
  go_upto_region 53 with (fail)
  by_cases hq4 : q % 4 = 0
  · have hrem : ((q : Int)).tmod 4 = 0 := by rw [tmod4, hq4]; rfl
    go_wp2_with fail
    refine (asdev_any b1 b2 m5 ok5 _ w5 h6).mono ?_
    rintro e w7 ⟨rfl, hx7, h7⟩
    go_wp2_with fail
    refine ⟨dWI_mk rfl rfl rfl rfl ⟨q + 1, by omega, by go_num, hx6.trans hx7, b1, b2, m5, rfl, rfl, ok5, hn5, hp5, hw5, h7⟩, by simp [dMu, intOf]; omega⟩
  · have hrem : ((q : Int)).tmod 4 = ((q % 4 : Nat) : Int) := tmod4 q
    have hne : ¬ (((q % 4 : Nat) : Int) = 0) := by omega
    go_wp2_with fail
    refine ⟨dWI_mk rfl rfl rfl rfl ⟨q + 1, by omega, by go_num, hx6, b1, b2, m5, rfl, rfl, ok5, hn5, hp5, hw5, h6⟩, by simp [dMu, intOf]; omega⟩

set_option maxRecDepth 1000000 in
set_option maxHeartbeats 8000000 in
theorem dRound2 {n : Nat} (hn200 : n ≤ 200) {b off cap : Nat} {l : List Act} {w wr : World} (hL60 : l.length ≤ 60) (HL : ∀ a ∈ l, a.keep.length ≤ 300) (HAT : Hid (∀ i, i < l.length → ActCells w b (off + i * 7) (l.getD i actNone))) (HV : Hid (ActsAt w (.slice (some ⟨b, off, none⟩) l.length cap) l))
    (T : Nat → Value) {q b1 b2 : Nat} {m : DevM} (hlt : q < l.length) (hxr : Ext w wr) (okm : m.Ok) (hn : m.fl.length = n) (hpq : m.pend.length ≤ q) (hwq : m.writes ≤ q) (hown : own wr [devAt b1 m, rdevAt b2 m, exactly w]) (Q0 : Exit → Go.Act → World → Prop) (k1 : ¬ ((l.getD q actNone).kind.toList == [119, 114, 105, 116, 101]) = true) (k2 : ((l.getD q actNone).kind.toList == [114, 101, 97, 100]) = true) :
    Code.wp Try.prog dBody (Exit.then (fun a' w'' => dWI n (.slice (some ⟨b, off, none⟩) l.length cap) w l.length a' w'' ∧ dMu l.length a' w'' < dMu l.length ⟨#[.int .i64 (n : Int), T 1, .slice (some ⟨b, off, none⟩) l.length cap, T 3, T 4, T 5, T 6, T 7, T 8, T 9, .pointer (some ⟨b1, 0, none⟩), .pointer (some ⟨b2, 0, none⟩), .int .i64 (q : Int), T 13, T 14, T 15, T 16, T 17, T 18, T 19, T 20, T 21, T 22, T 23, T 24, T 25, T 26, T 27, T 28, T 29, T 30, T 31, T 32, T 33, T 34, T 35, T 36, T 37, T 38, T 39, T 40, T 41, T 42, T 43, T 44, T 45, T 46, T 47, T 48, T 49, T 50, T 51, T 52, T 53, T 54, T 55, T 56, T 57, T 58, T 59, T 60, T 61, T 62, T 63, T 64, T 65, T 66, T 67, T 68, T 69, T 70, T 71, T 72, T 73, T 74, T 75, T 76, T 77, T 78, T 79, T 80, T 81, T 82, T 83, T 84, T 85, T 86, T 87, T 88, T 89, T 90, T 91, T 92, T 93, T 94, T 95, T 96, T 97, T 98, T 99, T 100, T 101, T 102, T 103, T 104, T 105, T 106, T 107, T 108, T 109, T 110, T 111, T 112, T 113, T 114, T 115, T 116, T 117, T 118, T 119, T 120, T 121, T 122, T 123, T 124, T 125, T 126, T 127, T 128, T 129, T 130, T 131, T 132, T 133, T 134, T 135, T 136, T 137, T 138, T 139, T 140, T 141, T 142, T 143, T 144, T 145, T 146, T 147, T 148, T 149, T 150, T 151, T 152, T 153, T 154, T 155, T 156, T 157, T 158, T 159, T 160, T 161, T 162, T 163, T 164, T 165, T 166, T 167, T 168, T 169, T 170, T 171, T 172, T 173, T 174, T 175, T 176, T 177, T 178, T 179, T 180, T 181, T 182, T 183, T 184, T 185, T 186, T 187, T 188, T 189, T 190, T 191, T 192, T 193, T 194, T 195, T 196, T 197, T 198, T 199, T 200, T 201, T 202, T 203, T 204, T 205, T 206, T 207, T 208, T 209, T 210, T 211, T 212, T 213, T 214, T 215, T 216, T 217, T 218, T 219, T 220, T 221, T 222, T 223, T 224, T 225, T 226, T 227, T 228, T 229, T 230], []⟩ wr) Q0) ⟨#[.int .i64 (n : Int), T 1, .slice (some ⟨b, off, none⟩) l.length cap, T 3, T 4, T 5, T 6, T 7, T 8, T 9, .pointer (some ⟨b1, 0, none⟩), .pointer (some ⟨b2, 0, none⟩), .int .i64 (q : Int), T 13, T 14, T 15, T 16, T 17, T 18, T 19, T 20, T 21, T 22, T 23, T 24, T 25, T 26, T 27, T 28, T 29, T 30, T 31, T 32, T 33, T 34, T 35, T 36, T 37, T 38, T 39, T 40, T 41, T 42, T 43, T 44, T 45, T 46, T 47, T 48, T 49, T 50, T 51, T 52, T 53, T 54, T 55, T 56, T 57, T 58, T 59, T 60, T 61, T 62, T 63, T 64, T 65, T 66, T 67, T 68, T 69, T 70, T 71, T 72, T 73, T 74, T 75, T 76, T 77, T 78, T 79, T 80, T 81, T 82, T 83, T 84, T 85, T 86, T 87, T 88, T 89, T 90, T 91, T 92, T 93, T 94, T 95, T 96, T 97, T 98, T 99, T 100, T 101, T 102, T 103, T 104, T 105, T 106, T 107, T 108, T 109, T 110, T 111, T 112, T 113, T 114, T 115, T 116, T 117, T 118, T 119, T 120, T 121, T 122, T 123, T 124, T 125, T 126, T 127, T 128, T 129, T 130, T 131, T 132, T 133, T 134, T 135, T 136, T 137, T 138, T 139, T 140, T 141, T 142, T 143, T 144, T 145, T 146, T 147, T 148, T 149, T 150, T 151, T 152, T 153, T 154, T 155, T 156, T 157, T 158, T 159, T 160, T 161, T 162, T 163, T 164, T 165, T 166, T 167, T 168, T 169, T 170, T 171, T 172, T 173, T 174, T 175, T 176, T 177, T 178, T 179, T 180, T 181, T 182, T 183, T 184, T 185, T 186, T 187, T 188, T 189, T 190, T 191, T 192, T 193, T 194, T 195, T 196, T 197, T 198, T 199, T 200, T 201, T 202, T 203, T 204, T 205, T 206, T 207, T 208, T 209, T 210, T 211, T 212, T 213, T 214, T 215, T 216, T 217, T 218, T 219, T 220, T 221, T 222, T 223, T 224, T 225, T 226, T 227, T 228, T 229, T 230], []⟩ wr := by
  conv => arg 2; whnf
  have hq : q ≤ l.length := by omega
  obtain ⟨c0, c1, c2, c3, c4, c5, c6⟩ := (HAT.out q hlt).later 2 hown rfl
  have ok := HV.out.2 _ (all_getD hlt)
  have hkeep := ok.keep
  obtain ⟨ko, kc, hkv, hkl⟩ := keep_len ok.keep
  rw [hkv] at c6 hkeep
  obtain ⟨A1, A2⟩ := ok.A
  have hSz := ok.S
  have hk3 := HL _ (all_getD hlt)
  clear HL
  generalize l.getD q actNone = x at *
  have HK := Lib.hid hkeep
  clear hkv ok hkeep
  go_upto_region 20 with (fail)
  have ha := own_alloc hown (.cells #[.string x.kind, .int .i64 x.A, .int .i64 x.B, .int .i64 x.C, .int .i64 x.D, .string x.S, .slice ko x.keep.length kc] 36)
  have hxa := hxr.alloc (.cells #[.string x.kind, .int .i64 x.A, .int .i64 x.B, .int .i64 x.C, .int .i64 x.D, .string x.S, .slice ko x.keep.length kc] 36)
  clear c0 c1 c2 c3 c4 c5 c6 hown hxr
  generalize wr.heap.size = ba at *
  generalize wr.alloc (.cells #[.string x.kind, .int .i64 x.A, .int .i64 x.B, .int .i64 x.C, .int .i64 x.D, .string x.S, .slice ko x.keep.length kc] 36) = wa at *
  obtain ⟨c, f⟩ := own_cells 0 ha rfl
  go_wp2_with fail
  refine (dev_read b1 m okm x.A _ wa (own_pick 1 ha rfl)).mono ?_
  rintro e w4 ⟨rfl, rfl⟩
  rw [hn]
  by_cases hin : x.A < 0 ∨ (n : Int) ≤ x.A
  · rw [if_pos hin]
    by_cases hin0 : x.A < 0
    · go_wp2_with fail
      refine (same_any 1 1 _ (by omega)).mono ?_
      rintro e w5 ⟨rfl, rfl⟩
      obtain ⟨m5, ok5, hn5, hp5, hw5, h6⟩ : ∃ m5 : DevM, m5.Ok ∧ m5.fl.length = n ∧ m5.pend.length ≤ q + 1 ∧ m5.writes ≤ q + 1 ∧ own wa [devAt b1 m5, rdevAt b2 m5, exactly w] := ⟨m, okm, hn, by omega, by omega, own_drop ha⟩
      have hx6 : Ext w wa := hxa
      go_upto_region 53 with (fail)
      by_cases hq4 : q % 4 = 0
      · have hrem : ((q : Int)).tmod 4 = 0 := by rw [tmod4, hq4]; rfl
        go_wp2_with fail
        refine (asdev_any b1 b2 m5 ok5 _ wa h6).mono ?_
        rintro e w7 ⟨rfl, hx7, h7⟩
        go_wp2_with fail
        refine ⟨dWI_mk rfl rfl rfl rfl ⟨q + 1, by omega, by go_num, hx6.trans hx7, b1, b2, m5, rfl, rfl, ok5, hn5, hp5, hw5, h7⟩, by simp [dMu, intOf]; omega⟩
      · have hrem : ((q : Int)).tmod 4 = ((q % 4 : Nat) : Int) := tmod4 q
        have hne : ¬ (((q % 4 : Nat) : Int) = 0) := by omega
        go_wp2_with fail
        refine ⟨dWI_mk rfl rfl rfl rfl ⟨q + 1, by omega, by go_num, hx6, b1, b2, m5, rfl, rfl, ok5, hn5, hp5, hw5, h6⟩, by simp [dMu, intOf]; omega⟩
    · have hin1 : (n : Int) ≤ x.A := by omega
      go_wp2_with fail
      refine (same_any 1 1 _ (by omega)).mono ?_
      rintro e w5 ⟨rfl, rfl⟩
      obtain ⟨m5, ok5, hn5, hp5, hw5, h6⟩ : ∃ m5 : DevM, m5.Ok ∧ m5.fl.length = n ∧ m5.pend.length ≤ q + 1 ∧ m5.writes ≤ q + 1 ∧ own wa [devAt b1 m5, rdevAt b2 m5, exactly w] := ⟨m, okm, hn, by omega, by omega, own_drop ha⟩
      have hx6 : Ext w wa := hxa
      go_upto_region 53 with (fail)
      by_cases hq4 : q % 4 = 0
      · have hrem : ((q : Int)).tmod 4 = 0 := by rw [tmod4, hq4]; rfl
        go_wp2_with fail
        refine (asdev_any b1 b2 m5 ok5 _ wa h6).mono ?_
        rintro e w7 ⟨rfl, hx7, h7⟩
        go_wp2_with fail
        refine ⟨dWI_mk rfl rfl rfl rfl ⟨q + 1, by omega, by go_num, hx6.trans hx7, b1, b2, m5, rfl, rfl, ok5, hn5, hp5, hw5, h7⟩, by simp [dMu, intOf]; omega⟩
      · have hrem : ((q : Int)).tmod 4 = ((q % 4 : Nat) : Int) := tmod4 q
        have hne : ¬ (((q % 4 : Nat) : Int) = 0) := by omega
        go_wp2_with fail
        refine ⟨dWI_mk rfl rfl rfl rfl ⟨q + 1, by omega, by go_num, hx6, b1, b2, m5, rfl, rfl, ok5, hn5, hp5, hw5, h6⟩, by simp [dMu, intOf]; omega⟩
  · rw [if_neg hin]
    have hin1 : 0 ≤ x.A := by omega
    have hin2 : x.A < (n : Int) := by omega
    clear hin
    go_wp2_with fail
    refine (rdev_seen b2 m okm x.A (by omega) (by omega) _ wa (own_pick 2 ha rfl)).mono ?_
    rintro e w5 ⟨rfl, rfl⟩
    obtain ⟨m5, ok5, hn5, hp5, hw5, h6⟩ : ∃ m5 : DevM, m5.Ok ∧ m5.fl.length = n ∧ m5.pend.length ≤ q + 1 ∧ m5.writes ≤ q + 1 ∧ own wa [devAt b1 m5, rdevAt b2 m5, exactly w] := ⟨m, okm, hn, by omega, by omega, own_drop ha⟩
    have hx6 : Ext w wa := hxa
    go_upto_region 53 with (fail)
    by_cases hq4 : q % 4 = 0
    · have hrem : ((q : Int)).tmod 4 = 0 := by rw [tmod4, hq4]; rfl
      go_wp2_with fail
      refine (asdev_any b1 b2 m5 ok5 _ wa h6).mono ?_
      rintro e w7 ⟨rfl, hx7, h7⟩
      go_wp2_with fail
      refine ⟨dWI_mk rfl rfl rfl rfl ⟨q + 1, by omega, by go_num, hx6.trans hx7, b1, b2, m5, rfl, rfl, ok5, hn5, hp5, hw5, h7⟩, by simp [dMu, intOf]; omega⟩
    · have hrem : ((q : Int)).tmod 4 = ((q % 4 : Nat) : Int) := tmod4 q
      have hne : ¬ (((q % 4 : Nat) : Int) = 0) := by omega
      go_wp2_with fail
      refine ⟨dWI_mk rfl rfl rfl rfl ⟨q + 1, by omega, by go_num, hx6, b1, b2, m5, rfl, rfl, ok5, hn5, hp5, hw5, h6⟩, by simp [dMu, intOf]; omega⟩

set_option maxRecDepth 1000000 in
set_option maxHeartbeats 8000000 in
theorem dRound3 {n : Nat} (hn200 : n ≤ 200) {b off cap : Nat} {l : List Act} {w wr : World} (hL60 : l.length ≤ 60) (HL : ∀ a ∈ l, a.keep.length ≤ 300) (HAT : Hid (∀ i, i < l.length → ActCells w b (off + i * 7) (l.getD i actNone))) (HV : Hid (ActsAt w (.slice (some ⟨b, off, none⟩) l.length cap) l))
    (T : Nat → Value) {q b1 b2 : Nat} {m : DevM} (hlt : q < l.length) (hxr : Ext w wr) (okm : m.Ok) (hn : m.fl.length = n) (hpq : m.pend.length ≤ q) (hwq : m.writes ≤ q) (hown : own wr [devAt b1 m, rdevAt b2 m, exactly w]) (Q0 : Exit → Go.Act → World → Prop) (k1 : ¬ ((l.getD q actNone).kind.toList == [119, 114, 105, 116, 101]) = true) (k2 : ¬ ((l.getD q actNone).kind.toList == [114, 101, 97, 100]) = true) (k3 : ((l.getD q actNone).kind.toList == [102, 108, 117, 115, 104]) = true) :
    Code.wp Try.prog dBody (Exit.then (fun a' w'' => dWI n (.slice (some ⟨b, off, none⟩) l.length cap) w l.length a' w'' ∧ dMu l.length a' w'' < dMu l.length ⟨#[.int .i64 (n : Int), T 1, .slice (some ⟨b, off, none⟩) l.length cap, T 3, T 4, T 5, T 6, T 7, T 8, T 9, .pointer (some ⟨b1, 0, none⟩), .pointer (some ⟨b2, 0, none⟩), .int .i64 (q : Int), T 13, T 14, T 15, T 16, T 17, T 18, T 19, T 20, T 21, T 22, T 23, T 24, T 25, T 26, T 27, T 28, T 29, T 30, T 31, T 32, T 33, T 34, T 35, T 36, T 37, T 38, T 39, T 40, T 41, T 42, T 43, T 44, T 45, T 46, T 47, T 48, T 49, T 50, T 51, T 52, T 53, T 54, T 55, T 56, T 57, T 58, T 59, T 60, T 61, T 62, T 63, T 64, T 65, T 66, T 67, T 68, T 69, T 70, T 71, T 72, T 73, T 74, T 75, T 76, T 77, T 78, T 79, T 80, T 81, T 82, T 83, T 84, T 85, T 86, T 87, T 88, T 89, T 90, T 91, T 92, T 93, T 94, T 95, T 96, T 97, T 98, T 99, T 100, T 101, T 102, T 103, T 104, T 105, T 106, T 107, T 108, T 109, T 110, T 111, T 112, T 113, T 114, T 115, T 116, T 117, T 118, T 119, T 120, T 121, T 122, T 123, T 124, T 125, T 126, T 127, T 128, T 129, T 130, T 131, T 132, T 133, T 134, T 135, T 136, T 137, T 138, T 139, T 140, T 141, T 142, T 143, T 144, T 145, T 146, T 147, T 148, T 149, T 150, T 151, T 152, T 153, T 154, T 155, T 156, T 157, T 158, T 159, T 160, T 161, T 162, T 163, T 164, T 165, T 166, T 167, T 168, T 169, T 170, T 171, T 172, T 173, T 174, T 175, T 176, T 177, T 178, T 179, T 180, T 181, T 182, T 183, T 184, T 185, T 186, T 187, T 188, T 189, T 190, T 191, T 192, T 193, T 194, T 195, T 196, T 197, T 198, T 199, T 200, T 201, T 202, T 203, T 204, T 205, T 206, T 207, T 208, T 209, T 210, T 211, T 212, T 213, T 214, T 215, T 216, T 217, T 218, T 219, T 220, T 221, T 222, T 223, T 224, T 225, T 226, T 227, T 228, T 229, T 230], []⟩ wr) Q0) ⟨#[.int .i64 (n : Int), T 1, .slice (some ⟨b, off, none⟩) l.length cap, T 3, T 4, T 5, T 6, T 7, T 8, T 9, .pointer (some ⟨b1, 0, none⟩), .pointer (some ⟨b2, 0, none⟩), .int .i64 (q : Int), T 13, T 14, T 15, T 16, T 17, T 18, T 19, T 20, T 21, T 22, T 23, T 24, T 25, T 26, T 27, T 28, T 29, T 30, T 31, T 32, T 33, T 34, T 35, T 36, T 37, T 38, T 39, T 40, T 41, T 42, T 43, T 44, T 45, T 46, T 47, T 48, T 49, T 50, T 51, T 52, T 53, T 54, T 55, T 56, T 57, T 58, T 59, T 60, T 61, T 62, T 63, T 64, T 65, T 66, T 67, T 68, T 69, T 70, T 71, T 72, T 73, T 74, T 75, T 76, T 77, T 78, T 79, T 80, T 81, T 82, T 83, T 84, T 85, T 86, T 87, T 88, T 89, T 90, T 91, T 92, T 93, T 94, T 95, T 96, T 97, T 98, T 99, T 100, T 101, T 102, T 103, T 104, T 105, T 106, T 107, T 108, T 109, T 110, T 111, T 112, T 113, T 114, T 115, T 116, T 117, T 118, T 119, T 120, T 121, T 122, T 123, T 124, T 125, T 126, T 127, T 128, T 129, T 130, T 131, T 132, T 133, T 134, T 135, T 136, T 137, T 138, T 139, T 140, T 141, T 142, T 143, T 144, T 145, T 146, T 147, T 148, T 149, T 150, T 151, T 152, T 153, T 154, T 155, T 156, T 157, T 158, T 159, T 160, T 161, T 162, T 163, T 164, T 165, T 166, T 167, T 168, T 169, T 170, T 171, T 172, T 173, T 174, T 175, T 176, T 177, T 178, T 179, T 180, T 181, T 182, T 183, T 184, T 185, T 186, T 187, T 188, T 189, T 190, T 191, T 192, T 193, T 194, T 195, T 196, T 197, T 198, T 199, T 200, T 201, T 202, T 203, T 204, T 205, T 206, T 207, T 208, T 209, T 210, T 211, T 212, T 213, T 214, T 215, T 216, T 217, T 218, T 219, T 220, T 221, T 222, T 223, T 224, T 225, T 226, T 227, T 228, T 229, T 230], []⟩ wr := by
  conv => arg 2; whnf
  have hq : q ≤ l.length := by omega
  obtain ⟨c0, c1, c2, c3, c4, c5, c6⟩ := (HAT.out q hlt).later 2 hown rfl
  have ok := HV.out.2 _ (all_getD hlt)
  have hkeep := ok.keep
  obtain ⟨ko, kc, hkv, hkl⟩ := keep_len ok.keep
  rw [hkv] at c6 hkeep
  obtain ⟨A1, A2⟩ := ok.A
  have hSz := ok.S
  have hk3 := HL _ (all_getD hlt)
  clear HL
  generalize l.getD q actNone = x at *
  have HK := Lib.hid hkeep
  clear hkv ok hkeep
  go_upto_region 20 with (fail)
  have ha := own_alloc hown (.cells #[.string x.kind, .int .i64 x.A, .int .i64 x.B, .int .i64 x.C, .int .i64 x.D, .string x.S, .slice ko x.keep.length kc] 36)
  have hxa := hxr.alloc (.cells #[.string x.kind, .int .i64 x.A, .int .i64 x.B, .int .i64 x.C, .int .i64 x.D, .string x.S, .slice ko x.keep.length kc] 36)
  clear c0 c1 c2 c3 c4 c5 c6 hown hxr
  generalize wr.heap.size = ba at *
  generalize wr.alloc (.cells #[.string x.kind, .int .i64 x.A, .int .i64 x.B, .int .i64 x.C, .int .i64 x.D, .string x.S, .slice ko x.keep.length kc] 36) = wa at *
  obtain ⟨c, f⟩ := own_cells 0 ha rfl
  go_wp2_with fail
  refine (dev_flush b1 m okm _ wa (own_pick 1 ha rfl)).mono ?_
  rintro e w4 ⟨rfl, hx4, h4'⟩
  have h4 := own_put ha 1 rfl h4'
  go_wp2_with fail
  refine (rdev_flush b2 m okm _ w4 (own_pick 2 h4 rfl)).mono ?_
  rintro e w5 ⟨rfl, hx5, h5'⟩
  have h5 := own_put h4 2 rfl h5'
  clear c f
  obtain ⟨m5, ok5, hn5, hp5, hw5, h6⟩ : ∃ m5 : DevM, m5.Ok ∧ m5.fl.length = n ∧ m5.pend.length ≤ q + 1 ∧ m5.writes ≤ q + 1 ∧ own w5 [devAt b1 m5, rdevAt b2 m5, exactly w] := ⟨m.flush, DevM.flush_ok okm, by simp only [DevM.flush, foldl_setAt_length]; exact hn, by simp [DevM.flush], by simp only [DevM.flush]; omega, own_drop h5⟩
  have hx6 : Ext w w5 := (hxa.trans hx4).trans hx5
  go_upto_region 53 with (fail)
  by_cases hq4 : q % 4 = 0
  · have hrem : ((q : Int)).tmod 4 = 0 := by rw [tmod4, hq4]; rfl
    go_wp2_with fail
    refine (asdev_any b1 b2 m5 ok5 _ w5 h6).mono ?_
    rintro e w7 ⟨rfl, hx7, h7⟩
    go_wp2_with fail
    refine ⟨dWI_mk rfl rfl rfl rfl ⟨q + 1, by omega, by go_num, hx6.trans hx7, b1, b2, m5, rfl, rfl, ok5, hn5, hp5, hw5, h7⟩, by simp [dMu, intOf]; omega⟩
  · have hrem : ((q : Int)).tmod 4 = ((q % 4 : Nat) : Int) := tmod4 q
    have hne : ¬ (((q % 4 : Nat) : Int) = 0) := by omega
    go_wp2_with fail
    refine ⟨dWI_mk rfl rfl rfl rfl ⟨q + 1, by omega, by go_num, hx6, b1, b2, m5, rfl, rfl, ok5, hn5, hp5, hw5, h6⟩, by simp [dMu, intOf]; omega⟩

set_option maxRecDepth 1000000 in
set_option maxHeartbeats 8000000 in
theorem dRound4 {n : Nat} (hn200 : n ≤ 200) {b off cap : Nat} {l : List Act} {w wr : World} (hL60 : l.length ≤ 60) (HL : ∀ a ∈ l, a.keep.length ≤ 300) (HAT : Hid (∀ i, i < l.length → ActCells w b (off + i * 7) (l.getD i actNone))) (HV : Hid (ActsAt w (.slice (some ⟨b, off, none⟩) l.length cap) l))
    (T : Nat → Value) {q b1 b2 : Nat} {m : DevM} (hlt : q < l.length) (hxr : Ext w wr) (okm : m.Ok) (hn : m.fl.length = n) (hpq : m.pend.length ≤ q) (hwq : m.writes ≤ q) (hown : own wr [devAt b1 m, rdevAt b2 m, exactly w]) (Q0 : Exit → Go.Act → World → Prop) (k1 : ¬ ((l.getD q actNone).kind.toList == [119, 114, 105, 116, 101]) = true) (k2 : ¬ ((l.getD q actNone).kind.toList == [114, 101, 97, 100]) = true) (k3 : ¬ ((l.getD q actNone).kind.toList == [102, 108, 117, 115, 104]) = true) (k4 : ((l.getD q actNone).kind.toList == [102, 97, 105, 108]) = true) :
    Code.wp Try.prog dBody (Exit.then (fun a' w'' => dWI n (.slice (some ⟨b, off, none⟩) l.length cap) w l.length a' w'' ∧ dMu l.length a' w'' < dMu l.length ⟨#[.int .i64 (n : Int), T 1, .slice (some ⟨b, off, none⟩) l.length cap, T 3, T 4, T 5, T 6, T 7, T 8, T 9, .pointer (some ⟨b1, 0, none⟩), .pointer (some ⟨b2, 0, none⟩), .int .i64 (q : Int), T 13, T 14, T 15, T 16, T 17, T 18, T 19, T 20, T 21, T 22, T 23, T 24, T 25, T 26, T 27, T 28, T 29, T 30, T 31, T 32, T 33, T 34, T 35, T 36, T 37, T 38, T 39, T 40, T 41, T 42, T 43, T 44, T 45, T 46, T 47, T 48, T 49, T 50, T 51, T 52, T 53, T 54, T 55, T 56, T 57, T 58, T 59, T 60, T 61, T 62, T 63, T 64, T 65, T 66, T 67, T 68, T 69, T 70, T 71, T 72, T 73, T 74, T 75, T 76, T 77, T 78, T 79, T 80, T 81, T 82, T 83, T 84, T 85, T 86, T 87, T 88, T 89, T 90, T 91, T 92, T 93, T 94, T 95, T 96, T 97, T 98, T 99, T 100, T 101, T 102, T 103, T 104, T 105, T 106, T 107, T 108, T 109, T 110, T 111, T 112, T 113, T 114, T 115, T 116, T 117, T 118, T 119, T 120, T 121, T 122, T 123, T 124, T 125, T 126, T 127, T 128, T 129, T 130, T 131, T 132, T 133, T 134, T 135, T 136, T 137, T 138, T 139, T 140, T 141, T 142, T 143, T 144, T 145, T 146, T 147, T 148, T 149, T 150, T 151, T 152, T 153, T 154, T 155, T 156, T 157, T 158, T 159, T 160, T 161, T 162, T 163, T 164, T 165, T 166, T 167, T 168, T 169, T 170, T 171, T 172, T 173, T 174, T 175, T 176, T 177, T 178, T 179, T 180, T 181, T 182, T 183, T 184, T 185, T 186, T 187, T 188, T 189, T 190, T 191, T 192, T 193, T 194, T 195, T 196, T 197, T 198, T 199, T 200, T 201, T 202, T 203, T 204, T 205, T 206, T 207, T 208, T 209, T 210, T 211, T 212, T 213, T 214, T 215, T 216, T 217, T 218, T 219, T 220, T 221, T 222, T 223, T 224, T 225, T 226, T 227, T 228, T 229, T 230], []⟩ wr) Q0) ⟨#[.int .i64 (n : Int), T 1, .slice (some ⟨b, off, none⟩) l.length cap, T 3, T 4, T 5, T 6, T 7, T 8, T 9, .pointer (some ⟨b1, 0, none⟩), .pointer (some ⟨b2, 0, none⟩), .int .i64 (q : Int), T 13, T 14, T 15, T 16, T 17, T 18, T 19, T 20, T 21, T 22, T 23, T 24, T 25, T 26, T 27, T 28, T 29, T 30, T 31, T 32, T 33, T 34, T 35, T 36, T 37, T 38, T 39, T 40, T 41, T 42, T 43, T 44, T 45, T 46, T 47, T 48, T 49, T 50, T 51, T 52, T 53, T 54, T 55, T 56, T 57, T 58, T 59, T 60, T 61, T 62, T 63, T 64, T 65, T 66, T 67, T 68, T 69, T 70, T 71, T 72, T 73, T 74, T 75, T 76, T 77, T 78, T 79, T 80, T 81, T 82, T 83, T 84, T 85, T 86, T 87, T 88, T 89, T 90, T 91, T 92, T 93, T 94, T 95, T 96, T 97, T 98, T 99, T 100, T 101, T 102, T 103, T 104, T 105, T 106, T 107, T 108, T 109, T 110, T 111, T 112, T 113, T 114, T 115, T 116, T 117, T 118, T 119, T 120, T 121, T 122, T 123, T 124, T 125, T 126, T 127, T 128, T 129, T 130, T 131, T 132, T 133, T 134, T 135, T 136, T 137, T 138, T 139, T 140, T 141, T 142, T 143, T 144, T 145, T 146, T 147, T 148, T 149, T 150, T 151, T 152, T 153, T 154, T 155, T 156, T 157, T 158, T 159, T 160, T 161, T 162, T 163, T 164, T 165, T 166, T 167, T 168, T 169, T 170, T 171, T 172, T 173, T 174, T 175, T 176, T 177, T 178, T 179, T 180, T 181, T 182, T 183, T 184, T 185, T 186, T 187, T 188, T 189, T 190, T 191, T 192, T 193, T 194, T 195, T 196, T 197, T 198, T 199, T 200, T 201, T 202, T 203, T 204, T 205, T 206, T 207, T 208, T 209, T 210, T 211, T 212, T 213, T 214, T 215, T 216, T 217, T 218, T 219, T 220, T 221, T 222, T 223, T 224, T 225, T 226, T 227, T 228, T 229, T 230], []⟩ wr := by
  conv => arg 2; whnf
  have hq : q ≤ l.length := by omega
  obtain ⟨c0, c1, c2, c3, c4, c5, c6⟩ := (HAT.out q hlt).later 2 hown rfl
  have ok := HV.out.2 _ (all_getD hlt)
  have hkeep := ok.keep
  obtain ⟨ko, kc, hkv, hkl⟩ := keep_len ok.keep
  rw [hkv] at c6 hkeep
  obtain ⟨A1, A2⟩ := ok.A
  have hSz := ok.S
  have hk3 := HL _ (all_getD hlt)
  clear HL
  generalize l.getD q actNone = x at *
  have HK := Lib.hid hkeep
  clear hkv ok hkeep
  go_upto_region 20 with (fail)
  have ha := own_alloc hown (.cells #[.string x.kind, .int .i64 x.A, .int .i64 x.B, .int .i64 x.C, .int .i64 x.D, .string x.S, .slice ko x.keep.length kc] 36)
  have hxa := hxr.alloc (.cells #[.string x.kind, .int .i64 x.A, .int .i64 x.B, .int .i64 x.C, .int .i64 x.D, .string x.S, .slice ko x.keep.length kc] 36)
  clear c0 c1 c2 c3 c4 c5 c6 hown hxr
  generalize wr.heap.size = ba at *
  generalize wr.alloc (.cells #[.string x.kind, .int .i64 x.A, .int .i64 x.B, .int .i64 x.C, .int .i64 x.D, .string x.S, .slice ko x.keep.length kc] 36) = wa at *
  obtain ⟨c, f⟩ := own_cells 0 ha rfl
  by_cases hneg : x.A < 0
  · go_wp2_with fail
    refine (dev_fail b1 m x.A _ wa (own_pick 1 ha rfl)).mono ?_
    rintro e w4 ⟨rfl, hx4, h4'⟩
    rw [if_pos hneg]
    rw [if_pos hneg] at h4'
    have h4 := own_put ha 1 rfl h4'
    clear c f
    go_wp2_with fail
    refine (same_any 1 1 _ (by omega)).mono ?_
    rintro e w5 ⟨rfl, rfl⟩
    obtain ⟨m5, ok5, hn5, hp5, hw5, h6⟩ : ∃ m5 : DevM, m5.Ok ∧ m5.fl.length = n ∧ m5.pend.length ≤ q + 1 ∧ m5.writes ≤ q + 1 ∧ own w4 [devAt b1 m5, rdevAt b2 m5, exactly w] := ⟨m, okm, hn, by omega, by omega, own_drop h4⟩
    have hx6 : Ext w w4 := hxa.trans hx4
    go_upto_region 53 with (fail)
    by_cases hq4 : q % 4 = 0
    · have hrem : ((q : Int)).tmod 4 = 0 := by rw [tmod4, hq4]; rfl
      go_wp2_with fail
      refine (asdev_any b1 b2 m5 ok5 _ w4 h6).mono ?_
      rintro e w7 ⟨rfl, hx7, h7⟩
      go_wp2_with fail
      refine ⟨dWI_mk rfl rfl rfl rfl ⟨q + 1, by omega, by go_num, hx6.trans hx7, b1, b2, m5, rfl, rfl, ok5, hn5, hp5, hw5, h7⟩, by simp [dMu, intOf]; omega⟩
    · have hrem : ((q : Int)).tmod 4 = ((q % 4 : Nat) : Int) := tmod4 q
      have hne : ¬ (((q % 4 : Nat) : Int) = 0) := by omega
      go_wp2_with fail
      refine ⟨dWI_mk rfl rfl rfl rfl ⟨q + 1, by omega, by go_num, hx6, b1, b2, m5, rfl, rfl, ok5, hn5, hp5, hw5, h6⟩, by simp [dMu, intOf]; omega⟩
  · have hif1 : (if x.A < 0 then m else { m with fail := x.A }) = { m with fail := x.A } := if_neg hneg
    have hif2 : (if x.A < 0 then (1 : Int) else 0) = 0 := if_neg hneg
    have HI := Lib.hid (And.intro hif1 hif2)
    clear hif1 hif2
    obtain ⟨vf, va, vw, hr⟩ := rdev_open (own_pick 2 ha rfl)
    obtain ⟨cr, fr⟩ := own_cells 0 hr rfl
    go_upto_region 45 with (fail)
    have h3 := rdev_close (m := { m with fail := x.A }) (own_set (i := 3) (v := .int .i64 x.A) 0 hr rfl)
    have hx3 := hxa.setCell ⟨b2, 3, none⟩ (.int .i64 x.A)
    generalize wa.setCell ⟨b2, 3, none⟩ (.int .i64 x.A) = w3' at *
    clear c f cr fr hr ha
    obtain ⟨c, f⟩ := own_cells 1 h3 rfl
    go_wp2_with fail
    refine (dev_fail b1 m x.A _ w3' (own_pick 2 h3 rfl)).mono ?_
    rintro e w4 ⟨rfl, hx4, h4'⟩
    rw [HI.out.2]
    rw [HI.out.1] at h4'
    have h4 := own_erase 2 h4' rfl
    clear c f HI
    go_wp2_with fail
    refine (same_any 0 0 _ (by omega)).mono ?_
    rintro e w5 ⟨rfl, rfl⟩
    obtain ⟨m5, ok5, hn5, hp5, hw5, h6⟩ : ∃ m5 : DevM, m5.Ok ∧ m5.fl.length = n ∧ m5.pend.length ≤ q + 1 ∧ m5.writes ≤ q + 1 ∧ own w4 [devAt b1 m5, rdevAt b2 m5, exactly w] := ⟨{ m with fail := x.A }, ⟨okm.n, okm.fl, okm.p, okm.pend, ⟨by dsimp only; omega, by dsimp only; omega⟩, okm.writes⟩, hn, by dsimp only; omega, by dsimp only; omega, h4⟩
    have hx6 : Ext w w4 := hx3.trans hx4
    go_upto_region 53 with (fail)
    by_cases hq4 : q % 4 = 0
    · have hrem : ((q : Int)).tmod 4 = 0 := by rw [tmod4, hq4]; rfl
      go_wp2_with fail
      refine (asdev_any b1 b2 m5 ok5 _ w4 h6).mono ?_
      rintro e w7 ⟨rfl, hx7, h7⟩
      go_wp2_with fail
      refine ⟨dWI_mk rfl rfl rfl rfl ⟨q + 1, by omega, by go_num, hx6.trans hx7, b1, b2, m5, rfl, rfl, ok5, hn5, hp5, hw5, h7⟩, by simp [dMu, intOf]; omega⟩
    · have hrem : ((q : Int)).tmod 4 = ((q % 4 : Nat) : Int) := tmod4 q
      have hne : ¬ (((q % 4 : Nat) : Int) = 0) := by omega
      go_wp2_with fail
      refine ⟨dWI_mk rfl rfl rfl rfl ⟨q + 1, by omega, by go_num, hx6, b1, b2, m5, rfl, rfl, ok5, hn5, hp5, hw5, h6⟩, by simp [dMu, intOf]; omega⟩

set_option maxRecDepth 1000000 in
set_option maxHeartbeats 8000000 in
theorem dRound5 {n : Nat} (hn200 : n ≤ 200) {b off cap : Nat} {l : List Act} {w wr : World} (hL60 : l.length ≤ 60) (HL : ∀ a ∈ l, a.keep.length ≤ 300) (HAT : Hid (∀ i, i < l.length → ActCells w b (off + i * 7) (l.getD i actNone))) (HV : Hid (ActsAt w (.slice (some ⟨b, off, none⟩) l.length cap) l))
    (T : Nat → Value) {q b1 b2 : Nat} {m : DevM} (hlt : q < l.length) (hxr : Ext w wr) (okm : m.Ok) (hn : m.fl.length = n) (hpq : m.pend.length ≤ q) (hwq : m.writes ≤ q) (hown : own wr [devAt b1 m, rdevAt b2 m, exactly w]) (Q0 : Exit → Go.Act → World → Prop) (k1 : ¬ ((l.getD q actNone).kind.toList == [119, 114, 105, 116, 101]) = true) (k2 : ¬ ((l.getD q actNone).kind.toList == [114, 101, 97, 100]) = true) (k3 : ¬ ((l.getD q actNone).kind.toList == [102, 108, 117, 115, 104]) = true) (k4 : ¬ ((l.getD q actNone).kind.toList == [102, 97, 105, 108]) = true) (k5 : ((l.getD q actNone).kind.toList == [99, 114, 97, 115, 104]) = true) :
    Code.wp Try.prog dBody (Exit.then (fun a' w'' => dWI n (.slice (some ⟨b, off, none⟩) l.length cap) w l.length a' w'' ∧ dMu l.length a' w'' < dMu l.length ⟨#[.int .i64 (n : Int), T 1, .slice (some ⟨b, off, none⟩) l.length cap, T 3, T 4, T 5, T 6, T 7, T 8, T 9, .pointer (some ⟨b1, 0, none⟩), .pointer (some ⟨b2, 0, none⟩), .int .i64 (q : Int), T 13, T 14, T 15, T 16, T 17, T 18, T 19, T 20, T 21, T 22, T 23, T 24, T 25, T 26, T 27, T 28, T 29, T 30, T 31, T 32, T 33, T 34, T 35, T 36, T 37, T 38, T 39, T 40, T 41, T 42, T 43, T 44, T 45, T 46, T 47, T 48, T 49, T 50, T 51, T 52, T 53, T 54, T 55, T 56, T 57, T 58, T 59, T 60, T 61, T 62, T 63, T 64, T 65, T 66, T 67, T 68, T 69, T 70, T 71, T 72, T 73, T 74, T 75, T 76, T 77, T 78, T 79, T 80, T 81, T 82, T 83, T 84, T 85, T 86, T 87, T 88, T 89, T 90, T 91, T 92, T 93, T 94, T 95, T 96, T 97, T 98, T 99, T 100, T 101, T 102, T 103, T 104, T 105, T 106, T 107, T 108, T 109, T 110, T 111, T 112, T 113, T 114, T 115, T 116, T 117, T 118, T 119, T 120, T 121, T 122, T 123, T 124, T 125, T 126, T 127, T 128, T 129, T 130, T 131, T 132, T 133, T 134, T 135, T 136, T 137, T 138, T 139, T 140, T 141, T 142, T 143, T 144, T 145, T 146, T 147, T 148, T 149, T 150, T 151, T 152, T 153, T 154, T 155, T 156, T 157, T 158, T 159, T 160, T 161, T 162, T 163, T 164, T 165, T 166, T 167, T 168, T 169, T 170, T 171, T 172, T 173, T 174, T 175, T 176, T 177, T 178, T 179, T 180, T 181, T 182, T 183, T 184, T 185, T 186, T 187, T 188, T 189, T 190, T 191, T 192, T 193, T 194, T 195, T 196, T 197, T 198, T 199, T 200, T 201, T 202, T 203, T 204, T 205, T 206, T 207, T 208, T 209, T 210, T 211, T 212, T 213, T 214, T 215, T 216, T 217, T 218, T 219, T 220, T 221, T 222, T 223, T 224, T 225, T 226, T 227, T 228, T 229, T 230], []⟩ wr) Q0) ⟨#[.int .i64 (n : Int), T 1, .slice (some ⟨b, off, none⟩) l.length cap, T 3, T 4, T 5, T 6, T 7, T 8, T 9, .pointer (some ⟨b1, 0, none⟩), .pointer (some ⟨b2, 0, none⟩), .int .i64 (q : Int), T 13, T 14, T 15, T 16, T 17, T 18, T 19, T 20, T 21, T 22, T 23, T 24, T 25, T 26, T 27, T 28, T 29, T 30, T 31, T 32, T 33, T 34, T 35, T 36, T 37, T 38, T 39, T 40, T 41, T 42, T 43, T 44, T 45, T 46, T 47, T 48, T 49, T 50, T 51, T 52, T 53, T 54, T 55, T 56, T 57, T 58, T 59, T 60, T 61, T 62, T 63, T 64, T 65, T 66, T 67, T 68, T 69, T 70, T 71, T 72, T 73, T 74, T 75, T 76, T 77, T 78, T 79, T 80, T 81, T 82, T 83, T 84, T 85, T 86, T 87, T 88, T 89, T 90, T 91, T 92, T 93, T 94, T 95, T 96, T 97, T 98, T 99, T 100, T 101, T 102, T 103, T 104, T 105, T 106, T 107, T 108, T 109, T 110, T 111, T 112, T 113, T 114, T 115, T 116, T 117, T 118, T 119, T 120, T 121, T 122, T 123, T 124, T 125, T 126, T 127, T 128, T 129, T 130, T 131, T 132, T 133, T 134, T 135, T 136, T 137, T 138, T 139, T 140, T 141, T 142, T 143, T 144, T 145, T 146, T 147, T 148, T 149, T 150, T 151, T 152, T 153, T 154, T 155, T 156, T 157, T 158, T 159, T 160, T 161, T 162, T 163, T 164, T 165, T 166, T 167, T 168, T 169, T 170, T 171, T 172, T 173, T 174, T 175, T 176, T 177, T 178, T 179, T 180, T 181, T 182, T 183, T 184, T 185, T 186, T 187, T 188, T 189, T 190, T 191, T 192, T 193, T 194, T 195, T 196, T 197, T 198, T 199, T 200, T 201, T 202, T 203, T 204, T 205, T 206, T 207, T 208, T 209, T 210, T 211, T 212, T 213, T 214, T 215, T 216, T 217, T 218, T 219, T 220, T 221, T 222, T 223, T 224, T 225, T 226, T 227, T 228, T 229, T 230], []⟩ wr := by
  conv => arg 2; whnf
  have hq : q ≤ l.length := by omega
  obtain ⟨c0, c1, c2, c3, c4, c5, c6⟩ := (HAT.out q hlt).later 2 hown rfl
  have ok := HV.out.2 _ (all_getD hlt)
  have hkeep := ok.keep
  obtain ⟨ko, kc, hkv, hkl⟩ := keep_len ok.keep
  rw [hkv] at c6 hkeep
  obtain ⟨A1, A2⟩ := ok.A
  have hSz := ok.S
  have hk3 := HL _ (all_getD hlt)
  clear HL
  generalize l.getD q actNone = x at *
  have HK := Lib.hid hkeep
  clear hkv ok hkeep
  go_upto_region 20 with (fail)
  have ha := own_alloc hown (.cells #[.string x.kind, .int .i64 x.A, .int .i64 x.B, .int .i64 x.C, .int .i64 x.D, .string x.S, .slice ko x.keep.length kc] 36)
  have hxa := hxr.alloc (.cells #[.string x.kind, .int .i64 x.A, .int .i64 x.B, .int .i64 x.C, .int .i64 x.D, .string x.S, .slice ko x.keep.length kc] 36)
  clear c0 c1 c2 c3 c4 c5 c6 hown hxr
  generalize wr.heap.size = ba at *
  generalize wr.alloc (.cells #[.string x.kind, .int .i64 x.A, .int .i64 x.B, .int .i64 x.C, .int .i64 x.D, .string x.S, .slice ko x.keep.length kc] 36) = wa at *
  obtain ⟨c, f⟩ := own_cells 0 ha rfl
  have hkb := (HK.out).later 3 ha rfl
  obtain ⟨n1, n2⟩ := bools_news rfl hkb
  clear hkb
  have hml : 0 + x.keep.length ≤ maxLen := by simp only [maxLen]; omega
  have hby : (0 + x.keep.length) * 1 ≤ 140737488355328 := by omega
  have hnl : (boolCells x.keep).length = x.keep.length * 1 := by simp [boolCells]
  go_wp2_with (first | (at_builtin; refine wpList_append_row rfl _ _ 34 rfl 0 4 Try.underlying34 elem_bool rfl (by decide) rfl (own_row_nil 4 1 ha) rfl ko x.keep.length kc (boolCells x.keep) rfl hnl n1 n2 boolCells_one hml hby ?_))
  clear n1 n2 c f
  intro v2 w2 h2 hx2
  try simp only [Nat.zero_add, List.nil_append, List.set_cons_zero] at h2
  obtain ⟨a2, g2, c2, rfl, -, -, -, -, -, -, -⟩ := own_row_form 0 h2 rfl
  obtain ⟨c, f⟩ := own_cells 1 h2 rfl
  go_wp2_with fail
  refine (dev_crash b1 m okm _ x.keep [row 4 1 (.slice a2 x.keep.length c2) x.keep.length (boolCells x.keep), pts ba (.cells #[.string x.kind, .int .i64 x.A, .int .i64 x.B, .int .i64 x.C, .int .i64 x.D, .string x.S, .slice ko x.keep.length kc] 36), rdevAt b2 m, exactly w] w2 (fun w' L hL => row_bools (L.length) hL (by rw [List.getElem?_append_right (Nat.le_refl _), Nat.sub_self]; rfl)) (own_pick 2 h2 rfl)).mono ?_
  rintro e w4 ⟨cc, rfl, hx4, h4⟩
  have h4' := own_pick 4 h4 rfl
  have h4'' := own_pick 2 h4' rfl
  go_wp2_with fail
  refine (asdev_any b1 b2 m okm _ w4 h4'').mono ?_
  rintro e w5 ⟨rfl, hx5, h5⟩
  clear c f
  obtain ⟨c, f⟩ := own_cells 4 h5 rfl
  go_wp2_with fail
  refine (rdev_crash b2 m okm _ x.keep [devAt b1 m, devAt cc (m.crash x.keep), row 4 1 (.slice a2 x.keep.length c2) x.keep.length (boolCells x.keep), pts ba (.cells #[.string x.kind, .int .i64 x.A, .int .i64 x.B, .int .i64 x.C, .int .i64 x.D, .string x.S, .slice ko x.keep.length kc] 36), exactly w] w5 (fun w' L hL => (HK.out).later (L.length + 4) hL (by rw [List.getElem?_append_right (by omega), show L.length + 4 - L.length = 4 from by omega]; rfl)) (own_pick 1 h5 rfl)).mono ?_
  rintro e w6 ⟨c6', rfl, hx6', h6'⟩
  clear c f
  have h7' := own_drop (own_drop (own_drop (own_drop (own_order [1, 2, 4, 5, 3, 0, 6] 7 h6' rfl (by decide) rfl))))
  obtain ⟨m5, ok5, hn5, hp5, hw5, h6⟩ : ∃ m5 : DevM, m5.Ok ∧ m5.fl.length = n ∧ m5.pend.length ≤ q + 1 ∧ m5.writes ≤ q + 1 ∧ own w6 [devAt cc m5, rdevAt c6' m5, exactly w] := ⟨m.crash x.keep, DevM.crash_ok okm _, by simp only [DevM.crash, foldl_setAt_length]; exact hn, by simp [DevM.crash], by simp only [DevM.crash]; omega, h7'⟩
  have hx6 : Ext w w6 := (((hxa.trans hx2).trans hx4).trans hx5).trans hx6'
  go_upto_region 53 with (fail)
  by_cases hq4 : q % 4 = 0
  · have hrem : ((q : Int)).tmod 4 = 0 := by rw [tmod4, hq4]; rfl
    go_wp2_with fail
    refine (asdev_any cc c6' m5 ok5 _ w6 h6).mono ?_
    rintro e w7 ⟨rfl, hx7, h7⟩
    go_wp2_with fail
    refine ⟨dWI_mk rfl rfl rfl rfl ⟨q + 1, by omega, by go_num, hx6.trans hx7, cc, c6', m5, rfl, rfl, ok5, hn5, hp5, hw5, h7⟩, by simp [dMu, intOf]; omega⟩
  · have hrem : ((q : Int)).tmod 4 = ((q % 4 : Nat) : Int) := tmod4 q
    have hne : ¬ (((q % 4 : Nat) : Int) = 0) := by omega
    go_wp2_with fail
    refine ⟨dWI_mk rfl rfl rfl rfl ⟨q + 1, by omega, by go_num, hx6, cc, c6', m5, rfl, rfl, ok5, hn5, hp5, hw5, h6⟩, by simp [dMu, intOf]; omega⟩

set_option maxRecDepth 1000000 in
set_option maxHeartbeats 8000000 in
theorem dRound6 {n : Nat} (hn200 : n ≤ 200) {b off cap : Nat} {l : List Act} {w wr : World} (hL60 : l.length ≤ 60) (HL : ∀ a ∈ l, a.keep.length ≤ 300) (HAT : Hid (∀ i, i < l.length → ActCells w b (off + i * 7) (l.getD i actNone))) (HV : Hid (ActsAt w (.slice (some ⟨b, off, none⟩) l.length cap) l))
    (T : Nat → Value) {q b1 b2 : Nat} {m : DevM} (hlt : q < l.length) (hxr : Ext w wr) (okm : m.Ok) (hn : m.fl.length = n) (hpq : m.pend.length ≤ q) (hwq : m.writes ≤ q) (hown : own wr [devAt b1 m, rdevAt b2 m, exactly w]) (Q0 : Exit → Go.Act → World → Prop) (k1 : ¬ ((l.getD q actNone).kind.toList == [119, 114, 105, 116, 101]) = true) (k2 : ¬ ((l.getD q actNone).kind.toList == [114, 101, 97, 100]) = true) (k3 : ¬ ((l.getD q actNone).kind.toList == [102, 108, 117, 115, 104]) = true) (k4 : ¬ ((l.getD q actNone).kind.toList == [102, 97, 105, 108]) = true) (k5 : ¬ ((l.getD q actNone).kind.toList == [99, 114, 97, 115, 104]) = true) :
    Code.wp Try.prog dBody (Exit.then (fun a' w'' => dWI n (.slice (some ⟨b, off, none⟩) l.length cap) w l.length a' w'' ∧ dMu l.length a' w'' < dMu l.length ⟨#[.int .i64 (n : Int), T 1, .slice (some ⟨b, off, none⟩) l.length cap, T 3, T 4, T 5, T 6, T 7, T 8, T 9, .pointer (some ⟨b1, 0, none⟩), .pointer (some ⟨b2, 0, none⟩), .int .i64 (q : Int), T 13, T 14, T 15, T 16, T 17, T 18, T 19, T 20, T 21, T 22, T 23, T 24, T 25, T 26, T 27, T 28, T 29, T 30, T 31, T 32, T 33, T 34, T 35, T 36, T 37, T 38, T 39, T 40, T 41, T 42, T 43, T 44, T 45, T 46, T 47, T 48, T 49, T 50, T 51, T 52, T 53, T 54, T 55, T 56, T 57, T 58, T 59, T 60, T 61, T 62, T 63, T 64, T 65, T 66, T 67, T 68, T 69, T 70, T 71, T 72, T 73, T 74, T 75, T 76, T 77, T 78, T 79, T 80, T 81, T 82, T 83, T 84, T 85, T 86, T 87, T 88, T 89, T 90, T 91, T 92, T 93, T 94, T 95, T 96, T 97, T 98, T 99, T 100, T 101, T 102, T 103, T 104, T 105, T 106, T 107, T 108, T 109, T 110, T 111, T 112, T 113, T 114, T 115, T 116, T 117, T 118, T 119, T 120, T 121, T 122, T 123, T 124, T 125, T 126, T 127, T 128, T 129, T 130, T 131, T 132, T 133, T 134, T 135, T 136, T 137, T 138, T 139, T 140, T 141, T 142, T 143, T 144, T 145, T 146, T 147, T 148, T 149, T 150, T 151, T 152, T 153, T 154, T 155, T 156, T 157, T 158, T 159, T 160, T 161, T 162, T 163, T 164, T 165, T 166, T 167, T 168, T 169, T 170, T 171, T 172, T 173, T 174, T 175, T 176, T 177, T 178, T 179, T 180, T 181, T 182, T 183, T 184, T 185, T 186, T 187, T 188, T 189, T 190, T 191, T 192, T 193, T 194, T 195, T 196, T 197, T 198, T 199, T 200, T 201, T 202, T 203, T 204, T 205, T 206, T 207, T 208, T 209, T 210, T 211, T 212, T 213, T 214, T 215, T 216, T 217, T 218, T 219, T 220, T 221, T 222, T 223, T 224, T 225, T 226, T 227, T 228, T 229, T 230], []⟩ wr) Q0) ⟨#[.int .i64 (n : Int), T 1, .slice (some ⟨b, off, none⟩) l.length cap, T 3, T 4, T 5, T 6, T 7, T 8, T 9, .pointer (some ⟨b1, 0, none⟩), .pointer (some ⟨b2, 0, none⟩), .int .i64 (q : Int), T 13, T 14, T 15, T 16, T 17, T 18, T 19, T 20, T 21, T 22, T 23, T 24, T 25, T 26, T 27, T 28, T 29, T 30, T 31, T 32, T 33, T 34, T 35, T 36, T 37, T 38, T 39, T 40, T 41, T 42, T 43, T 44, T 45, T 46, T 47, T 48, T 49, T 50, T 51, T 52, T 53, T 54, T 55, T 56, T 57, T 58, T 59, T 60, T 61, T 62, T 63, T 64, T 65, T 66, T 67, T 68, T 69, T 70, T 71, T 72, T 73, T 74, T 75, T 76, T 77, T 78, T 79, T 80, T 81, T 82, T 83, T 84, T 85, T 86, T 87, T 88, T 89, T 90, T 91, T 92, T 93, T 94, T 95, T 96, T 97, T 98, T 99, T 100, T 101, T 102, T 103, T 104, T 105, T 106, T 107, T 108, T 109, T 110, T 111, T 112, T 113, T 114, T 115, T 116, T 117, T 118, T 119, T 120, T 121, T 122, T 123, T 124, T 125, T 126, T 127, T 128, T 129, T 130, T 131, T 132, T 133, T 134, T 135, T 136, T 137, T 138, T 139, T 140, T 141, T 142, T 143, T 144, T 145, T 146, T 147, T 148, T 149, T 150, T 151, T 152, T 153, T 154, T 155, T 156, T 157, T 158, T 159, T 160, T 161, T 162, T 163, T 164, T 165, T 166, T 167, T 168, T 169, T 170, T 171, T 172, T 173, T 174, T 175, T 176, T 177, T 178, T 179, T 180, T 181, T 182, T 183, T 184, T 185, T 186, T 187, T 188, T 189, T 190, T 191, T 192, T 193, T 194, T 195, T 196, T 197, T 198, T 199, T 200, T 201, T 202, T 203, T 204, T 205, T 206, T 207, T 208, T 209, T 210, T 211, T 212, T 213, T 214, T 215, T 216, T 217, T 218, T 219, T 220, T 221, T 222, T 223, T 224, T 225, T 226, T 227, T 228, T 229, T 230], []⟩ wr := by
  conv => arg 2; whnf
  have hq : q ≤ l.length := by omega
  obtain ⟨c0, c1, c2, c3, c4, c5, c6⟩ := (HAT.out q hlt).later 2 hown rfl
  have ok := HV.out.2 _ (all_getD hlt)
  have hkeep := ok.keep
  obtain ⟨ko, kc, hkv, hkl⟩ := keep_len ok.keep
  rw [hkv] at c6 hkeep
  obtain ⟨A1, A2⟩ := ok.A
  have hSz := ok.S
  have hk3 := HL _ (all_getD hlt)
  clear HL
  generalize l.getD q actNone = x at *
  have HK := Lib.hid hkeep
  clear hkv ok hkeep
  go_upto_region 20 with (fail)
  have ha := own_alloc hown (.cells #[.string x.kind, .int .i64 x.A, .int .i64 x.B, .int .i64 x.C, .int .i64 x.D, .string x.S, .slice ko x.keep.length kc] 36)
  have hxa := hxr.alloc (.cells #[.string x.kind, .int .i64 x.A, .int .i64 x.B, .int .i64 x.C, .int .i64 x.D, .string x.S, .slice ko x.keep.length kc] 36)
  clear c0 c1 c2 c3 c4 c5 c6 hown hxr
  generalize wr.heap.size = ba at *
  generalize wr.alloc (.cells #[.string x.kind, .int .i64 x.A, .int .i64 x.B, .int .i64 x.C, .int .i64 x.D, .string x.S, .slice ko x.keep.length kc] 36) = wa at *
  obtain ⟨c, f⟩ := own_cells 0 ha rfl
  go_wp2_with fail
  refine (dev_copy b1 m okm _ wa (own_pick 1 ha rfl)).mono ?_
  rintro e w2 ⟨cc, rfl, hx2, h2⟩
  clear c f
  obtain ⟨W1, W2, W3⟩ := write_len m 0 text2
  have W5 := DevM.write_ok okm 0 text2 (by omega) (by omega)
  go_wp2_with fail
  refine (dev_write b1 m okm 0 text2 (by decide) (by omega) (by omega) _ w2 (own_pick 1 h2 rfl)).mono ?_
  rintro e w4 ⟨rfl, hx4, h4⟩
  go_wp2_with fail
  refine (dev_flush b1 _ W5 _ w4 h4).mono ?_
  rintro e w5 ⟨rfl, hx5, h5⟩
  have h7' := own_drop (own_drop (own_order [0, 2, 1, 3, 4] 5 h5 rfl (by decide) rfl))
  obtain ⟨m5, ok5, hn5, hp5, hw5, h6⟩ : ∃ m5 : DevM, m5.Ok ∧ m5.fl.length = n ∧ m5.pend.length ≤ q + 1 ∧ m5.writes ≤ q + 1 ∧ own w5 [devAt cc m5, rdevAt b2 m5, exactly w] := ⟨m, okm, hn, by omega, by omega, h7'⟩
  have hx6 : Ext w w5 := ((hxa.trans hx2).trans hx4).trans hx5
  go_upto_region 53 with (fail)
  by_cases hq4 : q % 4 = 0
  · have hrem : ((q : Int)).tmod 4 = 0 := by rw [tmod4, hq4]; rfl
    go_wp2_with fail
    refine (asdev_any cc b2 m5 ok5 _ w5 h6).mono ?_
    rintro e w7 ⟨rfl, hx7, h7⟩
    go_wp2_with fail
    refine ⟨dWI_mk rfl rfl rfl rfl ⟨q + 1, by omega, by go_num, hx6.trans hx7, cc, b2, m5, rfl, rfl, ok5, hn5, hp5, hw5, h7⟩, by simp [dMu, intOf]; omega⟩
  · have hrem : ((q : Int)).tmod 4 = ((q % 4 : Nat) : Int) := tmod4 q
    have hne : ¬ (((q % 4 : Nat) : Int) = 0) := by omega
    go_wp2_with fail
    refine ⟨dWI_mk rfl rfl rfl rfl ⟨q + 1, by omega, by go_num, hx6, cc, b2, m5, rfl, rfl, ok5, hn5, hp5, hw5, h6⟩, by simp [dMu, intOf]; omega⟩

set_option maxRecDepth 1000000 in
set_option maxHeartbeats 8000000 in
theorem dRound {n : Nat} (hn200 : n ≤ 200) {b off cap : Nat} {ao : Option Addr} {l : List Act} {w : World} (hao : 0 < l.length → ao = some ⟨b, off, none⟩) (hL60 : l.length ≤ 60) (HL : ∀ a ∈ l, a.keep.length ≤ 300) (HAT : Hid (∀ i, i < l.length → ActCells w b (off + i * 7) (l.getD i actNone))) (HV : Hid (ActsAt w (.slice ao l.length cap) l)) (Q0 : Exit → Go.Act → World → Prop)
    (hexit : ∀ a w', dWI n (.slice ao l.length cap) w l.length a w' → Q0 (.exit 0) a w') (a : Go.Act) (wr : World) (hI : dWI n (.slice ao l.length cap) w l.length a wr) :
    Code.wp Try.prog dBody (Exit.then (fun a' w'' => dWI n (.slice ao l.length cap) w l.length a' w'' ∧ dMu l.length a' w'' < dMu l.length a wr) Q0) a wr := by
  obtain ⟨T, d, r, i, ⟨q, hq, rfl, hxr, b1, b2, m, rfl, rfl, okm, hn, hpq, hwq, hown⟩, rfl⟩ := hI
  by_cases hlt : q < l.length
  · obtain rfl := hao (by omega)
    by_cases k1 : ((l.getD q actNone).kind.toList == [119, 114, 105, 116, 101]) = true
    · exact dRound1 hn200 hL60 HL HAT HV T hlt hxr okm hn hpq hwq hown Q0 k1
    by_cases k2 : ((l.getD q actNone).kind.toList == [114, 101, 97, 100]) = true
    · exact dRound2 hn200 hL60 HL HAT HV T hlt hxr okm hn hpq hwq hown Q0 k1 k2
    by_cases k3 : ((l.getD q actNone).kind.toList == [102, 108, 117, 115, 104]) = true
    · exact dRound3 hn200 hL60 HL HAT HV T hlt hxr okm hn hpq hwq hown Q0 k1 k2 k3
    by_cases k4 : ((l.getD q actNone).kind.toList == [102, 97, 105, 108]) = true
    · exact dRound4 hn200 hL60 HL HAT HV T hlt hxr okm hn hpq hwq hown Q0 k1 k2 k3 k4
    by_cases k5 : ((l.getD q actNone).kind.toList == [99, 114, 97, 115, 104]) = true
    · exact dRound5 hn200 hL60 HL HAT HV T hlt hxr okm hn hpq hwq hown Q0 k1 k2 k3 k4 k5
    · exact dRound6 hn200 hL60 HL HAT HV T hlt hxr okm hn hpq hwq hown Q0 k1 k2 k3 k4 k5
  · conv => arg 2; whnf
    go_wp2_with fail
    exact dWI_mk rfl rfl rfl rfl ⟨q, hq, rfl, hxr, b1, b2, m, rfl, rfl, okm, hn, hpq, hwq, hown⟩
end Go.Proofs.Ytbpblokfiajpjaa
