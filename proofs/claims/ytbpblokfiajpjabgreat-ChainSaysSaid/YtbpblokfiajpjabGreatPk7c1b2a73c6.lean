/- Files of a shelf as they are told: read at the call's arguments; LightFiles; a cluster's bytes of a number. A shelf is laid of files that are told: the program's and the document's. An image made: Created (the document's). A shelf is laid of files that are told: the walk. No conditions. -/
import Derived.Test.YtbpblokfiajpjabGreatPk0aa4a1f843
import Derived.Test.YtbpblokfiajpjabGreatProg
namespace Go.Proofs.YtbpblokfiajpjabGreat
open Go.RowKit Go.SL Go.Crc Go.Deep Go.ChangeShapes Go.WideShapes
attribute [local go_sem ↓] Go.wp_at_zero Go.wp_at_succ

structure FileM where
  there : Bool
  c : Int
  p : Int
  b : Int
  iv : Value
  is : List Int
def fileNone : FileM := ⟨false, 0, 0, 0, .slice none 0 0, []⟩
instance : Inhabited FileM := ⟨fileNone⟩
def FileCells (w : World) (b o : Nat) (f : FileM) : Prop :=
  w.cell? ⟨b, o, none⟩ = some (.bool f.there) ∧ w.cell? ⟨b, o + 1, none⟩ = some (.int .i64 f.c) ∧ w.cell? ⟨b, o + 2, none⟩ = some (.int .i64 f.p) ∧ w.cell? ⟨b, o + 3, none⟩ = some (.int .i64 f.b) ∧ w.cell? ⟨b, o + 4, none⟩ = some f.iv
structure FileOk (w : World) (f : FileM) : Prop where
  c : i64ok f.c
  p : i64ok f.p
  b : i64ok f.b
  is : IntsAt w f.iv f.is
  all : ∀ x ∈ f.is, i64ok x
def FilesAt (w : World) (v : Value) (l : List FileM) : Prop :=
  SlAt v l.length (fun b off i => FileCells w b (off + i * 5) (l.getD i fileNone)) ∧ ∀ f ∈ l, FileOk w f
theorem FilesAt.form {w : World} {v : Value} {l : List FileM} (h : FilesAt w v l) : ∃ ao b off cap, v = .slice ao l.length cap ∧ l.length ≤ cap ∧ cap ≤ 9223372036854775807 ∧ (0 < l.length → ao = some ⟨b, off, none⟩) ∧
    ∀ i, i < l.length → FileCells w b (off + i * 5) (l.getD i fileNone) := by
  obtain ⟨⟨ao, b, off, cap, hv, h1, h2, h3, h4⟩, -⟩ := h
  exact ⟨ao, b, off, cap, hv, h1, h2, h3, h4⟩
theorem ints_later {w w' : World} {L : List HP} (k : Nat) (H : own w' L) (hk : L[k]? = some (exactly w)) {v : Value} {l : List Int} (h : IntsAt w v l) : IntsAt w' v l := by
  obtain ⟨ao, b, off, cap, hv, h1, h2, h3, h4⟩ := h
  exact ⟨ao, b, off, cap, hv, h1, h2, h3, fun i hi => rd_later k H hk (h4 i hi)⟩
theorem FilesAt.later {w w' : World} {L : List HP} (k : Nat) (H : own w' L) (hk : L[k]? = some (exactly w)) {v : Value} {l : List FileM} (h : FilesAt w v l) : FilesAt w' v l := by
  obtain ⟨⟨ao, b, off, cap, hv, h1, h2, h3, h4⟩, h5⟩ := h
  refine ⟨⟨ao, b, off, cap, hv, h1, h2, h3, fun i hi => ?_⟩, fun f hf => ?_⟩
  · obtain ⟨c0, c1, c2, c3, c4⟩ := h4 i hi
    exact ⟨rd_later k H hk c0, rd_later k H hk c1, rd_later k H hk c2, rd_later k H hk c3, rd_later k H hk c4⟩
  · have ok := h5 f hf
    exact ⟨ok.c, ok.p, ok.b, ints_later k H hk ok.is, ok.all⟩
theorem file_getD {l : List FileM} {i : Nat} (hi : i < l.length) : l.getD i fileNone ∈ l := by simp [hi]

section
variable {H : Type} {enc : TypeId × Value → H} {w : World} {base : Nat} {spare : Nat → Bool} {held : Bool}
theorem ints_open {fuel : Nat} {v : Value} {x : DataW H × List MemPlace} (h : DataW.trod enc Tryz.prog w base spare held fuel 31 [v] = some x) : ∃ ks, IntsAt w v ks ∧ ∀ x ∈ ks, i64ok x := by
  rcases open_slice Tryz.underlying31 h with ⟨hcs, _⟩ | ⟨a, len, cap, m, n, D, Pl, hcs, _, hl, hm, hmm, _, hi⟩
  · simp only [List.cons.injEq, and_true] at hcs
    subst hcs
    exact ⟨[], ⟨none, 0, 0, 0, rfl, Nat.le_refl _, by omega, fun h => absurd h (by simp), fun i h => absurd h (by simp)⟩, by simp⟩
  · simp only [List.cons.injEq, and_true] at hcs
    subst hcs
    have hC : Tryz.prog.cellsOf 3 = 1 := by kernel_rfl
    have hlm : len ≤ m := by rw [hmm]; split <;> omega
    have hb : ∀ i, i < len → ∃ b : Int, w.cell? (a.add i) = some (.int .i64 b) ∧ i64ok b := fun i h => by
      obtain ⟨cs', hc, ht⟩ := hi i (by omega)
      obtain ⟨b, rfl, _, hw⟩ := DataW.trod_int Tryz.underlying3 ht
      rw [hC] at hc
      obtain ⟨_, _, hat⟩ := World.cells?_some hc
      have := hat 0 (by omega)
      rw [Deep.add_add] at this
      simp at this
      exact ⟨b, this, wf_i64ok hw⟩
    obtain ⟨f, hf⟩ := Deep.choose_lt hb
    refine ⟨(List.range len).map f, ⟨some a, a.block, a.off, cap, by simp, by simpa using hl, by simpa [maxLen] using hm, fun hlt => ?_, fun i hlt => ?_⟩, fun x hx => ?_⟩
    · have h0 := (hf 0 (by simpa using hlt)).1
      have := World.cell?_spot h0
      simp [Addr.add] at this
      obtain ⟨b, o, s⟩ := a
      simp_all
    · have hi := (hf i (by simpa using hlt)).1
      have h0 := (hf 0 (by simp at hlt; omega)).1
      have hs := World.cell?_spot h0
      obtain ⟨b, o, s⟩ := a
      simp [Addr.add] at hs
      subst hs
      rw [add_none] at hi
      have h' : i < len := by simpa using hlt
      simp [h', hi]
    · simp at hx
      obtain ⟨i, hi, rfl⟩ := hx
      exact (hf i hi).2
theorem list3' {α : Type} {l : List α} (h : l.length = 3) : ∃ c0 c1 c2, l = [c0, c1, c2] := by
  match l, h with
  | [c0, c1, c2], _ => exact ⟨_, _, _, rfl⟩

set_option maxRecDepth 100000 in
theorem files_open {fuel : Nat} {v : Value} {x : DataW H × List MemPlace} (h : DataW.trod enc Tryz.prog w base spare held fuel 22 [v] = some x) : ∃ l, FilesAt w v l := by
  rcases open_slice Tryz.underlying22 h with ⟨hcs, _⟩ | ⟨a, len, cap, m, n, D, Pl, hcs, _, hl, hm, hmm, _, hi⟩
  · simp only [List.cons.injEq, and_true] at hcs
    subst hcs
    exact ⟨[], ⟨none, 0, 0, 0, rfl, Nat.le_refl _, by omega, fun h => absurd h (by simp), fun i h => absurd h (by simp)⟩, by simp⟩
  · simp only [List.cons.injEq, and_true] at hcs
    subst hcs
    have hC : Tryz.prog.cellsOf 49 = 5 := by kernel_rfl
    have hC1 : Tryz.prog.cellsOf 4 = 1 := by kernel_rfl
    have hC3 : Tryz.prog.cellsOf 47 = 3 := by kernel_rfl
    have hCs : Tryz.prog.cellsOf 31 = 1 := by kernel_rfl
    have hlm : len ≤ m := by rw [hmm]; split <;> omega
    have hb : ∀ i, i < len → ∃ x : FileM, (∃ b o, a.add (i * 5) = ⟨b, o, none⟩ ∧ FileCells w b o x) ∧ FileOk w x := fun i h => by
      obtain ⟨cs', hc, ht⟩ := hi i (by omega)
      rw [hC] at hc
      obtain ⟨_, hlen, hat⟩ := World.cells?_some hc
      obtain ⟨ys, n', _, _, _, hyl, hg'⟩ := DataW.trod_struct Tryz.underlying49 ht
      obtain ⟨c0, c1, c2, c3, c4, rfl⟩ : ∃ c0 c1 c2 c3 c4, cs' = [c0, c1, c2, c3, c4] := list5 hlen
      obtain ⟨y0, y1, y2, rfl⟩ : ∃ c0 c1 c2, ys = [c0, c1, c2] := list3' hyl
      have g0 : DataW.trod enc Tryz.prog w base spare held n' 4 (([c0, c1, c2, c3, c4].drop 0).take (Tryz.prog.cellsOf 4)) = some y0 := hg' 0 _ rfl
      have g1 : DataW.trod enc Tryz.prog w base spare held n' 47 (([c0, c1, c2, c3, c4].drop 1).take (Tryz.prog.cellsOf 47)) = some y1 := hg' 1 _ rfl
      have g2 : DataW.trod enc Tryz.prog w base spare held n' 31 (([c0, c1, c2, c3, c4].drop 4).take (Tryz.prog.cellsOf 31)) = some y2 := hg' 2 _ rfl
      rw [hC1] at g0
      rw [hC3] at g1
      rw [hCs] at g2
      change DataW.trod enc Tryz.prog w base spare held n' 4 [c0] = some y0 at g0
      change DataW.trod enc Tryz.prog w base spare held n' 47 [c1, c2, c3] = some y1 at g1
      change DataW.trod enc Tryz.prog w base spare held n' 31 [c4] = some y2 at g2
      obtain ⟨zs', n2, hzl, hz'⟩ := struct_fields Tryz.underlying47 (by kernel_rfl) g1
      obtain ⟨z0, z1, z2, rfl⟩ : ∃ c0 c1 c2, zs' = [c0, c1, c2] := list3' hzl
      have q0 : DataW.trod enc Tryz.prog w base spare held n2 3 [c1] = some z0 := hz' 0 _ rfl
      have q1 : DataW.trod enc Tryz.prog w base spare held n2 3 [c2] = some z1 := hz' 1 _ rfl
      have q2 : DataW.trod enc Tryz.prog w base spare held n2 3 [c3] = some z2 := hz' 2 _ rfl
      obtain ⟨bt, h0, _⟩ := DataW.trod_bool Tryz.underlying4 g0
      obtain ⟨A, h1, _, hA⟩ := DataW.trod_int Tryz.underlying3 q0
      obtain ⟨B, h2, _, hB⟩ := DataW.trod_int Tryz.underlying3 q1
      obtain ⟨C, h3, _, hC'⟩ := DataW.trod_int Tryz.underlying3 q2
      obtain ⟨ks, hks, hki⟩ := ints_open g2
      simp only [List.cons.injEq, and_true] at h0 h1 h2 h3
      subst h0 h1 h2 h3
      have hat0 := hat 0 (by omega)
      have hat1 := hat 1 (by omega)
      have hat2 := hat 2 (by omega)
      have hat3 := hat 3 (by omega)
      have hat4 := hat 4 (by omega)
      simp only [List.getElem?_cons_succ, List.getElem?_cons_zero, Addr.add, if_true] at hat0
      obtain ⟨b, o, e⟩ := add_spot (i := i * 5) (by simpa [Addr.add] using hat0)
      rw [e, add_none] at hat1 hat2 hat3 hat4
      have hat0' : w.cell? ⟨b, o, none⟩ = some (.bool bt) := by rw [← e]; simpa [Addr.add] using hat0
      exact ⟨⟨bt, A, B, C, c4, ks⟩, ⟨b, o, e, hat0', by simpa using hat1, by simpa using hat2, by simpa using hat3, by simpa using hat4⟩, ⟨wf_i64ok hA, wf_i64ok hB, wf_i64ok hC', hks, hki⟩⟩
    obtain ⟨f, hf⟩ := Deep.choose_lt hb
    refine ⟨(List.range len).map f, ⟨some a, a.block, a.off, cap, by simp, by simpa using hl, by simpa [maxLen] using hm, fun hlt => ?_, fun i hlt => ?_⟩, fun x hx => ?_⟩
    · obtain ⟨⟨b, o, e, _⟩, _⟩ := hf 0 (by simpa using hlt)
      simp [Addr.add] at e
      rw [e]
    · simp at hlt
      obtain ⟨⟨b0, o0, e0, _⟩, _⟩ := hf 0 (by omega)
      simp [Addr.add] at e0
      obtain ⟨⟨b, o, e, hc⟩, _⟩ := hf i hlt
      subst e0
      rw [add_none] at e
      simp at e
      obtain ⟨rfl, rfl⟩ := e
      simp [hlt, hc]
    · simp at hx
      obtain ⟨i, hi, rfl⟩ := hx
      exact (hf i hi).2
end

def lightF (l : List FileM) : Bool := decide (l.length ≤ 5) && l.all fun f => decide (f.is.length ≤ 40)
theorem ints_len {w : World} {v : Value} {ks : List Int} (h : IntsAt w v ks) : ∃ ao cap, v = .slice ao ks.length cap ∧ ks.length ≤ 9223372036854775807 := by
  obtain ⟨ao, b, off, cap, hv, h1, h2, _⟩ := h
  exact ⟨ao, cap, hv, by omega⟩

set_option maxRecDepth 100000 in
set_option maxHeartbeats 1000000 in
theorem lightfiles_any (v : Value) (l : List FileM) (w : World) (hv : FilesAt w v l) :
    Calls Tryz.prog 5 #[v] w fun e w' => e = .returned (.bool (lightF l)) ∧ w = w' := by
  obtain ⟨⟨ao, b, off, cap, rfl, hc1, hc2, hao, hat⟩, hok⟩ := hv
  by_cases hm : (l.length : Int) ≤ 5
  · go_enter Tryz.func5, Tryz.ntmps5
    go_wp2_with fail
    go_loop [3] (fun i => ∃ k : Nat, k ≤ l.length ∧ i = .int .i64 k ∧ ∀ j, j < k → (l.getD j fileNone).is.length ≤ 40) (fun i => l.length - (intOf i).toNat)
    case atStart => exact ⟨0, Nat.zero_le _, rfl, fun j h => absurd h (by omega)⟩
    case round =>
      obtain ⟨k, hk, rfl, hj⟩ := hrel
      by_cases hlt : k < l.length
      · obtain rfl := hao (by omega)
        obtain ⟨-, -, -, -, c4⟩ := hat k hlt
        have ok := hok _ (file_getD hlt)
        obtain ⟨ko, kc, hkv, hkl⟩ := ints_len ok.is
        rw [hkv] at c4
        have HJ := Lib.hid hj
        have HO := Lib.hid hok
        clear hj hok hkv ok hat hao
        generalize hx : l.getD k fileNone = x at *
        have HX := Lib.hid hx
        clear hx
        by_cases h1 : x.is.length ≤ 40
        · go_wp2_with fail
          go_round
          case rel => exact ⟨k + 1, by omega, by go_num, fun j h => by
            by_cases e : j = k
            · subst e; rw [HX.out]; exact h1
            · exact HJ.out j (by omega)⟩
          case measure => simp [intOf]; omega
        · go_wp2_with fail
          go_ret
          refine ⟨ret_bool ?_, rfl⟩
          symm
          unfold lightF
          rw [Bool.and_eq_false_iff]
          refine .inr (List.all_eq_false.2 ⟨_, file_getD hlt, ?_⟩)
          rw [HX.out]; simp [h1]
      · have HJ := Lib.hid hj
        clear hj
        go_wp2_with fail
        go_ret
        refine ⟨ret_bool ?_, rfl⟩
        unfold lightF
        rw [eq_comm, Bool.and_eq_true]
        refine ⟨by simp; omega, List.all_eq_true.2 fun x hx => ?_⟩
        obtain ⟨j, hj, rfl⟩ := List.getElem_of_mem hx
        have := HJ.out j (by omega)
        simpa [hj] using this
  · go_enter Tryz.func5, Tryz.ntmps5
    go_wp2_with fail
    go_ret
    exact ⟨ret_bool (by rw [lightF, decide_eq_false (show ¬ l.length ≤ 5 by omega)]; rfl), rfl⟩
end Go.Proofs.YtbpblokfiajpjabGreat

namespace Go.Proofs.YtbpblokfiajpjabGreat
open Go.RowKit Go.SL Go.Crc
attribute [local go_sem ↓] Go.wp_at_zero Go.wp_at_succ

def cbv (b : Int) (j : Nat) : Int := wrap64 (bits BinOp.and IntKind.i64 b 127 + (j : Int) / 16) % 256
def clusN (b : Int) (q : Nat) : List Int := (List.range 64).map fun (j : Nat) => if j < q then cbv b j else 0
def clusS (b : Int) : ByteArray := strOfNums (clusN b 64)
theorem clusN_len (b : Int) (q : Nat) : (clusN b q).length = 64 := by simp [clusN]
theorem clusS_size (b : Int) : (clusS b).size = 64 := by unfold clusS; rw [strOfNums_size, clusN_len]
theorem clusN_zero (b : Int) : clusN b 0 = List.replicate 64 0 := by rfl
theorem clusN_set (b : Int) {q : Nat} (hq : q < 64) : (clusN b q).set q (cbv b q) = clusN b (q + 1) := by
  apply List.ext_getElem
  · simp [clusN]
  · intro i h1 h2
    simp only [List.getElem_set, clusN, List.getElem_map, List.getElem_range]
    by_cases e : q = i
    · subst e; simp
    · rw [if_neg e]
      by_cases h : i < q
      · rw [if_pos h, if_pos (by omega)]
      · rw [if_neg h, if_neg (by omega)]
theorem clusN_get (b : Int) (q : Nat) {j : Nat} (hj : j < 64) : (byteCells (clusN b q))[j]? = some (.int .u8 (if j < q then cbv b j else 0)) := by simp [byteCells, clusN, hj]

set_option maxRecDepth 100000 in
set_option maxHeartbeats 1000000 in
theorem cluster_any (b : Int) (R : List SL.HP) (w : World) (H : own w R) : Calls Tryz.prog 15 #[.int .i64 b] w fun e w' => e = .returned (.string (clusS b)) ∧ Ext w w' ∧ own w' R := by
  go_enter Tryz.func15, Tryz.ntmps15
  have hml : 64 ≤ maxLen := by simp only [maxLen]; omega
  go_wp2_with (first | (refine wpList_make_row rfl _ _ 92 rfl 5 Tryz.underlying92 elem_byte rfl .i64 .i64 64 rfl rfl (by omega) hml H ?_))
  intro w1 h1 hx1
  go_wp2_with fail
  go_loopw [4] (fun iv wr => ∃ q : Nat, q ≤ 64 ∧ iv = .int .i64 q ∧ Ext w wr ∧ own wr (row 5 1 (.slice (some ⟨w.heap.size, 0, none⟩) 64 64) 64 (byteCells (clusN b q)) :: R)) (fun iv _ => 64 - (intOf iv).toNat)
  case atStart => exact ⟨0, by omega, rfl, hx1, by rw [← show (madeCells #[Value.int IntKind.u8 0] 64).toList = byteCells (clusN b 0) from by rw [clusN_zero, toList_madeCells_one]; simp [byteCells]]; exact h1⟩
  case round =>
    obtain ⟨q, hq, rfl, hxr, hown⟩ := hrel
    by_cases hlt : q < 64
    · obtain ⟨k2, k3⟩ := own_row_cells 0 hown rfl
      have c2 := k2 q _ (clusN_get b q hlt)
      have f3 := k3 q
      have w1 : (q : Int) < 64 := by omega
      have w2 : (0 : Int) ≤ (q : Int) := by omega
      clear k2 k3
      go_wp2_with fail
      go_roundw
      case rel =>
        have h5 := own_row_set 0 q (.int .u8 (cbv b q)) hown rfl (by omega)
        refine ⟨q + 1, by omega, by go_num, hxr.setCell _ _, ?_⟩
        rw [← clusN_set b hlt]
        have e : byteCells ((clusN b q).set q (cbv b q)) = (byteCells (clusN b q)).set q (.int .u8 (cbv b q)) := by simp [byteCells]
        rw [e]
        exact h5
      case measure => simp [intOf]; omega
    · obtain rfl : q = 64 := by omega
      have hc := conv_row 0 (clusN_len b 64) hown rfl (by omega)
      clear hq hlt
      go_wp2_with fail
      go_ret
      exact ⟨rfl, hxr, own_drop hown⟩

/-! ### the model of what is laid -/
def clusOne (m : ImgM) (c : Nat) (b : Int) : ImgM := if b = 1 then (m.clear c).2 else if 1 < b then (m.fill c (clusS b)).2 else m
def fillIs : ImgM → Nat → List Int → ImgM
  | m, _, [] => m
  | m, c, b :: l => fillIs (clusOne m c b) (c + 1) l
def fileI (f : FileM) : Option ImgM := if f.there = true then (if (createR (newDev 170) f.c f.p f.b).1 = 0 then some (fillIs (createR (newDev 170) f.c f.p f.b).2 0 f.is) else none) else none
def laidTo (l : List FileM) (q : Nat) : ShM := fun k => if k < q then fileI (l.getD k fileNone) else none
def laidM (l : List FileM) : ShM := laidTo l l.length
theorem laidTo_zero (l : List FileM) : laidTo l 0 = fun _ => none := funext fun k => if_neg (by omega)
theorem laidTo_at (l : List FileM) (q : Nat) : laidTo l q q = none := if_neg (by omega)
theorem laidTo_some {l : List FileM} {q : Nat} {m : ImgM} (h : fileI (l.getD q fileNone) = some m) : put (laidTo l q) q m = laidTo l (q + 1) := funext fun k => by
  unfold put laidTo
  by_cases e : k = q
  · subst e; rw [if_pos rfl, if_pos (by omega), h]
  · rw [if_neg e]
    by_cases h1 : k < q
    · rw [if_pos h1, if_pos (by omega)]
    · rw [if_neg h1, if_neg (by omega)]
theorem laidTo_none {l : List FileM} {q : Nat} (h : fileI (l.getD q fileNone) = none) : laidTo l q = laidTo l (q + 1) := funext fun k => by
  unfold laidTo
  by_cases e : k = q
  · subst e; rw [if_neg (by omega), if_pos (by omega), h]
  · by_cases h1 : k < q
    · rw [if_pos h1, if_pos (by omega)]
    · rw [if_neg h1, if_neg (by omega)]
theorem step_clusOne {m : ImgM} (hm : m.Ok) (hw : m.d.writes < 999000) (hp : m.d.pend.length < 999000) (c : Nat) (b : Int) : Step 5 m (clusOne m c b) := by
  unfold clusOne
  split
  · exact (step_clear hm (by omega) (by omega) _).mono (by omega)
  · split
    · exact step_fill hm hw hp _ _
    · exact Step.refl hm 5
theorem step_fillIs : ∀ {l : List Int} {m : ImgM} {c N : Nat}, m.Ok → m.d.writes ≤ N → m.d.pend.length ≤ N → N + 5 * l.length < 999000 → Step (5 * l.length) m (fillIs m c l) := by
  intro l
  induction l with
  | nil => intro m c N hm _ _ _; exact Step.refl hm _
  | cons b l ih =>
    intro m c N hm hw hp hN
    simp only [List.length_cons] at hN
    have h1 := step_clusOne hm (by omega) (by omega) c b
    have := h1.wr
    have := h1.pend
    exact (h1.trans (ih (c := c + 1) (N := N + 5) h1.ok (by omega) (by omega) (by omega))).mono (by simp; omega)
theorem new170 : (newDev 170).Ok := newDev_ok (by omega)
theorem fileI_ok {f : FileM} {m : ImgM} (hl : f.is.length ≤ 40) (h : fileI f = some m) : m.Ok ∧ m.d.writes ≤ 300 ∧ m.d.pend.length ≤ 300 := by
  unfold fileI at h
  split at h
  · split at h
    · rename_i h0
      cases h
      obtain ⟨-, -, c3, c4, c5⟩ := created_ok (c := f.c) (p := f.p) (b := f.b) new170 (by show (0 : Nat) < 999000; omega) (by show (0 : Int) < 999000; omega)
      rw [show (newDev 170).writes = 0 from rfl] at c4
      rw [show (newDev 170).pend.length = 0 from rfl] at c3
      obtain ⟨o1, -⟩ := c5 h0
      have := step_fillIs (l := f.is) (c := 0) (N := 5) o1 (by omega) (by omega) (by omega)
      have h1 := this.wr
      have h2 := this.pend
      exact ⟨this.ok, by omega, by omega⟩
    · cases h
  · cases h
theorem laidTo_W {l : List FileM} (hl : ∀ f ∈ l, f.is.length ≤ 40) (q : Nat) : ShW 300 (laidTo l q) := by
  have key : ∀ k m, laidTo l q k = some m → m.Ok ∧ m.d.writes ≤ 300 ∧ m.d.pend.length ≤ 300 := fun k m h => by
    unfold laidTo at h
    split at h
    · refine fileI_ok ?_ h
      by_cases hk : k < l.length
      · exact hl _ (file_getD hk)
      · rw [show l.getD k fileNone = fileNone by simp [hk]]; simp [fileNone]
    · cases h
  exact ⟨fun k m _ h => (key k m h).1, fun k m _ h => (key k m h).2.1, fun k m _ h => (key k m h).2.2⟩

/-! ### a file is laid into a shelf -/
theorem own_emp {w : World} {L : List HP} (H : own w L) : own w (emp :: L) :=
  own_mono (l := L) (fun h hh => ⟨fun _ => none, h, fun _ => .inl ⟨rfl, rfl⟩, fun _ => rfl, hh⟩) H
def setA {α : Type} (A : Nat → α) (k : Nat) (x : α) : Nat → α := fun j => if j = k then x else A j
theorem setA_at {α : Type} (A : Nat → α) (k : Nat) (x : α) : setA A k x k = x := if_pos rfl
theorem setA_ne {α : Type} (A : Nat → α) {k j : Nat} (x : α) (h : j ≠ k) : setA A k x j = A j := if_neg h
theorem sh_lay {w : World} {b bi bd bh k : Nat} {A : Nat → Nat × Nat × Nat} {F : ShM} {m : ImgM} {R : List SL.HP} (hk : k < 5) (hF : F k = none) (H : own w (imgAt bi bd bh m :: devAt bd m.d :: (shL b A F ++ R))) :
    own (w.setCell ⟨b, k, none⟩ (.pointer (some ⟨bi, 0, none⟩))) (shL b (setA A k (bi, bd, bh)) (put F k m) ++ R) := by
  have h1 := own_set (i := k) (v := .pointer (some ⟨bi, 0, none⟩)) 2 H rfl
  have h2 := own_star_mk [imgAt bi bd bh m, devAt bd m.d] h1
  have hs : ∀ j, j ≠ k → slotP (setA A k (bi, bd, bh)) (put F k m) j = slotP A F j := fun j hj => by unfold slotP; rw [put_ne F m hj, setA_ne A _ hj]
  have hv : ∀ j, j ≠ k → slotV (setA A k (bi, bd, bh)) (put F k m) j = slotV A F j := fun j hj => by unfold slotV; rw [put_ne F m hj, setA_ne A _ hj]
  have hs' : slotP (setA A k (bi, bd, bh)) (put F k m) k = star [imgAt bi bd bh m, devAt bd m.d] := by unfold slotP; rw [put_at, setA_at]
  have hv' : slotV (setA A k (bi, bd, bh)) (put F k m) k = .pointer (some ⟨bi, 0, none⟩) := by unfold slotV; rw [put_at, setA_at]
  have hg : ∀ P0 : SL.HP, (P0 :: slotP A F 0 :: slotP A F 1 :: slotP A F 2 :: slotP A F 3 :: slotP A F 4 :: R)[1 + k]? = some (slotP A F k) := fun P0 => by
    rcases k with _ | _ | _ | _ | _ | k
    · rfl
    · rfl
    · rfl
    · rfl
    · rfl
    · omega
  have h3 := own_put (own_drop h2) (1 + k) (hg _) (own_erase ((1 + k) + 1) h2 (hg _))
  refine (congrArg (own _) ?_).mp h3
  rcases k with _ | _ | _ | _ | _ | k
  case succ.succ.succ.succ.succ => omega
  all_goals
    unfold shL shCells
    rw [hs', hv']
    simp [hs, hv]
theorem sh_lay_nil {w : World} {b k : Nat} {A : Nat → Nat × Nat × Nat} {F : ShM} {R : List SL.HP} (hk : k < 5) (hF : F k = none) (H : own w (shL b A F ++ R)) : own (w.setCell ⟨b, k, none⟩ (.pointer none)) (shL b A F ++ R) := by
  have h1 := own_set (i := k) (v := .pointer none) 0 H rfl
  have hv := slotV_none (A := A) hF
  refine (congrArg (own _) ?_).mp h1
  rcases k with _ | _ | _ | _ | _ | k
  case succ.succ.succ.succ.succ => omega
  all_goals
    unfold shL shCells
    rw [hv]
    rfl
theorem sh_new {w : World} {R : List SL.HP} (A : Nat → Nat × Nat × Nat) (H : own w R) : own (w.alloc (.cells #[.pointer none, .pointer none, .pointer none, .pointer none, .pointer none] 55)) (shL w.heap.size A (fun _ => none) ++ R) := by
  have h1 := own_alloc H (.cells #[.pointer none, .pointer none, .pointer none, .pointer none, .pointer none] 55)
  exact own_pick 5 (own_emp (own_emp (own_emp (own_emp (own_emp h1))))) rfl
theorem rsh_lay {w : World} {b bi bd k : Nat} {A : Nat → Nat × Nat} {F : ShM} {m : ImgM} {R : List SL.HP} (hk : k < 5) (hF : F k = none) (H : own w (rimgAt bi bd m :: rdevAt bd m.d :: (rshL b A F ++ R))) :
    own (w.setCell ⟨b, k, none⟩ (.pointer (some ⟨bi, 0, none⟩))) (rshL b (setA A k (bi, bd)) (put F k m) ++ R) := by
  have h1 := own_set (i := k) (v := .pointer (some ⟨bi, 0, none⟩)) 2 H rfl
  have h2 := own_star_mk [rimgAt bi bd m, rdevAt bd m.d] h1
  have hs : ∀ j, j ≠ k → rslotP (setA A k (bi, bd)) (put F k m) j = rslotP A F j := fun j hj => by unfold rslotP; rw [put_ne F m hj, setA_ne A _ hj]
  have hv : ∀ j, j ≠ k → rslotV (setA A k (bi, bd)) (put F k m) j = rslotV A F j := fun j hj => by unfold rslotV; rw [put_ne F m hj, setA_ne A _ hj]
  have hs' : rslotP (setA A k (bi, bd)) (put F k m) k = star [rimgAt bi bd m, rdevAt bd m.d] := by unfold rslotP; rw [put_at, setA_at]
  have hv' : rslotV (setA A k (bi, bd)) (put F k m) k = .pointer (some ⟨bi, 0, none⟩) := by unfold rslotV; rw [put_at, setA_at]
  have hg : ∀ P0 : SL.HP, (P0 :: rslotP A F 0 :: rslotP A F 1 :: rslotP A F 2 :: rslotP A F 3 :: rslotP A F 4 :: R)[1 + k]? = some (rslotP A F k) := fun P0 => by
    rcases k with _ | _ | _ | _ | _ | k
    · rfl
    · rfl
    · rfl
    · rfl
    · rfl
    · omega
  have h3 := own_put (own_drop h2) (1 + k) (hg _) (own_erase ((1 + k) + 1) h2 (hg _))
  refine (congrArg (own _) ?_).mp h3
  rcases k with _ | _ | _ | _ | _ | k
  case succ.succ.succ.succ.succ => omega
  all_goals
    unfold rshL rshCells
    rw [hs', hv']
    simp [hs, hv]
theorem rsh_lay_nil {w : World} {b k : Nat} {A : Nat → Nat × Nat} {F : ShM} {R : List SL.HP} (hk : k < 5) (hF : F k = none) (H : own w (rshL b A F ++ R)) : own (w.setCell ⟨b, k, none⟩ (.pointer none)) (rshL b A F ++ R) := by
  have h1 := own_set (i := k) (v := .pointer none) 0 H rfl
  have hv := rslotV_none (A := A) hF
  refine (congrArg (own _) ?_).mp h1
  rcases k with _ | _ | _ | _ | _ | k
  case succ.succ.succ.succ.succ => omega
  all_goals
    unfold rshL rshCells
    rw [hv]
    rfl
theorem rsh_new {w : World} {R : List SL.HP} (A : Nat → Nat × Nat) (H : own w R) : own (w.alloc (.cells #[.pointer none, .pointer none, .pointer none, .pointer none, .pointer none] 58)) (rshL w.heap.size A (fun _ => none) ++ R) := by
  have h1 := own_alloc H (.cells #[.pointer none, .pointer none, .pointer none, .pointer none, .pointer none] 58)
  exact own_pick 5 (own_emp (own_emp (own_emp (own_emp (own_emp h1))))) rfl
end Go.Proofs.YtbpblokfiajpjabGreat

namespace Go.Proofs.YtbpblokfiajpjabGreat
open Go.RowKit Go.SL Go.Crc
attribute [local go_sem ↓] Go.wp_at_zero Go.wp_at_succ

set_option maxRecDepth 100000 in
set_option maxHeartbeats 8000000 in
theorem created_any (bd : Nat) (d : DevM) (hd : d.Ok) (hp : d.pend.length < 999000) (hw : d.writes < 999000) (c p b : Int) (R : List SL.HP) (w : World) (H : own w (rdevAt bd d :: R)) :
    Calls Tryz.prog 18 #[.pointer (some ⟨bd, 0, none⟩), headV c p b] w (RMadePost bd (createR d c p b) R w) := by
  have hE : createR d c p b = if fitBad d c p b then (1, madeM d c p b)
    else if (d.puts 1 (rowsL (zeroT c))).1 ≠ 0 then ((d.puts 1 (rowsL (zeroT c))).1, madeM (d.puts 1 (rowsL (zeroT c))).2 c p b)
    else if ((d.puts 1 (rowsL (zeroT c))).2.flush.write 0 (headS c p b)).1 ≠ 0 then (((d.puts 1 (rowsL (zeroT c))).2.flush.write 0 (headS c p b)).1, madeM ((d.puts 1 (rowsL (zeroT c))).2.flush.write 0 (headS c p b)).2 c p b)
    else (0, madeM ((d.puts 1 (rowsL (zeroT c))).2.flush.write 0 (headS c p b)).2.flush c p b) := rfl
  generalize createR d c p b = S at *
  have HE := Lib.hid hE
  clear hE
  have ha := own_alloc H (.cells #[.int .i64 c, .int .i64 p, .int .i64 b] 47)
  have hxa := (Ext.refl w).alloc (.cells #[.int .i64 c, .int .i64 p, .int .i64 b] 47)
  obtain ⟨vf, va, vw, h⟩ := rdev_open (own_pick 1 ha rfl)
  obtain ⟨af, gf, cf, rfl, -, -, -, -, -, -, -⟩ := own_row_form 1 h rfl
  have hn := hd.n
  have hfh := fun (R : List SL.HP) (w : World) (H : own w R) => headfault_any c p b R w H
  by_cases hb : headBad c p b
  · have hS : S = (1, madeM d c p b) := by rw [HE.out, if_pos (show fitBad d c p b from .inl hb)]
    rw [show headF c p b = 1 from if_pos hb] at hfh
    have HFH := Lib.hid hfh
    have HS := Lib.hid hS
    clear hb hS hfh
    unfold headV at HFH
    unfold headV
    go_enter Tryz.func18, Tryz.ntmps18
    go_upto_region 1 with (fail)
    generalize w.heap.size = gh at *
    generalize w.alloc (.cells #[.int .i64 c, .int .i64 p, .int .i64 b] 47) = w1 at *
    have hd1 := own_drew h
    clear h
    refine wp_region_held_drew (S := fun w' => w'.cell? ⟨gh, 0, none⟩ = some (.int .i64 c) ∧ w'.cell? ⟨gh, 1, none⟩ = some (.int .i64 p) ∧ w'.cell? ⟨gh, 2, none⟩ = some (.int .i64 b) ∧ w'.cell? ⟨bd, 0, none⟩ = some (.slice af d.fl.length cf)) (by kernel_rfl) ⟨(own_cells 4 hd1 rfl).1 0, (own_cells 4 hd1 rfl).1 1, (own_cells 4 hd1 rfl).1 2, (own_cells 0 hd1 rfl).1 0⟩ (fun hHeld => ?_)
    refine wpAnyH_take (i := 0) (v := ?_) rfl (by kernel_rfl) (by kernel_rfl) (by kernel_rfl) (fun _ _ _ h => h) (Or.inl ⟨by rfl, ?_⟩) (by assumption) ?_
    rotate_left
    · intro w hSw
      go_simp
      try with_reducible rfl
    try simp only [Act.put, List.setIfInBounds_toArray, List.set_cons_zero, List.set_cons_succ]
    refine wpAnyH_ready (rs := [1]) (by kernel_rfl) (by simp) ?_
    refine AllReadyH.cons rfl (fun K hK => ?_) AllReadyH.nil
    go_simp
    go_at_call 46
    refine (HFH.out _ _ hd1).mono ?_
    rintro e w2 ⟨rfl, hx2, h2⟩
    go_simp
    refine hK.out _ _ ⟨(own_cells 4 h2 rfl).1 0, (own_cells 4 h2 rfl).1 1, (own_cells 4 h2 rfl).1 2, (own_cells 0 h2 rfl).1 0⟩ (fun _ => ?_)
    clear hK K
    try simp only [Act.put, List.setIfInBounds_toArray, List.set_cons_zero, List.set_cons_succ]
    refine wpAnyH_take (i := 2) (v := ?_) rfl (by kernel_rfl) (by kernel_rfl) (by kernel_rfl) (fun _ _ _ h => h) (Or.inl ⟨by rfl, ?_⟩) (by assumption) ?_
    rotate_left
    · intro w hSw
      go_simp
      try with_reducible rfl
    try simp only [Act.put, List.setIfInBounds_toArray, List.set_cons_zero, List.set_cons_succ]
    refine wpAnyH_take (i := 3) (v := ?_) rfl (by kernel_rfl) (by kernel_rfl) (by kernel_rfl) (fun _ _ _ h => h) (Or.inl ⟨by rfl, ?_⟩) (by assumption) ?_
    rotate_left
    · intro w hSw
      go_simp
      try with_reducible rfl
    try simp only [Act.put, List.setIfInBounds_toArray, List.set_cons_zero, List.set_cons_succ]
    refine wpAnyH_take (i := 4) (v := undef) rfl (by kernel_rfl) (by kernel_rfl) (by kernel_rfl) (fun _ _ _ h => h) (Or.inr ⟨by kernel_rfl, rfl⟩) (by assumption) ?_
    try simp only [Act.put, List.setIfInBounds_toArray, List.set_cons_zero, List.set_cons_succ]
    refine wpAnyH_take (i := 5) (v := undef) rfl (by kernel_rfl) (by kernel_rfl) (by kernel_rfl) (fun _ _ _ h => h) (Or.inr ⟨by kernel_rfl, rfl⟩) (by assumption) ?_
    try simp only [Act.put, List.setIfInBounds_toArray, List.set_cons_zero, List.set_cons_succ]
    refine wpAnyH_take (i := 6) (v := undef) rfl (by kernel_rfl) (by kernel_rfl) (by kernel_rfl) (fun _ _ _ h => h) (Or.inr ⟨by kernel_rfl, rfl⟩) (by assumption) ?_
    try simp only [Act.put, List.setIfInBounds_toArray, List.set_cons_zero, List.set_cons_succ]
    refine wpAnyH_take (i := 7) (v := undef) rfl (by kernel_rfl) (by kernel_rfl) (by kernel_rfl) (fun _ _ _ h => h) (Or.inr ⟨by kernel_rfl, rfl⟩) (by assumption) ?_
    try simp only [Act.put, List.setIfInBounds_toArray, List.set_cons_zero, List.set_cons_succ]
    refine wpAnyH_take (i := 8) (v := undef) rfl (by kernel_rfl) (by kernel_rfl) (by kernel_rfl) (fun _ _ _ h => h) (Or.inr ⟨by kernel_rfl, rfl⟩) (by assumption) ?_
    try simp only [Act.put, List.setIfInBounds_toArray, List.set_cons_zero, List.set_cons_succ]
    refine wpAnyH_take (i := 9) (v := undef) rfl (by kernel_rfl) (by kernel_rfl) (by kernel_rfl) (fun _ _ _ h => h) (Or.inr ⟨by kernel_rfl, rfl⟩) (by assumption) ?_
    try simp only [Act.put, List.setIfInBounds_toArray, List.set_cons_zero, List.set_cons_succ]
    refine wpAnyH_take (i := 10) (v := undef) rfl (by kernel_rfl) (by kernel_rfl) (by kernel_rfl) (fun _ _ _ h => h) (Or.inr ⟨by kernel_rfl, rfl⟩) (by assumption) ?_
    try simp only [Act.put, List.setIfInBounds_toArray, List.set_cons_zero, List.set_cons_succ]
    refine wpAnyH_take (i := 11) (v := undef) rfl (by kernel_rfl) (by kernel_rfl) (by kernel_rfl) (fun _ _ _ h => h) (Or.inr ⟨by kernel_rfl, rfl⟩) (by assumption) ?_
    try simp only [Act.put, List.setIfInBounds_toArray, List.set_cons_zero, List.set_cons_succ]
    refine wpAnyH_ready (rs := [12]) (by kernel_rfl) (by simp) ?_
    refine AllReadyH.cons rfl (fun K hK => ?_) AllReadyH.nil
    go_simp
    refine hK.out _ _ (by assumption) (fun _ => ?_)
    clear hK K
    try simp only [Act.put, List.setIfInBounds_toArray, List.set_cons_zero, List.set_cons_succ]
    refine wpAnyH_done (by kernel_rfl) ?_ _
    have h3 := rdev_close h2
    have hx3 := hxa.drew.trans hx2
    clear hd1 h2
    go_wp2_with fail
    go_ret2
    rw [HS.out]
    exact .inl ⟨by simp, rfl, hx3, own_erase 1 h3 rfl⟩
  · rw [show headF c p b = 0 from if_neg hb] at hfh
    have HFH := Lib.hid hfh
    have HND := Lib.hid (fun (R : List SL.HP) (w : World) (H : own w R) => rneed_any c p b hb R w H)
    have HB := Lib.hid hb
    have hfb : fitBad d c p b ↔ (d.fl.length : Int) < needN c p := ⟨fun h => h.elim (fun h => absurd h hb) id, .inr⟩
    have HFB := Lib.hid hfb
    clear hb hfh hfb
    generalize needN c p = nd at *
    by_cases hl : (d.fl.length : Int) < nd
    · have d0 : decide ((d.fl.length : Int) < nd) = true := decide_eq_true hl
      have HL := Lib.hid hl
      clear hl
      unfold headV at HFH HND
      unfold headV
      go_enter Tryz.func18, Tryz.ntmps18
      go_upto_region 1 with (fail)
      generalize w.heap.size = gh at *
      generalize w.alloc (.cells #[.int .i64 c, .int .i64 p, .int .i64 b] 47) = w1 at *
      have hd1 := own_drew h
      clear h
      refine wp_region_held_drew (S := fun w' => w'.cell? ⟨gh, 0, none⟩ = some (.int .i64 c) ∧ w'.cell? ⟨gh, 1, none⟩ = some (.int .i64 p) ∧ w'.cell? ⟨gh, 2, none⟩ = some (.int .i64 b) ∧ w'.cell? ⟨bd, 0, none⟩ = some (.slice af d.fl.length cf)) (by kernel_rfl) ⟨(own_cells 4 hd1 rfl).1 0, (own_cells 4 hd1 rfl).1 1, (own_cells 4 hd1 rfl).1 2, (own_cells 0 hd1 rfl).1 0⟩ (fun hHeld => ?_)
      refine wpAnyH_take (i := 0) (v := ?_) rfl (by kernel_rfl) (by kernel_rfl) (by kernel_rfl) (fun _ _ _ h => h) (Or.inl ⟨by rfl, ?_⟩) (by assumption) ?_
      rotate_left
      · intro w hSw
        go_simp
        try with_reducible rfl
      try simp only [Act.put, List.setIfInBounds_toArray, List.set_cons_zero, List.set_cons_succ]
      refine wpAnyH_ready (rs := [1]) (by kernel_rfl) (by simp) ?_
      refine AllReadyH.cons rfl (fun K hK => ?_) AllReadyH.nil
      go_simp
      go_at_call 46
      refine (HFH.out _ _ hd1).mono ?_
      rintro e w2 ⟨rfl, hx2, h2⟩
      go_simp
      refine hK.out _ _ ⟨(own_cells 4 h2 rfl).1 0, (own_cells 4 h2 rfl).1 1, (own_cells 4 h2 rfl).1 2, (own_cells 0 h2 rfl).1 0⟩ (fun _ => ?_)
      clear hK K
      try simp only [Act.put, List.setIfInBounds_toArray, List.set_cons_zero, List.set_cons_succ]
      refine wpAnyH_take (i := 2) (v := ?_) rfl (by kernel_rfl) (by kernel_rfl) (by kernel_rfl) (fun _ _ _ h => h) (Or.inl ⟨by rfl, ?_⟩) (by assumption) ?_
      rotate_left
      · intro w hSw
        go_simp
        try with_reducible rfl
      try simp only [Act.put, List.setIfInBounds_toArray, List.set_cons_zero, List.set_cons_succ]
      refine wpAnyH_take (i := 3) (v := ?_) rfl (by kernel_rfl) (by kernel_rfl) (by kernel_rfl) (fun _ _ _ h => h) (Or.inl ⟨by rfl, ?_⟩) (by assumption) ?_
      rotate_left
      · intro w hSw
        go_simp
        try with_reducible rfl
      try simp only [Act.put, List.setIfInBounds_toArray, List.set_cons_zero, List.set_cons_succ]
      refine wpAnyH_take (i := 4) (v := ?_) rfl (by kernel_rfl) (by kernel_rfl) (by kernel_rfl) (fun _ _ _ h => h) (Or.inl ⟨by rfl, ?_⟩) (by assumption) ?_
      rotate_left
      · intro w hSw
        go_simp
        try with_reducible rfl
      try simp only [Act.put, List.setIfInBounds_toArray, List.set_cons_zero, List.set_cons_succ]
      refine wpAnyH_take (i := 6) (v := ?_) rfl (by kernel_rfl) (by kernel_rfl) (by kernel_rfl) (fun _ _ _ h => h) (Or.inl ⟨by rfl, ?_⟩) (by assumption) ?_
      rotate_left
      · intro w hSw
        go_simp
        try with_reducible rfl
      try simp only [Act.put, List.setIfInBounds_toArray, List.set_cons_zero, List.set_cons_succ]
      refine wpAnyH_take (i := 7) (v := ?_) rfl (by kernel_rfl) (by kernel_rfl) (by kernel_rfl) (fun _ _ _ h => h) (Or.inl ⟨by rfl, ?_⟩) (by assumption) ?_
      rotate_left
      · intro w hSw
        go_simp
        try with_reducible rfl
      try simp only [Act.put, List.setIfInBounds_toArray, List.set_cons_zero, List.set_cons_succ]
      refine wpAnyH_take (i := 8) (v := ?_) rfl (by kernel_rfl) (by kernel_rfl) (by kernel_rfl) (fun _ _ _ h => h) (Or.inl ⟨by rfl, ?_⟩) (by assumption) ?_
      rotate_left
      · intro w hSw
        go_simp
        try with_reducible rfl
      try simp only [Act.put, List.setIfInBounds_toArray, List.set_cons_zero, List.set_cons_succ]
      refine wpAnyH_take (i := 9) (v := ?_) rfl (by kernel_rfl) (by kernel_rfl) (by kernel_rfl) (fun _ _ _ h => h) (Or.inl ⟨by rfl, ?_⟩) (by assumption) ?_
      rotate_left
      · intro w hSw
        go_simp
        try with_reducible rfl
      try simp only [Act.put, List.setIfInBounds_toArray, List.set_cons_zero, List.set_cons_succ]
      refine wpAnyH_take (i := 10) (v := ?_) rfl (by kernel_rfl) (by kernel_rfl) (by kernel_rfl) (fun _ _ _ h => h) (Or.inl ⟨by rfl, ?_⟩) (by assumption) ?_
      rotate_left
      · intro w hSw
        go_simp
        try with_reducible rfl
      try simp only [Act.put, List.setIfInBounds_toArray, List.set_cons_zero, List.set_cons_succ]
      refine wpAnyH_ready (rs := [5]) (by kernel_rfl) (by simp) ?_
      refine AllReadyH.cons rfl (fun K hK => ?_) AllReadyH.nil
      go_simp
      go_at_call 47
      refine (HND.out _ _ h2).mono ?_
      rintro e w3 ⟨rfl, hx3, h3⟩
      go_simp
      refine hK.out _ _ ⟨(own_cells 4 h3 rfl).1 0, (own_cells 4 h3 rfl).1 1, (own_cells 4 h3 rfl).1 2, (own_cells 0 h3 rfl).1 0⟩ (fun _ => ?_)
      clear hK K
      try simp only [Act.put, List.setIfInBounds_toArray, List.set_cons_zero, List.set_cons_succ]
      refine wpAnyH_ready (rs := [11]) (by kernel_rfl) (by simp) ?_
      refine AllReadyH.cons rfl (fun K hK => ?_) AllReadyH.nil
      go_simp
      refine hK.out _ _ (by assumption) (fun _ => ?_)
      clear hK K
      try simp only [Act.put, List.setIfInBounds_toArray, List.set_cons_zero, List.set_cons_succ]
      refine wpAnyH_ready (rs := [12]) (by kernel_rfl) (by simp) ?_
      refine AllReadyH.cons rfl (fun K hK => ?_) AllReadyH.nil
      go_simp
      refine hK.out _ _ (by assumption) (fun _ => ?_)
      clear hK K
      try simp only [Act.put, List.setIfInBounds_toArray, List.set_cons_zero, List.set_cons_succ]
      refine wpAnyH_done (by kernel_rfl) ?_ _
      have h4 := rdev_close h3
      have hx4 := (hxa.drew.trans hx2).trans hx3
      clear hd1 h2 h3
      go_wp2_with fail
      go_ret2
      rw [HE.out, if_pos (HFB.out.2 HL.out)]
      exact .inl ⟨by simp, rfl, hx4, own_erase 1 h4 rfl⟩
    · have d0 : decide ((d.fl.length : Int) < nd) = false := decide_eq_false hl
      have HL := Lib.hid hl
      clear hl
      unfold headV at HFH HND
      unfold headV
      go_enter Tryz.func18, Tryz.ntmps18
      go_upto_region 1 with (fail)
      generalize w.heap.size = gh at *
      generalize w.alloc (.cells #[.int .i64 c, .int .i64 p, .int .i64 b] 47) = w1 at *
      have hd1 := own_drew h
      clear h
      refine wp_region_held_drew (S := fun w' => w'.cell? ⟨gh, 0, none⟩ = some (.int .i64 c) ∧ w'.cell? ⟨gh, 1, none⟩ = some (.int .i64 p) ∧ w'.cell? ⟨gh, 2, none⟩ = some (.int .i64 b) ∧ w'.cell? ⟨bd, 0, none⟩ = some (.slice af d.fl.length cf)) (by kernel_rfl) ⟨(own_cells 4 hd1 rfl).1 0, (own_cells 4 hd1 rfl).1 1, (own_cells 4 hd1 rfl).1 2, (own_cells 0 hd1 rfl).1 0⟩ (fun hHeld => ?_)
      refine wpAnyH_take (i := 0) (v := ?_) rfl (by kernel_rfl) (by kernel_rfl) (by kernel_rfl) (fun _ _ _ h => h) (Or.inl ⟨by rfl, ?_⟩) (by assumption) ?_
      rotate_left
      · intro w hSw
        go_simp
        try with_reducible rfl
      try simp only [Act.put, List.setIfInBounds_toArray, List.set_cons_zero, List.set_cons_succ]
      refine wpAnyH_ready (rs := [1]) (by kernel_rfl) (by simp) ?_
      refine AllReadyH.cons rfl (fun K hK => ?_) AllReadyH.nil
      go_simp
      go_at_call 46
      refine (HFH.out _ _ hd1).mono ?_
      rintro e w2 ⟨rfl, hx2, h2⟩
      go_simp
      refine hK.out _ _ ⟨(own_cells 4 h2 rfl).1 0, (own_cells 4 h2 rfl).1 1, (own_cells 4 h2 rfl).1 2, (own_cells 0 h2 rfl).1 0⟩ (fun _ => ?_)
      clear hK K
      try simp only [Act.put, List.setIfInBounds_toArray, List.set_cons_zero, List.set_cons_succ]
      refine wpAnyH_take (i := 2) (v := ?_) rfl (by kernel_rfl) (by kernel_rfl) (by kernel_rfl) (fun _ _ _ h => h) (Or.inl ⟨by rfl, ?_⟩) (by assumption) ?_
      rotate_left
      · intro w hSw
        go_simp
        try with_reducible rfl
      try simp only [Act.put, List.setIfInBounds_toArray, List.set_cons_zero, List.set_cons_succ]
      refine wpAnyH_take (i := 3) (v := ?_) rfl (by kernel_rfl) (by kernel_rfl) (by kernel_rfl) (fun _ _ _ h => h) (Or.inl ⟨by rfl, ?_⟩) (by assumption) ?_
      rotate_left
      · intro w hSw
        go_simp
        try with_reducible rfl
      try simp only [Act.put, List.setIfInBounds_toArray, List.set_cons_zero, List.set_cons_succ]
      refine wpAnyH_take (i := 4) (v := ?_) rfl (by kernel_rfl) (by kernel_rfl) (by kernel_rfl) (fun _ _ _ h => h) (Or.inl ⟨by rfl, ?_⟩) (by assumption) ?_
      rotate_left
      · intro w hSw
        go_simp
        try with_reducible rfl
      try simp only [Act.put, List.setIfInBounds_toArray, List.set_cons_zero, List.set_cons_succ]
      refine wpAnyH_take (i := 6) (v := ?_) rfl (by kernel_rfl) (by kernel_rfl) (by kernel_rfl) (fun _ _ _ h => h) (Or.inl ⟨by rfl, ?_⟩) (by assumption) ?_
      rotate_left
      · intro w hSw
        go_simp
        try with_reducible rfl
      try simp only [Act.put, List.setIfInBounds_toArray, List.set_cons_zero, List.set_cons_succ]
      refine wpAnyH_take (i := 7) (v := ?_) rfl (by kernel_rfl) (by kernel_rfl) (by kernel_rfl) (fun _ _ _ h => h) (Or.inl ⟨by rfl, ?_⟩) (by assumption) ?_
      rotate_left
      · intro w hSw
        go_simp
        try with_reducible rfl
      try simp only [Act.put, List.setIfInBounds_toArray, List.set_cons_zero, List.set_cons_succ]
      refine wpAnyH_take (i := 8) (v := ?_) rfl (by kernel_rfl) (by kernel_rfl) (by kernel_rfl) (fun _ _ _ h => h) (Or.inl ⟨by rfl, ?_⟩) (by assumption) ?_
      rotate_left
      · intro w hSw
        go_simp
        try with_reducible rfl
      try simp only [Act.put, List.setIfInBounds_toArray, List.set_cons_zero, List.set_cons_succ]
      refine wpAnyH_take (i := 9) (v := ?_) rfl (by kernel_rfl) (by kernel_rfl) (by kernel_rfl) (fun _ _ _ h => h) (Or.inl ⟨by rfl, ?_⟩) (by assumption) ?_
      rotate_left
      · intro w hSw
        go_simp
        try with_reducible rfl
      try simp only [Act.put, List.setIfInBounds_toArray, List.set_cons_zero, List.set_cons_succ]
      refine wpAnyH_take (i := 10) (v := ?_) rfl (by kernel_rfl) (by kernel_rfl) (by kernel_rfl) (fun _ _ _ h => h) (Or.inl ⟨by rfl, ?_⟩) (by assumption) ?_
      rotate_left
      · intro w hSw
        go_simp
        try with_reducible rfl
      try simp only [Act.put, List.setIfInBounds_toArray, List.set_cons_zero, List.set_cons_succ]
      refine wpAnyH_ready (rs := [5]) (by kernel_rfl) (by simp) ?_
      refine AllReadyH.cons rfl (fun K hK => ?_) AllReadyH.nil
      go_simp
      go_at_call 47
      refine (HND.out _ _ h2).mono ?_
      rintro e w3 ⟨rfl, hx3, h3⟩
      go_simp
      refine hK.out _ _ ⟨(own_cells 4 h3 rfl).1 0, (own_cells 4 h3 rfl).1 1, (own_cells 4 h3 rfl).1 2, (own_cells 0 h3 rfl).1 0⟩ (fun _ => ?_)
      clear hK K
      try simp only [Act.put, List.setIfInBounds_toArray, List.set_cons_zero, List.set_cons_succ]
      refine wpAnyH_ready (rs := [11]) (by kernel_rfl) (by simp) ?_
      refine AllReadyH.cons rfl (fun K hK => ?_) AllReadyH.nil
      go_simp
      refine hK.out _ _ (by assumption) (fun _ => ?_)
      clear hK K
      try simp only [Act.put, List.setIfInBounds_toArray, List.set_cons_zero, List.set_cons_succ]
      refine wpAnyH_ready (rs := [12]) (by kernel_rfl) (by simp) ?_
      refine AllReadyH.cons rfl (fun K hK => ?_) AllReadyH.nil
      go_simp
      refine hK.out _ _ (by assumption) (fun _ => ?_)
      clear hK K
      try simp only [Act.put, List.setIfInBounds_toArray, List.set_cons_zero, List.set_cons_succ]
      refine wpAnyH_done (by kernel_rfl) ?_ _
      have h4 := rdev_close h3
      have hx4 := (hxa.drew.trans hx2).trans hx3
      clear hd1 h2 h3
      go_upto_region 4 with (fail)
      have hhb := HB.out
      unfold headBad at hhb
      obtain ⟨C, rfl⟩ := Int.eq_ofNat_of_zero_le (show 0 ≤ c by omega)
      have c2 : C ≤ 32 := by omega
      clear hhb
      have h5 := own_alloc h4 (.cells #[.pointer (some ⟨bd, 0, none⟩), .int .i64 C, .int .i64 p, .int .i64 b, .slice none 0 0, .slice none 0 0] 76)
      have hx5 := hx4.alloc (.cells #[.pointer (some ⟨bd, 0, none⟩), .int .i64 C, .int .i64 p, .int .i64 b, .slice none 0 0, .slice none 0 0] 76)
      generalize w3.heap.size = bi at *
      generalize w3.alloc (.cells #[.pointer (some ⟨bd, 0, none⟩), .int .i64 C, .int .i64 p, .int .i64 b, .slice none 0 0, .slice none 0 0] 76) = w5 at *
      have h6 := own_row_nil 107 2 h5
      clear h5 h4 hx4
      go_wp2_with fail
      go_loopw [7] (fun i wr => ∃ (q : Nat) (v : Value), q ≤ C ∧ i = .int .i64 q ∧ Ext w wr ∧ own wr (row 107 2 v q (entCells (List.replicate q (0, 0))) :: pts bi (.cells #[.pointer (some ⟨bd, 0, none⟩), .int .i64 C, .int .i64 p, .int .i64 b, v, .slice none 0 0] 76 (0, 0)) :: rdevAt bd d :: pts gh (.cells #[.int .i64 C, .int .i64 p, .int .i64 b] 47 (0, 0)) :: R)) (fun i _ => C - (intOf i).toNat)
      case atStart => exact ⟨0, _, by omega, rfl, hx5, h6⟩
      case round =>
        obtain ⟨q, v, hq, rfl, hxr, hown⟩ := hrel
        by_cases hlt : q < C
        · obtain ⟨cc, ff⟩ := own_cells 1 hown rfl
          obtain ⟨cg, fg⟩ := own_cells 3 hown rfl
          have hqC : (q : Int) < (C : Int) := by omega
          have hml : q + 1 ≤ maxLen := by simp only [maxLen]; omega
          have e1 : IntKind.i64.wrap ((q : Int) + 1) = (q : Int) + 1 := IntWalk.i64_in _ (by omega)
          have ha2 := own_alloc hown (.cells #[.int .i64 0, .int .i64 0] 107)
          have one0 : ∀ u ∈ [Value.int .i64 0, Value.int .i64 0], u.oneCell' = true := fun u hu => by simp at hu; subst hu; rfl
          go_wp2_with (first | (at_builtin; refine wpList_append_row rfl _ _ 74 rfl 1 107 Tryz.underlying74 elem_entry rfl (by decide) rfl ha2 rfl (some ⟨wr.heap.size, 0, none⟩) 1 1 [.int .i64 0, .int .i64 0] rfl rfl (alloc_news wr [.int .i64 0, .int .i64 0] _) (fun h => by cases h) one0 hml (by omega) ?_))
          intro v' w6 h6' hx6
          have hx7 := (hxr.alloc (.cells #[.int .i64 0, .int .i64 0] 107)).trans hx6
          clear cc ff cg fg ha2 hown hxr hx6
          obtain ⟨cc, ff⟩ := own_cells 2 h6' rfl
          obtain ⟨ao', g', cap', rfl, -, -, -, -, -, -, -⟩ := own_row_form 1 h6' rfl
          have h7 := own_set (i := 4) (v := .slice ao' (q + 1) cap') 2 h6' rfl
          have hx8 := hx7.setCell ⟨bi, 4, none⟩ (.slice ao' (q + 1) cap')
          go_wp2_with fail
          go_roundw
          case rel =>
            refine ⟨q + 1, .slice ao' (q + 1) cap', by omega, by go_num, hx8, ?_⟩
            have h8 := own_drop h7
            have e9 : entCells (List.replicate (q + 1) ((0, 0) : Ent)) = entCells (List.replicate q (0, 0)) ++ [.int .i64 0, .int .i64 0] := by
              rw [List.replicate_succ', entCells, List.flatMap_append]; rfl
            rw [e9]
            exact h8
          case measure => simp [intOf]; omega
        · obtain rfl : C = q := by omega
          have h7 : own wr (rimgAt bi bd (madeM d C p b) :: rdevAt bd d :: pts gh (.cells #[.int .i64 C, .int .i64 p, .int .i64 b] 47 (0, 0)) :: R) := by
            have h1 := own_behind [_, _] (own_row_nil 3 1 (own_pick 1 hown rfl))
            exact rimg_close (m := madeM d C p b) (by
              show own _ (pts bi _ :: row 107 2 v (List.replicate C ((0, 0) : Ent)).length _ :: row 3 1 _ 0 [] :: _)
              rw [List.length_replicate]
              exact h1)
          have hx7 := hxr
          clear hown hxr hq hlt
          have hlz : (zeroT (C : Int)).length = C := by simp [zeroT]
          have hrn : rowsN C ≤ 4 := by unfold rowsN; omega
          have hll : (rowsL (zeroT (C : Int))).length = rowsN C := by simp [rowsL, hlz]
          have HGET := Lib.hid (fun (k : Nat) (h : k < rowsN C) => rowsL_get (c := (C : Int)) (k := k) (by rw [hlz]; exact h))
          have HEND := Lib.hid (show (rowsL (zeroT (C : Int))).drop (rowsN C) = [] from List.drop_of_length_le (by omega))
          have HOK := Lib.hid (fun (k : Nat) (h : k < rowsN C) => rowOf_valid (t := zeroT (C : Int)) (r := k) (by rw [hlz]; omega) (by rw [hlz]; exact h) (zero_valid C))
          have HRW := Lib.hid (rrows_any C (by omega))
          have hpo := puts_ok (l := rowsL (zeroT (C : Int))) (d := d) (a := 1) hd (by omega) (by omega)
          have hpn := puts_nonneg (l := rowsL (zeroT (C : Int))) (d := d) (a := 1)
          rw [hll] at hpo
          have hE3 := HE.out
          rw [if_neg (fun h => by have h1 := HFB.out.1 h; have h2 := HL.out; omega)] at hE3
          have HLZ := Lib.hid hlz
          generalize hrl : rowsL (zeroT (C : Int)) = RL at *
          generalize hres : d.puts 1 RL = res at *
          have HRES := Lib.hid hres
          have HE4 := Lib.hid hE3
          generalize hN : rowsN C = N at *
          obtain ⟨o1, o2, o3, o4⟩ := hpo
          clear hE3 hlz HE hres hrl HL HFB HND HFH d0
          obtain ⟨c0, f0⟩ := own_cells 2 h7 rfl
          go_wp2_with fail
          clear c0 f0
          go_loopw [8] (putInvL (fun dk => rimgAt bi bd (madeM d C p b) :: rdevAt bd dk :: pts gh (.cells #[.int .i64 C, .int .i64 p, .int .i64 b] 47 (0, 0)) :: R) d 1 RL res w) (fun i _ => N - (intOf i).toNat)
          case atStart => exact ⟨0, d, by omega, rfl, by simpa using HRES.out, hd, by omega, by simp, hx7, h7⟩
          case round =>
            obtain ⟨k, dk, hk, rfl, hput, okd, hpk, hwk, hxr, hown⟩ := hrel
            rw [hll] at hk
            obtain ⟨cg, fg⟩ := own_cells 2 (by exact hown) rfl
            by_cases hlt : k < N
            · rw [HGET.out k hlt] at hput
              obtain ⟨z, hz⟩ : ∃ z, rowOf (zeroT (C : Int)) (k : Int) = (z, 0) := ⟨_, Prod.ext rfl (HOK.out k hlt)⟩
              have hsz := rowOf_size (HOK.out k hlt)
              rw [hz] at hput hsz
              dsimp only at hput hsz
              have HZ := Lib.hid hz
              have HPUT := Lib.hid hput
              clear hput hz
              have e1 : IntKind.i64.wrap ((k : Int) + 1) = (k : Int) + 1 := IntWalk.i64_in _ (by omega)
              have e2 : IntKind.i64.wrap (1 + (k : Int)) = 1 + (k : Int) := IntWalk.i64_in _ (by omega)
              have hkN : (k : Int) < (N : Int) := by omega
              have HW := Lib.hid (fun (R : List SL.HP) (w : World) (H : own w (rdevAt bd dk :: R)) => rdev_write bd dk okd (1 + (k : Int)) z (by omega) (by omega) (by omega) R w H)
              have hcode := write_nonneg dk (1 + (k : Int)) z
              obtain ⟨l1, l2, l3⟩ := write_lens dk (1 + (k : Int)) z
              have okw := DevM.write_ok okd (1 + (k : Int)) z (by omega) (by omega)
              have hstep : dk.puts (1 + (k : Int)) (z :: RL.drop (k + 1)) = if (dk.write (1 + (k : Int)) z).1 ≠ 0 then dk.write (1 + (k : Int)) z else (dk.write (1 + (k : Int)) z).2.puts (1 + (k : Int) + 1) (RL.drop (k + 1)) := rfl
              rw [HPUT.out] at hstep
              have HSTP := Lib.hid hstep
              clear hstep l1
              generalize dk.write (1 + (k : Int)) z = r at *
              clear HGET HOK
              obtain ⟨vt, vh, h⟩ := rimg_open hown
              obtain ⟨cc, ff⟩ := own_cells 0 h rfl
              go_wp2_with fail
              refine (HRW.out wr).mono ?_
              rintro e w' ⟨rfl, rfl⟩
              go_wp2_with fail
              refine (rrowof_any vt (zeroT (C : Int)) (k : Int) (by have := HLZ.out; omega) _ wr (fun w' L H => ents_row (L.length + 1) (l := zeroT (C : Int)) H (at_behind (l := L) rfl)) h).mono ?_
              rw [HZ.out]
              rintro e w4 ⟨rfl, hx4, h4⟩
              clear cc ff cg fg
              go_wp2_with fail
              refine (HW.out _ w4 (own_pick 3 h4 rfl)).mono ?_
              rintro e w5 ⟨rfl, hx5', h5'⟩
              have h5 := rimg_close (m := madeM d C p b) (own_put h4 3 rfl h5')
              have hx5 := (hxr.trans hx4).trans hx5'
              clear hx5' hx4 hown hxr h h4 h5'
              by_cases hz : r.1 = 0
              · have HZ0 := Lib.hid hz
                have t0 : decide (0 < r.1) = false := decide_eq_false (by omega)
                clear hz
                go_wp2_with fail
                go_roundw
                case rel => exact ⟨k + 1, r.2, by rw [hll]; omega, by go_num, by have := HSTP.out; rw [if_neg (by simpa using HZ0.out)] at this; rw [this]; congr 1 <;> omega, okw, by omega, by omega, hx5, h5⟩
                case measure => simp [intOf]; omega
              · have hfin : res = r := by have := HSTP.out; rw [if_pos hz] at this; exact this
                have hS2 : S = (r.1, madeM r.2 C p b) := by rw [HE4.out, hfin, if_pos hz]
                have HF := Lib.hid hS2
                have t0 : decide (0 < r.1) = true := decide_eq_true (by omega)
                have hpz : 0 < r.1 := by omega
                clear hz hfin hS2
                go_wp2_with fail
                go_ret2
                rw [HF.out]
                exact .inl ⟨by dsimp only; omega, rfl, hx5, own_erase 1 (own_erase 0 h5 rfl) rfl⟩
            · obtain rfl : N = k := by omega
              rw [HEND.out, DevM.puts] at hput
              have hr0 : res.1 = 0 := by rw [← hput]
              have hr2 : res.2 = dk := by rw [← hput]
              have hS2 := HE4.out
              rw [if_neg (by simpa using hr0), hr2] at hS2
              have HF := Lib.hid hS2
              clear hput hlt hS2 hr0 hr2
              have HFL := Lib.hid (fun (R : List SL.HP) (w : World) (H : own w (rdevAt bd dk :: R)) => rdev_flush bd dk okd R w H)
              have okf := DevM.flush_ok okd
              have hpl : dk.flush.pend.length = 0 := rfl
              have hwl : dk.flush.writes = dk.writes := rfl
              have hhs : (headS C p b).size = 16 := seal_size (by simp)
              have HWR := Lib.hid (fun (R : List SL.HP) (w : World) (H : own w (rdevAt bd dk.flush :: R)) => rdev_write bd dk.flush okf 0 (headS C p b) (by omega) (by omega) (by omega) R w H)
              have hcode := write_nonneg dk.flush 0 (headS C p b)
              have okw := DevM.write_ok okf 0 (headS C p b) (by omega) (by omega)
              generalize dk.flush = df at *
              have HHD := Lib.hid (fun (R : List SL.HP) (w : World) (H : own w R) => headsector_any C p b HB.out R w H)
              unfold headV at HHD
              generalize headS C p b = hs at *
              generalize df.write 0 hs = r at *
              clear HGET HOK
              go_wp2_with fail
              refine (HRW.out wr).mono ?_
              rintro e w' ⟨rfl, rfl⟩
              go_wp2_with fail
              refine (HFL.out _ wr (own_pick 1 hown rfl)).mono ?_
              rintro e w5 ⟨rfl, hx5, h5'⟩
              have h5 := own_put hown 1 rfl h5'
              clear cg fg
              obtain ⟨cc, ff⟩ := own_cells 2 h5 rfl
              go_wp2_with fail
              refine (HHD.out _ w5 h5).mono ?_
              rintro e w6 ⟨rfl, hx6, h6⟩
              clear cc ff
              go_wp2_with fail
              refine (HWR.out _ w6 (own_pick 1 h6 rfl)).mono ?_
              rintro e w7 ⟨rfl, hx7', h7'⟩
              have h7 := own_put h6 1 rfl h7'
              have hx7f := ((hxr.trans hx5).trans hx6).trans hx7'
              by_cases hz : r.1 = 0
              · have hS2 := HF.out
                rw [if_neg (by simpa using hz)] at hS2
                have HS2 := Lib.hid hS2
                have t0 : decide (0 < r.1) = false := decide_eq_false (by omega)
                have HFL2 := Lib.hid (fun (R : List SL.HP) (w : World) (H : own w (rdevAt bd r.2 :: R)) => rdev_flush bd r.2 okw R w H)
                clear hz hS2
                go_wp2_with fail
                refine (HFL2.out _ w7 (own_pick 1 h7 rfl)).mono ?_
                rintro e w8 ⟨rfl, hx8, h8'⟩
                have h8 := own_put h7 1 rfl h8'
                go_wp2_with fail
                go_ret2
                rw [HS2.out]
                exact .inr ⟨rfl, bi, rfl, hx7f.trans hx8, own_erase 2 h8 rfl⟩
              · have hS2 := HF.out
                rw [if_pos hz] at hS2
                have HS2 := Lib.hid hS2
                have t0 : decide (0 < r.1) = true := decide_eq_true (by omega)
                clear hz hS2
                go_wp2_with fail
                go_ret2
                rw [HS2.out]
                exact .inl ⟨by dsimp only; have := of_decide_eq_true t0; omega, rfl, hx7f, own_erase 1 (own_erase 0 h7 rfl) rfl⟩
end Go.Proofs.YtbpblokfiajpjabGreat

namespace Go.Proofs.YtbpblokfiajpjabGreat
open Go.RowKit Go.SL Go.Crc
attribute [local go_sem ↓] Go.wp_at_zero Go.wp_at_succ

theorem own_swap2 {w : World} (l m : List SL.HP) {R : List SL.HP} (H : own w (l ++ (m ++ R))) : own w (m ++ (l ++ R)) := own_mono (fun _ => star_perm (List.perm_append_comm_assoc l m R)) H
theorem own_perm {w : World} {l m : List SL.HP} (p : l.Perm m) (H : own w l) : own w m := own_mono (fun _ => star_perm p) H
theorem files_cell {w : World} {lb off n cap : Nat} {l : List FileM} (h : FilesAt w (.slice (some ⟨lb, off, none⟩) n cap) l) {i : Nat} (hi : i < l.length) : FileCells w lb (off + i * 5) (l.getD i fileNone) := by
  obtain ⟨ao, lb', off', cap', hv, h1, h2, h3, h4⟩ := h.form
  simp only [Value.slice.injEq] at hv
  have h5 := h3 (by omega)
  rw [← hv.1] at h5
  simp only [Option.some.injEq, Addr.mk.injEq, and_true] at h5
  obtain ⟨rfl, rfl⟩ := h5
  exact h4 i hi
theorem created_code (d : DevM) (c p b : Int) : 0 ≤ (createR d c p b).1 := by
  unfold createR
  split
  · simp
  · split
    · exact puts_nonneg
    · split
      · exact write_nonneg _ _ _
      · simp
theorem files_more {R : List SL.HP} {v : Value} {l : List FileM} (hv : ∀ w' L, own w' (L ++ R) → FilesAt w' v l) (X : List SL.HP) : ∀ w' L, own w' (L ++ (X ++ R)) → FilesAt w' v l := fun w' L h => hv w' (L ++ X) (by rwa [List.append_assoc])

def LaidPost (F : ShM) (R : List SL.HP) (w : World) (e : Ending) (w' : World) : Prop :=
  ∃ bs br A A2, e = .returned (.tuple #[.pointer (some ⟨bs, 0, none⟩), .pointer (some ⟨br, 0, none⟩), .bool true]) ∧ Ext w w' ∧ own w' (shL bs A F ++ (rshL br A2 F ++ R))

set_option maxRecDepth 100000 in
set_option maxHeartbeats 16000000 in
theorem laid_any (v : Value) (l : List FileM) (hl5 : l.length ≤ 5) (hI : ∀ f ∈ l, f.is.length ≤ 40) (R : List SL.HP) (w : World) (hv : ∀ w' L, own w' (L ++ R) → FilesAt w' v l) (H : own w R) :
    Calls Tryz.prog 7 #[v] w (LaidPost (laidM l) R w) := by
  obtain ⟨ao, lb, off, cap, rfl, hlc, hcap, hao, -⟩ := (hv w [] H).form
  have HV := Lib.hid hv
  have HAO := Lib.hid hao
  have HI := Lib.hid hI
  clear hv hao hI
  have h1 := sh_new (fun _ => (0, 0, 0)) H
  have hx1 := (Ext.refl w).alloc (.cells #[.pointer none, .pointer none, .pointer none, .pointer none, .pointer none] 55)
  go_enter Tryz.func7, Tryz.ntmps7
  go_upto_region 2 with (fail)
  generalize w.heap.size = bs at *
  generalize w.alloc (.cells #[.pointer none, .pointer none, .pointer none, .pointer none, .pointer none] 55) = w1 at *
  have h2 := rsh_new (fun _ => (0, 0)) h1
  have hx2 := hx1.alloc (.cells #[.pointer none, .pointer none, .pointer none, .pointer none, .pointer none] 58)
  go_upto_region 3 with (fail)
  generalize w1.heap.size = br at *
  generalize w1.alloc (.cells #[.pointer none, .pointer none, .pointer none, .pointer none, .pointer none] 58) = w2 at *
  have h3 := own_swap2 (rshL br (fun _ => (0, 0)) fun _ => none) (shL bs (fun _ => (0, 0, 0)) fun _ => none) h2
  rw [← laidTo_zero l] at h3
  clear h1 hx1 h2 H
  go_wp2_with fail
  go_loopw [7] (fun kv wr => ∃ (q : Nat) (A : Nat → Nat × Nat × Nat) (A2 : Nat → Nat × Nat), q ≤ l.length ∧ kv = .int .i64 q ∧ Ext w wr ∧ own wr (shL bs A (laidTo l q) ++ (rshL br A2 (laidTo l q) ++ R))) (fun kv _ => 6 - (intOf kv).toNat)
  case atStart => exact ⟨0, _, _, by omega, rfl, hx2, h3⟩
  case round =>
    clear h3 hx2
    obtain ⟨q, A, A2, hq, rfl, hxr, hown⟩ := hrel
    by_cases hlt : q < l.length
    · obtain rfl := HAO.out (by omega)
      have hq5 : q < 5 := by omega
      have g1 : (q : Int) < 5 := by omega
      have g2 : (q : Int) < (l.length : Int) := by omega
      have g3 : (0 : Int) ≤ (q : Int) := by omega
      obtain ⟨c0, c1, c2, c3, c4⟩ := files_cell (HV.out wr (shL bs A (laidTo l q) ++ rshL br A2 (laidTo l q)) (by rwa [List.append_assoc])) hlt
      have hmem := file_getD hlt
      have hfile : fileI (l.getD q fileNone) = if (l.getD q fileNone).there = true then (if (createR (newDev 170) (l.getD q fileNone).c (l.getD q fileNone).p (l.getD q fileNone).b).1 = 0 then some (fillIs (createR (newDev 170) (l.getD q fileNone).c (l.getD q fileNone).p (l.getD q fileNone).b).2 0 (l.getD q fileNone).is) else none) else none := rfl
      cases hth : (l.getD q fileNone).there
      · rw [hth, if_neg (by decide)] at hfile
        rw [hth] at c0
        have HN := Lib.hid (laidTo_none hfile)
        clear hfile hth c1 c2 c3 c4 hmem
        go_wp2_with fail
        go_roundw
        case rel => exact ⟨q + 1, A, A2, by omega, by go_num, hxr, by rw [← HN.out]; exact hown⟩
        case measure => simp [intOf]; omega
      · rw [hth, if_pos rfl] at hfile
        rw [hth] at c0
        have hcn := created_code (newDev 170) (l.getD q fileNone).c (l.getD q fileNone).p (l.getD q fileNone).b
        have hcr := created_ok (c := (l.getD q fileNone).c) (p := (l.getD q fileNone).p) (b := (l.getD q fileNone).b) new170 (by show (0 : Nat) < 999000; omega) (by show (0 : Int) < 999000; omega)
        have HC1 := Lib.hid (fun (bd : Nat) (R : List SL.HP) (w : World) (H : own w (devAt bd (newDev 170) :: R)) => create_any bd (newDev 170) new170 (by show (0 : Nat) < 999000; omega) (by show (0 : Int) < 999000; omega) (l.getD q fileNone).c (l.getD q fileNone).p (l.getD q fileNone).b R w H)
        have HC2 := Lib.hid (fun (bd : Nat) (R : List SL.HP) (w : World) (H : own w (rdevAt bd (newDev 170) :: R)) => created_any bd (newDev 170) new170 (by show (0 : Nat) < 999000; omega) (by show (0 : Int) < 999000; omega) (l.getD q fileNone).c (l.getD q fileNone).p (l.getD q fileNone).b R w H)
        unfold headV at HC1 HC2
        have HCR := Lib.hid hcr
        have HFI := Lib.hid hfile
        have HIS := Lib.hid (HI.out _ hmem)
        clear hcr hfile hth hmem
        generalize createR (newDev 170) (l.getD q fileNone).c (l.getD q fileNone).p (l.getD q fileNone).b = S at *
        obtain ⟨fc, m⟩ := S
        dsimp only at hcn HCR HFI
        have hdn := dev_new_yes 170
        have hrn := rdev_new 170
        have HFC := Lib.hid (fun (w' : World) (L : List SL.HP) (H : own w' (L ++ R)) => files_cell (HV.out w' L H) hlt)
        generalize hff : l.getD q fileNone = f at *
        have HFF := Lib.hid hff
        clear hff
        go_wp2_with fail
        refine (hdn _ wr rfl hown).mono ?_
        rintro e w3 ⟨bd, rfl, hx3, h3⟩
        clear c0 c1 c2 c3 c4
        have HCC := Lib.hid (fun (w' : World) (L : List SL.HP) (H : own w' (L ++ R)) => show w'.cell? ⟨lb, off + q * 5 + 1, none⟩ = some (.int .i64 f.c) ∧ w'.cell? ⟨lb, off + q * 5 + 2, none⟩ = some (.int .i64 f.p) ∧ w'.cell? ⟨lb, off + q * 5 + 3, none⟩ = some (.int .i64 f.b) from (let ⟨_, a, b, c, _⟩ := HFC.out w' L H; ⟨a, b, c⟩))
        have HC4 := Lib.hid (fun (w' : World) (L : List SL.HP) (H : own w' (L ++ R)) => show w'.cell? ⟨lb, off + q * 5 + 4, none⟩ = some f.iv from (let ⟨_, _, _, _, c⟩ := HFC.out w' L H; c))
        have HFO := Lib.hid (fun (w' : World) (L : List SL.HP) (H : own w' (L ++ R)) => show FileOk w' f from (HV.out w' L H).2 f (by rw [← HFF.out]; exact file_getD hlt))
        obtain ⟨c1, c2, c3⟩ := HCC.out w3 (devAt bd (newDev 170) :: shL bs A (laidTo l q) ++ rshL br A2 (laidTo l q)) h3
        by_cases hf : fc = 0
        · subst hf
          rw [if_pos rfl] at HFI
          obtain ⟨hm, -, -, -⟩ := HCR.out.2.2.2.2 rfl
          have hwr := HCR.out.2.2.2.1
          have hpl := HCR.out.2.2.1
          rw [show (newDev 170).writes = 0 from rfl] at hwr
          rw [show (newDev 170).pend.length = 0 from rfl] at hpl
          have HM := Lib.hid hm
          have HC1s := Lib.hid (fun (bd : Nat) (R : List SL.HP) (w : World) (H : own w (devAt bd (newDev 170) :: R)) => (HC1.out bd R w H).mono fun e w' h => (h.resolve_left fun h => h.1 rfl).2)
          have HC2s := Lib.hid (fun (bd : Nat) (R : List SL.HP) (w : World) (H : own w (rdevAt bd (newDev 170) :: R)) => (HC2.out bd R w H).mono fun e w' h => (h.resolve_left fun h => h.1 rfl).2)
          clear HC1 HC2 HCR hm hcn
          dsimp only at HC1s HC2s
          go_wp2_with fail
          refine (HC1s.out bd _ w3 h3).mono ?_
          rintro e w4 ⟨b1, bh, rfl, hx4, h4⟩
          have hx4' := (hxr.trans hx3).trans hx4
          clear c1 c2 c3 hxr hx3 hx4 h3 hown
          go_upto_region 11 with (fail)
          have hz := own_drew h4
          have hxz := hx4'.drew
          clear h4 hx4'
          go_region_held3 (fun w' => w'.cell? ⟨lb, off + q * 5 + 1, none⟩ = some (.int .i64 f.c) ∧ w'.cell? ⟨lb, off + q * 5 + 2, none⟩ = some (.int .i64 f.p) ∧ w'.cell? ⟨lb, off + q * 5 + 3, none⟩ = some (.int .i64 f.b)) (first | exact HCC.out _ (imgAt b1 bd bh m :: devAt bd m.d :: shL bs A (laidTo l q) ++ rshL br A2 (laidTo l q)) hz | exact HCC.out _ (rdevAt bd2 (newDev 170) :: imgAt b1 bd bh m :: devAt bd m.d :: shL bs A (laidTo l q) ++ rshL br A2 (laidTo l q)) h5 | exact HCC.out _ (rimgAt b2 bd2 m :: rdevAt bd2 m.d :: imgAt b1 bd bh m :: devAt bd m.d :: shL bs A (laidTo l q) ++ rshL br A2 (laidTo l q)) h6) (first | (go_at_call 19; refine (hrn _ _ (by omega) hz).mono ?_; rintro e w5 ⟨bd2, rfl, hx5, h5⟩) | (go_at_call 18; refine (HC2s.out bd2 _ _ h5).mono ?_; rintro e w6 ⟨b2, rfl, hx6, h6⟩))
          all_goals
            have hx7 := (hxz.trans hx5).trans hx6
            clear hz hxz hx5 h5 hx6
            go_wp2_with fail
            refine (same_any 0 0 w6 (by omega)).mono ?_
            rintro e w8 ⟨rfl, rfl⟩
            go_wp2_with fail
            go_loopw [13] (fun cv wr => ∃ (c : Nat) (mc : ImgM), c ≤ f.is.length ∧ cv = .int .i64 c ∧ Step (5 * c) m mc ∧ fillIs mc c (f.is.drop c) = fillIs m 0 f.is ∧ Ext w wr ∧ own wr (rimgAt b2 bd2 mc :: rdevAt bd2 mc.d :: imgAt b1 bd bh mc :: devAt bd mc.d :: (shL bs A (laidTo l q) ++ (rshL br A2 (laidTo l q) ++ R)))) (fun cv _ => f.is.length - (intOf cv).toNat)
            case atStart => exact ⟨0, m, by omega, rfl, Step.refl HM.out _, rfl, hx7, h6⟩
            case round =>
              clear hx7 h6
              obtain ⟨c, mc, hc, rfl, hst, hgo, hxr, hown⟩ := hrel
              have hok := HFO.out wr (rimgAt b2 bd2 mc :: rdevAt bd2 mc.d :: imgAt b1 bd bh mc :: devAt bd mc.d :: shL bs A (laidTo l q) ++ rshL br A2 (laidTo l q)) hown
              have c4 := HC4.out wr (rimgAt b2 bd2 mc :: rdevAt bd2 mc.d :: imgAt b1 bd bh mc :: devAt bd mc.d :: shL bs A (laidTo l q) ++ rshL br A2 (laidTo l q)) hown
              obtain ⟨iao, ilb, ioff, icap, hiv, -, -, hiao, hiat⟩ := hok.is.form
              rw [hiv] at c4
              have hil := HIS.out
              by_cases hlc2 : c < f.is.length
              · obtain rfl := hiao (by omega)
                have d1 := hiat c hlc2
                have w1 : (c : Int) < (f.is.length : Int) := by omega
                have w2 : (0 : Int) ≤ (c : Int) := by omega
                rw [drop_getD 0 hlc2, fillIs] at hgo
                have hsw := hst.wr
                have hsp := hst.pend
                have hsok := hst.ok
                have hst2 := hst.trans (step_clusOne hst.ok (by omega) (by omega) c (f.is.getD c 0))
                have h40 := held_le40 hst.ok
                have hone : clusOne mc c (f.is.getD c 0) = if f.is.getD c 0 = 1 then (mc.clear (c : Int)).2 else if 1 < f.is.getD c 0 then (mc.fill (c : Int) (clusS (f.is.getD c 0))).2 else mc := rfl
                have hb := hok.all (f.is.getD c 0) (by simp [hlc2])
                have HST := Lib.hid hst2
                have HGO := Lib.hid hgo
                have HON := Lib.hid hone
                have HSO := Lib.hid hsok
                clear hst hst2 hgo hone hok hiat hiao hiv hsok
                generalize f.is.getD c 0 = x at *
                by_cases x1 : x = 1
                · subst x1
                  rw [if_pos rfl] at HON
                  have HA1 := Lib.hid (fun (R : List SL.HP) (w : World) (H : own w (imgAt b1 bd bh mc :: devAt bd mc.d :: R)) => clear_any b1 bd bh mc HSO.out (by omega) (by omega) (c : Int) R w H)
                  have HA2 := Lib.hid (fun (R : List SL.HP) (w : World) (H : own w (rimgAt b2 bd2 mc :: rdevAt bd2 mc.d :: R)) => rclear_any b2 bd2 mc HSO.out (by omega) (by omega) (by omega) (c : Int) R w H)
                  rw [← HON.out] at HA1 HA2
                  have hx0 : clusOne mc c 1 = (mc.clear (c : Int)).2 := HON.out
                  clear HON
                  go_wp2_with fail
                  refine (HA1.out _ wr (own_pick 3 (own_pick 3 hown rfl) rfl)).mono ?_
                  rintro e w4 ⟨rfl, hx4, h4⟩
                  go_wp2_with fail
                  refine (HA2.out _ w4 (own_pick 3 (own_pick 3 h4 rfl) rfl)).mono ?_
                  rintro e w5 ⟨rfl, hx5, h5⟩
                  have HX0 := Lib.hid hx0
                  clear hx0
                  go_wp2_with fail
                  go_roundw
                  case rel => exact ⟨c + 1, clusOne mc c 1, by omega, by go_num, HST.out.mono (by omega), HGO.out, (hxr.trans hx4).trans hx5, h5⟩
                  case measure => simp [intOf]; omega
                · rw [if_neg x1] at HON
                  have tx : (x == 1) = false := beq_eq_false_iff_ne.2 x1
                  by_cases x2 : 1 < x
                  · rw [if_pos x2] at HON
                    have hcs : (clusS x).size ≤ 9223372036854775807 := by rw [clusS_size]; omega
                    have HA1 := Lib.hid (fun (R : List SL.HP) (w : World) (H : own w (imgAt b1 bd bh mc :: devAt bd mc.d :: R)) => fill_any b1 bd bh mc HSO.out (by omega) (by omega) (c : Int) (clusS x) hcs R w H)
                    have HA2 := Lib.hid (fun (R : List SL.HP) (w : World) (H : own w (rimgAt b2 bd2 mc :: rdevAt bd2 mc.d :: R)) => rfill_any b2 bd2 mc HSO.out (by omega) (by omega) (by omega) (c : Int) (clusS x) hcs R w H)
                    rw [← HON.out] at HA1 HA2
                    have HCL := Lib.hid (fun (R : List SL.HP) (w : World) (H : own w R) => cluster_any x R w H)
                    clear HON hcs
                    generalize clusS x = cs at *
                    go_wp2_with fail
                    refine (HCL.out _ wr hown).mono ?_
                    rintro e w3 ⟨rfl, hx3, h3⟩
                    go_wp2_with fail
                    refine (HA1.out _ w3 (own_pick 3 (own_pick 3 h3 rfl) rfl)).mono ?_
                    rintro e w4 ⟨rfl, hx4, h4⟩
                    go_wp2_with fail
                    refine (HA2.out _ w4 (own_pick 3 (own_pick 3 h4 rfl) rfl)).mono ?_
                    rintro e w5 ⟨rfl, hx5, h5⟩
                    go_wp2_with fail
                    go_roundw
                    case rel => exact ⟨c + 1, clusOne mc c x, by omega, by go_num, HST.out.mono (by omega), HGO.out, ((hxr.trans hx3).trans hx4).trans hx5, h5⟩
                    case measure => simp [intOf]; omega
                  · rw [if_neg x2] at HON
                    have hx0 : clusOne mc c x = mc := HON.out
                    have HX0 := Lib.hid hx0
                    clear HON hx0
                    go_wp2_with fail
                    go_roundw
                    case rel => exact ⟨c + 1, clusOne mc c x, by omega, by go_num, HST.out.mono (by omega), HGO.out, hxr, by rw [HX0.out]; exact hown⟩
                    case measure => simp [intOf]; omega
              · have hce : f.is.length = c := by omega
                have hs5 := own_behind (imgAt b1 bd bh mc :: devAt bd mc.d :: shL bs A (laidTo l q)) (own_behind (rdevAt bd2 mc.d :: imgAt b1 bd bh mc :: devAt bd mc.d :: shL bs A (laidTo l q)) hown)
                have hs6 := sh_lay hq5 (laidTo_at l q) hs5
                have hs7 := own_pick 1 (own_pick 7 (own_pick 7 hs6 rfl) rfl) rfl
                have hs8 := own_perm (((List.perm_append_comm_assoc (shL bs (setA A q (b1, bd, bh)) (put (laidTo l q) q mc)) (rshL br A2 (laidTo l q)) R).cons _).cons _) hs7
                have hs9 := rsh_lay hq5 (laidTo_at l q) hs8
                have hs10 := own_swap2 (rshL br (setA A2 q (b2, bd2)) (put (laidTo l q) q mc)) (shL bs (setA A q (b1, bd, bh)) (put (laidTo l q) q mc)) hs9
                rw [laidTo_some (by rw [HFF.out, HFI.out, ← hgo, List.drop_of_length_le (by omega), fillIs])] at hs10
                have f1 := (own_cells 4 hown rfl).2 q
                have f2 := (own_cells 10 hown rfl).2 q
                have y1 := sh_cell (R := rdevAt bd2 mc.d :: rimgAt b2 bd2 mc :: (rshL br A2 (laidTo l q) ++ R)) (own_drop (own_drop hs5)) hq5
                rw [slotV_none (laidTo_at l q)] at y1
                have y2 := rsh_cell (own_drop (own_drop hs8)) hq5
                rw [rslotV_none (laidTo_at l q)] at y2
                have HS10 := Lib.hid hs10
                clear hs5 hs6 hs7 hs8 hs9 hs10 hst hgo hok hiat hiao hiv
                go_wp2_with fail
                go_roundw
                case rel => exact ⟨q + 1, _, _, by omega, by go_num, (hxr.setCell _ _).setCell _ _, HS10.out⟩
                case measure => simp [intOf]; omega
        · rw [if_neg hf] at HFI
          have HC1f := Lib.hid (fun (bd : Nat) (R : List SL.HP) (w : World) (H : own w (devAt bd (newDev 170) :: R)) => (HC1.out bd R w H).mono fun e w' h => (h.resolve_right fun h => hf h.1).2)
          have HC2f := Lib.hid (fun (bd : Nat) (R : List SL.HP) (w : World) (H : own w (rdevAt bd (newDev 170) :: R)) => (HC2.out bd R w H).mono fun e w' h => (h.resolve_right fun h => hf h.1).2)
          have hfp : 0 < fc := by omega
          dsimp only at HC1f HC2f
          rw [errV_pos hfp] at HC1f
          have HSM := Lib.hid (fun (w : World) => (same_err fc fc w).mono fun e w' h => show e = .returned (.bool true) ∧ w = w' from ⟨by rw [h.1, decide_eq_true hfp]; simp, h.2⟩)
          clear HC1 HC2 HCR hcn hf
          go_wp2_with fail
          refine (HC1f.out bd _ w3 h3).mono ?_
          rintro e w4 ⟨rfl, hx4, h4⟩
          have hx4' := (hxr.trans hx3).trans hx4
          clear c1 c2 c3 hxr hx3 hx4 h3 hown
          go_upto_region 11 with (fail)
          have hz := own_drew h4
          have hxz := hx4'.drew
          clear h4 hx4'
          go_region_held3 (fun w' => w'.cell? ⟨lb, off + q * 5 + 1, none⟩ = some (.int .i64 f.c) ∧ w'.cell? ⟨lb, off + q * 5 + 2, none⟩ = some (.int .i64 f.p) ∧ w'.cell? ⟨lb, off + q * 5 + 3, none⟩ = some (.int .i64 f.b)) (first | exact HCC.out _ (devAt bd m.d :: shL bs A (laidTo l q) ++ rshL br A2 (laidTo l q)) hz | exact HCC.out _ (rdevAt bd2 (newDev 170) :: devAt bd m.d :: shL bs A (laidTo l q) ++ rshL br A2 (laidTo l q)) h5 | exact HCC.out _ (rdevAt bd2 m.d :: devAt bd m.d :: shL bs A (laidTo l q) ++ rshL br A2 (laidTo l q)) h6) (first | (go_at_call 19; refine (hrn _ _ (by omega) hz).mono ?_; rintro e w5 ⟨bd2, rfl, hx5, h5⟩) | (go_at_call 18; refine (HC2f.out bd2 _ _ h5).mono ?_; rintro e w6 ⟨rfl, hx6, h6⟩))
          all_goals
            have hx7 := (hxz.trans hx5).trans hx6
            have h7 := own_drop (own_drop h6)
            clear hz hxz hx5 h5 hx6 h6
            go_wp2_with fail
            refine (HSM.out w6).mono ?_
            rintro e w8 ⟨rfl, rfl⟩
            go_wp2_with fail
            go_loopw [13] (fun cv wr => cv = .int .i64 0 ∧ Ext w wr ∧ own wr (shL bs A (laidTo l q) ++ (rshL br A2 (laidTo l q) ++ R))) (fun _ _ => 0)
            case atStart => exact ⟨rfl, hx7, h7⟩
            case round =>
              clear hx7 h7
              obtain ⟨rfl, hxr, hown⟩ := hrel
              have hs8 := own_swap2 (shL bs A (laidTo l q)) (rshL br A2 (laidTo l q)) (sh_lay_nil hq5 (laidTo_at l q) hown)
              have hs10 := own_swap2 (rshL br A2 (laidTo l q)) (shL bs A (laidTo l q)) (rsh_lay_nil hq5 (laidTo_at l q) hs8)
              have f1 := (own_cells 0 hown rfl).2 q
              have f2 := (own_cells 6 hown rfl).2 q
              have y1 := sh_cell hown hq5
              rw [slotV_none (laidTo_at l q)] at y1
              have y2 := rsh_cell hs8 hq5
              rw [rslotV_none (laidTo_at l q)] at y2
              have hln : laidTo l q = laidTo l (q + 1) := laidTo_none (by rw [HFF.out, HFI.out])
              have HLN := Lib.hid hln
              have HS10 := Lib.hid hs10
              clear hs8 hs10 hln
              go_wp2_with fail
              go_roundw
              case rel => exact ⟨q + 1, A, A2, by omega, by go_num, (hxr.setCell _ _).setCell _ _, by rw [← HLN.out]; exact HS10.out⟩
              case measure => simp [intOf]; omega
    · obtain rfl : q = l.length := by omega
      have g1 : ¬ (l.length : Int) < (l.length : Int) := by omega
      go_wp2_with fail
      go_ret3
      exact ⟨bs, br, A, A2, rfl, hxr, hown⟩
end Go.Proofs.YtbpblokfiajpjabGreat
