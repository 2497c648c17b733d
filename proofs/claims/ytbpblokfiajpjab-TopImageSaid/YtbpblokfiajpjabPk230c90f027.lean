/- TopImage: what is shown of an image, and whether it may be; its loop over the acts, act by act. No conditions. -/
import Derived.Test.YtbpblokfiajpjabPk561b4d1bc2
import Derived.Test.YtbpblokfiajpjabProg
namespace Go.Proofs.Ytbpblokfiajpjab
open Go.RowKit Go.SL Go.Crc
attribute [local go_sem ↓] Go.wp_at_zero Go.wp_at_succ

theorem tmod4' (n : Nat) : ((n : Int)).tmod 4 = ((n % 4 : Nat) : Int) := by
  rw [Int.tmod_eq_emod_of_nonneg (by omega)]; omega

set_option maxRecDepth 100000 in
set_option maxHeartbeats 2000000 in
theorem shown_any (b bd bh : Nat) (m : ImgM) (hm : m.Ok) (k : Nat) (hk : k < 4 * m.t.length) (R : List SL.HP) (w : World) (H : own w (imgAt b bd bh m :: devAt bd m.d :: R)) :
    Calls Try.prog 11 #[.pointer (some ⟨b, 0, none⟩), .int .i64 k] w fun e w' => e = .returned (.string (m.shown k)) ∧ Ext w w' ∧ own w' (imgAt b bd bh m :: devAt bd m.d :: R) := by
  have hrd := fun (R : List SL.HP) (w : World) (H : own w (imgAt b bd bh m :: devAt bd m.d :: R)) => read_any b bd bh m hm ((k / 4 : Nat) : Int) R w H
  have hsh := shown_read hm hk
  obtain ⟨C, hC, q1, q2, q3, q4, -⟩ := hm.nat
  have hk3 : k ≤ 1000 := by omega
  have e4 : (k : Int) / 4 = ((k / 4 : Nat) : Int) := by omega
  have hnn := read_nonneg m ((k / 4 : Nat) : Int)
  have HRD := Lib.hid hrd
  have HE4 := Lib.hid e4
  clear hrd e4 hC q1 q2 q3 q4
  generalize m.read ((k / 4 : Nat) : Int) = rd at *
  generalize m.shown k = S at *
  obtain ⟨rs, rf⟩ := rd
  dsimp only at HRD hsh hnn
  rcases hsh with ⟨h1, rfl⟩ | ⟨rfl, h1, rfl⟩
  · have HPE := Lib.hid (errV_pos (e := rf) (by omega))
    rw [HPE.out] at HRD
    clear h1
    go_enter Try.func11, Try.ntmps11
    go_wp2_with fail
    rw [HE4.out]
    refine (HRD.out _ w H).mono ?_
    rintro e w2 ⟨rfl, hx2, h2⟩
    go_wp2_with fail
    go_ret
    exact ⟨rfl, hx2, h2⟩
  · rw [errV_0] at HRD
    have hk4 : k % 4 < 4 := by omega
    have hrem := tmod4' k
    have b1 : (0 : Int) ≤ 16 * ((k % 4 : Nat) : Int) := by omega
    have b2 : 16 * ((k % 4 : Nat) : Int) ≤ 16 * ((k % 4 : Nat) : Int) + 16 := by omega
    have b3 : 16 * ((k % 4 : Nat) : Int) + 16 ≤ (rs.size : Int) := by omega
    have em : (k : Int) % 4 = ((k % 4 : Nat) : Int) := by omega
    have hsl : ∀ wx : World, (Instr.slice 9 (.string rs) (some (.int .i64 (16 * ((k % 4 : Nat) : Int)))) (some (.int .i64 (16 * ((k % 4 : Nat) : Int) + 16))) none).run Try.prog wx = .ok (.string (rs.extract (16 * (k % 4)) (16 * (k % 4) + 16))) wx := fun wx => by
      have := run_slice_string (P := Try.prog) wx 9 rs .i64 .i64 (16 * ((k % 4 : Nat) : Int)) (16 * ((k % 4 : Nat) : Int) + 16) Try.underlying9 b1 b2 b3
      rw [this, show (16 * ((k % 4 : Nat) : Int)).toNat = 16 * (k % 4) from by omega, show (16 * ((k % 4 : Nat) : Int) + 16).toNat = 16 * (k % 4) + 16 from by omega]
    rw [← em] at hsl
    clear hrem b1 b2 b3 em
    go_enter Try.func11, Try.ntmps11
    go_wp2_with fail
    rw [HE4.out]
    refine (HRD.out _ w H).mono ?_
    rintro e w2 ⟨rfl, hx2, h2⟩
    have d0 : (rs.size : Int) = 64 := by omega
    go_wp2_with fail
    go_ret
    exact ⟨rfl, hx2, h2⟩

set_option maxRecDepth 100000 in
set_option maxHeartbeats 2000000 in
theorem has_any (ao : Option Addr) (g off cap : Nat) (l : List ByteArray) (s : ByteArray) (w : World) (hlen : l.length ≤ 1000000) (hao : 0 < l.length → ao = some ⟨g, off, none⟩) (hat : ∀ i, i < l.length → w.cell? ⟨g, off + i, none⟩ = some (.string (l.getD i ByteArray.empty))) (hs : s ∈ l) :
    Calls Try.prog 14 #[.slice ao l.length cap, .string s] w fun e w' => e = .returned (.bool true) ∧ w = w' := by
  have HAT := Lib.hid hat
  have HAO := Lib.hid hao
  clear hat hao
  go_enter Try.func14, Try.ntmps14
  go_wp2_with fail
  go_loop [5] (fun i => ∃ q : Nat, q ≤ l.length ∧ i = .int .i64 q ∧ s ∉ l.take q) (fun i => l.length - (intOf i).toNat)
  case atStart => exact ⟨0, Nat.zero_le _, rfl, by simp⟩
  case round =>
    obtain ⟨q, hq, rfl, hno⟩ := hrel
    have HNO := Lib.hid hno
    clear hno
    by_cases hlt : q < l.length
    · obtain rfl := HAO.out (by omega)
      have c1 := HAT.out q hlt
      have hto := take_succ_getD ByteArray.empty hlt
      have HT := Lib.hid hto
      clear hto
      generalize l.getD q ByteArray.empty = y at *
      by_cases hy : y = s
      · subst hy
        go_wp2_with fail
        go_ret
        exact ⟨rfl, rfl⟩
      · have t0 : (y.toList == s.toList) = false := by
          rw [beq_eq_false_iff_ne]
          exact fun h => hy (toList_inj h)
        have HY := Lib.hid hy
        clear hy
        go_wp2_with fail
        go_round
        case rel => exact ⟨q + 1, by omega, by go_num, by
          rw [HT.out]
          intro h
          rcases List.mem_append.1 h with h | h
          · exact HNO.out h
          · exact HY.out (List.mem_singleton.1 h).symm⟩
        case measure => simp [intOf]; omega
    · have hq' : q = l.length := by omega
      exact absurd (by rw [hq', List.take_length]; exact hs) HNO.out

/-- the array's cells: q of them set -/
def arr48 (q : Nat) (vs : Nat → Value) : Array Value := ((List.range 48).map fun k => if k < q then vs k else .slice none 0 0).toArray
theorem arr48_get {q : Nat} (vs : Nat → Value) {k : Nat} (h : k < 48) (hq : k < q) : (arr48 q vs)[k]? = some (vs k) := by simp [arr48, h, hq]
theorem arr48_fresh {q : Nat} (vs : Nat → Value) (h : q < 48) : (arr48 q vs)[q]? = some (.slice none 0 0) := by simp [arr48, h]
theorem arr48_succ {q : Nat} (vs : Nat → Value) (v : Value) : (arr48 q vs).setIfInBounds q v = arr48 (q + 1) (upd vs q v) := by
  apply Array.ext
  · simp [arr48]
  · intro j h1 h2
    simp only [arr48, List.setIfInBounds_toArray, List.getElem_toArray, List.getElem_set, List.getElem_map, List.getElem_range]
    by_cases e : q = j
    · subst e; simp [upd]
    · rw [if_neg e]
      have : j ≠ q := fun h => e h.symm
      by_cases hl : j < q
      · rw [if_pos hl, if_pos (by omega), upd_other _ _ this]
      · rw [if_neg hl, if_neg (by omega)]
theorem arr48_set {q : Nat} (vs : Nat → Value) (v : Value) {k : Nat} (h : k < q) : (arr48 q vs).setIfInBounds k v = arr48 q (upd vs k v) := by
  apply Array.ext
  · simp [arr48]
  · intro j h1 h2
    simp only [arr48, List.setIfInBounds_toArray, List.getElem_toArray, List.getElem_set, List.getElem_map, List.getElem_range]
    by_cases e : k = j
    · subst e; simp [upd, h]
    · rw [if_neg e]
      have : j ≠ k := fun h => e h.symm
      rw [upd_other _ _ this]
theorem rowsO_same {n : Nat} (vs : Nat → Value) {hs hs' : Nat → List ByteArray} (h : ∀ k, k < n → hs k = hs' k) : rowsO n vs hs = rowsO n vs hs' :=
  List.map_congr_left fun k hk => by rw [h k (List.mem_range.1 hk)]
theorem rowsO_last {n : Nat} {A R : List HP} (vs : Nat → Value) (hs : Nat → List ByteArray) {P : HP} (h : R[0]? = some P) : (A ++ (rowsO n vs hs ++ R))[A.length + n]? = some P := by
  rw [List.getElem?_append_right (by omega), Nat.add_sub_cancel_left, List.getElem?_append_right (by rw [rowsO_len]; omega), rowsO_len, Nat.sub_self]
  exact h
/-- a row of one text, made anew, in the place of an elder one -/
theorem own_row_one {w : World} {L : List HP} (s : ByteArray) (H : own w L) : own (w.alloc (.cells #[.string s] 9)) (rowo 9 1 (.slice (some ⟨w.heap.size, 0, none⟩) 1 1) [s].length (strCells [s]) :: L) :=
  own_rowo_of 0 (g := w.heap.size) (off := 0) (cap := 1) (n := 1) (sz := 1) (xs := strCells [s]) (own_alloc H (.cells #[.string s] 9)) rfl (Nat.le_refl _) (by simp [maxLen]) rfl rfl
theorem own_swap_row {w : World} {L : List HP} {k : Nat} {P Q : HP} (hk : L[k]? = some P) (H : own w (Q :: L)) : own w (L.set k Q) := by
  have h1 : own w (Q :: L.eraseIdx k) := own_erase (k + 1) H (by simpa using hk)
  exact own_put (own_drop H) k hk h1
def tIn (n b1 bd1 bh bm : Nat) (m : ImgM) (A : HP) (may may' : Nat → List ByteArray) (w0 : World) (i : Value) (wr : World) : Prop :=
  ∃ (k : Nat) (vs : Nat → Value) (hs : Nat → List ByteArray), k ≤ n ∧ i = .int .i64 k ∧ (∀ j, j < k → hs j = may' j) ∧ (∀ j, k ≤ j → j < n → hs j = may j) ∧ Ext w0 wr ∧
    own wr (imgAt b1 bd1 bh m :: devAt bd1 m.d :: A :: pts bm (.cells (arr48 n vs) 37 (0, 0)) :: (rowsO n vs hs ++ [exactly w0]))
noncomputable def jBody : Code := ((Try.f3.body.map loopsOf).getD []).getD 1 .skip
def jRel (w0 : World) (len : Nat) (n : Nat) (b1 : Nat) (bd1 : Nat) (bh : Nat) (bm : Nat) (i : Value) (wr : World) : Prop :=
  ∃ (q : Nat) (m : ImgM) (u : List Ent) (may : Nat → List ByteArray) (vs : Nat → Value), q ≤ len ∧ i = .int .i64 q ∧ Ext w0 wr ∧ m.Ok ∧ Safe m u ∧ m.d.fail < 0 ∧ Cov m may ∧ 4 * m.t.length = n ∧ (∀ j, j < n → (may j).length ≤ q + 1) ∧ m.d.pend.length ≤ 5 * q + 10 ∧ m.d.writes ≤ 5 * q + 10 ∧
    own wr (imgAt b1 bd1 bh m :: devAt bd1 m.d :: pts bm (.cells (arr48 n vs) 37 (0, 0)) :: (rowsO n vs may ++ [exactly w0]))
set_option maxRecDepth 1000000 in
def jWI (w0 : World) (len : Nat) (n : Nat) (b1 : Nat) (bd1 : Nat) (bh : Nat) (bm : Nat) (c0 : Value) (v : Value) (kv : Value) (d : Value) (x : Value) (mm : Value) (a : Go.Act) (w' : World) : Prop :=
  ∃ (T : Nat → Value) (i : Value), jRel w0 len n b1 bd1 bh bm i w' ∧ a = ⟨#[c0, T 1, v, kv, T 4, T 5, T 6, T 7, T 8, d, T 10, x, mm, T 13, i, T 15, T 16, T 17, T 18, T 19, T 20, T 21, T 22, T 23, T 24, T 25, T 26, T 27, T 28, T 29, T 30, T 31, T 32, T 33, T 34, T 35, T 36, T 37, T 38, T 39, T 40, T 41, T 42, T 43, T 44, T 45, T 46, T 47, T 48, T 49, T 50, T 51, T 52, T 53, T 54, T 55, T 56, T 57, T 58, T 59, T 60, T 61, T 62, T 63, T 64, T 65, T 66, T 67, T 68, T 69, T 70, T 71, T 72, T 73, T 74, T 75, T 76, T 77, T 78, T 79, T 80, T 81, T 82, T 83, T 84, T 85, T 86, T 87, T 88, T 89, T 90, T 91, T 92, T 93, T 94, T 95, T 96, T 97, T 98, T 99, T 100, T 101, T 102, T 103, T 104, T 105, T 106, T 107, T 108, T 109, T 110, T 111, T 112, T 113, T 114, T 115, T 116, T 117, T 118, T 119, T 120, T 121, T 122, T 123, T 124, T 125, T 126, T 127, T 128, T 129, T 130, T 131, T 132, T 133, T 134, T 135, T 136, T 137, T 138, T 139, T 140, T 141, T 142, T 143, T 144, T 145, T 146, T 147, T 148, T 149, T 150, T 151, T 152, T 153, T 154, T 155, T 156, T 157, T 158, T 159, T 160, T 161, T 162, T 163, T 164, T 165, T 166, T 167, T 168, T 169], []⟩
def jMu (len : Nat) (a : Go.Act) (_w' : World) : Nat := len - (intOf (a.tmps.getD 14 undef)).toNat
set_option maxRecDepth 1000000 in
theorem jWI_mk {w0 : World} {len : Nat} {n : Nat} {b1 : Nat} {bd1 : Nat} {bh : Nat} {bm : Nat} {c0 : Value} {v : Value} {kv : Value} {d : Value} {x : Value} {mm : Value} {a : Go.Act} {w' : World} (hd : a.defers = []) (hs : a.tmps.size = 170) (h0 : a.tmps.getD 0 undef = c0) (h2 : a.tmps.getD 2 undef = v) (h3 : a.tmps.getD 3 undef = kv) (h9 : a.tmps.getD 9 undef = d) (h11 : a.tmps.getD 11 undef = x) (h12 : a.tmps.getD 12 undef = mm)
    (h : jRel w0 len n b1 bd1 bh bm (a.tmps.getD 14 undef) w') : jWI w0 len n b1 bd1 bh bm c0 v kv d x mm a w' := by
  obtain ⟨t, df⟩ := a
  dsimp only at hd hs h0 h2 h3 h9 h11 h12 h
  subst hd
  have e := frame_is t 170 hs
  obtain ⟨T, hT⟩ : ∃ T : Nat → Value, T = fun k => t.getD k undef := ⟨_, rfl⟩
  rw [← hT] at e
  rw [show t.getD 0 undef = T 0 from by rw [hT]] at h0
  rw [show t.getD 2 undef = T 2 from by rw [hT]] at h2
  rw [show t.getD 3 undef = T 3 from by rw [hT]] at h3
  rw [show t.getD 9 undef = T 9 from by rw [hT]] at h9
  rw [show t.getD 11 undef = T 11 from by rw [hT]] at h11
  rw [show t.getD 12 undef = T 12 from by rw [hT]] at h12
  rw [show t.getD 14 undef = T 14 from by rw [hT]] at h
  refine ⟨T, T 14, h, ?_⟩
  rw [e, ← h0, ← h2, ← h3, ← h9, ← h11, ← h12]
  rfl
set_option maxRecDepth 1000000 in
set_option maxHeartbeats 8000000 in
theorem jRound1 {b off cap c : Nat} {kv : Value} {l : List Act} {w wr : World} (hc1 : 1 ≤ c) (hc12 : c ≤ 12) (hL40 : l.length ≤ 40) (HAT : Hid (∀ i, i < l.length → ActCells w b (off + i * 7) (l.getD i actNone))) (HV : Hid (ActsAt w (.slice (some ⟨b, off, none⟩) l.length cap) l))
    (T : Nat → Value) {q b1 bd1 bh bm : Nat} {m : ImgM} {u : List Ent} {may : Nat → List ByteArray} {vs : Nat → Value} (hlt : q < l.length) (hxr : Ext w wr) (hm : m.Ok) (hsafe : Safe m u) (hfail : m.d.fail < 0) (hcov : Cov m may) (hn : 4 * m.t.length = 4 * c) (hml : ∀ j, j < 4 * c → (may j).length ≤ q + 1) (hpq : m.d.pend.length ≤ 5 * q + 10) (hwq : m.d.writes ≤ 5 * q + 10) (hown : own wr (imgAt b1 bd1 bh m :: devAt bd1 m.d :: pts bm (.cells (arr48 (4 * c) vs) 37 (0, 0)) :: (rowsO (4 * c) vs may ++ [exactly w]))) (Q0 : Exit → Go.Act → World → Prop) (k1 : ((l.getD q actNone).kind.toList == [119, 114, 105, 116, 101]) = true) :
    Code.wp Try.prog jBody (Exit.then (fun a' w'' => jWI w l.length (4 * c) b1 bd1 bh bm (.int .i64 (c : Int)) (.slice (some ⟨b, off, none⟩) l.length cap) kv (.pointer (some ⟨bd1, 0, none⟩)) (.pointer (some ⟨b1, 0, none⟩)) (.pointer (some ⟨bm, 0, none⟩)) a' w'' ∧ jMu l.length a' w'' < jMu l.length ⟨#[.int .i64 (c : Int), T 1, .slice (some ⟨b, off, none⟩) l.length cap, kv, T 4, T 5, T 6, T 7, T 8, .pointer (some ⟨bd1, 0, none⟩), T 10, .pointer (some ⟨b1, 0, none⟩), .pointer (some ⟨bm, 0, none⟩), T 13, .int .i64 (q : Int), T 15, T 16, T 17, T 18, T 19, T 20, T 21, T 22, T 23, T 24, T 25, T 26, T 27, T 28, T 29, T 30, T 31, T 32, T 33, T 34, T 35, T 36, T 37, T 38, T 39, T 40, T 41, T 42, T 43, T 44, T 45, T 46, T 47, T 48, T 49, T 50, T 51, T 52, T 53, T 54, T 55, T 56, T 57, T 58, T 59, T 60, T 61, T 62, T 63, T 64, T 65, T 66, T 67, T 68, T 69, T 70, T 71, T 72, T 73, T 74, T 75, T 76, T 77, T 78, T 79, T 80, T 81, T 82, T 83, T 84, T 85, T 86, T 87, T 88, T 89, T 90, T 91, T 92, T 93, T 94, T 95, T 96, T 97, T 98, T 99, T 100, T 101, T 102, T 103, T 104, T 105, T 106, T 107, T 108, T 109, T 110, T 111, T 112, T 113, T 114, T 115, T 116, T 117, T 118, T 119, T 120, T 121, T 122, T 123, T 124, T 125, T 126, T 127, T 128, T 129, T 130, T 131, T 132, T 133, T 134, T 135, T 136, T 137, T 138, T 139, T 140, T 141, T 142, T 143, T 144, T 145, T 146, T 147, T 148, T 149, T 150, T 151, T 152, T 153, T 154, T 155, T 156, T 157, T 158, T 159, T 160, T 161, T 162, T 163, T 164, T 165, T 166, T 167, T 168, T 169], []⟩ wr) Q0) ⟨#[.int .i64 (c : Int), T 1, .slice (some ⟨b, off, none⟩) l.length cap, kv, T 4, T 5, T 6, T 7, T 8, .pointer (some ⟨bd1, 0, none⟩), T 10, .pointer (some ⟨b1, 0, none⟩), .pointer (some ⟨bm, 0, none⟩), T 13, .int .i64 (q : Int), T 15, T 16, T 17, T 18, T 19, T 20, T 21, T 22, T 23, T 24, T 25, T 26, T 27, T 28, T 29, T 30, T 31, T 32, T 33, T 34, T 35, T 36, T 37, T 38, T 39, T 40, T 41, T 42, T 43, T 44, T 45, T 46, T 47, T 48, T 49, T 50, T 51, T 52, T 53, T 54, T 55, T 56, T 57, T 58, T 59, T 60, T 61, T 62, T 63, T 64, T 65, T 66, T 67, T 68, T 69, T 70, T 71, T 72, T 73, T 74, T 75, T 76, T 77, T 78, T 79, T 80, T 81, T 82, T 83, T 84, T 85, T 86, T 87, T 88, T 89, T 90, T 91, T 92, T 93, T 94, T 95, T 96, T 97, T 98, T 99, T 100, T 101, T 102, T 103, T 104, T 105, T 106, T 107, T 108, T 109, T 110, T 111, T 112, T 113, T 114, T 115, T 116, T 117, T 118, T 119, T 120, T 121, T 122, T 123, T 124, T 125, T 126, T 127, T 128, T 129, T 130, T 131, T 132, T 133, T 134, T 135, T 136, T 137, T 138, T 139, T 140, T 141, T 142, T 143, T 144, T 145, T 146, T 147, T 148, T 149, T 150, T 151, T 152, T 153, T 154, T 155, T 156, T 157, T 158, T 159, T 160, T 161, T 162, T 163, T 164, T 165, T 166, T 167, T 168, T 169], []⟩ wr := by
  conv => arg 2; whnf
  have hq : q ≤ l.length := by omega
  obtain ⟨c0, c1, c2, c3, c4, c5, c6⟩ := (HAT.out q hlt).later (3 + 4 * c) hown (rowsO_last (A := [imgAt b1 bd1 bh m, devAt bd1 m.d, pts bm (.cells (arr48 (4 * c) vs) 37 (0, 0))]) vs may rfl)
  have ok := HV.out.2 _ (all_getD hlt)
  obtain ⟨ko, kc, hkv, hkl⟩ := keep_len ok.keep
  rw [hkv] at c6
  have hAB := And.intro ok.A ok.B
  have hSz := ok.S
  clear hkv ok
  generalize l.getD q actNone = x at *
  have HAB := Lib.hid hAB
  have HSF := Lib.hid hsafe
  have HM := Lib.hid hm
  have HCV := Lib.hid hcov
  have HML := Lib.hid hml
  have HN := Lib.hid hn
  have HFA := Lib.hid hfail
  have hst := step_actT hm (by omega) (by omega) x
  have hct := cov_act hm hsafe hfail (by omega) (by omega) hcov x
  obtain ⟨u', hu'⟩ := hst.safe u hsafe
  have hsp := hst.pend
  have hsw := hst.wr
  have hok2 := hst.ok
  have hn2 : 4 * (actT m x).t.length = 4 * c := by
    have e1 := hst.ok.t
    have e2 := hm.t
    have e3 := hst.c
    omega
  obtain ⟨hct1, hct2⟩ := hct
  have HS2 := Lib.hid (And.intro hok2 (And.intro hu' (And.intro hct1 hct2)))
  have HN2 := Lib.hid hn2
  clear hsafe hm hcov hml hn hfail hAB hst hu' hok2 hn2 hct1 hct2
  go_upto_region 20 with (fail)
  have ha := own_behind [_, _] (own_alloc hown (.cells #[.string x.kind, .int .i64 x.A, .int .i64 x.B, .int .i64 x.C, .int .i64 x.D, .string x.S, .slice ko x.keep.length kc] 39))
  have hxa := hxr.alloc (.cells #[.string x.kind, .int .i64 x.A, .int .i64 x.B, .int .i64 x.C, .int .i64 x.D, .string x.S, .slice ko x.keep.length kc] 39)
  clear c0 c1 c2 c3 c4 c5 c6 hown hxr
  generalize wr.heap.size = ba at *
  generalize wr.alloc (.cells #[.string x.kind, .int .i64 x.A, .int .i64 x.B, .int .i64 x.C, .int .i64 x.D, .string x.S, .slice ko x.keep.length kc] 39) = wa at *
  obtain ⟨c', f⟩ := own_cells 2 ha rfl
  have kf : ¬ (x.kind.toList == [102, 108, 117, 115, 104]) = true := by rw [beq_iff_eq] at k1; rw [k1]; decide
  have hact : actT m x = (m.wr x.A x.B x.S).2 := by unfold actT; rw [if_pos k1]
  have hmay : mayT may m x = (fun i => may i ++ [(m.wr x.A x.B x.S).2.shown i]) := by unfold mayT; rw [if_neg kf, hact]; rfl
  have hcovm := HS2.out.2.2.1
  rw [hmay, hact] at hcovm
  have HCT := Lib.hid hcovm
  clear hmay hcovm
  rw [hact] at hsp hsw HS2 HN2
  have HPOS := Lib.hid (fun (j : Nat) (hj : j < 4 * c) => (by
    have h := Cov.now HM.out HSF.out HCV.out (k := j) (by have := HN.out; omega)
    exact List.length_pos_of_mem h : 0 < (may j).length))
  clear hact
  have HC := Lib.hid (fun (R : List SL.HP) (w : World) (H : own w (imgAt b1 bd1 bh m :: devAt bd1 m.d :: R)) => write_any b1 bd1 bh m HM.out (by omega) (by omega) x.A x.B HAB.out.2 x.S hSz R w H)
  generalize hm2 : m.wr x.A x.B x.S = m2' at *
  have HM2 := Lib.hid hm2
  clear hm2
  obtain ⟨f2, m2⟩ := m2'
  dsimp only at *
  go_wp2_with fail
  refine (HC.out _ wa ha).mono ?_
  rintro e w4 ⟨rfl, hx4, h4⟩
  clear HC
  have h5 := h4
  have hx5 := hxa.trans hx4
  clear ha hxa c' f
  obtain ⟨wo, rfl⟩ : ∃ wo : World, wo = w4 := ⟨_, rfl⟩
  obtain ⟨c', f⟩ := own_cells 2 h5 rfl
  go_wp2_with fail
  go_loopw [16] (tIn (4 * c) b1 bd1 bh bm m2 (pts ba (.cells #[.string x.kind, .int .i64 x.A, .int .i64 x.B, .int .i64 x.C, .int .i64 x.D, .string x.S, .slice ko x.keep.length kc] 39 (0, 0))) may (fun i => may i ++ [m2.shown i]) w) (fun i _ => 4 * c - (intOf i).toNat)
  case atStart => exact ⟨0, vs, may, by omega, rfl, fun j h => absurd h (by omega), fun j _ _ => rfl, hx5, h5⟩
  case round =>
    clear hx5 h5 c' f
    obtain ⟨k, vs', hs, hk, rfl, hlo, hhi, hxk, hown⟩ := hrel
    have HLO := Lib.hid hlo
    have HHI := Lib.hid hhi
    clear hlo hhi
    by_cases hkn : k < 4 * c
    · have HSW := Lib.hid (fun (R : List SL.HP) (w : World) (H : own w (imgAt b1 bd1 bh m2 :: devAt bd1 m2.d :: R)) => shown_any b1 bd1 bh m2 HS2.out.1 k (by have := HN2.out; omega) R w H)
      have e1 : IntKind.i64.wrap ((k : Int) + 1) = (k : Int) + 1 := IntWalk.i64_in _ (by omega)
      have i1 : (0 : Int) ≤ (k : Int) := by omega
      have i2 : (k : Int) < 48 := by omega
      have i3 : (k : Int) < 4 * (c : Int) := by omega
      generalize hS : m2.shown k = S at *
      have HSH := Lib.hid hS
      clear hS
      go_wp2_with fail
      refine (HSW.out _ wr hown).mono ?_
      rintro e w6 ⟨rfl, hx6, h6⟩
      have hx6' := hxk.trans hx6
      clear hx6 hown hxk
      obtain ⟨c', f⟩ := own_cells 2 h6 rfl
      have kf' := kf
      have hatk := rowsO_at (A := [imgAt b1 bd1 bh m2, devAt bd1 m2.d, pts ba (.cells #[.string x.kind, .int .i64 x.A, .int .i64 x.B, .int .i64 x.C, .int .i64 x.D, .string x.S, .slice ko x.keep.length kc] 39 (0, 0)), pts bm (.cells (arr48 (4 * c) vs') 37 (0, 0))]) (R := [exactly w]) vs' hs hkn
      obtain ⟨ao9, g9, o9, cp9, hv9, p1, p2, p3, -, -⟩ := own_rowo_form (4 + k) h6 hatk
      have hmlk : (hs k).length ≤ q + 1 := by rw [HHI.out k (Nat.le_refl _) hkn]; exact HML.out k hkn
      have hposk : 0 < (hs k).length := by rw [HHI.out k (Nat.le_refl _) hkn]; exact HPOS.out k hkn
      obtain rfl := p3 hposk
      have hml2 : (hs k).length + 1 ≤ maxLen := by simp only [maxLen]; omega
      obtain ⟨ca, fa⟩ := own_cells 3 h6 rfl
      have hca : w6.cell? ⟨bm, k, none⟩ = some (.slice (some ⟨g9, o9, none⟩) (hs k).length cp9) := by rw [ca, ← hv9]; exact arr48_get vs' (by omega) hkn
      have h8 := own_alloc h6 (.cells #[.string S] 9)
      rw [hv9] at hatk
      have HATK := Lib.hid hatk
      have HHK := Lib.hid (HHI.out k (Nat.le_refl _) hkn)
      clear ca hatk hv9 p3
      go_wp2_with (first | (at_builtin; refine wpList_append_rowo rfl _ _ 36 rfl (5 + k) 9 Try.underlying36 elem_string rfl (by decide) rfl h8 (by rw [show 5 + k = (4 + k) + 1 by omega, List.getElem?_cons_succ]; exact HATK.out) ⟨w6.heap.size, 0, none⟩ 1 1 [.string S] rfl rfl (fun j u hu => (alloc_news w6 [.string S] 9) _ rfl j u hu) (one_str _) hml2 (by omega) ?_))
      intro g6 o6 cp6 w7 z1 z2 h9' hx7
      have e9 := rowsO_put (A := [imgAt b1 bd1 bh m2, devAt bd1 m2.d, pts ba (.cells #[.string x.kind, .int .i64 x.A, .int .i64 x.B, .int .i64 x.C, .int .i64 x.D, .string x.S, .slice ko x.keep.length kc] 39 (0, 0)), pts bm (.cells (arr48 (4 * c) vs') 37 (0, 0))]) (R := [exactly w]) vs' hs (.slice (some ⟨g6, o6, none⟩) ((hs k).length + 1) cp6) (hs k ++ [S]) hkn
      rw [show (hs k ++ [S]).length = (hs k).length + 1 by simp, show strCells (hs k ++ [S]) = strCells (hs k) ++ [.string S] by simp [strCells]] at e9
      have h9 : own w7 (imgAt b1 bd1 bh m2 :: devAt bd1 m2.d :: pts ba (.cells #[.string x.kind, .int .i64 x.A, .int .i64 x.B, .int .i64 x.C, .int .i64 x.D, .string x.S, .slice ko x.keep.length kc] 39 (0, 0)) :: pts bm (.cells (arr48 (4 * c) vs') 37 (0, 0)) :: (rowsO (4 * c) (upd vs' k (.slice (some ⟨g6, o6, none⟩) ((hs k).length + 1) cp6)) (upd hs k (hs k ++ [S])) ++ [exactly w])) := by
        have h' := own_drop (by rw [show 5 + k = (4 + k) + 1 by omega, List.set_cons_succ] at h9'; exact h9')
        exact (congrArg (own w7) e9).mp h'
      have hx9 := (hx6'.alloc (.cells #[.string S] 9)).trans hx7
      clear h9' e9 h8 fa hca
      obtain ⟨ca, fa⟩ := own_cells 3 h9 rfl
      have hca : w7.cell? ⟨bm, k, none⟩ = some (vs' k) := by rw [ca]; exact arr48_get vs' (by omega) hkn
      clear ca
      go_wp2_with fail
      go_roundw
      case rel =>
        have h10 := own_set (i := k) (v := .slice (some ⟨g6, o6, none⟩) ((hs k).length + 1) cp6) 3 h9 rfl
        refine ⟨k + 1, upd vs' k (.slice (some ⟨g6, o6, none⟩) ((hs k).length + 1) cp6), upd hs k (hs k ++ [S]), by omega, by go_num, fun j hj => ?_, fun j h1 h2 => ?_, hx9.setCell _ _, ?_⟩
        · by_cases ej : j = k
          · subst ej; rw [upd_same]; show _ = may j ++ [m2.shown j]; rw [HSH.out, HHK.out]
          · rw [upd_other _ _ ej]; exact HLO.out j (by omega)
        · rw [upd_other _ _ (by omega)]; exact HHI.out j (by omega) h2
        · rw [← arr48_set _ _ hkn]
          exact h10
      case measure => simp [intOf]; omega
    · have hkn' : k = 4 * c := by omega
      have i3 : ¬ ((k : Int) < 4 * (c : Int)) := by omega
      go_wp2_with fail
      refine ⟨jWI_mk rfl rfl rfl rfl rfl rfl rfl rfl ⟨q + 1, m2, u', (fun i => may i ++ [m2.shown i]), vs', by omega, by go_num, hxk, HS2.out.1, HS2.out.2.1, HS2.out.2.2.2, HCT.out, HN2.out, fun j hj => ?_, by omega, by omega, ?_⟩, by simp [jMu, intOf]; omega⟩
      · have h := HML.out j hj; rw [List.length_append]; simp only [List.length_cons, List.length_nil]; omega
      · have h9 := own_erase 2 hown rfl
        rw [rowsO_same vs' (fun j hj => HLO.out j (by omega))] at h9
        exact h9

set_option maxRecDepth 1000000 in
set_option maxHeartbeats 8000000 in
theorem jRound2 {b off cap c : Nat} {kv : Value} {l : List Act} {w wr : World} (hc1 : 1 ≤ c) (hc12 : c ≤ 12) (hL40 : l.length ≤ 40) (HAT : Hid (∀ i, i < l.length → ActCells w b (off + i * 7) (l.getD i actNone))) (HV : Hid (ActsAt w (.slice (some ⟨b, off, none⟩) l.length cap) l))
    (T : Nat → Value) {q b1 bd1 bh bm : Nat} {m : ImgM} {u : List Ent} {may : Nat → List ByteArray} {vs : Nat → Value} (hlt : q < l.length) (hxr : Ext w wr) (hm : m.Ok) (hsafe : Safe m u) (hfail : m.d.fail < 0) (hcov : Cov m may) (hn : 4 * m.t.length = 4 * c) (hml : ∀ j, j < 4 * c → (may j).length ≤ q + 1) (hpq : m.d.pend.length ≤ 5 * q + 10) (hwq : m.d.writes ≤ 5 * q + 10) (hown : own wr (imgAt b1 bd1 bh m :: devAt bd1 m.d :: pts bm (.cells (arr48 (4 * c) vs) 37 (0, 0)) :: (rowsO (4 * c) vs may ++ [exactly w]))) (Q0 : Exit → Go.Act → World → Prop) (k1 : ¬ ((l.getD q actNone).kind.toList == [119, 114, 105, 116, 101]) = true) (k2 : ((l.getD q actNone).kind.toList == [102, 105, 108, 108]) = true) :
    Code.wp Try.prog jBody (Exit.then (fun a' w'' => jWI w l.length (4 * c) b1 bd1 bh bm (.int .i64 (c : Int)) (.slice (some ⟨b, off, none⟩) l.length cap) kv (.pointer (some ⟨bd1, 0, none⟩)) (.pointer (some ⟨b1, 0, none⟩)) (.pointer (some ⟨bm, 0, none⟩)) a' w'' ∧ jMu l.length a' w'' < jMu l.length ⟨#[.int .i64 (c : Int), T 1, .slice (some ⟨b, off, none⟩) l.length cap, kv, T 4, T 5, T 6, T 7, T 8, .pointer (some ⟨bd1, 0, none⟩), T 10, .pointer (some ⟨b1, 0, none⟩), .pointer (some ⟨bm, 0, none⟩), T 13, .int .i64 (q : Int), T 15, T 16, T 17, T 18, T 19, T 20, T 21, T 22, T 23, T 24, T 25, T 26, T 27, T 28, T 29, T 30, T 31, T 32, T 33, T 34, T 35, T 36, T 37, T 38, T 39, T 40, T 41, T 42, T 43, T 44, T 45, T 46, T 47, T 48, T 49, T 50, T 51, T 52, T 53, T 54, T 55, T 56, T 57, T 58, T 59, T 60, T 61, T 62, T 63, T 64, T 65, T 66, T 67, T 68, T 69, T 70, T 71, T 72, T 73, T 74, T 75, T 76, T 77, T 78, T 79, T 80, T 81, T 82, T 83, T 84, T 85, T 86, T 87, T 88, T 89, T 90, T 91, T 92, T 93, T 94, T 95, T 96, T 97, T 98, T 99, T 100, T 101, T 102, T 103, T 104, T 105, T 106, T 107, T 108, T 109, T 110, T 111, T 112, T 113, T 114, T 115, T 116, T 117, T 118, T 119, T 120, T 121, T 122, T 123, T 124, T 125, T 126, T 127, T 128, T 129, T 130, T 131, T 132, T 133, T 134, T 135, T 136, T 137, T 138, T 139, T 140, T 141, T 142, T 143, T 144, T 145, T 146, T 147, T 148, T 149, T 150, T 151, T 152, T 153, T 154, T 155, T 156, T 157, T 158, T 159, T 160, T 161, T 162, T 163, T 164, T 165, T 166, T 167, T 168, T 169], []⟩ wr) Q0) ⟨#[.int .i64 (c : Int), T 1, .slice (some ⟨b, off, none⟩) l.length cap, kv, T 4, T 5, T 6, T 7, T 8, .pointer (some ⟨bd1, 0, none⟩), T 10, .pointer (some ⟨b1, 0, none⟩), .pointer (some ⟨bm, 0, none⟩), T 13, .int .i64 (q : Int), T 15, T 16, T 17, T 18, T 19, T 20, T 21, T 22, T 23, T 24, T 25, T 26, T 27, T 28, T 29, T 30, T 31, T 32, T 33, T 34, T 35, T 36, T 37, T 38, T 39, T 40, T 41, T 42, T 43, T 44, T 45, T 46, T 47, T 48, T 49, T 50, T 51, T 52, T 53, T 54, T 55, T 56, T 57, T 58, T 59, T 60, T 61, T 62, T 63, T 64, T 65, T 66, T 67, T 68, T 69, T 70, T 71, T 72, T 73, T 74, T 75, T 76, T 77, T 78, T 79, T 80, T 81, T 82, T 83, T 84, T 85, T 86, T 87, T 88, T 89, T 90, T 91, T 92, T 93, T 94, T 95, T 96, T 97, T 98, T 99, T 100, T 101, T 102, T 103, T 104, T 105, T 106, T 107, T 108, T 109, T 110, T 111, T 112, T 113, T 114, T 115, T 116, T 117, T 118, T 119, T 120, T 121, T 122, T 123, T 124, T 125, T 126, T 127, T 128, T 129, T 130, T 131, T 132, T 133, T 134, T 135, T 136, T 137, T 138, T 139, T 140, T 141, T 142, T 143, T 144, T 145, T 146, T 147, T 148, T 149, T 150, T 151, T 152, T 153, T 154, T 155, T 156, T 157, T 158, T 159, T 160, T 161, T 162, T 163, T 164, T 165, T 166, T 167, T 168, T 169], []⟩ wr := by
  conv => arg 2; whnf
  have hq : q ≤ l.length := by omega
  obtain ⟨c0, c1, c2, c3, c4, c5, c6⟩ := (HAT.out q hlt).later (3 + 4 * c) hown (rowsO_last (A := [imgAt b1 bd1 bh m, devAt bd1 m.d, pts bm (.cells (arr48 (4 * c) vs) 37 (0, 0))]) vs may rfl)
  have ok := HV.out.2 _ (all_getD hlt)
  obtain ⟨ko, kc, hkv, hkl⟩ := keep_len ok.keep
  rw [hkv] at c6
  have hAB := And.intro ok.A ok.B
  have hSz := ok.S
  clear hkv ok
  generalize l.getD q actNone = x at *
  have HAB := Lib.hid hAB
  have HSF := Lib.hid hsafe
  have HM := Lib.hid hm
  have HCV := Lib.hid hcov
  have HML := Lib.hid hml
  have HN := Lib.hid hn
  have HFA := Lib.hid hfail
  have hst := step_actT hm (by omega) (by omega) x
  have hct := cov_act hm hsafe hfail (by omega) (by omega) hcov x
  obtain ⟨u', hu'⟩ := hst.safe u hsafe
  have hsp := hst.pend
  have hsw := hst.wr
  have hok2 := hst.ok
  have hn2 : 4 * (actT m x).t.length = 4 * c := by
    have e1 := hst.ok.t
    have e2 := hm.t
    have e3 := hst.c
    omega
  obtain ⟨hct1, hct2⟩ := hct
  have HS2 := Lib.hid (And.intro hok2 (And.intro hu' (And.intro hct1 hct2)))
  have HN2 := Lib.hid hn2
  clear hsafe hm hcov hml hn hfail hAB hst hu' hok2 hn2 hct1 hct2
  go_upto_region 20 with (fail)
  have ha := own_behind [_, _] (own_alloc hown (.cells #[.string x.kind, .int .i64 x.A, .int .i64 x.B, .int .i64 x.C, .int .i64 x.D, .string x.S, .slice ko x.keep.length kc] 39))
  have hxa := hxr.alloc (.cells #[.string x.kind, .int .i64 x.A, .int .i64 x.B, .int .i64 x.C, .int .i64 x.D, .string x.S, .slice ko x.keep.length kc] 39)
  clear c0 c1 c2 c3 c4 c5 c6 hown hxr
  generalize wr.heap.size = ba at *
  generalize wr.alloc (.cells #[.string x.kind, .int .i64 x.A, .int .i64 x.B, .int .i64 x.C, .int .i64 x.D, .string x.S, .slice ko x.keep.length kc] 39) = wa at *
  obtain ⟨c', f⟩ := own_cells 2 ha rfl
  have kf : ¬ (x.kind.toList == [102, 108, 117, 115, 104]) = true := by rw [beq_iff_eq] at k2; rw [k2]; decide
  have hact : actT m x = (m.fill x.A x.S).2 := by unfold actT; rw [if_neg k1]; rw [if_pos k2]
  have hmay : mayT may m x = (fun i => may i ++ [(m.fill x.A x.S).2.shown i]) := by unfold mayT; rw [if_neg kf, hact]; rfl
  have hcovm := HS2.out.2.2.1
  rw [hmay, hact] at hcovm
  have HCT := Lib.hid hcovm
  clear hmay hcovm
  rw [hact] at hsp hsw HS2 HN2
  have HPOS := Lib.hid (fun (j : Nat) (hj : j < 4 * c) => (by
    have h := Cov.now HM.out HSF.out HCV.out (k := j) (by have := HN.out; omega)
    exact List.length_pos_of_mem h : 0 < (may j).length))
  clear hact
  have HC := Lib.hid (fun (R : List SL.HP) (w : World) (H : own w (imgAt b1 bd1 bh m :: devAt bd1 m.d :: R)) => fill_any b1 bd1 bh m HM.out (by omega) (by omega) x.A x.S hSz R w H)
  generalize hm2 : m.fill x.A x.S = m2' at *
  have HM2 := Lib.hid hm2
  clear hm2
  obtain ⟨f2, m2⟩ := m2'
  dsimp only at *
  go_wp2_with fail
  refine (HC.out _ wa ha).mono ?_
  rintro e w4 ⟨rfl, hx4, h4⟩
  clear HC
  have h5 := h4
  have hx5 := hxa.trans hx4
  clear ha hxa c' f
  obtain ⟨wo, rfl⟩ : ∃ wo : World, wo = w4 := ⟨_, rfl⟩
  obtain ⟨c', f⟩ := own_cells 2 h5 rfl
  go_wp2_with fail
  go_loopw [16] (tIn (4 * c) b1 bd1 bh bm m2 (pts ba (.cells #[.string x.kind, .int .i64 x.A, .int .i64 x.B, .int .i64 x.C, .int .i64 x.D, .string x.S, .slice ko x.keep.length kc] 39 (0, 0))) may (fun i => may i ++ [m2.shown i]) w) (fun i _ => 4 * c - (intOf i).toNat)
  case atStart => exact ⟨0, vs, may, by omega, rfl, fun j h => absurd h (by omega), fun j _ _ => rfl, hx5, h5⟩
  case round =>
    clear hx5 h5 c' f
    obtain ⟨k, vs', hs, hk, rfl, hlo, hhi, hxk, hown⟩ := hrel
    have HLO := Lib.hid hlo
    have HHI := Lib.hid hhi
    clear hlo hhi
    by_cases hkn : k < 4 * c
    · have HSW := Lib.hid (fun (R : List SL.HP) (w : World) (H : own w (imgAt b1 bd1 bh m2 :: devAt bd1 m2.d :: R)) => shown_any b1 bd1 bh m2 HS2.out.1 k (by have := HN2.out; omega) R w H)
      have e1 : IntKind.i64.wrap ((k : Int) + 1) = (k : Int) + 1 := IntWalk.i64_in _ (by omega)
      have i1 : (0 : Int) ≤ (k : Int) := by omega
      have i2 : (k : Int) < 48 := by omega
      have i3 : (k : Int) < 4 * (c : Int) := by omega
      generalize hS : m2.shown k = S at *
      have HSH := Lib.hid hS
      clear hS
      go_wp2_with fail
      refine (HSW.out _ wr hown).mono ?_
      rintro e w6 ⟨rfl, hx6, h6⟩
      have hx6' := hxk.trans hx6
      clear hx6 hown hxk
      obtain ⟨c', f⟩ := own_cells 2 h6 rfl
      have kf' := kf
      have hatk := rowsO_at (A := [imgAt b1 bd1 bh m2, devAt bd1 m2.d, pts ba (.cells #[.string x.kind, .int .i64 x.A, .int .i64 x.B, .int .i64 x.C, .int .i64 x.D, .string x.S, .slice ko x.keep.length kc] 39 (0, 0)), pts bm (.cells (arr48 (4 * c) vs') 37 (0, 0))]) (R := [exactly w]) vs' hs hkn
      obtain ⟨ao9, g9, o9, cp9, hv9, p1, p2, p3, -, -⟩ := own_rowo_form (4 + k) h6 hatk
      have hmlk : (hs k).length ≤ q + 1 := by rw [HHI.out k (Nat.le_refl _) hkn]; exact HML.out k hkn
      have hposk : 0 < (hs k).length := by rw [HHI.out k (Nat.le_refl _) hkn]; exact HPOS.out k hkn
      obtain rfl := p3 hposk
      have hml2 : (hs k).length + 1 ≤ maxLen := by simp only [maxLen]; omega
      obtain ⟨ca, fa⟩ := own_cells 3 h6 rfl
      have hca : w6.cell? ⟨bm, k, none⟩ = some (.slice (some ⟨g9, o9, none⟩) (hs k).length cp9) := by rw [ca, ← hv9]; exact arr48_get vs' (by omega) hkn
      have h8 := own_alloc h6 (.cells #[.string S] 9)
      rw [hv9] at hatk
      have HATK := Lib.hid hatk
      have HHK := Lib.hid (HHI.out k (Nat.le_refl _) hkn)
      clear ca hatk hv9 p3
      go_wp2_with (first | (at_builtin; refine wpList_append_rowo rfl _ _ 36 rfl (5 + k) 9 Try.underlying36 elem_string rfl (by decide) rfl h8 (by rw [show 5 + k = (4 + k) + 1 by omega, List.getElem?_cons_succ]; exact HATK.out) ⟨w6.heap.size, 0, none⟩ 1 1 [.string S] rfl rfl (fun j u hu => (alloc_news w6 [.string S] 9) _ rfl j u hu) (one_str _) hml2 (by omega) ?_))
      intro g6 o6 cp6 w7 z1 z2 h9' hx7
      have e9 := rowsO_put (A := [imgAt b1 bd1 bh m2, devAt bd1 m2.d, pts ba (.cells #[.string x.kind, .int .i64 x.A, .int .i64 x.B, .int .i64 x.C, .int .i64 x.D, .string x.S, .slice ko x.keep.length kc] 39 (0, 0)), pts bm (.cells (arr48 (4 * c) vs') 37 (0, 0))]) (R := [exactly w]) vs' hs (.slice (some ⟨g6, o6, none⟩) ((hs k).length + 1) cp6) (hs k ++ [S]) hkn
      rw [show (hs k ++ [S]).length = (hs k).length + 1 by simp, show strCells (hs k ++ [S]) = strCells (hs k) ++ [.string S] by simp [strCells]] at e9
      have h9 : own w7 (imgAt b1 bd1 bh m2 :: devAt bd1 m2.d :: pts ba (.cells #[.string x.kind, .int .i64 x.A, .int .i64 x.B, .int .i64 x.C, .int .i64 x.D, .string x.S, .slice ko x.keep.length kc] 39 (0, 0)) :: pts bm (.cells (arr48 (4 * c) vs') 37 (0, 0)) :: (rowsO (4 * c) (upd vs' k (.slice (some ⟨g6, o6, none⟩) ((hs k).length + 1) cp6)) (upd hs k (hs k ++ [S])) ++ [exactly w])) := by
        have h' := own_drop (by rw [show 5 + k = (4 + k) + 1 by omega, List.set_cons_succ] at h9'; exact h9')
        exact (congrArg (own w7) e9).mp h'
      have hx9 := (hx6'.alloc (.cells #[.string S] 9)).trans hx7
      clear h9' e9 h8 fa hca
      obtain ⟨ca, fa⟩ := own_cells 3 h9 rfl
      have hca : w7.cell? ⟨bm, k, none⟩ = some (vs' k) := by rw [ca]; exact arr48_get vs' (by omega) hkn
      clear ca
      go_wp2_with fail
      go_roundw
      case rel =>
        have h10 := own_set (i := k) (v := .slice (some ⟨g6, o6, none⟩) ((hs k).length + 1) cp6) 3 h9 rfl
        refine ⟨k + 1, upd vs' k (.slice (some ⟨g6, o6, none⟩) ((hs k).length + 1) cp6), upd hs k (hs k ++ [S]), by omega, by go_num, fun j hj => ?_, fun j h1 h2 => ?_, hx9.setCell _ _, ?_⟩
        · by_cases ej : j = k
          · subst ej; rw [upd_same]; show _ = may j ++ [m2.shown j]; rw [HSH.out, HHK.out]
          · rw [upd_other _ _ ej]; exact HLO.out j (by omega)
        · rw [upd_other _ _ (by omega)]; exact HHI.out j (by omega) h2
        · rw [← arr48_set _ _ hkn]
          exact h10
      case measure => simp [intOf]; omega
    · have hkn' : k = 4 * c := by omega
      have i3 : ¬ ((k : Int) < 4 * (c : Int)) := by omega
      go_wp2_with fail
      refine ⟨jWI_mk rfl rfl rfl rfl rfl rfl rfl rfl ⟨q + 1, m2, u', (fun i => may i ++ [m2.shown i]), vs', by omega, by go_num, hxk, HS2.out.1, HS2.out.2.1, HS2.out.2.2.2, HCT.out, HN2.out, fun j hj => ?_, by omega, by omega, ?_⟩, by simp [jMu, intOf]; omega⟩
      · have h := HML.out j hj; rw [List.length_append]; simp only [List.length_cons, List.length_nil]; omega
      · have h9 := own_erase 2 hown rfl
        rw [rowsO_same vs' (fun j hj => HLO.out j (by omega))] at h9
        exact h9

set_option maxRecDepth 1000000 in
set_option maxHeartbeats 8000000 in
theorem jRound3 {b off cap c : Nat} {kv : Value} {l : List Act} {w wr : World} (hc1 : 1 ≤ c) (hc12 : c ≤ 12) (hL40 : l.length ≤ 40) (HAT : Hid (∀ i, i < l.length → ActCells w b (off + i * 7) (l.getD i actNone))) (HV : Hid (ActsAt w (.slice (some ⟨b, off, none⟩) l.length cap) l))
    (T : Nat → Value) {q b1 bd1 bh bm : Nat} {m : ImgM} {u : List Ent} {may : Nat → List ByteArray} {vs : Nat → Value} (hlt : q < l.length) (hxr : Ext w wr) (hm : m.Ok) (hsafe : Safe m u) (hfail : m.d.fail < 0) (hcov : Cov m may) (hn : 4 * m.t.length = 4 * c) (hml : ∀ j, j < 4 * c → (may j).length ≤ q + 1) (hpq : m.d.pend.length ≤ 5 * q + 10) (hwq : m.d.writes ≤ 5 * q + 10) (hown : own wr (imgAt b1 bd1 bh m :: devAt bd1 m.d :: pts bm (.cells (arr48 (4 * c) vs) 37 (0, 0)) :: (rowsO (4 * c) vs may ++ [exactly w]))) (Q0 : Exit → Go.Act → World → Prop) (k1 : ¬ ((l.getD q actNone).kind.toList == [119, 114, 105, 116, 101]) = true) (k2 : ¬ ((l.getD q actNone).kind.toList == [102, 105, 108, 108]) = true) (k3 : ((l.getD q actNone).kind.toList == [99, 108, 101, 97, 114]) = true) :
    Code.wp Try.prog jBody (Exit.then (fun a' w'' => jWI w l.length (4 * c) b1 bd1 bh bm (.int .i64 (c : Int)) (.slice (some ⟨b, off, none⟩) l.length cap) kv (.pointer (some ⟨bd1, 0, none⟩)) (.pointer (some ⟨b1, 0, none⟩)) (.pointer (some ⟨bm, 0, none⟩)) a' w'' ∧ jMu l.length a' w'' < jMu l.length ⟨#[.int .i64 (c : Int), T 1, .slice (some ⟨b, off, none⟩) l.length cap, kv, T 4, T 5, T 6, T 7, T 8, .pointer (some ⟨bd1, 0, none⟩), T 10, .pointer (some ⟨b1, 0, none⟩), .pointer (some ⟨bm, 0, none⟩), T 13, .int .i64 (q : Int), T 15, T 16, T 17, T 18, T 19, T 20, T 21, T 22, T 23, T 24, T 25, T 26, T 27, T 28, T 29, T 30, T 31, T 32, T 33, T 34, T 35, T 36, T 37, T 38, T 39, T 40, T 41, T 42, T 43, T 44, T 45, T 46, T 47, T 48, T 49, T 50, T 51, T 52, T 53, T 54, T 55, T 56, T 57, T 58, T 59, T 60, T 61, T 62, T 63, T 64, T 65, T 66, T 67, T 68, T 69, T 70, T 71, T 72, T 73, T 74, T 75, T 76, T 77, T 78, T 79, T 80, T 81, T 82, T 83, T 84, T 85, T 86, T 87, T 88, T 89, T 90, T 91, T 92, T 93, T 94, T 95, T 96, T 97, T 98, T 99, T 100, T 101, T 102, T 103, T 104, T 105, T 106, T 107, T 108, T 109, T 110, T 111, T 112, T 113, T 114, T 115, T 116, T 117, T 118, T 119, T 120, T 121, T 122, T 123, T 124, T 125, T 126, T 127, T 128, T 129, T 130, T 131, T 132, T 133, T 134, T 135, T 136, T 137, T 138, T 139, T 140, T 141, T 142, T 143, T 144, T 145, T 146, T 147, T 148, T 149, T 150, T 151, T 152, T 153, T 154, T 155, T 156, T 157, T 158, T 159, T 160, T 161, T 162, T 163, T 164, T 165, T 166, T 167, T 168, T 169], []⟩ wr) Q0) ⟨#[.int .i64 (c : Int), T 1, .slice (some ⟨b, off, none⟩) l.length cap, kv, T 4, T 5, T 6, T 7, T 8, .pointer (some ⟨bd1, 0, none⟩), T 10, .pointer (some ⟨b1, 0, none⟩), .pointer (some ⟨bm, 0, none⟩), T 13, .int .i64 (q : Int), T 15, T 16, T 17, T 18, T 19, T 20, T 21, T 22, T 23, T 24, T 25, T 26, T 27, T 28, T 29, T 30, T 31, T 32, T 33, T 34, T 35, T 36, T 37, T 38, T 39, T 40, T 41, T 42, T 43, T 44, T 45, T 46, T 47, T 48, T 49, T 50, T 51, T 52, T 53, T 54, T 55, T 56, T 57, T 58, T 59, T 60, T 61, T 62, T 63, T 64, T 65, T 66, T 67, T 68, T 69, T 70, T 71, T 72, T 73, T 74, T 75, T 76, T 77, T 78, T 79, T 80, T 81, T 82, T 83, T 84, T 85, T 86, T 87, T 88, T 89, T 90, T 91, T 92, T 93, T 94, T 95, T 96, T 97, T 98, T 99, T 100, T 101, T 102, T 103, T 104, T 105, T 106, T 107, T 108, T 109, T 110, T 111, T 112, T 113, T 114, T 115, T 116, T 117, T 118, T 119, T 120, T 121, T 122, T 123, T 124, T 125, T 126, T 127, T 128, T 129, T 130, T 131, T 132, T 133, T 134, T 135, T 136, T 137, T 138, T 139, T 140, T 141, T 142, T 143, T 144, T 145, T 146, T 147, T 148, T 149, T 150, T 151, T 152, T 153, T 154, T 155, T 156, T 157, T 158, T 159, T 160, T 161, T 162, T 163, T 164, T 165, T 166, T 167, T 168, T 169], []⟩ wr := by
  conv => arg 2; whnf
  have hq : q ≤ l.length := by omega
  obtain ⟨c0, c1, c2, c3, c4, c5, c6⟩ := (HAT.out q hlt).later (3 + 4 * c) hown (rowsO_last (A := [imgAt b1 bd1 bh m, devAt bd1 m.d, pts bm (.cells (arr48 (4 * c) vs) 37 (0, 0))]) vs may rfl)
  have ok := HV.out.2 _ (all_getD hlt)
  obtain ⟨ko, kc, hkv, hkl⟩ := keep_len ok.keep
  rw [hkv] at c6
  have hAB := And.intro ok.A ok.B
  have hSz := ok.S
  clear hkv ok
  generalize l.getD q actNone = x at *
  have HAB := Lib.hid hAB
  have HSF := Lib.hid hsafe
  have HM := Lib.hid hm
  have HCV := Lib.hid hcov
  have HML := Lib.hid hml
  have HN := Lib.hid hn
  have HFA := Lib.hid hfail
  have hst := step_actT hm (by omega) (by omega) x
  have hct := cov_act hm hsafe hfail (by omega) (by omega) hcov x
  obtain ⟨u', hu'⟩ := hst.safe u hsafe
  have hsp := hst.pend
  have hsw := hst.wr
  have hok2 := hst.ok
  have hn2 : 4 * (actT m x).t.length = 4 * c := by
    have e1 := hst.ok.t
    have e2 := hm.t
    have e3 := hst.c
    omega
  obtain ⟨hct1, hct2⟩ := hct
  have HS2 := Lib.hid (And.intro hok2 (And.intro hu' (And.intro hct1 hct2)))
  have HN2 := Lib.hid hn2
  clear hsafe hm hcov hml hn hfail hAB hst hu' hok2 hn2 hct1 hct2
  go_upto_region 20 with (fail)
  have ha := own_behind [_, _] (own_alloc hown (.cells #[.string x.kind, .int .i64 x.A, .int .i64 x.B, .int .i64 x.C, .int .i64 x.D, .string x.S, .slice ko x.keep.length kc] 39))
  have hxa := hxr.alloc (.cells #[.string x.kind, .int .i64 x.A, .int .i64 x.B, .int .i64 x.C, .int .i64 x.D, .string x.S, .slice ko x.keep.length kc] 39)
  clear c0 c1 c2 c3 c4 c5 c6 hown hxr
  generalize wr.heap.size = ba at *
  generalize wr.alloc (.cells #[.string x.kind, .int .i64 x.A, .int .i64 x.B, .int .i64 x.C, .int .i64 x.D, .string x.S, .slice ko x.keep.length kc] 39) = wa at *
  obtain ⟨c', f⟩ := own_cells 2 ha rfl
  have kf : ¬ (x.kind.toList == [102, 108, 117, 115, 104]) = true := by rw [beq_iff_eq] at k3; rw [k3]; decide
  have hact : actT m x = (m.clear x.A).2 := by unfold actT; rw [if_neg k1]; rw [if_neg k2]; rw [if_pos k3]
  have hmay : mayT may m x = (fun i => may i ++ [(m.clear x.A).2.shown i]) := by unfold mayT; rw [if_neg kf, hact]; rfl
  have hcovm := HS2.out.2.2.1
  rw [hmay, hact] at hcovm
  have HCT := Lib.hid hcovm
  clear hmay hcovm
  rw [hact] at hsp hsw HS2 HN2
  have HPOS := Lib.hid (fun (j : Nat) (hj : j < 4 * c) => (by
    have h := Cov.now HM.out HSF.out HCV.out (k := j) (by have := HN.out; omega)
    exact List.length_pos_of_mem h : 0 < (may j).length))
  clear hact
  have HC := Lib.hid (fun (R : List SL.HP) (w : World) (H : own w (imgAt b1 bd1 bh m :: devAt bd1 m.d :: R)) => clear_any b1 bd1 bh m HM.out (by omega) (by omega) x.A R w H)
  generalize hm2 : m.clear x.A = m2' at *
  have HM2 := Lib.hid hm2
  clear hm2
  obtain ⟨f2, m2⟩ := m2'
  dsimp only at *
  go_wp2_with fail
  refine (HC.out _ wa ha).mono ?_
  rintro e w4 ⟨rfl, hx4, h4⟩
  clear HC
  have h5 := h4
  have hx5 := hxa.trans hx4
  clear ha hxa c' f
  obtain ⟨wo, rfl⟩ : ∃ wo : World, wo = w4 := ⟨_, rfl⟩
  obtain ⟨c', f⟩ := own_cells 2 h5 rfl
  go_wp2_with fail
  go_loopw [16] (tIn (4 * c) b1 bd1 bh bm m2 (pts ba (.cells #[.string x.kind, .int .i64 x.A, .int .i64 x.B, .int .i64 x.C, .int .i64 x.D, .string x.S, .slice ko x.keep.length kc] 39 (0, 0))) may (fun i => may i ++ [m2.shown i]) w) (fun i _ => 4 * c - (intOf i).toNat)
  case atStart => exact ⟨0, vs, may, by omega, rfl, fun j h => absurd h (by omega), fun j _ _ => rfl, hx5, h5⟩
  case round =>
    clear hx5 h5 c' f
    obtain ⟨k, vs', hs, hk, rfl, hlo, hhi, hxk, hown⟩ := hrel
    have HLO := Lib.hid hlo
    have HHI := Lib.hid hhi
    clear hlo hhi
    by_cases hkn : k < 4 * c
    · have HSW := Lib.hid (fun (R : List SL.HP) (w : World) (H : own w (imgAt b1 bd1 bh m2 :: devAt bd1 m2.d :: R)) => shown_any b1 bd1 bh m2 HS2.out.1 k (by have := HN2.out; omega) R w H)
      have e1 : IntKind.i64.wrap ((k : Int) + 1) = (k : Int) + 1 := IntWalk.i64_in _ (by omega)
      have i1 : (0 : Int) ≤ (k : Int) := by omega
      have i2 : (k : Int) < 48 := by omega
      have i3 : (k : Int) < 4 * (c : Int) := by omega
      generalize hS : m2.shown k = S at *
      have HSH := Lib.hid hS
      clear hS
      go_wp2_with fail
      refine (HSW.out _ wr hown).mono ?_
      rintro e w6 ⟨rfl, hx6, h6⟩
      have hx6' := hxk.trans hx6
      clear hx6 hown hxk
      obtain ⟨c', f⟩ := own_cells 2 h6 rfl
      have kf' := kf
      have hatk := rowsO_at (A := [imgAt b1 bd1 bh m2, devAt bd1 m2.d, pts ba (.cells #[.string x.kind, .int .i64 x.A, .int .i64 x.B, .int .i64 x.C, .int .i64 x.D, .string x.S, .slice ko x.keep.length kc] 39 (0, 0)), pts bm (.cells (arr48 (4 * c) vs') 37 (0, 0))]) (R := [exactly w]) vs' hs hkn
      obtain ⟨ao9, g9, o9, cp9, hv9, p1, p2, p3, -, -⟩ := own_rowo_form (4 + k) h6 hatk
      have hmlk : (hs k).length ≤ q + 1 := by rw [HHI.out k (Nat.le_refl _) hkn]; exact HML.out k hkn
      have hposk : 0 < (hs k).length := by rw [HHI.out k (Nat.le_refl _) hkn]; exact HPOS.out k hkn
      obtain rfl := p3 hposk
      have hml2 : (hs k).length + 1 ≤ maxLen := by simp only [maxLen]; omega
      obtain ⟨ca, fa⟩ := own_cells 3 h6 rfl
      have hca : w6.cell? ⟨bm, k, none⟩ = some (.slice (some ⟨g9, o9, none⟩) (hs k).length cp9) := by rw [ca, ← hv9]; exact arr48_get vs' (by omega) hkn
      have h8 := own_alloc h6 (.cells #[.string S] 9)
      rw [hv9] at hatk
      have HATK := Lib.hid hatk
      have HHK := Lib.hid (HHI.out k (Nat.le_refl _) hkn)
      clear ca hatk hv9 p3
      go_wp2_with (first | (at_builtin; refine wpList_append_rowo rfl _ _ 36 rfl (5 + k) 9 Try.underlying36 elem_string rfl (by decide) rfl h8 (by rw [show 5 + k = (4 + k) + 1 by omega, List.getElem?_cons_succ]; exact HATK.out) ⟨w6.heap.size, 0, none⟩ 1 1 [.string S] rfl rfl (fun j u hu => (alloc_news w6 [.string S] 9) _ rfl j u hu) (one_str _) hml2 (by omega) ?_))
      intro g6 o6 cp6 w7 z1 z2 h9' hx7
      have e9 := rowsO_put (A := [imgAt b1 bd1 bh m2, devAt bd1 m2.d, pts ba (.cells #[.string x.kind, .int .i64 x.A, .int .i64 x.B, .int .i64 x.C, .int .i64 x.D, .string x.S, .slice ko x.keep.length kc] 39 (0, 0)), pts bm (.cells (arr48 (4 * c) vs') 37 (0, 0))]) (R := [exactly w]) vs' hs (.slice (some ⟨g6, o6, none⟩) ((hs k).length + 1) cp6) (hs k ++ [S]) hkn
      rw [show (hs k ++ [S]).length = (hs k).length + 1 by simp, show strCells (hs k ++ [S]) = strCells (hs k) ++ [.string S] by simp [strCells]] at e9
      have h9 : own w7 (imgAt b1 bd1 bh m2 :: devAt bd1 m2.d :: pts ba (.cells #[.string x.kind, .int .i64 x.A, .int .i64 x.B, .int .i64 x.C, .int .i64 x.D, .string x.S, .slice ko x.keep.length kc] 39 (0, 0)) :: pts bm (.cells (arr48 (4 * c) vs') 37 (0, 0)) :: (rowsO (4 * c) (upd vs' k (.slice (some ⟨g6, o6, none⟩) ((hs k).length + 1) cp6)) (upd hs k (hs k ++ [S])) ++ [exactly w])) := by
        have h' := own_drop (by rw [show 5 + k = (4 + k) + 1 by omega, List.set_cons_succ] at h9'; exact h9')
        exact (congrArg (own w7) e9).mp h'
      have hx9 := (hx6'.alloc (.cells #[.string S] 9)).trans hx7
      clear h9' e9 h8 fa hca
      obtain ⟨ca, fa⟩ := own_cells 3 h9 rfl
      have hca : w7.cell? ⟨bm, k, none⟩ = some (vs' k) := by rw [ca]; exact arr48_get vs' (by omega) hkn
      clear ca
      go_wp2_with fail
      go_roundw
      case rel =>
        have h10 := own_set (i := k) (v := .slice (some ⟨g6, o6, none⟩) ((hs k).length + 1) cp6) 3 h9 rfl
        refine ⟨k + 1, upd vs' k (.slice (some ⟨g6, o6, none⟩) ((hs k).length + 1) cp6), upd hs k (hs k ++ [S]), by omega, by go_num, fun j hj => ?_, fun j h1 h2 => ?_, hx9.setCell _ _, ?_⟩
        · by_cases ej : j = k
          · subst ej; rw [upd_same]; show _ = may j ++ [m2.shown j]; rw [HSH.out, HHK.out]
          · rw [upd_other _ _ ej]; exact HLO.out j (by omega)
        · rw [upd_other _ _ (by omega)]; exact HHI.out j (by omega) h2
        · rw [← arr48_set _ _ hkn]
          exact h10
      case measure => simp [intOf]; omega
    · have hkn' : k = 4 * c := by omega
      have i3 : ¬ ((k : Int) < 4 * (c : Int)) := by omega
      go_wp2_with fail
      refine ⟨jWI_mk rfl rfl rfl rfl rfl rfl rfl rfl ⟨q + 1, m2, u', (fun i => may i ++ [m2.shown i]), vs', by omega, by go_num, hxk, HS2.out.1, HS2.out.2.1, HS2.out.2.2.2, HCT.out, HN2.out, fun j hj => ?_, by omega, by omega, ?_⟩, by simp [jMu, intOf]; omega⟩
      · have h := HML.out j hj; rw [List.length_append]; simp only [List.length_cons, List.length_nil]; omega
      · have h9 := own_erase 2 hown rfl
        rw [rowsO_same vs' (fun j hj => HLO.out j (by omega))] at h9
        exact h9

set_option maxRecDepth 1000000 in
set_option maxHeartbeats 8000000 in
theorem jRound4 {b off cap c : Nat} {kv : Value} {l : List Act} {w wr : World} (hc1 : 1 ≤ c) (hc12 : c ≤ 12) (hL40 : l.length ≤ 40) (HAT : Hid (∀ i, i < l.length → ActCells w b (off + i * 7) (l.getD i actNone))) (HV : Hid (ActsAt w (.slice (some ⟨b, off, none⟩) l.length cap) l))
    (T : Nat → Value) {q b1 bd1 bh bm : Nat} {m : ImgM} {u : List Ent} {may : Nat → List ByteArray} {vs : Nat → Value} (hlt : q < l.length) (hxr : Ext w wr) (hm : m.Ok) (hsafe : Safe m u) (hfail : m.d.fail < 0) (hcov : Cov m may) (hn : 4 * m.t.length = 4 * c) (hml : ∀ j, j < 4 * c → (may j).length ≤ q + 1) (hpq : m.d.pend.length ≤ 5 * q + 10) (hwq : m.d.writes ≤ 5 * q + 10) (hown : own wr (imgAt b1 bd1 bh m :: devAt bd1 m.d :: pts bm (.cells (arr48 (4 * c) vs) 37 (0, 0)) :: (rowsO (4 * c) vs may ++ [exactly w]))) (Q0 : Exit → Go.Act → World → Prop) (k1 : ¬ ((l.getD q actNone).kind.toList == [119, 114, 105, 116, 101]) = true) (k2 : ¬ ((l.getD q actNone).kind.toList == [102, 105, 108, 108]) = true) (k3 : ¬ ((l.getD q actNone).kind.toList == [99, 108, 101, 97, 114]) = true) (k4 : ((l.getD q actNone).kind.toList == [102, 108, 117, 115, 104]) = true) :
    Code.wp Try.prog jBody (Exit.then (fun a' w'' => jWI w l.length (4 * c) b1 bd1 bh bm (.int .i64 (c : Int)) (.slice (some ⟨b, off, none⟩) l.length cap) kv (.pointer (some ⟨bd1, 0, none⟩)) (.pointer (some ⟨b1, 0, none⟩)) (.pointer (some ⟨bm, 0, none⟩)) a' w'' ∧ jMu l.length a' w'' < jMu l.length ⟨#[.int .i64 (c : Int), T 1, .slice (some ⟨b, off, none⟩) l.length cap, kv, T 4, T 5, T 6, T 7, T 8, .pointer (some ⟨bd1, 0, none⟩), T 10, .pointer (some ⟨b1, 0, none⟩), .pointer (some ⟨bm, 0, none⟩), T 13, .int .i64 (q : Int), T 15, T 16, T 17, T 18, T 19, T 20, T 21, T 22, T 23, T 24, T 25, T 26, T 27, T 28, T 29, T 30, T 31, T 32, T 33, T 34, T 35, T 36, T 37, T 38, T 39, T 40, T 41, T 42, T 43, T 44, T 45, T 46, T 47, T 48, T 49, T 50, T 51, T 52, T 53, T 54, T 55, T 56, T 57, T 58, T 59, T 60, T 61, T 62, T 63, T 64, T 65, T 66, T 67, T 68, T 69, T 70, T 71, T 72, T 73, T 74, T 75, T 76, T 77, T 78, T 79, T 80, T 81, T 82, T 83, T 84, T 85, T 86, T 87, T 88, T 89, T 90, T 91, T 92, T 93, T 94, T 95, T 96, T 97, T 98, T 99, T 100, T 101, T 102, T 103, T 104, T 105, T 106, T 107, T 108, T 109, T 110, T 111, T 112, T 113, T 114, T 115, T 116, T 117, T 118, T 119, T 120, T 121, T 122, T 123, T 124, T 125, T 126, T 127, T 128, T 129, T 130, T 131, T 132, T 133, T 134, T 135, T 136, T 137, T 138, T 139, T 140, T 141, T 142, T 143, T 144, T 145, T 146, T 147, T 148, T 149, T 150, T 151, T 152, T 153, T 154, T 155, T 156, T 157, T 158, T 159, T 160, T 161, T 162, T 163, T 164, T 165, T 166, T 167, T 168, T 169], []⟩ wr) Q0) ⟨#[.int .i64 (c : Int), T 1, .slice (some ⟨b, off, none⟩) l.length cap, kv, T 4, T 5, T 6, T 7, T 8, .pointer (some ⟨bd1, 0, none⟩), T 10, .pointer (some ⟨b1, 0, none⟩), .pointer (some ⟨bm, 0, none⟩), T 13, .int .i64 (q : Int), T 15, T 16, T 17, T 18, T 19, T 20, T 21, T 22, T 23, T 24, T 25, T 26, T 27, T 28, T 29, T 30, T 31, T 32, T 33, T 34, T 35, T 36, T 37, T 38, T 39, T 40, T 41, T 42, T 43, T 44, T 45, T 46, T 47, T 48, T 49, T 50, T 51, T 52, T 53, T 54, T 55, T 56, T 57, T 58, T 59, T 60, T 61, T 62, T 63, T 64, T 65, T 66, T 67, T 68, T 69, T 70, T 71, T 72, T 73, T 74, T 75, T 76, T 77, T 78, T 79, T 80, T 81, T 82, T 83, T 84, T 85, T 86, T 87, T 88, T 89, T 90, T 91, T 92, T 93, T 94, T 95, T 96, T 97, T 98, T 99, T 100, T 101, T 102, T 103, T 104, T 105, T 106, T 107, T 108, T 109, T 110, T 111, T 112, T 113, T 114, T 115, T 116, T 117, T 118, T 119, T 120, T 121, T 122, T 123, T 124, T 125, T 126, T 127, T 128, T 129, T 130, T 131, T 132, T 133, T 134, T 135, T 136, T 137, T 138, T 139, T 140, T 141, T 142, T 143, T 144, T 145, T 146, T 147, T 148, T 149, T 150, T 151, T 152, T 153, T 154, T 155, T 156, T 157, T 158, T 159, T 160, T 161, T 162, T 163, T 164, T 165, T 166, T 167, T 168, T 169], []⟩ wr := by
  conv => arg 2; whnf
  have hq : q ≤ l.length := by omega
  obtain ⟨c0, c1, c2, c3, c4, c5, c6⟩ := (HAT.out q hlt).later (3 + 4 * c) hown (rowsO_last (A := [imgAt b1 bd1 bh m, devAt bd1 m.d, pts bm (.cells (arr48 (4 * c) vs) 37 (0, 0))]) vs may rfl)
  have ok := HV.out.2 _ (all_getD hlt)
  obtain ⟨ko, kc, hkv, hkl⟩ := keep_len ok.keep
  rw [hkv] at c6
  have hAB := And.intro ok.A ok.B
  have hSz := ok.S
  clear hkv ok
  generalize l.getD q actNone = x at *
  have HAB := Lib.hid hAB
  have HSF := Lib.hid hsafe
  have HM := Lib.hid hm
  have HCV := Lib.hid hcov
  have HML := Lib.hid hml
  have HN := Lib.hid hn
  have HFA := Lib.hid hfail
  have hst := step_actT hm (by omega) (by omega) x
  have hct := cov_act hm hsafe hfail (by omega) (by omega) hcov x
  obtain ⟨u', hu'⟩ := hst.safe u hsafe
  have hsp := hst.pend
  have hsw := hst.wr
  have hok2 := hst.ok
  have hn2 : 4 * (actT m x).t.length = 4 * c := by
    have e1 := hst.ok.t
    have e2 := hm.t
    have e3 := hst.c
    omega
  obtain ⟨hct1, hct2⟩ := hct
  have HS2 := Lib.hid (And.intro hok2 (And.intro hu' (And.intro hct1 hct2)))
  have HN2 := Lib.hid hn2
  clear hsafe hm hcov hml hn hfail hAB hst hu' hok2 hn2 hct1 hct2
  go_upto_region 20 with (fail)
  have ha := own_behind [_, _] (own_alloc hown (.cells #[.string x.kind, .int .i64 x.A, .int .i64 x.B, .int .i64 x.C, .int .i64 x.D, .string x.S, .slice ko x.keep.length kc] 39))
  have hxa := hxr.alloc (.cells #[.string x.kind, .int .i64 x.A, .int .i64 x.B, .int .i64 x.C, .int .i64 x.D, .string x.S, .slice ko x.keep.length kc] 39)
  clear c0 c1 c2 c3 c4 c5 c6 hown hxr
  generalize wr.heap.size = ba at *
  generalize wr.alloc (.cells #[.string x.kind, .int .i64 x.A, .int .i64 x.B, .int .i64 x.C, .int .i64 x.D, .string x.S, .slice ko x.keep.length kc] 39) = wa at *
  obtain ⟨c', f⟩ := own_cells 2 ha rfl
  have kf := k4
  have hact : actT m x = m.flush := by unfold actT; rw [if_neg k1, if_neg k2, if_neg k3, if_pos k4]
  have hmay : mayT may m x = (fun i => [m.flush.shown i]) := by unfold mayT; rw [if_pos k4, hact]
  have hcovm := HS2.out.2.2.1
  rw [hmay, hact] at hcovm
  have HCT := Lib.hid hcovm
  clear hmay hcovm
  rw [hact] at hsp hsw HS2 HN2
  have HPOS := Lib.hid (fun (j : Nat) (hj : j < 4 * c) => (by
    have h := Cov.now HM.out HSF.out HCV.out (k := j) (by have := HN.out; omega)
    exact List.length_pos_of_mem h : 0 < (may j).length))
  clear hact
  have HC := Lib.hid (fun (R : List SL.HP) (w : World) (H : own w (imgAt b1 bd1 bh m :: devAt bd1 m.d :: R)) => imgflush_any b1 bd1 bh m HM.out.d R w H)
  rw [show m.d.flush = m.flush.d from rfl] at HC
  generalize hm2 : m.flush = m2 at *
  have HM2 := Lib.hid hm2
  clear hm2
  go_wp2_with fail
  refine (HC.out _ wa ha).mono ?_
  rintro e w4 ⟨rfl, hx4, h4⟩
  clear HC
  have h5 := h4
  have hx5 := hxa.trans hx4
  clear ha hxa c' f
  obtain ⟨wo, rfl⟩ : ∃ wo : World, wo = w4 := ⟨_, rfl⟩
  obtain ⟨c', f⟩ := own_cells 2 h5 rfl
  go_wp2_with fail
  go_loopw [16] (tIn (4 * c) b1 bd1 bh bm m2 (pts ba (.cells #[.string x.kind, .int .i64 x.A, .int .i64 x.B, .int .i64 x.C, .int .i64 x.D, .string x.S, .slice ko x.keep.length kc] 39 (0, 0))) may (fun i => [m2.shown i]) w) (fun i _ => 4 * c - (intOf i).toNat)
  case atStart => exact ⟨0, vs, may, by omega, rfl, fun j h => absurd h (by omega), fun j _ _ => rfl, hx5, h5⟩
  case round =>
    clear hx5 h5 c' f
    obtain ⟨k, vs', hs, hk, rfl, hlo, hhi, hxk, hown⟩ := hrel
    have HLO := Lib.hid hlo
    have HHI := Lib.hid hhi
    clear hlo hhi
    by_cases hkn : k < 4 * c
    · have HSW := Lib.hid (fun (R : List SL.HP) (w : World) (H : own w (imgAt b1 bd1 bh m2 :: devAt bd1 m2.d :: R)) => shown_any b1 bd1 bh m2 HS2.out.1 k (by have := HN2.out; omega) R w H)
      have e1 : IntKind.i64.wrap ((k : Int) + 1) = (k : Int) + 1 := IntWalk.i64_in _ (by omega)
      have i1 : (0 : Int) ≤ (k : Int) := by omega
      have i2 : (k : Int) < 48 := by omega
      have i3 : (k : Int) < 4 * (c : Int) := by omega
      generalize hS : m2.shown k = S at *
      have HSH := Lib.hid hS
      clear hS
      go_wp2_with fail
      refine (HSW.out _ wr hown).mono ?_
      rintro e w6 ⟨rfl, hx6, h6⟩
      have hx6' := hxk.trans hx6
      clear hx6 hown hxk
      obtain ⟨c', f⟩ := own_cells 2 h6 rfl
      have kf' := kf
      have h8 := own_row_one S h6
      have hatk := rowsO_at (A := [imgAt b1 bd1 bh m2, devAt bd1 m2.d, pts ba (.cells #[.string x.kind, .int .i64 x.A, .int .i64 x.B, .int .i64 x.C, .int .i64 x.D, .string x.S, .slice ko x.keep.length kc] 39 (0, 0)), pts bm (.cells (arr48 (4 * c) vs') 37 (0, 0))]) (R := [exactly w]) vs' hs hkn
      have h9 := own_swap_row hatk h8
      rw [rowsO_put (A := [imgAt b1 bd1 bh m2, devAt bd1 m2.d, pts ba (.cells #[.string x.kind, .int .i64 x.A, .int .i64 x.B, .int .i64 x.C, .int .i64 x.D, .string x.S, .slice ko x.keep.length kc] 39 (0, 0)), pts bm (.cells (arr48 (4 * c) vs') 37 (0, 0))]) (R := [exactly w]) vs' hs (.slice (some ⟨w6.heap.size, 0, none⟩) 1 1) [S] hkn] at h9
      have hx9 := hx6'.alloc (.cells #[.string S] 9)
      have hff := own_cells 3 h9 rfl
      obtain ⟨ca, fa⟩ := hff
      have hca : (w6.alloc (.cells #[.string S] 9)).cell? ⟨bm, k, none⟩ = some (vs' k) := by rw [ca]; exact arr48_get vs' (by omega) hkn
      clear ca h8 hatk
      go_wp2_with fail
      go_roundw
      case rel =>
        have h10 := own_set (i := k) (v := .slice (some ⟨w6.heap.size, 0, none⟩) 1 1) 3 h9 rfl
        refine ⟨k + 1, upd vs' k (.slice (some ⟨w6.heap.size, 0, none⟩) 1 1), upd hs k [S], by omega, by go_num, fun j hj => ?_, fun j h1 h2 => ?_, hx9.setCell _ _, ?_⟩
        · by_cases ej : j = k
          · subst ej; rw [upd_same]; show _ = [m2.shown j]; rw [HSH.out]
          · rw [upd_other _ _ ej]; exact HLO.out j (by omega)
        · rw [upd_other _ _ (by omega)]; exact HHI.out j (by omega) h2
        · rw [← arr48_set _ _ hkn]
          exact h10
      case measure => simp [intOf]; omega
    · have hkn' : k = 4 * c := by omega
      have i3 : ¬ ((k : Int) < 4 * (c : Int)) := by omega
      go_wp2_with fail
      refine ⟨jWI_mk rfl rfl rfl rfl rfl rfl rfl rfl ⟨q + 1, m2, u', (fun i => [m2.shown i]), vs', by omega, by go_num, hxk, HS2.out.1, HS2.out.2.1, HS2.out.2.2.2, HCT.out, HN2.out, fun j hj => ?_, by omega, by omega, ?_⟩, by simp [jMu, intOf]; omega⟩
      · simp
      · have h9 := own_erase 2 hown rfl
        rw [rowsO_same vs' (fun j hj => HLO.out j (by omega))] at h9
        exact h9

set_option maxRecDepth 1000000 in
set_option maxHeartbeats 8000000 in
theorem jRound5 {b off cap c : Nat} {kv : Value} {l : List Act} {w wr : World} (hc1 : 1 ≤ c) (hc12 : c ≤ 12) (hL40 : l.length ≤ 40) (HAT : Hid (∀ i, i < l.length → ActCells w b (off + i * 7) (l.getD i actNone))) (HV : Hid (ActsAt w (.slice (some ⟨b, off, none⟩) l.length cap) l))
    (T : Nat → Value) {q b1 bd1 bh bm : Nat} {m : ImgM} {u : List Ent} {may : Nat → List ByteArray} {vs : Nat → Value} (hlt : q < l.length) (hxr : Ext w wr) (hm : m.Ok) (hsafe : Safe m u) (hfail : m.d.fail < 0) (hcov : Cov m may) (hn : 4 * m.t.length = 4 * c) (hml : ∀ j, j < 4 * c → (may j).length ≤ q + 1) (hpq : m.d.pend.length ≤ 5 * q + 10) (hwq : m.d.writes ≤ 5 * q + 10) (hown : own wr (imgAt b1 bd1 bh m :: devAt bd1 m.d :: pts bm (.cells (arr48 (4 * c) vs) 37 (0, 0)) :: (rowsO (4 * c) vs may ++ [exactly w]))) (Q0 : Exit → Go.Act → World → Prop) (k1 : ¬ ((l.getD q actNone).kind.toList == [119, 114, 105, 116, 101]) = true) (k2 : ¬ ((l.getD q actNone).kind.toList == [102, 105, 108, 108]) = true) (k3 : ¬ ((l.getD q actNone).kind.toList == [99, 108, 101, 97, 114]) = true) (k4 : ¬ ((l.getD q actNone).kind.toList == [102, 108, 117, 115, 104]) = true) :
    Code.wp Try.prog jBody (Exit.then (fun a' w'' => jWI w l.length (4 * c) b1 bd1 bh bm (.int .i64 (c : Int)) (.slice (some ⟨b, off, none⟩) l.length cap) kv (.pointer (some ⟨bd1, 0, none⟩)) (.pointer (some ⟨b1, 0, none⟩)) (.pointer (some ⟨bm, 0, none⟩)) a' w'' ∧ jMu l.length a' w'' < jMu l.length ⟨#[.int .i64 (c : Int), T 1, .slice (some ⟨b, off, none⟩) l.length cap, kv, T 4, T 5, T 6, T 7, T 8, .pointer (some ⟨bd1, 0, none⟩), T 10, .pointer (some ⟨b1, 0, none⟩), .pointer (some ⟨bm, 0, none⟩), T 13, .int .i64 (q : Int), T 15, T 16, T 17, T 18, T 19, T 20, T 21, T 22, T 23, T 24, T 25, T 26, T 27, T 28, T 29, T 30, T 31, T 32, T 33, T 34, T 35, T 36, T 37, T 38, T 39, T 40, T 41, T 42, T 43, T 44, T 45, T 46, T 47, T 48, T 49, T 50, T 51, T 52, T 53, T 54, T 55, T 56, T 57, T 58, T 59, T 60, T 61, T 62, T 63, T 64, T 65, T 66, T 67, T 68, T 69, T 70, T 71, T 72, T 73, T 74, T 75, T 76, T 77, T 78, T 79, T 80, T 81, T 82, T 83, T 84, T 85, T 86, T 87, T 88, T 89, T 90, T 91, T 92, T 93, T 94, T 95, T 96, T 97, T 98, T 99, T 100, T 101, T 102, T 103, T 104, T 105, T 106, T 107, T 108, T 109, T 110, T 111, T 112, T 113, T 114, T 115, T 116, T 117, T 118, T 119, T 120, T 121, T 122, T 123, T 124, T 125, T 126, T 127, T 128, T 129, T 130, T 131, T 132, T 133, T 134, T 135, T 136, T 137, T 138, T 139, T 140, T 141, T 142, T 143, T 144, T 145, T 146, T 147, T 148, T 149, T 150, T 151, T 152, T 153, T 154, T 155, T 156, T 157, T 158, T 159, T 160, T 161, T 162, T 163, T 164, T 165, T 166, T 167, T 168, T 169], []⟩ wr) Q0) ⟨#[.int .i64 (c : Int), T 1, .slice (some ⟨b, off, none⟩) l.length cap, kv, T 4, T 5, T 6, T 7, T 8, .pointer (some ⟨bd1, 0, none⟩), T 10, .pointer (some ⟨b1, 0, none⟩), .pointer (some ⟨bm, 0, none⟩), T 13, .int .i64 (q : Int), T 15, T 16, T 17, T 18, T 19, T 20, T 21, T 22, T 23, T 24, T 25, T 26, T 27, T 28, T 29, T 30, T 31, T 32, T 33, T 34, T 35, T 36, T 37, T 38, T 39, T 40, T 41, T 42, T 43, T 44, T 45, T 46, T 47, T 48, T 49, T 50, T 51, T 52, T 53, T 54, T 55, T 56, T 57, T 58, T 59, T 60, T 61, T 62, T 63, T 64, T 65, T 66, T 67, T 68, T 69, T 70, T 71, T 72, T 73, T 74, T 75, T 76, T 77, T 78, T 79, T 80, T 81, T 82, T 83, T 84, T 85, T 86, T 87, T 88, T 89, T 90, T 91, T 92, T 93, T 94, T 95, T 96, T 97, T 98, T 99, T 100, T 101, T 102, T 103, T 104, T 105, T 106, T 107, T 108, T 109, T 110, T 111, T 112, T 113, T 114, T 115, T 116, T 117, T 118, T 119, T 120, T 121, T 122, T 123, T 124, T 125, T 126, T 127, T 128, T 129, T 130, T 131, T 132, T 133, T 134, T 135, T 136, T 137, T 138, T 139, T 140, T 141, T 142, T 143, T 144, T 145, T 146, T 147, T 148, T 149, T 150, T 151, T 152, T 153, T 154, T 155, T 156, T 157, T 158, T 159, T 160, T 161, T 162, T 163, T 164, T 165, T 166, T 167, T 168, T 169], []⟩ wr := by
  conv => arg 2; whnf
  have hq : q ≤ l.length := by omega
  obtain ⟨c0, c1, c2, c3, c4, c5, c6⟩ := (HAT.out q hlt).later (3 + 4 * c) hown (rowsO_last (A := [imgAt b1 bd1 bh m, devAt bd1 m.d, pts bm (.cells (arr48 (4 * c) vs) 37 (0, 0))]) vs may rfl)
  have ok := HV.out.2 _ (all_getD hlt)
  obtain ⟨ko, kc, hkv, hkl⟩ := keep_len ok.keep
  rw [hkv] at c6
  have hAB := And.intro ok.A ok.B
  have hSz := ok.S
  clear hkv ok
  generalize l.getD q actNone = x at *
  have HAB := Lib.hid hAB
  have HSF := Lib.hid hsafe
  have HM := Lib.hid hm
  have HCV := Lib.hid hcov
  have HML := Lib.hid hml
  have HN := Lib.hid hn
  have HFA := Lib.hid hfail
  have hst := step_actT hm (by omega) (by omega) x
  have hct := cov_act hm hsafe hfail (by omega) (by omega) hcov x
  obtain ⟨u', hu'⟩ := hst.safe u hsafe
  have hsp := hst.pend
  have hsw := hst.wr
  have hok2 := hst.ok
  have hn2 : 4 * (actT m x).t.length = 4 * c := by
    have e1 := hst.ok.t
    have e2 := hm.t
    have e3 := hst.c
    omega
  obtain ⟨hct1, hct2⟩ := hct
  have HS2 := Lib.hid (And.intro hok2 (And.intro hu' (And.intro hct1 hct2)))
  have HN2 := Lib.hid hn2
  clear hsafe hm hcov hml hn hfail hAB hst hu' hok2 hn2 hct1 hct2
  go_upto_region 20 with (fail)
  have ha := own_behind [_, _] (own_alloc hown (.cells #[.string x.kind, .int .i64 x.A, .int .i64 x.B, .int .i64 x.C, .int .i64 x.D, .string x.S, .slice ko x.keep.length kc] 39))
  have hxa := hxr.alloc (.cells #[.string x.kind, .int .i64 x.A, .int .i64 x.B, .int .i64 x.C, .int .i64 x.D, .string x.S, .slice ko x.keep.length kc] 39)
  clear c0 c1 c2 c3 c4 c5 c6 hown hxr
  generalize wr.heap.size = ba at *
  generalize wr.alloc (.cells #[.string x.kind, .int .i64 x.A, .int .i64 x.B, .int .i64 x.C, .int .i64 x.D, .string x.S, .slice ko x.keep.length kc] 39) = wa at *
  obtain ⟨c', f⟩ := own_cells 2 ha rfl
  have kf := k4
  have hact : actT m x = m := by unfold actT; rw [if_neg k1, if_neg k2, if_neg k3, if_neg k4]
  have hmay : mayT may m x = (fun i => may i ++ [m.shown i]) := by unfold mayT; rw [if_neg k4, hact]; rfl
  have hcovm := HS2.out.2.2.1
  rw [hmay, hact] at hcovm
  have HCT := Lib.hid hcovm
  clear hmay hcovm
  rw [hact] at hsp hsw HS2 HN2
  have HPOS := Lib.hid (fun (j : Nat) (hj : j < 4 * c) => (by
    have h := Cov.now HM.out HSF.out HCV.out (k := j) (by have := HN.out; omega)
    exact List.length_pos_of_mem h : 0 < (may j).length))
  clear hact
  obtain ⟨m2, rfl⟩ : ∃ m2, m2 = m := ⟨_, rfl⟩
  have h5 := ha
  have hx5 := hxa
  clear ha hxa c' f
  obtain ⟨wo, rfl⟩ : ∃ wo : World, wo = wa := ⟨_, rfl⟩
  obtain ⟨c', f⟩ := own_cells 2 h5 rfl
  go_wp2_with fail
  go_loopw [16] (tIn (4 * c) b1 bd1 bh bm m2 (pts ba (.cells #[.string x.kind, .int .i64 x.A, .int .i64 x.B, .int .i64 x.C, .int .i64 x.D, .string x.S, .slice ko x.keep.length kc] 39 (0, 0))) may (fun i => may i ++ [m2.shown i]) w) (fun i _ => 4 * c - (intOf i).toNat)
  case atStart => exact ⟨0, vs, may, by omega, rfl, fun j h => absurd h (by omega), fun j _ _ => rfl, hx5, h5⟩
  case round =>
    clear hx5 h5 c' f
    obtain ⟨k, vs', hs, hk, rfl, hlo, hhi, hxk, hown⟩ := hrel
    have HLO := Lib.hid hlo
    have HHI := Lib.hid hhi
    clear hlo hhi
    by_cases hkn : k < 4 * c
    · have HSW := Lib.hid (fun (R : List SL.HP) (w : World) (H : own w (imgAt b1 bd1 bh m2 :: devAt bd1 m2.d :: R)) => shown_any b1 bd1 bh m2 HS2.out.1 k (by have := HN2.out; omega) R w H)
      have e1 : IntKind.i64.wrap ((k : Int) + 1) = (k : Int) + 1 := IntWalk.i64_in _ (by omega)
      have i1 : (0 : Int) ≤ (k : Int) := by omega
      have i2 : (k : Int) < 48 := by omega
      have i3 : (k : Int) < 4 * (c : Int) := by omega
      generalize hS : m2.shown k = S at *
      have HSH := Lib.hid hS
      clear hS
      go_wp2_with fail
      refine (HSW.out _ wr hown).mono ?_
      rintro e w6 ⟨rfl, hx6, h6⟩
      have hx6' := hxk.trans hx6
      clear hx6 hown hxk
      obtain ⟨c', f⟩ := own_cells 2 h6 rfl
      have kf' := kf
      have hatk := rowsO_at (A := [imgAt b1 bd1 bh m2, devAt bd1 m2.d, pts ba (.cells #[.string x.kind, .int .i64 x.A, .int .i64 x.B, .int .i64 x.C, .int .i64 x.D, .string x.S, .slice ko x.keep.length kc] 39 (0, 0)), pts bm (.cells (arr48 (4 * c) vs') 37 (0, 0))]) (R := [exactly w]) vs' hs hkn
      obtain ⟨ao9, g9, o9, cp9, hv9, p1, p2, p3, -, -⟩ := own_rowo_form (4 + k) h6 hatk
      have hmlk : (hs k).length ≤ q + 1 := by rw [HHI.out k (Nat.le_refl _) hkn]; exact HML.out k hkn
      have hposk : 0 < (hs k).length := by rw [HHI.out k (Nat.le_refl _) hkn]; exact HPOS.out k hkn
      obtain rfl := p3 hposk
      have hml2 : (hs k).length + 1 ≤ maxLen := by simp only [maxLen]; omega
      obtain ⟨ca, fa⟩ := own_cells 3 h6 rfl
      have hca : w6.cell? ⟨bm, k, none⟩ = some (.slice (some ⟨g9, o9, none⟩) (hs k).length cp9) := by rw [ca, ← hv9]; exact arr48_get vs' (by omega) hkn
      have h8 := own_alloc h6 (.cells #[.string S] 9)
      rw [hv9] at hatk
      have HATK := Lib.hid hatk
      have HHK := Lib.hid (HHI.out k (Nat.le_refl _) hkn)
      clear ca hatk hv9 p3
      go_wp2_with (first | (at_builtin; refine wpList_append_rowo rfl _ _ 36 rfl (5 + k) 9 Try.underlying36 elem_string rfl (by decide) rfl h8 (by rw [show 5 + k = (4 + k) + 1 by omega, List.getElem?_cons_succ]; exact HATK.out) ⟨w6.heap.size, 0, none⟩ 1 1 [.string S] rfl rfl (fun j u hu => (alloc_news w6 [.string S] 9) _ rfl j u hu) (one_str _) hml2 (by omega) ?_))
      intro g6 o6 cp6 w7 z1 z2 h9' hx7
      have e9 := rowsO_put (A := [imgAt b1 bd1 bh m2, devAt bd1 m2.d, pts ba (.cells #[.string x.kind, .int .i64 x.A, .int .i64 x.B, .int .i64 x.C, .int .i64 x.D, .string x.S, .slice ko x.keep.length kc] 39 (0, 0)), pts bm (.cells (arr48 (4 * c) vs') 37 (0, 0))]) (R := [exactly w]) vs' hs (.slice (some ⟨g6, o6, none⟩) ((hs k).length + 1) cp6) (hs k ++ [S]) hkn
      rw [show (hs k ++ [S]).length = (hs k).length + 1 by simp, show strCells (hs k ++ [S]) = strCells (hs k) ++ [.string S] by simp [strCells]] at e9
      have h9 : own w7 (imgAt b1 bd1 bh m2 :: devAt bd1 m2.d :: pts ba (.cells #[.string x.kind, .int .i64 x.A, .int .i64 x.B, .int .i64 x.C, .int .i64 x.D, .string x.S, .slice ko x.keep.length kc] 39 (0, 0)) :: pts bm (.cells (arr48 (4 * c) vs') 37 (0, 0)) :: (rowsO (4 * c) (upd vs' k (.slice (some ⟨g6, o6, none⟩) ((hs k).length + 1) cp6)) (upd hs k (hs k ++ [S])) ++ [exactly w])) := by
        have h' := own_drop (by rw [show 5 + k = (4 + k) + 1 by omega, List.set_cons_succ] at h9'; exact h9')
        exact (congrArg (own w7) e9).mp h'
      have hx9 := (hx6'.alloc (.cells #[.string S] 9)).trans hx7
      clear h9' e9 h8 fa hca
      obtain ⟨ca, fa⟩ := own_cells 3 h9 rfl
      have hca : w7.cell? ⟨bm, k, none⟩ = some (vs' k) := by rw [ca]; exact arr48_get vs' (by omega) hkn
      clear ca
      go_wp2_with fail
      go_roundw
      case rel =>
        have h10 := own_set (i := k) (v := .slice (some ⟨g6, o6, none⟩) ((hs k).length + 1) cp6) 3 h9 rfl
        refine ⟨k + 1, upd vs' k (.slice (some ⟨g6, o6, none⟩) ((hs k).length + 1) cp6), upd hs k (hs k ++ [S]), by omega, by go_num, fun j hj => ?_, fun j h1 h2 => ?_, hx9.setCell _ _, ?_⟩
        · by_cases ej : j = k
          · subst ej; rw [upd_same]; show _ = may j ++ [m2.shown j]; rw [HSH.out, HHK.out]
          · rw [upd_other _ _ ej]; exact HLO.out j (by omega)
        · rw [upd_other _ _ (by omega)]; exact HHI.out j (by omega) h2
        · rw [← arr48_set _ _ hkn]
          exact h10
      case measure => simp [intOf]; omega
    · have hkn' : k = 4 * c := by omega
      have i3 : ¬ ((k : Int) < 4 * (c : Int)) := by omega
      go_wp2_with fail
      refine ⟨jWI_mk rfl rfl rfl rfl rfl rfl rfl rfl ⟨q + 1, m2, u', (fun i => may i ++ [m2.shown i]), vs', by omega, by go_num, hxk, HS2.out.1, HS2.out.2.1, HS2.out.2.2.2, HCT.out, HN2.out, fun j hj => ?_, by omega, by omega, ?_⟩, by simp [jMu, intOf]; omega⟩
      · have h := HML.out j hj; rw [List.length_append]; simp only [List.length_cons, List.length_nil]; omega
      · have h9 := own_erase 2 hown rfl
        rw [rowsO_same vs' (fun j hj => HLO.out j (by omega))] at h9
        exact h9

set_option maxRecDepth 1000000 in
set_option maxHeartbeats 8000000 in
theorem jRound {b off cap c : Nat} {ao : Option Addr} {kv : Value} {l : List Act} {w : World} {b1 bd1 bh bm : Nat} (hc1 : 1 ≤ c) (hc12 : c ≤ 12) (hao : 0 < l.length → ao = some ⟨b, off, none⟩) (hL40 : l.length ≤ 40) (HAT : Hid (∀ i, i < l.length → ActCells w b (off + i * 7) (l.getD i actNone))) (HV : Hid (ActsAt w (.slice ao l.length cap) l)) (Q0 : Exit → Go.Act → World → Prop)
    (hexit : ∀ a w', jWI w l.length (4 * c) b1 bd1 bh bm (.int .i64 (c : Int)) (.slice ao l.length cap) kv (.pointer (some ⟨bd1, 0, none⟩)) (.pointer (some ⟨b1, 0, none⟩)) (.pointer (some ⟨bm, 0, none⟩)) a w' → Q0 (.exit 2) a w') (a : Go.Act) (wr : World) (hI : jWI w l.length (4 * c) b1 bd1 bh bm (.int .i64 (c : Int)) (.slice ao l.length cap) kv (.pointer (some ⟨bd1, 0, none⟩)) (.pointer (some ⟨b1, 0, none⟩)) (.pointer (some ⟨bm, 0, none⟩)) a wr) :
    Code.wp Try.prog jBody (Exit.then (fun a' w'' => jWI w l.length (4 * c) b1 bd1 bh bm (.int .i64 (c : Int)) (.slice ao l.length cap) kv (.pointer (some ⟨bd1, 0, none⟩)) (.pointer (some ⟨b1, 0, none⟩)) (.pointer (some ⟨bm, 0, none⟩)) a' w'' ∧ jMu l.length a' w'' < jMu l.length a wr) Q0) a wr := by
  obtain ⟨T, i, ⟨q, m, u, may, vs, hq, rfl, hxr, hm, hsafe, hfail, hcov, hn, hml, hpq, hwq, hown⟩, rfl⟩ := hI
  by_cases hlt : q < l.length
  · obtain rfl := hao (by omega)
    by_cases k1 : ((l.getD q actNone).kind.toList == [119, 114, 105, 116, 101]) = true
    · exact jRound1 hc1 hc12 hL40 HAT HV T hlt hxr hm hsafe hfail hcov hn hml hpq hwq hown Q0 k1
    by_cases k2 : ((l.getD q actNone).kind.toList == [102, 105, 108, 108]) = true
    · exact jRound2 hc1 hc12 hL40 HAT HV T hlt hxr hm hsafe hfail hcov hn hml hpq hwq hown Q0 k1 k2
    by_cases k3 : ((l.getD q actNone).kind.toList == [99, 108, 101, 97, 114]) = true
    · exact jRound3 hc1 hc12 hL40 HAT HV T hlt hxr hm hsafe hfail hcov hn hml hpq hwq hown Q0 k1 k2 k3
    by_cases k4 : ((l.getD q actNone).kind.toList == [102, 108, 117, 115, 104]) = true
    · exact jRound4 hc1 hc12 hL40 HAT HV T hlt hxr hm hsafe hfail hcov hn hml hpq hwq hown Q0 k1 k2 k3 k4
    · exact jRound5 hc1 hc12 hL40 HAT HV T hlt hxr hm hsafe hfail hcov hn hml hpq hwq hown Q0 k1 k2 k3 k4
  · conv => arg 2; whnf
    go_wp2_with fail
    exact jWI_mk rfl rfl rfl rfl rfl rfl rfl rfl ⟨q, m, u, may, vs, hq, rfl, hxr, hm, hsafe, hfail, hcov, hn, hml, hpq, hwq, hown⟩

end Go.Proofs.Ytbpblokfiajpjab
