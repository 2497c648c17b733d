/- The document's device: Noughts, and what its methods do. No conditions. -/
import Derived.Test.YtbpblokfiajpjaaDev6
import Derived.Laws.BytesArg
import Derived.Laws.OwnMore
namespace Go.Proofs.Ytbpblokfiajpjaa
open Go.RowKit Go.SL

def zs (n : Nat) : ByteArray := ⟨(List.replicate n 0).toArray⟩
theorem zs_size (n : Nat) : (zs n).size = n := by simp [zs, ByteArray.size]
theorem zs_16 : zs 16 = sect0 := rfl
theorem elem_byte : Elem Try.prog 5 1 1 (.int .u8 0) := by unfold Elem; kernel_rfl
theorem elem_int : Elem Try.prog 3 1 8 (.int .i64 0) := by unfold Elem; kernel_rfl

set_option maxRecDepth 100000 in
set_option maxHeartbeats 1000000 in
theorem noughts_any (n : Nat) (hn : n ≤ 1000000) (R : List SL.HP) (w : World) (H : own w R) : Calls Try.prog 75 #[.int .i64 n] w fun e w' => e = .returned (.string (zs n)) ∧ Ext w w' ∧ own w' R := by
  go_enter Try.func75, Try.ntmps75
  have hml : n ≤ maxLen := by simp only [maxLen]; omega
  go_wp2_with (first | (refine wpList_make_row rfl _ _ 96 rfl 5 Try.underlying96 elem_byte rfl .i64 .i64 n rfl rfl (by omega) hml H ?_))
  intro w1 h1 hx1
  obtain ⟨k2, -⟩ := own_row_cells 0 h1 rfl
  have hcv : ∀ i, i < n → w1.cell? ⟨w.heap.size, 0 + i, none⟩ = some (.int .u8 ((List.replicate n (0 : Int)).getD i 0)) := fun i hi => by
    rw [Nat.zero_add]
    refine k2 i _ ?_
    try simp only [Nat.mul_one]
    try rw [show (Value.int IntKind.u8 0).cells = #[.int .u8 0] from rfl]
    rw [toList_madeCells_one]
    simp [hi]
  have hconv := run_convert_bytes_arg (P := Try.prog) w1 96 5 Try.underlying96 Try.underlying5 w.heap.size 0 n n (List.replicate n (0 : Int)) (by simp) hcv 9 Try.underlying9
  have hz : strOfNums (List.replicate n (0 : Int)) = zs n := by
    unfold strOfNums zs
    simp
  rw [hz] at hconv
  clear hz hcv k2
  go_wp2_with fail
  go_ret
  exact ⟨rfl, hx1, own_drop h1⟩

def intCells (l : List (Int × ByteArray)) : List Value := l.map fun x => .int .i64 x.1
def whatCells (l : List (Int × ByteArray)) : List Value := l.map fun x => .string x.2
theorem intCells_get {l : List (Int × ByteArray)} {i : Nat} (h : i < l.length) : (intCells l)[i]? = some (.int .i64 (l.getD i (0, ByteArray.empty)).1) := by simp [intCells, h]
theorem whatCells_get {l : List (Int × ByteArray)} {i : Nat} (h : i < l.length) : (whatCells l)[i]? = some (.string (l.getD i (0, ByteArray.empty)).2) := by simp [whatCells, h]
theorem intCells_one {l : List (Int × ByteArray)} : ∀ u ∈ intCells l, u.oneCell' = true := fun u hu => by
  obtain ⟨_, _, rfl⟩ := List.mem_map.1 hu; rfl
theorem one_int (k : Int) : ∀ u ∈ [Value.int .i64 k], u.oneCell' = true := fun u hu => by simp at hu; subst hu; rfl

def rdevAt (b : Nat) (m : DevM) : HP := exi fun v : Value × Value × Value => star [pts b (.cells #[v.1, v.2.1, v.2.2, .int .i64 m.fail, .int .i64 m.writes] 90 (0, 0)), row 9 1 v.1 m.fl.length (strCells m.fl), row 3 1 v.2.1 m.pend.length (intCells m.pend), row 9 1 v.2.2 m.pend.length (whatCells m.pend)]

theorem rdev_open {w : World} {b : Nat} {m : DevM} {R : List HP} (H : own w (rdevAt b m :: R)) : ∃ vf va vw, own w (pts b (.cells #[vf, va, vw, .int .i64 m.fail, .int .i64 m.writes] 90 (0, 0)) :: row 9 1 vf m.fl.length (strCells m.fl) :: row 3 1 va m.pend.length (intCells m.pend) :: row 9 1 vw m.pend.length (whatCells m.pend) :: R) := by
  obtain ⟨v, h⟩ := own_open 0 (L := fun v : Value × Value × Value => [pts b (.cells #[v.1, v.2.1, v.2.2, .int .i64 m.fail, .int .i64 m.writes] 90 (0, 0)), row 9 1 v.1 m.fl.length (strCells m.fl), row 3 1 v.2.1 m.pend.length (intCells m.pend), row 9 1 v.2.2 m.pend.length (whatCells m.pend)]) H rfl fun h hh => hh
  exact ⟨v.1, v.2.1, v.2.2, h⟩
theorem rdev_close {w : World} {b : Nat} {m : DevM} {R : List HP} {vf va vw : Value} (H : own w (pts b (.cells #[vf, va, vw, .int .i64 m.fail, .int .i64 m.writes] 90 (0, 0)) :: row 9 1 vf m.fl.length (strCells m.fl) :: row 3 1 va m.pend.length (intCells m.pend) :: row 9 1 vw m.pend.length (whatCells m.pend) :: R)) : own w (rdevAt b m :: R) :=
  own_close [pts b (.cells #[vf, va, vw, .int .i64 m.fail, .int .i64 m.writes] 90 (0, 0)), row 9 1 vf m.fl.length (strCells m.fl), row 3 1 va m.pend.length (intCells m.pend), row 9 1 vw m.pend.length (whatCells m.pend)] (fun h hh => ⟨(vf, va, vw), hh⟩) H

/-! ### Seen -/
set_option maxRecDepth 100000 in
set_option maxHeartbeats 1000000 in
theorem rdev_seen (b : Nat) (m : DevM) (hm : m.Ok) (n : Int) (h1 : 0 ≤ n) (h2 : n < m.fl.length) (R : List SL.HP) (w : World) (H : own w (rdevAt b m :: R)) :
    Calls Try.prog 54 #[.pointer (some ⟨b, 0, none⟩), .int .i64 n] w fun e w' => e = .returned (.string (m.seen n)) ∧ w = w' := by
  obtain ⟨vf, va, vw, h⟩ := rdev_open H
  have hl1 := hm.n
  have hl2 := hm.p
  obtain ⟨k, rfl⟩ := Int.eq_ofNat_of_zero_le h1
  obtain ⟨af, gf, cf, rfl, f1, f2, f3, -, -, f6, -⟩ := own_row_form 1 h rfl
  obtain ⟨aa, ga, ca, rfl, a1, a2, a3, -, -, a6, -⟩ := own_row_form 2 h rfl
  obtain ⟨aw, gw, cw, rfl, w1, w2, w3, -, -, w6, -⟩ := own_row_form 3 h rfl
  obtain ⟨c, f⟩ := own_cells 0 h rfl
  have cl : w.cell? ⟨gf, k, none⟩ = some (.string (m.fl.getD k ByteArray.empty)) := f6 k _ (strCells_get (by omega))
  have A6 := Lib.hid a6
  have W6 := Lib.hid w6
  have A3 := Lib.hid a3
  have W3 := Lib.hid w3
  obtain rfl := f3 (by omega)
  clear f3 f6 a3 a6 w3 w6
  go_enter Try.func54, Try.ntmps54
  go_wp2_with fail
  go_loop [5, 6] (fun s i => ∃ q : Nat, q ≤ m.pend.length ∧ i = .int .i64 q ∧ s = .string ((m.pend.take q).foldl (fun s x => if x.1 = (k : Int) then x.2 else s) (m.fl.getD k ByteArray.empty))) (fun s i => m.pend.length - (intOf i).toNat)
  case atStart => exact ⟨0, Nat.zero_le _, rfl, rfl⟩
  case round =>
    obtain ⟨q, hq, rfl, rfl⟩ := hrel
    by_cases hlt : q < m.pend.length
    · obtain rfl := A3.out (by omega)
      obtain rfl := W3.out (by omega)
      have c1 := A6.out q _ (intCells_get hlt)
      have c2 := W6.out q _ (whatCells_get hlt)
      have hto := take_succ_getD (0, ByteArray.empty) hlt
      have HT := Lib.hid hto
      clear hto
      generalize hx : m.pend.getD q (0, ByteArray.empty) = x at *
      clear hx
      generalize hg : (m.pend.take q).foldl (fun s x => if x.1 = (k : Int) then x.2 else s) (m.fl.getD k ByteArray.empty) = t at *
      have HG := Lib.hid hg
      clear hg
      by_cases he : x.1 = (k : Int)
      · go_wp2_with fail
        go_round
        case rel => exact ⟨q + 1, by omega, by go_num, by rw [HT.out, List.foldl_append, HG.out]; simp [he]⟩
        case measure => simp [intOf]; omega
      · go_wp2_with fail
        go_round
        case rel => exact ⟨q + 1, by omega, by go_num, by rw [HT.out, List.foldl_append, HG.out]; simp [he]⟩
        case measure => simp [intOf]; omega
    · have hq' : q = m.pend.length := by omega
      subst hq'
      rw [List.take_length]
      clear A6 W6
      go_wp2_with fail
      go_ret
      exact ⟨rfl, rfl⟩

/-! ### Bytes -/
set_option maxRecDepth 100000 in
set_option maxHeartbeats 1000000 in
theorem rdev_bytes (b : Nat) (m : DevM) (hm : m.Ok) (R : List SL.HP) (w : World) (H : own w (rdevAt b m :: R)) :
    Calls Try.prog 85 #[.pointer (some ⟨b, 0, none⟩)] w fun e w' => e = .returned (.string (cat m.fl)) ∧ w = w' := by
  obtain ⟨vf, va, vw, h⟩ := rdev_open H
  have hl1 := hm.n
  obtain ⟨af, gf, cf, rfl, f1, f2, f3, -, -, f6, -⟩ := own_row_form 1 h rfl
  obtain ⟨c, f⟩ := own_cells 0 h rfl
  have F6 := Lib.hid f6
  have F3 := Lib.hid f3
  clear f3 f6
  go_enter Try.func85, Try.ntmps85
  go_wp2_with fail
  go_loop [3, 4] (fun s i => ∃ q : Nat, q ≤ m.fl.length ∧ i = .int .i64 q ∧ s = .string (cat (m.fl.take q))) (fun s i => m.fl.length - (intOf i).toNat)
  case atStart => exact ⟨0, Nat.zero_le _, rfl, rfl⟩
  case round =>
    obtain ⟨q, hq, rfl, rfl⟩ := hrel
    by_cases hlt : q < m.fl.length
    · obtain rfl := F3.out (by omega)
      have c1 := F6.out q _ (strCells_get hlt)
      have hto := take_succ_getD ByteArray.empty hlt
      have hsz : (cat (m.fl.take q)).size = q * 16 := by
        have := catL_length (l := m.fl.take q) fun s hs => hm.fl s (List.mem_of_mem_take hs)
        rw [List.length_take, Nat.min_eq_left (by omega)] at this
        simpa [cat, ByteArray.size] using this
      have hmem := hm.fl (m.fl.getD q ByteArray.empty) (by simp [hlt])
      have hcat : cat (m.fl.take (q + 1)) = cat (m.fl.take q) ++ m.fl.getD q ByteArray.empty := by
        rw [hto]
        apply Go.WideShapes.bytes_inj
        simp [cat, catL]
      have HC := Lib.hid hcat
      clear hto hcat
      generalize m.fl.getD q ByteArray.empty = x at *
      generalize cat (m.fl.take q) = t at *
      go_wp2_with fail
      go_round
      case rel => exact ⟨q + 1, by omega, by go_num, by rw [HC.out]⟩
      case measure => simp [intOf]; omega
    · have hq' : q = m.fl.length := by omega
      subst hq'
      rw [List.take_length]
      clear F6
      go_wp2_with fail
      go_ret
      exact ⟨rfl, rfl⟩
end Go.Proofs.Ytbpblokfiajpjaa
