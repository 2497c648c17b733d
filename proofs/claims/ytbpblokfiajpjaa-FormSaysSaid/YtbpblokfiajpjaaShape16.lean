/- Two tables compared; a head is written and read. No conditions. -/
import Derived.Test.YtbpblokfiajpjaaShape15
import Derived.Test.YtbpblokfiajpjaaShape9
import Derived.Test.YtbpblokfiajpjaaShape12
import Derived.Test.YtbpblokfiajpjaaTexts
namespace Go.Proofs.Ytbpblokfiajpjaa
open Go.RowKit Go.SL Go.Crc
attribute [local go_sem ↓] Go.wp_at_zero Go.wp_at_succ

set_option maxRecDepth 100000 in
set_option maxHeartbeats 1000000 in
theorem sametable_any (va vb : Value) (l : List Ent) (w : World) (ha : entsAt w va l) (hb : entsAt w vb l) :
    Calls Try.prog 37 #[va, vb] w fun e w' => e = .returned (.bool true) ∧ ∃ n, w' = w.drewN n := by
  obtain ⟨aoa, ba, offa, capa, rfl, a1, a2, a3⟩ := ha.form
  obtain ⟨aob, bb, offb, capb, rfl, b1, b2, b3⟩ := hb.form
  have A3 := Lib.hid a3
  have B3 := Lib.hid b3
  have HA := Lib.hid ha
  have HB := Lib.hid hb
  clear a3 b3 ha hb
  go_enter Try.func37, Try.ntmps37
  go_wp2_with fail
  go_loopw [5] (fun i wr => ∃ k : Nat, k ≤ l.length ∧ i = .int .i64 k ∧ ∃ n, wr = w.drewN n) (fun i _ => l.length - (intOf i).toNat)
  case atStart => exact ⟨0, by omega, rfl, 0, rfl⟩
  case round =>
    obtain ⟨k, hk, rfl, nd, rfl⟩ := hrel
    by_cases hlt : k < l.length
    · obtain rfl := A3.out (by omega)
      obtain rfl := B3.out (by omega)
      obtain ⟨c1, c2⟩ := HA.out.cells hlt
      obtain ⟨d1, d2⟩ := HB.out.cells hlt
      generalize l.getD k (0, 0) = x at *
      obtain ⟨x1, x2⟩ := x
      dsimp only at c1 c2 d1 d2
      have ha5 : (k : Int) < (l.length : Int) := by omega
      go_wp2_with fail
      go_quiet (fail)
      go_wp2_with fail
      go_roundw
      case rel => exact ⟨k + 1, by omega, by go_num, nd + nq, by first | rfl | exact drewN_add _ _ _⟩
      case measure => simp [intOf]; omega
    · obtain rfl : k = l.length := by omega
      go_wp2_with fail
      go_ret
      exact ⟨rfl, _, rfl⟩

theorem seal_size {xs : List Int} (h : xs.length ≤ 12) : (sealX xs).size = 16 := by
  unfold sealX
  rw [ByteArray.size_append, padded_size h]
  rfl
theorem openF_seal {xs : List Int} (h : xs.length ≤ 12) : openF (sealX xs) = 0 := by
  have hlen : (padded xs).data.toList.length = 12 := by have := padded_size h; rw [← this]; rfl
  have hpre : (sealX xs).extract 0 12 = padded xs := by
    unfold sealX
    apply Go.WideShapes.bytes_inj
    rw [ByteArray.data_extract]
    simp only [ByteArray.data_append, Array.toList_extract, Array.toList_append, List.extract, List.drop_zero, Nat.sub_zero]
    exact List.take_left' hlen
  have hsuf : (sealX xs).extract 12 16 = ⟨(le32 (sumOf (padded xs).data.toList)).toArray⟩ := by
    unfold sealX
    apply Go.WideShapes.bytes_inj
    rw [ByteArray.data_extract]
    simp only [ByteArray.data_append, Array.toList_extract, Array.toList_append, List.extract]
    rw [List.drop_left' hlen]
    rfl
  unfold openF
  rw [if_neg (by simpa using seal_size h), hpre, hsuf, if_neg]
  unfold sumStr
  simp
theorem bt_seal {xs : List Int} {i : Nat} {x : Int} (hx : xs[i]? = some x) (h0 : 0 ≤ x) (h1 : x ≤ 255) : bt (sealX xs) i = x := by
  have hi := (List.getElem?_eq_some_iff.1 hx).1
  have e : (sealX xs).data.toList[i]? = some (UInt8.ofNat x.toNat) := by
    unfold sealX padded
    simp only [ByteArray.data_append, Array.toList_append]
    rw [List.getElem?_append_left (by simp [strOfNums]; omega), List.getElem?_append_left (by simp [strOfNums]; omega)]
    simp only [strOfNums, List.getElem?_map, hx]
    rfl
  unfold bt
  rw [List.getD_eq_getElem?_getD, e]
  simp
  omega
theorem headOf_headS {c p b : Int} (h : ¬ headBad c p b) : headOf (headS c p b) = ((c, p, b), 0) := by
  have hF : openF (headS c p b) = 0 := openF_seal (xs := [83, 89, c, p, b + 1]) (by simp)
  have hr := h
  unfold headBad at hr
  have b2 : bt (headS c p b) 2 = c := bt_seal (xs := [83, 89, c, p, b + 1]) rfl (by omega) (by omega)
  have b3 : bt (headS c p b) 3 = p := bt_seal (xs := [83, 89, c, p, b + 1]) rfl (by omega) (by omega)
  have b4 : bt (headS c p b) 4 = b + 1 := bt_seal (xs := [83, 89, c, p, b + 1]) rfl (by omega) (by omega)
  have hcb : b + 1 - 1 = b := by omega
  have hbad : ¬ headOfBad (headS c p b) := by
    unfold headOfBad
    rw [b2, b3, b4, hcb]
    exact fun h' => h'.elim h fun h' => h' rfl
  rw [headOf, if_neg (by simpa using hF), if_neg hbad, b2, b3, b4, hcb]
theorem deskOf_deskS {r k f a b : Int} (h : deskF r k f a b = 0) : deskOf (deskS r k f a b) = ((r, k, f, a, b), 0) := by
  have hF : openF (deskS r k f a b) = 0 := openF_seal (xs := [68, 75, r, k, f + 1, a % 256, a / 256, b % 256, b / 256]) (by simp)
  have hr := deskF_in h
  unfold deskOut at hr
  have b2 : bt (deskS r k f a b) 2 = r := bt_seal (xs := [68, 75, r, k, f + 1, a % 256, a / 256, b % 256, b / 256]) rfl (by omega) (by omega)
  have b3 : bt (deskS r k f a b) 3 = k := bt_seal (xs := [68, 75, r, k, f + 1, a % 256, a / 256, b % 256, b / 256]) rfl (by omega) (by omega)
  have b4 : bt (deskS r k f a b) 4 = f + 1 := bt_seal (xs := [68, 75, r, k, f + 1, a % 256, a / 256, b % 256, b / 256]) rfl (by omega) (by omega)
  have b5 : bt (deskS r k f a b) 5 = a % 256 := bt_seal (xs := [68, 75, r, k, f + 1, a % 256, a / 256, b % 256, b / 256]) rfl (by omega) (by omega)
  have b6 : bt (deskS r k f a b) 6 = a / 256 := bt_seal (xs := [68, 75, r, k, f + 1, a % 256, a / 256, b % 256, b / 256]) rfl (by omega) (by omega)
  have b7 : bt (deskS r k f a b) 7 = b % 256 := bt_seal (xs := [68, 75, r, k, f + 1, a % 256, a / 256, b % 256, b / 256]) rfl (by omega) (by omega)
  have b8 : bt (deskS r k f a b) 8 = b / 256 := bt_seal (xs := [68, 75, r, k, f + 1, a % 256, a / 256, b % 256, b / 256]) rfl (by omega) (by omega)
  have e1 : f + 1 - 1 = f := by omega
  have e2 : a % 256 + 256 * (a / 256) = a := by omega
  have e3 : b % 256 + 256 * (b / 256) = b := by omega
  have hbad : ¬ deskOfBad (deskS r k f a b) := by
    unfold deskOfBad
    rw [b2, b3, b4, b5, b6, b7, b8, e1, e2, e3]
    exact fun h' => h'.elim (fun h' => h' h) fun h' => h' rfl
  rw [deskOf, if_neg (by simpa using hF), if_neg hbad, deskGood, b2, b3, b4, b5, b6, b7, b8, e1, e2, e3]

set_option maxRecDepth 100000 in
set_option maxHeartbeats 1000000 in
theorem heads_any (R : List SL.HP) (w : World) (H : own w R) : Calls Try.prog 29 #[] w fun e w' => e = .returned (.bool true) ∧ Ext w w' ∧ own w' R := by
  have hof := headOf_headS (c := 3) (p := 4) (b := -1) (by decide)
  have hh := fun w H => head_any 3 4 (-1) R w H
  rw [show headF 3 4 (-1) = 0 from rfl, if_pos rfl, errV_0] at hh
  have HH := Lib.hid hh
  have HO := Lib.hid hof
  have hs : (headS 3 4 (-1)).size ≤ 9223372036854775807 := by
    have : (headS 3 4 (-1)).size = 16 := seal_size (xs := [83, 89, 3, 4, -1 + 1]) (by simp)
    omega
  unfold headV at HH
  clear hh hof
  generalize headS 3 4 (-1) = s at *
  go_enter Try.func29, Try.ntmps29
  go_wp2_with fail
  refine (HH.out _ H).mono ?_
  rintro e w1 ⟨rfl, hx1, h1⟩
  go_wp2_with fail
  refine (readhead_any s hs _ w1 h1).mono ?_
  rw [HO.out]
  unfold headV
  rintro e w2 ⟨rfl, hx2, h2⟩
  dsimp only
  rw [errV_0]
  go_wp2_with fail
  have h3 := own_alloc h2 (.cells #[.int .i64 3, .int .i64 4, .int .i64 (-1)] 52)
  refine (same_any 0 0 _ (by omega)).mono ?_
  rintro e w3 ⟨rfl, rfl⟩
  go_wp2_with fail
  refine (same_any 0 0 _ (by omega)).mono ?_
  rintro e w3 ⟨rfl, rfl⟩
  obtain ⟨cc, ff⟩ := own_cells 0 h3 rfl
  go_wp2_with fail
  go_ret
  exact ⟨rfl, (hx1.trans hx2).alloc _, own_drop h3⟩
end Go.Proofs.Ytbpblokfiajpjaa
