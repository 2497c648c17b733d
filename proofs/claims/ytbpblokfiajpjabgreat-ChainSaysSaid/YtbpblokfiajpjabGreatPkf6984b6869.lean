/- Desks read back by the program. Texts: two lists compared; what a row of texts lets be read. Two tables compared; a head is written and read. FormReads answers true, whatever the sectors, and leaves what it was given as it was. No conditions. -/
import Derived.Test.YtbpblokfiajpjabGreatPk16817c9237
import Derived.Test.YtbpblokfiajpjabGreatProg
namespace Go.Proofs.YtbpblokfiajpjabGreat
open Go.RowKit Go.SL Go.Crc
attribute [local go_sem ↓] Go.wp_at_zero Go.wp_at_succ

end Go.Proofs.YtbpblokfiajpjabGreat

namespace Go.Proofs.YtbpblokfiajpjabGreat
open Go.RowKit Go.SL

theorem drewN_add (w : World) (a b : Nat) : (w.drewN a).drewN b = w.drewN (a + b) := by simp [World.drewN, Nat.add_assoc]
def smark : ByteArray := ⟨#[109, 97, 114, 107]⟩
theorem strs_row {w : World} {L : List HP} (k : Nat) {e : TypeId} {g cap n : Nat} {l : List ByteArray} {xs rest : List Value} (H : own w L) (hk : L[k]? = some (row e 1 (.slice (some ⟨g, 0, none⟩) n cap) n xs))
    (hx : xs = l.map Value.string ++ rest) (hs : ∀ s ∈ l, s.size ≤ 9223372036854775807) : StrsAt w (.slice (some ⟨g, 0, none⟩) l.length cap) l := by
  obtain ⟨ao3, g3, cap3, hv, c31, c32, a31, a32, a33, cells3, fr3⟩ := own_row_form k H hk
  simp only [Value.slice.injEq] at hv
  obtain ⟨rfl, _, rfl⟩ := hv
  have hg := a33 _ rfl
  simp only [Addr.mk.injEq, and_true] at hg
  subst hg
  have hlen := (own_row k H hk).1
  have hn : l.length ≤ n := by rw [hx, List.length_append, List.length_map] at hlen; omega
  refine ⟨⟨_, g, 0, cap, rfl, by omega, by simp only [maxLen] at c32; omega, fun _ => rfl, fun i hi => ?_⟩, hs⟩
  dsimp only
  rw [Nat.zero_add]
  exact cells3 i _ (by rw [hx, List.getElem?_append_left (by simpa using hi)]; simp [hi])

end Go.Proofs.YtbpblokfiajpjabGreat

namespace Go.Proofs.YtbpblokfiajpjabGreat
open Go.RowKit Go.SL Go.Crc
attribute [local go_sem ↓] Go.wp_at_zero Go.wp_at_succ

theorem seal_size {xs : List Int} (h : xs.length ≤ 12) : (sealX xs).size = 16 := by
  unfold sealX
  rw [ByteArray.size_append, padded_size h]
  rfl
theorem openF_seal {xs : List Int} (h : xs.length ≤ 12) : openF (sealX xs) = 0 := by
  have hlen : (padded xs).data.toList.length = 12 := by have := padded_size h; rw [← this]; rfl
  have hpre : (sealX xs).extract 0 12 = padded xs := by
    unfold sealX
    apply Go.WideShapes.bytes_inj
    rw [ByteArray.data_extract]
    simp only [ByteArray.data_append, Array.toList_extract, Array.toList_append, List.extract, List.drop_zero, Nat.sub_zero]
    exact List.take_left' hlen
  have hsuf : (sealX xs).extract 12 16 = ⟨(le32 (sumOf (padded xs).data.toList)).toArray⟩ := by
    unfold sealX
    apply Go.WideShapes.bytes_inj
    rw [ByteArray.data_extract]
    simp only [ByteArray.data_append, Array.toList_extract, Array.toList_append, List.extract]
    rw [List.drop_left' hlen]
    rfl
  unfold openF
  rw [if_neg (by simpa using seal_size h), hpre, hsuf, if_neg]
  unfold sumStr
  simp
theorem bt_seal {xs : List Int} {i : Nat} {x : Int} (hx : xs[i]? = some x) (h0 : 0 ≤ x) (h1 : x ≤ 255) : bt (sealX xs) i = x := by
  have hi := (List.getElem?_eq_some_iff.1 hx).1
  have e : (sealX xs).data.toList[i]? = some (UInt8.ofNat x.toNat) := by
    unfold sealX padded
    simp only [ByteArray.data_append, Array.toList_append]
    rw [List.getElem?_append_left (by simp [strOfNums]; omega), List.getElem?_append_left (by simp [strOfNums]; omega)]
    simp only [strOfNums, List.getElem?_map, hx]
    rfl
  unfold bt
  rw [List.getD_eq_getElem?_getD, e]
  simp
  omega
theorem headOf_headS {c p b : Int} (h : ¬ headBad c p b) : headOf (headS c p b) = ((c, p, b), 0) := by
  have hF : openF (headS c p b) = 0 := openF_seal (xs := [83, 89, c, p, b + 1]) (by simp)
  have hr := h
  unfold headBad at hr
  have b2 : bt (headS c p b) 2 = c := bt_seal (xs := [83, 89, c, p, b + 1]) rfl (by omega) (by omega)
  have b3 : bt (headS c p b) 3 = p := bt_seal (xs := [83, 89, c, p, b + 1]) rfl (by omega) (by omega)
  have b4 : bt (headS c p b) 4 = b + 1 := bt_seal (xs := [83, 89, c, p, b + 1]) rfl (by omega) (by omega)
  have hcb : b + 1 - 1 = b := by omega
  have hbad : ¬ headOfBad (headS c p b) := by
    unfold headOfBad
    rw [b2, b3, b4, hcb]
    exact fun h' => h'.elim h fun h' => h' rfl
  rw [headOf, if_neg (by simpa using hF), if_neg hbad, b2, b3, b4, hcb]
theorem deskOf_deskS {r k f a b : Int} (h : deskF r k f a b = 0) : deskOf (deskS r k f a b) = ((r, k, f, a, b), 0) := by
  have hF : openF (deskS r k f a b) = 0 := openF_seal (xs := [68, 75, r, k, f + 1, a % 256, a / 256, b % 256, b / 256]) (by simp)
  have hr := deskF_in h
  unfold deskOut at hr
  have b2 : bt (deskS r k f a b) 2 = r := bt_seal (xs := [68, 75, r, k, f + 1, a % 256, a / 256, b % 256, b / 256]) rfl (by omega) (by omega)
  have b3 : bt (deskS r k f a b) 3 = k := bt_seal (xs := [68, 75, r, k, f + 1, a % 256, a / 256, b % 256, b / 256]) rfl (by omega) (by omega)
  have b4 : bt (deskS r k f a b) 4 = f + 1 := bt_seal (xs := [68, 75, r, k, f + 1, a % 256, a / 256, b % 256, b / 256]) rfl (by omega) (by omega)
  have b5 : bt (deskS r k f a b) 5 = a % 256 := bt_seal (xs := [68, 75, r, k, f + 1, a % 256, a / 256, b % 256, b / 256]) rfl (by omega) (by omega)
  have b6 : bt (deskS r k f a b) 6 = a / 256 := bt_seal (xs := [68, 75, r, k, f + 1, a % 256, a / 256, b % 256, b / 256]) rfl (by omega) (by omega)
  have b7 : bt (deskS r k f a b) 7 = b % 256 := bt_seal (xs := [68, 75, r, k, f + 1, a % 256, a / 256, b % 256, b / 256]) rfl (by omega) (by omega)
  have b8 : bt (deskS r k f a b) 8 = b / 256 := bt_seal (xs := [68, 75, r, k, f + 1, a % 256, a / 256, b % 256, b / 256]) rfl (by omega) (by omega)
  have e1 : f + 1 - 1 = f := by omega
  have e2 : a % 256 + 256 * (a / 256) = a := by omega
  have e3 : b % 256 + 256 * (b / 256) = b := by omega
  have hbad : ¬ deskOfBad (deskS r k f a b) := by
    unfold deskOfBad
    rw [b2, b3, b4, b5, b6, b7, b8, e1, e2, e3]
    exact fun h' => h'.elim (fun h' => h' h) fun h' => h' rfl
  rw [deskOf, if_neg (by simpa using hF), if_neg hbad, deskGood, b2, b3, b4, b5, b6, b7, b8, e1, e2, e3]

end Go.Proofs.YtbpblokfiajpjabGreat

namespace Go.Proofs.YtbpblokfiajpjabGreat
open Go.RowKit Go.SL Go.Crc
attribute [local go_sem ↓] Go.wp_at_zero Go.wp_at_succ

theorem at_behind {l R : List HP} {k : Nat} {P : HP} (h : R[k]? = some P) : (l ++ R)[l.length + k]? = some P := by
  rw [List.getElem?_append_right (by omega), Nat.add_sub_cancel_left]; exact h
theorem ents_row {w : World} {L : List HP} (k : Nat) {v : Value} {l : List Ent} (H : own w L) (hk : L[k]? = some (row 107 2 v l.length (entCells l))) : entsAt w v l := by
  obtain ⟨ao, g, cap, rfl, h1, h2, h3, -, -, h6, -⟩ := own_row_form k H hk
  refine ⟨ao, g, 0, cap, rfl, h1, by simp only [maxLen] at h2; omega, h3, fun i hi => ?_⟩
  dsimp only
  rw [Nat.zero_add]
  exact ⟨h6 _ _ (entCells_get hi).1, h6 _ _ (entCells_get hi).2⟩
theorem tabRows_nonneg {C : Nat} {P : Int} : ∀ (l : List ByteArray) (t : List Ent), 0 ≤ (tabRows C P t l).2
  | [], t => by simp [tabRows]
  | s :: l, t => by
    rw [tabRows]
    split
    · decide
    · split
      · decide
      · exact tabRows_nonneg l _
theorem tableOf_nonneg (c p b : Int) (rows : List ByteArray) : 0 ≤ (tableOf c p b rows).2 := by
  unfold tableOf
  split
  · decide
  · split
    · decide
    · exact tabRows_nonneg _ _
theorem headOf_nonneg (s : ByteArray) : 0 ≤ (headOf s).2 := by
  unfold headOf
  split
  · rcases openF_nonneg s with h | h <;> dsimp only <;> omega
  · split
    · simp
    · simp
theorem deskOf_nonneg (s : ByteArray) : 0 ≤ (deskOf s).2 := by
  unfold deskOf
  split
  · rcases openF_nonneg s with h | h <;> dsimp only <;> omega
  · split
    · simp
    · simp

end Go.Proofs.YtbpblokfiajpjabGreat
