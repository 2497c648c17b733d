/- Sealed sectors: the document's four, sealed, opened; the program's sealed, open. No conditions. -/
import Derived.Test.YtbpblokfiajpjaaRDev
import Derived.Test.YtbpblokfiajpjaaSum
import Derived.Deep.DrawnRows
namespace Go.Proofs.Ytbpblokfiajpjaa
open Go.RowKit Go.SL Go.Crc
attribute [local go_sem ↓] Go.wp_at_zero Go.wp_at_succ

theorem le32_of (s : Nat) (l : List Int) (h : l = [(s : Int) % 256, (s : Int) / 256 % 256, (s : Int) / 65536 % 256, (s : Int) / 16777216]) : strOfNums l = ⟨(le32 s).toArray⟩ := by
  subst h
  unfold strOfNums le32
  simp only [List.map_cons, List.map_nil]
  have h0 : UInt8.ofNat ((s : Int) % 256).toNat = UInt8.ofNat s := by
    rw [show ((s : Int) % 256).toNat = s % 256 by omega]
    apply UInt8.toNat_inj.1; simp
  have h1 : UInt8.ofNat ((s : Int) / 256 % 256).toNat = UInt8.ofNat (s / 256) := by
    rw [show ((s : Int) / 256 % 256).toNat = s / 256 % 256 by omega]
    apply UInt8.toNat_inj.1; simp
  have h2 : UInt8.ofNat ((s : Int) / 65536 % 256).toNat = UInt8.ofNat (s / 65536) := by
    rw [show ((s : Int) / 65536 % 256).toNat = s / 65536 % 256 by omega]
    apply UInt8.toNat_inj.1; simp
  have h3 : UInt8.ofNat ((s : Int) / 16777216).toNat = UInt8.ofNat (s / 16777216) := by
    rw [show ((s : Int) / 16777216).toNat = s / 16777216 by omega]
  rw [h0, h1, h2, h3]

set_option maxRecDepth 100000 in
set_option maxHeartbeats 1000000 in
theorem four_any (s : Nat) (R : List SL.HP) (w : World) (hs : s < 2 ^ 32) (H : own w R) :
    Calls Try.prog 107 #[.int .u32 s] w fun e w' => e = .returned (.string ⟨(le32 s).toArray⟩) ∧ Ext w w' ∧ own w' R := by
  have r1 : ((s : Int)).tmod 256 = (s : Int) % 256 := Int.tmod_eq_emod_of_nonneg (by omega)
  have r2 : ((s : Int) / 256).tmod 256 = (s : Int) / 256 % 256 := Int.tmod_eq_emod_of_nonneg (by omega)
  have r3 : ((s : Int) / 65536).tmod 256 = (s : Int) / 65536 % 256 := Int.tmod_eq_emod_of_nonneg (by omega)
  go_enter Try.func107, Try.ntmps107
  go_wp2_with fail
  have ha := own_alloc H (.cells #[.int .u8 ((s : Int) % 256), .int .u8 ((s : Int) / 256 % 256), .int .u8 ((s : Int) / 65536 % 256), .int .u8 ((s : Int) / 16777216)] 5)
  obtain ⟨c, f⟩ := own_cells 0 ha rfl
  rw [run_convert_bytes_arg _ 96 5 Try.underlying96 Try.underlying5 _ 0 4 4 [(s : Int) % 256, (s : Int) / 256 % 256, (s : Int) / 65536 % 256, (s : Int) / 16777216] rfl
    (fun i hi => by rw [c]; match i, hi with | 0, _ => rfl | 1, _ => rfl | 2, _ => rfl | 3, _ => rfl) _ Try.underlying9, le32_of s _ rfl]
  go_wp2_with fail
  go_ret
  exact ⟨rfl, (Ext.refl _).alloc _, own_drop ha⟩

/-- numbers of a slice of bytes, as cells -/
def byteCells (xs : List Int) : List Value := xs.map (Value.int .u8)
theorem byteCells_one {xs : List Int} : ∀ u ∈ byteCells xs, u.oneCell' = true := fun u hu => by
  obtain ⟨_, _, rfl⟩ := List.mem_map.1 hu; rfl
theorem conv_row {w : World} {L : List SL.HP} (k : Nat) {v : Value} {xs : List Int} {n : Nat} (hn : xs.length = n) (H : own w L) (hk : L[k]? = some (row 5 1 v n (byteCells xs))) (hp : 0 < n) :
    (convert 96 9 v).run Try.prog w = .ok (.string (strOfNums xs)) w := by
  obtain ⟨ao, g, cap, rfl, h1, h2, h3, -, -, h6, -⟩ := own_row_form k H hk
  obtain rfl := h3 hp
  exact run_convert_bytes_arg (P := Try.prog) w 96 5 Try.underlying96 Try.underlying5 g 0 n cap xs hn (fun i hi => by
    rw [Nat.zero_add]
    exact h6 i _ (by simp [byteCells, show i < xs.length by omega])) 9 Try.underlying9

def padded (xs : List Int) : ByteArray := strOfNums xs ++ zs (12 - xs.length)
def sealX (xs : List Int) : ByteArray := padded xs ++ ⟨(le32 (sumOf (padded xs).data.toList)).toArray⟩
theorem repeat_zs (c : Nat) : (⟨(Lib.repeatL (⟨#[0]⟩ : ByteArray).data.toList c).toArray⟩ : ByteArray) = zs c := by
  unfold zs
  congr 2
  induction c with
  | zero => rfl
  | succ c ih => rw [List.replicate_succ, ← ih]; simp [Lib.repeatL, List.replicate_succ]
theorem padded_size {xs : List Int} (h : xs.length ≤ 12) : (padded xs).size = 12 := by
  rw [padded, ByteArray.size_append, strOfNums_size, zs_size]; omega
theorem strs_one {w : World} {L : List SL.HP} (k : Nat) {b : Nat} {t : ByteArray} {T : TypeId} (H : own w L) (hk : L[k]? = some (pts b (.cells #[.string t] T (0, 0)))) (ht : t.size ≤ 9223372036854775807) : StrsAt w (.slice (some ⟨b, 0, none⟩) 1 1) [t] :=
  ⟨⟨_, b, 0, 1, rfl, Nat.le_refl _, by omega, fun _ => rfl, fun i hi => by
    have : i = 0 := by simpa using hi
    subst this
    dsimp only
    rw [Nat.zero_add, (own_cells k H hk).1]
    rfl⟩, fun s hs => by simp at hs; subst hs; exact ht⟩
theorem sum_lt (l : List UInt8) : sumOf l < 2 ^ 32 := xor_lt (crc_lt _ (by decide)) (by decide)

theorem rep_any (c : Nat) (hc : c ≤ 1000) (w : World) : Calls Try.prog 83 #[.string ⟨#[0]⟩, .int .i64 c] w fun e w2 => e = .returned (.string (zs c)) ∧ Below w.heap.size w w2 := by
  have hs : (⟨#[0]⟩ : ByteArray).size = 1 := rfl
  have h := Try.strings_Repeat ⟨#[0]⟩ c w (by omega) (by rw [hs]; omega)
  rw [repeat_zs] at h
  exact h

set_option maxRecDepth 100000 in
set_option maxHeartbeats 400000 in
theorem sealed_any (v : Value) (xs : List Int) (n : Nat) (hn : xs.length = n) (h0 : 0 < n) (h12 : n ≤ 12) (R : List SL.HP) (w : World) (H : own w (row 5 1 v n (byteCells xs) :: R)) :
    Calls Try.prog 78 #[v] w fun e w' => e = .returned (.string (sealX xs)) ∧ Ext w w' ∧ own w' R := by
  have hc0 := conv_row 0 hn (own_drew H) rfl h0
  obtain ⟨ao, g, cap, rfl, r1, r2, -, -, -, -, -⟩ := own_row_form 0 H rfl
  have e12 : IntKind.i64.wrap (12 - (n : Int)) = ((12 - n : Nat) : Int) := by rw [IntWalk.i64_in _ (by omega)]; omega
  have hsz1 : (strOfNums xs).size = n := by rw [strOfNums_size, hn]
  have hsz2 : (zs (12 - n)).size = 12 - n := zs_size _
  go_enter Try.func78, Try.ntmps78
  go_upto_region 1 with (fail)
  go_region_held3 (fun w' => (convert 96 9 (.slice ao n cap)).run Try.prog w' = .ok (.string (strOfNums xs)) w') (first | exact hc0 | exact hc2) ((go_at_call 83; refine (rep_any (12 - n) (by omega) _).mono ?_; rintro e w2 ⟨rfl, hb2⟩; have h2 := own_below (own_drew H) hb2; have hc2 := conv_row 0 hn h2 rfl h0))
  have hu : strOfNums xs ++ zs (12 - n) = padded xs := by rw [padded, hn]
  have hz := padded_size (xs := xs) (by omega)
  rw [hu]
  have hseal : sealX xs = padded xs ++ ⟨(le32 (sumOf (padded xs).data.toList)).toArray⟩ := rfl
  have HS := Lib.hid hseal
  clear hu hsz1 hsz2 hc0 hc2 hseal
  generalize padded xs = u at *
  have hx2 : Ext w w2 := (Ext.refl w).drew.trans (ext_below hb2)
  have ha := own_alloc h2 (.cells #[.string u] 9)
  have hx3 := hx2.alloc (.cells #[.string u] 9)
  have hst := strs_one 0 ha rfl (by omega)
  go_wp2_with fail
  generalize w2.heap.size = p at *
  generalize w2.alloc (.cells #[.string u] 9) = w3 at *
  refine (of_any _ [u] w3 hst).mono ?_
  rintro e w4 ⟨rfl, rfl⟩
  have hj : joinL [u] = u.data.toList := by simp [joinL]
  rw [hj]
  have hlt := sum_lt u.data.toList
  generalize sumOf u.data.toList = S at *
  clear hst hj
  go_wp2_with fail
  refine (sbytes_any S _ w3 hlt ha).mono ?_
  rintro e w5 ⟨rfl, hx5, h5⟩
  have hs4 : (⟨(le32 S).toArray⟩ : ByteArray).size = 4 := rfl
  generalize (⟨(le32 S).toArray⟩ : ByteArray) = t at *
  go_wp2_with fail
  go_ret
  exact ⟨by rw [HS.out]; rfl, hx3.trans hx5, own_drop (own_drop h5)⟩

theorem strOfNums_pad (xs : List Int) (k : Nat) : strOfNums (xs ++ List.replicate k 0) = strOfNums xs ++ zs k := by
  apply Go.WideShapes.bytes_inj
  simp [strOfNums, zs]
def rsealInv (xs : List Int) (n : Nat) (R : List SL.HP) (w0 : World) (v : Value) (wr : World) : Prop :=
  ∃ k : Nat, n ≤ k ∧ k ≤ 12 ∧ Ext w0 wr ∧ own wr (row 5 1 v k (byteCells (xs ++ List.replicate (k - n) 0)) :: R)
def lenOf : Value → Nat
  | .slice _ k _ => k
  | _ => 0
theorem one_byte (k : Int) : ∀ u ∈ [Value.int .u8 k], u.oneCell' = true := fun u hu => by simp at hu; subst hu; rfl

set_option maxRecDepth 100000 in
set_option maxHeartbeats 1000000 in
theorem rsealed_any (v : Value) (xs : List Int) (n : Nat) (hn : xs.length = n) (h12 : n ≤ 12) (R : List SL.HP) (w : World) (H : own w (row 5 1 v n (byteCells xs) :: R)) :
    Calls Try.prog 80 #[v] w fun e w' => e = .returned (.string (sealX xs)) ∧ Ext w w' ∧ own w' R := by
  obtain ⟨ao, g, cap, rfl, r1, r2, -, -, -, -, -⟩ := own_row_form 0 H rfl
  go_enter Try.func80, Try.ntmps80
  go_wp2_with fail
  go_loopw [0] (rsealInv xs n R w) (fun v _ => 12 - lenOf v)
  case atStart => exact ⟨n, Nat.le_refl _, h12, Ext.refl _, by simpa using H⟩
  case round =>
    obtain ⟨k, hk1, hk2, hxr, hown⟩ := hrel
    obtain ⟨a1, g1, c1, rfl, q1, q2, -, -, -, -, -⟩ := own_row_form 0 hown rfl
    by_cases hlt : k < 12
    · have hml : k + 1 ≤ maxLen := by simp only [maxLen]; omega
      have ha := own_alloc hown (.cells #[.int .u8 0] 5)
      go_wp2_with (first | (at_builtin; refine wpList_append_row rfl _ _ 96 rfl 1 5 Try.underlying96 elem_byte rfl (by decide) rfl ha rfl (some ⟨wr.heap.size, 0, none⟩) 1 1 [.int .u8 0] rfl rfl (alloc_news wr [.int .u8 0] _) (fun h => by cases h) (one_byte _) hml (by omega) ?_))
      intro v4 w4 h4 hx4
      obtain ⟨a4, g4, c4, rfl, q4, q5, -, -, -, -, -⟩ := own_row_form 1 h4 rfl
      go_wp2_with fail
      go_roundw
      case rel =>
        refine ⟨k + 1, by omega, by omega, (hxr.alloc _).trans hx4, ?_⟩
        have h5 := own_drop h4
        have e : byteCells (xs ++ List.replicate (k + 1 - n) 0) = byteCells (xs ++ List.replicate (k - n) 0) ++ [.int .u8 0] := by
          rw [show k + 1 - n = (k - n) + 1 from by omega, List.replicate_succ']
          simp [byteCells]
        rw [e]
        exact h5
      case measure => simp [lenOf]; omega
    · have hk : k = 12 := by omega
      subst hk
      have hd := own_drew hown
      have hconv : ∀ w', own w' (row 5 1 (.slice a1 12 c1) 12 (byteCells (xs ++ List.replicate (12 - n) 0)) :: R) → (convert 96 9 (.slice a1 12 c1)).run Try.prog w' = .ok (.string (padded xs)) w' := fun w' h => by
        have := conv_row 0 (by simp [hn]; omega) h rfl (by omega)
        rw [strOfNums_pad, show strOfNums xs ++ zs (12 - n) = padded xs from by rw [padded, hn]] at this
        exact this
      have HC := Lib.hid hconv
      clear hconv
      have hz := padded_size (xs := xs) (by omega)
      have hseal : sealX xs = padded xs ++ ⟨(le32 (sumOf (padded xs).data.toList)).toArray⟩ := rfl
      have HS := Lib.hid hseal
      clear hseal
      generalize padded xs = u at *
      have hlts := sum_lt u.data.toList
      have hs4 : ∀ S, (⟨(le32 S).toArray⟩ : ByteArray).size = 4 := fun _ => rfl
      generalize hS : sumOf u.data.toList = S at *
      have HSS := Lib.hid hS
      clear hS
      have hs4' := hs4 S
      clear hs4
      generalize ht : (⟨(le32 S).toArray⟩ : ByteArray) = t at *
      have HT := Lib.hid ht
      clear ht
      go_upto_region 3 with (fail)
      go_region_held3 (fun w' => (convert 96 9 (.slice a1 12 c1)).run Try.prog w' = .ok (.string u) w') (first | exact HC.out _ hd | exact HC.out _ h2) (first | (go_at_call 24; refine (rsum_any u _ (by omega)).mono ?_; rw [HSS.out]; rintro e w' ⟨rfl, rfl⟩) | (go_at_call 107; refine (four_any S _ _ hlts hd).mono ?_; rw [HT.out]; rintro e w2 ⟨rfl, hx2, h2⟩))
      go_wp2_with fail
      go_ret
      exact ⟨by rw [HS.out]; rfl, hxr.drew.trans hx2, own_drop h2⟩
end Go.Proofs.Ytbpblokfiajpjaa
