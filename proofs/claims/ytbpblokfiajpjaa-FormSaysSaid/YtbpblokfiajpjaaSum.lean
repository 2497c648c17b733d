/- The remainder of bytes, of the program and of the reference, is the plain one. No conditions beyond sizes. -/
import Derived.Test.YtbpblokfiajpjaaStrs
import Derived.Test.YtbpblokfiajpjaaCrc
namespace Go.Proofs.Ytbpblokfiajpjaa
open Go.RowKit Go.SL Go.Crc

theorem and1 (s : Nat) (h : s < 2 ^ 32) : bits .and .u32 (s : Int) 1 = ((s % 2 : Nat) : Int) := by
  have := u32_and_nat s 1 (by omega) (by omega)
  rw [Nat.and_one_is_mod] at this
  exact this

set_option maxRecDepth 100000 in
set_option maxHeartbeats 1000000 in
theorem step_any (s b : Nat) (w : World) (hs : s < 2 ^ 32) (hb : b < 256) :
    Calls Try.prog 77 #[.int .u32 s, .int .u8 b] w fun e w' => e = .returned (.int .u32 (byteStep s b : Nat)) ∧ w = w' := by
  go_enter Try.func77, Try.ntmps77
  have e0 : bits .xor .u32 (s : Int) (b : Int) = ((s ^^^ b : Nat) : Int) := u32_xor_nat s b (by omega) (by omega)
  have e00 : IntKind.u32.wrap (b : Int) = (b : Int) := IntWalk.u32_in _ (by omega)
  go_wp2_with fail
  go_loop [0, 9] (fun t i => ∃ k : Nat, k ≤ 8 ∧ i = .int .i64 k ∧ t = .int .u32 (stn k (s ^^^ b) : Nat)) (fun _ i => 8 - (intOf i).toNat)
  case atStart => exact ⟨0, by omega, rfl, rfl⟩
  case round =>
    obtain ⟨k, hk, rfl, rfl⟩ := hrel
    have hv : stn k (s ^^^ b) < 2 ^ 32 := stn_lt k (xor_lt hs (by omega))
    have HS := Lib.hid (stn_succ k (s ^^^ b))
    clear e0 e00
    by_cases hlt : k < 8
    · generalize stn k (s ^^^ b) = v at *
      have ea := and1 v hv
      rcases mod2_cases v with hm | hm
      · rw [hm] at ea
        go_wp2_with fail
        go_round
        case rel => exact ⟨k + 1, by omega, by go_num, by rw [HS.out]; congr 1; unfold st; rw [if_neg (by omega)]; omega⟩
        case measure => simp [intOf]; omega
      · rw [hm] at ea
        have ex : bits .xor .u32 ((v : Int) / 2) 3988292384 = ((v / 2 ^^^ K : Nat) : Int) := u32_xor_nat (v / 2) K (by omega) (by decide)
        go_wp2_with fail
        go_round
        case rel => exact ⟨k + 1, by omega, by go_num, by rw [HS.out]; congr 1; unfold st; rw [if_pos hm]⟩
        case measure => simp [intOf]; omega
    · obtain rfl : k = 8 := by omega
      go_wp2_with fail
      go_ret
      exact ⟨rfl, rfl⟩

theorem bytes_get (s : ByteArray) (k : Nat) (h : k < s.size) : s.data.toList[k]? = some s[k] := by
  rw [List.getElem?_eq_getElem (by simpa using h)]; rfl
theorem crc_take (s0 : Nat) (s : ByteArray) (k : Nat) (h : k < s.size) : crc s0 (s.data.toList.take (k + 1)) = byteStep (crc s0 (s.data.toList.take k)) s[k].toNat := by
  rw [List.take_succ_eq_append_getElem (by simpa using h), crc_append]
  rfl
theorem crc_full (s0 : Nat) (s : ByteArray) : crc s0 (s.data.toList.take s.size) = crc s0 s.data.toList := by
  rw [List.take_of_length_le (by simp)]

theorem flip_any (s : Nat) (hs : s < 2 ^ 32) : bits .xor .u32 IntKind.u32.max (s : Int) = ((s ^^^ top : Nat) : Int) := by
  have := u32_xor_nat top s (by decide) (by omega)
  rw [Nat.xor_comm] at this
  exact this

set_option maxRecDepth 100000 in
set_option maxHeartbeats 1000000 in
theorem more_any (s : Nat) (t : ByteArray) (w : World) (hs : s < 2 ^ 32) (ht : t.size ≤ 9223372036854775807) :
    Calls Try.prog 27 #[.int .u32 s, .string t] w fun e w' => e = .returned (.int .u32 (crc (s ^^^ top) t.data.toList ^^^ top : Nat)) ∧ w = w' := by
  have ef := flip_any s hs
  have hs0 : s ^^^ top < 2 ^ 32 := xor_lt hs (by decide)
  go_enter Try.func27, Try.ntmps27
  go_wp2_with fail
  clear ef
  generalize hse : s ^^^ top = s0 at *
  have HE := Lib.hid hse
  clear hse
  go_loop [0, 10] (fun v i => ∃ k : Nat, k ≤ t.size ∧ i = .int .i64 k ∧ v = .int .u32 (crc s0 (t.data.toList.take k) : Nat)) (fun _ i => t.size - (intOf i).toNat)
  case atStart => exact ⟨0, by omega, rfl, rfl⟩
  case round =>
    obtain ⟨k, hk, rfl, rfl⟩ := hrel
    have hv := crc_lt (t.data.toList.take k) hs0
    by_cases hlt : k < t.size
    · have HS := Lib.hid (crc_take s0 t k hlt)
      have hb : (t[k]'hlt).toNat < 256 := (t[k]'hlt).toNat_lt
      generalize crc s0 (t.data.toList.take k) = v at *
      go_wp2_with fail
      refine (step_any v _ _ hv hb).mono ?_
      rintro e w' ⟨rfl, rfl⟩
      go_wp2_with fail
      go_round
      case rel => exact ⟨k + 1, by omega, by go_num, by rw [HS.out]⟩
      case measure => simp [intOf]; omega
    · obtain rfl : k = t.size := by omega
      have HF := Lib.hid (crc_full s0 t)
      generalize crc s0 (t.data.toList.take t.size) = v at *
      have ef := flip_any v hv
      go_wp2_with fail
      go_ret
      exact ⟨ret_int (by rw [HF.out, HE.out]), rfl⟩

def joinL (l : List ByteArray) : List UInt8 := l.flatMap fun s => s.data.toList
theorem joinL_take (l : List ByteArray) (k : Nat) (h : k < l.length) : joinL (l.take (k + 1)) = joinL (l.take k) ++ (l.getD k ByteArray.empty).data.toList := by
  rw [List.take_succ_eq_append_getElem h, joinL, List.flatMap_append]
  simp [joinL, h]

set_option maxRecDepth 100000 in
set_option maxHeartbeats 1000000 in
theorem of_any (v : Value) (l : List ByteArray) (w : World) (hv : StrsAt w v l) :
    Calls Try.prog 26 #[v] w fun e w' => e = .returned (.int .u32 (sumOf (joinL l) : Nat)) ∧ w = w' := by
  obtain ⟨ao, b, off, cap, rfl, hc1, hc2, hao, hat⟩ := hv.form
  go_enter Try.func26, Try.ntmps26
  go_wp2_with fail
  go_loop [3, 9] (fun v i => ∃ k : Nat, k ≤ l.length ∧ i = .int .i64 k ∧ v = .int .u32 (crc top (joinL (l.take k)) : Nat)) (fun _ i => l.length - (intOf i).toNat)
  case atStart => exact ⟨0, by omega, rfl, rfl⟩
  case round =>
    obtain ⟨k, hk, rfl, rfl⟩ := hrel
    have hv0 := crc_lt (joinL (l.take k)) (s := top) (by decide)
    by_cases hlt : k < l.length
    · obtain rfl := hao (by omega)
      have c5 := hat k hlt
      have hS := hv.2 _ (str_getD hlt)
      have HS := Lib.hid (joinL_take l k hlt)
      have HC := Lib.hid (crc_append top (joinL (l.take k)) (l.getD k ByteArray.empty).data.toList)
      clear hv hat hao
      generalize l.getD k ByteArray.empty = x at *
      generalize crc top (joinL (l.take k)) = s0 at *
      go_wp2_with fail
      go_loop [3, 15] (fun v i => ∃ j : Nat, j ≤ x.size ∧ i = .int .i64 j ∧ v = .int .u32 (crc s0 (x.data.toList.take j) : Nat)) (fun _ i => x.size - (intOf i).toNat)
      case atStart => exact ⟨0, by omega, rfl, rfl⟩
      case round =>
        obtain ⟨j, hj, rfl, rfl⟩ := hrel
        have hv := crc_lt (x.data.toList.take j) hv0
        by_cases hlt2 : j < x.size
        · have HS2 := Lib.hid (crc_take s0 x j hlt2)
          have hb : (x[j]'hlt2).toNat < 256 := (x[j]'hlt2).toNat_lt
          generalize crc s0 (x.data.toList.take j) = v at *
          go_wp2_with fail
          refine (step_any v _ _ hv hb).mono ?_
          rintro e w' ⟨rfl, rfl⟩
          go_wp2_with fail
          go_round
          case rel => exact ⟨j + 1, by omega, by go_num, by rw [HS2.out]⟩
          case measure => simp [intOf]; omega
        · obtain rfl : j = x.size := by omega
          have HF := Lib.hid (crc_full s0 x)
          generalize crc s0 (x.data.toList.take x.size) = v at *
          go_wp2_with fail
          go_round
          case rel => exact ⟨k + 1, by omega, by go_num, by rw [HS.out, HC.out, HF.out]⟩
          case measure => simp [intOf]; omega
    · obtain rfl : k = l.length := by omega
      have HF : Hid (crc top (joinL (l.take l.length)) = crc top (joinL l)) := Lib.hid (by rw [List.take_length])
      generalize crc top (joinL (l.take l.length)) = v at *
      have ef := flip_any v hv0
      clear hv hat hao
      go_wp2_with fail
      go_ret
      exact ⟨ret_int (by rw [HF.out]; rfl), rfl⟩

theorem quo8 (i : Nat) : ((i : Int) / 8) = ((i / 8 : Nat) : Int) := by omega
theorem bitAt_get (t : ByteArray) (i : Nat) (h : i / 8 < t.size) : bitAt t.data.toList i = (t[i / 8].toNat >>> (i % 8)) % 2 := by
  unfold bitAt
  have : t.data.toList.getD (i / 8) 0 = t[i / 8] := by
    rw [List.getD_eq_getElem?_getD, bytes_get t _ h]; rfl
  rw [this]

set_option maxRecDepth 100000 in
set_option maxHeartbeats 1000000 in
theorem rsum_any (t : ByteArray) (w : World) (ht : t.size ≤ 1000000) :
    Calls Try.prog 24 #[.string t] w fun e w' => e = .returned (.int .u32 (sumOf t.data.toList : Nat)) ∧ w = w' := by
  go_enter Try.func24, Try.ntmps24
  go_wp2_with fail
  go_loop [3, 4] (fun v i => ∃ k : Nat, k ≤ 8 * t.size ∧ i = .int .i64 k ∧ v = .int .u32 (Crc.bits t.data.toList k top : Nat)) (fun _ i => 8 * t.size - (intOf i).toNat)
  case atStart => exact ⟨0, by omega, rfl, rfl⟩
  case round =>
    obtain ⟨k, hk, rfl, rfl⟩ := hrel
    have hv := bits_lt t.data.toList k (s := top) (by decide)
    by_cases hlt : k < 8 * t.size
    · have hq : k / 8 < t.size := by omega
      have HS : Hid (Crc.bits t.data.toList (k + 1) top = bitStep (Crc.bits t.data.toList k top) (bitAt t.data.toList k)) := rfl
      have hbl := bitAt_lt t.data.toList k
      have HB := Lib.hid (bitAt_get t k hq)
      generalize bitAt t.data.toList k = bb at *
      generalize Crc.bits t.data.toList k top = v at *
      have hby := (t[k / 8]'hq).toNat_lt
      have el : bits .xor .u32 (bits .and .u32 (v : Int) 1) (bits .and .u32 (((t[k / 8]'hq).toNat : Int) / 2 ^ (k % 8) % 4294967296) 1) = ((v % 2 ^^^ bb : Nat) : Int) := by
        rw [and1 v hv]
        have e2 : (((t[k / 8]'hq).toNat : Int) / 2 ^ (k % 8) % 4294967296) = (((t[k / 8]'hq).toNat >>> (k % 8) % 4294967296 : Nat) : Int) := by
          rw [Nat.shiftRight_eq_div_pow, Int.natCast_emod, Int.natCast_ediv, Int.natCast_pow]
          rfl
        rw [e2, and1 _ (by omega), u32_xor_nat _ _ (by omega) (by omega)]
        congr 2
        rw [HB.out, Nat.mod_mod_of_dvd _ (by decide)]
      have hx2 : v % 2 ^^^ bb = 0 ∨ v % 2 ^^^ bb = 1 := by
        have := Nat.xor_lt_two_pow (x := v % 2) (y := bb) (n := 1) (by omega) (by omega)
        omega
      rcases hx2 with hx2 | hx2
      · have el0 := el
        rw [hx2] at el0
        have HX := Lib.hid hx2
        clear el hx2
        go_wp2_with fail
        go_round
        case rel => exact ⟨k + 1, by omega, by go_num, by rw [HS.out]; congr 1; unfold bitStep; rw [HX.out, if_neg (by omega)]; omega⟩
        case measure => simp [intOf]; omega
      · have el0 := el
        rw [hx2] at el0
        have HX := Lib.hid hx2
        have ex : bits .xor .u32 ((v : Int) / 2) 3988292384 = ((v / 2 ^^^ K : Nat) : Int) := u32_xor_nat (v / 2) K (by omega) (by decide)
        clear el hx2
        go_wp2_with fail
        go_round
        case rel => exact ⟨k + 1, by omega, by go_num, by rw [HS.out]; congr 1; unfold bitStep; rw [HX.out, if_pos rfl]⟩
        case measure => simp [intOf]; omega
    · obtain rfl : k = 8 * t.size := by omega
      have HF : Hid (Crc.bits t.data.toList (8 * t.size) top = crc top t.data.toList) := Lib.hid (by
        have := bits_all t.data.toList top
        rwa [show t.data.toList.length = t.size by simp] at this)
      generalize Crc.bits t.data.toList (8 * t.size) top = v at *
      have ef : bits .xor .u32 (v : Int) 4294967295 = ((v ^^^ top : Nat) : Int) := u32_xor_nat v top (by omega) (by decide)
      go_wp2_with fail
      go_ret
      exact ⟨ret_int (by rw [HF.out]; rfl), rfl⟩

def le32 (s : Nat) : List UInt8 := [UInt8.ofNat s, UInt8.ofNat (s / 256), UInt8.ofNat (s / 65536), UInt8.ofNat (s / 16777216)]

set_option maxRecDepth 100000 in
set_option maxHeartbeats 1000000 in
theorem sbytes_any (s : Nat) (R : List HP) (w : World) (hs : s < 2 ^ 32) (H : own w R) :
    Calls Try.prog 25 #[.int .u32 s] w fun e w' => e = .returned (.string ⟨(le32 s).toArray⟩) ∧ Ext w w' ∧ own w' R := by
  go_enter Try.func25, Try.ntmps25
  go_wp2_with fail
  have ha := own_alloc H (.cells #[.int .u8 ((s : Int) % 256), .int .u8 ((s : Int) / 256 % 256), .int .u8 ((s : Int) / 65536 % 256), .int .u8 ((s : Int) / 16777216)] 5)
  obtain ⟨c, f⟩ := own_cells 0 ha rfl
  rw [run_convert_bytes_arg _ 96 5 Try.underlying96 Try.underlying5 _ 0 4 4 [(s : Int) % 256, (s : Int) / 256 % 256, (s : Int) / 65536 % 256, (s : Int) / 16777216] rfl
    (fun i hi => by rw [c]; match i, hi with | 0, _ => rfl | 1, _ => rfl | 2, _ => rfl | 3, _ => rfl) _ Try.underlying9]
  go_wp2_with fail
  go_ret
  refine ⟨ret_str ?_, (Ext.refl _).alloc _, own_drop ha⟩
  unfold strOfNums le32
  simp only [List.map_cons, List.map_nil]
  have e (n : Nat) : UInt8.ofNat ((n : Int)).toNat = UInt8.ofNat n := by simp
  have h0 : UInt8.ofNat ((s : Int) % 256).toNat = UInt8.ofNat s := by
    rw [show ((s : Int) % 256).toNat = s % 256 by omega]
    apply UInt8.toNat_inj.1; simp
  have h1 : UInt8.ofNat ((s : Int) / 256 % 256).toNat = UInt8.ofNat (s / 256) := by
    rw [show ((s : Int) / 256 % 256).toNat = s / 256 % 256 by omega]
    apply UInt8.toNat_inj.1; simp
  have h2 : UInt8.ofNat ((s : Int) / 65536 % 256).toNat = UInt8.ofNat (s / 65536) := by
    rw [show ((s : Int) / 65536 % 256).toNat = s / 65536 % 256 by omega]
    apply UInt8.toNat_inj.1; simp
  have h3 : UInt8.ofNat ((s : Int) / 16777216).toNat = UInt8.ofNat (s / 16777216) := by
    rw [show ((s : Int) / 16777216).toNat = s / 16777216 by omega]
  rw [h0, h1, h2, h3]

theorem byte_at {bs : ByteArray} {l : List UInt8} (h : bs.data.toList = l) (i : Nat) (hi : i < bs.size) : bs[i] = l.getD i 0 := by
  subst h
  rw [List.getD_eq_getElem?_getD, bytes_get bs i hi]; rfl
theorem size_of {bs : ByteArray} {l : List UInt8} (h : bs.data.toList = l) : bs.size = l.length := by subst h; simp
def IsStr (l : List UInt8) (P : World → Prop) (e : Ending) (w' : World) : Prop := ∃ bs : ByteArray, e = .returned (.string bs) ∧ bs.data.toList = l ∧ bs.size = l.length ∧ P w'
theorem sbytes_ex (s : Nat) (R : List HP) (w : World) (hs : s < 2 ^ 32) (H : own w R) :
    Calls Try.prog 25 #[.int .u32 s] w (IsStr (le32 s) fun w' => Ext w w' ∧ own w' R) :=
  (sbytes_any s R w hs H).mono fun _ _ ⟨he, h⟩ => ⟨_, he, rfl, rfl, h⟩
end Go.Proofs.Ytbpblokfiajpjaa
