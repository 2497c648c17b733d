/- TopSum answers true, whatever the text and the turn, and leaves what it was given as it was. No conditions. -/
import Derived.Test.YtbpblokfiajpjaaSumLaw
import Derived.Lib.ConvBytes
import Derived.Deep.Cut
namespace Go.Proofs.Ytbpblokfiajpjaa
open Go.RowKit Go.SL Go.Crc

theorem own_cells_fr {w : World} {l : List HP} (k : Nat) {b : Nat} {arr : Array Value} {T : TypeId} {lo hi : Nat} (H : own w l) (hk : l[k]? = some (pts b (.cells arr T (lo, hi)))) :
    (∀ o, w.cell? ⟨b, o, none⟩ = arr[o]?) ∧ (∀ o, o < lo → w.frozen? ⟨b, o, none⟩ = false) := by
  have h := own_at k H hk
  exact ⟨fun o => by simp [World.cell?, h], fun o ho => by simp [World.frozen?, h]; omega⟩

theorem bitAt_set {l : List UInt8} {q : Nat} {nb : UInt8} {r : Nat} (hq : q < l.length) (hr : r < 8) (hnb : ∀ k, k < 8 → k ≠ r → (nb.toNat >>> k) % 2 = ((l.getD q 0).toNat >>> k) % 2) (p : Nat) (hp : p ≠ 8 * q + r) : bitAt (l.set q nb) p = bitAt l p := by
  unfold bitAt
  by_cases h : p / 8 = q
  · subst h
    have e : (l.set (p / 8) nb).getD (p / 8) 0 = nb := by simp [hq]
    rw [e]
    exact hnb _ (by omega) (by omega)
  · have e : (l.set q nb).getD (p / 8) 0 = l.getD (p / 8) 0 := by
      simp only [List.getD_eq_getElem?_getD, List.getElem?_set]
      rw [if_neg (fun e => h e.symm)]
    rw [e]

theorem xor_other (x r : Nat) (k : Nat) (hk : k ≠ r) : ((x ^^^ (1 <<< r)) >>> k) % 2 = (x >>> k) % 2 := by
  have h : (x ^^^ (1 <<< r)).testBit k = x.testBit k := by
    rw [Nat.testBit_xor, Nat.testBit_shiftLeft]
    by_cases hrk : r ≤ k
    · have : k - r ≠ 0 := by omega
      have h1 : Nat.testBit 1 (k - r) = false := by
        rw [Nat.testBit_lt_two_pow]
        have : 2 ^ 1 ≤ 2 ^ (k - r) := Nat.pow_le_pow_right (by omega) (by omega)
        omega
      simp [h1]
    · simp [hrk]
  have e (y : Nat) : (y >>> k) % 2 = (y.testBit k).toNat := by
    rw [Nat.testBit, Nat.one_and_eq_mod_two]
    rcases Nat.mod_two_eq_zero_or_one (y >>> k) with h | h <;> simp [h]
  rw [e, e, h]
theorem xor_byte {x r : Nat} (hx : x < 256) (hr : r < 8) : x ^^^ (1 <<< r) < 256 := by
  refine Nat.xor_lt_two_pow (n := 8) (by omega) ?_
  rw [Nat.one_shiftLeft]
  exact Nat.pow_lt_pow_right (by omega) hr

theorem u32_nat {n : Int} (h : (Lit.int .u32 n).wf = true) : ∃ m : Nat, n = (m : Int) ∧ m < 2 ^ 32 := by
  have h' : 0 ≤ n ∧ n ≤ 4294967295 := by simpa [Lit.wf, IntKind.min, IntKind.max, IntKind.signed, IntKind.bits] using h
  obtain ⟨m, rfl⟩ := Int.eq_ofNat_of_zero_le h'.1
  exact ⟨m, rfl, by omega⟩
theorem toNat_u8 {y : Nat} (h : y < 256) : (UInt8.ofNat y).toNat = y := by
  rw [UInt8.toNat_ofNat']; exact Nat.mod_eq_of_lt h

def isTxt (arr : Array Value) (l : List UInt8) : Prop := ∀ j, j < l.length → arr[j]? = some (.int .u8 (l.getD j 0).toNat)
theorem isTxt_set {arr : Array Value} {l : List UInt8} (h : isTxt arr l) (q : Nat) (hq : q < l.length) (nb : UInt8) : isTxt (arr.setIfInBounds q (.int .u8 nb.toNat)) (l.set q nb) := by
  intro j hj
  simp only [List.length_set] at hj
  have hqs : q < arr.size := by
    have := h q hq
    exact (Array.getElem?_eq_some_iff.1 this).1
  rw [Array.getElem?_setIfInBounds]
  by_cases e : q = j
  · subst e; simp [hq, hqs]
  · rw [if_neg e, h j hj]
    simp only [List.getD_eq_getElem?_getD, List.getElem?_set]
    rw [if_neg e]

set_option maxRecDepth 100000 in
set_option maxHeartbeats 4000000 in
theorem topSum_walk (t : ByteArray) (at_ : Int) (turn : Nat) (more : ByteArray) (w : World) (hturn : turn < 2 ^ 32) (hat1 : at_ ≤ 9223372036854775807) (ht : t.size ≤ 9223372036854775807) (hm : more.size ≤ 9223372036854775807) :
    Calls Try.prog 8 #[.string t, .int .i64 at_, .int .u32 turn, .string more] w fun e w' => e = .returned (.bool true) ∧ Below w.heap.size w w' := by
  have h0 := own_exactly w
  by_cases hgo : 0 < t.size ∧ t.size ≤ 500 ∧ more.size ≤ 500 ∧ 0 ≤ at_
  · obtain ⟨g1, g2, g3, g4⟩ := hgo
    have hne : ((t.size : Int) == 0) = false := by rw [beq_eq_false_iff_ne]; omega
    obtain ⟨a0, rfl⟩ := Int.eq_ofNat_of_zero_le g4
    go_enter Try.func8, Try.ntmps8
    go_wp2_with fail
    rw [Lib.run_convert_string_bytes w 9 96 5 t Try.underlying9 Try.underlying96 Try.underlying5]
    have hsz : w.heap.size < (Lib.bytesWorld w 5 t).heap.size := by rw [Lib.bytesWorld_size]; omega
    have h1 := own_new h0 (w' := Lib.bytesWorld w 5 t) (fun b hb => Lib.bytesWorld_at_old w 5 t b hb) (Lib.bytesWorld_at_new w 5 t)
    have hx1 : Ext w (Lib.bytesWorld w 5 t) := ⟨rfl, rfl, rfl, by omega⟩
    have hge := grownCap_ge w t.size 0 5
    have hcm := grownCap_le_maxLen w t.size 0 5 (by simp only [maxLen]; omega)
    have htx : isTxt (Lib.bytesCells w 5 t) t.data.toList := by
      intro j hj
      have := Lib.bytesWorld_cell w 5 t j (by simpa using hj)
      rw [(own_cells_fr 0 h1 rfl).1] at this
      exact this
    have hcs : t.size ≤ (Lib.bytesCells w 5 t).size := by simp [Lib.bytesCells]
    generalize grownCap w t.size 0 5 = cap at *
    generalize Lib.bytesCells w 5 t = arr0 at *
    generalize Lib.bytesWorld w 5 t = w1 at *
    generalize w.heap.size = bb at *
    have hl8 : t.data.toList.length = t.size := by simp
    have HL8 := Lib.hid hl8
    clear hl8 hsz h0
    go_wp2_with fail
    have hA : a0 % (8 * t.size) < 8 * t.size := Nat.mod_lt _ (by omega)
    have hAe : ((a0 : Int) % (8 * (t.size : Int))) = ((a0 % (8 * t.size) : Nat) : Int) := by rw [Int.natCast_emod, Int.natCast_mul]; rfl
    rw [hAe]
    clear hAe
    generalize a0 % (8 * t.size) = A at *
    go_loopw [10] (fun i wr => ∃ k : Nat, k ≤ 32 ∧ i = .int .i64 k ∧ Ext w wr ∧ ∃ (bl : List UInt8) (arr : Array Value), bl.length = t.size ∧ isTxt arr bl ∧ t.size ≤ arr.size ∧
      own wr [pts bb (.cells arr 5 (arr0.size, arr0.size + 1)), exactly w] ∧ ∀ p, p < A ∨ A + 32 ≤ p → bitAt bl p = bitAt t.data.toList p) (fun i _ => 32 - (intOf i).toNat)
    case atStart => exact ⟨0, by omega, rfl, hx1, t.data.toList, arr0, HL8.out, htx, hcs, h1, fun p _ => rfl⟩
    case round =>
      obtain ⟨k, hk, rfl, hxr, bl, arr, hbl, harr, hasz, hown, hbits⟩ := hrel
      have HB := Lib.hid hbits
      have HBL := Lib.hid hbl
      clear hbits h1 htx
      by_cases hgo : k < 32 ∧ A + k < 8 * t.size
      · obtain ⟨k1, k2⟩ := hgo
        obtain ⟨c, f⟩ := own_cells_fr 0 hown rfl
        obtain ⟨p, hp⟩ : ∃ p, p = A + k := ⟨_, rfl⟩
        obtain ⟨q, hqe⟩ : ∃ q, q = p / 8 := ⟨_, rfl⟩
        obtain ⟨r, hre⟩ : ∃ r, r = p % 8 := ⟨_, rfl⟩
        have hq : q < bl.length := by rw [HBL.out]; omega
        have hc1 : wr.cell? ⟨bb, q, none⟩ = some (.int .u8 (bl.getD q 0).toNat) := by rw [c]; exact harr _ hq
        have hf1 : wr.frozen? ⟨bb, q, none⟩ = false := f _ (by rw [HBL.out] at hq; omega)
        have hxb := (bl.getD q 0).toNat_lt
        have e1 : IntKind.i64.wrap ((A : Int) + (k : Int)) = (p : Int) := by rw [IntWalk.i64_in _ (by omega)]; omega
        have e2 : IntKind.i64.wrap ((p : Int) / 8) = (q : Int) := by
          rw [IntWalk.i64_in _ (by omega)]; omega
        have e3 : (p : Int).tmod 8 = (r : Int) := by rw [Int.tmod_eq_emod_of_nonneg (by omega)]; omega
        have e4 : IntKind.i64.wrap (r : Int) = (r : Int) := IntWalk.i64_in _ (by omega)
        have hq2 : (q : Int) < (t.size : Int) := by rw [HBL.out] at hq; omega
        have hr2 : (r : Int) < 8 := by omega
        have hr8 : r < 8 := by omega
        have hp8 : (p : Int) < 8 * (t.size : Int) := by omega
        have HP := Lib.hid (show p = 8 * q + r ∧ p = A + k ∧ k < 32 by omega)
        clear c f hp hqe hre
        by_cases hbit : (bits .and .u32 ((turn : Int) / 2 ^ k) 1 == 1) = true
        · generalize hx : (bl.getD q 0).toNat = x at *
          have HX := Lib.hid hx
          clear hx
          go_wp2_with fail
          go_still_tail 18, (by kernel_rfl)
          change wpList _ _ _ _ _ wr.drew
          go_wp2_with fail
          go_roundw
          case rel =>
            have hxor : bits .xor .u8 (x : Int) (2 ^ r % 256) = ((UInt8.ofNat (x ^^^ (1 <<< r))).toNat : Int) := by
              have h2 : (2 : Nat) ^ r < 256 := by have := Nat.pow_lt_pow_right (a := 2) (by omega) hr8; simpa using this
              have h3 : ((2 : Int) ^ r % 256) = ((2 ^ r : Nat) : Int) := by
                rw [Int.natCast_pow]
                exact Int.emod_eq_of_lt (by exact_mod_cast Nat.zero_le (2 ^ r)) (by exact_mod_cast h2)
              rw [h3, u8_xor_nat x (2 ^ r) (by omega) (by omega), Nat.one_shiftLeft]
              have := xor_byte (x := x) (r := r) (by omega) hr8
              rw [Nat.one_shiftLeft] at this
              rw [toNat_u8 this]
            refine ⟨k + 1, by omega, by go_num, (hxr.setCell _ _).drew, bl.set q (UInt8.ofNat (x ^^^ (1 <<< r))), arr.setIfInBounds q (.int .u8 (UInt8.ofNat (x ^^^ (1 <<< r))).toNat), ?_, isTxt_set harr q hq _, by simpa using hasz, ?_, ?_⟩
            · rw [List.length_set, HBL.out]
            · rw [hxor]; exact own_drew (own_set 0 hown rfl)
            · intro p' hp'
              rw [bitAt_set hq hr8 (fun j hj hjr => ?_) p' (by have := HP.out; omega)]
              · exact HB.out p' hp'
              · rw [toNat_u8 (xor_byte (x := x) (r := r) (by omega) hr8), xor_other _ _ _ hjr, HX.out]
          case measure => simp [intOf]; omega
        · have hbit' : (bits .and .u32 ((turn : Int) / 2 ^ k) 1 == 1) = false := by simpa using hbit
          go_wp2_with fail
          go_roundw
          case rel => exact ⟨k + 1, by omega, by go_num, hxr, bl, arr, HBL.out, harr, hasz, hown, HB.out⟩
          case measure => simp [intOf]; omega
      · have hend : ¬ k < 32 ∨ (k < 32 ∧ ¬ A + k < 8 * t.size) := by omega
        have hcv : ∀ i, i < t.size → wr.cell? ⟨bb, 0 + i, none⟩ = some (.int .u8 ((bl.map fun b => (b.toNat : Int)).getD i 0)) := fun i hi => by
          rw [Nat.zero_add, (own_cells_fr 0 hown rfl).1, harr i (by rw [HBL.out]; exact hi)]
          simp [show i < bl.length by rw [HBL.out]; exact hi]
        have hconv := run_convert_bytes_arg (P := Try.prog) wr 96 5 Try.underlying96 Try.underlying5 bb 0 t.size cap (bl.map fun b => (b.toNat : Int)) (by rw [List.length_map, HBL.out]) hcv 9 Try.underlying9
        have hsd : (strOfNums (bl.map fun b => (b.toNat : Int))).data.toList = bl := by
          rw [strOfNums_data, List.map_map]
          simp [Function.comp_def]
        have hss : (strOfNums (bl.map fun b => (b.toNat : Int))).size = t.size := by rw [strOfNums_size, List.length_map, HBL.out]
        generalize strOfNums (bl.map fun b => (b.toNat : Int)) = S1 at *
        have HSD := Lib.hid hsd
        have HSS := Lib.hid hss
        have hs1 : S1.size ≤ 500 := by omega
        clear hcv hsd hss
        have heq : (sumOf bl = sumOf t.data.toList) ↔ bl = t.data.toList := ⟨fun e => text_ext (by rw [HBL.out, HL8.out]) (crc_window (a := A) (n := min 32 (8 * t.size - A)) (by rw [HBL.out, HL8.out]) (by omega) (by rw [HBL.out]; omega) (fun i hi => HB.out i (.inl hi))
          (fun i h1 h2 => HB.out i (.inr (by rw [HBL.out] at h2; omega))) (s := top) (by decide) (xor_cancel e)), fun e => by rw [e]⟩
        have HE := Lib.hid heq
        have HO := Lib.hid hown
        clear heq hown harr
        have HM : Hid (crc (sumOf t.data.toList ^^^ top) more.data.toList ^^^ top = sumOf (joinL [t, more])) := Lib.hid (by
          unfold sumOf joinL
          simp only [List.flatMap_cons, List.flatMap_nil, List.append_nil]
          rw [crc_append, Nat.xor_assoc, Nat.xor_self, Nat.xor_zero])
        have fin : ∀ (X : Prop), X → X := fun _ h => h
        rcases hend with h32 | ⟨h32, hA2⟩
        all_goals
          go_wp2_with fail
          have ha := own_alloc HO.out (.cells #[.string S1] 9)
          have hxa := hxr.alloc (.cells #[.string S1] 9)
          generalize wr.heap.size = p1 at *
          generalize wr.alloc (.cells #[.string S1] 9) = wa at *
          refine (of_any _ [S1] _ (strs_own 0 ha rfl rfl (fun i hi => by match i, hi with | 0, _ => rfl) (by simp) (fun s hs => by simp at hs; subst hs; omega))).mono ?_
          rintro e w' ⟨rfl, rfl⟩
          rw [show joinL [S1] = bl by simp [joinL, HSD.out]]
          go_wp2_with fail
          have hb := own_alloc ha (.cells #[.string t] 9)
          have hxb := hxa.alloc (.cells #[.string t] 9)
          generalize wa.heap.size = p2 at *
          generalize wa.alloc (.cells #[.string t] 9) = wb at *
          refine (of_any _ [t] _ (strs_own 0 hb rfl rfl (fun i hi => by match i, hi with | 0, _ => rfl) (by simp) (fun s hs => by simp at hs; subst hs; omega))).mono ?_
          rintro e w' ⟨rfl, rfl⟩
          rw [show joinL [t] = t.data.toList by simp [joinL]]
          have hS2 : sumOf t.data.toList < 2 ^ 32 := xor_lt (crc_lt _ (by decide)) (by decide)
          have hboth : (S1.toList == t.toList) = ((sumOf bl : Int) == (sumOf t.data.toList : Int)) := by
            rw [Bool.eq_iff_iff, beq_iff_eq, beq_iff_eq]
            constructor
            · intro e
              have := toList_inj e
              have e2 : bl = t.data.toList := by rw [← HSD.out, this]
              rw [e2]
            · intro e
              have e2 := HE.out.1 (by omega)
              have e3 : S1 = t := WideShapes.bytes_inj (by rw [HSD.out, e2])
              rw [e3]
          generalize hs2 : sumOf t.data.toList = s2 at *
          generalize sumOf bl = s1 at *
          go_wp2_with fail
          have hc := own_alloc hb (.cells #[.string t] 9)
          have hxc := hxb.alloc (.cells #[.string t] 9)
          generalize wb.heap.size = p3 at *
          generalize wb.alloc (.cells #[.string t] 9) = wc at *
          refine (of_any _ [t] _ (strs_own 0 hc rfl rfl (fun i hi => by match i, hi with | 0, _ => rfl) (by simp) (fun s hs => by simp at hs; subst hs; omega))).mono ?_
          rintro e w' ⟨rfl, rfl⟩
          rw [show joinL [t] = t.data.toList by simp [joinL], hs2]
          clear hboth
          go_wp2_with fail
          refine (more_any s2 more _ hS2 (by omega)).mono ?_
          rintro e w' ⟨rfl, rfl⟩
          rw [HM.out]
          go_wp2_with fail
          have hd := own_alloc hc (.cells #[.string t, .string more] 9)
          have hxd := hxc.alloc (.cells #[.string t, .string more] 9)
          generalize wc.heap.size = p4 at *
          generalize wc.alloc (.cells #[.string t, .string more] 9) = wd at *
          refine (of_any _ [t, more] _ (strs_own 0 hd rfl rfl (fun i hi => by match i, hi with | 0, _ => rfl | 1, _ => rfl) (by simp) (fun s hs => by simp at hs; rcases hs with rfl | rfl <;> omega))).mono ?_
          rintro e w' ⟨rfl, rfl⟩
          go_wp2_with fail
          go_ret
          exact ⟨rfl, below_of 5 hd rfl hxd⟩
  · by_cases hz : t.size = 0
    · have hz' : ((t.size : Int) == 0) = true := by rw [beq_iff_eq]; omega
      clear hz hgo
      go_enter Try.func8, Try.ntmps8
      go_wp2_with fail
      all_goals go_ret
      all_goals exact ⟨rfl, Below.refl _ _⟩
    · have hz' : ((t.size : Int) == 0) = false := by rw [beq_eq_false_iff_ne]; omega
      have hgo' : ¬ (t.size ≤ 500 ∧ more.size ≤ 500 ∧ 0 ≤ at_) := fun h => hgo ⟨by omega, h⟩
      clear hgo
      go_enter Try.func8, Try.ntmps8
      go_wp2_with fail
      all_goals go_ret
      all_goals exact ⟨rfl, Below.refl _ _⟩
end Go.Proofs.Ytbpblokfiajpjaa
