/- SumSays answers true, whatever the texts, and leaves what it was given as it was. No conditions. -/
import Derived.Test.YtbpblokfiajpjaaSum
import Derived.Test.YtbpblokfiajpjaaRow
namespace Go.Proofs.Ytbpblokfiajpjaa
open Go.RowKit Go.SL Go.Crc

theorem elem_string : Elem Try.prog 9 1 16 (.string ByteArray.empty) := by unfold Elem; kernel_rfl

theorem strs_own {w : World} {L : List HP} (k : Nat) {b n : Nat} {arr : Array Value} {T : TypeId} {l : List ByteArray} (H : own w L) (hk : L[k]? = some (pts b (.cells arr T (0, 0)))) (hn : l.length = n)
    (ha : ∀ i, i < l.length → arr[i]? = some (.string (l.getD i ByteArray.empty))) (hb : n ≤ 9223372036854775807) (hs : ∀ s ∈ l, s.size ≤ 9223372036854775807) : StrsAt w (.slice (some ⟨b, 0, none⟩) n n) l := by
  subst hn
  exact ⟨⟨_, b, 0, l.length, rfl, Nat.le_refl _, hb, fun _ => rfl, fun i hi => by dsimp only; rw [Nat.zero_add, (own_cells k H hk).1]; exact ha i hi⟩, hs⟩

theorem drewN_add (w : World) (a b : Nat) : (w.drewN a).drewN b = w.drewN (a + b) := by simp [World.drewN, Nat.add_assoc]
def smark : ByteArray := ⟨#[109, 97, 114, 107]⟩
def pw : Nat → Nat | 0 => 4294967296 | 1 => 16777216 | 2 => 65536 | 3 => 256 | _ => 1
theorem size_append (a b : ByteArray) : (a ++ b).size = a.size + b.size := by simp

theorem strs_row {w : World} {L : List HP} (k : Nat) {e : TypeId} {g cap n : Nat} {l : List ByteArray} {xs rest : List Value} (H : own w L) (hk : L[k]? = some (row e 1 (.slice (some ⟨g, 0, none⟩) n cap) n xs))
    (hx : xs = l.map Value.string ++ rest) (hs : ∀ s ∈ l, s.size ≤ 9223372036854775807) : StrsAt w (.slice (some ⟨g, 0, none⟩) l.length cap) l := by
  obtain ⟨ao3, g3, cap3, hv, c31, c32, a31, a32, a33, cells3, fr3⟩ := own_row_form k H hk
  simp only [Value.slice.injEq] at hv
  obtain ⟨rfl, _, rfl⟩ := hv
  have hg := a33 _ rfl
  simp only [Addr.mk.injEq, and_true] at hg
  subst hg
  have hlen := (own_row k H hk).1
  have hn : l.length ≤ n := by rw [hx, List.length_append, List.length_map] at hlen; omega
  refine ⟨⟨_, g, 0, cap, rfl, by omega, by simp only [maxLen] at c32; omega, fun _ => rfl, fun i hi => ?_⟩, hs⟩
  dsimp only
  rw [Nat.zero_add]
  exact cells3 i _ (by rw [hx, List.getElem?_append_left (by simpa using hi)]; simp [hi])

def s123 : ByteArray := ⟨#[49, 50, 51]⟩
def s456 : ByteArray := ⟨#[52, 53, 54, 55, 56, 57]⟩
theorem sum_digits : sumOf (joinL [s123, s456]) = 3421780262 := by decide +kernel

set_option maxRecDepth 100000 in
set_option maxHeartbeats 1000000 in
theorem sums_any (R : List HP) (w : World) (H : own w R) : Calls Try.prog 22 #[] w fun e w' => e = .returned (.bool true) ∧ Ext w w' ∧ own w' R := by
  go_enter Try.func22, Try.ntmps22
  go_wp2_with fail
  have ha := own_alloc H (.cells #[.string s123, .string s456] 9)
  refine (of_any _ [s123, s456] _ (strs_own 0 ha rfl rfl (fun i hi => by match i, hi with | 0, _ => rfl | 1, _ => rfl) (by decide) (fun s hs => by simp at hs; rcases hs with rfl | rfl <;> decide))).mono ?_
  rintro e w' ⟨rfl, rfl⟩
  rw [sum_digits]
  go_wp2_with fail
  refine (sbytes_any 1 _ _ (by decide) ha).mono ?_
  rintro e w' ⟨rfl, hx, h1⟩
  go_wp2_with fail
  go_ret
  exact ⟨rfl, ((Ext.refl _).alloc _).trans hx, own_drop h1⟩

set_option maxRecDepth 100000 in
set_option maxHeartbeats 1000000 in
theorem sametexts_any (va vb : Value) (la lb : List ByteArray) (w : World) (ha : StrsAt w va la) (hb : StrsAt w vb lb) :
    Calls Try.prog 28 #[va, vb] w fun e w' => e = .returned (.bool (decide (la = lb))) ∧ ∃ n, w' = w.drewN n := by
  obtain ⟨aoa, ba, offa, capa, rfl, a1, a2, a3, a4⟩ := ha.form
  obtain ⟨aob, bb, offb, capb, rfl, b1, b2, b3, b4⟩ := hb.form
  by_cases hl : la.length = lb.length
  · go_enter Try.func28, Try.ntmps28
    have hl2 : ((la.length : Int) != (lb.length : Int)) = false := by rw [hl]; simp
    have HL := Lib.hid hl
    clear hl
    go_wp2_with fail
    go_loopw [5] (fun i wr => ∃ k : Nat, k ≤ la.length ∧ i = .int .i64 k ∧ (∀ j, j < k → la.getD j ByteArray.empty = lb.getD j ByteArray.empty) ∧ ∃ n, wr = w.drewN n) (fun i _ => la.length - (intOf i).toNat)
    case atStart => exact ⟨0, by omega, rfl, fun j hj => absurd hj (by omega), 0, rfl⟩
    case round =>
      obtain ⟨k, hk, rfl, hj, nd, rfl⟩ := hrel
      have HJ := Lib.hid hj
      clear hj
      by_cases hlt : k < la.length
      · obtain rfl := a3 (by omega)
        have hlt2 : k < lb.length := by rw [← HL.out]; exact hlt
        obtain rfl := b3 (by omega)
        have c1 := a4 k hlt
        have c2 := b4 k hlt2
        clear a3 a4 b3 b4 ha hb
        generalize hxa : la.getD k ByteArray.empty = xa at *
        generalize hxb : lb.getD k ByteArray.empty = xb at *
        have HXA := Lib.hid hxa
        have HXB := Lib.hid hxb
        clear hxa hxb
        have ha5 : (k : Int) < (la.length : Int) := by omega
        have hb5 : (k : Int) < (lb.length : Int) := by omega
        by_cases hx : xa = xb
        · have HX := Lib.hid hx
          have ht : (!xa.toList == xb.toList) = false := by rw [hx]; simp
          clear hx
          go_wp2_with fail
          go_quiet (fail)
          go_wp2_with fail
          go_roundw
          case rel => exact ⟨k + 1, by omega, by go_num, (fun j hj => by
            by_cases e : j = k
            · subst e; rw [HXA.out, HXB.out, HX.out]
            · exact HJ.out j (by omega)), nd + nq, by first | rfl | exact drewN_add _ _ _⟩
          case measure => simp [intOf]; omega
        · have ht : (!xa.toList == xb.toList) = true := by
            rw [Bool.not_eq_true', beq_eq_false_iff_ne]
            intro e
            exact hx (toList_inj e)
          have HX := Lib.hid hx
          clear hx
          go_wp2_with fail
          go_quiet (fail)
          go_wp2_with fail
          go_ret
          refine ⟨ret_bool ?_, nd + nq, by first | rfl | exact drewN_add _ _ _⟩
          symm
          apply decide_eq_false
          intro e
          exact HX.out (by rw [← HXA.out, ← HXB.out, e])
      · obtain rfl : k = la.length := by omega
        go_wp2_with fail
        go_ret
        refine ⟨ret_bool ?_, _, rfl⟩
        symm
        apply decide_eq_true
        apply List.ext_getElem HL.out
        intro i h1 h2
        have := HJ.out i h1
        simpa [h1, h2] using this
  · have hl2 : ((la.length : Int) != (lb.length : Int)) = true := by rw [bne_iff_ne]; omega
    go_enter Try.func28, Try.ntmps28
    have HL := Lib.hid hl
    clear hl
    go_wp2_with fail
    go_ret
    refine ⟨ret_bool ?_, 0, rfl⟩
    symm
    apply decide_eq_false
    intro e
    exact HL.out (by rw [e])

set_option maxRecDepth 100000 in
set_option maxHeartbeats 4000000 in
theorem sumSays_walk (v : Value) (l : List ByteArray) (t : ByteArray) (w : World) (hv : StrsAt w v l) (ht : t.size ≤ 9223372036854775807) :
    Calls Try.prog 4 #[v, .string t] w fun e w' => e = .returned (.bool true) ∧ Below w.heap.size w w' := by
  obtain ⟨ao, b, off, cap, rfl, hc1, hc2, hao, hat⟩ := hv.form
  have h0 := own_exactly w
  go_enter Try.func4, Try.ntmps4
  go_wp2_with fail
  refine (sums_any _ w h0).mono ?_
  rintro e w1 ⟨rfl, hx1, h1⟩
  have hv1 := hv.later 0 h1 rfl
  have hat1 : ∀ i, i < l.length → w1.cell? ⟨b, off + i, none⟩ = some (.string (l.getD i ByteArray.empty)) := fun i hi => rd_later 0 h1 rfl (hat i hi)
  have hs1 := hv.2
  have HV0 := Lib.hid hv
  clear hv hat h0
  go_wp2_with fail
  refine (few_any _ l 500 w1 hv1).mono ?_
  rintro e w1' ⟨rfl, rfl⟩
  by_cases hF : fewB l 500 = true
  · by_cases ht5 : t.size ≤ 500
    · have hl20 : l.length ≤ 20 ∧ ∀ s ∈ l, s.size ≤ 500 := by
        simp only [fewB, Bool.and_eq_true, decide_eq_true_eq, List.all_eq_true, fewOne] at hF
        exact ⟨hF.1, fun s hs => by have := hF.2 s hs; omega⟩
      obtain ⟨hl, hsz⟩ := hl20
      have HV := Lib.hid hv1
      have HS := Lib.hid hsz
      clear hs1 hsz hv1
      go_wp2_with fail
      go_loop [6, 7] (fun a i => ∃ k : Nat, k ≤ l.length ∧ i = .int .i64 k ∧ ∃ s : ByteArray, a = .string s ∧ s.data.toList = joinL (l.take k) ∧ s.size ≤ 500 * k) (fun _ i => l.length - (intOf i).toNat)
      case atStart => exact ⟨0, by omega, rfl, _, rfl, rfl, by simp [ByteArray.size]⟩
      case round =>
        obtain ⟨k, hk, rfl, s, rfl, hjs, hss⟩ := hrel
        have HJ := Lib.hid hjs
        clear hjs
        by_cases hlt : k < l.length
        · obtain rfl := hao (by omega)
          have c5 := hat1 k hlt
          have hS := HS.out _ (str_getD hlt)
          have HT := Lib.hid (joinL_take l k hlt)
          clear hat1 hao
          generalize l.getD k ByteArray.empty = x at *
          go_wp2_with fail
          go_round
          case rel => exact ⟨k + 1, by omega, by go_num, _, rfl, by rw [HT.out, ← HJ.out]; simp, by have := size_append s x; omega⟩
          case measure => simp [intOf]; omega
        · obtain rfl : k = l.length := by omega
          rw [List.take_length] at HJ
          have hn1 : ∀ ad, ao = some ad → ∀ j u, (l.map Value.string)[j]? = some u → w1.cell? (ad.add j) = some u := fun ad had j u hu => by
            obtain ⟨hj, rfl⟩ := List.getElem?_eq_some_iff.1 hu
            simp only [List.length_map] at hj
            obtain rfl : ad = ⟨b, off, none⟩ := by rw [hao (by omega)] at had; exact (Option.some.inj had).symm
            rw [add_none, hat1 j hj]
            simp [hj]
          have hn2 : ao = none → l.length = 0 := fun h => by
            rcases Nat.eq_zero_or_pos l.length with h0 | h0
            · exact h0
            · rw [hao h0] at h; cases h
          have hn3 : ∀ u ∈ l.map Value.string, u.oneCell' = true := fun u hu => by
            obtain ⟨_, _, rfl⟩ := List.mem_map.1 hu; rfl
          have hml : 0 + l.length ≤ maxLen := by simp only [maxLen]; omega
          have hnl : (l.map Value.string).length = l.length * 1 := by simp
          clear hat1 hao
          go_wp2_with (first | (at_builtin; refine wpList_append_row rfl _ _ 42 rfl 0 9 Try.underlying42 elem_string rfl (by decide) rfl (own_row_nil 9 1 h1) rfl ao l.length cap (l.map Value.string) rfl hnl hn1 hn2 hn3 hml (by omega) ?_))
          clear hn1 hn2
          intro v2 w2 h2 hx2
          obtain ⟨ao2, g2, cap2, rfl, c21, c22, a21, a22, a23, cells2, fr2⟩ := own_row_form 0 h2 rfl
          clear a21 a22 a23 cells2 fr2
          have ha := own_alloc h2 (.cells #[.string smark] 9)
          have hm1 : ∀ ad, some (⟨w2.heap.size, 0, none⟩ : Addr) = some ad → ∀ j u, [Value.string smark][j]? = some u → (w2.alloc (.cells #[.string smark] 9)).cell? (ad.add j) = some u := fun ad had j u hu => by
            obtain rfl := Option.some.inj had
            rw [add_none, Nat.zero_add, (own_cells 0 ha rfl).1]
            match j, hu with | 0, hu => exact hu
          have hm2 : ∀ u ∈ [Value.string smark], u.oneCell' = true := fun u hu => by simp at hu; subst hu; rfl
          have hml2 : l.length + 1 ≤ maxLen := by simp only [maxLen]; omega
          go_wp2_with (first | (at_builtin; refine wpList_append_row rfl _ _ 42 rfl 1 9 Try.underlying42 elem_string rfl (by decide) rfl ha rfl (some ⟨w2.heap.size, 0, none⟩) 1 1 [.string smark] rfl rfl hm1 (fun h => by cases h) hm2 hml2 (by omega) ?_))
          clear hm1 hm2
          intro v3 w3 h3 hx3
          obtain ⟨ao3, g3, cap3, rfl, c31, c32, a31, a32, a33, cells3, fr3⟩ := own_row_form 1 h3 rfl
          obtain rfl := a31 (by omega)
          have hx03 : Ext w w3 := hx1.trans (hx2.trans (((Ext.refl w2).alloc _).trans hx3))
          have hown : StrsAt w3 (.slice (some ⟨g3, 0, none⟩) l.length cap3) l := ⟨⟨_, g3, 0, cap3, rfl, by omega, by simp only [maxLen] at c32; omega, fun _ => rfl, fun i hi => by
            dsimp only
            rw [Nat.zero_add]
            exact cells3 i _ (by rw [List.getElem?_append_left (by simpa using hi)]; simp [hi])⟩, fun x hx => by have := HS.out x hx; omega⟩
          have HO := Lib.hid hown
          have HV3 : Hid (StrsAt w3 (.slice ao l.length cap) l) := Lib.hid (HV0.out.later 2 h3 rfl)
          have H3 := Lib.hid h3
          clear cells3 fr3 hown h3 h2 ha h1 a31 a32 a33
          have hsz : s.size ≤ 10000 := by omega
          have htop : (top : Nat) < 2 ^ 32 := by decide
          have hS : sumOf s.data.toList < 2 ^ 32 := xor_lt (crc_lt _ htop) htop
          go_wp2_with fail
          refine (rsum_any s _ (by omega)).mono ?_
          rintro e w3' ⟨rfl, rfl⟩
          generalize hSs : sumOf s.data.toList = S at *
          have HSs := Lib.hid hSs
          clear hSs
          go_wp2_with fail
          refine (sbytes_ex S _ _ hS H3.out).mono ?_
          rintro e w4 ⟨bs, rfl, hbs, bz, hx4, h4⟩
          have bz4 : bs.size = 4 := bz
          clear bz
          have b3 : ((bs[3]'(by omega)).toNat : Int) = ((S / 16777216 : Nat) : Int) := by
            rw [byte_at hbs 3 (by omega)]
            show ((UInt8.ofNat (S / 16777216)).toNat : Int) = _
            simp; omega
          have b2 : ((bs[2]'(by omega)).toNat : Int) = ((S / 65536 % 256 : Nat) : Int) := by
            rw [byte_at hbs 2 (by omega)]
            show ((UInt8.ofNat (S / 65536)).toNat : Int) = _
            simp
          have b1 : ((bs[1]'(by omega)).toNat : Int) = ((S / 256 % 256 : Nat) : Int) := by
            rw [byte_at hbs 1 (by omega)]
            show ((UInt8.ofNat (S / 256)).toNat : Int) = _
            simp
          have b0 : ((bs[0]'(by omega)).toNat : Int) = ((S % 256 : Nat) : Int) := by
            rw [byte_at hbs 0 (by omega)]
            show ((UInt8.ofNat S).toNat : Int) = _
            simp
          have HO4 : Hid (StrsAt w4 (.slice (some ⟨g3, 0, none⟩) l.length cap3) l) := Lib.hid (strs_row 1 h4 rfl rfl fun x hx => by have := HS.out x hx; omega)
          have HV4 : Hid (StrsAt w4 (.slice ao l.length cap) l) := Lib.hid (HV0.out.later 2 h4 rfl)
          have H4 := Lib.hid h4
          clear h4 hbs
          go_wp2_with fail
          go_loop [11, 12] (fun n i => ∃ k : Nat, k ≤ 4 ∧ i = .int .i64 (3 - (k : Int)) ∧ n = .int .u32 ((S / pw k : Nat) : Int)) (fun _ i => (1 + intOf i).toNat)
          case atStart => exact ⟨0, by omega, rfl, by rw [show S / pw 0 = 0 by simp only [pw]; omega]; rfl⟩
          case round =>
            obtain ⟨k, hk, rfl, rfl⟩ := hrel
            have hk5 : k = 0 ∨ k = 1 ∨ k = 2 ∨ k = 3 ∨ k = 4 := by omega
            rcases hk5 with rfl | rfl | rfl | rfl | rfl
            · go_wp2_with fail
              go_round
              case rel => exact ⟨1, by omega, by go_num, by congr 1; simp only [pw]; omega⟩
              case measure => simp [intOf]
            · go_wp2_with fail
              go_round
              case rel => exact ⟨2, by omega, by go_num, by congr 1; simp only [pw]; omega⟩
              case measure => simp [intOf]
            · go_wp2_with fail
              go_round
              case rel => exact ⟨3, by omega, by go_num, by congr 1; simp only [pw]; omega⟩
              case measure => simp [intOf]
            · go_wp2_with fail
              go_round
              case rel => exact ⟨4, by omega, by go_num, by congr 1; simp only [pw]; omega⟩
              case measure => simp [intOf]
            · have hp4 : S / pw 4 = S := by simp [pw]
              rw [hp4]
              clear hp4
              have HSM : Hid (sumOf (s ++ t).data.toList = crc (S ^^^ top) t.data.toList ^^^ top) := Lib.hid (by
                rw [← HSs.out, show (s ++ t).data.toList = s.data.toList ++ t.data.toList by simp]
                unfold sumOf
                rw [crc_append, Nat.xor_assoc, Nat.xor_self, Nat.xor_zero])
              go_wp2_with fail
              refine (of_any _ l w4 HO4.out).mono ?_
              rintro e w5 ⟨rfl, rfl⟩
              rw [← HJ.out, HSs.out]
              go_wp2_with fail
              refine (more_any S t w4 hS (by omega)).mono ?_
              rintro e w5 ⟨rfl, rfl⟩
              go_wp2_with fail
              refine (rsum_any (s ++ t) w4 (by rw [size_append]; omega)).mono ?_
              rintro e w5 ⟨rfl, rfl⟩
              rw [HSM.out]
              go_wp2_with fail
              refine (sametexts_any _ _ l l w4 HO4.out HV4.out).mono ?_
              rintro e w5 ⟨rfl, nd, rfl⟩
              go_wp2_with fail
              go_ret
              exact ⟨by simp, below_of 2 (own_drewN nd H4.out) rfl ((hx03.trans hx4).drewN nd)⟩
    · go_wp2_with fail
      go_ret
      exact ⟨rfl, below_of 0 h1 rfl hx1⟩
  · go_wp2_with fail
    go_ret
    exact ⟨rfl, below_of 0 h1 rfl hx1⟩
end Go.Proofs.Ytbpblokfiajpjaa
