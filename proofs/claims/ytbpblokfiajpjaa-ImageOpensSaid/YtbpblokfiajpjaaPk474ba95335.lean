/- A cluster cleared: the program's, the document's. Places: which are open, how many (the document's). Places: how many are open, the lowest one (the program's). The lowest open place, by the program. Sectors written in a row: the model, the document's loop. Sectors of a cluster written: the program's, the document's. An image flushed: the program's, the document's. A cluster filled: the program's, the document's. No conditions. -/
import Derived.Test.YtbpblokfiajpjaaPkbb7c39cba0
import Derived.Test.YtbpblokfiajpjaaProg
namespace Go.Proofs.Ytbpblokfiajpjaa
open Go.RowKit Go.SL Go.Crc
attribute [local go_sem ↓] Go.wp_at_zero Go.wp_at_succ

def ImgM.clear (m : ImgM) (k : Int) : Int × ImgM := if m.there k = true then (if m.kind k = 1 then (0, m) else m.setE k.toNat (1, 0)) else (1, m)
theorem there_range {m : ImgM} {k : Int} (hm : m.Ok) (h : m.there k = true) : 0 ≤ k ∧ k < m.c ∧ k.toNat < m.t.length := by
  have ht := hm.t
  unfold ImgM.there at h
  simp at h
  omega

set_option maxRecDepth 100000 in
set_option maxHeartbeats 2000000 in
theorem clear_any (b bd bh : Nat) (m : ImgM) (hm : m.Ok) (hw : m.d.writes < 1000000) (hp : m.d.pend.length < 1000000) (k : Int) (R : List SL.HP) (w : World) (H : own w (imgAt b bd bh m :: devAt bd m.d :: R)) :
    Calls Try.prog 95 #[.pointer (some ⟨b, 0, none⟩), .int .i64 k] w fun e w' => e = .returned (errV (m.clear k).1) ∧ Ext w w' ∧ own w' (imgAt b bd bh (m.clear k).2 :: devAt bd (m.clear k).2.d :: R) := by
  have hth := there_any b bd bh m k _ w H
  cases ht : m.there k
  · have e : m.clear k = (1, m) := by unfold ImgM.clear; rw [ht, if_neg (by decide)]
    rw [e]
    rw [ht] at hth
    have HT := Lib.hid hth
    clear hth e ht
    go_enter Try.func95, Try.ntmps95
    go_wp2_with fail
    refine HT.out.mono ?_
    rintro e w' ⟨rfl, rfl⟩
    go_wp2_with fail
    go_ret
    exact ⟨rfl, Ext.refl _, H⟩
  · obtain ⟨k0, -, hkl⟩ := there_range hm ht
    obtain ⟨n, rfl⟩ := Int.eq_ofNat_of_zero_le k0
    rw [Int.toNat_natCast] at hkl
    rw [ht] at hth
    have HT := Lib.hid hth
    obtain ⟨v, h⟩ := img_open H
    obtain ⟨ao, g, cap, rfl, r1, r2, r3, -, -, r6, -⟩ := own_row_form 1 h rfl
    obtain rfl := r3 (by omega)
    have e1 := r6 _ _ (entCells_get hkl).1
    have e2 : w.cell? ⟨g, n * 2, none⟩ = some (.int .i64 (m.kind n)) := e1
    obtain ⟨c, f⟩ := own_cells 0 h rfl
    by_cases h1 : m.kind n = 1
    · have e : m.clear n = (0, m) := by unfold ImgM.clear; rw [ht, if_pos rfl, if_pos h1]
      rw [e]
      rw [h1] at e2
      clear hth e ht e1 r3 r6 h1
      go_enter Try.func95, Try.ntmps95
      go_wp2_with fail
      refine HT.out.mono ?_
      rintro e w' ⟨rfl, rfl⟩
      go_wp2_with fail
      go_ret
      exact ⟨rfl, Ext.refl _, H⟩
    · have e : m.clear n = m.setE n (1, 0) := by unfold ImgM.clear; rw [ht, if_pos rfl, if_neg h1, Int.toNat_natCast]
      rw [e]
      have t1 : (m.kind n == 1) = false := beq_eq_false_iff_ne.2 h1
      have HS := Lib.hid (set_any b bd bh m hm hw hp n hkl 1 0 rfl R w H)
      clear hth e ht e1 r3 r6 h1
      generalize m.kind n = kd at *
      generalize m.setE n (1, 0) = S at *
      go_enter Try.func95, Try.ntmps95
      go_wp2_with fail
      refine HT.out.mono ?_
      rintro e w' ⟨rfl, rfl⟩
      go_wp2_with fail
      refine HS.out.mono ?_
      rintro e w' ⟨rfl, hx, h2⟩
      go_wp2_with fail
      go_ret
      exact ⟨rfl, hx, h2⟩

set_option maxRecDepth 100000 in
set_option maxHeartbeats 2000000 in
theorem rclear_any (b bd : Nat) (m : ImgM) (hm : m.Ok) (hw : m.d.writes < 1000000) (hp : m.d.pend.length < 1000000) (hh : m.held.length ≤ 1000000) (k : Int) (R : List SL.HP) (w : World) (H : own w (rimgAt b bd m :: rdevAt bd m.d :: R)) :
    Calls Try.prog 96 #[.pointer (some ⟨b, 0, none⟩), .int .i64 k] w fun e w' => e = .returned (.int .i64 (m.clear k).1) ∧ Ext w w' ∧ own w' (rimgAt b bd (m.clear k).2 :: rdevAt bd (m.clear k).2.d :: R) := by
  have hth := rthere_any b bd m k _ w H
  cases ht : m.there k
  · have e : m.clear k = (1, m) := by unfold ImgM.clear; rw [ht, if_neg (by decide)]
    rw [e]
    rw [ht] at hth
    have HT := Lib.hid hth
    clear hth e ht
    go_enter Try.func96, Try.ntmps96
    go_wp2_with fail
    refine HT.out.mono ?_
    rintro e w' ⟨rfl, rfl⟩
    go_wp2_with fail
    go_ret
    exact ⟨rfl, Ext.refl _, H⟩
  · obtain ⟨k0, -, hkl⟩ := there_range hm ht
    obtain ⟨n, rfl⟩ := Int.eq_ofNat_of_zero_le k0
    rw [Int.toNat_natCast] at hkl
    rw [ht] at hth
    have HT := Lib.hid hth
    obtain ⟨vt, vh, h⟩ := rimg_open H
    obtain ⟨ao, g, cap, rfl, r1, r2, r3, -, -, r6, -⟩ := own_row_form 1 h rfl
    obtain rfl := r3 (by omega)
    have e1 := r6 _ _ (entCells_get hkl).1
    have e2 : w.cell? ⟨g, n * 2, none⟩ = some (.int .i64 (m.kind n)) := e1
    obtain ⟨c, f⟩ := own_cells 0 h rfl
    by_cases h1 : m.kind n = 1
    · have e : m.clear n = (0, m) := by unfold ImgM.clear; rw [ht, if_pos rfl, if_pos h1]
      rw [e]
      rw [h1] at e2
      clear hth e ht e1 r3 r6 h1
      go_enter Try.func96, Try.ntmps96
      go_wp2_with fail
      refine HT.out.mono ?_
      rintro e w' ⟨rfl, rfl⟩
      go_wp2_with fail
      go_ret
      exact ⟨rfl, Ext.refl _, H⟩
    · have e : m.clear n = m.setE n (1, 0) := by unfold ImgM.clear; rw [ht, if_pos rfl, if_neg h1, Int.toNat_natCast]
      rw [e]
      have t1 : (m.kind n == 1) = false := beq_eq_false_iff_ne.2 h1
      have HS := Lib.hid (rset_any b bd m hm hw hp hh n hkl 1 0 rfl R w H)
      clear hth e ht e1 r3 r6 h1
      generalize m.kind n = kd at *
      generalize m.setE n (1, 0) = S at *
      go_enter Try.func96, Try.ntmps96
      go_wp2_with fail
      refine HT.out.mono ?_
      rintro e w' ⟨rfl, rfl⟩
      go_wp2_with fail
      refine HS.out.mono ?_
      rintro e w' ⟨rfl, hx, h2⟩
      go_wp2_with fail
      go_ret
      exact ⟨rfl, hx, h2⟩
end Go.Proofs.Ytbpblokfiajpjaa

namespace Go.Proofs.Ytbpblokfiajpjaa
open Go.RowKit Go.SL Go.Crc
attribute [local go_sem ↓] Go.wp_at_zero Go.wp_at_succ

def ImgM.openB (m : ImgM) (p : Int) : Bool := !(m.t.contains ((2, p) : Ent)) && !(m.held.contains p)
theorem openB_used {m : ImgM} {p : Int} {j : Nat} (h : j < m.t.length) (he : ent m.t j = (2, p)) : m.openB p = false := by
  have : ((2, p) : Ent) ∈ m.t := by rw [← he]; unfold ent; simp [h]
  unfold ImgM.openB
  simp [this]
theorem openB_held {m : ImgM} {p : Int} {j : Nat} (h : j < m.held.length) (he : m.held.getD j 0 = p) : m.openB p = false := by
  have : p ∈ m.held := by rw [← he]; simp [h]
  unfold ImgM.openB
  simp [this]
theorem openB_yes {m : ImgM} {p : Int} (h1 : ∀ j, j < m.t.length → ent m.t j ≠ (2, p)) (h2 : ∀ j, j < m.held.length → m.held.getD j 0 ≠ p) : m.openB p = true := by
  have a : ((2, p) : Ent) ∉ m.t := fun h => by
    obtain ⟨j, hj, he⟩ := List.getElem_of_mem h
    exact h1 j hj (by unfold ent; simp [hj, he])
  have b : p ∉ m.held := fun h => by
    obtain ⟨j, hj, he⟩ := List.getElem_of_mem h
    exact h2 j hj (by simp [hj, he])
  unfold ImgM.openB
  simp [a, b]

set_option maxRecDepth 100000 in
set_option maxHeartbeats 2000000 in
theorem ropen_any (b bd : Nat) (m : ImgM) (hl : m.t.length ≤ 1000) (hh : m.held.length ≤ 1000000) (p : Int) (R : List SL.HP) (w : World) (H : own w (rimgAt b bd m :: R)) :
    Calls Try.prog 120 #[.pointer (some ⟨b, 0, none⟩), .int .i64 p] w fun e w' => e = .returned (.bool (m.openB p)) ∧ w = w' := by
  obtain ⟨vt, vh, h⟩ := rimg_open H
  obtain ⟨ao, g, cap, rfl, r1, r2, r3, -, -, r6, -⟩ := own_row_form 1 h rfl
  obtain ⟨hao, hg, hcap, rfl, s1, s2, s3, -, -, s6, -⟩ := own_row_form 2 h rfl
  obtain ⟨c, f⟩ := own_cells 0 h rfl
  have R3 := Lib.hid r3
  have R6 := Lib.hid r6
  have S3 := Lib.hid s3
  have S6 := Lib.hid s6
  clear r3 r6 s3 s6
  go_enter Try.func120, Try.ntmps120
  go_wp2_with fail
  go_loop [5] (fun i => ∃ q : Nat, q ≤ m.t.length ∧ i = .int .i64 q ∧ ∀ j, j < q → ent m.t j ≠ (2, p)) (fun i => m.t.length - (intOf i).toNat)
  case atStart => exact ⟨0, by omega, rfl, fun j h => absurd h (by omega)⟩
  case round =>
    obtain ⟨q, hq, rfl, hj⟩ := hrel
    have HJ := Lib.hid hj
    clear hj
    by_cases hlt : q < m.t.length
    · obtain rfl := R3.out (by omega)
      have e1 : w.cell? ⟨g, q * 2, none⟩ = some (.int .i64 (ent m.t q).1) := R6.out _ _ (entCells_get hlt).1
      have e2 : w.cell? ⟨g, q * 2 + 1, none⟩ = some (.int .i64 (ent m.t q).2) := R6.out _ _ (entCells_get hlt).2
      generalize hx : ent m.t q = x at *
      have HX := Lib.hid hx
      clear hx
      obtain ⟨xa, xb⟩ := x
      dsimp only at e1 e2
      by_cases ha : xa = 2
      · by_cases hb : xb = p
        · have hfin := openB_used (m := m) (p := p) hlt (by rw [HX.out, ha, hb])
          have HF := Lib.hid hfin
          subst ha hb
          clear hfin
          go_wp2_with fail
          go_ret
          exact ⟨ret_bool HF.out.symm, rfl⟩
        · have tb : (xb == p) = false := beq_eq_false_iff_ne.2 hb
          have HB := Lib.hid hb
          subst ha
          clear hb
          go_wp2_with fail
          go_round
          case rel => exact ⟨q + 1, by omega, by go_num, fun j h => by
            by_cases e : j = q
            · subst e; rw [HX.out]; exact fun h => HB.out (Prod.mk.inj h).2
            · exact HJ.out j (by omega)⟩
          case measure => simp [intOf]; omega
      · have ta : (xa == 2) = false := beq_eq_false_iff_ne.2 ha
        have HA := Lib.hid ha
        clear ha
        go_wp2_with fail
        go_round
        case rel => exact ⟨q + 1, by omega, by go_num, fun j h => by
          by_cases e : j = q
          · subst e; rw [HX.out]; exact fun h => HA.out (Prod.mk.inj h).1
          · exact HJ.out j (by omega)⟩
        case measure => simp [intOf]; omega
    · have hqe : q = m.t.length := by omega
      subst hqe
      go_wp2_with fail
      go_loop [6] (fun i => ∃ q : Nat, q ≤ m.held.length ∧ i = .int .i64 q ∧ ∀ j, j < q → m.held.getD j 0 ≠ p) (fun i => m.held.length - (intOf i).toNat)
      case atStart => exact ⟨0, by omega, rfl, fun j h => absurd h (by omega)⟩
      case round =>
        obtain ⟨q, hq, rfl, hj2⟩ := hrel
        have HJ2 := Lib.hid hj2
        clear hj2
        by_cases hlt2 : q < m.held.length
        · obtain rfl := S3.out (by omega)
          have e1 : w.cell? ⟨hg, q, none⟩ = some (.int .i64 (m.held.getD q 0)) := S6.out _ _ (by simp [heldNums, hlt2])
          generalize hx : m.held.getD q 0 = x at *
          have HX := Lib.hid hx
          clear hx
          by_cases hb : x = p
          · have hfin := openB_held (m := m) (p := p) hlt2 (by rw [HX.out, hb])
            have HF := Lib.hid hfin
            subst hb
            clear hfin
            go_wp2_with fail
            go_ret
            exact ⟨ret_bool HF.out.symm, rfl⟩
          · have tb : (x == p) = false := beq_eq_false_iff_ne.2 hb
            have HB := Lib.hid hb
            clear hb
            go_wp2_with fail
            go_round
            case rel => exact ⟨q + 1, by omega, by go_num, fun j h => by
              by_cases e : j = q
              · subst e; rw [HX.out]; exact HB.out
              · exact HJ2.out j (by omega)⟩
            case measure => simp [intOf]; omega
        · have hqe : q = m.held.length := by omega
          subst hqe
          go_wp2_with fail
          go_ret
          exact ⟨ret_bool (openB_yes HJ.out HJ2.out).symm, rfl⟩

def ImgM.freeN (m : ImgM) : Nat := ((List.range m.p.toNat).filter fun (q : Nat) => m.openB q).length
set_option maxRecDepth 100000 in
set_option maxHeartbeats 2000000 in
theorem rfree_any (b bd : Nat) (m : ImgM) (hm : m.Ok) (hh : m.held.length ≤ 1000000) (R : List SL.HP) (w : World) (H : own w (rimgAt b bd m :: R)) :
    Calls Try.prog 103 #[.pointer (some ⟨b, 0, none⟩)] w fun e w' => e = .returned (.int .i64 m.freeN) ∧ w = w' := by
  obtain ⟨C, hC, q1, q2, q3, q4, q5, q6, -⟩ := hm.nat
  have hop := fun p => ropen_any b bd m (by omega) hh p R w H
  have HOP := Lib.hid hop
  obtain ⟨vt, vh, h⟩ := rimg_open H
  obtain ⟨c, f⟩ := own_cells 0 h rfl
  obtain ⟨P, hP⟩ := Int.eq_ofNat_of_zero_le q5
  have hfr : m.freeN = ((List.range P).filter fun (q : Nat) => m.openB q).length := by unfold ImgM.freeN; rw [hP, Int.toNat_natCast]
  rw [hfr]
  rw [hP] at c q6
  clear hop hC q3 hfr hP q5
  go_enter Try.func103, Try.ntmps103
  go_wp2_with fail
  go_loop [3, 4] (fun n i => ∃ q : Nat, q ≤ P ∧ i = .int .i64 q ∧ n = .int .i64 (((List.range q).filter fun (q : Nat) => m.openB q).length : Nat)) (fun _ i => P - (intOf i).toNat)
  case atStart => exact ⟨0, by omega, rfl, rfl⟩
  case round =>
    obtain ⟨q, hq, rfl, rfl⟩ := hrel
    by_cases hlt : q < P
    · have hle : ((List.range q).filter fun (q : Nat) => m.openB q).length ≤ q := by
        have := List.length_filter_le (fun (q : Nat) => m.openB q) (List.range q); simpa using this
      have hs : ((List.range (q + 1)).filter fun (q : Nat) => m.openB q).length = ((List.range q).filter fun (q : Nat) => m.openB q).length + (if m.openB q = true then 1 else 0) := by
        rw [List.range_succ, List.filter_append, List.length_append]
        congr 1
        cases h : m.openB q <;> simp [h]
      have HS := Lib.hid hs
      clear hs
      generalize ((List.range q).filter fun (q : Nat) => m.openB q).length = n at *
      go_wp2_with fail
      refine (HOP.out q).mono ?_
      rintro e w' ⟨rfl, rfl⟩
      cases ho : m.openB q
      · have HO := Lib.hid ho
        clear ho
        go_wp2_with fail
        go_round
        case rel => exact ⟨q + 1, by omega, by go_num, by rw [HS.out, HO.out]; simp⟩
        case measure => simp [intOf]; omega
      · have HO := Lib.hid ho
        clear ho
        go_wp2_with fail
        go_round
        case rel => exact ⟨q + 1, by omega, by go_num, by rw [HS.out, HO.out]; simp⟩
        case measure => simp [intOf]; omega
    · have hqe : q = P := by omega
      subst hqe
      go_wp2_with fail
      go_ret
      exact ⟨rfl, rfl⟩
end Go.Proofs.Ytbpblokfiajpjaa

namespace Go.Proofs.Ytbpblokfiajpjaa
open Go.RowKit Go.SL Go.Crc
attribute [local go_sem ↓] Go.wp_at_zero Go.wp_at_succ

def dataL (t : List Ent) : List Int := (t.filter fun e => decide (e.1 = 2)).map (·.2)
theorem dataL_mem {t : List Ent} {x : Int} : x ∈ dataL t ↔ ((2, x) : Ent) ∈ t := by
  unfold dataL
  simp only [List.mem_map, List.mem_filter, decide_eq_true_eq]
  constructor
  · rintro ⟨e, ⟨h1, h2⟩, rfl⟩
    have : e = (2, e.2) := by rw [← h2]
    rw [← this]; exact h1
  · intro h; exact ⟨(2, x), ⟨h, rfl⟩, rfl⟩
theorem dataL_nodup {m : ImgM} (hm : m.Ok) : (dataL m.t).Nodup := by
  unfold dataL
  have h1 : m.t.Pairwise fun a b => a.1 = 2 → a ≠ b := by
    rw [List.pairwise_iff_getElem]
    intro i j hi hj hij h he
    have := hm.one i j hi hj (by unfold ent; simpa [hi] using h) (by unfold ent; simp [hi, hj, he])
    omega
  rw [List.Nodup, List.pairwise_map]
  refine List.Pairwise.imp_of_mem ?_ (h1.filter _)
  intro a b ha hb hab he
  simp only [List.mem_filter, decide_eq_true_eq] at ha hb
  exact hab ha.2 (Prod.ext (by rw [ha.2, hb.2]) he)
theorem free_count {m : ImgM} (hm : m.Ok) : (m.freeN : Int) + m.held.length + (dataL m.t).length = m.p := by
  obtain ⟨C, hC, q1, q2, q3, q4, q5, q6, -⟩ := hm.nat
  obtain ⟨P, hP⟩ := Int.eq_ofNat_of_zero_le q5
  have hfr : m.freeN = ((List.range P).filter fun (q : Nat) => m.openB q).length := by unfold ImgM.freeN; rw [hP, Int.toNat_natCast]
  have hperm : ((List.range P).map fun (q : Nat) => (q : Int)).Perm ((((List.range P).filter fun (q : Nat) => m.openB q).map fun (q : Nat) => (q : Int)) ++ (m.held ++ dataL m.t)) := by
    have hcast : ∀ l : List Nat, l.Nodup → (l.map fun (q : Nat) => (q : Int)).Nodup := fun l h => by
      rw [List.Nodup, List.pairwise_map]
      exact List.Pairwise.imp (fun h he => h (by omega)) h
    refine (List.perm_ext_iff_of_nodup (hcast _ List.nodup_range) ?_).2 fun x => ?_
    · rw [List.nodup_append]
      refine ⟨hcast _ (List.nodup_range.filter _), ?_, fun a ha b hb he => ?_⟩
      · rw [List.nodup_append]
        refine ⟨hm.nodup, dataL_nodup hm, fun a ha b hb he => ?_⟩
        subst he
        exact hm.apart a ha (dataL_mem.1 hb)
      · subst he
        obtain ⟨q, hq, rfl⟩ := List.mem_map.1 ha
        have hop := (List.mem_filter.1 hq).2
        rcases List.mem_append.1 hb with h | h
        · unfold ImgM.openB at hop; simp [h] at hop
        · have := dataL_mem.1 h
          unfold ImgM.openB at hop; simp [this] at hop
    · simp only [List.mem_map, List.mem_append, List.mem_filter, List.mem_range]
      constructor
      · rintro ⟨q, hq, rfl⟩
        by_cases hop : m.openB q = true
        · exact .inl ⟨q, ⟨hq, hop⟩, rfl⟩
        · right
          have : ((2, (q : Int)) : Ent) ∈ m.t ∨ (q : Int) ∈ m.held := by
            unfold ImgM.openB at hop
            simp only [Bool.and_eq_true, Bool.not_eq_true', List.contains_eq_mem, decide_eq_false_iff_not, not_and, Classical.not_not] at hop
            by_cases h : ((2, (q : Int)) : Ent) ∈ m.t
            · exact .inl h
            · exact .inr (hop h)
          rcases this with h | h
          · exact .inr (dataL_mem.2 h)
          · exact .inl h
      · rintro (⟨q, ⟨hq, -⟩, rfl⟩ | h | h)
        · exact ⟨q, hq, rfl⟩
        · have := hm.range x h
          exact ⟨x.toNat, by omega, by omega⟩
        · have h2 := hm.ents _ (dataL_mem.1 h)
          unfold entOk at h2
          simp at h2
          exact ⟨x.toNat, by omega, by omega⟩
  have hl := hperm.length_eq
  simp only [List.length_map, List.length_append, List.length_range] at hl
  rw [← hfr] at hl
  omega
theorem dataL_take {t : List Ent} {q : Nat} (h : q < t.length) : (dataL (t.take (q + 1))).length = (dataL (t.take q)).length + (if (ent t q).1 = 2 then 1 else 0) := by
  rw [take_succ_getD (0, 0) h]
  unfold dataL ent
  rw [List.filter_append, List.map_append, List.length_append]
  congr 1
  by_cases he : (t.getD q (0, 0)).1 = 2
  · rw [List.filter_cons_of_pos (by simpa using he), if_pos he]; rfl
  · rw [List.filter_cons_of_neg (by simpa using he), if_neg he]; rfl
theorem dataL_le (t : List Ent) (q : Nat) : (dataL (t.take q)).length ≤ q := by
  unfold dataL
  rw [List.length_map]
  have := List.length_filter_le (fun e : Ent => decide (e.1 = 2)) (t.take q)
  rw [List.length_take] at this
  omega

set_option maxRecDepth 100000 in
set_option maxHeartbeats 2000000 in
theorem free_any (b bd bh : Nat) (m : ImgM) (hm : m.Ok) (R : List SL.HP) (w : World) (H : own w (imgAt b bd bh m :: R)) :
    Calls Try.prog 89 #[.pointer (some ⟨b, 0, none⟩)] w fun e w' => e = .returned (.int .i64 m.freeN) ∧ Ext w w' ∧ own w' (imgAt b bd bh m :: R) := by
  obtain ⟨C, hC, q1, q2, q3, q4, q5, q6, -⟩ := hm.nat
  have hcnt := free_count hm
  have HCNT := Lib.hid hcnt
  have hhl : (m.held.length : Int) ≤ 40 := by omega
  obtain ⟨v, h⟩ := img_open H
  obtain ⟨ao, g, cap, rfl, r1, r2, -, -, -, -, -⟩ := own_row_form 1 h rfl
  obtain ⟨c, f⟩ := own_cells 0 h rfl
  have hl := fun ty => held_len 2 h rfl ty
  have hln : ∀ n ty, (Builtin.len_ #[140] ty #[.map (some bh)]).run Try.prog (w.drewN n) = .ok (.int .i64 m.held.length) (w.drewN n) := fun n ty => held_len 2 (own_drewN n h) rfl ty
  have hld : ∀ ty, (Builtin.len_ #[140] ty #[.map (some bh)]).run Try.prog w.drew = .ok (.int .i64 m.held.length) w.drew := fun ty => held_len 2 (own_drew h) rfl ty
  have e1 : IntKind.i64.wrap (m.p - (m.held.length : Int)) = m.p - (m.held.length : Int) := IntWalk.i64_in _ (by omega)
  have l2 : m.t.length ≤ 32 := by omega
  clear hcnt hC q3
  go_enter Try.func89, Try.ntmps89
  go_upto_region 1 with (fail)
  go_quiet (fail)
  go_wp2_with fail
  have h1 := own_drewN nq h
  have hx1 := (Ext.refl w).drewN nq
  clear c f hl hln hld e1
  generalize w.drewN nq = w1 at *
  go_loopw [3, 22] (fun n i wr => ∃ q : Nat, q ≤ m.t.length ∧ i = .int .i64 q ∧ n = .int .i64 (m.p - (m.held.length : Int) - ((dataL (m.t.take q)).length : Int)) ∧ Ext w wr ∧ own wr (pts b (.cells #[.pointer (some ⟨bd, 0, none⟩), .int .i64 m.c, .int .i64 m.p, .int .i64 m.b, .slice ao m.t.length cap, .map (some bh)] 142 (0, 0)) :: row 64 2 (.slice ao m.t.length cap) m.t.length (entCells m.t) :: heldAt bh m.held :: R)) (fun _ i _ => m.t.length - (intOf i).toNat)
  case atStart => exact ⟨0, by omega, rfl, by simp [dataL], hx1, h1⟩
  case round =>
    clear h1 hx1
    obtain ⟨q, hq, rfl, rfl, hxr, hown⟩ := hrel
    have hle := dataL_le m.t q
    by_cases hlt : q < m.t.length
    · obtain ⟨ao', g', cap', hv', -, -, r3, -, -, r6, -⟩ := own_row_form 1 hown rfl
      simp only [Value.slice.injEq, true_and] at hv'
      obtain ⟨rfl, rfl⟩ := hv'
      obtain rfl := r3 (by omega)
      have x1 : wr.cell? ⟨g', q * 2, none⟩ = some (.int .i64 (ent m.t q).1) := r6 _ _ (entCells_get hlt).1
      have x2 : wr.cell? ⟨g', q * 2 + 1, none⟩ = some (.int .i64 (ent m.t q).2) := r6 _ _ (entCells_get hlt).2
      have hst := dataL_take hlt
      clear r3 r6
      generalize ent m.t q = x at *
      obtain ⟨xa, xb⟩ := x
      dsimp only at x1 x2 hst
      have HST := Lib.hid hst
      clear hst
      go_upto_region 5 with (fail)
      have ha := own_alloc hown (.cells #[.int .i64 xa, .int .i64 xb] 64)
      have hxa := hxr.alloc (.cells #[.int .i64 xa, .int .i64 xb] 64)
      clear x1 x2 hown hxr
      generalize wr.heap.size = gx at *
      generalize wr.alloc (.cells #[.int .i64 xa, .int .i64 xb] 64) = wa at *
      obtain ⟨c, f⟩ := own_cells 0 ha rfl
      generalize (dataL (m.t.take q)).length = dq at *
      by_cases h2 : xa = 2
      · subst h2
        go_wp2_with fail
        go_roundw
        case rel => exact ⟨q + 1, by omega, by go_num, by rw [HST.out]; simp; omega, hxa, own_drop ha⟩
        case measure => simp [intOf]; omega
      · have t2 : (xa == 2) = false := beq_eq_false_iff_ne.2 h2
        have HN := Lib.hid h2
        clear h2
        go_wp2_with fail
        go_roundw
        case rel => exact ⟨q + 1, by omega, by go_num, by rw [HST.out, if_neg HN.out]; rfl, hxa, own_drop ha⟩
        case measure => simp [intOf]; omega
    · have hqe : q = m.t.length := by omega
      subst hqe
      rw [List.take_length]
      go_wp2_with fail
      go_ret
      exact ⟨ret_int (by have := HCNT.out; omega), hxr, img_close hown⟩
end Go.Proofs.Ytbpblokfiajpjaa

namespace Go.Proofs.Ytbpblokfiajpjaa
open Go.RowKit Go.SL Go.Crc
attribute [local go_sem ↓] Go.wp_at_zero Go.wp_at_succ

def usedN (P : Nat) (t : List Ent) : List Value := (List.range P).map fun (q : Nat) => Value.bool (t.contains ((2, (q : Int)) : Ent))
theorem usedN_len (P : Nat) (t : List Ent) : (usedN P t).length = P := by simp [usedN]
theorem usedN_get (P : Nat) (t : List Ent) {q : Nat} (h : q < P) : (usedN P t)[q]? = some (.bool (t.contains ((2, (q : Int)) : Ent))) := by simp [usedN, h]
theorem usedN_nil (P : Nat) : usedN P [] = List.replicate P (.bool false) := by
  unfold usedN
  apply List.ext_getElem
  · simp
  · intro i h1 h2; simp
theorem usedN_add (P : Nat) (t : List Ent) {q : Nat} (h : q < P) : usedN P (t ++ [(2, (q : Int))]) = (usedN P t).set q (.bool true) := by
  apply List.ext_getElem?
  intro j
  rw [List.getElem?_set]
  by_cases hj : j < P
  · rw [usedN_get _ _ hj]
    by_cases e : q = j
    · subst e; rw [if_pos rfl, if_pos (by rw [usedN_len]; exact h)]; simp
    · rw [if_neg e, usedN_get _ _ hj, List.contains_append]
      congr 2
      have : ((2, (j : Int)) : Ent) ≠ (2, (q : Int)) := fun h => e (by have := (Prod.mk.inj h).2; omega)
      simp [List.contains_cons, this]
  · have h1 : (usedN P (t ++ [(2, (q : Int))]))[j]? = none := List.getElem?_eq_none (by rw [usedN_len]; omega)
    have h2 : (usedN P t)[j]? = none := List.getElem?_eq_none (by rw [usedN_len]; omega)
    rw [h1, h2]
    split
    · omega
    · rfl
theorem usedN_other (P : Nat) (t : List Ent) {e : Ent} (h : e.1 ≠ 2) : usedN P (t ++ [e]) = usedN P t := by
  unfold usedN
  apply List.map_congr_left
  intro q _
  rw [List.contains_append]
  have : ((2, (q : Int)) : Ent) ≠ e := fun h' => h (by rw [← h'])
  simp [List.contains_cons, this]

def ImgM.freeP (m : ImgM) : Int := match (List.range m.p.toNat).find? fun (q : Nat) => m.openB q with
  | some q => q
  | none => -1
theorem freeP_some {m : ImgM} {P q : Nat} (hP : m.p = P) (hq : q < P) (ho : m.openB q = true) (hn : ∀ j : Nat, j < q → m.openB j = false) : m.freeP = q := by
  unfold ImgM.freeP
  rw [hP, Int.toNat_natCast]
  have : (List.range P).find? (fun (q : Nat) => m.openB q) = some q := by
    rw [List.find?_range_eq_some]
    exact ⟨ho, by simpa using hq, fun j hj => by simp [hn j hj]⟩
  rw [this]
theorem freeP_none {m : ImgM} {P : Nat} (hP : m.p = P) (hn : ∀ j : Nat, j < P → m.openB j = false) : m.freeP = -1 := by
  unfold ImgM.freeP
  rw [hP, Int.toNat_natCast]
  have : (List.range P).find? (fun (q : Nat) => m.openB q) = none := by
    rw [List.find?_eq_none]
    intro j hj
    simp [hn j (List.mem_range.1 hj)]
  rw [this]

set_option maxRecDepth 100000 in
set_option maxHeartbeats 4000000 in
theorem freep_any (b bd bh : Nat) (m : ImgM) (hm : m.Ok) (R : List SL.HP) (w : World) (H : own w (imgAt b bd bh m :: R)) :
    Calls Try.prog 115 #[.pointer (some ⟨b, 0, none⟩)] w fun e w' => e = .returned (.int .i64 m.freeP) ∧ Ext w w' ∧ own w' (imgAt b bd bh m :: R) := by
  obtain ⟨C, hC, q1, q2, q3, q4, q5, q6, -⟩ := hm.nat
  obtain ⟨P, hP⟩ := Int.eq_ofNat_of_zero_le q5
  have hsome := fun (q : Nat) => @freeP_some m P q hP
  have hnone := freeP_none hP
  have hents := hm.ents
  rw [hP] at hents
  have HEN := Lib.hid hents
  have HSO := Lib.hid hsome
  have HNO := Lib.hid hnone
  generalize m.freeP = F at *
  obtain ⟨v, h⟩ := img_open H
  obtain ⟨ao, g, cap, rfl, r1, r2, -, -, -, -, -⟩ := own_row_form 1 h rfl
  rw [hP] at h q6
  have HP := Lib.hid hP
  have l2 : m.t.length ≤ 32 := by omega
  have hml : P ≤ maxLen := by simp only [maxLen]; omega
  obtain ⟨c, f⟩ := own_cells 0 h rfl
  clear hsome hnone hC q3 q5 hents hP
  go_enter Try.func115, Try.ntmps115
  go_wp2_with (first | (refine wpList_make_row rfl _ _ 34 rfl 4 Try.underlying34 elem_bool' rfl .i64 .i64 P rfl rfl (by omega) hml h ?_))
  intro w1 h1 hx1
  try simp only [Nat.mul_one] at h1
  try rw [show (Value.bool false).cells = #[.bool false] from rfl] at h1
  rw [toList_madeCells_one, ← usedN_nil] at h1
  clear c f
  generalize w.heap.size = gu at *
  obtain ⟨c, f⟩ := own_cells 1 h1 rfl
  go_wp2_with fail
  clear c f
  go_loopw [19] (fun i wr => ∃ q : Nat, q ≤ m.t.length ∧ i = .int .i64 q ∧ Ext w wr ∧ own wr (row 4 1 (.slice (some ⟨gu, 0, none⟩) P P) P (usedN P (m.t.take q)) :: pts b (.cells #[.pointer (some ⟨bd, 0, none⟩), .int .i64 m.c, .int .i64 (P : Int), .int .i64 m.b, .slice ao m.t.length cap, .map (some bh)] 142 (0, 0)) :: row 64 2 (.slice ao m.t.length cap) m.t.length (entCells m.t) :: heldAt bh m.held :: R)) (fun i _ => m.t.length - (intOf i).toNat)
  case atStart => exact ⟨0, by omega, rfl, hx1, h1⟩
  case round =>
    clear h1 hx1
    obtain ⟨q, hq, rfl, hxr, hown⟩ := hrel
    by_cases hlt : q < m.t.length
    · obtain ⟨ao', g', cap', hv', -, -, r3, -, -, r6, -⟩ := own_row_form 2 hown rfl
      simp only [Value.slice.injEq, true_and] at hv'
      obtain ⟨rfl, rfl⟩ := hv'
      obtain rfl := r3 (by omega)
      have x1 : wr.cell? ⟨g', q * 2, none⟩ = some (.int .i64 (ent m.t q).1) := r6 _ _ (entCells_get hlt).1
      have x2 : wr.cell? ⟨g', q * 2 + 1, none⟩ = some (.int .i64 (ent m.t q).2) := r6 _ _ (entCells_get hlt).2
      have hst : m.t.take (q + 1) = m.t.take q ++ [ent m.t q] := take_succ_getD (0, 0) hlt
      have hok := HEN.out (ent m.t q) (by unfold ent; simp [hlt])
      clear r3 r6
      generalize ent m.t q = x at *
      obtain ⟨xa, xb⟩ := x
      dsimp only at x1 x2
      have HST := Lib.hid hst
      clear hst
      go_upto_region 5 with (fail)
      have ha := own_alloc hown (.cells #[.int .i64 xa, .int .i64 xb] 64)
      have hxa := hxr.alloc (.cells #[.int .i64 xa, .int .i64 xb] 64)
      clear x1 x2 hown hxr
      generalize wr.heap.size = gx at *
      generalize wr.alloc (.cells #[.int .i64 xa, .int .i64 xb] 64) = wa at *
      obtain ⟨c, f⟩ := own_cells 0 ha rfl
      by_cases h2 : xa = 2
      · subst h2
        have hr : 0 ≤ xb ∧ xb < (P : Int) := by unfold entOk at hok; simpa using hok
        obtain ⟨y, rfl⟩ := Int.eq_ofNat_of_zero_le hr.1
        have hy : y < P := by omega
        obtain ⟨k2, k3⟩ := own_row_cells 1 ha rfl
        have cu := k2 y _ (usedN_get P (m.t.take q) hy)
        clear k2 hok hr
        have i1 : (0 : Int) ≤ (y : Int) := by omega
        have i2 : (y : Int) < (P : Int) := by omega
        go_wp2_with fail
        go_roundw
        case rel =>
          have h5 := own_row_set 1 y (.bool true) ha rfl (by omega)
          refine ⟨q + 1, by omega, by go_num, hxa.setCell _ _, ?_⟩
          rw [HST.out, usedN_add P _ hy]
          exact own_drop h5
        case measure => simp [intOf]; omega
      · have t2 : (xa == 2) = false := beq_eq_false_iff_ne.2 h2
        have HN := Lib.hid h2
        clear h2 hok
        go_wp2_with fail
        go_roundw
        case rel => exact ⟨q + 1, by omega, by go_num, hxa, by rw [HST.out, usedN_other P _ HN.out]; exact own_drop ha⟩
        case measure => simp [intOf]; omega
    · have hqe : q = m.t.length := by omega
      subst hqe
      rw [List.take_length] at hown
      obtain ⟨k2, -⟩ := own_row_cells 0 hown rfl
      have K2 := Lib.hid (fun (y : Nat) (hy : y < P) => k2 y _ (usedN_get P m.t hy))
      have HL := Lib.hid (fun x => held_lookup 3 hown rfl x)
      obtain ⟨c, f⟩ := own_cells 1 hown rfl
      clear k2
      have hfin : own wr (imgAt b bd bh m :: R) := img_close (v := .slice ao m.t.length cap) (by rw [HP.out]; exact own_drop hown)
      clear hown hlt
      go_wp2_with fail
      go_loop [33] (fun i => ∃ q : Nat, q ≤ P ∧ i = .int .i64 q ∧ ∀ j : Nat, j < q → m.openB j = false) (fun i => P - (intOf i).toNat)
      case atStart => exact ⟨0, by omega, rfl, fun j h => absurd h (by omega)⟩
      case round =>
        obtain ⟨q, hq, rfl, hj⟩ := hrel
        have HJ := Lib.hid hj
        clear hj
        by_cases hlt : q < P
        · have cq := K2.out q hlt
          have hlk := HL.out q
          have i1 : (0 : Int) ≤ (q : Int) := by omega
          have i2 : (q : Int) < (P : Int) := by omega
          have hob : m.openB q = (!(m.t.contains ((2, (q : Int)) : Ent)) && !(decide ((q : Int) ∈ m.held))) := by unfold ImgM.openB; simp
          cases hc : m.t.contains ((2, (q : Int)) : Ent)
          · rw [hc] at cq hob
            by_cases hin : (q : Int) ∈ m.held
            · rw [decide_eq_true hin] at hlk hob
              have HOB := Lib.hid hob
              clear hob hc hin
              go_wp2_with fail
              go_round
              case rel => exact ⟨q + 1, by omega, by go_num, fun j h => by
                by_cases e : j = q
                · subst e; rw [HOB.out]; rfl
                · exact HJ.out j (by omega)⟩
              case measure => simp [intOf]; omega
            · rw [decide_eq_false hin] at hlk hob
              have hF := HSO.out q hlt (by rw [hob]; rfl) HJ.out
              have HF := Lib.hid hF
              clear hob hc hin hF
              go_wp2_with fail
              go_ret
              exact ⟨ret_int (by rw [HF.out]), hxr, hfin⟩
          · rw [hc] at cq hob
            have HOB := Lib.hid hob
            clear hob hc
            go_wp2_with fail
            go_round
            case rel => exact ⟨q + 1, by omega, by go_num, fun j h => by
              by_cases e : j = q
              · subst e; rw [HOB.out]; rfl
              · exact HJ.out j (by omega)⟩
            case measure => simp [intOf]; omega
        · have hqe : q = P := by omega
          subst hqe
          have hF := HNO.out HJ.out
          have HF := Lib.hid hF
          clear hF
          go_wp2_with fail
          go_ret
          exact ⟨ret_int (by rw [HF.out]), hxr, hfin⟩
end Go.Proofs.Ytbpblokfiajpjaa

namespace Go.Proofs.Ytbpblokfiajpjaa
open Go.RowKit Go.SL Go.Crc
attribute [local go_sem ↓] Go.wp_at_zero Go.wp_at_succ

def DevM.puts (m : DevM) (at_ : Int) : List ByteArray → Int × DevM
  | [] => (0, m)
  | s :: l => if (m.write at_ s).1 ≠ 0 then m.write at_ s else (m.write at_ s).2.puts (at_ + 1) l
def chunksN (s : ByteArray) (n : Nat) : List ByteArray := (List.range n).map (chunk s)
theorem chunksN_drop (s : ByteArray) {n k : Nat} (h : k < n) : (chunksN s n).drop k = chunk s k :: (chunksN s n).drop (k + 1) := by
  rw [List.drop_eq_getElem_cons (by simp [chunksN]; exact h)]
  simp [chunksN]
theorem chunksN_end (s : ByteArray) (n : Nat) : (chunksN s n).drop n = [] := List.drop_of_length_le (by simp [chunksN])
theorem write_lens (m : DevM) (n : Int) (s : ByteArray) : (m.write n s).2.fl.length = m.fl.length ∧ (m.write n s).2.pend.length ≤ m.pend.length + 1 ∧ (m.write n s).2.writes ≤ m.writes + 1 := by
  unfold DevM.write
  split
  · exact ⟨rfl, by dsimp only; omega, by dsimp only; omega⟩
  · split
    · exact ⟨rfl, by dsimp only; omega, by dsimp only; omega⟩
    · exact ⟨rfl, by simp, by dsimp only; omega⟩
def putInv (L : DevM → List HP) (d : DevM) (at_ : Int) (s : ByteArray) (n : Nat) (res : Int × DevM) (w0 : World) (i : Value) (wr : World) : Prop :=
  ∃ (k : Nat) (dk : DevM), k ≤ n ∧ i = .int .i64 k ∧ dk.puts (at_ + k) ((chunksN s n).drop k) = res ∧ dk.Ok ∧ dk.pend.length ≤ d.pend.length + k ∧ dk.writes ≤ d.writes + k ∧ Ext w0 wr ∧ own wr (L dk)

set_option maxRecDepth 100000 in
set_option maxHeartbeats 2000000 in
theorem rsectors_any (b bd : Nat) (m : ImgM) (d : DevM) (hd : d.Ok) (hp : d.pend.length < 999000) (hw : d.writes < 999000) (at_ : Int) (a0 : 0 ≤ at_) (a1 : at_ ≤ 1000) (s : ByteArray) (n : Nat) (hn : s.size = 16 * n) (n4 : n ≤ 4) (R : List SL.HP) (w : World) (H : own w (rimgAt b bd m :: rdevAt bd d :: R)) :
    Calls Try.prog 118 #[.pointer (some ⟨b, 0, none⟩), .int .i64 at_, .string s] w fun e w' => e = .returned (.int .i64 (d.puts at_ (chunksN s n)).1) ∧ Ext w w' ∧ own w' (rimgAt b bd m :: rdevAt bd (d.puts at_ (chunksN s n)).2 :: R) := by
  generalize hres : d.puts at_ (chunksN s n) = res
  have HRES := Lib.hid hres
  clear hres
  have hsz : (s.size : Int) = 16 * (n : Int) := by omega
  have HSZ := Lib.hid hn
  have hs4 : s.size ≤ 64 := by omega
  have HSI := Lib.hid hsz
  clear hn hsz
  go_enter Try.func118, Try.ntmps118
  go_wp2_with fail
  go_loopw [7] (putInv (fun dk => rimgAt b bd m :: rdevAt bd dk :: R) d at_ s n res w) (fun i _ => n - (intOf i).toNat)
  case atStart => exact ⟨0, d, by omega, rfl, by simpa using HRES.out, hd, by omega, by simp, Ext.refl _, H⟩
  case round =>
    obtain ⟨k, dk, hk, rfl, hput, okd, hpk, hwk, hxr, hown⟩ := hrel
    by_cases hlt : k < n
    · rw [chunksN_drop s hlt] at hput
      have HPUT := Lib.hid hput
      clear hput
      have b0 : 16 * (k : Int) < (s.size : Int) := by have := HSI.out; omega
      have b1 : (0 : Int) ≤ 16 * (k : Int) := by omega
      have b2 : 16 * (k : Int) ≤ 16 * (k : Int) + 16 := by omega
      have b3 : 16 * (k : Int) + 16 ≤ (s.size : Int) := by have := HSI.out; omega
      have hsl : ∀ wx : World, (Instr.slice 9 (.string s) (some (.int .i64 (16 * (k : Int)))) (some (.int .i64 (16 * (k : Int) + 16))) none).run Try.prog wx = .ok (.string (chunk s k)) wx := fun wx => by
        have := run_slice_string (P := Try.prog) wx 9 s .i64 .i64 (16 * (k : Int)) (16 * (k : Int) + 16) Try.underlying9 b1 b2 b3
        rw [this, chunk, show (16 * (k : Int)).toNat = k * 16 from by omega, show (16 * (k : Int) + 16).toNat = (k + 1) * 16 from by omega]
      have hcs : (chunk s k).size = 16 := by unfold chunk; rw [ByteArray.size_extract]; have := HSZ.out; omega
      have e1 : IntKind.i64.wrap (16 * (k : Int)) = 16 * (k : Int) := IntWalk.i64_in _ (by omega)
      have e2 : IntKind.i64.wrap (16 * (k : Int) + 16) = 16 * (k : Int) + 16 := IntWalk.i64_in _ (by omega)
      have e3 : IntKind.i64.wrap (at_ + (k : Int)) = at_ + (k : Int) := IntWalk.i64_in _ (by omega)
      have hcode := write_nonneg dk (at_ + (k : Int)) (chunk s k)
      obtain ⟨g1, g2, g3⟩ := write_lens dk (at_ + (k : Int)) (chunk s k)
      have okw := DevM.write_ok okd (at_ + (k : Int)) (chunk s k) (by omega) (by omega)
      have HW := Lib.hid (fun (R : List SL.HP) (w : World) (H : own w (rdevAt bd dk :: R)) => rdev_write bd dk okd (at_ + (k : Int)) (chunk s k) (by omega) (by omega) (by omega) R w H)
      have hstep : dk.puts (at_ + (k : Int)) (chunk s k :: (chunksN s n).drop (k + 1)) = if (dk.write (at_ + (k : Int)) (chunk s k)).1 ≠ 0 then dk.write (at_ + (k : Int)) (chunk s k) else (dk.write (at_ + (k : Int)) (chunk s k)).2.puts (at_ + (k : Int) + 1) ((chunksN s n).drop (k + 1)) := rfl
      rw [HPUT.out] at hstep
      have HST := Lib.hid hstep
      clear hstep g1
      generalize dk.write (at_ + (k : Int)) (chunk s k) = r at *
      generalize chunk s k = ck at *
      obtain ⟨vt, vh, h⟩ := rimg_open hown
      have hd1 := own_drew h
      go_upto_region 4 with (fail)
      go_region_held3 (fun w' => w'.cell? ⟨b, 0, none⟩ = some (.pointer (some ⟨bd, 0, none⟩))) (first | exact (own_cells 0 hd1 rfl).1 0 | exact (own_cells 0 h4 rfl).1 0) ((go_at_call 52; refine (HW.out _ _ (own_pick 3 hd1 rfl)).mono ?_; rintro e w4 ⟨rfl, hx4, h4'⟩; have h4 := own_put hd1 3 rfl h4'))
      have h5 : own w4 (rimgAt b bd m :: rdevAt bd r.2 :: R) := rimg_close h4
      have hx5 := hxr.drew.trans hx4
      clear e1 e2 e3 hsl h4 h4' hd1 h
      by_cases hz : r.1 = 0
      · have d0 : decide (0 < r.1) = false := decide_eq_false (by omega)
        have HZ := Lib.hid hz
        clear hz
        go_wp2_with fail
        go_roundw
        case rel => exact ⟨k + 1, r.2, by omega, by go_num, by have := HST.out; rw [if_neg (by simpa using HZ.out)] at this; rw [this]; congr 1; omega, okw, by omega, by omega, hx5, h5⟩
        case measure => simp [intOf]; omega
      · have d0 : decide (0 < r.1) = true := decide_eq_true (by omega)
        have hfin : res = r := by have := HST.out; rw [if_pos hz] at this; exact this
        have HF := Lib.hid hfin
        clear hz hfin
        go_wp2_with fail
        go_ret
        rw [HF.out]
        exact ⟨rfl, hx5, h5⟩
    · have hke : k = n := by omega
      subst hke
      rw [chunksN_end, DevM.puts] at hput
      have HF := Lib.hid hput
      have b0 : (s.size : Int) ≤ 16 * (k : Int) := by have := HSI.out; omega
      clear hput hlt
      go_wp2_with fail
      go_ret
      rw [← HF.out]
      exact ⟨rfl, hxr, hown⟩
end Go.Proofs.Ytbpblokfiajpjaa

namespace Go.Proofs.Ytbpblokfiajpjaa
open Go.RowKit Go.SL Go.Crc
attribute [local go_sem ↓] Go.wp_at_zero Go.wp_at_succ

def ImgM.wrBad (m : ImgM) (k fr : Int) (s : ByteArray) : Prop := m.there k = false ∨ fr < 0 ∨ 4 < fr ∨ s.size % 16 ≠ 0 ∨ 16 * (4 - fr) < (s.size : Int)
instance (m : ImgM) (k fr : Int) (s : ByteArray) : Decidable (m.wrBad k fr s) := by unfold ImgM.wrBad; infer_instance
def ImgM.wr (m : ImgM) (k fr : Int) (s : ByteArray) : Int × ImgM :=
  if m.wrBad k fr s then (1, m) else if m.kind k ≠ 2 then (4, m)
  else ((m.d.puts (m.first (ent m.t k.toNat).2 + fr) (chunksN s (s.size / 16))).1, { m with d := (m.d.puts (m.first (ent m.t k.toNat).2 + fr) (chunksN s (s.size / 16))).2 })
theorem wrBad_cases {m : ImgM} {k fr : Int} {s : ByteArray} (h : m.wrBad k fr s) : m.there k = false ∨ (m.there k = true ∧ fr < 0) ∨ (m.there k = true ∧ 0 ≤ fr ∧ 4 < fr) ∨ (m.there k = true ∧ 0 ≤ fr ∧ fr ≤ 4 ∧ 0 < (s.size : Int) % 16) ∨ (m.there k = true ∧ 0 ≤ fr ∧ fr ≤ 4 ∧ (s.size : Int) % 16 = 0 ∧ 16 * (4 - fr) < (s.size : Int)) := by
  unfold ImgM.wrBad at h
  cases ht : m.there k
  · exact .inl rfl
  · rw [ht] at h
    have h' : fr < 0 ∨ 4 < fr ∨ s.size % 16 ≠ 0 ∨ 16 * (4 - fr) < (s.size : Int) := h.resolve_left (by simp)
    clear h
    right
    by_cases h1 : fr < 0
    · exact .inl ⟨rfl, h1⟩
    · by_cases h2 : 4 < fr
      · exact .inr (.inl ⟨rfl, by omega, h2⟩)
      · by_cases h3 : s.size % 16 = 0
        · exact .inr (.inr (.inr ⟨rfl, by omega, by omega, by omega, by omega⟩))
        · exact .inr (.inr (.inl ⟨rfl, by omega, by omega, by omega⟩))
theorem first_le {m : ImgM} (hm : m.Ok) {y : Int} (h0 : 0 ≤ y) (h1 : y ≤ 40) : 1 ≤ m.first y ∧ m.first y ≤ 165 := by
  obtain ⟨C, hC, q1, q2, q3, q4, -⟩ := hm.nat
  unfold ImgM.first
  rw [hC, Int.toNat_natCast]
  omega
theorem data_range {m : ImgM} (hm : m.Ok) {k : Nat} (hk : k < m.t.length) (h2 : (ent m.t k).1 = 2) : 0 ≤ (ent m.t k).2 ∧ (ent m.t k).2 < m.p := by
  have h := hm.ents (ent m.t k) (by unfold ent; simp [hk])
  unfold entOk at h
  rw [if_pos h2] at h
  simpa using h

set_option maxRecDepth 100000 in
set_option maxHeartbeats 8000000 in
theorem write_any (b bd bh : Nat) (m : ImgM) (hm : m.Ok) (hp : m.d.pend.length < 999000) (hw : m.d.writes < 999000) (k fr : Int) (f0 : i64ok fr) (s : ByteArray) (hs : s.size ≤ 9223372036854775807) (R : List SL.HP) (w : World) (H : own w (imgAt b bd bh m :: devAt bd m.d :: R)) :
    Calls Try.prog 92 #[.pointer (some ⟨b, 0, none⟩), .int .i64 k, .int .i64 fr, .string s] w fun e w' => e = .returned (errV (m.wr k fr s).1) ∧ Ext w w' ∧ own w' (imgAt b bd bh (m.wr k fr s).2 :: devAt bd (m.wr k fr s).2.d :: R) := by
  have hth := there_any b bd bh m k _ w H
  obtain ⟨f1, f2⟩ := f0
  by_cases hb : m.wrBad k fr s
  · have e : m.wr k fr s = (1, m) := by unfold ImgM.wr; rw [if_pos hb]
    rw [e]
    rcases wrBad_cases hb with ht | ⟨ht, g1⟩ | ⟨ht, g1, g2⟩ | ⟨ht, g1, g2, g3⟩ | ⟨ht, g1, g2, g3, g4⟩
    all_goals
      rw [ht] at hth
      have HT := Lib.hid hth
      clear hth e ht hb
      go_enter Try.func92, Try.ntmps92
      go_wp2_with fail
      refine HT.out.mono ?_
      rintro e w' ⟨rfl, rfl⟩
      go_wp2_with fail
      go_ret
      exact ⟨rfl, Ext.refl _, H⟩
  · have hb' := hb
    unfold ImgM.wrBad at hb'
    have ht : m.there k = true := by cases h : m.there k; exact absurd (.inl h) hb'; rfl
    have g1 : 0 ≤ fr := by omega
    have g2 : fr ≤ 4 := by omega
    have g3 : (s.size : Int) % 16 = 0 := by omega
    have g4 : (s.size : Int) ≤ 16 * (4 - fr) := by omega
    have g4' : (s.size : Int) ≤ (4 - fr) * 16 := by omega
    obtain ⟨k0, -, hkl⟩ := there_range hm ht
    obtain ⟨n, rfl⟩ := Int.eq_ofNat_of_zero_le k0
    rw [Int.toNat_natCast] at hkl
    rw [ht] at hth
    have HT := Lib.hid hth
    obtain ⟨v, h⟩ := img_open H
    obtain ⟨ao, g, cap, rfl, r1, r2, r3, -, -, r6, -⟩ := own_row_form 1 h rfl
    obtain rfl := r3 (by omega)
    have x1 : w.cell? ⟨g, n * 2, none⟩ = some (.int .i64 (m.kind n)) := r6 _ _ (entCells_get hkl).1
    have x2 : w.cell? ⟨g, n * 2 + 1, none⟩ = some (.int .i64 (ent m.t n).2) := r6 _ _ (entCells_get hkl).2
    obtain ⟨c, f⟩ := own_cells 0 h rfl
    by_cases h1 : m.kind n = 2
    · have e : m.wr n fr s = ((m.d.puts (m.first (ent m.t n).2 + fr) (chunksN s (s.size / 16))).1, { m with d := (m.d.puts (m.first (ent m.t n).2 + fr) (chunksN s (s.size / 16))).2 }) := by
        unfold ImgM.wr
        rw [if_neg hb, if_neg (by simpa using h1), Int.toNat_natCast]
      generalize m.wr n fr s = S at *
      have HE := Lib.hid e
      obtain ⟨y0, y1⟩ := data_range hm hkl h1
      obtain ⟨C, hC, q1, q2, q3, q4, q5, q6, -⟩ := hm.nat
      obtain ⟨F0, F1⟩ := first_le hm y0 (by omega)
      have hget := (entCells_get (l := m.t) hkl).2
      have HGET : Hid ((entCells m.t)[n * 2 + 1]? = some (.int .i64 (ent m.t n).2)) := Lib.hid hget
      rw [h1] at x1
      obtain ⟨N, hN⟩ : ∃ N : Nat, s.size = 16 * N := ⟨s.size / 16, by omega⟩
      have hN16 : s.size / 16 = N := by omega
      rw [hN16] at HE
      have n4 : N ≤ 4 := by omega
      have HN := Lib.hid hN
      have y2 : (ent m.t n).2 ≤ 40 := by omega
      have HFI := Lib.hid (fun (R : List SL.HP) (w : World) (H : own w (imgAt b bd bh m :: R)) => first_any b bd bh m hm (ent m.t n).2 y0 (by omega) R w H)
      generalize (ent m.t n).2 = y at *
      generalize m.first y = F at *
      generalize hres : m.d.puts (F + fr) (chunksN s N) = res at *
      have HRES := Lib.hid hres
      have hd := hm.d
      clear hth e ht r3 r6 hb hb' h1 hN hN16 hC q1 q2 q3 q4 q5 q6 hres hget
      have i1 : (0 : Int) ≤ (n : Int) := by omega
      have i2 : (n : Int) < (m.t.length : Int) := by omega
      go_enter Try.func92, Try.ntmps92
      go_wp2_with fail
      refine HT.out.mono ?_
      rintro e w' ⟨rfl, rfl⟩
      go_wp2_with fail
      go_loopw [9] (putInv (fun dk => imgAt b bd bh m :: devAt bd dk :: R) m.d (F + fr) s N res w) (fun i _ => N - (intOf i).toNat)
      case atStart => exact ⟨0, m.d, by omega, rfl, by simpa using HRES.out, hd, by omega, by simp, Ext.refl _, H⟩
      case round =>
        obtain ⟨q, dk, hq, rfl, hput, okd, hpk, hwk, hxr, hown⟩ := hrel
        clear c f x1 x2 h
        by_cases hlt : q < N
        · rw [chunksN_drop s hlt] at hput
          have HPUT := Lib.hid hput
          clear hput
          have b0 : (q : Int) * 16 < (s.size : Int) := by have := HN.out; omega
          have b1 : (0 : Int) ≤ (q : Int) * 16 := by omega
          have b2 : (q : Int) * 16 ≤ ((q : Int) + 1) * 16 := by omega
          have b3 : ((q : Int) + 1) * 16 ≤ (s.size : Int) := by have := HN.out; omega
          have hsl : ∀ wx : World, (Instr.slice 9 (.string s) (some (.int .i64 ((q : Int) * 16))) (some (.int .i64 (((q : Int) + 1) * 16))) none).run Try.prog wx = .ok (.string (chunk s q)) wx := fun wx => by
            have := run_slice_string (P := Try.prog) wx 9 s .i64 .i64 ((q : Int) * 16) (((q : Int) + 1) * 16) Try.underlying9 b1 b2 b3
            rw [this, chunk, show ((q : Int) * 16).toNat = q * 16 from by omega, show (((q : Int) + 1) * 16).toNat = (q + 1) * 16 from by omega]
          have hcs : (chunk s q).size = 16 := by unfold chunk; rw [ByteArray.size_extract]; have := HN.out; omega
          have e1 : IntKind.i64.wrap ((q : Int) * 16) = (q : Int) * 16 := IntWalk.i64_in _ (by omega)
          have e2 : IntKind.i64.wrap ((q : Int) + 1) = (q : Int) + 1 := IntWalk.i64_in _ (by omega)
          have e2' : IntKind.i64.wrap (((q : Int) + 1) * 16) = ((q : Int) + 1) * 16 := IntWalk.i64_in _ (by omega)
          have e3 : IntKind.i64.wrap (F + fr) = F + fr := IntWalk.i64_in _ (by omega)
          have e4 : IntKind.i64.wrap (F + fr + (q : Int)) = F + fr + (q : Int) := IntWalk.i64_in _ (by omega)
          have hcode := write_nonneg dk (F + fr + (q : Int)) (chunk s q)
          obtain ⟨l1, l2, l3⟩ := write_lens dk (F + fr + (q : Int)) (chunk s q)
          have okw := DevM.write_ok okd (F + fr + (q : Int)) (chunk s q) (by omega) (by omega)
          have HW := Lib.hid (fun (R : List SL.HP) (w : World) (H : own w (devAt bd dk :: R)) => dev_write bd dk okd (F + fr + (q : Int)) (chunk s q) (by omega) (by omega) (by omega) R w H)
          have hstep : dk.puts (F + fr + (q : Int)) (chunk s q :: (chunksN s N).drop (q + 1)) = if (dk.write (F + fr + (q : Int)) (chunk s q)).1 ≠ 0 then dk.write (F + fr + (q : Int)) (chunk s q) else (dk.write (F + fr + (q : Int)) (chunk s q)).2.puts (F + fr + (q : Int) + 1) ((chunksN s N).drop (q + 1)) := rfl
          rw [HPUT.out] at hstep
          have HST := Lib.hid hstep
          clear hstep l1
          generalize dk.write (F + fr + (q : Int)) (chunk s q) = r at *
          generalize chunk s q = ck at *
          obtain ⟨v, h⟩ := img_open hown
          obtain ⟨ao2, g2, cap2, rfl, -, -, t3, -, -, t6, -⟩ := own_row_form 1 h rfl
          obtain rfl := t3 (by omega)
          clear t3 t6
          have hd1 := own_drew h
          go_upto_region 8 with (fail)
          go_region_held3 (fun w' => w'.cell? ⟨b, 0, none⟩ = some (.pointer (some ⟨bd, 0, none⟩)) ∧ w'.cell? ⟨b, 4, none⟩ = some (.slice (some ⟨g2, 0, none⟩) m.t.length cap2) ∧ w'.cell? ⟨g2, n * 2 + 1, none⟩ = some (.int .i64 y)) (first | exact ⟨(own_cells 0 hd1 rfl).1 0, (own_cells 0 hd1 rfl).1 4, (own_row_cells 1 hd1 rfl).1 _ _ HGET.out⟩ | exact ⟨(own_cells 0 h4 rfl).1 0, (own_cells 0 h4 rfl).1 4, (own_row_cells 1 h4 rfl).1 _ _ HGET.out⟩) (first | (go_at_call 116; refine (HFI.out _ _ (img_close hd1)).mono ?_; rintro e w' ⟨rfl, rfl⟩) | (go_at_call 51; refine (HW.out _ _ (own_pick 3 hd1 rfl)).mono ?_; rintro e w4 ⟨rfl, hx4, h4'⟩; have h4 := own_put hd1 3 rfl h4'))
          have h5 : own w4 (imgAt b bd bh m :: devAt bd r.2 :: R) := img_close h4
          have hx5 := hxr.drew.trans hx4
          clear e1 e2 e2' e3 e4 hsl h4 h4' hd1 h
          by_cases hz : r.1 = 0
          · have HZ := Lib.hid hz
            rw [hz, errV_0]
            clear hz
            go_wp2_with fail
            go_roundw
            case rel => exact ⟨q + 1, r.2, by omega, by go_num, by have := HST.out; rw [if_neg (by simpa using HZ.out)] at this; rw [this]; congr 1; omega, okw, by omega, by omega, hx5, h5⟩
            case measure => simp [intOf]; omega
          · have hfin : res = r := by have := HST.out; rw [if_pos hz] at this; exact this
            have HF := Lib.hid hfin
            have hpz : 0 < r.1 := by omega
            have HPE := Lib.hid (errV_pos hpz)
            rw [errV_pos hpz]
            clear hz hfin
            go_wp2_with fail
            go_ret
            rw [HE.out, HF.out]
            exact ⟨by rw [HPE.out]; rfl, hx5, h5⟩
        · have hqe : q = N := by omega
          subst hqe
          rw [chunksN_end, DevM.puts] at hput
          have HF := Lib.hid hput
          have b0 : (s.size : Int) ≤ (q : Int) * 16 := by have := HN.out; omega
          clear hput hlt
          go_wp2_with fail
          go_ret
          rw [HE.out, ← HF.out]
          exact ⟨rfl, hxr, hown⟩
    · have e : m.wr n fr s = (4, m) := by unfold ImgM.wr; rw [if_neg hb, if_pos h1]
      rw [e]
      have t1 : (m.kind n != 2) = true := bne_iff_ne.2 h1
      clear hth e ht r3 r6 hb hb' h1
      generalize m.kind n = kd at *
      have i1 : (0 : Int) ≤ (n : Int) := by omega
      have i2 : (n : Int) < (m.t.length : Int) := by omega
      go_enter Try.func92, Try.ntmps92
      go_wp2_with fail
      refine HT.out.mono ?_
      rintro e w' ⟨rfl, rfl⟩
      go_wp2_with fail
      go_ret
      exact ⟨rfl, Ext.refl _, H⟩

set_option maxRecDepth 100000 in
set_option maxHeartbeats 8000000 in
theorem rwrite_any (b bd : Nat) (m : ImgM) (hm : m.Ok) (hp : m.d.pend.length < 999000) (hw : m.d.writes < 999000) (k fr : Int) (f0 : i64ok fr) (s : ByteArray) (hs : s.size ≤ 9223372036854775807) (R : List SL.HP) (w : World) (H : own w (rimgAt b bd m :: rdevAt bd m.d :: R)) :
    Calls Try.prog 93 #[.pointer (some ⟨b, 0, none⟩), .int .i64 k, .int .i64 fr, .string s] w fun e w' => e = .returned (.int .i64 (m.wr k fr s).1) ∧ Ext w w' ∧ own w' (rimgAt b bd (m.wr k fr s).2 :: rdevAt bd (m.wr k fr s).2.d :: R) := by
  have hth := rthere_any b bd m k _ w H
  obtain ⟨f1, f2⟩ := f0
  by_cases hb : m.wrBad k fr s
  · have e : m.wr k fr s = (1, m) := by unfold ImgM.wr; rw [if_pos hb]
    rw [e]
    rcases wrBad_cases hb with ht | ⟨ht, g1⟩ | ⟨ht, g1, g2⟩ | ⟨ht, g1, g2, g3⟩ | ⟨ht, g1, g2, g3, g4⟩
    all_goals
      rw [ht] at hth
      have HT := Lib.hid hth
      clear hth e ht hb
      go_enter Try.func93, Try.ntmps93
      go_wp2_with fail
      refine HT.out.mono ?_
      rintro e w' ⟨rfl, rfl⟩
      go_wp2_with fail
      go_ret
      exact ⟨rfl, Ext.refl _, H⟩
  · have hb' := hb
    unfold ImgM.wrBad at hb'
    have ht : m.there k = true := by cases h : m.there k; exact absurd (.inl h) hb'; rfl
    have g1 : 0 ≤ fr := by omega
    have g2 : fr ≤ 4 := by omega
    have g3 : (s.size : Int) % 16 = 0 := by omega
    have g4 : (s.size : Int) ≤ 16 * (4 - fr) := by omega
    have g4' : (s.size : Int) ≤ (4 - fr) * 16 := by omega
    obtain ⟨k0, -, hkl⟩ := there_range hm ht
    obtain ⟨n, rfl⟩ := Int.eq_ofNat_of_zero_le k0
    rw [Int.toNat_natCast] at hkl
    rw [ht] at hth
    have HT := Lib.hid hth
    obtain ⟨vt, vh, h⟩ := rimg_open H
    obtain ⟨ao, g, cap, rfl, r1, r2, r3, -, -, r6, -⟩ := own_row_form 1 h rfl
    obtain rfl := r3 (by omega)
    have x1 : w.cell? ⟨g, n * 2, none⟩ = some (.int .i64 (m.kind n)) := r6 _ _ (entCells_get hkl).1
    have x2 : w.cell? ⟨g, n * 2 + 1, none⟩ = some (.int .i64 (ent m.t n).2) := r6 _ _ (entCells_get hkl).2
    obtain ⟨c, f⟩ := own_cells 0 h rfl
    by_cases h1 : m.kind n = 2
    · have e : m.wr n fr s = ((m.d.puts (m.first (ent m.t n).2 + fr) (chunksN s (s.size / 16))).1, { m with d := (m.d.puts (m.first (ent m.t n).2 + fr) (chunksN s (s.size / 16))).2 }) := by
        unfold ImgM.wr
        rw [if_neg hb, if_neg (by simpa using h1), Int.toNat_natCast]
      generalize m.wr n fr s = S at *
      have HE := Lib.hid e
      obtain ⟨y0, y1⟩ := data_range hm hkl h1
      obtain ⟨C, hC, q1, q2, q3, q4, q5, q6, -⟩ := hm.nat
      obtain ⟨F0, F1⟩ := first_le hm y0 (by omega)
      have hget := (entCells_get (l := m.t) hkl).2
      have HGET : Hid ((entCells m.t)[n * 2 + 1]? = some (.int .i64 (ent m.t n).2)) := Lib.hid hget
      rw [h1] at x1
      obtain ⟨N, hN⟩ : ∃ N : Nat, s.size = 16 * N := ⟨s.size / 16, by omega⟩
      have hN16 : s.size / 16 = N := by omega
      rw [hN16] at HE
      have n4 : N ≤ 4 := by omega
      have HN := Lib.hid hN
      have y2 : (ent m.t n).2 ≤ 40 := by omega
      have HFI := Lib.hid (rfirst_any b bd m hm (ent m.t n).2 y0 (by omega) _ w H)
      have HSE := Lib.hid (rsectors_any b bd m m.d hm.d hp hw (m.first (ent m.t n).2 + fr) (by omega) (by omega) s N hN n4 R w H)
      generalize (ent m.t n).2 = y at *
      generalize m.first y = F at *
      generalize m.d.puts (F + fr) (chunksN s N) = res at *
      clear hth e ht r3 r6 hb hb' h1 hN hN16 hC q1 q2 q3 q4 q5 q6 hget
      have i1 : (0 : Int) ≤ (n : Int) := by omega
      have i2 : (n : Int) < (m.t.length : Int) := by omega
      go_enter Try.func93, Try.ntmps93
      go_wp2_with fail
      refine HT.out.mono ?_
      rintro e w' ⟨rfl, rfl⟩
      go_wp2_with fail
      refine HFI.out.mono ?_
      rintro e w' ⟨rfl, rfl⟩
      go_wp2_with fail
      refine HSE.out.mono ?_
      rintro e w2 ⟨rfl, hx2, h2⟩
      go_wp2_with fail
      go_ret
      rw [HE.out]
      exact ⟨rfl, hx2, h2⟩
    · have e : m.wr n fr s = (4, m) := by unfold ImgM.wr; rw [if_neg hb, if_pos h1]
      rw [e]
      have t1 : (m.kind n != 2) = true := bne_iff_ne.2 h1
      clear hth e ht r3 r6 hb hb' h1
      generalize m.kind n = kd at *
      have i1 : (0 : Int) ≤ (n : Int) := by omega
      have i2 : (n : Int) < (m.t.length : Int) := by omega
      go_enter Try.func93, Try.ntmps93
      go_wp2_with fail
      refine HT.out.mono ?_
      rintro e w' ⟨rfl, rfl⟩
      go_wp2_with fail
      go_ret
      exact ⟨rfl, Ext.refl _, H⟩

end Go.Proofs.Ytbpblokfiajpjaa

namespace Go.Proofs.Ytbpblokfiajpjaa
open Go.RowKit Go.SL Go.Crc
attribute [local go_sem ↓] Go.wp_at_zero Go.wp_at_succ

def ImgM.flush (m : ImgM) : ImgM := { m with d := m.d.flush, held := [] }

set_option maxRecDepth 100000 in
set_option maxHeartbeats 2000000 in
theorem imgflush_any (b bd bh : Nat) (m : ImgM) (hd : m.d.Ok) (R : List SL.HP) (w : World) (H : own w (imgAt b bd bh m :: devAt bd m.d :: R)) :
    Calls Try.prog 100 #[.pointer (some ⟨b, 0, none⟩)] w fun e w' => e = .returned (.tuple #[]) ∧ Ext w w' ∧ own w' (imgAt b bd bh m.flush :: devAt bd m.d.flush :: R) := by
  obtain ⟨v, h⟩ := img_open H
  obtain ⟨c, f⟩ := own_cells 0 h rfl
  go_enter Try.func100, Try.ntmps100
  go_wp2_with fail
  refine (dev_flush bd m.d hd _ w (own_pick 3 h rfl)).mono ?_
  rintro e w2 ⟨rfl, hx2, h2⟩
  have h3 := own_put h 3 rfl h2
  clear c f h2
  obtain ⟨c, f⟩ := own_cells 0 h3 rfl
  obtain ⟨w4, hr, h4, hx4⟩ := held_clear 2 h3 rfl 0
  go_wp2_with fail
  go_end0
  exact ⟨rfl, hx2.trans hx4, img_close (m := m.flush) h4⟩

set_option maxRecDepth 100000 in
set_option maxHeartbeats 2000000 in
theorem rimgflush_any (b bd : Nat) (m : ImgM) (hd : m.d.Ok) (R : List SL.HP) (w : World) (H : own w (rimgAt b bd m :: rdevAt bd m.d :: R)) :
    Calls Try.prog 101 #[.pointer (some ⟨b, 0, none⟩)] w fun e w' => e = .returned (.tuple #[]) ∧ Ext w w' ∧ own w' (rimgAt b bd m.flush :: rdevAt bd m.d.flush :: R) := by
  obtain ⟨vt, vh, h⟩ := rimg_open H
  obtain ⟨c, f⟩ := own_cells 0 h rfl
  go_enter Try.func101, Try.ntmps101
  go_wp2_with fail
  refine (rdev_flush bd m.d hd _ w (own_pick 3 h rfl)).mono ?_
  rintro e w2 ⟨rfl, hx2, h2⟩
  have h3 := own_put h 3 rfl h2
  clear c f h2
  obtain ⟨c, f⟩ := own_cells 0 h3 rfl
  go_wp2_with fail
  go_end0
  have h4 := own_set (i := 5) (v := .slice none 0 0) 0 h3 rfl
  have h5 := own_behind [_, _] (own_row_nil 3 1 (own_erase 2 h4 rfl))
  exact ⟨rfl, hx2.setCell _ _, rimg_close (m := m.flush) h5⟩
end Go.Proofs.Ytbpblokfiajpjaa

namespace Go.Proofs.Ytbpblokfiajpjaa
open Go.RowKit Go.SL Go.Crc
attribute [local go_sem ↓] Go.wp_at_zero Go.wp_at_succ

theorem puts_ok {l : List ByteArray} : ∀ {d : DevM} {a : Int}, d.Ok → d.pend.length + l.length ≤ 1000000 → d.writes + l.length ≤ 1000000 →
    (d.puts a l).2.Ok ∧ (d.puts a l).2.fl.length = d.fl.length ∧ (d.puts a l).2.pend.length ≤ d.pend.length + l.length ∧ (d.puts a l).2.writes ≤ d.writes + l.length := by
  induction l with
  | nil => intro d a h _ _; exact ⟨h, rfl, by simp [DevM.puts], by simp [DevM.puts]⟩
  | cons s l ih =>
    intro d a h hp hw
    simp only [List.length_cons] at hp hw ⊢
    have hok := DevM.write_ok h a s (by omega) (by omega)
    obtain ⟨l1, l2, l3⟩ := write_lens d a s
    rw [DevM.puts]
    split
    · exact ⟨hok, l1, by omega, by omega⟩
    · obtain ⟨i1, i2, i3, i4⟩ := ih (a := a + 1) hok (by omega) (by omega)
      exact ⟨i1, by omega, by omega, by omega⟩
theorem puts_nonneg {l : List ByteArray} : ∀ {d : DevM} {a : Int}, 0 ≤ (d.puts a l).1 := by
  induction l with
  | nil => intro d a; simp [DevM.puts]
  | cons s l ih =>
    intro d a
    rw [DevM.puts]
    split
    · exact write_nonneg _ _ _
    · exact ih
theorem flushed_ok {m : ImgM} (hm : m.Ok) {d : DevM} (hd : d.Ok) (hl : d.fl.length = m.d.fl.length) : ({ m with d := d } : ImgM).flush.Ok :=
  ⟨DevM.flush_ok hd, hm.head, hm.t, hm.ents, hm.one, List.nodup_nil, (fun x hx => by cases hx), (fun x hx => by cases hx), by
    have := hm.need
    simp only [ImgM.flush, DevM.flush, foldl_setAt_length]
    omega⟩
def ImgM.fillAt (m : ImgM) (k : Nat) (s : ByteArray) (p : Int) : Int × ImgM :=
  if (m.d.puts (m.first p) (chunksN s 4)).1 ≠ 0 then ((m.d.puts (m.first p) (chunksN s 4)).1, { m with d := (m.d.puts (m.first p) (chunksN s 4)).2 })
  else ({ m with d := (m.d.puts (m.first p) (chunksN s 4)).2 } : ImgM).flush.setE k (2, p)
def ImgM.fill (m : ImgM) (k : Int) (s : ByteArray) : Int × ImgM :=
  if m.there k = false ∨ s.size ≠ 64 then (1, m) else if m.kind k = 2 then (5, m) else if m.freeP < 0 then (6, m) else m.fillAt k.toNat s m.freeP
theorem freeP_cases (m : ImgM) {P : Nat} (hP : m.p = P) : m.freeP = -1 ∨ ∃ q : Nat, m.freeP = q ∧ q < P ∧ m.openB q = true ∧ ∀ j : Nat, j < q → m.openB j = false := by
  unfold ImgM.freeP
  rw [hP, Int.toNat_natCast]
  cases h : (List.range P).find? fun (q : Nat) => m.openB q with
  | none => exact .inl rfl
  | some q =>
    rw [List.find?_range_eq_some] at h
    exact .inr ⟨q, rfl, by simpa using h.2.1, h.1, fun j hj => by simpa using h.2.2 j hj⟩

set_option maxRecDepth 100000 in
set_option maxHeartbeats 8000000 in
theorem fill_any (b bd bh : Nat) (m : ImgM) (hm : m.Ok) (hp : m.d.pend.length < 999000) (hw : m.d.writes < 999000) (k : Int) (s : ByteArray) (hs : s.size ≤ 9223372036854775807) (R : List SL.HP) (w : World) (H : own w (imgAt b bd bh m :: devAt bd m.d :: R)) :
    Calls Try.prog 87 #[.pointer (some ⟨b, 0, none⟩), .int .i64 k, .string s] w fun e w' => e = .returned (errV (m.fill k s).1) ∧ Ext w w' ∧ own w' (imgAt b bd bh (m.fill k s).2 :: devAt bd (m.fill k s).2.d :: R) := by
  have hth := there_any b bd bh m k _ w H
  cases ht : m.there k
  · have e : m.fill k s = (1, m) := by unfold ImgM.fill; rw [if_pos (.inl ht)]
    rw [e]
    rw [ht] at hth
    have HT := Lib.hid hth
    clear hth e ht
    go_enter Try.func87, Try.ntmps87
    go_wp2_with fail
    refine HT.out.mono ?_
    rintro e w' ⟨rfl, rfl⟩
    go_wp2_with fail
    go_ret
    exact ⟨rfl, Ext.refl _, H⟩
  · rw [ht] at hth
    by_cases h64 : s.size = 64
    · obtain ⟨k0, -, hkl⟩ := there_range hm ht
      obtain ⟨n, rfl⟩ := Int.eq_ofNat_of_zero_le k0
      rw [Int.toNat_natCast] at hkl
      have HT := Lib.hid hth
      obtain ⟨C, hC, q1, q2, q3, q4, q5, q6, -⟩ := hm.nat
      obtain ⟨P, hP⟩ := Int.eq_ofNat_of_zero_le q5
      have ts : ((s.size : Int) != 64) = false := by simp [h64]
      obtain ⟨v, h⟩ := img_open H
      obtain ⟨ao, g, cap, rfl, r1, r2, r3, -, -, r6, -⟩ := own_row_form 1 h rfl
      obtain rfl := r3 (by omega)
      have x1 : w.cell? ⟨g, n * 2, none⟩ = some (.int .i64 (m.kind n)) := r6 _ _ (entCells_get hkl).1
      obtain ⟨c, f⟩ := own_cells 0 h rfl
      have i1 : (0 : Int) ≤ (n : Int) := by omega
      have i2 : (n : Int) < (m.t.length : Int) := by omega
      have hS64 := Lib.hid h64
      by_cases h1 : m.kind n = 2
      · have e : m.fill n s = (5, m) := by unfold ImgM.fill; rw [if_neg (by rw [ht, h64]; simp), if_pos h1]
        rw [e]
        rw [h1] at x1
        clear hth e ht r3 r6 h1 h64 hC q1 q2 q3 q4 q5 q6 hP
        go_enter Try.func87, Try.ntmps87
        go_wp2_with fail
        refine HT.out.mono ?_
        rintro e w' ⟨rfl, rfl⟩
        go_wp2_with fail
        go_ret
        exact ⟨rfl, Ext.refl _, H⟩
      · have e : m.fill n s = if m.freeP < 0 then (6, m) else m.fillAt n s m.freeP := by unfold ImgM.fill; rw [if_neg (by rw [ht, h64]; simp), if_neg h1, Int.toNat_natCast]
        have t1 : (m.kind n == 2) = false := beq_eq_false_iff_ne.2 h1
        generalize m.fill n s = S at *
        have HE := Lib.hid e
        have hs64 : s.size ≤ 64 := by omega
        have lt32 : m.t.length ≤ 32 := by omega
        have hrange : ∀ q : Nat, q < P → entOk (2, (q : Int)) m.p = true := fun q hq => by
          unfold entOk
          rw [if_pos rfl, hP]
          simp only [Bool.and_eq_true, decide_eq_true_eq]
          omega
        have HRG := Lib.hid hrange
        have HP := Lib.hid hP
        have p40 : P ≤ 40 := by omega
        have HFI := Lib.hid (fun (q : Nat) (hq : q < P) => first_le hm (y := (q : Int)) (by omega) (by omega))
        clear hth e ht r3 r6 h1 h64 hC q1 q2 q3 q4 hrange
        generalize m.kind n = kd at *
        have HFR := Lib.hid (freep_any b bd bh m hm _ w H)
        rcases freeP_cases m hP with hf | ⟨q, hf, hq, -, -⟩
        · have hS : S = (6, m) := by rw [HE.out, if_pos (by omega)]
          have HS := Lib.hid hS
          rw [hf] at HFR
          clear hS hf q5 q6 hP
          go_enter Try.func87, Try.ntmps87
          go_wp2_with fail
          refine HT.out.mono ?_
          rintro e w' ⟨rfl, rfl⟩
          go_wp2_with fail
          refine HFR.out.mono ?_
          rintro e w2 ⟨rfl, hx2, h2⟩
          go_wp2_with fail
          go_ret
          rw [HS.out]
          exact ⟨rfl, hx2, h2⟩
        · have hS : S = m.fillAt n s q := by rw [HE.out, if_neg (by omega), hf]
          have HS := Lib.hid hS
          rw [hf] at HFR
          have hok := HRG.out q hq
          obtain ⟨F0, F1⟩ := HFI.out q hq
          have HF1 := Lib.hid (fun (R : List SL.HP) (w : World) (H : own w (imgAt b bd bh m :: R)) => first_any b bd bh m hm (q : Int) (by omega) (by omega) R w H)
          have hfa : m.fillAt n s q = if (m.d.puts (m.first q) (chunksN s 4)).1 ≠ 0 then ((m.d.puts (m.first q) (chunksN s 4)).1, { m with d := (m.d.puts (m.first q) (chunksN s 4)).2 }) else ({ m with d := (m.d.puts (m.first q) (chunksN s 4)).2 } : ImgM).flush.setE n (2, (q : Int)) := rfl
          rw [hfa] at hS
          obtain ⟨P1, P2, P3, P4⟩ := puts_ok (l := chunksN s 4) (a := m.first q) hm.d (by simp [chunksN]; omega) (by simp [chunksN]; omega)
          have hnn := puts_nonneg (l := chunksN s 4) (d := m.d) (a := m.first q)
          have hcl : (chunksN s 4).length = 4 := by simp [chunksN]
          generalize m.first q = F at *
          generalize hres : m.d.puts F (chunksN s 4) = res at *
          have HRES := Lib.hid hres
          have hd := hm.d
          have HSS := Lib.hid hS
          have hokm := flushed_ok hm P1 P2
          have hfl := fun (R : List SL.HP) (w : World) (H : own w (imgAt b bd bh m :: devAt bd res.2 :: R)) => imgflush_any b bd bh { m with d := res.2 } P1 R w H
          have HFL := Lib.hid hfl
          have HST := Lib.hid (fun (R : List SL.HP) (w : World) (H : own w (imgAt b bd bh ({ m with d := res.2 } : ImgM).flush :: devAt bd res.2.flush :: R)) => set_any b bd bh ({ m with d := res.2 } : ImgM).flush hokm (show res.2.flush.writes < 1000000 by simp only [DevM.flush]; omega) (show res.2.flush.pend.length < 1000000 by simp [DevM.flush]) n hkl 2 (q : Int) hok R w H)
          generalize ({ m with d := res.2 } : ImgM).flush.setE n (2, (q : Int)) = S2 at *
          clear hf hS HS hfa hcl hres hok q5 q6 hP hfl
          have i3 : (0 : Int) ≤ (q : Int) := by omega
          go_enter Try.func87, Try.ntmps87
          go_wp2_with fail
          refine HT.out.mono ?_
          rintro e w' ⟨rfl, rfl⟩
          go_wp2_with fail
          refine HFR.out.mono ?_
          rintro e w2 ⟨rfl, hx2, h2⟩
          clear c f x1 h
          go_wp2_with fail
          go_loopw [35] (putInv (fun dk => imgAt b bd bh m :: devAt bd dk :: R) m.d F s 4 res w) (fun i _ => 4 - (intOf i).toNat)
          case atStart => exact ⟨0, m.d, by omega, rfl, by simpa using HRES.out, hd, by omega, by simp, hx2, h2⟩
          case round =>
            clear h2 hx2
            obtain ⟨j, dk, hj, rfl, hput, okd, hpk, hwk, hxr, hown⟩ := hrel
            by_cases hlt : j < 4
            · rw [chunksN_drop s hlt] at hput
              have HPUT := Lib.hid hput
              clear hput
              have b1 : (0 : Int) ≤ (j : Int) * 16 := by omega
              have b2 : (j : Int) * 16 ≤ ((j : Int) + 1) * 16 := by omega
              have b3 : ((j : Int) + 1) * 16 ≤ (s.size : Int) := by have := hS64.out; omega
              have hsl : ∀ wx : World, (Instr.slice 9 (.string s) (some (.int .i64 ((j : Int) * 16))) (some (.int .i64 (((j : Int) + 1) * 16))) none).run Try.prog wx = .ok (.string (chunk s j)) wx := fun wx => by
                have := run_slice_string (P := Try.prog) wx 9 s .i64 .i64 ((j : Int) * 16) (((j : Int) + 1) * 16) Try.underlying9 b1 b2 b3
                rw [this, chunk, show ((j : Int) * 16).toNat = j * 16 from by omega, show (((j : Int) + 1) * 16).toNat = (j + 1) * 16 from by omega]
              have hcs : (chunk s j).size = 16 := by unfold chunk; rw [ByteArray.size_extract]; have := hS64.out; omega
              have e1 : IntKind.i64.wrap ((j : Int) * 16) = (j : Int) * 16 := IntWalk.i64_in _ (by omega)
              have e2 : IntKind.i64.wrap ((j : Int) + 1) = (j : Int) + 1 := IntWalk.i64_in _ (by omega)
              have e2' : IntKind.i64.wrap (((j : Int) + 1) * 16) = ((j : Int) + 1) * 16 := IntWalk.i64_in _ (by omega)
              have e4 : IntKind.i64.wrap (F + (j : Int)) = F + (j : Int) := IntWalk.i64_in _ (by omega)
              have hcode := write_nonneg dk (F + (j : Int)) (chunk s j)
              obtain ⟨l1, l2, l3⟩ := write_lens dk (F + (j : Int)) (chunk s j)
              have okw := DevM.write_ok okd (F + (j : Int)) (chunk s j) (by omega) (by omega)
              have HW := Lib.hid (fun (R : List SL.HP) (w : World) (H : own w (devAt bd dk :: R)) => dev_write bd dk okd (F + (j : Int)) (chunk s j) (by omega) (by omega) (by omega) R w H)
              have hstep : dk.puts (F + (j : Int)) (chunk s j :: (chunksN s 4).drop (j + 1)) = if (dk.write (F + (j : Int)) (chunk s j)).1 ≠ 0 then dk.write (F + (j : Int)) (chunk s j) else (dk.write (F + (j : Int)) (chunk s j)).2.puts (F + (j : Int) + 1) ((chunksN s 4).drop (j + 1)) := rfl
              rw [HPUT.out] at hstep
              have HSTP := Lib.hid hstep
              clear hstep l1
              generalize dk.write (F + (j : Int)) (chunk s j) = r at *
              generalize chunk s j = ck at *
              obtain ⟨v, h⟩ := img_open hown
              have hd1 := own_drew h
              go_upto_region 11 with (fail)
              go_region_held3 (fun w' => w'.cell? ⟨b, 0, none⟩ = some (.pointer (some ⟨bd, 0, none⟩))) (first | exact (own_cells 0 hd1 rfl).1 0 | exact (own_cells 0 h4 rfl).1 0) (first | (go_at_call 116; refine (HF1.out _ _ (img_close hd1)).mono ?_; rintro e w' ⟨rfl, rfl⟩) | (go_at_call 51; refine (HW.out _ _ (own_pick 3 hd1 rfl)).mono ?_; rintro e w4 ⟨rfl, hx4, h4'⟩; have h4 := own_put hd1 3 rfl h4'))
              have h5 : own w4 (imgAt b bd bh m :: devAt bd r.2 :: R) := img_close h4
              have hx5 := hxr.drew.trans hx4
              clear e1 e2 e2' e4 hsl h4 h4' hd1 h
              by_cases hz : r.1 = 0
              · have HZ := Lib.hid hz
                rw [hz, errV_0]
                clear hz
                go_wp2_with fail
                go_roundw
                case rel => exact ⟨j + 1, r.2, by omega, by go_num, by have := HSTP.out; rw [if_neg (by simpa using HZ.out)] at this; rw [this]; congr 1; omega, okw, by omega, by omega, hx5, h5⟩
                case measure => simp [intOf]; omega
              · have hfin : res = r := by have := HSTP.out; rw [if_pos hz] at this; exact this
                have hS2 : S = (r.1, { m with d := r.2 }) := by rw [HSS.out, hfin, if_pos hz]
                have HF := Lib.hid hS2
                have hpz : 0 < r.1 := by omega
                have HPE := Lib.hid (errV_pos hpz)
                rw [errV_pos hpz]
                clear hz hfin hS2
                go_wp2_with fail
                go_ret
                rw [HF.out]
                exact ⟨by rw [HPE.out]; rfl, hx5, h5⟩
            · have hje : j = 4 := by omega
              subst hje
              rw [chunksN_end, DevM.puts] at hput
              have hr0 : res.1 = 0 := by rw [← hput]
              have hr2 : res.2 = dk := by rw [← hput]
              have hS2 : S = S2 := by rw [HSS.out, if_neg (by simpa using hr0)]
              have HF := Lib.hid hS2
              rw [← hr2] at hown
              clear hput hlt hS2 hr0 hr2
              go_wp2_with fail
              refine (HFL.out _ wr hown).mono ?_
              rintro e w5 ⟨rfl, hx5, h5⟩
              go_wp2_with fail
              refine (HST.out _ w5 h5).mono ?_
              rintro e w6 ⟨rfl, hx6, h6⟩
              go_wp2_with fail
              go_ret
              rw [HF.out]
              exact ⟨rfl, (hxr.trans hx5).trans hx6, h6⟩
    · have e : m.fill k s = (1, m) := by unfold ImgM.fill; rw [if_pos (.inr h64)]
      rw [e]
      have ts : ((s.size : Int) != 64) = true := by rw [bne_iff_ne]; omega
      clear h64
      have HT := Lib.hid hth
      clear hth e ht
      go_enter Try.func87, Try.ntmps87
      go_wp2_with fail
      refine HT.out.mono ?_
      rintro e w' ⟨rfl, rfl⟩
      go_wp2_with fail
      go_ret
      exact ⟨rfl, Ext.refl _, H⟩

set_option maxRecDepth 100000 in
set_option maxHeartbeats 8000000 in
theorem rfill_any (b bd : Nat) (m : ImgM) (hm : m.Ok) (hp : m.d.pend.length < 999000) (hw : m.d.writes < 999000) (hh : m.held.length ≤ 1000000) (k : Int) (s : ByteArray) (hs : s.size ≤ 9223372036854775807) (R : List SL.HP) (w : World) (H : own w (rimgAt b bd m :: rdevAt bd m.d :: R)) :
    Calls Try.prog 94 #[.pointer (some ⟨b, 0, none⟩), .int .i64 k, .string s] w fun e w' => e = .returned (.int .i64 (m.fill k s).1) ∧ Ext w w' ∧ own w' (rimgAt b bd (m.fill k s).2 :: rdevAt bd (m.fill k s).2.d :: R) := by
  have hth := rthere_any b bd m k _ w H
  cases ht : m.there k
  · have e : m.fill k s = (1, m) := by unfold ImgM.fill; rw [if_pos (.inl ht)]
    rw [e]
    rw [ht] at hth
    have HT := Lib.hid hth
    clear hth e ht
    go_enter Try.func94, Try.ntmps94
    go_wp2_with fail
    refine HT.out.mono ?_
    rintro e w' ⟨rfl, rfl⟩
    go_wp2_with fail
    go_ret
    exact ⟨rfl, Ext.refl _, H⟩
  · rw [ht] at hth
    by_cases h64 : s.size = 64
    · obtain ⟨k0, -, hkl⟩ := there_range hm ht
      obtain ⟨n, rfl⟩ := Int.eq_ofNat_of_zero_le k0
      rw [Int.toNat_natCast] at hkl
      have HT := Lib.hid hth
      obtain ⟨C, hC, q1, q2, q3, q4, q5, q6, -⟩ := hm.nat
      obtain ⟨P, hP⟩ := Int.eq_ofNat_of_zero_le q5
      have ts : ((s.size : Int) != 64) = false := by simp [h64]
      obtain ⟨vt, vh, h⟩ := rimg_open H
      obtain ⟨ao, g, cap, rfl, r1, r2, r3, -, -, r6, -⟩ := own_row_form 1 h rfl
      obtain rfl := r3 (by omega)
      have x1 : w.cell? ⟨g, n * 2, none⟩ = some (.int .i64 (m.kind n)) := r6 _ _ (entCells_get hkl).1
      obtain ⟨c, f⟩ := own_cells 0 h rfl
      have i1 : (0 : Int) ≤ (n : Int) := by omega
      have i2 : (n : Int) < (m.t.length : Int) := by omega
      have hS64 := Lib.hid h64
      by_cases h1 : m.kind n = 2
      · have e : m.fill n s = (5, m) := by unfold ImgM.fill; rw [if_neg (by rw [ht, h64]; simp), if_pos h1]
        rw [e]
        rw [h1] at x1
        clear hth e ht r3 r6 h1 h64 hC q1 q2 q3 q4 q5 q6 hP
        go_enter Try.func94, Try.ntmps94
        go_wp2_with fail
        refine HT.out.mono ?_
        rintro e w' ⟨rfl, rfl⟩
        go_wp2_with fail
        go_ret
        exact ⟨rfl, Ext.refl _, H⟩
      · have e : m.fill n s = if m.freeP < 0 then (6, m) else m.fillAt n s m.freeP := by unfold ImgM.fill; rw [if_neg (by rw [ht, h64]; simp), if_neg h1, Int.toNat_natCast]
        have t1 : (m.kind n == 2) = false := beq_eq_false_iff_ne.2 h1
        generalize m.fill n s = S at *
        have HE := Lib.hid e
        have hs64 : s.size ≤ 64 := by omega
        have lt32 : m.t.length ≤ 32 := by omega
        have hrange : ∀ q : Nat, q < P → entOk (2, (q : Int)) m.p = true := fun q hq => by
          unfold entOk
          rw [if_pos rfl, hP]
          simp only [Bool.and_eq_true, decide_eq_true_eq]
          omega
        have HRG := Lib.hid hrange
        have HP := Lib.hid hP
        have p40 : P ≤ 40 := by omega
        have HFI := Lib.hid (fun (q : Nat) (hq : q < P) => first_le hm (y := (q : Int)) (by omega) (by omega))
        clear hth e ht r3 r6 h1 h64 hC q1 q2 q3 q4 hrange
        generalize m.kind n = kd at *
        have HOP := Lib.hid (fun p => ropen_any b bd m (by omega) hh p _ w H)
        rw [hP] at c
        have hsome := fun (q : Nat) => @freeP_some m P q hP
        have hnone := freeP_none hP
        have HSO := Lib.hid hsome
        have HNO := Lib.hid hnone
        clear hsome hnone q5 q6 hP
        go_enter Try.func94, Try.ntmps94
        go_wp2_with fail
        refine HT.out.mono ?_
        rintro e w' ⟨rfl, rfl⟩
        go_wp2_with fail
        go_loop [7] (fun i => ∃ q : Nat, q ≤ P ∧ i = .int .i64 q ∧ ∀ j : Nat, j < q → m.openB j = false) (fun i => P - (intOf i).toNat)
        case atStart => exact ⟨0, by omega, rfl, fun j h => absurd h (by omega)⟩
        case round =>
          obtain ⟨q, hq, rfl, hj⟩ := hrel
          have HJ := Lib.hid hj
          clear hj
          by_cases hlt : q < P
          · go_wp2_with fail
            refine (HOP.out q).mono ?_
            rintro e w' ⟨rfl, rfl⟩
            cases ho : m.openB q
            · have HO := Lib.hid ho
              clear ho
              go_wp2_with fail
              go_round
              case rel => exact ⟨q + 1, by omega, by go_num, fun j h => by
                by_cases e : j = q
                · subst e; exact HO.out
                · exact HJ.out j (by omega)⟩
              case measure => simp [intOf]; omega
            · have hf := HSO.out q hlt ho HJ.out
              have hS : S = m.fillAt n s q := by rw [HE.out, if_neg (by omega), hf]
              have hok := HRG.out q hlt
              obtain ⟨F0, F1⟩ := HFI.out q hlt
              have HF1 := Lib.hid (rfirst_any b bd m hm (q : Int) (by omega) (by omega) _ w H)
              have hfa : m.fillAt n s q = if (m.d.puts (m.first q) (chunksN s 4)).1 ≠ 0 then ((m.d.puts (m.first q) (chunksN s 4)).1, { m with d := (m.d.puts (m.first q) (chunksN s 4)).2 }) else ({ m with d := (m.d.puts (m.first q) (chunksN s 4)).2 } : ImgM).flush.setE n (2, (q : Int)) := rfl
              rw [hfa] at hS
              obtain ⟨P1, P2, P3, P4⟩ := puts_ok (l := chunksN s 4) (a := m.first q) hm.d (by simp [chunksN]; omega) (by simp [chunksN]; omega)
              have hnn := puts_nonneg (l := chunksN s 4) (d := m.d) (a := m.first q)
              have hcl : (chunksN s 4).length = 4 := by simp [chunksN]
              have HSEC := Lib.hid (rsectors_any b bd m m.d hm.d hp hw (m.first q) (by omega) (by omega) s 4 (by have := hS64.out; omega) (by omega) R w H)
              generalize m.first q = F at *
              generalize m.d.puts F (chunksN s 4) = res at *
              have HSS := Lib.hid hS
              have hokm := flushed_ok hm P1 P2
              have hfl := fun (R : List SL.HP) (w : World) (H : own w (rimgAt b bd m :: rdevAt bd res.2 :: R)) => rimgflush_any b bd { m with d := res.2 } P1 R w H
              have HFL := Lib.hid hfl
              have HST := Lib.hid (fun (R : List SL.HP) (w : World) (H : own w (rimgAt b bd ({ m with d := res.2 } : ImgM).flush :: rdevAt bd res.2.flush :: R)) => rset_any b bd ({ m with d := res.2 } : ImgM).flush hokm (show res.2.flush.writes < 1000000 by simp only [DevM.flush]; omega) (show res.2.flush.pend.length < 1000000 by simp [DevM.flush]) (by simp [ImgM.flush]) n hkl 2 (q : Int) hok R w H)
              generalize ({ m with d := res.2 } : ImgM).flush.setE n (2, (q : Int)) = S2 at *
              have tq : (q == P) = false := beq_eq_false_iff_ne.2 (by omega)
              have tq2 : ((q : Int) == (P : Int)) = false := beq_eq_false_iff_ne.2 (by omega)
              clear hf hS hfa hcl hok hfl ho
              go_wp2_with fail
              refine HF1.out.mono ?_
              rintro e w' ⟨rfl, rfl⟩
              go_wp2_with fail
              refine HSEC.out.mono ?_
              rintro e w2 ⟨rfl, hx2, h2⟩
              clear c f x1 h
              by_cases hz : res.1 = 0
              · have hS2 : S = S2 := by rw [HSS.out, if_neg (by simpa using hz)]
                have HF := Lib.hid hS2
                have d0 : decide (0 < res.1) = false := decide_eq_false (by omega)
                clear hz hS2
                go_wp2_with fail
                refine (HFL.out _ w2 h2).mono ?_
                rintro e w5 ⟨rfl, hx5, h5⟩
                go_wp2_with fail
                refine (HST.out _ w5 h5).mono ?_
                rintro e w6 ⟨rfl, hx6, h6⟩
                go_wp2_with fail
                go_ret
                rw [HF.out]
                exact ⟨rfl, (hx2.trans hx5).trans hx6, h6⟩
              · have hS2 : S = (res.1, { m with d := res.2 }) := by rw [HSS.out, if_pos hz]
                have HF := Lib.hid hS2
                have d0 : decide (0 < res.1) = true := decide_eq_true (by omega)
                clear hz hS2
                go_wp2_with fail
                go_ret
                rw [HF.out]
                exact ⟨rfl, hx2, h2⟩
          · have hqe : q = P := by omega
            subst hqe
            have hf := HNO.out HJ.out
            have hS : S = (6, m) := by rw [HE.out, if_pos (by omega)]
            have HS := Lib.hid hS
            clear hf hS hlt
            go_wp2_with fail
            go_ret
            rw [HS.out]
            exact ⟨rfl, Ext.refl _, H⟩
    · have e : m.fill k s = (1, m) := by unfold ImgM.fill; rw [if_pos (.inr h64)]
      rw [e]
      have ts : ((s.size : Int) != 64) = true := by rw [bne_iff_ne]; omega
      clear h64
      have HT := Lib.hid hth
      clear hth e ht
      go_enter Try.func94, Try.ntmps94
      go_wp2_with fail
      refine HT.out.mono ?_
      rintro e w' ⟨rfl, rfl⟩
      go_wp2_with fail
      go_ret
      exact ⟨rfl, Ext.refl _, H⟩

end Go.Proofs.Ytbpblokfiajpjaa
