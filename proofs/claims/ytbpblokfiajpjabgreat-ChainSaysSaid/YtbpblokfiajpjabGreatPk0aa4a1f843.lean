/- Sectors of one cluster are laid into the first file of a list: the program's and the document's. A closed fact: a cluster is filled; an act on an image and on its model is answered the same. Sectors are written over the files of a list: Put, the program's and the document's. Sectors are written over the files of a list: the document's Put. Sectors of the files of a list are wiped: the program's and the document's. Sectors of the files of a list are wiped: the document's. A cluster's bytes are moved into a file: Move, the program's and the document's. A law's arguments that are heads, desks, lists of entries: opened. No conditions. -/
import Derived.Test.YtbpblokfiajpjabGreatPka747704eec
import Derived.Test.YtbpblokfiajpjabGreatProg
import Derived.Lib.SmallJoins
namespace Go.Proofs.YtbpblokfiajpjabGreat
open Go.RowKit Go.SL Go.Crc
attribute [local go_sem ↓] Go.wp_at_zero Go.wp_at_succ

theorem layM_eq {F : ShM} {l : List Int} {m : ImgM} (h : F (topI l) = some m) (c fr : Nat) (s : ByteArray) : layM F l c fr s = if m.kind (c : Int) = 2 then ((m.wr c fr s).1, put F (topI l) (m.wr c fr s).2)
    else ((m.fill c (splice (readM F l c).1 fr s)).1, put F (topI l) (m.fill c (splice (readM F l c).1 fr s)).2) := by unfold layM; rw [h]
theorem slice_to (t : ByteArray) (h : Int) (n : Nat) (hn : h = (n : Int)) (h2 : n ≤ t.size) (wx : World) : (Instr.slice 9 (.string t) none (some (.int .i64 h)) none).run Tryz.prog wx = .ok (.string (t.extract 0 n)) wx := by
  subst hn
  have := run_slice_string_h (P := Tryz.prog) wx 9 t Tryz.underlying9 .i64 (n : Int) (by omega) (by omega)
  rw [this, Int.toNat_natCast]
theorem slice_from (t : ByteArray) (h : Int) (n : Nat) (hn : h = (n : Int)) (h2 : n ≤ t.size) (wx : World) : (Instr.slice 9 (.string t) (some (.int .i64 h)) none none).run Tryz.prog wx = .ok (.string (t.extract n t.size)) wx := by
  subst hn
  have := run_slice_string_l (P := Tryz.prog) wx 9 t Tryz.underlying9 .i64 (n : Int) (by omega) (by omega)
  rw [this, Int.toNat_natCast]

set_option maxRecDepth 100000 in
set_option maxHeartbeats 8000000 in
theorem lay_any (b : Nat) (A : Nat → Nat × Nat × Nat) (F : ShM) (hF : ShOk F) (v : Value) (l : List Int) (hl : ∀ x ∈ l, isFile F x) (h0 : l.length ≠ 0) (hl5 : l.length ≤ 5) (c fr n : Nat) (hc : (c : Int) < clus F (l.getD 0 0)) (hfn : fr + n ≤ 4) (s : ByteArray) (hs : s.size = 16 * n) (R : List SL.HP) (w : World) (hv : ∀ w' L, own w' (L ++ R) → IntsAt w' v l) (H : own w (shL b A F ++ R)) :
    Calls Tryz.prog 65 #[.pointer (some ⟨b, 0, none⟩), v, .agg #[.int .i64 c, .int .i64 fr, .int .i64 n], .string s] w fun e w' => e = .returned (errV (layM F l c fr s).1) ∧ Ext w w' ∧ own w' (shL b A (layM F l c fr s).2 ++ R) := by
  have hv0 := hv w _ H
  obtain ⟨ao, lb, off, cap, rfl, hlc, hcap, hao, -⟩ := hv0.form
  obtain rfl := hao (by omega)
  have hpos : 0 < l.length := by omega
  obtain ⟨m, hk, hFk, hx⟩ := topI_of hl h0
  have htc := there_of hl h0 (Int.natCast_nonneg c) hc
  have hrd := readM_ok hF hl h0 htc
  rw [layM_eq hFk]
  rw [hx, thereC_of hFk] at htc
  generalize topI l = k at *
  have c0 : w.cell? ⟨lb, off, none⟩ = some (.int .i64 (k : Int)) := by rw [← hx]; exact ints_cell hv0 hpos
  have cell := sh_cell H hk
  rw [slotV_some hFk] at cell
  have i1 : (0 : Int) ≤ (k : Int) := by omega
  have i2 : (k : Int) < 5 := by omega
  have j2 : (0 : Int) < (l.length : Int) := by omega
  have hcc : c ≤ 32 := by
    rw [hx, clus_of hFk] at hc
    obtain ⟨C, hC, q1, q2, -, -, -, -, -, -⟩ := (hF.ok k m hk hFk).nat
    omega
  have HKI := Lib.hid (fun (R : List SL.HP) (w : World) (H : own w (shL b A F ++ R)) => skind_any hk hFk (hF.ok k m hk hFk) (c : Int) htc R w H)
  have HV := Lib.hid hv
  have HX := Lib.hid hx
  have HFK := Lib.hid hFk
  have ha := own_alloc H (.cells #[.int .i64 (c : Int), .int .i64 (fr : Int), .int .i64 (n : Int)] 118)
  have hxa := (Ext.refl w).alloc (.cells #[.int .i64 (c : Int), .int .i64 (fr : Int), .int .i64 (n : Int)] 118)
  have ha2 := own_behind (shL b A F) ha
  have c1 : (w.alloc (.cells #[.int .i64 (c : Int), .int .i64 (fr : Int), .int .i64 (n : Int)] 118)).cell? ⟨lb, off, none⟩ = some (.int .i64 (l.getD 0 0)) := ints_cell (ints_more hv [_] _ (shL b A F) ha2) hpos
  rw [hx] at c1
  have cell1 := sh_cell ha2 hk
  rw [slotV_some hFk] at cell1
  clear c0 cell
  by_cases h2 : m.kind (c : Int) = 2
  · rw [if_pos h2]
    have HWR := Lib.hid (fun (R : List SL.HP) (w : World) (H : own w (shL b A F ++ R)) => swrite_any hk hFk hF (c : Int) (fr : Int) ⟨by omega, by omega⟩ s (by omega) R w H)
    rw [h2] at HKI
    clear hrd htc hc hl hF hFk hx hv hv0 hao h2 H ha
    go_enter Tryz.func65, Tryz.ntmps65
    go_upto_region 1 with (fail)
    generalize w.heap.size = gx at *
    generalize w.alloc (.cells #[.int .i64 (c : Int), .int .i64 (fr : Int), .int .i64 (n : Int)] 118) = wa at *
    go_quiet (fail)
    have hb := own_drewN nq ha2
    have hxb := hxa.drewN nq
    clear ha2 hxa c1 cell1
    generalize wa.drewN nq = wb at *
    have d0 := (own_cells 6 hb rfl).1 0
    go_wp2_with fail
    refine (HKI.out _ _ hb).mono ?_
    rintro e w5 ⟨rfl, rfl⟩
    have d1 := (own_cells 6 hb rfl).1 1
    go_wp2_with fail
    refine (HWR.out _ _ hb).mono ?_
    rintro e w6 ⟨rfl, hx6, h6⟩
    go_wp2_with fail
    go_ret
    exact ⟨rfl, hxb.trans hx6, own_erase 6 h6 rfl⟩
  · rw [if_neg h2]
    have hsp : (splice (readM F l (c : Int)).1 fr s).size = 64 := by
      unfold splice
      rw [ByteArray.size_append, ByteArray.size_append, ByteArray.size_extract, ByteArray.size_extract, hrd.2, hs]
      omega
    have HFI := Lib.hid (fun (R : List SL.HP) (w : World) (H : own w (shL b A F ++ R)) => sfill_any hk hFk hF (c : Int) (splice (readM F l (c : Int)).1 fr s) (by omega) R w H)
    have hread := fun (R' : List SL.HP) (hv' : ∀ w' L, own w' (L ++ R') → IntsAt w' (.slice (some ⟨lb, off, none⟩) l.length cap) l) (w : World) (H : own w (shL b A F ++ R')) => shread_any b A F hF _ l hl hl5 (c : Int) R' w hv' H
    rw [hrd.1, errV_0] at hread
    have HRE := Lib.hid hread
    have t2 : (m.kind (c : Int) == 2) = false := beq_eq_false_iff_ne.2 h2
    have hrs := hrd.2
    unfold splice at HFI ⊢
    rw [hrs, hs] at HFI ⊢
    clear hread hrd htc hc hl hF hFk hx hv hv0 hao h2 H ha hsp
    generalize (readM F l (c : Int)).1 = old at *
    have u1 := slice_to old ((fr : Int) * 16) (16 * fr) (by omega) (by omega)
    have u2 := slice_from old (((fr : Int) + (n : Int)) * 16) (16 * fr + 16 * n) (by omega) (by omega)
    rw [hrs] at u2
    have z1 : (old.extract 0 (16 * fr)).size = 16 * fr := by rw [ByteArray.size_extract]; omega
    have z2 : (old.extract (16 * fr + 16 * n) 64).size = 64 - (16 * fr + 16 * n) := by rw [ByteArray.size_extract]; omega
    generalize old.extract 0 (16 * fr) = o1 at *
    generalize old.extract (16 * fr + 16 * n) 64 = o2 at *
    have z3 : (o1 ++ s).size = 16 * fr + 16 * n := by rw [ByteArray.size_append]; omega
    have y1 : (o1.size : Int) ≤ 8388608 := by omega
    have y2 : (s.size : Int) ≤ 8388608 := by omega
    have y3 : ((o1 ++ s).size : Int) ≤ 8388608 := by omega
    have y4 : (o2.size : Int) ≤ 8388608 := by omega
    have hcc1 : ∀ wx : World, (Op.stringOp .add o1 s).run Tryz.prog wx = .ok (.string (o1 ++ s)) wx := fun wx => run_string_add wx o1 s y1 y2
    have hcc2 : ∀ wx : World, (Op.stringOp .add (o1 ++ s) o2).run Tryz.prog wx = .ok (.string (o1 ++ s ++ o2)) wx := fun wx => run_string_add wx (o1 ++ s) o2 y3 y4
    have e1 : IntKind.i64.wrap ((fr : Int) * 16) = (fr : Int) * 16 := IntWalk.i64_in _ (by omega)
    have e2 : IntKind.i64.wrap ((fr : Int) + (n : Int)) = (fr : Int) + (n : Int) := IntWalk.i64_in _ (by omega)
    have e3 : IntKind.i64.wrap (((fr : Int) + (n : Int)) * 16) = ((fr : Int) + (n : Int)) * 16 := IntWalk.i64_in _ (by omega)
    go_enter Tryz.func65, Tryz.ntmps65
    go_upto_region 1 with (fail)
    generalize w.heap.size = gx at *
    generalize w.alloc (.cells #[.int .i64 (c : Int), .int .i64 (fr : Int), .int .i64 (n : Int)] 118) = wa at *
    go_quiet (fail)
    have hb := own_drewN nq ha2
    have hxb := hxa.drewN nq
    clear ha2 hxa c1 cell1
    generalize wa.drewN nq = wb at *
    have d0 := (own_cells 6 hb rfl).1 0
    go_wp2_with fail
    refine (HKI.out _ _ hb).mono ?_
    rintro e w5 ⟨rfl, rfl⟩
    go_wp2_with fail
    refine (HRE.out _ (ints_more HV.out [_]) _ hb).mono ?_
    rintro e w6 ⟨rfl, hx6, h6⟩
    clear hb d0
    have d0 := (own_cells 6 h6 rfl).1 0
    have d1 := (own_cells 6 h6 rfl).1 1
    have d2 := (own_cells 6 h6 rfl).1 2
    go_upto_region 10 with (fail)
    go_still_tail 19, (by kernel_rfl)
    change wpList _ _ _ _ _ w6.drew
    go_wp2_with fail
    refine (HFI.out _ _ (own_drew h6)).mono ?_
    rintro e w7 ⟨rfl, hx7, h7⟩
    go_wp2_with fail
    go_ret
    exact ⟨rfl, ((hxb.trans hx6).drew).trans hx7, own_erase 6 h7 rfl⟩
set_option maxRecDepth 100000 in
set_option maxHeartbeats 8000000 in
theorem rlay_any (b : Nat) (A : Nat → Nat × Nat) (F : ShM) (hF : ShOk F) (v : Value) (l : List Int) (hl : ∀ x ∈ l, isFile F x) (h0 : l.length ≠ 0) (hl5 : l.length ≤ 5) (c fr n : Nat) (hc : (c : Int) < clus F (l.getD 0 0)) (hfn : fr + n ≤ 4) (s : ByteArray) (hs : s.size = 16 * n) (R : List SL.HP) (w : World) (hv : ∀ w' L, own w' (L ++ R) → IntsAt w' v l) (H : own w (rshL b A F ++ R)) :
    Calls Tryz.prog 67 #[.pointer (some ⟨b, 0, none⟩), v, .int .i64 c, .int .i64 fr, .string s] w fun e w' => e = .returned (.int .i64 (layM F l c fr s).1) ∧ Ext w w' ∧ own w' (rshL b A (layM F l c fr s).2 ++ R) := by
  have hv0 := hv w _ H
  obtain ⟨ao, lb, off, cap, rfl, hlc, hcap, hao, -⟩ := hv0.form
  obtain rfl := hao (by omega)
  have hpos : 0 < l.length := by omega
  obtain ⟨m, hk, hFk, hx⟩ := topI_of hl h0
  have htc := there_of hl h0 (Int.natCast_nonneg c) hc
  have hrd := readM_ok hF hl h0 htc
  rw [layM_eq hFk]
  rw [hx, thereC_of hFk] at htc
  generalize topI l = k at *
  have c1 : w.cell? ⟨lb, off, none⟩ = some (.int .i64 (l.getD 0 0)) := ints_cell hv0 hpos
  rw [hx] at c1
  have cell1 := rsh_cell H hk
  rw [rslotV_some hFk] at cell1
  have i1 : (0 : Int) ≤ (k : Int) := by omega
  have i2 : (k : Int) < 5 := by omega
  have j2 : (0 : Int) < (l.length : Int) := by omega
  obtain ⟨-, -, hkl⟩ := there_range (hF.ok k m hk hFk) htc
  rw [Int.toNat_natCast] at hkl
  have hcc : c ≤ 32 := by
    rw [hx, clus_of hFk] at hc
    obtain ⟨C, hC, q1, q2, -, -, -, -, -, -⟩ := (hF.ok k m hk hFk).nat
    omega
  have HV := Lib.hid hv
  have HX := Lib.hid hx
  have l1 : (c : Int) < (m.t.length : Int) := by omega
  have l2 : (0 : Int) ≤ (c : Int) := by omega
  have HIMG := Lib.hid (fun (w : World) (H : own w (rshL b A F ++ R)) => rsh_img hk hFk H)
  by_cases h2 : m.kind (c : Int) = 2
  · rw [if_pos h2]
    have HWR := Lib.hid (fun (R : List SL.HP) (w : World) (H : own w (rshL b A F ++ R)) => rswrite_any hk hFk hF (c : Int) (fr : Int) ⟨by omega, by omega⟩ s (by omega) R w H)
    have HK2 := Lib.hid h2
    clear hrd htc hc hl hF hFk hx hv hv0 hao h2
    go_enter Tryz.func67, Tryz.ntmps67
    go_upto_region 1 with (fail)
    go_quiet (fail)
    have hb := own_drewN nq H
    have hxb := (Ext.refl w).drewN nq
    clear H c1 cell1
    generalize w.drewN nq = wb at *
    obtain ⟨vt, vh, -, -, -, -, x4, -, x6⟩ := HIMG.out wb hb
    obtain ⟨eo, eb, eoff, ecap, rfl, e1, e2, e3⟩ := x6.form
    obtain rfl := e3 (by omega)
    have y1 : wb.cell? ⟨eb, eoff + c * 2, none⟩ = some (.int .i64 (m.kind (c : Int))) := (x6.cells hkl).1
    rw [HK2.out] at y1
    clear x6 e3
    go_wp2_with fail
    refine (HWR.out _ _ hb).mono ?_
    rintro e w6 ⟨rfl, hx6, h6⟩
    go_wp2_with fail
    go_ret
    exact ⟨rfl, hxb.trans hx6, h6⟩
  · rw [if_neg h2]
    have hsp : (splice (readM F l (c : Int)).1 fr s).size = 64 := by
      unfold splice
      rw [ByteArray.size_append, ByteArray.size_append, ByteArray.size_extract, ByteArray.size_extract, hrd.2, hs]
      omega
    have HFI := Lib.hid (fun (R : List SL.HP) (w : World) (H : own w (rshL b A F ++ R)) => rsfill_any hk hFk hF (c : Int) (splice (readM F l (c : Int)).1 fr s) (by omega) R w H)
    have hread := fun (R' : List SL.HP) (hv' : ∀ w' L, own w' (L ++ R') → IntsAt w' (.slice (some ⟨lb, off, none⟩) l.length cap) l) (w : World) (H : own w (rshL b A F ++ R')) => rshread_any b A F hF _ l hl hl5 (c : Int) R' w hv' H
    rw [hrd.1] at hread
    have HRE := Lib.hid hread
    have t2 : (m.kind (c : Int) == 2) = false := beq_eq_false_iff_ne.2 h2
    have hrs := hrd.2
    unfold splice at HFI ⊢
    rw [hrs, hs] at HFI ⊢
    clear hread hrd htc hc hl hF hFk hx hv hv0 hao h2 hsp
    generalize (readM F l (c : Int)).1 = old at *
    have u1 := slice_to old (16 * (fr : Int)) (16 * fr) (by omega) (by omega)
    have u2 := slice_from old (16 * (fr : Int) + (s.size : Int)) (16 * fr + 16 * n) (by omega) (by omega)
    rw [hrs] at u2
    have z1 : (old.extract 0 (16 * fr)).size = 16 * fr := by rw [ByteArray.size_extract]; omega
    have z2 : (old.extract (16 * fr + 16 * n) 64).size = 64 - (16 * fr + 16 * n) := by rw [ByteArray.size_extract]; omega
    generalize old.extract 0 (16 * fr) = o1 at *
    generalize old.extract (16 * fr + 16 * n) 64 = o2 at *
    have z3 : (o1 ++ s).size = 16 * fr + 16 * n := by rw [ByteArray.size_append]; omega
    have y1 : (o1.size : Int) ≤ 8388608 := by omega
    have y2 : (s.size : Int) ≤ 8388608 := by omega
    have y3 : ((o1 ++ s).size : Int) ≤ 8388608 := by omega
    have y4 : (o2.size : Int) ≤ 8388608 := by omega
    have hcc1 : ∀ wx : World, (Op.stringOp .add o1 s).run Tryz.prog wx = .ok (.string (o1 ++ s)) wx := fun wx => run_string_add wx o1 s y1 y2
    have hcc2 : ∀ wx : World, (Op.stringOp .add (o1 ++ s) o2).run Tryz.prog wx = .ok (.string (o1 ++ s ++ o2)) wx := fun wx => run_string_add wx (o1 ++ s) o2 y3 y4
    have e1 : IntKind.i64.wrap (16 * (fr : Int)) = 16 * (fr : Int) := IntWalk.i64_in _ (by omega)
    have e2 : IntKind.i64.wrap (16 * (fr : Int) + (s.size : Int)) = 16 * (fr : Int) + (s.size : Int) := IntWalk.i64_in _ (by omega)
    have HS := Lib.hid hs
    clear hs
    go_enter Tryz.func67, Tryz.ntmps67
    go_upto_region 1 with (fail)
    go_quiet (fail)
    have hb := own_drewN nq H
    have hxb := (Ext.refl w).drewN nq
    clear H c1 cell1
    generalize w.drewN nq = wb at *
    obtain ⟨vt, vh, -, -, -, -, x4, -, x6⟩ := HIMG.out wb hb
    obtain ⟨eo, eb, eoff, ecap, rfl, g1, g2, g3⟩ := x6.form
    obtain rfl := g3 (by omega)
    have k1 : wb.cell? ⟨eb, eoff + c * 2, none⟩ = some (.int .i64 (m.kind (c : Int))) := (x6.cells hkl).1
    clear x6 g3
    go_wp2_with fail
    refine (HRE.out _ HV.out _ hb).mono ?_
    rintro e w6 ⟨rfl, hx6, h6⟩
    clear hb k1 x4
    go_upto_region 5 with (fail)
    go_still_tail 16, (by kernel_rfl)
    change wpList _ _ _ _ _ w6.drew
    go_wp2_with fail
    refine (HFI.out _ _ (own_drew h6)).mono ?_
    rintro e w7 ⟨rfl, hx7, h7⟩
    go_wp2_with fail
    go_ret
    exact ⟨rfl, ((hxb.trans hx6).drew).trans hx7, h7⟩
end Go.Proofs.YtbpblokfiajpjabGreat

namespace Go.Proofs.YtbpblokfiajpjabGreat
open Go.RowKit Go.SL Go.Crc
attribute [local go_sem ↓] Go.wp_at_zero Go.wp_at_succ

theorem created_is (d : DevM) (c p b : Int) : (createR d c p b).2 = madeM (createR d c p b).2.d c p b := by
  unfold createR
  split
  · rfl
  · split
    · rfl
    · split <;> rfl
theorem created_good {d : DevM} (hd : d.Ok) (hf : d.fail < 0) (hp : d.pend.length < 999000) (hw : d.writes < 999000) {c p b : Int} (h : ¬ fitBad d c p b) : (createR d c p b).1 = 0 ∧ (createR d c p b).2.d.fail < 0 := by
  have hb : ¬ headBad c p b := fun h' => h (.inl h')
  have hn : needN c p ≤ d.fl.length := Int.not_lt.1 fun h' => h (.inr h')
  have hbb := hb
  unfold headBad at hbb
  have hzl : (zeroT c).length = c.toNat := by simp [zeroT]
  have hrn : rowsN c.toNat ≤ 4 := by unfold rowsN; omega
  have hrl : (rowsL (zeroT c)).length = rowsN c.toNat := by simp [rowsL, hzl]
  have hn2 : 1 + (rowsN c.toNat : Int) + 4 * p ≤ d.fl.length := hn
  obtain ⟨o1, o2, o3, o4⟩ := puts_ok (l := rowsL (zeroT c)) (a := 1) hd (by omega) (by omega)
  obtain ⟨g1, g2⟩ := puts_good (l := rowsL (zeroT c)) (a := 1) hf (by omega) (by rw [hrl]; omega) (fun s hs => by
    unfold rowsL at hs
    obtain ⟨k, hk, rfl⟩ := List.mem_map.1 hs
    rw [List.mem_range, hzl] at hk
    rw [rowOf_is (P := 40) (by omega) (by omega) (zero_ents c 40) (by rw [hzl]; exact hk)]
    exact rowBytes_size _ _)
  unfold createR
  rw [if_neg h, if_neg (by simpa using g1)]
  generalize (d.puts 1 (rowsL (zeroT c))).2 = d1 at *
  have hl1 : d1.flush.fl.length = d1.fl.length := by simp only [DevM.flush, foldl_setAt_length]
  obtain ⟨w1, w2⟩ := write_good (d := d1.flush) g2 (a := 0) (by omega) (by omega) (s := headS c p b) (seal_size (by simp))
  rw [if_neg (by simpa using w1)]
  exact ⟨rfl, w2⟩
def oneX : ByteArray := ⟨#[120]⟩

theorem setE_nonneg (m : ImgM) (k : Nat) (e : Ent) : 0 ≤ (m.setE k e).1 := by
  unfold ImgM.setE
  dsimp only
  split
  · exact write_nonneg _ _ _
  · simp
theorem wr_nonneg (m : ImgM) (k fr : Int) (s : ByteArray) : 0 ≤ (m.wr k fr s).1 := by
  unfold ImgM.wr
  split
  · simp
  · split
    · simp
    · exact puts_nonneg
theorem fill_nonneg (m : ImgM) (k : Int) (s : ByteArray) : 0 ≤ (m.fill k s).1 := by
  unfold ImgM.fill
  split
  · simp
  · split
    · simp
    · split
      · simp
      · unfold ImgM.fillAt
        split
        · exact puts_nonneg
        · exact setE_nonneg _ _ _
theorem clear_nonneg (m : ImgM) (k : Int) : 0 ≤ (m.clear k).1 := by
  unfold ImgM.clear
  split
  · split
    · simp
    · exact setE_nonneg _ _ _
  · simp
theorem link_nonneg (m : ImgM) (k : Int) : 0 ≤ (m.link k).1 := by
  unfold ImgM.link
  split
  · simp
  · split
    · exact write_nonneg _ _ _
    · simp
def actM (m : ImgM) (x : Act) : ImgM :=
  if (x.kind.toList == [119, 114, 105, 116, 101]) = true then (m.wr x.A x.B x.S).2 else if (x.kind.toList == [102, 105, 108, 108]) = true then (m.fill x.A x.S).2
  else if (x.kind.toList == [99, 108, 101, 97, 114]) = true then (m.clear x.A).2 else if (x.kind.toList == [108, 105, 110, 107]) = true then (m.link x.A).2
  else if (x.kind.toList == [102, 97, 105, 108]) = true then (if x.A < 0 then m else { m with d := { m.d with fail := x.A } }) else m.flush
theorem step_act {m : ImgM} (hm : m.Ok) (hw : m.d.writes < 999000) (hp : m.d.pend.length < 999000) (x : Act) (hA : i64ok x.A) : Step 5 m (actM m x) := by
  unfold actM
  split
  · exact (step_wr hm hw hp _ _ _).mono (by omega)
  · split
    · exact step_fill hm hw hp _ _
    · split
      · exact (step_clear hm (by omega) (by omega) _).mono (by omega)
      · split
        · exact (step_link hm hw _).mono (by omega)
        · split
          · split
            · exact Step.refl hm 5
            · exact (step_fail hm (by omega) hA.2).mono (by omega)
          · exact (step_flush hm).mono (by omega)
end Go.Proofs.YtbpblokfiajpjabGreat

namespace Go.Proofs.YtbpblokfiajpjabGreat
open Go.RowKit Go.SL Go.Crc
attribute [local go_sem ↓] Go.wp_at_zero Go.wp_at_succ

theorem layM_code (F : ShM) (l : List Int) (c fr : Nat) (s : ByteArray) : 0 ≤ (layM F l c fr s).1 := by
  unfold layM
  split
  · simp
  · split
    · exact wr_nonneg _ _ _ _
    · exact fill_nonneg _ _ _
theorem clearM_code (F : ShM) (l : List Int) (c : Nat) : 0 ≤ (clearM F l c).1 := by
  unfold clearM
  split
  · simp
  · exact clear_nonneg _ _
theorem wipeA_code (l : List Int) (fr : Nat) (F : ShM) (k m : Nat) : 0 ≤ (wipeA l fr F k m).1 := by
  unfold wipeA
  split
  · exact clearM_code _ _ _
  · split
    · exact layM_code _ _ _ _ _
    · simp
theorem putA_code (l : List Int) (fr : Nat) (s : ByteArray) (F : ShM) (k m : Nat) : 0 ≤ (putA l fr s F k m).1 := layM_code _ _ _ _ _
theorem overGo_code {act : ShM → Nat → Nat → Int × ShM} (ha : ∀ F k m, 0 ≤ (act F k m).1) : ∀ {q : Nat} {F : ShM} {fr k n : Nat}, 0 ≤ (overGo act q F fr k n).1 := by
  intro q
  induction q with
  | zero => intro F fr k n; simp [overGo]
  | succ q ih =>
    intro F fr k n
    rw [overGo]
    split
    · simp
    · split
      · exact ha _ _ _
      · exact ih
theorem putM_code (F : ShM) (l : List Int) (fr : Int) (s : ByteArray) : 0 ≤ (putM F l fr s).1 := by
  unfold putM
  split
  · simp
  · split
    · exact withinM_code _ _ _ _
    · exact overGo_code fun F k m => putA_code l _ s F k m
theorem wipeM_code (F : ShM) (l : List Int) (fr n : Int) : 0 ≤ (wipeM F l fr n).1 := by
  unfold wipeM
  split
  · exact withinM_code _ _ _ _
  · exact overGo_code fun F k m => wipeA_code l _ F k m
theorem moveM_code (F : ShM) (x : Nat) (c : Int) (s : ByteArray) : 0 ≤ (moveM F x c s).1 := by
  unfold moveM
  split
  · simp
  · split
    · exact clear_nonneg _ _
    · split
      · simp
      · split
        · exact wr_nonneg _ _ _ _
        · exact fill_nonneg _ _ _
theorem extract_to (s : ByteArray) (a m : Nat) (h : a + m ≤ s.size) : (s.extract a s.size).extract 0 m = s.extract a (a + m) := by
  rw [ByteArray.extract_extract, Nat.add_zero]
  congr 1
  omega
theorem extract_from (s : ByteArray) (a m : Nat) (h : a + m ≤ s.size) : (s.extract a s.size).extract m (s.extract a s.size).size = s.extract (a + m) s.size := by
  rw [ByteArray.extract_extract, ByteArray.size_extract]
  congr 1
  omega
theorem overGo_succ (act : ShM → Nat → Nat → Int × ShM) {q : Nat} (F : ShM) {fr k n : Nat} (h : k < n) : overGo act (q + 1) F fr k n = if (act F k (min (n - k) (4 - (fr + k) % 4))).1 ≠ 0 then act F k (min (n - k) (4 - (fr + k) % 4)) else
      overGo act q (act F k (min (n - k) (4 - (fr + k) % 4))).2 fr (k + min (n - k) (4 - (fr + k) % 4)) n := by
  rw [overGo, if_neg (by omega)]
theorem overGo_done (act : ShM → Nat → Nat → Int × ShM) (q : Nat) (F : ShM) (fr n : Nat) : overGo act q F fr n n = (0, F) := by
  cases q with
  | zero => rfl
  | succ q => rw [overGo, if_pos (Nat.le_refl _)]
theorem clus_le {F : ShM} (hF : ShOk F) {l : List Int} (hl : ∀ x ∈ l, isFile F x) (h0 : l.length ≠ 0) : clus F (l.getD 0 0) ≤ 32 := by
  obtain ⟨k, m, hxk, hk, hFk⟩ := isFile_nat (hl (l.getD 0 0) (by simp [show 0 < l.length by omega]))
  rw [hxk, clus_of hFk]
  obtain ⟨C, hC, q1, q2, -, -, -, -, -, -⟩ := (hF.ok k m hk hFk).nat
  omega
theorem mem0 {l : List Int} (h0 : l.length ≠ 0) : l.getD 0 0 ∈ l := by simp [show 0 < l.length by omega]

set_option maxRecDepth 100000 in
set_option maxHeartbeats 8000000 in
theorem sput_any (b : Nat) (A : Nat → Nat × Nat × Nat) (F : ShM) (N : Nat) (hW : ShW N F) (hN : N + 1000 < 900000) (v : Value) (l : List Int) (hl : ∀ x ∈ l, isFile F x) (hl5 : l.length ≤ 5) (fr : Int) (hfr : i64ok fr) (s : ByteArray) (hs : s.size ≤ 3200) (R : List SL.HP) (w : World) (hv : ∀ w' L, own w' (L ++ R) → IntsAt w' v l) (H : own w (shL b A F ++ R)) :
    Calls Tryz.prog 25 #[.pointer (some ⟨b, 0, none⟩), v, .int .i64 fr, .string s] w fun e w' => e = .returned (errV (putM F l fr s).1) ∧ Ext w w' ∧ own w' (shL b A (putM F l fr s).2 ++ R) := by
  have td := tdiv16' s.size
  have tm := tmod16' s.size
  have hF : ShOk F := hW.sh (by omega)
  by_cases hm : s.size % 16 ≠ 0
  · have e1 : putM F l fr s = (1, F) := by unfold putM; rw [if_pos hm]
    rw [e1]
    have w1 : (0 : Int) < ((s.size % 16 : Nat) : Int) := by omega
    generalize s.size % 16 = sm at *
    clear hm hv hl
    go_enter Tryz.func25, Tryz.ntmps25
    go_wp2_with fail
    go_ret
    exact ⟨rfl, Ext.refl _, H⟩
  · have hm0 : s.size % 16 = 0 := Decidable.not_not.1 hm
    have hps := parts_any b A F hF v l hl hl5 fr ((s.size / 16 : Nat) : Int) hfr ⟨by omega, by omega⟩ R w hv H
    unfold PartsPost at hps
    have HPS := Lib.hid hps
    have ht0 : ((s.size : Int)).tmod 16 = 0 := by rw [tm, hm0]; rfl
    have hsz : s.size = 16 * (s.size / 16) := by omega
    have hsn : s.size / 16 ≤ 200 := by omega
    clear hps tm
    by_cases hw : withinM F l fr ((s.size / 16 : Nat) : Int) = 0
    · have eg : putM F l fr s = overGo (putA l fr.toNat s) (s.size / 16) F fr.toNat 0 (s.size / 16) := by unfold putM; rw [if_neg hm, if_neg (by rw [hw]; decide)]
      have ep : partsM F l fr ((s.size / 16 : Nat) : Int) = partsL fr.toNat (s.size / 16) := by unfold partsM; rw [if_pos hw, Int.toNat_natCast]
      rw [eg]
      rw [hw, ep, errV_0] at HPS
      obtain ⟨hp0, hp1, -, hp3⟩ := within_pos hw
      obtain ⟨fn, rfl⟩ := Int.eq_ofNat_of_zero_le hp1
      rw [Int.toNat_natCast] at HPS ⊢
      generalize s.size / 16 = nn at *
      have hcl := clus_le hF hl hp0
      have hsum : fn + nn ≤ 128 := by omega
      have HCL := Lib.hid hp3
      have hf0 := hl _ (mem0 hp0)
      have HV := Lib.hid hv
      have HSTEP := Lib.hid (fun (F' : ShM) (n : Nat) (hn : n ≤ 1000) (hs : ShStep n F F') => (show ShOk F' ∧ (∀ x ∈ l, isFile F' x) ∧ clus F' (l.getD 0 0) = clus F (l.getD 0 0) from ⟨(hW.step hs).sh (by omega), fun x hx => hs.file (hl x hx), hs.clus_eq hf0⟩))
      obtain ⟨ao, lb, off, cap, rfl, hlc, hcap, hao, -⟩ := (hv w _ H).form
      have HLAY := Lib.hid (fun (F' : ShM) (hF' : ShOk F') (hl' : ∀ x ∈ l, isFile F' x) (c fr n : Nat) (hc : (c : Int) < clus F' (l.getD 0 0)) (hfn : fr + n ≤ 4) (t : ByteArray) (ht : t.size = 16 * n) (R' : List SL.HP) (w : World) (hv' : ∀ w' L, own w' (L ++ R') → IntsAt w' (.slice ao l.length cap) l) (H : own w (shL b A F' ++ R')) => lay_any b A F' hF' (.slice ao l.length cap) l hl' hp0 hl5 c fr n hc hfn t ht R' w hv' H)
      generalize hres : overGo (putA l fn s) nn F fn 0 nn = res
      have HRES := Lib.hid hres
      have hrf : ShStep 0 F F := ShStep.refl hF 0
      have HRF := Lib.hid hrf
      have h5 : topI l < 5 := by obtain ⟨m0, hk0, -⟩ := topI_of hl hp0; exact hk0
      clear hres hv hw eg ep hp0 hp1 hp3 hcl hao hfr hF hl hm hm0 hf0 hW hrf
      go_enter Tryz.func25, Tryz.ntmps25
      go_wp2_with fail
      refine HPS.out.mono ?_
      rintro e w2 ⟨vp, rfl, hx2, h2⟩
      obtain ⟨po, pg, pcap, rfl, r1, r2, r3, -, -, -, -⟩ := own_row_form 0 h2 rfl
      clear HPS H r3 ht0 td
      generalize hq : partsL fn nn = ps at *
      have HQ := Lib.hid hq
      clear hq
      have h3 := own_behind (shL b A F) h2
      clear h2
      go_wp2_with fail
      have hT0 : s.extract (16 * 0) s.size = s := by rw [Nat.mul_zero]; exact ByteArray.extract_zero_size
      go_loopw [3, 33] (fun tv iv wr => ∃ (k : Nat) (p1 : List Part) (F' : ShM), k ≤ nn ∧ p1.length + (nn - k) ≤ nn ∧ tv = .string (s.extract (16 * k) s.size) ∧ iv = .int .i64 p1.length ∧ ps = p1 ++ partsL (fn + k) (nn - k) ∧ ShStep (5 * p1.length) F F' ∧ overGo (putA l fn s) (nn - p1.length) F' fn k nn = res ∧ Ext w wr ∧ own wr (shL b A F' ++ (row 118 3 (.slice po ps.length pcap) ps.length (partCells ps) :: R))) (fun _ iv _ => ps.length - (intOf iv).toNat)
      case atStart => exact ⟨0, [], F, by omega, by simp, by rw [hT0], rfl, HQ.out.symm, HRF.out, HRES.out, hx2, h3⟩
      case round =>
        clear h3 hx2 hT0
        obtain ⟨k, p1, F', hk, hp1, rfl, rfl, hpp, hst, hgo, hxr, hown⟩ := hrel
        by_cases hlt : k < nn
        · rw [partsL_step _ (show 0 < nn - k by omega)] at hpp
          have hlen : p1.length < ps.length := by rw [hpp]; simp
          obtain ⟨d0, d1, d2⟩ := partCells_get hlen
          have hget : ps.getD p1.length (0, 0, 0) = ((fn + k) / 4, (fn + k) % 4, min (nn - k) (4 - (fn + k) % 4)) := by rw [hpp]; simp
          rw [hget] at d0 d1 d2
          rw [show nn - p1.length = (nn - p1.length - 1) + 1 by omega, overGo_succ _ _ hlt] at hgo
          have hco := putA_code l fn s F' k (min (nn - k) (4 - (fn + k) % 4))
          obtain ⟨hok', hl', hcl'⟩ := HSTEP.out F' _ (by omega) hst
          have hpst : ShStep 5 F' (putA l fn s F' k (min (nn - k) (4 - (fn + k) % 4))).2 := putA_step hok' l h5 fn s k _
          have hst2 := hst.trans hpst
          have hm1 : 1 ≤ min (nn - k) (4 - (fn + k) % 4) := by omega
          have hm2 : min (nn - k) (4 - (fn + k) % 4) ≤ nn - k := by omega
          have hm3 : (fn + k) % 4 + min (nn - k) (4 - (fn + k) % 4) ≤ 4 := by omega
          have hqc : (((fn + k) / 4 : Nat) : Int) < clus F' (l.getD 0 0) := by rw [hcl']; have := HCL.out; omega
          have hfq : (fn + k) / 4 ≤ 32 := by omega
          have hfm : (fn + k) % 4 < 4 := by omega
          generalize min (nn - k) (4 - (fn + k) % 4) = mm at *
          have hts : (s.extract (16 * k) (16 * (k + mm))).size = 16 * mm := by rw [ByteArray.size_extract]; omega
          have hlay := HLAY.out F' hok' hl' ((fn + k) / 4) ((fn + k) % 4) mm hqc hm3 (s.extract (16 * k) (16 * (k + mm))) hts
          have hpe : layM F' l ((fn + k) / 4) ((fn + k) % 4) (s.extract (16 * k) (16 * (k + mm))) = putA l fn s F' k mm := rfl
          rw [hpe] at hlay
          clear hpe hqc hok' hl' hcl' hpst hst
          generalize putA l fn s F' k mm = r at *
          have x1 : (s.extract (16 * k) s.size).extract 0 (16 * mm) = s.extract (16 * k) (16 * (k + mm)) := by rw [extract_to _ _ _ (by omega), Nat.mul_add]
          have x2 : (s.extract (16 * k) s.size).extract (16 * mm) (s.extract (16 * k) s.size).size = s.extract (16 * (k + mm)) s.size := by rw [extract_from _ _ _ (by omega), Nat.mul_add]
          have x3 : (s.extract (16 * k) s.size).size = s.size - 16 * k := by rw [ByteArray.size_extract]; omega
          have u1 := slice_to (s.extract (16 * k) s.size) ((mm : Int) * 16) (16 * mm) (by omega) (by omega)
          have u2 := slice_from (s.extract (16 * k) s.size) ((mm : Int) * 16) (16 * mm) (by omega) (by omega)
          rw [x1] at u1
          rw [x2] at u2
          have e1 : IntKind.i64.wrap ((mm : Int) * 16) = (mm : Int) * 16 := IntWalk.i64_in _ (by omega)
          generalize (fn + k) / 4 = q at *
          generalize (fn + k) % 4 = fm at *
          generalize s.extract (16 * k) s.size = tv at *
          generalize s.extract (16 * k) (16 * (k + mm)) = tw at *
          generalize htx : s.extract (16 * (k + mm)) s.size = tx at *
          have HTX := Lib.hid htx
          obtain ⟨po', pg', pcap', hv', -, -, r3', -, -, -, -⟩ := own_row_form 6 hown rfl
          simp only [Value.slice.injEq, true_and] at hv'
          obtain ⟨rfl, rfl⟩ := hv'
          obtain rfl := r3' (by omega)
          obtain ⟨k2, -⟩ := own_row_cells 6 hown rfl
          have c0 := k2 _ _ d0
          have c1 := k2 _ _ d1
          have c2 := k2 _ _ d2
          have HPP := Lib.hid hpp
          have HST := Lib.hid hst2
          clear k2 d0 d1 d2 r3' hget hpp hst2 x1 x2 x3 htx hts
          by_cases hr0 : r.1 = 0
          · rw [if_neg (by rw [hr0]; decide)] at hgo
            rw [hr0, errV_0] at hlay
            have HL := Lib.hid hlay
            have HGO := Lib.hid hgo
            clear hlay hgo hr0 hco
            go_upto_region 9 with (fail)
            have ha := own_behind (shL b A F') (own_alloc hown (.cells #[.int .i64 (q : Int), .int .i64 (fm : Int), .int .i64 (mm : Int)] 118))
            have hxa := hxr.alloc (.cells #[.int .i64 (q : Int), .int .i64 (fm : Int), .int .i64 (mm : Int)] 118)
            clear c0 c1 c2 hown hxr
            generalize wr.heap.size = gx at *
            generalize wr.alloc (.cells #[.int .i64 (q : Int), .int .i64 (fm : Int), .int .i64 (mm : Int)] 118) = wa at *
            obtain ⟨cc, -⟩ := own_cells 6 ha rfl
            have c0 := cc 0
            have c1 := cc 1
            have c2 := cc 2
            clear cc
            go_still_tail 8, (by kernel_rfl)
            change wpList _ _ _ _ _ wa.drew
            go_wp2_with fail
            refine (HL.out _ _ (ints_more HV.out [_, _]) (own_drew ha)).mono ?_
            rintro e w5 ⟨rfl, hx5, h5'⟩
            have hx6 := hxa.drew.trans hx5
            clear ha c0 c1 c2
            have c2 := (own_cells 6 h5' rfl).1 2
            go_wp2_with fail
            go_roundw
            case rel =>
              refine ⟨k + mm, p1 ++ [(q, fm, mm)], r.2, by omega, by simp; omega, by rw [HTX.out], by simp, ?_, ?_, ?_, hx6, own_erase 6 h5' rfl⟩
              · rw [HPP.out, List.append_assoc, show fn + (k + mm) = fn + k + mm by omega, show nn - (k + mm) = nn - k - mm by omega]; rfl
              · rw [List.length_append]; exact HST.out.mono (by simp; omega)
              · rw [← HGO.out, List.length_append]; rfl
            case measure => simp [intOf]; omega
          · rw [if_pos hr0] at hgo
            subst hgo
            have hep := errV_pos (e := r.1) (by omega)
            rw [hep] at hlay
            have HEP := Lib.hid hep
            have HL := Lib.hid hlay
            clear hlay hr0 hco HRES hep
            go_upto_region 9 with (fail)
            have ha := own_behind (shL b A F') (own_alloc hown (.cells #[.int .i64 (q : Int), .int .i64 (fm : Int), .int .i64 (mm : Int)] 118))
            have hxa := hxr.alloc (.cells #[.int .i64 (q : Int), .int .i64 (fm : Int), .int .i64 (mm : Int)] 118)
            clear c0 c1 c2 hown hxr
            generalize wr.heap.size = gx at *
            generalize wr.alloc (.cells #[.int .i64 (q : Int), .int .i64 (fm : Int), .int .i64 (mm : Int)] 118) = wa at *
            obtain ⟨cc, -⟩ := own_cells 6 ha rfl
            have c0 := cc 0
            have c1 := cc 1
            have c2 := cc 2
            clear cc
            go_still_tail 8, (by kernel_rfl)
            change wpList _ _ _ _ _ wa.drew
            go_wp2_with fail
            refine (HL.out _ _ (ints_more HV.out [_, _]) (own_drew ha)).mono ?_
            rintro e w5 ⟨rfl, hx5, h5'⟩
            have hx6 := hxa.drew.trans hx5
            clear ha c0 c1 c2
            go_wp2_with fail
            go_ret
            exact ⟨by rw [HEP.out]; rfl, hx6, own_erase 6 (own_erase 6 h5' rfl) rfl⟩
        · obtain rfl : k = nn := by omega
          rw [overGo_done] at hgo
          rw [Nat.sub_self, partsL_zero, List.append_nil] at hpp
          subst hgo hpp
          go_wp2_with fail
          go_ret
          exact ⟨rfl, hxr, own_erase 6 hown rfl⟩
    · have eg : putM F l fr s = (withinM F l fr ((s.size / 16 : Nat) : Int), F) := by unfold putM; rw [if_neg hm, if_pos hw]
      have ep : partsM F l fr ((s.size / 16 : Nat) : Int) = [] := by unfold partsM; rw [if_neg hw]
      have hc := withinM_code F l fr ((s.size / 16 : Nat) : Int)
      rw [eg]
      rw [ep] at HPS
      generalize withinM F l fr ((s.size / 16 : Nat) : Int) = res at *
      generalize s.size / 16 = nn at *
      have hep := errV_pos (e := res) (by omega)
      dsimp only
      rw [hep] at HPS ⊢
      clear hw eg ep hc hfr hm hm0 hep
      go_enter Tryz.func25, Tryz.ntmps25
      go_wp2_with fail
      refine HPS.out.mono ?_
      rintro e w2 ⟨vp, rfl, hx2, h2⟩
      go_wp2_with fail
      go_ret
      exact ⟨rfl, hx2, own_drop h2⟩
end Go.Proofs.YtbpblokfiajpjabGreat

namespace Go.Proofs.YtbpblokfiajpjabGreat
open Go.RowKit Go.SL Go.Crc
attribute [local go_sem ↓] Go.wp_at_zero Go.wp_at_succ

theorem td_add (a b : Nat) : ((a : Int) + (b : Int)).tdiv 4 = (((a + b) / 4 : Nat) : Int) := by rw [← Int.natCast_add]; exact tdiv4' _
theorem tm_add (a b : Nat) : ((a : Int) + (b : Int)).tmod 4 = (((a + b) % 4 : Nat) : Int) := by rw [← Int.natCast_add]; exact tmod4' _

set_option maxRecDepth 100000 in
set_option maxHeartbeats 8000000 in
theorem rput_any (b : Nat) (A : Nat → Nat × Nat) (F : ShM) (N : Nat) (hW : ShW N F) (hN : N + 1000 < 900000) (v : Value) (l : List Int) (hl : ∀ x ∈ l, isFile F x) (hl5 : l.length ≤ 5) (fr : Int) (hfr : i64ok fr) (s : ByteArray) (hs : s.size ≤ 3200) (R : List SL.HP) (w : World) (hv : ∀ w' L, own w' (L ++ R) → IntsAt w' v l) (H : own w (rshL b A F ++ R)) :
    Calls Tryz.prog 26 #[.pointer (some ⟨b, 0, none⟩), v, .int .i64 fr, .string s, .bool false] w fun e w' => e = .returned (.int .i64 (putM F l fr s).1) ∧ Ext w w' ∧ own w' (rshL b A (putM F l fr s).2 ++ R) := by
  have td := tdiv16' s.size
  have tm := tmod16' s.size
  have hF : ShOk F := hW.sh (by omega)
  by_cases hm : s.size % 16 ≠ 0
  · have e1 : putM F l fr s = (1, F) := by unfold putM; rw [if_pos hm]
    rw [e1]
    have w1 : (0 : Int) < ((s.size % 16 : Nat) : Int) := by omega
    generalize s.size % 16 = sm at *
    clear hm hv hl
    go_enter Tryz.func26, Tryz.ntmps26
    go_wp2_with fail
    go_ret
    exact ⟨rfl, Ext.refl _, H⟩
  · have hm0 : s.size % 16 = 0 := Decidable.not_not.1 hm
    have HPS := Lib.hid (rwithin_any b A F hF v l hl hl5 fr ((s.size / 16 : Nat) : Int) hfr ⟨by omega, by omega⟩ R w (hv w _ H) H)
    have ht0 : ((s.size : Int)).tmod 16 = 0 := by rw [tm, hm0]; rfl
    have hsz : s.size = 16 * (s.size / 16) := by omega
    have hsn : s.size / 16 ≤ 200 := by omega
    clear tm
    by_cases hw : withinM F l fr ((s.size / 16 : Nat) : Int) = 0
    · have eg : putM F l fr s = overGo (putA l fr.toNat s) (s.size / 16) F fr.toNat 0 (s.size / 16) := by unfold putM; rw [if_neg hm, if_neg (by rw [hw]; decide)]
      rw [eg]
      rw [hw] at HPS
      obtain ⟨hp0, hp1, -, hp3⟩ := within_pos hw
      obtain ⟨fn, rfl⟩ := Int.eq_ofNat_of_zero_le hp1
      rw [Int.toNat_natCast]
      generalize s.size / 16 = nn at *
      have hcl := clus_le hF hl hp0
      have hsum : fn + nn ≤ 128 := by omega
      have HCL := Lib.hid hp3
      have hf0 := hl _ (mem0 hp0)
      have HV := Lib.hid hv
      have HSTEP := Lib.hid (fun (F' : ShM) (n : Nat) (hn : n ≤ 1000) (hs : ShStep n F F') => (show ShOk F' ∧ (∀ x ∈ l, isFile F' x) ∧ clus F' (l.getD 0 0) = clus F (l.getD 0 0) from ⟨(hW.step hs).sh (by omega), fun x hx => hs.file (hl x hx), hs.clus_eq hf0⟩))
      obtain ⟨ao, lb, off, cap, rfl, hlc, hcap, hao, -⟩ := (hv w _ H).form
      have HLAY := Lib.hid (fun (F' : ShM) (hF' : ShOk F') (hl' : ∀ x ∈ l, isFile F' x) (c fr n : Nat) (hc : (c : Int) < clus F' (l.getD 0 0)) (hfn : fr + n ≤ 4) (t : ByteArray) (ht : t.size = 16 * n) (R' : List SL.HP) (w : World) (hv' : ∀ w' L, own w' (L ++ R') → IntsAt w' (.slice ao l.length cap) l) (H : own w (rshL b A F' ++ R')) => rlay_any b A F' hF' (.slice ao l.length cap) l hl' hp0 hl5 c fr n hc hfn t ht R' w hv' H)
      generalize hres : overGo (putA l fn s) nn F fn 0 nn = res
      have HRES := Lib.hid hres
      have hrf : ShStep 0 F F := ShStep.refl hF 0
      have HRF := Lib.hid hrf
      have h5 : topI l < 5 := by obtain ⟨m0, hk0, -⟩ := topI_of hl hp0; exact hk0
      clear hres hv hw eg hp0 hp1 hp3 hcl hao hfr hF hl hm hm0 hf0 hW hrf
      go_enter Tryz.func26, Tryz.ntmps26
      go_wp2_with fail
      refine HPS.out.mono ?_
      rintro e w2 ⟨rfl, n2, rfl⟩
      have h2 := own_drewN n2 H
      have hx2 := (Ext.refl w).drewN n2
      clear HPS H ht0 td
      generalize w.drewN n2 = w2 at *
      go_wp2_with fail
      go_loopw [13] (fun kv wr => ∃ (k p : Nat) (F' : ShM), k ≤ nn ∧ p ≤ k ∧ kv = .int .i64 k ∧ ShStep (5 * p) F F' ∧ overGo (putA l fn s) (nn - p) F' fn k nn = res ∧ Ext w wr ∧ own wr (rshL b A F' ++ R)) (fun kv _ => nn - (intOf kv).toNat)
      case atStart => exact ⟨0, 0, F, by omega, by omega, rfl, HRF.out, HRES.out, hx2, h2⟩
      case round =>
        clear h2 hx2
        obtain ⟨k, p, F', hk, hp, rfl, hst, hgo, hxr, hown⟩ := hrel
        by_cases hlt : k < nn
        · rw [show nn - p = (nn - p - 1) + 1 by omega, overGo_succ _ _ hlt] at hgo
          have hco := putA_code l fn s F' k (min (nn - k) (4 - (fn + k) % 4))
          obtain ⟨hok', hl', hcl'⟩ := HSTEP.out F' _ (by omega) hst
          have hst2 := hst.trans (putA_step hok' l h5 fn s k (min (nn - k) (4 - (fn + k) % 4)))
          have hm1 : 1 ≤ min (nn - k) (4 - (fn + k) % 4) := by omega
          have hm2 : min (nn - k) (4 - (fn + k) % 4) ≤ nn - k := by omega
          have hm3 : (fn + k) % 4 + min (nn - k) (4 - (fn + k) % 4) ≤ 4 := by omega
          have hqc : (((fn + k) / 4 : Nat) : Int) < clus F' (l.getD 0 0) := by rw [hcl']; have := HCL.out; omega
          have hfq : (fn + k) / 4 ≤ 32 := by omega
          have hfm : (fn + k) % 4 < 4 := by omega
          have tq := td_add fn k
          have tr := tm_add fn k
          have e0 : IntKind.i64.wrap ((fn : Int) + (k : Int)) = (fn : Int) + (k : Int) := IntWalk.i64_in _ (by omega)
          have tmin : min (4 - (((fn + k) % 4 : Nat) : Int)) ((nn : Int) - (k : Int)) = ((min (nn - k) (4 - (fn + k) % 4) : Nat) : Int) := by omega
          generalize min (nn - k) (4 - (fn + k) % 4) = mm at *
          have hts : (s.extract (16 * k) (16 * (k + mm))).size = 16 * mm := by rw [ByteArray.size_extract]; omega
          have hlay := HLAY.out F' hok' hl' ((fn + k) / 4) ((fn + k) % 4) mm hqc hm3 (s.extract (16 * k) (16 * (k + mm))) hts
          have hpe : layM F' l ((fn + k) / 4) ((fn + k) % 4) (s.extract (16 * k) (16 * (k + mm))) = putA l fn s F' k mm := rfl
          rw [hpe] at hlay
          clear hpe hqc hok' hl' hcl' hst
          generalize putA l fn s F' k mm = r at *
          generalize (fn + k) / 4 = q at *
          generalize (fn + k) % 4 = fm at *
          have e1 : IntKind.i64.wrap (4 - (fm : Int)) = 4 - (fm : Int) := IntWalk.i64_in _ (by omega)
          have e2 : IntKind.i64.wrap ((nn : Int) - (k : Int)) = (nn : Int) - (k : Int) := IntWalk.i64_in _ (by omega)
          have e3 : IntKind.i64.wrap (16 * (k : Int)) = 16 * (k : Int) := IntWalk.i64_in _ (by omega)
          have e4 : IntKind.i64.wrap ((k : Int) + (mm : Int)) = (k : Int) + (mm : Int) := IntWalk.i64_in _ (by omega)
          have e5 : IntKind.i64.wrap (16 * ((k : Int) + (mm : Int))) = 16 * ((k : Int) + (mm : Int)) := IntWalk.i64_in _ (by omega)
          have b1 : (0 : Int) ≤ 16 * (k : Int) := by omega
          have b2 : 16 * (k : Int) ≤ 16 * ((k : Int) + (mm : Int)) := by omega
          have b3 : 16 * ((k : Int) + (mm : Int)) ≤ (s.size : Int) := by omega
          have hsl : ∀ wx : World, (Instr.slice 9 (.string s) (some (.int .i64 (16 * (k : Int)))) (some (.int .i64 (16 * ((k : Int) + (mm : Int))))) none).run Tryz.prog wx = .ok (.string (s.extract (16 * k) (16 * (k + mm)))) wx := fun wx => by
            have := run_slice_string (P := Tryz.prog) wx 9 s .i64 .i64 (16 * (k : Int)) (16 * ((k : Int) + (mm : Int))) Tryz.underlying9 b1 b2 b3
            rw [this, show (16 * (k : Int)).toNat = 16 * k from by omega, show (16 * ((k : Int) + (mm : Int))).toNat = 16 * (k + mm) from by omega]
          generalize s.extract (16 * k) (16 * (k + mm)) = tw at *
          have HST := Lib.hid hst2
          clear hst2
          by_cases hr0 : r.1 = 0
          · rw [if_neg (by rw [hr0]; decide)] at hgo
            rw [hr0] at hlay
            have HL := Lib.hid hlay
            have HGO := Lib.hid hgo
            clear hlay hgo hr0 hco
            go_wp2_with fail
            refine (HL.out _ _ HV.out hown).mono ?_
            rintro e w5 ⟨rfl, hx5, h5'⟩
            go_wp2_with fail
            go_roundw
            case rel => exact ⟨k + mm, p + 1, r.2, by omega, by omega, by simp, HST.out.mono (by omega), by rw [← HGO.out]; rfl, hxr.trans hx5, h5'⟩
            case measure => simp [intOf]; omega
          · rw [if_pos hr0] at hgo
            subst hgo
            have w9 : 0 < r.1 := by omega
            have HL := Lib.hid hlay
            clear hlay hr0 hco HRES
            go_wp2_with fail
            refine (HL.out _ _ HV.out hown).mono ?_
            rintro e w5 ⟨rfl, hx5, h5'⟩
            go_wp2_with fail
            go_ret
            exact ⟨rfl, hxr.trans hx5, h5'⟩
        · obtain rfl : k = nn := by omega
          rw [overGo_done] at hgo
          subst hgo
          go_wp2_with fail
          go_ret
          exact ⟨rfl, hxr, hown⟩
    · have eg : putM F l fr s = (withinM F l fr ((s.size / 16 : Nat) : Int), F) := by unfold putM; rw [if_neg hm, if_pos hw]
      have hc := withinM_code F l fr ((s.size / 16 : Nat) : Int)
      rw [eg]
      generalize withinM F l fr ((s.size / 16 : Nat) : Int) = res at *
      generalize s.size / 16 = nn at *
      have w9 : 0 < res := by omega
      clear hw eg hc hfr hm hm0
      go_enter Tryz.func26, Tryz.ntmps26
      go_wp2_with fail
      refine HPS.out.mono ?_
      rintro e w2 ⟨rfl, n2, rfl⟩
      go_wp2_with fail
      go_ret
      exact ⟨rfl, (Ext.refl w).drewN n2, own_drewN n2 H⟩
end Go.Proofs.YtbpblokfiajpjabGreat

namespace Go.Proofs.YtbpblokfiajpjabGreat
open Go.RowKit Go.SL Go.Crc
attribute [local go_sem ↓] Go.wp_at_zero Go.wp_at_succ

theorem zs_extract {n m : Nat} (h : m ≤ n) : (zs n).extract 0 m = zs m := by
  apply Go.WideShapes.bytes_inj
  rw [ext_list]
  simp [zs, h]
theorem clearM_eq {F : ShM} {l : List Int} {m : ImgM} (h : F (topI l) = some m) (c : Nat) : clearM F l c = ((m.clear c).1, put F (topI l) (m.clear c).2) := by unfold clearM; rw [h]
theorem kindF_eq {F : ShM} {l : List Int} {m : ImgM} (h : F (topI l) = some m) (c : Nat) : kindF F l c = m.kind (c : Int) := by unfold kindF; rw [h]

set_option maxRecDepth 100000 in
set_option maxHeartbeats 16000000 in
theorem swipe_any (b : Nat) (A : Nat → Nat × Nat × Nat) (F : ShM) (N : Nat) (hW : ShW N F) (hN : N + 1000 < 900000) (v : Value) (l : List Int) (hl : ∀ x ∈ l, isFile F x) (hl5 : l.length ≤ 5) (fr n : Int) (hfr : i64ok fr) (hn : i64ok n) (R : List SL.HP) (w : World) (hv : ∀ w' L, own w' (L ++ R) → IntsAt w' v l) (H : own w (shL b A F ++ R)) :
    Calls Tryz.prog 27 #[.pointer (some ⟨b, 0, none⟩), v, .int .i64 fr, .int .i64 n] w fun e w' => e = .returned (errV (wipeM F l fr n).1) ∧ Ext w w' ∧ own w' (shL b A (wipeM F l fr n).2 ++ R) := by
  have hF : ShOk F := hW.sh (by omega)
  have hps := parts_any b A F hF v l hl hl5 fr n hfr hn R w hv H
  unfold PartsPost at hps
  have HPS := Lib.hid hps
  clear hps
  by_cases hw : withinM F l fr n = 0
  · have eg : wipeM F l fr n = overGo (wipeA l fr.toNat) n.toNat F fr.toNat 0 n.toNat := by unfold wipeM; rw [if_neg (by rw [hw]; decide)]
    have ep : partsM F l fr n = partsL fr.toNat n.toNat := by unfold partsM; rw [if_pos hw]
    rw [eg]
    rw [hw, ep, errV_0] at HPS
    obtain ⟨hp0, hp1, hp2, hp3⟩ := within_pos hw
    obtain ⟨fn, rfl⟩ := Int.eq_ofNat_of_zero_le hp1
    obtain ⟨nn, rfl⟩ := Int.eq_ofNat_of_zero_le hp2
    rw [Int.toNat_natCast, Int.toNat_natCast] at HPS ⊢
    have hcl := clus_le hF hl hp0
    have hsum : fn + nn ≤ 128 := by omega
    have HCL := Lib.hid hp3
    have hf0 := hl _ (mem0 hp0)
    have HP0 := Lib.hid hp0
    have HV := Lib.hid hv
    have HSTEP := Lib.hid (fun (F' : ShM) (n : Nat) (hn : n ≤ 1000) (hs : ShStep n F F') => (show ShOk F' ∧ (∀ x ∈ l, isFile F' x) ∧ clus F' (l.getD 0 0) = clus F (l.getD 0 0) from ⟨(hW.step hs).sh (by omega), fun x hx => hs.file (hl x hx), hs.clus_eq hf0⟩))
    obtain ⟨ao, lb, off, cap, rfl, hlc, hcap, hao, -⟩ := (hv w _ H).form
    obtain rfl := hao (by omega)
    have hpos : 0 < l.length := by omega
    have j2 : (0 : Int) < (l.length : Int) := by omega
    have HLAY := Lib.hid (fun (F' : ShM) (hF' : ShOk F') (hl' : ∀ x ∈ l, isFile F' x) (c fr n : Nat) (hc : (c : Int) < clus F' (l.getD 0 0)) (hfn : fr + n ≤ 4) (t : ByteArray) (ht : t.size = 16 * n) (R' : List SL.HP) (w : World) (hv' : ∀ w' L, own w' (L ++ R') → IntsAt w' (.slice (some ⟨lb, off, none⟩) l.length cap) l) (H : own w (shL b A F' ++ R')) => lay_any b A F' hF' (.slice (some ⟨lb, off, none⟩) l.length cap) l hl' hp0 hl5 c fr n hc hfn t ht R' w hv' H)
    generalize hres : overGo (wipeA l fn) nn F fn 0 nn = res
    have HRES := Lib.hid hres
    have hrf : ShStep 0 F F := ShStep.refl hF 0
    have HRF := Lib.hid hrf
    obtain ⟨m00, h5, -, hx0⟩ := topI_of hl hp0
    have HX0 := Lib.hid hx0
    clear hres hv hw eg ep hp0 hp1 hp3 hcl hao hfr hF hl hf0 hW hrf hn hx0
    go_enter Tryz.func27, Tryz.ntmps27
    go_wp2_with fail
    refine HPS.out.mono ?_
    rintro e w2 ⟨vp, rfl, hx2, h2⟩
    obtain ⟨po, pg, pcap, rfl, r1, r2, r3, -, -, -, -⟩ := own_row_form 0 h2 rfl
    clear HPS H r3
    generalize hq : partsL fn nn = ps at *
    have HQ := Lib.hid hq
    clear hq
    have h3 := own_behind (shL b A F) h2
    clear h2
    go_wp2_with fail
    go_loopw [28] (fun iv wr => ∃ (k : Nat) (p1 : List Part) (F' : ShM), k ≤ nn ∧ p1.length + (nn - k) ≤ nn ∧ iv = .int .i64 p1.length ∧ ps = p1 ++ partsL (fn + k) (nn - k) ∧ ShStep (5 * p1.length) F F' ∧ overGo (wipeA l fn) (nn - p1.length) F' fn k nn = res ∧ Ext w wr ∧ own wr (shL b A F' ++ (row 118 3 (.slice po ps.length pcap) ps.length (partCells ps) :: R))) (fun iv _ => ps.length - (intOf iv).toNat)
    case atStart => exact ⟨0, [], F, by omega, by simp, rfl, HQ.out.symm, HRF.out, HRES.out, hx2, h3⟩
    case round =>
      clear h3 hx2
      obtain ⟨k, p1, F', hk, hp1, rfl, hpp, hst, hgo, hxr, hown⟩ := hrel
      by_cases hlt : k < nn
      · rw [partsL_step _ (show 0 < nn - k by omega)] at hpp
        have hlen : p1.length < ps.length := by rw [hpp]; simp
        obtain ⟨d0, d1, d2⟩ := partCells_get hlen
        have hget : ps.getD p1.length (0, 0, 0) = ((fn + k) / 4, (fn + k) % 4, min (nn - k) (4 - (fn + k) % 4)) := by rw [hpp]; simp
        rw [hget] at d0 d1 d2
        rw [show nn - p1.length = (nn - p1.length - 1) + 1 by omega, overGo_succ _ _ hlt] at hgo
        have hco := wipeA_code l fn F' k (min (nn - k) (4 - (fn + k) % 4))
        obtain ⟨hok', hl', hcl'⟩ := HSTEP.out F' _ (by omega) hst
        have hst2 := hst.trans (wipeA_step hok' l h5 fn k (min (nn - k) (4 - (fn + k) % 4)))
        have hm1 : 1 ≤ min (nn - k) (4 - (fn + k) % 4) := by omega
        have hm2 : min (nn - k) (4 - (fn + k) % 4) ≤ nn - k := by omega
        have hm3 : (fn + k) % 4 + min (nn - k) (4 - (fn + k) % 4) ≤ 4 := by omega
        have hqc : (((fn + k) / 4 : Nat) : Int) < clus F' (l.getD 0 0) := by rw [hcl']; have := HCL.out; omega
        have hfq : (fn + k) / 4 ≤ 32 := by omega
        have hfm : (fn + k) % 4 < 4 := by omega
        have hwa : wipeA l fn F' k (min (nn - k) (4 - (fn + k) % 4)) = if min (nn - k) (4 - (fn + k) % 4) = 4 then clearM F' l ((fn + k) / 4) else if kindF F' l ((fn + k) / 4) ≠ 1 then layM F' l ((fn + k) / 4) ((fn + k) % 4) (zs (16 * min (nn - k) (4 - (fn + k) % 4))) else (0, F') := rfl
        generalize min (nn - k) (4 - (fn + k) % 4) = mm at *
        have hlay := HLAY.out F' hok' hl' ((fn + k) / 4) ((fn + k) % 4) mm hqc hm3 (zs (16 * mm)) (zs_size _)
        generalize wipeA l fn F' k mm = r at *
        obtain ⟨m, hk5, hFk, hx⟩ := topI_of hl' HP0.out
        have htc := there_of hl' HP0.out (Int.natCast_nonneg ((fn + k) / 4)) hqc
        rw [hx, thereC_of hFk] at htc
        rw [clearM_eq hFk, kindF_eq hFk] at hwa
        generalize (fn + k) / 4 = q at *
        generalize (fn + k) % 4 = fm at *
        generalize topI l = t0 at *
        have HKI := Lib.hid (fun (R : List SL.HP) (w : World) (H : own w (shL b A F' ++ R)) => skind_any hk5 hFk (hok'.ok t0 m hk5 hFk) (q : Int) htc R w H)
        have hclr := fun (R : List SL.HP) (w : World) (H : own w (shL b A F' ++ R)) => sclear_any hk5 hFk hok' (q : Int) R w H
        have i1 : (0 : Int) ≤ (t0 : Int) := by omega
        have i2 : (t0 : Int) < 5 := by omega
        have u1 := slice_to (zs 64) ((mm : Int) * 16) (16 * mm) (by omega) (by rw [zs_size]; omega)
        rw [zs_extract (by omega)] at u1
        have U1 := Lib.hid u1
        have e1 : IntKind.i64.wrap ((mm : Int) * 16) = (mm : Int) * 16 := IntWalk.i64_in _ (by omega)
        obtain ⟨po', pg', pcap', hv', -, -, r3', -, -, -, -⟩ := own_row_form 6 hown rfl
        simp only [Value.slice.injEq, true_and] at hv'
        obtain ⟨rfl, rfl⟩ := hv'
        obtain rfl := r3' (by omega)
        obtain ⟨k2, -⟩ := own_row_cells 6 hown rfl
        have c0 := k2 _ _ d0
        have c1 := k2 _ _ d1
        have c2 := k2 _ _ d2
        have HPP := Lib.hid hpp
        have HST := Lib.hid hst2
        have HFK := Lib.hid hFk
        have HWA := Lib.hid hwa
        have HGO := Lib.hid hgo
        have HLAY2 := Lib.hid hlay
        have HCLR := Lib.hid hclr
        clear k2 d0 d1 d2 r3' hget hpp hst2 hst u1 hclr hlay hwa hFk hgo htc hqc hcl' hl' hok' hx
        go_upto_region 7 with (fail)
        have ha := own_behind (shL b A F') (own_alloc hown (.cells #[.int .i64 (q : Int), .int .i64 (fm : Int), .int .i64 (mm : Int)] 118))
        have hxa := hxr.alloc (.cells #[.int .i64 (q : Int), .int .i64 (fm : Int), .int .i64 (mm : Int)] 118)
        clear c0 c1 c2 hown hxr
        generalize wr.heap.size = gx at *
        generalize wr.alloc (.cells #[.int .i64 (q : Int), .int .i64 (fm : Int), .int .i64 (mm : Int)] 118) = wa at *
        obtain ⟨cc, -⟩ := own_cells 6 ha rfl
        have c0 := cc 0
        have g1 : wa.cell? ⟨lb, off, none⟩ = some (.int .i64 (l.getD 0 0)) := ints_cell (ints_more HV.out [_, _] _ (shL b A F') ha) hpos
        rw [HX0.out] at g1
        have g2 := sh_cell ha hk5
        rw [slotV_some HFK.out] at g2
        have HOW := Lib.hid ha
        clear cc
        go_quiet ((go_at_call 37; exact Calls.quiet_of_same ((HKI.out _ _ (by first | exact HOW.out | exact own_drew HOW.out | exact own_drewN _ HOW.out)).mono fun e w' h => ⟨h.1, h.2.symm⟩)))
        have hb := own_drewN nq ha
        have hxb := hxa.drewN nq
        clear ha hxa c0 g1 g2 HOW
        generalize wa.drewN nq = wb at *
        obtain ⟨cc, -⟩ := own_cells 6 hb rfl
        have c0 := cc 0
        have c1 := cc 1
        have c2 := cc 2
        clear cc
        by_cases h4 : mm = 4
        · subst h4
          have t4 : (((4 : Nat) : Int) == 4) = true := rfl
          have hr : r = ((m.clear (q : Int)).1, put F' t0 (m.clear (q : Int)).2) := by rw [HWA.out, if_pos rfl]
          have hra : (m.clear (q : Int)).1 = r.1 := by rw [hr]
          have hrb : put F' t0 (m.clear (q : Int)).2 = r.2 := by rw [hr]
          rw [hra, hrb] at HCLR
          clear hr hra hrb HWA
          by_cases hr0 : r.1 = 0
          · have hg := HGO.out
            rw [if_neg (by rw [hr0]; decide)] at hg
            have hl3 := HCLR.out
            rw [hr0, errV_0] at hl3
            have HL := Lib.hid hl3
            have HG := Lib.hid hg
            clear hl3 hg hr0 hco
            go_upto_region 10 with (fail)
            have g1 : wb.cell? ⟨lb, off, none⟩ = some (.int .i64 (l.getD 0 0)) := ints_cell (ints_more HV.out [_, _] _ (shL b A F') hb) hpos
            rw [HX0.out] at g1
            have g2 := sh_cell hb hk5
            rw [slotV_some HFK.out] at g2
            go_still_tail 9, (by kernel_rfl)
            change wpList _ _ _ _ _ wb.drew
            go_wp2_with fail
            refine (HL.out _ _ (own_drew hb)).mono ?_
            rintro e w5 ⟨rfl, hx5, h5'⟩
            have hx6 := hxb.drew.trans hx5
            go_wp2_with fail
            go_roundw
            case rel =>
              refine ⟨k + 4, p1 ++ [(q, fm, 4)], _, by omega, by simp; omega, by simp, ?_, ?_, ?_, hx6, own_erase 6 h5' rfl⟩
              · rw [HPP.out, List.append_assoc, show fn + (k + 4) = fn + k + 4 by omega, show nn - (k + 4) = nn - k - 4 by omega]; rfl
              · rw [List.length_append]; exact HST.out.mono (by simp; omega)
              · rw [← HG.out, List.length_append]; rfl
            case measure => simp [intOf]; omega
          · have hg := HGO.out
            rw [if_pos hr0] at hg
            subst hg
            have hep := errV_pos (e := r.1) (by omega)
            have hl3 := HCLR.out
            rw [hep] at hl3
            have HEP := Lib.hid hep
            have HL := Lib.hid hl3
            clear hl3 hep HRES hr0 hco
            go_upto_region 10 with (fail)
            have g1 : wb.cell? ⟨lb, off, none⟩ = some (.int .i64 (l.getD 0 0)) := ints_cell (ints_more HV.out [_, _] _ (shL b A F') hb) hpos
            rw [HX0.out] at g1
            have g2 := sh_cell hb hk5
            rw [slotV_some HFK.out] at g2
            go_still_tail 9, (by kernel_rfl)
            change wpList _ _ _ _ _ wb.drew
            go_wp2_with fail
            refine (HL.out _ _ (own_drew hb)).mono ?_
            rintro e w5 ⟨rfl, hx5, h5'⟩
            have hx6 := hxb.drew.trans hx5
            go_wp2_with fail
            go_ret
            exact ⟨by rw [HEP.out]; rfl, hx6, own_erase 6 (own_erase 6 h5' rfl) rfl⟩
        · have t4 : ((mm : Int) == 4) = false := by rw [beq_eq_false_iff_ne]; omega
          by_cases hk1 : m.kind (q : Int) = 1
          · have hr : r = (0, F') := by rw [HWA.out, if_neg h4, if_neg (by simpa using hk1)]
            subst hr
            have t1 : (m.kind (q : Int) != 1) = false := by simp [hk1]
            have hg := HGO.out
            rw [if_neg (by simp)] at hg
            have HG := Lib.hid hg
            clear h4 hk1 hg hco
            go_wp2_with fail
            go_roundw
            case rel =>
              refine ⟨k + mm, p1 ++ [(q, fm, mm)], _, by omega, by simp; omega, by simp, ?_, ?_, ?_, hxb, own_erase 6 hb rfl⟩
              · rw [HPP.out, List.append_assoc, show fn + (k + mm) = fn + k + mm by omega, show nn - (k + mm) = nn - k - mm by omega]; rfl
              · rw [List.length_append]; exact HST.out.mono (by simp; omega)
              · rw [← HG.out, List.length_append]; rfl
            case measure => simp [intOf]; omega
          · have hr : r = layM F' l q fm (zs (16 * mm)) := by rw [HWA.out, if_neg h4, if_pos hk1]
            rw [← hr] at HLAY2
            have t1 : (m.kind (q : Int) != 1) = true := by simp [hk1]
            clear hr HWA
            by_cases hr0 : r.1 = 0
            · have hg := HGO.out
              rw [if_neg (by rw [hr0]; decide)] at hg
              have hl3 := HLAY2.out
              rw [hr0, errV_0] at hl3
              have HL := Lib.hid hl3
              have HG := Lib.hid hg
              clear hl3 hg hr0 hco h4 hk1
              go_upto_region 12 with (fail)
              have u1 := U1.out
              rw [zs64_lit] at u1
              go_still_tail 7, (by kernel_rfl)
              change wpList _ _ _ _ _ wb.drew
              go_wp2_with fail
              refine (HL.out _ _ (ints_more HV.out [_, _]) (own_drew hb)).mono ?_
              rintro e w5 ⟨rfl, hx5, h5'⟩
              have hx6 := hxb.drew.trans hx5
              go_wp2_with fail
              go_roundw
              case rel =>
                refine ⟨k + mm, p1 ++ [(q, fm, mm)], _, by omega, by simp; omega, by simp, ?_, ?_, ?_, hx6, own_erase 6 h5' rfl⟩
                · rw [HPP.out, List.append_assoc, show fn + (k + mm) = fn + k + mm by omega, show nn - (k + mm) = nn - k - mm by omega]; rfl
                · rw [List.length_append]; exact HST.out.mono (by simp; omega)
                · rw [← HG.out, List.length_append]; rfl
              case measure => simp [intOf]; omega
            · have hg := HGO.out
              rw [if_pos hr0] at hg
              subst hg
              have hep := errV_pos (e := r.1) (by omega)
              have hl3 := HLAY2.out
              rw [hep] at hl3
              have HEP := Lib.hid hep
              have HL := Lib.hid hl3
              clear hl3 hep HRES hr0 hco h4 hk1
              go_upto_region 12 with (fail)
              have u1 := U1.out
              rw [zs64_lit] at u1
              go_still_tail 7, (by kernel_rfl)
              change wpList _ _ _ _ _ wb.drew
              go_wp2_with fail
              refine (HL.out _ _ (ints_more HV.out [_, _]) (own_drew hb)).mono ?_
              rintro e w5 ⟨rfl, hx5, h5'⟩
              have hx6 := hxb.drew.trans hx5
              go_wp2_with fail
              go_ret
              exact ⟨by rw [HEP.out]; rfl, hx6, own_erase 6 (own_erase 6 h5' rfl) rfl⟩
      · obtain rfl : k = nn := by omega
        rw [overGo_done] at hgo
        rw [Nat.sub_self, partsL_zero, List.append_nil] at hpp
        subst hgo hpp
        go_wp2_with fail
        go_ret
        exact ⟨rfl, hxr, own_erase 6 hown rfl⟩
  · have eg : wipeM F l fr n = (withinM F l fr n, F) := by unfold wipeM; rw [if_pos hw]
    have ep : partsM F l fr n = [] := by unfold partsM; rw [if_neg hw]
    have hc := withinM_code F l fr n
    rw [eg]
    rw [ep] at HPS
    generalize withinM F l fr n = res at *
    have hep := errV_pos (e := res) (by omega)
    dsimp only
    rw [hep] at HPS ⊢
    clear hw eg ep hc hfr hn hep
    go_enter Tryz.func27, Tryz.ntmps27
    go_wp2_with fail
    refine HPS.out.mono ?_
    rintro e w2 ⟨vp, rfl, hx2, h2⟩
    go_wp2_with fail
    go_ret
    exact ⟨rfl, hx2, own_drop h2⟩
end Go.Proofs.YtbpblokfiajpjabGreat

namespace Go.Proofs.YtbpblokfiajpjabGreat
open Go.RowKit Go.SL Go.Crc
attribute [local go_sem ↓] Go.wp_at_zero Go.wp_at_succ

set_option maxRecDepth 100000 in
set_option maxHeartbeats 16000000 in
theorem rwipe_any (b : Nat) (A : Nat → Nat × Nat) (F : ShM) (N : Nat) (hW : ShW N F) (hN : N + 1000 < 900000) (v : Value) (l : List Int) (hl : ∀ x ∈ l, isFile F x) (hl5 : l.length ≤ 5) (fr : Int) (hfr : i64ok fr) (nn : Nat) (hnn : nn ≤ 200) (s : ByteArray) (hsz : s.size = 16 * nn) (R : List SL.HP) (w : World) (hv : ∀ w' L, own w' (L ++ R) → IntsAt w' v l) (H : own w (rshL b A F ++ R)) :
    Calls Tryz.prog 26 #[.pointer (some ⟨b, 0, none⟩), v, .int .i64 fr, .string s, .bool true] w fun e w' => e = .returned (.int .i64 (wipeM F l fr nn).1) ∧ Ext w w' ∧ own w' (rshL b A (wipeM F l fr nn).2 ++ R) := by
  have td := tdiv16' s.size
  have tm := tmod16' s.size
  have hF : ShOk F := hW.sh (by omega)
  have HPS := Lib.hid (rwithin_any b A F hF v l hl hl5 fr (nn : Int) hfr ⟨by omega, by omega⟩ R w (hv w _ H) H)
  rw [show s.size % 16 = 0 by omega] at tm
  rw [show s.size / 16 = nn by omega] at td
  have ht0 : ((s.size : Int)).tmod 16 = 0 := tm
  clear tm
  by_cases hw : withinM F l fr (nn : Int) = 0
  · have eg : wipeM F l fr nn = overGo (wipeA l fr.toNat) nn F fr.toNat 0 nn := by unfold wipeM; rw [if_neg (by rw [hw]; decide), Int.toNat_natCast]
    rw [eg]
    rw [hw] at HPS
    obtain ⟨hp0, hp1, -, hp3⟩ := within_pos hw
    obtain ⟨fn, rfl⟩ := Int.eq_ofNat_of_zero_le hp1
    rw [Int.toNat_natCast]
    have hcl := clus_le hF hl hp0
    have hsum : fn + nn ≤ 128 := by omega
    have HCL := Lib.hid hp3
    have hf0 := hl _ (mem0 hp0)
    have HP0 := Lib.hid hp0
    have HV := Lib.hid hv
    have HSTEP := Lib.hid (fun (F' : ShM) (n : Nat) (hn : n ≤ 1000) (hs : ShStep n F F') => (show ShOk F' ∧ (∀ x ∈ l, isFile F' x) ∧ clus F' (l.getD 0 0) = clus F (l.getD 0 0) from ⟨(hW.step hs).sh (by omega), fun x hx => hs.file (hl x hx), hs.clus_eq hf0⟩))
    obtain ⟨ao, lb, off, cap, rfl, hlc, hcap, hao, -⟩ := (hv w _ H).form
    obtain rfl := hao (by omega)
    have hpos : 0 < l.length := by omega
    have j2 : (0 : Int) < (l.length : Int) := by omega
    have HLAY := Lib.hid (fun (F' : ShM) (hF' : ShOk F') (hl' : ∀ x ∈ l, isFile F' x) (c fr n : Nat) (hc : (c : Int) < clus F' (l.getD 0 0)) (hfn : fr + n ≤ 4) (t : ByteArray) (ht : t.size = 16 * n) (R' : List SL.HP) (w : World) (hv' : ∀ w' L, own w' (L ++ R') → IntsAt w' (.slice (some ⟨lb, off, none⟩) l.length cap) l) (H : own w (rshL b A F' ++ R')) => rlay_any b A F' hF' (.slice (some ⟨lb, off, none⟩) l.length cap) l hl' hp0 hl5 c fr n hc hfn t ht R' w hv' H)
    generalize hres : overGo (wipeA l fn) nn F fn 0 nn = res
    have HRES := Lib.hid hres
    have hrf : ShStep 0 F F := ShStep.refl hF 0
    have HRF := Lib.hid hrf
    obtain ⟨m00, h5, -, hx0⟩ := topI_of hl hp0
    have HX0 := Lib.hid hx0
    clear hres hv hw eg hp0 hp1 hp3 hcl hao hfr hF hl hf0 hW hrf hx0
    go_enter Tryz.func26, Tryz.ntmps26
    go_wp2_with fail
    refine HPS.out.mono ?_
    rintro e w2 ⟨rfl, n2, rfl⟩
    have h2 := own_drewN n2 H
    have hx2 := (Ext.refl w).drewN n2
    clear HPS H ht0 td
    generalize w.drewN n2 = w2 at *
    go_wp2_with fail
    go_loopw [13] (fun kv wr => ∃ (k p : Nat) (F' : ShM), k ≤ nn ∧ p ≤ k ∧ kv = .int .i64 k ∧ ShStep (5 * p) F F' ∧ overGo (wipeA l fn) (nn - p) F' fn k nn = res ∧ Ext w wr ∧ own wr (rshL b A F' ++ R)) (fun kv _ => nn - (intOf kv).toNat)
    case atStart => exact ⟨0, 0, F, by omega, by omega, rfl, HRF.out, HRES.out, hx2, h2⟩
    case round =>
      clear h2 hx2
      obtain ⟨k, p, F', hk, hp, rfl, hst, hgo, hxr, hown⟩ := hrel
      by_cases hlt : k < nn
      · rw [show nn - p = (nn - p - 1) + 1 by omega, overGo_succ _ _ hlt] at hgo
        have hco := wipeA_code l fn F' k (min (nn - k) (4 - (fn + k) % 4))
        obtain ⟨hok', hl', hcl'⟩ := HSTEP.out F' _ (by omega) hst
        have hst2 := hst.trans (wipeA_step hok' l h5 fn k (min (nn - k) (4 - (fn + k) % 4)))
        have hm1 : 1 ≤ min (nn - k) (4 - (fn + k) % 4) := by omega
        have hm2 : min (nn - k) (4 - (fn + k) % 4) ≤ nn - k := by omega
        have hm3 : (fn + k) % 4 + min (nn - k) (4 - (fn + k) % 4) ≤ 4 := by omega
        have hqc : (((fn + k) / 4 : Nat) : Int) < clus F' (l.getD 0 0) := by rw [hcl']; have := HCL.out; omega
        have hfq : (fn + k) / 4 ≤ 32 := by omega
        have hfm : (fn + k) % 4 < 4 := by omega
        have tq := td_add fn k
        have tr := tm_add fn k
        have e0 : IntKind.i64.wrap ((fn : Int) + (k : Int)) = (fn : Int) + (k : Int) := IntWalk.i64_in _ (by omega)
        have tmin : min (4 - (((fn + k) % 4 : Nat) : Int)) ((nn : Int) - (k : Int)) = ((min (nn - k) (4 - (fn + k) % 4) : Nat) : Int) := by omega
        have hwa : wipeA l fn F' k (min (nn - k) (4 - (fn + k) % 4)) = if min (nn - k) (4 - (fn + k) % 4) = 4 then clearM F' l ((fn + k) / 4) else if kindF F' l ((fn + k) / 4) ≠ 1 then layM F' l ((fn + k) / 4) ((fn + k) % 4) (zs (16 * min (nn - k) (4 - (fn + k) % 4))) else (0, F') := rfl
        generalize min (nn - k) (4 - (fn + k) % 4) = mm at *
        have hlay := HLAY.out F' hok' hl' ((fn + k) / 4) ((fn + k) % 4) mm hqc hm3 (zs (16 * mm)) (zs_size _)
        generalize wipeA l fn F' k mm = r at *
        obtain ⟨m, hk5, hFk, hx⟩ := topI_of hl' HP0.out
        have htc := there_of hl' HP0.out (Int.natCast_nonneg ((fn + k) / 4)) hqc
        rw [hx, thereC_of hFk] at htc
        obtain ⟨-, -, hkl⟩ := there_range (hok'.ok (topI l) m hk5 hFk) htc
        rw [Int.toNat_natCast] at hkl
        rw [clearM_eq hFk, kindF_eq hFk] at hwa
        generalize (fn + k) / 4 = q at *
        generalize (fn + k) % 4 = fm at *
        generalize topI l = t0 at *
        have hclr := fun (R : List SL.HP) (w : World) (H : own w (rshL b A F' ++ R)) => rsclear_any hk5 hFk hok' (q : Int) R w H
        have HIMG := Lib.hid (fun (w : World) (H : own w (rshL b A F' ++ R)) => rsh_img hk5 hFk H)
        have i1 : (0 : Int) ≤ (t0 : Int) := by omega
        have i2 : (t0 : Int) < 5 := by omega
        have l1 : (q : Int) < (m.t.length : Int) := by omega
        have l2 : (0 : Int) ≤ (q : Int) := by omega
        have e1 : IntKind.i64.wrap (4 - (fm : Int)) = 4 - (fm : Int) := IntWalk.i64_in _ (by omega)
        have e2 : IntKind.i64.wrap ((nn : Int) - (k : Int)) = (nn : Int) - (k : Int) := IntWalk.i64_in _ (by omega)
        have e4 : IntKind.i64.wrap ((k : Int) + (mm : Int)) = (k : Int) + (mm : Int) := IntWalk.i64_in _ (by omega)
        have e5 : IntKind.i64.wrap (16 * (mm : Int)) = ((16 * mm : Nat) : Int) := by rw [IntWalk.i64_in _ (by omega)]; omega
        have g1 : wr.cell? ⟨lb, off, none⟩ = some (.int .i64 (l.getD 0 0)) := ints_cell (HV.out _ _ hown) hpos
        rw [HX0.out] at g1
        have g2 := rsh_cell hown hk5
        rw [rslotV_some hFk] at g2
        have HST := Lib.hid hst2
        have HFK := Lib.hid hFk
        have HWA := Lib.hid hwa
        have HGO := Lib.hid hgo
        have HLAY2 := Lib.hid hlay
        have HCLR := Lib.hid hclr
        clear hst2 hst hclr hlay hwa hFk hgo htc hqc hcl' hl' hok' hx
        by_cases h4 : mm = 4
        · subst h4
          have t4 : (((4 : Nat) : Int) == 4) = true := rfl
          have hr : r = ((m.clear (q : Int)).1, put F' t0 (m.clear (q : Int)).2) := by rw [HWA.out, if_pos rfl]
          have hra : (m.clear (q : Int)).1 = r.1 := by rw [hr]
          have hrb : put F' t0 (m.clear (q : Int)).2 = r.2 := by rw [hr]
          rw [hra, hrb] at HCLR
          clear hr hra hrb HWA
          by_cases hr0 : r.1 = 0
          · have hg := HGO.out
            have hl3 := HCLR.out
            rw [if_neg (by rw [hr0]; decide)] at hg
            rw [hr0] at hl3
            have HG := Lib.hid hg
            have HL := Lib.hid hl3
            clear hl3 hg hr0 hco
            go_upto_region 16 with (fail)
            go_still_tail 8, (by kernel_rfl)
            change wpList _ _ _ _ _ wr.drew
            go_wp2_with fail
            refine (HL.out _ _ (own_drew hown)).mono ?_
            rintro e w5 ⟨rfl, hx5, h5'⟩
            have hx6 := hxr.drew.trans hx5
            go_wp2_with fail
            go_roundw
            case rel => exact ⟨k + 4, p + 1, r.2, by omega, by omega, by simp, HST.out.mono (by omega), by rw [← HG.out]; rfl, hx6, h5'⟩
            case measure => simp [intOf]; omega
          · have hg := HGO.out
            have hl3 := HCLR.out
            rw [if_pos hr0] at hg
            subst hg
            have w9 : 0 < r.1 := by omega
            have HL := Lib.hid hl3
            clear hl3 HRES hr0 hco
            go_upto_region 16 with (fail)
            go_still_tail 8, (by kernel_rfl)
            change wpList _ _ _ _ _ wr.drew
            go_wp2_with fail
            refine (HL.out _ _ (own_drew hown)).mono ?_
            rintro e w5 ⟨rfl, hx5, h5'⟩
            have hx6 := hxr.drew.trans hx5
            go_wp2_with fail
            go_ret
            exact ⟨rfl, hx6, h5'⟩
        · have t4 : ((mm : Int) == 4) = false := by rw [beq_eq_false_iff_ne]; omega
          obtain ⟨vt, vh, -, -, -, -, x4, -, x6⟩ := HIMG.out wr hown
          obtain ⟨eo, eb, eoff, ecap, rfl, -, -, g3⟩ := x6.form
          obtain rfl := g3 (by omega)
          have y1 : wr.cell? ⟨eb, eoff + q * 2, none⟩ = some (.int .i64 (m.kind (q : Int))) := (x6.cells hkl).1
          clear x6 g3
          by_cases hk1 : m.kind (q : Int) = 1
          · have hr : r = (0, F') := by rw [HWA.out, if_neg h4, if_neg (by simpa using hk1)]
            subst hr
            rw [hk1] at y1
            have hg := HGO.out
            rw [if_neg (by simp)] at hg
            have HG := Lib.hid hg
            clear h4 hk1 hg hco
            go_upto_region 17 with (fail)
            go_quiet (fail)
            have hb := own_drewN nq hown
            have hxb := hxr.drewN nq
            clear hown hxr x4 y1 g1 g2
            generalize wr.drewN nq = wb at *
            go_wp2_with fail
            go_roundw
            case rel => exact ⟨k + mm, p + 1, F', by omega, by omega, by simp, HST.out.mono (by omega), by rw [← HG.out]; rfl, hxb, hb⟩
            case measure => simp [intOf]; omega
          · have hr : r = layM F' l q fm (zs (16 * mm)) := by rw [HWA.out, if_neg h4, if_pos hk1]
            rw [← hr] at HLAY2
            have t1 : (m.kind (q : Int) != 1) = true := by simp [hk1]
            clear hr HWA
            by_cases hr0 : r.1 = 0
            · have hg := HGO.out
              have hl3 := HLAY2.out
              rw [if_neg (by rw [hr0]; decide)] at hg
              rw [hr0] at hl3
              have HG := Lib.hid hg
              have HL := Lib.hid hl3
              clear hl3 hg hr0 hco h4 hk1
              go_upto_region 17 with (fail)
              go_quiet (fail)
              have hb := own_drewN nq hown
              have hxb := hxr.drewN nq
              clear hown hxr x4 y1 g1 g2
              generalize wr.drewN nq = wb at *
              go_wp2_with fail
              refine (noughts_any (16 * mm) (by omega) _ _ hb).mono ?_
              rintro e w4 ⟨rfl, hx4, h4'⟩
              go_wp2_with fail
              refine (HL.out _ _ HV.out h4').mono ?_
              rintro e w5 ⟨rfl, hx5, h5'⟩
              have hx6 := (hxb.trans hx4).trans hx5
              go_wp2_with fail
              go_roundw
              case rel => exact ⟨k + mm, p + 1, r.2, by omega, by omega, by simp, HST.out.mono (by omega), by rw [← HG.out]; rfl, hx6, h5'⟩
              case measure => simp [intOf]; omega
            · have hg := HGO.out
              have hl3 := HLAY2.out
              rw [if_pos hr0] at hg
              subst hg
              have w9 : 0 < r.1 := by omega
              have HL := Lib.hid hl3
              clear hl3 HRES hr0 hco h4 hk1
              go_upto_region 17 with (fail)
              go_quiet (fail)
              have hb := own_drewN nq hown
              have hxb := hxr.drewN nq
              clear hown hxr x4 y1 g1 g2
              generalize wr.drewN nq = wb at *
              go_wp2_with fail
              refine (noughts_any (16 * mm) (by omega) _ _ hb).mono ?_
              rintro e w4 ⟨rfl, hx4, h4'⟩
              go_wp2_with fail
              refine (HL.out _ _ HV.out h4').mono ?_
              rintro e w5 ⟨rfl, hx5, h5'⟩
              have hx6 := (hxb.trans hx4).trans hx5
              go_wp2_with fail
              go_ret
              exact ⟨rfl, hx6, h5'⟩
      · obtain rfl : k = nn := by omega
        rw [overGo_done] at hgo
        subst hgo
        go_wp2_with fail
        go_ret
        exact ⟨rfl, hxr, hown⟩
  · have eg : wipeM F l fr nn = (withinM F l fr nn, F) := by unfold wipeM; rw [if_pos hw]
    have hc := withinM_code F l fr nn
    rw [eg]
    generalize withinM F l fr nn = res at *
    have w9 : 0 < res := by omega
    clear hw eg hc hfr
    go_enter Tryz.func26, Tryz.ntmps26
    go_wp2_with fail
    refine HPS.out.mono ?_
    rintro e w2 ⟨rfl, n2, rfl⟩
    go_wp2_with fail
    go_ret
    exact ⟨rfl, (Ext.refl w).drewN n2, own_drewN n2 H⟩
end Go.Proofs.YtbpblokfiajpjabGreat

namespace Go.Proofs.YtbpblokfiajpjabGreat
open Go.RowKit Go.SL Go.Crc
attribute [local go_sem ↓] Go.wp_at_zero Go.wp_at_succ

theorem zs64_list : (zs 64).toList = [0, 0, 0, 0, 0, 0, 0, 0, 0, 0, 0, 0, 0, 0, 0, 0, 0, 0, 0, 0, 0, 0, 0, 0, 0, 0, 0, 0, 0, 0, 0, 0, 0, 0, 0, 0, 0, 0, 0, 0, 0, 0, 0, 0, 0, 0, 0, 0, 0, 0, 0, 0, 0, 0, 0, 0, 0, 0, 0, 0, 0, 0, 0, 0] := by rw [ByteArray.toList_eq]; rfl
theorem beq_same {s z : ByteArray} (h : s = z) : (s.toList == z.toList) = true := by rw [h]; simp
theorem beq_other {s z : ByteArray} (h : ¬ s = z) : (s.toList == z.toList) = false := by
  rw [beq_eq_false_iff_ne]
  exact fun e => h (toList_inj e)

set_option maxRecDepth 100000 in
set_option maxHeartbeats 8000000 in
theorem smove_any (b : Nat) (A : Nat → Nat × Nat × Nat) (F : ShM) (hF : ShOk F) (k : Nat) (m : ImgM) (hk : k < 5) (hFk : F k = some m) (c : Int) (s : ByteArray) (hs : s.size ≤ 3200) (R : List SL.HP) (w : World) (H : own w (shL b A F ++ R)) :
    Calls Tryz.prog 31 #[.pointer (some ⟨b, 0, none⟩), .int .i64 k, .int .i64 c, .string s] w fun e w' => e = .returned (errV (moveM F k c s).1) ∧ Ext w w' ∧ own w' (shL b A (moveM F k c s).2 ++ R) := by
  have e0 : moveM F k c s = if s = zs 64 then ((m.clear c).1, put F k (m.clear c).2) else if m.there c = false then (1, F) else if m.kind c = 2 then ((m.wr c 0 s).1, put F k (m.wr c 0 s).2) else ((m.fill c s).1, put F k (m.fill c s).2) := by unfold moveM; rw [hFk]
  rw [e0]
  have cell := sh_cell H hk
  rw [slotV_some hFk] at cell
  have i1 : (0 : Int) ≤ (k : Int) := by omega
  have i2 : (k : Int) < 5 := by omega
  by_cases hz : s = zs 64
  · rw [if_pos hz]
    have HC := Lib.hid (sclear_any hk hFk hF c R w H)
    have hq := beq_same hz
    rw [zs64_list] at hq
    clear hz e0 hF hFk
    go_enter Tryz.func31, Tryz.ntmps31
    go_wp2_with fail
    refine HC.out.mono ?_
    rintro e w5 ⟨rfl, hx5, h5⟩
    go_wp2_with fail
    go_ret
    exact ⟨rfl, hx5, h5⟩
  · rw [if_neg hz]
    have hq := beq_other hz
    rw [zs64_list] at hq
    have HZ := Lib.hid hz
    clear hz e0
    cases ht : m.there c
    · rw [if_pos rfl]
      have HK := Lib.hid (skindno_any hk hFk (hF.ok k m hk hFk) c ht R w H)
      clear hF hFk ht
      go_enter Tryz.func31, Tryz.ntmps31
      go_wp2_with fail
      refine HK.out.mono ?_
      rintro e w5 ⟨rfl, rfl⟩
      go_wp2_with fail
      go_ret
      exact ⟨rfl, Ext.refl _, H⟩
    · rw [if_neg (by decide)]
      have HK := Lib.hid (skind_any hk hFk (hF.ok k m hk hFk) c ht R w H)
      by_cases h2 : m.kind c = 2
      · rw [if_pos h2]
        rw [h2] at HK
        have HW := Lib.hid (swrite_any hk hFk hF c 0 ⟨by omega, by omega⟩ s (by omega) R w H)
        clear hF hFk ht h2
        go_enter Tryz.func31, Tryz.ntmps31
        go_wp2_with fail
        refine HK.out.mono ?_
        rintro e w5 ⟨rfl, rfl⟩
        go_wp2_with fail
        refine HW.out.mono ?_
        rintro e w6 ⟨rfl, hx6, h6⟩
        go_wp2_with fail
        go_ret
        exact ⟨rfl, hx6, h6⟩
      · rw [if_neg h2]
        have t2 : (m.kind c == 2) = false := beq_eq_false_iff_ne.2 h2
        have HW := Lib.hid (sfill_any hk hFk hF c s (by omega) R w H)
        clear hF hFk ht h2
        go_enter Tryz.func31, Tryz.ntmps31
        go_wp2_with fail
        refine HK.out.mono ?_
        rintro e w5 ⟨rfl, rfl⟩
        go_wp2_with fail
        refine HW.out.mono ?_
        rintro e w6 ⟨rfl, hx6, h6⟩
        go_wp2_with fail
        go_ret
        exact ⟨rfl, hx6, h6⟩

set_option maxRecDepth 100000 in
set_option maxHeartbeats 8000000 in
theorem rmove_any (b : Nat) (A : Nat → Nat × Nat) (F : ShM) (hF : ShOk F) (k : Nat) (m : ImgM) (hk : k < 5) (hFk : F k = some m) (c : Int) (s : ByteArray) (hs : s.size ≤ 3200) (R : List SL.HP) (w : World) (H : own w (rshL b A F ++ R)) :
    Calls Tryz.prog 32 #[.pointer (some ⟨b, 0, none⟩), .int .i64 k, .int .i64 c, .string s] w fun e w' => e = .returned (.int .i64 (moveM F k c s).1) ∧ Ext w w' ∧ own w' (rshL b A (moveM F k c s).2 ++ R) := by
  have e0 : moveM F k c s = if s = zs 64 then ((m.clear c).1, put F k (m.clear c).2) else if m.there c = false then (1, F) else if m.kind c = 2 then ((m.wr c 0 s).1, put F k (m.wr c 0 s).2) else ((m.fill c s).1, put F k (m.fill c s).2) := by unfold moveM; rw [hFk]
  rw [e0]
  have cell := rsh_cell H hk
  rw [rslotV_some hFk] at cell
  have i1 : (0 : Int) ≤ (k : Int) := by omega
  have i2 : (k : Int) < 5 := by omega
  have HN := Lib.hid (noughts_any 64 (by decide) _ w H)
  have HTH := Lib.hid (fun (w : World) (H : own w (rshL b A F ++ R)) => rthere_any (A k).1 (A k).2 m c _ w (rsh_take hk hFk H))
  by_cases hz : s = zs 64
  · rw [if_pos hz]
    have HC := Lib.hid (fun (w : World) (H : own w (rshL b A F ++ R)) => rsclear_any hk hFk hF c R w H)
    have hq := beq_same hz
    clear hz e0 hF hFk
    generalize zs 64 = z at *
    go_enter Tryz.func32, Tryz.ntmps32
    go_wp2_with fail
    refine HN.out.mono ?_
    rintro e w4 ⟨rfl, hx4, h4⟩
    go_wp2_with fail
    refine (HC.out _ h4).mono ?_
    rintro e w5 ⟨rfl, hx5, h5⟩
    go_wp2_with fail
    go_ret
    exact ⟨rfl, hx4.trans hx5, h5⟩
  · rw [if_neg hz]
    have hq := beq_other hz
    have HZ := Lib.hid hz
    clear hz e0
    generalize zs 64 = z at *
    cases ht : m.there c
    · rw [if_pos rfl]
      rw [ht] at HTH
      clear hF hFk ht
      go_enter Tryz.func32, Tryz.ntmps32
      go_wp2_with fail
      refine HN.out.mono ?_
      rintro e w4 ⟨rfl, hx4, h4⟩
      go_wp2_with fail
      refine (HTH.out _ h4).mono ?_
      rintro e w5 ⟨rfl, rfl⟩
      go_wp2_with fail
      go_ret
      exact ⟨rfl, hx4, h4⟩
    · rw [if_neg (by decide)]
      have hm := hF.ok k m hk hFk
      obtain ⟨k0, -, hkl⟩ := there_range hm ht
      obtain ⟨cn, rfl⟩ := Int.eq_ofNat_of_zero_le k0
      rw [Int.toNat_natCast] at hkl
      rw [ht] at HTH
      have HIMG := Lib.hid (fun (w : World) (H : own w (rshL b A F ++ R)) => rsh_img hk hFk H)
      have l1 : (cn : Int) < (m.t.length : Int) := by omega
      by_cases h2 : m.kind (cn : Int) = 2
      · rw [if_pos h2]
        have HW := Lib.hid (fun (w : World) (H : own w (rshL b A F ++ R)) => rswrite_any hk hFk hF (cn : Int) 0 ⟨by omega, by omega⟩ s (by omega) R w H)
        have HK2 := Lib.hid h2
        clear hF hFk ht h2 hm
        go_enter Tryz.func32, Tryz.ntmps32
        go_wp2_with fail
        refine HN.out.mono ?_
        rintro e w4 ⟨rfl, hx4, h4⟩
        go_wp2_with fail
        refine (HTH.out _ h4).mono ?_
        rintro e w5 ⟨rfl, rfl⟩
        obtain ⟨vt, vh, -, -, -, -, x4, -, x6⟩ := HIMG.out _ h4
        obtain ⟨eo, eb, eoff, ecap, rfl, -, -, g3⟩ := x6.form
        obtain rfl := g3 (by omega)
        have y1 : w4.cell? ⟨eb, eoff + cn * 2, none⟩ = some (.int .i64 (m.kind (cn : Int))) := (x6.cells hkl).1
        rw [HK2.out] at y1
        clear x6 g3
        go_wp2_with fail
        refine (HW.out _ h4).mono ?_
        rintro e w6 ⟨rfl, hx6, h6⟩
        go_wp2_with fail
        go_ret
        exact ⟨rfl, hx4.trans hx6, h6⟩
      · rw [if_neg h2]
        have t2 : (m.kind (cn : Int) == 2) = false := beq_eq_false_iff_ne.2 h2
        have HW := Lib.hid (fun (w : World) (H : own w (rshL b A F ++ R)) => rsfill_any hk hFk hF (cn : Int) s (by omega) R w H)
        clear hF hFk ht h2 hm
        go_enter Tryz.func32, Tryz.ntmps32
        go_wp2_with fail
        refine HN.out.mono ?_
        rintro e w4 ⟨rfl, hx4, h4⟩
        go_wp2_with fail
        refine (HTH.out _ h4).mono ?_
        rintro e w5 ⟨rfl, rfl⟩
        obtain ⟨vt, vh, -, -, -, -, x4, -, x6⟩ := HIMG.out _ h4
        obtain ⟨eo, eb, eoff, ecap, rfl, -, -, g3⟩ := x6.form
        obtain rfl := g3 (by omega)
        have y1 : w4.cell? ⟨eb, eoff + cn * 2, none⟩ = some (.int .i64 (m.kind (cn : Int))) := (x6.cells hkl).1
        clear x6 g3
        go_wp2_with fail
        refine (HW.out _ h4).mono ?_
        rintro e w6 ⟨rfl, hx6, h6⟩
        go_wp2_with fail
        go_ret
        exact ⟨rfl, hx4.trans hx6, h6⟩
end Go.Proofs.YtbpblokfiajpjabGreat

namespace Go.Proofs.YtbpblokfiajpjabGreat
open Go.RowKit Go.SL Go.Deep Go.ChangeShapes Go.WideShapes Go.Joins

section
variable {H : Type} {enc : TypeId × Value → H} {w : World} {base : Nat} {spare : Nat → Bool} {held : Bool}
set_option maxRecDepth 100000 in
theorem head_open {r : Reach} {b0 : Nat} {v : Value} {d : DataW H} {p : List MemPlace} (hv : Value.okWide Tryz.prog w r b0 47 v) (h : DataW.Trod enc Tryz.prog w base spare held 47 v d p) :
    ∃ a b c, v = headV a b c ∧ i64ok a ∧ i64ok b ∧ i64ok c := by
  obtain ⟨v0, v1, v2, y0, y1, y2, n, rfl, -, -, g0, g1, g2⟩ := open_agg3 (P := Tryz.prog) Tryz.underlying47 (by kernel_rfl) (by kernel_rfl) hv h
  obtain ⟨a, h0, _, k0⟩ := DataW.trod_int Tryz.underlying3 g0
  obtain ⟨b, h1, _, k1⟩ := DataW.trod_int Tryz.underlying3 g1
  obtain ⟨c, h2, _, k2⟩ := DataW.trod_int Tryz.underlying3 g2
  simp only [List.cons.injEq, and_true] at h0 h1 h2
  subst h0 h1 h2
  exact ⟨a, b, c, rfl, wf_i64ok k0, wf_i64ok k1, wf_i64ok k2⟩
theorem list5 {α : Type} {l : List α} (h : l.length = 5) : ∃ c0 c1 c2 c3 c4, l = [c0, c1, c2, c3, c4] := by
  match l, h with
  | [c0, c1, c2, c3, c4], _ => exact ⟨_, _, _, _, _, rfl⟩
theorem list2 {α : Type} {l : List α} (h : l.length = 2) : ∃ c0 c1, l = [c0, c1] := by
  match l, h with
  | [c0, c1], _ => exact ⟨_, _, rfl⟩
set_option maxRecDepth 100000 in
theorem ents_open {fuel : Nat} {v : Value} {x : DataW H × List MemPlace} (h : DataW.trod enc Tryz.prog w base spare held fuel 74 [v] = some x) : ∃ l, entsAt w v l := by
  rcases open_slice Tryz.underlying74 h with ⟨hcs, _⟩ | ⟨a, len, cap, m, n, D, Pl, hcs, _, hl, hm, hmm, _, hi⟩
  · simp only [List.cons.injEq, and_true] at hcs
    subst hcs
    exact ⟨[], none, 0, 0, 0, rfl, Nat.le_refl _, by omega, fun h => absurd h (by simp), fun i h => absurd h (by simp)⟩
  · simp only [List.cons.injEq, and_true] at hcs
    subst hcs
    have hC : Tryz.prog.cellsOf 107 = 2 := by kernel_rfl
    have hlm : len ≤ m := by rw [hmm]; split <;> omega
    have hb : ∀ i, i < len → ∃ x : Ent, ∃ b o, a.add (i * 2) = ⟨b, o, none⟩ ∧ w.cell? ⟨b, o, none⟩ = some (.int .i64 x.1) ∧ w.cell? ⟨b, o + 1, none⟩ = some (.int .i64 x.2) := fun i h => by
      obtain ⟨cs', hc, ht⟩ := hi i (by omega)
      rw [hC] at hc
      obtain ⟨_, hlen, hat⟩ := World.cells?_some hc
      obtain ⟨ys, n', hyl, hg'⟩ := struct_fields Tryz.underlying107 (by kernel_rfl) ht
      obtain ⟨c0, c1, rfl⟩ := list2 hlen
      obtain ⟨y0, y1, rfl⟩ : ∃ c0 c1, ys = [c0, c1] := list2 hyl
      have g0 : DataW.trod enc Tryz.prog w base spare held n' 3 [c0] = some y0 := hg' 0 _ rfl
      have g1 : DataW.trod enc Tryz.prog w base spare held n' 3 [c1] = some y1 := hg' 1 _ rfl
      obtain ⟨A, h0, _, hA⟩ := DataW.trod_int Tryz.underlying3 g0
      obtain ⟨B, h1, _, hB⟩ := DataW.trod_int Tryz.underlying3 g1
      simp only [List.cons.injEq, and_true] at h0 h1
      subst h0 h1
      have hat0 := hat 0 (by omega)
      have hat1 := hat 1 (by omega)
      simp only [List.getElem?_cons_succ, List.getElem?_cons_zero, Addr.add, if_true] at hat0
      obtain ⟨b, o, e⟩ := add_spot (i := i * 2) (by simpa [Addr.add] using hat0)
      rw [e, add_none] at hat1
      have hat0' : w.cell? ⟨b, o, none⟩ = some (.int .i64 A) := by rw [← e]; simpa [Addr.add] using hat0
      exact ⟨(A, B), b, o, e, hat0', by simpa using hat1⟩
    obtain ⟨f, hf⟩ := Deep.choose_lt hb
    refine ⟨(List.range len).map f, some a, a.block, a.off, cap, by simp, by simpa using hl, by simpa [maxLen] using hm, fun hlt => ?_, fun i hlt => ?_⟩
    · obtain ⟨b, o, e, _⟩ := hf 0 (by simpa using hlt)
      simp [Addr.add] at e
      rw [e]
    · simp at hlt
      obtain ⟨b0, o0, e0, _⟩ := hf 0 (by omega)
      simp [Addr.add] at e0
      obtain ⟨b, o, e, hc⟩ := hf i hlt
      subst e0
      rw [add_none] at e
      simp at e
      obtain ⟨rfl, rfl⟩ := e
      simpa [hlt] using hc
end
end Go.Proofs.YtbpblokfiajpjabGreat
