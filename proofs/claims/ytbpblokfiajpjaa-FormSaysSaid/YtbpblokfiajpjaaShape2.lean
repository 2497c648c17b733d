/- Opened sectors: the program's open, the document's opened. No conditions. -/
import Derived.Test.YtbpblokfiajpjaaShape
namespace Go.Proofs.Ytbpblokfiajpjaa
open Go.RowKit Go.SL Go.Crc
attribute [local go_sem ↓] Go.wp_at_zero Go.wp_at_succ

def sumStr (u : ByteArray) : ByteArray := ⟨(le32 (sumOf u.data.toList)).toArray⟩
def openF (s : ByteArray) : Int := if s.size ≠ 16 then 1 else if sumStr (s.extract 0 12) ≠ s.extract 12 16 then 3 else 0

set_option maxRecDepth 100000 in
set_option maxHeartbeats 1000000 in
theorem opened_any (s : ByteArray) (hs : s.size ≤ 9223372036854775807) (R : List SL.HP) (w : World) (H : own w R) :
    Calls Try.prog 86 #[.string s] w fun e w' => e = .returned (.int .i64 (openF s)) ∧ Ext w w' ∧ own w' R := by
  by_cases h16 : s.size = 16
  · have hd := own_drew H
    have hsz : (s.extract 0 12).size = 12 := by simp [ByteArray.size_extract, h16]
    have hO : openF s = if sumStr (s.extract 0 12) ≠ s.extract 12 16 then 3 else 0 := by rw [openF, if_neg (by omega)]
    rw [hO]
    have h16' : (s.size : Int) = 16 := by omega
    have hsl1 : ∀ wx : World, (Instr.slice 9 (.string s) none (some (.int .i64 12)) none).run Try.prog wx = .ok (.string (s.extract 0 12)) wx := fun wx => by
      simp [Instr.slice, Instr.sliceBounds, Instr.sliceBound, asIntOf, run_underlying Try.underlying9, h16]
    have hsl2 : ∀ wx : World, (Instr.slice 9 (.string s) (some (.int .i64 12)) none none).run Try.prog wx = .ok (.string (s.extract 12 16)) wx := fun wx => by
      simp [Instr.slice, Instr.sliceBounds, Instr.sliceBound, asIntOf, run_underlying Try.underlying9, h16]
    have hlts := sum_lt (s.extract 0 12).data.toList
    have hst : sumStr (s.extract 0 12) = ⟨(le32 (sumOf (s.extract 0 12).data.toList)).toArray⟩ := rfl
    generalize sumStr (s.extract 0 12) = t at *
    generalize s.extract 0 12 = u at *
    generalize s.extract 12 16 = v at *
    generalize hS : sumOf u.data.toList = S at *
    have HSS := Lib.hid hS
    have HT := Lib.hid hst
    clear hS hst
    by_cases hb : t = v
    · subst hb
      rw [if_neg (by simp)]
      go_enter Try.func86, Try.ntmps86
      go_upto_region 3 with (fail)
      go_region_held3 (fun _ => True) (trivial) (first | (go_at_call 24; refine (rsum_any u _ (by omega)).mono ?_; rw [HSS.out]; rintro e w' ⟨rfl, rfl⟩) | (go_at_call 107; refine (four_any S _ _ hlts hd).mono ?_; rw [← HT.out]; rintro e w2 ⟨rfl, hx2, h2⟩))
      go_wp2_with fail
      go_ret
      exact ⟨rfl, (Ext.refl w).drew.trans hx2, h2⟩
    · rw [if_pos hb]
      have hne : (t.toList == v.toList) = false := by simpa using fun h => hb (toList_inj h)
      go_enter Try.func86, Try.ntmps86
      go_upto_region 3 with (fail)
      go_region_held3 (fun _ => True) (trivial) (first | (go_at_call 24; refine (rsum_any u _ (by omega)).mono ?_; rw [HSS.out]; rintro e w' ⟨rfl, rfl⟩) | (go_at_call 107; refine (four_any S _ _ hlts hd).mono ?_; rw [← HT.out]; rintro e w2 ⟨rfl, hx2, h2⟩))
      go_wp2_with fail
      go_ret
      exact ⟨rfl, (Ext.refl w).drew.trans hx2, h2⟩
  · rw [openF, if_pos h16]
    go_enter Try.func86, Try.ntmps86
    go_wp2_with fail
    go_ret
    exact ⟨rfl, Ext.refl _, H⟩

def openS (s : ByteArray) : ByteArray := if openF s = 0 then s.extract 0 12 else ByteArray.empty

set_option maxRecDepth 100000 in
set_option maxHeartbeats 1000000 in
theorem open_any (s : ByteArray) (hs : s.size ≤ 9223372036854775807) (R : List SL.HP) (w : World) (H : own w R) :
    Calls Try.prog 79 #[.string s] w fun e w' => e = .returned (.tuple #[.string (openS s), errV (openF s)]) ∧ Ext w w' ∧ own w' R := by
  rw [openS]
  by_cases h16 : s.size = 16
  · have hd := own_drew H
    have hsz : (s.extract 0 12).size = 12 := by simp [ByteArray.size_extract, h16]
    have hO : openF s = if sumStr (s.extract 0 12) ≠ s.extract 12 16 then 3 else 0 := by rw [openF, if_neg (by omega)]
    rw [hO]
    have h16' : (s.size : Int) = 16 := by omega
    have hsl1 : ∀ wx : World, (Instr.slice 9 (.string s) none (some (.int .i64 12)) none).run Try.prog wx = .ok (.string (s.extract 0 12)) wx := fun wx => by
      simp [Instr.slice, Instr.sliceBounds, Instr.sliceBound, asIntOf, run_underlying Try.underlying9, h16]
    have hsl2 : ∀ wx : World, (Instr.slice 9 (.string s) (some (.int .i64 12)) none none).run Try.prog wx = .ok (.string (s.extract 12 16)) wx := fun wx => by
      simp [Instr.slice, Instr.sliceBounds, Instr.sliceBound, asIntOf, run_underlying Try.underlying9, h16]
    have hlts := sum_lt (s.extract 0 12).data.toList
    have hst : sumStr (s.extract 0 12) = ⟨(le32 (sumOf (s.extract 0 12).data.toList)).toArray⟩ := rfl
    generalize sumStr (s.extract 0 12) = t at *
    generalize s.extract 0 12 = u at *
    generalize s.extract 12 16 = v at *
    have hj : joinL [u] = u.data.toList := by simp [joinL]
    rw [← hj] at hst hlts
    clear hj
    generalize hS : sumOf (joinL [u]) = S at *
    have HSS := Lib.hid hS
    have HT := Lib.hid hst
    clear hS hst
    have ha := own_alloc hd (.cells #[.string u] 9)
    have hst1 := strs_one 0 ha rfl (by omega)
    by_cases hb : t = v
    · subst hb
      rw [if_neg (show ¬ (t ≠ t) from fun h => h rfl)]
      go_enter Try.func79, Try.ntmps79
      go_upto_region 4 with (fail)
      go_region_held3 (fun _ => True) (trivial) (first | (go_at_call 26; refine (of_any _ [u] _ hst1).mono ?_; rw [HSS.out]; rintro e w' ⟨rfl, rfl⟩) | (go_at_call 25; refine (sbytes_any S _ _ hlts ha).mono ?_; rw [← HT.out]; rintro e w2 ⟨rfl, hx2, h2⟩))
      go_wp2_with fail
      go_ret2
      exact ⟨rfl, ((Ext.refl w).drew.alloc _).trans hx2, own_drop h2⟩
    · rw [if_pos hb]
      have hne : (t.toList == v.toList) = false := by simpa using fun h => hb (toList_inj h)
      go_enter Try.func79, Try.ntmps79
      go_upto_region 4 with (fail)
      go_region_held3 (fun _ => True) (trivial) (first | (go_at_call 26; refine (of_any _ [u] _ hst1).mono ?_; rw [HSS.out]; rintro e w' ⟨rfl, rfl⟩) | (go_at_call 25; refine (sbytes_any S _ _ hlts ha).mono ?_; rw [← HT.out]; rintro e w2 ⟨rfl, hx2, h2⟩))
      go_wp2_with fail
      go_ret2
      exact ⟨rfl, ((Ext.refl w).drew.alloc _).trans hx2, own_drop h2⟩
  · have hO : openF s = 1 := by rw [openF, if_pos h16]
    rw [hO]
    go_enter Try.func79, Try.ntmps79
    go_wp2_with fail
    go_ret2
    exact ⟨rfl, Ext.refl _, H⟩
end Go.Proofs.Ytbpblokfiajpjaa
