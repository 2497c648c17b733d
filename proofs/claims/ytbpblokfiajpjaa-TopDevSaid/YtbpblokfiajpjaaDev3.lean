/- Flush and Crash of a device. No conditions. -/
import Derived.Test.YtbpblokfiajpjaaDev2
namespace Go.SL
open Go.RowKit
theorem own_row_cells {w : World} {L : List HP} (k : Nat) {e : TypeId} {sz g n cap : Nat} {xs : List Value} (H : own w L) (hk : L[k]? = some (row e sz (.slice (some ⟨g, 0, none⟩) n cap) n xs)) :
    (∀ j u, xs[j]? = some u → w.cell? ⟨g, j, none⟩ = some u) ∧ ∀ j, w.frozen? ⟨g, j, none⟩ = false := by
  obtain ⟨ap', gp', cp', hv, -, -, -, -, k1, k2, k3⟩ := own_row_form k H hk
  simp only [Value.slice.injEq, true_and] at hv
  obtain ⟨rfl, rfl⟩ := hv
  have := k1 _ rfl
  simp only [Addr.mk.injEq, and_true] at this
  subst this
  exact ⟨k2, k3 (by simp)⟩
/-- the head goes behind the list l -/
theorem own_behind {w : World} {a : HP} {R : List HP} (l : List HP) (H : own w (a :: (l ++ R))) : own w (l ++ a :: R) := own_mono (fun _ => star_perm List.perm_middle.symm) H
end Go.SL
namespace Go.Proofs.Ytbpblokfiajpjaa
open Go.RowKit Go.SL

theorem strCells_set (l : List ByteArray) (k : Nat) (s : ByteArray) : strCells (l.set k s) = (strCells l).set k (.string s) := by simp [strCells, List.map_set]

def flushInv (b : Nat) (m : DevM) (vf vp : Value) (R : List SL.HP) (w0 : World) (i : Value) (wr : World) : Prop :=
  ∃ q : Nat, q ≤ m.pend.length ∧ i = .int .i64 q ∧ Ext w0 wr ∧ own wr (pts b (.cells #[vf, vp, .int .i64 m.fail, .int .i64 m.writes] 133 (0, 0)) :: row 9 1 vf m.fl.length (strCells ((m.pend.take q).foldl setAt m.fl)) :: row 137 2 vp m.pend.length (pendCells m.pend) :: R)

set_option maxRecDepth 100000 in
set_option maxHeartbeats 1000000 in
theorem dev_flush (b : Nat) (m : DevM) (hm : m.Ok) (R : List SL.HP) (w : World) (H : own w (devAt b m :: R)) :
    Calls Try.prog 55 #[.pointer (some ⟨b, 0, none⟩)] w fun e w' => e = .returned (.tuple #[]) ∧ Ext w w' ∧ own w' (devAt b m.flush :: R) := by
  obtain ⟨vf, vp, h⟩ := dev_open H
  have hl1 := hm.n
  have hl2 := hm.p
  obtain ⟨ap, gp, cp, rfl, p1, p2, p3, -, -, -, -⟩ := own_row_form 2 h rfl
  obtain ⟨af, gf, cf, rfl, f1, f2, f3, -, -, -, -⟩ := own_row_form 1 h rfl
  obtain ⟨c, f⟩ := own_cells 0 h rfl
  have P3 := Lib.hid p3
  have F3 := Lib.hid f3
  clear p3 f3
  go_enter Try.func55, Try.ntmps55
  go_wp2_with fail
  go_loopw [9] (flushInv b m (.slice af m.fl.length cf) (.slice ap m.pend.length cp) R w) (fun i _ => m.pend.length - (intOf i).toNat)
  case atStart => exact ⟨0, Nat.zero_le _, rfl, Ext.refl _, h⟩
  case round =>
    clear c f h H
    obtain ⟨q, hq, rfl, hxr, hown⟩ := hrel
    by_cases hlt : q < m.pend.length
    · obtain rfl := P3.out (by omega)
      obtain ⟨x1, x2, x3⟩ := hm.pend _ (pend_mem hlt)
      obtain ⟨e1, e2⟩ := pendCells_get hlt
      obtain ⟨k2, -⟩ := own_row_cells 2 hown rfl
      have c1 := k2 _ _ e1
      have c2 := k2 _ _ e2
      have hto := take_succ_getD (0, ByteArray.empty) hlt
      have HT := Lib.hid hto
      clear hto
      generalize hx : m.pend.getD q (0, ByteArray.empty) = x at *
      clear k2 e1 e2 hx
      obtain ⟨n, s⟩ := x
      dsimp only at x1 x2 x3 c1 c2
      obtain ⟨k, rfl⟩ := Int.eq_ofNat_of_zero_le x1
      obtain rfl := F3.out (by omega)
      go_upto_region 3 with (fail)
      have ha := own_alloc hown (.cells #[.int .i64 k, .string s] 137)
      have hxa := hxr.alloc (.cells #[.int .i64 k, .string s] 137)
      clear c1 c2 hown
      generalize wr.heap.size = ba at *
      generalize wr.alloc (.cells #[.int .i64 k, .string s] 137) = wa at *
      obtain ⟨c0, f0⟩ := own_cells 0 ha rfl
      obtain ⟨c, f⟩ := own_cells 1 ha rfl
      obtain ⟨k2, k3⟩ := own_row_cells 2 ha rfl
      have hlen := foldl_setAt_length (m.pend.take q) m.fl
      generalize hfq : (m.pend.take q).foldl setAt m.fl = fq at *
      have HFQ := Lib.hid hfq
      clear hfq
      have c2 := k2 k _ (strCells_get (by omega))
      clear k2
      go_still_tail 8, (by kernel_rfl)
      change wpList _ _ _ _ _ wa.drew
      go_wp2_with fail
      go_roundw
      case rel =>
        have h5 := own_row_set 2 k (.string s) (own_drew ha) rfl (by omega)
        refine ⟨q + 1, by omega, by go_num, hxa.drew.setCell _ _, ?_⟩
        have h6 := own_drop h5
        rw [HT.out, List.foldl_append, HFQ.out]
        simp only [List.foldl_cons, List.foldl_nil, setAt, Int.toNat_natCast, strCells_set]
        exact h6
      case measure => simp [intOf]; omega
    · have hq' : q = m.pend.length := by omega
      subst hq'
      obtain ⟨c, f⟩ := own_cells 0 hown rfl
      go_wp2_with fail
      go_end0
      refine ⟨rfl, hxr.setCell _ _, ?_⟩
      have h5 := own_set (i := 1) (v := .slice none 0 0) 0 hown rfl
      have h6 := own_erase 2 h5 rfl
      have h7 := own_behind [_, _] (own_row_nil 137 2 h6)
      rw [List.take_length] at h7
      refine dev_close (m := m.flush) (vf := .slice af m.fl.length cf) (vp := .slice none 0 0) ?_
      simp only [DevM.flush, foldl_setAt_length]
      exact h7
end Go.Proofs.Ytbpblokfiajpjaa
