/- A closed fact: a cluster is filled; an act on an image and on its model is answered the same. ImageOpens answers true, whatever bytes lie on the device and whatever the acts, and leaves what it was given as it was. ImageOpens answers true at every input, and its arguments read as they did. No conditions. -/
import Derived.Test.YtbpblokfiajpjaaPka97230534f
import Derived.Test.YtbpblokfiajpjaaProg
import Derived.Test.YtbpblokfiajpjaaRows
import Derived.WalkKit
import Derived.ProofKit
import Derived.OpenShut
import Derived.ShutString
import Derived.ChangeOld
import Derived.Below
namespace Go.Proofs.Ytbpblokfiajpjaa
open Go.RowKit Go.SL Go.Crc
attribute [local go_sem ↓] Go.wp_at_zero Go.wp_at_succ

theorem created_is (d : DevM) (c p b : Int) : (createR d c p b).2 = madeM (createR d c p b).2.d c p b := by
  unfold createR
  split
  · rfl
  · split
    · rfl
    · split <;> rfl
theorem created_good {d : DevM} (hd : d.Ok) (hf : d.fail < 0) (hp : d.pend.length < 999000) (hw : d.writes < 999000) {c p b : Int} (h : ¬ fitBad d c p b) : (createR d c p b).1 = 0 ∧ (createR d c p b).2.d.fail < 0 := by
  have hb : ¬ headBad c p b := fun h' => h (.inl h')
  have hn : needN c p ≤ d.fl.length := Int.not_lt.1 fun h' => h (.inr h')
  have hbb := hb
  unfold headBad at hbb
  have hzl : (zeroT c).length = c.toNat := by simp [zeroT]
  have hrn : rowsN c.toNat ≤ 4 := by unfold rowsN; omega
  have hrl : (rowsL (zeroT c)).length = rowsN c.toNat := by simp [rowsL, hzl]
  have hn2 : 1 + (rowsN c.toNat : Int) + 4 * p ≤ d.fl.length := hn
  obtain ⟨o1, o2, o3, o4⟩ := puts_ok (l := rowsL (zeroT c)) (a := 1) hd (by omega) (by omega)
  obtain ⟨g1, g2⟩ := puts_good (l := rowsL (zeroT c)) (a := 1) hf (by omega) (by rw [hrl]; omega) (fun s hs => by
    unfold rowsL at hs
    obtain ⟨k, hk, rfl⟩ := List.mem_map.1 hs
    rw [List.mem_range, hzl] at hk
    rw [rowOf_is (P := 40) (by omega) (by omega) (zero_ents c 40) (by rw [hzl]; exact hk)]
    exact rowBytes_size _ _)
  unfold createR
  rw [if_neg h, if_neg (by simpa using g1)]
  generalize (d.puts 1 (rowsL (zeroT c))).2 = d1 at *
  have hl1 : d1.flush.fl.length = d1.fl.length := by simp only [DevM.flush, foldl_setAt_length]
  obtain ⟨w1, w2⟩ := write_good (d := d1.flush) g2 (a := 0) (by omega) (by omega) (s := headS c p b) (seal_size (by simp))
  rw [if_neg (by simpa using w1)]
  exact ⟨rfl, w2⟩
def oneX : ByteArray := ⟨#[120]⟩

set_option maxRecDepth 100000 in
set_option maxHeartbeats 8000000 in
theorem images_any (R : List SL.HP) (w : World) (H : own w R) : Calls Try.prog 66 #[] w fun e w' => e = .returned (.bool true) ∧ Ext w w' ∧ own w' R := by
  have ok0 : (newDev 40).Ok := newDev_ok (by decide)
  have hfit : ¬ fitBad (newDev 40) 3 4 (-1) := by
    intro h
    rcases h with h | h
    · revert h; decide
    · rw [show needN 3 4 = 18 from rfl, show (newDev 40).fl.length = 40 by simp [newDev]] at h
      omega
  have hg := created_good ok0 (show (newDev 40).fail < 0 by decide) (by decide) (by decide) hfit
  have hok := created_ok (c := 3) (p := 4) (b := -1) ok0 (by decide) (by decide)
  have his := created_is (newDev 40) 3 4 (-1)
  have HCR := Lib.hid (fun (b : Nat) (R : List SL.HP) (w : World) (H : own w (devAt b (newDev 40) :: R)) => create_any b (newDev 40) ok0 (by decide) (by decide) 3 4 (-1) R w H)
  generalize createR (newDev 40) 3 4 (-1) = S at *
  obtain ⟨f, m⟩ := S
  dsimp only at hg hok his
  obtain ⟨hf0, hfail⟩ := hg
  obtain ⟨-, -, -, h4, h5⟩ := hok
  obtain ⟨hm, -, hpend, -⟩ := h5 hf0
  rw [show (newDev 40).writes = 0 from rfl] at h4
  have ht : m.t = [(0, 0), (0, 0), (0, 0)] := by rw [his]; rfl
  have hh : m.held = [] := by rw [his]; rfl
  have hp : m.p = 4 := by rw [his]; rfl
  have hfp : m.freeP = (0 : Nat) := freeP_some (P := 4) hp (by decide) (by unfold ImgM.openB; rw [ht, hh]; rfl) (fun j h => by omega)
  obtain ⟨g1, g2, g3, g4⟩ := fill_good hm hfail (by omega) (by rw [hpend]; decide) (k := 2) (by rw [ht]; decide) (by rw [ht]; decide) (s := zs 63 ++ oneX) (by rw [ByteArray.size_append, zs_size]; rfl) hfp (by rw [hp]; decide)
  have sf := step_fill hm (by omega) (by rw [hpend]; decide) 2 (zs 63 ++ oneX)
  have hfn := free_count sf.ok
  have HFI := Lib.hid (fun (b1 bd bh : Nat) (R : List SL.HP) (w : World) (H : own w (imgAt b1 bd bh m :: devAt bd m.d :: R)) => fill_any b1 bd bh m hm (by rw [hpend]; decide) (by omega) 2 (zs 63 ++ oneX) (by rw [ByteArray.size_append, zs_size]; decide) R w H)
  have hokF := sf.ok
  have hpF := sf.p
  generalize m.fill 2 (zs 63 ++ oneX) = F at *
  obtain ⟨ff, m2⟩ := F
  dsimp only at g1 g2 g3 g4 hfn hokF hpF HFI
  rw [g2, g3, hpF, hp, ht] at hfn
  have hfn3 : (m2.freeN : Int) = 3 := by
    have : (dataL (([(0, 0), (0, 0), (0, 0)] : List Ent).set 2 (2, ((0 : Nat) : Int)))).length = 1 := rfl
    rw [this] at hfn
    simp only [List.length_nil] at hfn
    omega
  subst hf0 g1
  have HRD := Lib.hid (fun (b1 bd bh : Nat) (R : List SL.HP) (w : World) (H : own w (imgAt b1 bd bh m2 :: devAt bd m2.d :: R)) => (by
    have h := read_any b1 bd bh m2 hokF 2 R w H
    rw [show m2.read 2 = (zs 63 ++ oneX, 0) from g4] at h
    exact h : Calls Try.prog 88 #[.pointer (some ⟨b1, 0, none⟩), .int .i64 2] w fun e w' => e = .returned (.tuple #[.string (zs 63 ++ oneX), errV 0]) ∧ Ext w w' ∧ own w' (imgAt b1 bd bh m2 :: devAt bd m2.d :: R)))
  have HFR := Lib.hid (fun (b1 bd bh : Nat) (R : List SL.HP) (w : World) (H : own w (imgAt b1 bd bh m2 :: R)) => free_any b1 bd bh m2 hokF R w H)
  rw [hfn3] at HFR
  have hz : (zs 63).size = 63 := zs_size 63
  have hb : (zs 63 ++ oneX).size = 64 := by rw [ByteArray.size_append, zs_size]; rfl
  clear g2 g3 g4 hfn hfn3 hokF hpF sf his ht hh hp hfp hm hpend hfail h4 h5 hfit
  unfold headV at HCR
  rw [errV_0] at HRD HFI
  go_enter Try.func66, Try.ntmps66
  go_wp2_with fail
  refine (dev_new_yes 40 R w rfl H).mono ?_
  rintro e w1 ⟨bd, rfl, hx1, h1⟩
  go_wp2_with fail
  refine (HCR.out bd _ w1 h1).mono ?_
  rintro e w2 (⟨hne, -⟩ | ⟨-, bi, bh, rfl, hx2, h2⟩)
  · exact absurd rfl hne
  dsimp only at h2
  go_wp2_with fail
  refine (noughts_any 63 (by decide) _ w2 h2).mono ?_
  rintro e w3 ⟨rfl, hx3, h3⟩
  go_wp2_with fail
  refine (HFI.out bi bd bh _ w3 h3).mono ?_
  rintro e w4 ⟨rfl, hx4, h4⟩
  go_wp2_with fail
  refine (HRD.out bi bd bh _ w4 h4).mono ?_
  rintro e w5 ⟨rfl, hx5, h5⟩
  go_wp2_with fail
  refine (same_any 0 0 w5 (by omega)).mono ?_
  rintro e w6 ⟨rfl, rfl⟩
  go_wp2_with fail
  refine (same_any 0 0 w5 (by omega)).mono ?_
  rintro e w6 ⟨rfl, rfl⟩
  go_wp2_with fail
  refine (noughts_any 63 (by decide) _ w5 h5).mono ?_
  rintro e w6 ⟨rfl, hx6, h6⟩
  go_wp2_with fail
  refine (HFR.out bi bd bh _ w6 h6).mono ?_
  rintro e w7 ⟨rfl, hx7, h7⟩
  go_wp2_with fail
  go_ret
  exact ⟨rfl, ((((((hx1.trans hx2).trans hx3).trans hx4).trans hx5).trans hx6).trans hx7), own_drop (own_drop h7)⟩

theorem setE_nonneg (m : ImgM) (k : Nat) (e : Ent) : 0 ≤ (m.setE k e).1 := by
  unfold ImgM.setE
  dsimp only
  split
  · exact write_nonneg _ _ _
  · simp
theorem wr_nonneg (m : ImgM) (k fr : Int) (s : ByteArray) : 0 ≤ (m.wr k fr s).1 := by
  unfold ImgM.wr
  split
  · simp
  · split
    · simp
    · exact puts_nonneg
theorem fill_nonneg (m : ImgM) (k : Int) (s : ByteArray) : 0 ≤ (m.fill k s).1 := by
  unfold ImgM.fill
  split
  · simp
  · split
    · simp
    · split
      · simp
      · unfold ImgM.fillAt
        split
        · exact puts_nonneg
        · exact setE_nonneg _ _ _
theorem clear_nonneg (m : ImgM) (k : Int) : 0 ≤ (m.clear k).1 := by
  unfold ImgM.clear
  split
  · split
    · simp
    · exact setE_nonneg _ _ _
  · simp
theorem link_nonneg (m : ImgM) (k : Int) : 0 ≤ (m.link k).1 := by
  unfold ImgM.link
  split
  · simp
  · split
    · exact write_nonneg _ _ _
    · simp
def actM (m : ImgM) (x : Act) : ImgM :=
  if (x.kind.toList == [119, 114, 105, 116, 101]) = true then (m.wr x.A x.B x.S).2 else if (x.kind.toList == [102, 105, 108, 108]) = true then (m.fill x.A x.S).2
  else if (x.kind.toList == [99, 108, 101, 97, 114]) = true then (m.clear x.A).2 else if (x.kind.toList == [108, 105, 110, 107]) = true then (m.link x.A).2
  else if (x.kind.toList == [102, 97, 105, 108]) = true then (if x.A < 0 then m else { m with d := { m.d with fail := x.A } }) else m.flush
theorem step_act {m : ImgM} (hm : m.Ok) (hw : m.d.writes < 999000) (hp : m.d.pend.length < 999000) (x : Act) (hA : i64ok x.A) : Step 5 m (actM m x) := by
  unfold actM
  split
  · exact (step_wr hm hw hp _ _ _).mono (by omega)
  · split
    · exact step_fill hm hw hp _ _
    · split
      · exact (step_clear hm (by omega) (by omega) _).mono (by omega)
      · split
        · exact (step_link hm hw _).mono (by omega)
        · split
          · split
            · exact Step.refl hm 5
            · exact (step_fail hm (by omega) hA.2).mono (by omega)
          · exact (step_flush hm).mono (by omega)
set_option maxRecDepth 1000000 in
set_option maxHeartbeats 8000000 in
theorem imaged_write (b1 bd1 bh b2 bd2 : Nat) (m : ImgM) (hm : m.Ok) (hp : m.d.pend.length < 999000) (hw : m.d.writes < 999000) (x : Act) (ko : Option Addr) (kn kc : Nat) (hA : i64ok x.A) (hB : i64ok x.B) (hS : x.S.size ≤ 9223372036854775807) (R : List SL.HP) (w : World) (H : own w (imgAt b1 bd1 bh m :: devAt bd1 m.d :: rimgAt b2 bd2 m :: rdevAt bd2 m.d :: R)) (k0 : (x.kind.toList == [119, 114, 105, 116, 101]) = true) :
    Calls Try.prog 73 #[.pointer (some ⟨b1, 0, none⟩), .pointer (some ⟨b2, 0, none⟩), .agg #[.string x.kind, .int .i64 x.A, .int .i64 x.B, .int .i64 x.C, .int .i64 x.D, .string x.S, .slice ko kn kc]] w fun e w' => e = .returned (.bool true) ∧ Ext w w' ∧ own w' (imgAt b1 bd1 bh (actM m x) :: devAt bd1 (actM m x).d :: rimgAt b2 bd2 (actM m x) :: rdevAt bd2 (actM m x).d :: R) := by
  unfold actM
  rw [if_pos k0]
  have hh : m.held.length ≤ 1000000 := by have := held_le40 hm; omega
  have hcode := wr_nonneg m x.A x.B x.S
  have HP := Lib.hid (fun (R : List SL.HP) (w : World) (H : own w (imgAt b1 bd1 bh m :: devAt bd1 m.d :: R)) => write_any b1 bd1 bh m hm hp hw x.A x.B hB x.S hS R w H)
  have HR := Lib.hid (fun (R : List SL.HP) (w : World) (H : own w (rimgAt b2 bd2 m :: rdevAt bd2 m.d :: R)) => rwrite_any b2 bd2 m hm hp hw x.A x.B hB x.S hS R w H)
  generalize m.wr x.A x.B x.S = S at *
  obtain ⟨f, m2⟩ := S
  dsimp only at hcode HP HR ⊢
  obtain ⟨A1, A2⟩ := hA
  obtain hB := hB
  have h0 := own_behind [_, _] (own_alloc H (.cells #[.string x.kind, .int .i64 x.A, .int .i64 x.B, .int .i64 x.C, .int .i64 x.D, .string x.S, .slice ko kn kc] 36))
  have hxa := (Ext.refl w).alloc (.cells #[.string x.kind, .int .i64 x.A, .int .i64 x.B, .int .i64 x.C, .int .i64 x.D, .string x.S, .slice ko kn kc] 36)
  go_enter Try.func73, Try.ntmps73
  go_upto_region 1 with (fail)
  generalize w.heap.size = ba at *
  generalize w.alloc (.cells #[.string x.kind, .int .i64 x.A, .int .i64 x.B, .int .i64 x.C, .int .i64 x.D, .string x.S, .slice ko kn kc] 36) = wa at *
  obtain ⟨c, f0⟩ := own_cells 2 h0 rfl
  go_upto_region 3 with (fail)
  have hd := own_drew h0
  go_region_held3 (fun w' => w'.cell? ⟨ba, 1, none⟩ = some (.int .i64 x.A) ∧ w'.cell? ⟨ba, 2, none⟩ = some (.int .i64 x.B) ∧ w'.cell? ⟨ba, 5, none⟩ = some (.string x.S)) (first | exact ⟨(own_cells 2 hd rfl).1 1, (own_cells 2 hd rfl).1 2, (own_cells 2 hd rfl).1 5⟩ | exact ⟨(own_cells 2 h4 rfl).1 1, (own_cells 2 h4 rfl).1 2, (own_cells 2 h4 rfl).1 5⟩ | exact ⟨(own_cells 4 h5 rfl).1 1, (own_cells 4 h5 rfl).1 2, (own_cells 4 h5 rfl).1 5⟩) (first | (go_at_call 92; refine (HP.out _ _ hd).mono ?_; rintro e w4 ⟨rfl, hx4, h4⟩) | (go_at_call 93; refine (HR.out _ _ (own_pick 4 (own_pick 4 h4 rfl) rfl)).mono ?_; rintro e w5 ⟨rfl, hx5, h5⟩) | (go_at_call 16; refine (same_any f f _ hcode).mono ?_; rintro e w' ⟨rfl, rfl⟩))
  clear c f0
  go_wp2_with fail
  go_ret
  exact ⟨by simp, (hxa.drew.trans hx4).trans hx5, own_erase 4 (own_pick 3 (own_pick 3 h5 rfl) rfl) rfl⟩
set_option maxRecDepth 1000000 in
set_option maxHeartbeats 8000000 in
theorem imaged_fill (b1 bd1 bh b2 bd2 : Nat) (m : ImgM) (hm : m.Ok) (hp : m.d.pend.length < 999000) (hw : m.d.writes < 999000) (x : Act) (ko : Option Addr) (kn kc : Nat) (hA : i64ok x.A) (hB : i64ok x.B) (hS : x.S.size ≤ 9223372036854775807) (R : List SL.HP) (w : World) (H : own w (imgAt b1 bd1 bh m :: devAt bd1 m.d :: rimgAt b2 bd2 m :: rdevAt bd2 m.d :: R)) (k0 : ¬ (x.kind.toList == [119, 114, 105, 116, 101]) = true) (k1 : (x.kind.toList == [102, 105, 108, 108]) = true) :
    Calls Try.prog 73 #[.pointer (some ⟨b1, 0, none⟩), .pointer (some ⟨b2, 0, none⟩), .agg #[.string x.kind, .int .i64 x.A, .int .i64 x.B, .int .i64 x.C, .int .i64 x.D, .string x.S, .slice ko kn kc]] w fun e w' => e = .returned (.bool true) ∧ Ext w w' ∧ own w' (imgAt b1 bd1 bh (actM m x) :: devAt bd1 (actM m x).d :: rimgAt b2 bd2 (actM m x) :: rdevAt bd2 (actM m x).d :: R) := by
  unfold actM
  rw [if_neg k0]
  rw [if_pos k1]
  have hh : m.held.length ≤ 1000000 := by have := held_le40 hm; omega
  have hcode := fill_nonneg m x.A x.S
  have HP := Lib.hid (fun (R : List SL.HP) (w : World) (H : own w (imgAt b1 bd1 bh m :: devAt bd1 m.d :: R)) => fill_any b1 bd1 bh m hm hp hw x.A x.S hS R w H)
  have HR := Lib.hid (fun (R : List SL.HP) (w : World) (H : own w (rimgAt b2 bd2 m :: rdevAt bd2 m.d :: R)) => rfill_any b2 bd2 m hm hp hw hh x.A x.S hS R w H)
  generalize m.fill x.A x.S = S at *
  obtain ⟨f, m2⟩ := S
  dsimp only at hcode HP HR ⊢
  obtain ⟨A1, A2⟩ := hA
  obtain hB := hB
  have h0 := own_behind [_, _] (own_alloc H (.cells #[.string x.kind, .int .i64 x.A, .int .i64 x.B, .int .i64 x.C, .int .i64 x.D, .string x.S, .slice ko kn kc] 36))
  have hxa := (Ext.refl w).alloc (.cells #[.string x.kind, .int .i64 x.A, .int .i64 x.B, .int .i64 x.C, .int .i64 x.D, .string x.S, .slice ko kn kc] 36)
  go_enter Try.func73, Try.ntmps73
  go_upto_region 1 with (fail)
  generalize w.heap.size = ba at *
  generalize w.alloc (.cells #[.string x.kind, .int .i64 x.A, .int .i64 x.B, .int .i64 x.C, .int .i64 x.D, .string x.S, .slice ko kn kc] 36) = wa at *
  obtain ⟨c, f0⟩ := own_cells 2 h0 rfl
  go_upto_region 5 with (fail)
  have hd := own_drew h0
  go_region_held3 (fun w' => w'.cell? ⟨ba, 1, none⟩ = some (.int .i64 x.A) ∧ w'.cell? ⟨ba, 5, none⟩ = some (.string x.S)) (first | exact ⟨(own_cells 2 hd rfl).1 1, (own_cells 2 hd rfl).1 5⟩ | exact ⟨(own_cells 2 h4 rfl).1 1, (own_cells 2 h4 rfl).1 5⟩ | exact ⟨(own_cells 4 h5 rfl).1 1, (own_cells 4 h5 rfl).1 5⟩) (first | (go_at_call 87; refine (HP.out _ _ hd).mono ?_; rintro e w4 ⟨rfl, hx4, h4⟩) | (go_at_call 94; refine (HR.out _ _ (own_pick 4 (own_pick 4 h4 rfl) rfl)).mono ?_; rintro e w5 ⟨rfl, hx5, h5⟩) | (go_at_call 16; refine (same_any f f _ hcode).mono ?_; rintro e w' ⟨rfl, rfl⟩))
  clear c f0
  go_wp2_with fail
  go_ret
  exact ⟨by simp, (hxa.drew.trans hx4).trans hx5, own_erase 4 (own_pick 3 (own_pick 3 h5 rfl) rfl) rfl⟩
set_option maxRecDepth 1000000 in
set_option maxHeartbeats 8000000 in
theorem imaged_clear (b1 bd1 bh b2 bd2 : Nat) (m : ImgM) (hm : m.Ok) (hp : m.d.pend.length < 999000) (hw : m.d.writes < 999000) (x : Act) (ko : Option Addr) (kn kc : Nat) (hA : i64ok x.A) (hB : i64ok x.B) (hS : x.S.size ≤ 9223372036854775807) (R : List SL.HP) (w : World) (H : own w (imgAt b1 bd1 bh m :: devAt bd1 m.d :: rimgAt b2 bd2 m :: rdevAt bd2 m.d :: R)) (k0 : ¬ (x.kind.toList == [119, 114, 105, 116, 101]) = true) (k1 : ¬ (x.kind.toList == [102, 105, 108, 108]) = true) (k2 : (x.kind.toList == [99, 108, 101, 97, 114]) = true) :
    Calls Try.prog 73 #[.pointer (some ⟨b1, 0, none⟩), .pointer (some ⟨b2, 0, none⟩), .agg #[.string x.kind, .int .i64 x.A, .int .i64 x.B, .int .i64 x.C, .int .i64 x.D, .string x.S, .slice ko kn kc]] w fun e w' => e = .returned (.bool true) ∧ Ext w w' ∧ own w' (imgAt b1 bd1 bh (actM m x) :: devAt bd1 (actM m x).d :: rimgAt b2 bd2 (actM m x) :: rdevAt bd2 (actM m x).d :: R) := by
  unfold actM
  rw [if_neg k0]
  rw [if_neg k1]
  rw [if_pos k2]
  have hh : m.held.length ≤ 1000000 := by have := held_le40 hm; omega
  have hcode := clear_nonneg m x.A
  have HP := Lib.hid (fun (R : List SL.HP) (w : World) (H : own w (imgAt b1 bd1 bh m :: devAt bd1 m.d :: R)) => clear_any b1 bd1 bh m hm (by omega) (by omega) x.A R w H)
  have HR := Lib.hid (fun (R : List SL.HP) (w : World) (H : own w (rimgAt b2 bd2 m :: rdevAt bd2 m.d :: R)) => rclear_any b2 bd2 m hm (by omega) (by omega) hh x.A R w H)
  generalize m.clear x.A = S at *
  obtain ⟨f, m2⟩ := S
  dsimp only at hcode HP HR ⊢
  obtain ⟨A1, A2⟩ := hA
  obtain hB := hB
  have h0 := own_behind [_, _] (own_alloc H (.cells #[.string x.kind, .int .i64 x.A, .int .i64 x.B, .int .i64 x.C, .int .i64 x.D, .string x.S, .slice ko kn kc] 36))
  have hxa := (Ext.refl w).alloc (.cells #[.string x.kind, .int .i64 x.A, .int .i64 x.B, .int .i64 x.C, .int .i64 x.D, .string x.S, .slice ko kn kc] 36)
  go_enter Try.func73, Try.ntmps73
  go_upto_region 1 with (fail)
  generalize w.heap.size = ba at *
  generalize w.alloc (.cells #[.string x.kind, .int .i64 x.A, .int .i64 x.B, .int .i64 x.C, .int .i64 x.D, .string x.S, .slice ko kn kc] 36) = wa at *
  obtain ⟨c, f0⟩ := own_cells 2 h0 rfl
  go_upto_region 7 with (fail)
  have hd := own_drew h0
  go_region_held3 (fun w' => w'.cell? ⟨ba, 1, none⟩ = some (.int .i64 x.A)) (first | exact (own_cells 2 hd rfl).1 1 | exact (own_cells 2 h4 rfl).1 1 | exact (own_cells 4 h5 rfl).1 1) (first | (go_at_call 95; refine (HP.out _ _ hd).mono ?_; rintro e w4 ⟨rfl, hx4, h4⟩) | (go_at_call 96; refine (HR.out _ _ (own_pick 4 (own_pick 4 h4 rfl) rfl)).mono ?_; rintro e w5 ⟨rfl, hx5, h5⟩) | (go_at_call 16; refine (same_any f f _ hcode).mono ?_; rintro e w' ⟨rfl, rfl⟩))
  clear c f0
  go_wp2_with fail
  go_ret
  exact ⟨by simp, (hxa.drew.trans hx4).trans hx5, own_erase 4 (own_pick 3 (own_pick 3 h5 rfl) rfl) rfl⟩
set_option maxRecDepth 1000000 in
set_option maxHeartbeats 8000000 in
theorem imaged_link (b1 bd1 bh b2 bd2 : Nat) (m : ImgM) (hm : m.Ok) (hp : m.d.pend.length < 999000) (hw : m.d.writes < 999000) (x : Act) (ko : Option Addr) (kn kc : Nat) (hA : i64ok x.A) (hB : i64ok x.B) (hS : x.S.size ≤ 9223372036854775807) (R : List SL.HP) (w : World) (H : own w (imgAt b1 bd1 bh m :: devAt bd1 m.d :: rimgAt b2 bd2 m :: rdevAt bd2 m.d :: R)) (k0 : ¬ (x.kind.toList == [119, 114, 105, 116, 101]) = true) (k1 : ¬ (x.kind.toList == [102, 105, 108, 108]) = true) (k2 : ¬ (x.kind.toList == [99, 108, 101, 97, 114]) = true) (k3 : (x.kind.toList == [108, 105, 110, 107]) = true) :
    Calls Try.prog 73 #[.pointer (some ⟨b1, 0, none⟩), .pointer (some ⟨b2, 0, none⟩), .agg #[.string x.kind, .int .i64 x.A, .int .i64 x.B, .int .i64 x.C, .int .i64 x.D, .string x.S, .slice ko kn kc]] w fun e w' => e = .returned (.bool true) ∧ Ext w w' ∧ own w' (imgAt b1 bd1 bh (actM m x) :: devAt bd1 (actM m x).d :: rimgAt b2 bd2 (actM m x) :: rdevAt bd2 (actM m x).d :: R) := by
  unfold actM
  rw [if_neg k0]
  rw [if_neg k1]
  rw [if_neg k2]
  rw [if_pos k3]
  have hh : m.held.length ≤ 1000000 := by have := held_le40 hm; omega
  have hcode := link_nonneg m x.A
  have HP := Lib.hid (fun (R : List SL.HP) (w : World) (H : own w (imgAt b1 bd1 bh m :: devAt bd1 m.d :: R)) => link_any b1 bd1 bh m hm hw x.A R w H)
  have HR := Lib.hid (fun (R : List SL.HP) (w : World) (H : own w (rimgAt b2 bd2 m :: rdevAt bd2 m.d :: R)) => rlink_any b2 bd2 m hm hw x.A R w H)
  generalize m.link x.A = S at *
  obtain ⟨f, m2⟩ := S
  dsimp only at hcode HP HR ⊢
  obtain ⟨A1, A2⟩ := hA
  obtain hB := hB
  have h0 := own_behind [_, _] (own_alloc H (.cells #[.string x.kind, .int .i64 x.A, .int .i64 x.B, .int .i64 x.C, .int .i64 x.D, .string x.S, .slice ko kn kc] 36))
  have hxa := (Ext.refl w).alloc (.cells #[.string x.kind, .int .i64 x.A, .int .i64 x.B, .int .i64 x.C, .int .i64 x.D, .string x.S, .slice ko kn kc] 36)
  go_enter Try.func73, Try.ntmps73
  go_upto_region 1 with (fail)
  generalize w.heap.size = ba at *
  generalize w.alloc (.cells #[.string x.kind, .int .i64 x.A, .int .i64 x.B, .int .i64 x.C, .int .i64 x.D, .string x.S, .slice ko kn kc] 36) = wa at *
  obtain ⟨c, f0⟩ := own_cells 2 h0 rfl
  go_upto_region 9 with (fail)
  have hd := own_drew h0
  go_region_held3 (fun w' => w'.cell? ⟨ba, 1, none⟩ = some (.int .i64 x.A)) (first | exact (own_cells 2 hd rfl).1 1 | exact (own_cells 2 h4 rfl).1 1 | exact (own_cells 4 h5 rfl).1 1) (first | (go_at_call 97; refine (HP.out _ _ hd).mono ?_; rintro e w4 ⟨rfl, hx4, h4⟩) | (go_at_call 98; refine (HR.out _ _ (own_pick 4 (own_pick 4 h4 rfl) rfl)).mono ?_; rintro e w5 ⟨rfl, hx5, h5⟩) | (go_at_call 16; refine (same_any f f _ hcode).mono ?_; rintro e w' ⟨rfl, rfl⟩))
  clear c f0
  go_wp2_with fail
  go_ret
  exact ⟨by simp, (hxa.drew.trans hx4).trans hx5, own_erase 4 (own_pick 3 (own_pick 3 h5 rfl) rfl) rfl⟩
set_option maxRecDepth 1000000 in
set_option maxHeartbeats 8000000 in
theorem imaged_fail (b1 bd1 bh b2 bd2 : Nat) (m : ImgM) (hm : m.Ok) (hp : m.d.pend.length < 999000) (hw : m.d.writes < 999000) (x : Act) (ko : Option Addr) (kn kc : Nat) (hA : i64ok x.A) (hB : i64ok x.B) (hS : x.S.size ≤ 9223372036854775807) (R : List SL.HP) (w : World) (H : own w (imgAt b1 bd1 bh m :: devAt bd1 m.d :: rimgAt b2 bd2 m :: rdevAt bd2 m.d :: R)) (k0 : ¬ (x.kind.toList == [119, 114, 105, 116, 101]) = true) (k1 : ¬ (x.kind.toList == [102, 105, 108, 108]) = true) (k2 : ¬ (x.kind.toList == [99, 108, 101, 97, 114]) = true) (k3 : ¬ (x.kind.toList == [108, 105, 110, 107]) = true) (k4 : (x.kind.toList == [102, 97, 105, 108]) = true) :
    Calls Try.prog 73 #[.pointer (some ⟨b1, 0, none⟩), .pointer (some ⟨b2, 0, none⟩), .agg #[.string x.kind, .int .i64 x.A, .int .i64 x.B, .int .i64 x.C, .int .i64 x.D, .string x.S, .slice ko kn kc]] w fun e w' => e = .returned (.bool true) ∧ Ext w w' ∧ own w' (imgAt b1 bd1 bh (actM m x) :: devAt bd1 (actM m x).d :: rimgAt b2 bd2 (actM m x) :: rdevAt bd2 (actM m x).d :: R) := by
  unfold actM
  rw [if_neg k0]
  rw [if_neg k1]
  rw [if_neg k2]
  rw [if_neg k3]
  rw [if_pos k4]
  have hh : m.held.length ≤ 1000000 := by have := held_le40 hm; omega
  by_cases hneg : x.A < 0
  · rw [if_pos hneg]
    obtain ⟨A1, A2⟩ := hA
    obtain hB := hB
    have h0 := own_behind [_, _] (own_alloc H (.cells #[.string x.kind, .int .i64 x.A, .int .i64 x.B, .int .i64 x.C, .int .i64 x.D, .string x.S, .slice ko kn kc] 36))
    have hxa := (Ext.refl w).alloc (.cells #[.string x.kind, .int .i64 x.A, .int .i64 x.B, .int .i64 x.C, .int .i64 x.D, .string x.S, .slice ko kn kc] 36)
    go_enter Try.func73, Try.ntmps73
    go_upto_region 1 with (fail)
    generalize w.heap.size = ba at *
    generalize w.alloc (.cells #[.string x.kind, .int .i64 x.A, .int .i64 x.B, .int .i64 x.C, .int .i64 x.D, .string x.S, .slice ko kn kc] 36) = wa at *
    obtain ⟨c, f0⟩ := own_cells 2 h0 rfl
    go_wp2_with fail
    go_ret
    exact ⟨rfl, hxa, own_erase 2 h0 rfl⟩
  · rw [if_neg hneg]
    obtain ⟨A1, A2⟩ := hA
    obtain hB := hB
    have h0 := own_behind [_, _] (own_alloc H (.cells #[.string x.kind, .int .i64 x.A, .int .i64 x.B, .int .i64 x.C, .int .i64 x.D, .string x.S, .slice ko kn kc] 36))
    have hxa := (Ext.refl w).alloc (.cells #[.string x.kind, .int .i64 x.A, .int .i64 x.B, .int .i64 x.C, .int .i64 x.D, .string x.S, .slice ko kn kc] 36)
    go_enter Try.func73, Try.ntmps73
    go_upto_region 1 with (fail)
    generalize w.heap.size = ba at *
    generalize w.alloc (.cells #[.string x.kind, .int .i64 x.A, .int .i64 x.B, .int .i64 x.C, .int .i64 x.D, .string x.S, .slice ko kn kc] 36) = wa at *
    obtain ⟨c, f0⟩ := own_cells 2 h0 rfl
    obtain ⟨vt, vh, h1⟩ := rimg_open (own_pick 3 h0 rfl)
    obtain ⟨vf, va, vw, h2⟩ := rdev_open (own_pick 6 h1 rfl)
    obtain ⟨cr, fr⟩ := own_cells 0 h2 rfl
    obtain ⟨ci, fi⟩ := own_cells 4 h2 rfl
    go_upto_region 13 with (fail)
    go_still_tail 8, (by kernel_rfl)
    change wpList _ _ _ _ _ wa.drew
    have hd := own_drew h2
    have hxd := hxa.drew
    clear c f0 cr fr ci fi
    generalize wa.drew = wd at *
    obtain ⟨cr, fr⟩ := own_cells 0 hd rfl
    go_upto_region 14 with (fail)
    have h3 := rdev_close (m := { m.d with fail := x.A }) (own_set (i := 3) (v := .int .i64 x.A) 0 hd rfl)
    have hx3 := hxd.setCell ⟨bd2, 3, none⟩ (.int .i64 x.A)
    generalize wd.setCell ⟨bd2, 3, none⟩ (.int .i64 x.A) = w3 at *
    clear cr fr hd h2 h1
    have h4 : own w3 (imgAt b1 bd1 bh m :: devAt bd1 m.d :: pts ba (.cells #[.string x.kind, .int .i64 x.A, .int .i64 x.B, .int .i64 x.C, .int .i64 x.D, .string x.S, .slice ko kn kc] 36 (0, 0)) :: rimgAt b2 bd2 m :: rdevAt bd2 { m.d with fail := x.A } :: R) := own_pick 4 (own_pick 4 (own_pick 4 (rimg_close (own_behind [_, _, _] h3)) rfl) rfl) rfl
    obtain ⟨c, f0⟩ := own_cells 2 h4 rfl
    have hd4 := own_drew h4
    have hif1 : (if x.A < 0 then m.d else { m.d with fail := x.A }) = { m.d with fail := x.A } := if_neg hneg
    have hif2 : (if x.A < 0 then (1 : Int) else 0) = 0 := if_neg hneg
    have HF := Lib.hid (fun (R : List SL.HP) (w : World) (H : own w (devAt bd1 m.d :: R)) => (by
      have h := dev_fail bd1 m.d x.A R w H
      rw [hif1, hif2] at h
      exact h : Calls Try.prog 57 #[.pointer (some ⟨bd1, 0, none⟩), .int .i64 x.A] w fun e w' => e = .returned (errV 0) ∧ Ext w w' ∧ own w' (devAt bd1 { m.d with fail := x.A } :: R)))
    clear hif1 hif2 hneg
    go_region_held3 (fun w' => w'.cell? ⟨ba, 1, none⟩ = some (.int .i64 x.A)) (first | exact (own_cells 2 hd4 rfl).1 1 | exact (own_cells 2 h5 rfl).1 1) (first | (go_at_call 99; refine (imgdev_any b1 bd1 bh m _ _ hd4).mono ?_; rintro e w' ⟨rfl, rfl⟩) | (go_at_call 57; refine (HF.out _ _ (own_pick 1 hd4 rfl)).mono ?_; rintro e w5 ⟨rfl, hx5, h5'⟩; have h5 := own_put hd4 1 rfl h5') | (go_at_call 16; refine (same_any 0 0 _ (by omega)).mono ?_; rintro e w' ⟨rfl, rfl⟩))
    clear c f0
    go_wp2_with fail
    go_ret
    exact ⟨by simp, hx3.drew.trans hx5, own_erase 2 h5 rfl⟩
set_option maxRecDepth 1000000 in
set_option maxHeartbeats 8000000 in
theorem imaged_flush (b1 bd1 bh b2 bd2 : Nat) (m : ImgM) (hm : m.Ok) (hp : m.d.pend.length < 999000) (hw : m.d.writes < 999000) (x : Act) (ko : Option Addr) (kn kc : Nat) (hA : i64ok x.A) (hB : i64ok x.B) (hS : x.S.size ≤ 9223372036854775807) (R : List SL.HP) (w : World) (H : own w (imgAt b1 bd1 bh m :: devAt bd1 m.d :: rimgAt b2 bd2 m :: rdevAt bd2 m.d :: R)) (k0 : ¬ (x.kind.toList == [119, 114, 105, 116, 101]) = true) (k1 : ¬ (x.kind.toList == [102, 105, 108, 108]) = true) (k2 : ¬ (x.kind.toList == [99, 108, 101, 97, 114]) = true) (k3 : ¬ (x.kind.toList == [108, 105, 110, 107]) = true) (k4 : ¬ (x.kind.toList == [102, 97, 105, 108]) = true) :
    Calls Try.prog 73 #[.pointer (some ⟨b1, 0, none⟩), .pointer (some ⟨b2, 0, none⟩), .agg #[.string x.kind, .int .i64 x.A, .int .i64 x.B, .int .i64 x.C, .int .i64 x.D, .string x.S, .slice ko kn kc]] w fun e w' => e = .returned (.bool true) ∧ Ext w w' ∧ own w' (imgAt b1 bd1 bh (actM m x) :: devAt bd1 (actM m x).d :: rimgAt b2 bd2 (actM m x) :: rdevAt bd2 (actM m x).d :: R) := by
  unfold actM
  rw [if_neg k0]
  rw [if_neg k1]
  rw [if_neg k2]
  rw [if_neg k3]
  rw [if_neg k4]
  have hh : m.held.length ≤ 1000000 := by have := held_le40 hm; omega
  have HP := Lib.hid (fun (R : List SL.HP) (w : World) (H : own w (imgAt b1 bd1 bh m :: devAt bd1 m.d :: R)) => imgflush_any b1 bd1 bh m hm.d R w H)
  have HR := Lib.hid (fun (R : List SL.HP) (w : World) (H : own w (rimgAt b2 bd2 m :: rdevAt bd2 m.d :: R)) => rimgflush_any b2 bd2 m hm.d R w H)
  obtain ⟨A1, A2⟩ := hA
  obtain hB := hB
  have h0 := own_behind [_, _] (own_alloc H (.cells #[.string x.kind, .int .i64 x.A, .int .i64 x.B, .int .i64 x.C, .int .i64 x.D, .string x.S, .slice ko kn kc] 36))
  have hxa := (Ext.refl w).alloc (.cells #[.string x.kind, .int .i64 x.A, .int .i64 x.B, .int .i64 x.C, .int .i64 x.D, .string x.S, .slice ko kn kc] 36)
  go_enter Try.func73, Try.ntmps73
  go_upto_region 1 with (fail)
  generalize w.heap.size = ba at *
  generalize w.alloc (.cells #[.string x.kind, .int .i64 x.A, .int .i64 x.B, .int .i64 x.C, .int .i64 x.D, .string x.S, .slice ko kn kc] 36) = wa at *
  obtain ⟨c, f0⟩ := own_cells 2 h0 rfl
  go_wp2_with fail
  refine (HP.out _ wa h0).mono ?_
  rintro e w4 ⟨rfl, hx4, h4⟩
  go_wp2_with fail
  refine (HR.out _ w4 (own_pick 4 (own_pick 4 h4 rfl) rfl)).mono ?_
  rintro e w5 ⟨rfl, hx5, h5⟩
  go_wp2_with fail
  go_ret
  exact ⟨rfl, (hxa.trans hx4).trans hx5, own_erase 4 (own_pick 3 (own_pick 3 h5 rfl) rfl) rfl⟩
theorem imaged_any (b1 bd1 bh b2 bd2 : Nat) (m : ImgM) (hm : m.Ok) (hp : m.d.pend.length < 999000) (hw : m.d.writes < 999000) (x : Act) (ko : Option Addr) (kn kc : Nat) (hA : i64ok x.A) (hB : i64ok x.B) (hS : x.S.size ≤ 9223372036854775807) (R : List SL.HP) (w : World) (H : own w (imgAt b1 bd1 bh m :: devAt bd1 m.d :: rimgAt b2 bd2 m :: rdevAt bd2 m.d :: R)) :
    Calls Try.prog 73 #[.pointer (some ⟨b1, 0, none⟩), .pointer (some ⟨b2, 0, none⟩), .agg #[.string x.kind, .int .i64 x.A, .int .i64 x.B, .int .i64 x.C, .int .i64 x.D, .string x.S, .slice ko kn kc]] w fun e w' => e = .returned (.bool true) ∧ Ext w w' ∧ own w' (imgAt b1 bd1 bh (actM m x) :: devAt bd1 (actM m x).d :: rimgAt b2 bd2 (actM m x) :: rdevAt bd2 (actM m x).d :: R) := by
  by_cases k0 : (x.kind.toList == [119, 114, 105, 116, 101]) = true
  · exact imaged_write b1 bd1 bh b2 bd2 m hm hp hw x ko kn kc hA hB hS R w H k0
  by_cases k1 : (x.kind.toList == [102, 105, 108, 108]) = true
  · exact imaged_fill b1 bd1 bh b2 bd2 m hm hp hw x ko kn kc hA hB hS R w H k0 k1
  by_cases k2 : (x.kind.toList == [99, 108, 101, 97, 114]) = true
  · exact imaged_clear b1 bd1 bh b2 bd2 m hm hp hw x ko kn kc hA hB hS R w H k0 k1 k2
  by_cases k3 : (x.kind.toList == [108, 105, 110, 107]) = true
  · exact imaged_link b1 bd1 bh b2 bd2 m hm hp hw x ko kn kc hA hB hS R w H k0 k1 k2 k3
  by_cases k4 : (x.kind.toList == [102, 97, 105, 108]) = true
  · exact imaged_fail b1 bd1 bh b2 bd2 m hm hp hw x ko kn kc hA hB hS R w H k0 k1 k2 k3 k4
  exact imaged_flush b1 bd1 bh b2 bd2 m hm hp hw x ko kn kc hA hB hS R w H k0 k1 k2 k3 k4
end Go.Proofs.Ytbpblokfiajpjaa

namespace Go.Proofs.Ytbpblokfiajpjaa
open Go.RowKit Go.SL Go.Crc
attribute [local go_sem ↓] Go.wp_at_zero Go.wp_at_succ

theorem ofDev_good {s : ByteArray} (h : ofOk s = true) : (ofDev s).Ok := by
  simp only [ofOk, decide_eq_true_eq] at h
  refine ⟨by simp [ofDev, cutAt_length]; omega, fun x hx => ?_, by simp [ofDev], fun x hx => by simp [ofDev] at hx, by simp [ofDev], by simp [ofDev]⟩
  simp only [ofDev, cutAt, List.mem_map, List.mem_range] at hx
  obtain ⟨i, hi, rfl⟩ := hx
  rw [if_pos hi, chunk, ByteArray.size_extract]
  omega
theorem openR_nonneg (d : DevM) : 0 ≤ (openR d).1 := by
  unfold openR openH
  split
  · exact headOf_nonneg _
  · split
    · simp
    · exact tableOf_nonneg _ _ _ _
def fillInv (bd : Nat) (s : ByteArray) (n : Nat) (L : List SL.HP) (w0 : World) (g cap : Nat) (va vw : Value) (i : Value) (wr : World) : Prop :=
  ∃ q : Nat, q ≤ n ∧ i = .int .i64 q ∧ Ext w0 wr ∧ own wr (pts bd (.cells #[.slice (some ⟨g, 0, none⟩) n cap, va, vw, .int .i64 (-1), .int .i64 0] 90 (0, 0)) :: row 9 1 (.slice (some ⟨g, 0, none⟩) n cap) n (strCells (cutAt s n q)) :: row 3 1 va 0 [] :: row 9 1 vw 0 [] :: L)
def actsInv (b1 bd1 bh b2 bd2 : Nat) (len : Nat) (w0 : World) (i : Value) (wr : World) : Prop :=
  ∃ (q : Nat) (m : ImgM), q ≤ len ∧ i = .int .i64 q ∧ Ext w0 wr ∧ m.Ok ∧ m.d.pend.length ≤ 5 * q ∧ m.d.writes ≤ 5 * q ∧ own wr [imgAt b1 bd1 bh m, devAt bd1 m.d, rimgAt b2 bd2 m, rdevAt bd2 m.d, exactly w0]

set_option maxRecDepth 1000000 in
set_option maxHeartbeats 8000000 in
theorem imageOpens_walk (s : ByteArray) (v : Value) (l : List Act) (w : World) (hs : s.size ≤ 9223372036854775807) (hv : ActsAt w v l) :
    Calls Try.prog 12 #[.string s, v] w fun e w' => e = .returned (.bool true) ∧ Below w.heap.size w w' := by
  obtain ⟨ao, bb, off, cap, rfl, hlen, hao, hat⟩ := hv.form
  have HAT := Lib.hid hat
  have HV := Lib.hid hv
  have HAO := Lib.hid hao
  clear hat hv hao
  go_enter Try.func12, Try.ntmps12
  go_wp2_with fail
  refine (images_any _ w (own_exactly w)).mono ?_
  rintro e w1 ⟨rfl, hx1, h1⟩
  have HV1 := Lib.hid (HV.out.later 0 h1 rfl)
  by_cases hs32 : (s.size : Int) ≤ 3200
  · go_wp2_with fail
    refine (light_any _ l 20 w1 HV1.out).mono ?_
    rintro e w1' ⟨rfl, rfl⟩
    by_cases hL : light l 20 = true
    · have hl2 : l.length ≤ 20 := by
        simp only [light, Bool.and_eq_true, decide_eq_true_eq] at hL
        omega
      rw [hL]
      clear hL
      go_wp2_with fail
      refine (dev_of s (by omega) _ w1 h1).mono ?_
      rintro e w2 ⟨hno, hyes⟩
      by_cases hok : ofOk s = true
      · obtain ⟨bd1, rfl, hx2', h2⟩ := hyes hok
        have hx2 := hx1.trans hx2'
        have hdo := ofDev_good hok
        have hok' := hok
        simp only [ofOk, decide_eq_true_eq] at hok'
        obtain ⟨o1, o2, o3⟩ := hok'
        have hfl : (ofDev s).fl.length = s.size / 16 := cutAt_length _ _ _
        have hsz := dev_size bd1 (ofDev s) [exactly w] w2 h2
        have hsec : s.size / 16 ≤ 200 := by omega
        have hn0 : 0 < s.size / 16 := by omega
        rw [hfl] at hsz
        have HSZ := Lib.hid hsz
        have HFL := Lib.hid hfl
        have HDO := Lib.hid hdo
        clear hno hyes hok hx1 hx2' h1 HV1 hsz hfl hdo o1
        have hn16 : s.size / 16 * 16 ≤ s.size := by omega
        generalize hn : s.size / 16 = n at *
        have HN := Lib.hid hn
        clear hn
        go_wp2_with fail
        refine HSZ.out.mono ?_
        rintro e w' ⟨rfl, rfl⟩
        go_wp2_with fail
        refine (rdev_new n _ w2 hsec h2).mono ?_
        rintro e w3 ⟨bd2, rfl, hx3', h3⟩
        have hx3 := hx2.trans hx3'
        obtain ⟨vf, va, vw, h4⟩ := rdev_open h3
        obtain ⟨af, gf, cf, rfl, r1, r2, r3, -, -, -, -⟩ := own_row_form 1 h4 rfl
        simp only [newDev, List.length_replicate] at h4 r1 r3
        obtain rfl := r3 hn0
        have h5 : own w3 (pts bd2 (.cells #[.slice (some ⟨gf, 0, none⟩) n cf, va, vw, .int .i64 (-1), .int .i64 0] 90 (0, 0)) :: row 9 1 (.slice (some ⟨gf, 0, none⟩) n cf) n (strCells (cutAt s n 0)) :: row 3 1 va 0 [] :: row 9 1 vw 0 [] :: devAt bd1 (ofDev s) :: [exactly w]) := by
          rw [cutAt_zero]
          exact h4
        clear h4 h3 r3 hx3' hx2 h2 HSZ
        go_wp2_with fail
        go_loopw [9] (fillInv bd2 s n [devAt bd1 (ofDev s), exactly w] w gf cf va vw) (fun i _ => n - (intOf i).toNat)
        case atStart => exact ⟨0, Nat.zero_le _, rfl, hx3, h5⟩
        case round =>
          clear h5 hx3
          obtain ⟨q, hq, rfl, hxr, hown⟩ := hrel
          obtain ⟨c, f⟩ := own_cells 0 hown rfl
          by_cases hlt : q < n
          · obtain ⟨k2, k3⟩ := own_row_cells 1 hown rfl
            have c2 := k2 q _ (strCells_get (by rw [cutAt_length]; exact hlt))
            clear k2
            have e1 : IntKind.i64.wrap (16 * (q : Int)) = 16 * (q : Int) := IntWalk.i64_in _ (by omega)
            have e3 : IntKind.i64.wrap (16 * (q : Int) + 16) = 16 * (q : Int) + 16 := IntWalk.i64_in _ (by omega)
            have b1 : (0 : Int) ≤ 16 * (q : Int) := by omega
            have b2 : 16 * (q : Int) ≤ 16 * (q : Int) + 16 := by omega
            have b3 : 16 * (q : Int) + 16 ≤ (s.size : Int) := by omega
            have i1 : (0 : Int) ≤ (q : Int) := by omega
            have i2 : (q : Int) < (n : Int) := by omega
            have hsl : ∀ wx : World, (Instr.slice 9 (.string s) (some (.int .i64 (16 * (q : Int)))) (some (.int .i64 (16 * (q : Int) + 16))) none).run Try.prog wx = .ok (.string (chunk s q)) wx := fun wx => by
              have := run_slice_string (P := Try.prog) wx 9 s .i64 .i64 (16 * (q : Int)) (16 * (q : Int) + 16) Try.underlying9 b1 b2 b3
              rw [this, chunk, show (16 * (q : Int)).toNat = q * 16 from by omega, show (16 * (q : Int) + 16).toNat = (q + 1) * 16 from by omega]
            go_upto_region 11 with (fail)
            go_still_tail 13, (by kernel_rfl)
            change wpList _ _ _ _ _ wr.drew
            go_wp2_with fail
            go_roundw
            case rel =>
              have h5 := own_row_set 1 q (.string (chunk s q)) (own_drew hown) rfl (by omega)
              refine ⟨q + 1, by omega, by go_num, hxr.drew.setCell _ _, ?_⟩
              rw [← cutAt_set, strCells_set]
              exact h5
            case measure => simp [intOf]; omega
          · obtain rfl : n = q := by omega
            have h6 : own wr (rdevAt bd2 (ofDev s) :: devAt bd1 (ofDev s) :: [exactly w]) := (by
              have e2 : (ofDev s).fl = cutAt s n n := by unfold ofDev; rw [HN.out]
              refine rdev_close (m := ofDev s) (vf := .slice (some ⟨gf, 0, none⟩) n cf) (va := va) (vw := vw) ?_
              rw [HFL.out, e2]
              exact hown)
            have hop := openR_nonneg (ofDev s)
            have hok := openR_ok HDO.out
            have hod := openR_d (ofDev s)
            have hl0 : 0 < (ofDev s).fl.length := by rw [HFL.out]; exact hn0
            have HO1 := Lib.hid (fun (R : List SL.HP) (w : World) (H : own w (devAt bd1 (ofDev s) :: R)) => open_img bd1 (ofDev s) HDO.out hl0 R w H)
            have HO2 := Lib.hid (fun (R : List SL.HP) (w : World) (H : own w (rdevAt bd2 (ofDev s) :: R)) => opened_img bd2 (ofDev s) HDO.out hl0 R w H)
            have hpe : (ofDev s).pend.length = 0 := rfl
            have hwe : (ofDev s).writes = 0 := rfl
            have HSE := Lib.hid hod
            have HOK := Lib.hid hok
            clear hok hod hl0 hown hlt
            generalize openR (ofDev s) = S at *
            obtain ⟨fl, m⟩ := S
            dsimp only at hop HSE HOK
            by_cases hf : fl = 0
            · subst hf
              have hm := HOK.out rfl
              have hmd := HSE.out
              have HM := Lib.hid hm
              have HMD := Lib.hid hmd
              clear HOK HSE hm hmd
              go_wp2_with fail
              refine (HO1.out _ wr (own_pick 1 h6 rfl)).mono ?_
              rintro e w4 (⟨hne, -⟩ | ⟨-, b1, bh, rfl, hx4, h7⟩)
              · exact absurd rfl hne
              dsimp only at h7
              clear c f
              go_wp2_with fail
              refine (HO2.out _ w4 (own_pick 2 h7 rfl)).mono ?_
              rintro e w5 (⟨hne, -⟩ | ⟨-, b2, rfl, hx5, h8⟩)
              · exact absurd rfl hne
              dsimp only at h8
              have h9 : own w5 [imgAt b1 bd1 bh m, devAt bd1 m.d, rimgAt b2 bd2 m, rdevAt bd2 m.d, exactly w] := own_pick 3 (own_pick 3 h8 rfl) rfl
              have hx9 := (hxr.trans hx4).trans hx5
              have hmp : m.d.pend.length = 0 := by rw [HMD.out]; exact hpe
              have hmw : m.d.writes = 0 := by rw [HMD.out]; exact hwe
              have hpn := dev_pending bd1 m.d _ w5 (own_pick 1 h9 rfl)
              rw [hmp] at hpn
              have HPN := Lib.hid hpn
              have HMP := Lib.hid (And.intro hmp hmw)
              clear h6 h7 h8 hx4 hx5 hxr HO1 HO2 hpe hwe hpn hmp hmw
              go_wp2_with fail
              refine (same_any 0 0 w5 (by omega)).mono ?_
              rintro e w' ⟨rfl, rfl⟩
              go_wp2_with fail
              refine HPN.out.mono ?_
              rintro e w' ⟨rfl, rfl⟩
              go_wp2_with fail
              clear HPN
              go_loopw [13] (actsInv b1 bd1 bh b2 bd2 l.length w) (fun i _ => l.length - (intOf i).toNat)
              case atStart => exact ⟨0, m, Nat.zero_le _, rfl, hx9, HM.out, by rw [HMP.out.1]; omega, by rw [HMP.out.2]; omega, h9⟩
              case round =>
                clear h9 hx9
                obtain ⟨k, m, hk, rfl, hxr, hm, hp, hw, hown⟩ := hrel
                have HM := Lib.hid hm
                clear hm
                by_cases hlt : k < l.length
                · obtain rfl := HAO.out (by omega)
                  obtain ⟨c0, c1, c2, c3, c4, c5, c6⟩ := (HAT.out k hlt).later 4 hown rfl
                  have ok := HV.out.2 _ (all_getD hlt)
                  obtain ⟨ko, kc, hkv, hkl⟩ := keep_len ok.keep
                  rw [hkv] at c6
                  have hSz := ok.S
                  have HAB := Lib.hid (And.intro ok.A ok.B)
                  clear hkv ok
                  generalize l.getD k actNone = x at *
                  have hst := step_act HM.out (by omega) (by omega) x HAB.out.1
                  have hsp := hst.pend
                  have hsw := hst.wr
                  have HST := Lib.hid hst.ok
                  have HIM := Lib.hid (fun (R : List SL.HP) (w : World) (H : own w (imgAt b1 bd1 bh m :: devAt bd1 m.d :: rimgAt b2 bd2 m :: rdevAt bd2 m.d :: R)) => imaged_any b1 bd1 bh b2 bd2 m HM.out (by omega) (by omega) x ko x.keep.length kc HAB.out.1 HAB.out.2 hSz R w H)
                  clear hst
                  generalize actM m x = m2 at *
                  go_wp2_with fail
                  refine (HIM.out _ wr hown).mono ?_
                  rintro e w6 ⟨rfl, hx6, h6⟩
                  clear HIM
                  go_wp2_with fail
                  go_roundw
                  case rel => exact ⟨k + 1, m2, by omega, by go_num, hxr.trans hx6, HST.out, by omega, by omega, h6⟩
                  case measure => simp [intOf]; omega
                · go_wp2_with fail
                  refine (asimage_any b1 bd1 bh b2 bd2 m HM.out _ wr hown).mono ?_
                  rintro e w7 ⟨rfl, hx7, h7⟩
                  go_wp2_with fail
                  go_ret
                  exact ⟨rfl, below_of 4 h7 rfl (hxr.trans hx7)⟩
            · have hpos : 0 < fl := by omega
              have HF := Lib.hid hf
              have HPE := Lib.hid (errV_pos hpos)
              clear hf HOK
              go_wp2_with fail
              refine (HO1.out _ wr (own_pick 1 h6 rfl)).mono ?_
              rintro e w4 (⟨-, rfl, hx4, h7⟩ | ⟨hz, -⟩)
              case inr => exact absurd hz HF.out
              dsimp only at h7
              rw [HSE.out] at h7
              clear c f
              go_wp2_with fail
              refine (HO2.out _ w4 (own_pick 1 h7 rfl)).mono ?_
              rintro e w5 (⟨-, rfl, hx5, h8⟩ | ⟨hz, -⟩)
              case inr => exact absurd hz HF.out
              dsimp only at h8
              rw [HSE.out] at h8
              have hpn := dev_pending bd1 (ofDev s) _ w5 (own_pick 1 h8 rfl)
              rw [hpe] at hpn
              have HPN := Lib.hid hpn
              clear hpn hpe hwe
              go_wp2_with fail
              refine (same_any fl fl w5 hop).mono ?_
              rintro e w' ⟨rfl, rfl⟩
              go_wp2_with fail
              refine HPN.out.mono ?_
              rintro e w' ⟨rfl, rfl⟩
              go_wp2_with fail
              go_ret
              exact ⟨rfl, below_of 2 h8 rfl ((hxr.trans hx4).trans hx5)⟩
      · have hok' : ofOk s = false := by simpa using hok
        obtain ⟨rfl, rfl⟩ := hno hok'
        rw [show errV 1 = .iface 121 (.int .i64 1) from rfl]
        clear hno hyes hok hok'
        go_wp2_with fail
        go_ret
        exact ⟨rfl, below_of 0 h1 rfl hx1⟩
    · have hF : light l 20 = false := by simpa using hL
      rw [hF]
      clear hL hF
      go_wp2_with fail
      go_ret
      exact ⟨rfl, below_of 0 h1 rfl hx1⟩
  · go_wp2_with fail
    go_ret
    exact ⟨rfl, below_of 0 h1 rfl hx1⟩
end Go.Proofs.Ytbpblokfiajpjaa

namespace Go.Proofs.Ytbpblokfiajpjaa.imageOpensDone
open Go.ChangeShapes Go.WideShapes Go.ChangeAt Go.RowKit
open Go.ChangeMaps (open_string shut_string)
set_option linter.unusedVariables false

theorem own : ownKnob Try.prog.godebug = none := by kernel_rfl
theorem laidOut : laidOutB Try.prog = true := by kernel_rfl

set_option maxRecDepth 100000 in
theorem lifted (os : Os) (started : os.Started) (H : Type) (enc : TypeId × Value → H) :
    ReturnsInHanded {} Try.checked os 12 .any (Rows.imageOpensSpec.pre6 enc Try.prog Try.f12 Rows.imageOpensRow.domain false) (Rows.imageOpensSpec.post enc Try.prog Try.f12 false true false false) := by
  refine returnsInHanded_of_change (C := Try.checked) own started (by kernel_rfl) Try.func12
    (ChangeSpec.witness6 (enc := enc) (C := Try.checked) false ⟨#[], #[.string ByteArray.empty, .slice none 0 0], []⟩ 8 (by kernel_rfl) (by kernel_rfl) (by kernel_rfl) (by kernel_rfl)) ?_
  intro W base args ds gs before hval0 hW hcnd _
  have hval : ∀ (j : Nat) t v, Try.f12.params[j]? = some t → args[j]? = some v → Value.okWide Try.prog W .any base t v := hval0
  have hW' := hW
  obtain ⟨p, q, hA0, hV, rfl, hfz, hnd⟩ := hW
  have hA : DataW.TrodAll enc Try.prog W 0 (fun _ => true) true Try.f12.params.toList args.toList ds p := hA0
  rw [Try.params12] at hA hval
  obtain ⟨v0, vs0, d0, ds0, p0, q0, hargs, rfl, rfl, h0, r0⟩ := trodAll_cons hA
  obtain ⟨v1, vs1, d1, ds1, p1, q1, rfl, rfl, rfl, h1, r1⟩ := trodAll_cons r0
  obtain ⟨rfl, rfl, rfl⟩ := trodAll_nil r1
  obtain rfl : args = #[v0, v1] := by cases args; simp_all
  obtain ⟨rfl, rfl⟩ := trodVars_none hV
  obtain ⟨a0, rfl, rfl, rfl, k0⟩ := open_string Try.underlying9 (hval 0 9 v0 rfl rfl) h0
  obtain ⟨ao1, len1, cap1, rfl⟩ := okWide_slice Try.underlying22 (hval 1 22 v1 rfl rfl)
  have t1 := h1
  have lt1 : ∀ x ∈ p1, x.block < W.heap.size := by obtain ⟨m, hm⟩ := t1; exact DataW.trod_lt m _ _ _ hm
  obtain ⟨a1, k1⟩ : ∃ l, ActsAt W (.slice ao1 len1 cap1) l := by
    obtain ⟨fuel, hf⟩ := h1
    exact acts_open hf
  clear hA0 hval0
  refine (imageOpens_walk a0 _ a1 W (by simpa [maxLen] using k0) k1).mono fun e W' ⟨he, bel⟩ => ?_
  subst he
  exact ⟨_, rfl, _, _, _, [], _, [], hW', trodAll_mk1 (shut_bool Try.underlying4 _), (trodAll_cons_mk (shut_string Try.underlying9 k0) (trodAll_cons_mk (Below.trod laidOut (by kernel_rfl) (of_decide_eq_true (by kernel_rfl)) t1 bel lt1) trodAll_mk0)), rfl, bel.frame _, fun h => by cases h⟩

theorem over : Rows.imageOpensRow.holds Try.pinned (OpenSpec.ofChange Rows.imageOpensSpec) :=
  OpenClaim.holds_of_wide 12 Try.f12 rfl rfl rfl rfl rfl rfl rfl ⟨rfl, rfl, rfl, rfl, rfl⟩ rfl rfl rfl rfl rfl (by kernel_rfl) Try.func12 (by kernel_rfl)
    (of_decide_eq_true (by kernel_rfl)) (by unfold Func.isWrapper; first | (rw [if_pos (by decide +kernel)]; kernel_rfl) | (rw [if_neg (by decide +kernel)]; exact ⟨rfl, rfl⟩))
    (fun os started H enc _ => lifted os started H enc)

theorem proved : Rows.ImageOpensSaid := over
#print axioms proved
end Go.Proofs.Ytbpblokfiajpjaa.imageOpensDone
