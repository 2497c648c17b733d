/- A closed fact: a cluster is filled; an act on an image and on its model is answered the same. The loops of a function's body, taken out of it; a frame by its slots. ImageSays: its loop: one theorem for each kind of act. No conditions. -/
import Derived.Test.YtbpblokfiajpjaaPka97230534f
import Derived.Test.YtbpblokfiajpjaaProg
namespace Go.Proofs.Ytbpblokfiajpjaa
open Go.RowKit Go.SL Go.Crc
attribute [local go_sem ↓] Go.wp_at_zero Go.wp_at_succ

theorem created_is (d : DevM) (c p b : Int) : (createR d c p b).2 = madeM (createR d c p b).2.d c p b := by
  unfold createR
  split
  · rfl
  · split
    · rfl
    · split <;> rfl
theorem created_good {d : DevM} (hd : d.Ok) (hf : d.fail < 0) (hp : d.pend.length < 999000) (hw : d.writes < 999000) {c p b : Int} (h : ¬ fitBad d c p b) : (createR d c p b).1 = 0 ∧ (createR d c p b).2.d.fail < 0 := by
  have hb : ¬ headBad c p b := fun h' => h (.inl h')
  have hn : needN c p ≤ d.fl.length := Int.not_lt.1 fun h' => h (.inr h')
  have hbb := hb
  unfold headBad at hbb
  have hzl : (zeroT c).length = c.toNat := by simp [zeroT]
  have hrn : rowsN c.toNat ≤ 4 := by unfold rowsN; omega
  have hrl : (rowsL (zeroT c)).length = rowsN c.toNat := by simp [rowsL, hzl]
  have hn2 : 1 + (rowsN c.toNat : Int) + 4 * p ≤ d.fl.length := hn
  obtain ⟨o1, o2, o3, o4⟩ := puts_ok (l := rowsL (zeroT c)) (a := 1) hd (by omega) (by omega)
  obtain ⟨g1, g2⟩ := puts_good (l := rowsL (zeroT c)) (a := 1) hf (by omega) (by rw [hrl]; omega) (fun s hs => by
    unfold rowsL at hs
    obtain ⟨k, hk, rfl⟩ := List.mem_map.1 hs
    rw [List.mem_range, hzl] at hk
    rw [rowOf_is (P := 40) (by omega) (by omega) (zero_ents c 40) (by rw [hzl]; exact hk)]
    exact rowBytes_size _ _)
  unfold createR
  rw [if_neg h, if_neg (by simpa using g1)]
  generalize (d.puts 1 (rowsL (zeroT c))).2 = d1 at *
  have hl1 : d1.flush.fl.length = d1.fl.length := by simp only [DevM.flush, foldl_setAt_length]
  obtain ⟨w1, w2⟩ := write_good (d := d1.flush) g2 (a := 0) (by omega) (by omega) (s := headS c p b) (seal_size (by simp))
  rw [if_neg (by simpa using w1)]
  exact ⟨rfl, w2⟩
def oneX : ByteArray := ⟨#[120]⟩

set_option maxRecDepth 100000 in
set_option maxHeartbeats 8000000 in
theorem images_any (R : List SL.HP) (w : World) (H : own w R) : Calls Try.prog 66 #[] w fun e w' => e = .returned (.bool true) ∧ Ext w w' ∧ own w' R := by
  have ok0 : (newDev 40).Ok := newDev_ok (by decide)
  have hfit : ¬ fitBad (newDev 40) 3 4 (-1) := by
    intro h
    rcases h with h | h
    · revert h; decide
    · rw [show needN 3 4 = 18 from rfl, show (newDev 40).fl.length = 40 by simp [newDev]] at h
      omega
  have hg := created_good ok0 (show (newDev 40).fail < 0 by decide) (by decide) (by decide) hfit
  have hok := created_ok (c := 3) (p := 4) (b := -1) ok0 (by decide) (by decide)
  have his := created_is (newDev 40) 3 4 (-1)
  have HCR := Lib.hid (fun (b : Nat) (R : List SL.HP) (w : World) (H : own w (devAt b (newDev 40) :: R)) => create_any b (newDev 40) ok0 (by decide) (by decide) 3 4 (-1) R w H)
  generalize createR (newDev 40) 3 4 (-1) = S at *
  obtain ⟨f, m⟩ := S
  dsimp only at hg hok his
  obtain ⟨hf0, hfail⟩ := hg
  obtain ⟨-, -, -, h4, h5⟩ := hok
  obtain ⟨hm, -, hpend, -⟩ := h5 hf0
  rw [show (newDev 40).writes = 0 from rfl] at h4
  have ht : m.t = [(0, 0), (0, 0), (0, 0)] := by rw [his]; rfl
  have hh : m.held = [] := by rw [his]; rfl
  have hp : m.p = 4 := by rw [his]; rfl
  have hfp : m.freeP = (0 : Nat) := freeP_some (P := 4) hp (by decide) (by unfold ImgM.openB; rw [ht, hh]; rfl) (fun j h => by omega)
  obtain ⟨g1, g2, g3, g4⟩ := fill_good hm hfail (by omega) (by rw [hpend]; decide) (k := 2) (by rw [ht]; decide) (by rw [ht]; decide) (s := zs 63 ++ oneX) (by rw [ByteArray.size_append, zs_size]; rfl) hfp (by rw [hp]; decide)
  have sf := step_fill hm (by omega) (by rw [hpend]; decide) 2 (zs 63 ++ oneX)
  have hfn := free_count sf.ok
  have HFI := Lib.hid (fun (b1 bd bh : Nat) (R : List SL.HP) (w : World) (H : own w (imgAt b1 bd bh m :: devAt bd m.d :: R)) => fill_any b1 bd bh m hm (by rw [hpend]; decide) (by omega) 2 (zs 63 ++ oneX) (by rw [ByteArray.size_append, zs_size]; decide) R w H)
  have hokF := sf.ok
  have hpF := sf.p
  generalize m.fill 2 (zs 63 ++ oneX) = F at *
  obtain ⟨ff, m2⟩ := F
  dsimp only at g1 g2 g3 g4 hfn hokF hpF HFI
  rw [g2, g3, hpF, hp, ht] at hfn
  have hfn3 : (m2.freeN : Int) = 3 := by
    have : (dataL (([(0, 0), (0, 0), (0, 0)] : List Ent).set 2 (2, ((0 : Nat) : Int)))).length = 1 := rfl
    rw [this] at hfn
    simp only [List.length_nil] at hfn
    omega
  subst hf0 g1
  have HRD := Lib.hid (fun (b1 bd bh : Nat) (R : List SL.HP) (w : World) (H : own w (imgAt b1 bd bh m2 :: devAt bd m2.d :: R)) => (by
    have h := read_any b1 bd bh m2 hokF 2 R w H
    rw [show m2.read 2 = (zs 63 ++ oneX, 0) from g4] at h
    exact h : Calls Try.prog 88 #[.pointer (some ⟨b1, 0, none⟩), .int .i64 2] w fun e w' => e = .returned (.tuple #[.string (zs 63 ++ oneX), errV 0]) ∧ Ext w w' ∧ own w' (imgAt b1 bd bh m2 :: devAt bd m2.d :: R)))
  have HFR := Lib.hid (fun (b1 bd bh : Nat) (R : List SL.HP) (w : World) (H : own w (imgAt b1 bd bh m2 :: R)) => free_any b1 bd bh m2 hokF R w H)
  rw [hfn3] at HFR
  have hz : (zs 63).size = 63 := zs_size 63
  have hb : (zs 63 ++ oneX).size = 64 := by rw [ByteArray.size_append, zs_size]; rfl
  clear g2 g3 g4 hfn hfn3 hokF hpF sf his ht hh hp hfp hm hpend hfail h4 h5 hfit
  unfold headV at HCR
  rw [errV_0] at HRD HFI
  go_enter Try.func66, Try.ntmps66
  go_wp2_with fail
  refine (dev_new_yes 40 R w rfl H).mono ?_
  rintro e w1 ⟨bd, rfl, hx1, h1⟩
  go_wp2_with fail
  refine (HCR.out bd _ w1 h1).mono ?_
  rintro e w2 (⟨hne, -⟩ | ⟨-, bi, bh, rfl, hx2, h2⟩)
  · exact absurd rfl hne
  dsimp only at h2
  go_wp2_with fail
  refine (noughts_any 63 (by decide) _ w2 h2).mono ?_
  rintro e w3 ⟨rfl, hx3, h3⟩
  go_wp2_with fail
  refine (HFI.out bi bd bh _ w3 h3).mono ?_
  rintro e w4 ⟨rfl, hx4, h4⟩
  go_wp2_with fail
  refine (HRD.out bi bd bh _ w4 h4).mono ?_
  rintro e w5 ⟨rfl, hx5, h5⟩
  go_wp2_with fail
  refine (same_any 0 0 w5 (by omega)).mono ?_
  rintro e w6 ⟨rfl, rfl⟩
  go_wp2_with fail
  refine (same_any 0 0 w5 (by omega)).mono ?_
  rintro e w6 ⟨rfl, rfl⟩
  go_wp2_with fail
  refine (noughts_any 63 (by decide) _ w5 h5).mono ?_
  rintro e w6 ⟨rfl, hx6, h6⟩
  go_wp2_with fail
  refine (HFR.out bi bd bh _ w6 h6).mono ?_
  rintro e w7 ⟨rfl, hx7, h7⟩
  go_wp2_with fail
  go_ret
  exact ⟨rfl, ((((((hx1.trans hx2).trans hx3).trans hx4).trans hx5).trans hx6).trans hx7), own_drop (own_drop h7)⟩

theorem setE_nonneg (m : ImgM) (k : Nat) (e : Ent) : 0 ≤ (m.setE k e).1 := by
  unfold ImgM.setE
  dsimp only
  split
  · exact write_nonneg _ _ _
  · simp
theorem wr_nonneg (m : ImgM) (k fr : Int) (s : ByteArray) : 0 ≤ (m.wr k fr s).1 := by
  unfold ImgM.wr
  split
  · simp
  · split
    · simp
    · exact puts_nonneg
theorem fill_nonneg (m : ImgM) (k : Int) (s : ByteArray) : 0 ≤ (m.fill k s).1 := by
  unfold ImgM.fill
  split
  · simp
  · split
    · simp
    · split
      · simp
      · unfold ImgM.fillAt
        split
        · exact puts_nonneg
        · exact setE_nonneg _ _ _
theorem clear_nonneg (m : ImgM) (k : Int) : 0 ≤ (m.clear k).1 := by
  unfold ImgM.clear
  split
  · split
    · simp
    · exact setE_nonneg _ _ _
  · simp
theorem link_nonneg (m : ImgM) (k : Int) : 0 ≤ (m.link k).1 := by
  unfold ImgM.link
  split
  · simp
  · split
    · exact write_nonneg _ _ _
    · simp
def actM (m : ImgM) (x : Act) : ImgM :=
  if (x.kind.toList == [119, 114, 105, 116, 101]) = true then (m.wr x.A x.B x.S).2 else if (x.kind.toList == [102, 105, 108, 108]) = true then (m.fill x.A x.S).2
  else if (x.kind.toList == [99, 108, 101, 97, 114]) = true then (m.clear x.A).2 else if (x.kind.toList == [108, 105, 110, 107]) = true then (m.link x.A).2
  else if (x.kind.toList == [102, 97, 105, 108]) = true then (if x.A < 0 then m else { m with d := { m.d with fail := x.A } }) else m.flush
theorem step_act {m : ImgM} (hm : m.Ok) (hw : m.d.writes < 999000) (hp : m.d.pend.length < 999000) (x : Act) (hA : i64ok x.A) : Step 5 m (actM m x) := by
  unfold actM
  split
  · exact (step_wr hm hw hp _ _ _).mono (by omega)
  · split
    · exact step_fill hm hw hp _ _
    · split
      · exact (step_clear hm (by omega) (by omega) _).mono (by omega)
      · split
        · exact (step_link hm hw _).mono (by omega)
        · split
          · split
            · exact Step.refl hm 5
            · exact (step_fail hm (by omega) hA.2).mono (by omega)
          · exact (step_flush hm).mono (by omega)
set_option maxRecDepth 1000000 in
set_option maxHeartbeats 8000000 in
theorem imaged_write (b1 bd1 bh b2 bd2 : Nat) (m : ImgM) (hm : m.Ok) (hp : m.d.pend.length < 999000) (hw : m.d.writes < 999000) (x : Act) (ko : Option Addr) (kn kc : Nat) (hA : i64ok x.A) (hB : i64ok x.B) (hS : x.S.size ≤ 9223372036854775807) (R : List SL.HP) (w : World) (H : own w (imgAt b1 bd1 bh m :: devAt bd1 m.d :: rimgAt b2 bd2 m :: rdevAt bd2 m.d :: R)) (k0 : (x.kind.toList == [119, 114, 105, 116, 101]) = true) :
    Calls Try.prog 73 #[.pointer (some ⟨b1, 0, none⟩), .pointer (some ⟨b2, 0, none⟩), .agg #[.string x.kind, .int .i64 x.A, .int .i64 x.B, .int .i64 x.C, .int .i64 x.D, .string x.S, .slice ko kn kc]] w fun e w' => e = .returned (.bool true) ∧ Ext w w' ∧ own w' (imgAt b1 bd1 bh (actM m x) :: devAt bd1 (actM m x).d :: rimgAt b2 bd2 (actM m x) :: rdevAt bd2 (actM m x).d :: R) := by
  unfold actM
  rw [if_pos k0]
  have hh : m.held.length ≤ 1000000 := by have := held_le40 hm; omega
  have hcode := wr_nonneg m x.A x.B x.S
  have HP := Lib.hid (fun (R : List SL.HP) (w : World) (H : own w (imgAt b1 bd1 bh m :: devAt bd1 m.d :: R)) => write_any b1 bd1 bh m hm hp hw x.A x.B hB x.S hS R w H)
  have HR := Lib.hid (fun (R : List SL.HP) (w : World) (H : own w (rimgAt b2 bd2 m :: rdevAt bd2 m.d :: R)) => rwrite_any b2 bd2 m hm hp hw x.A x.B hB x.S hS R w H)
  generalize m.wr x.A x.B x.S = S at *
  obtain ⟨f, m2⟩ := S
  dsimp only at hcode HP HR ⊢
  obtain ⟨A1, A2⟩ := hA
  obtain hB := hB
  have h0 := own_behind [_, _] (own_alloc H (.cells #[.string x.kind, .int .i64 x.A, .int .i64 x.B, .int .i64 x.C, .int .i64 x.D, .string x.S, .slice ko kn kc] 36))
  have hxa := (Ext.refl w).alloc (.cells #[.string x.kind, .int .i64 x.A, .int .i64 x.B, .int .i64 x.C, .int .i64 x.D, .string x.S, .slice ko kn kc] 36)
  go_enter Try.func73, Try.ntmps73
  go_upto_region 1 with (fail)
  generalize w.heap.size = ba at *
  generalize w.alloc (.cells #[.string x.kind, .int .i64 x.A, .int .i64 x.B, .int .i64 x.C, .int .i64 x.D, .string x.S, .slice ko kn kc] 36) = wa at *
  obtain ⟨c, f0⟩ := own_cells 2 h0 rfl
  go_upto_region 3 with (fail)
  have hd := own_drew h0
  go_region_held3 (fun w' => w'.cell? ⟨ba, 1, none⟩ = some (.int .i64 x.A) ∧ w'.cell? ⟨ba, 2, none⟩ = some (.int .i64 x.B) ∧ w'.cell? ⟨ba, 5, none⟩ = some (.string x.S)) (first | exact ⟨(own_cells 2 hd rfl).1 1, (own_cells 2 hd rfl).1 2, (own_cells 2 hd rfl).1 5⟩ | exact ⟨(own_cells 2 h4 rfl).1 1, (own_cells 2 h4 rfl).1 2, (own_cells 2 h4 rfl).1 5⟩ | exact ⟨(own_cells 4 h5 rfl).1 1, (own_cells 4 h5 rfl).1 2, (own_cells 4 h5 rfl).1 5⟩) (first | (go_at_call 92; refine (HP.out _ _ hd).mono ?_; rintro e w4 ⟨rfl, hx4, h4⟩) | (go_at_call 93; refine (HR.out _ _ (own_pick 4 (own_pick 4 h4 rfl) rfl)).mono ?_; rintro e w5 ⟨rfl, hx5, h5⟩) | (go_at_call 16; refine (same_any f f _ hcode).mono ?_; rintro e w' ⟨rfl, rfl⟩))
  clear c f0
  go_wp2_with fail
  go_ret
  exact ⟨by simp, (hxa.drew.trans hx4).trans hx5, own_erase 4 (own_pick 3 (own_pick 3 h5 rfl) rfl) rfl⟩
set_option maxRecDepth 1000000 in
set_option maxHeartbeats 8000000 in
theorem imaged_fill (b1 bd1 bh b2 bd2 : Nat) (m : ImgM) (hm : m.Ok) (hp : m.d.pend.length < 999000) (hw : m.d.writes < 999000) (x : Act) (ko : Option Addr) (kn kc : Nat) (hA : i64ok x.A) (hB : i64ok x.B) (hS : x.S.size ≤ 9223372036854775807) (R : List SL.HP) (w : World) (H : own w (imgAt b1 bd1 bh m :: devAt bd1 m.d :: rimgAt b2 bd2 m :: rdevAt bd2 m.d :: R)) (k0 : ¬ (x.kind.toList == [119, 114, 105, 116, 101]) = true) (k1 : (x.kind.toList == [102, 105, 108, 108]) = true) :
    Calls Try.prog 73 #[.pointer (some ⟨b1, 0, none⟩), .pointer (some ⟨b2, 0, none⟩), .agg #[.string x.kind, .int .i64 x.A, .int .i64 x.B, .int .i64 x.C, .int .i64 x.D, .string x.S, .slice ko kn kc]] w fun e w' => e = .returned (.bool true) ∧ Ext w w' ∧ own w' (imgAt b1 bd1 bh (actM m x) :: devAt bd1 (actM m x).d :: rimgAt b2 bd2 (actM m x) :: rdevAt bd2 (actM m x).d :: R) := by
  unfold actM
  rw [if_neg k0]
  rw [if_pos k1]
  have hh : m.held.length ≤ 1000000 := by have := held_le40 hm; omega
  have hcode := fill_nonneg m x.A x.S
  have HP := Lib.hid (fun (R : List SL.HP) (w : World) (H : own w (imgAt b1 bd1 bh m :: devAt bd1 m.d :: R)) => fill_any b1 bd1 bh m hm hp hw x.A x.S hS R w H)
  have HR := Lib.hid (fun (R : List SL.HP) (w : World) (H : own w (rimgAt b2 bd2 m :: rdevAt bd2 m.d :: R)) => rfill_any b2 bd2 m hm hp hw hh x.A x.S hS R w H)
  generalize m.fill x.A x.S = S at *
  obtain ⟨f, m2⟩ := S
  dsimp only at hcode HP HR ⊢
  obtain ⟨A1, A2⟩ := hA
  obtain hB := hB
  have h0 := own_behind [_, _] (own_alloc H (.cells #[.string x.kind, .int .i64 x.A, .int .i64 x.B, .int .i64 x.C, .int .i64 x.D, .string x.S, .slice ko kn kc] 36))
  have hxa := (Ext.refl w).alloc (.cells #[.string x.kind, .int .i64 x.A, .int .i64 x.B, .int .i64 x.C, .int .i64 x.D, .string x.S, .slice ko kn kc] 36)
  go_enter Try.func73, Try.ntmps73
  go_upto_region 1 with (fail)
  generalize w.heap.size = ba at *
  generalize w.alloc (.cells #[.string x.kind, .int .i64 x.A, .int .i64 x.B, .int .i64 x.C, .int .i64 x.D, .string x.S, .slice ko kn kc] 36) = wa at *
  obtain ⟨c, f0⟩ := own_cells 2 h0 rfl
  go_upto_region 5 with (fail)
  have hd := own_drew h0
  go_region_held3 (fun w' => w'.cell? ⟨ba, 1, none⟩ = some (.int .i64 x.A) ∧ w'.cell? ⟨ba, 5, none⟩ = some (.string x.S)) (first | exact ⟨(own_cells 2 hd rfl).1 1, (own_cells 2 hd rfl).1 5⟩ | exact ⟨(own_cells 2 h4 rfl).1 1, (own_cells 2 h4 rfl).1 5⟩ | exact ⟨(own_cells 4 h5 rfl).1 1, (own_cells 4 h5 rfl).1 5⟩) (first | (go_at_call 87; refine (HP.out _ _ hd).mono ?_; rintro e w4 ⟨rfl, hx4, h4⟩) | (go_at_call 94; refine (HR.out _ _ (own_pick 4 (own_pick 4 h4 rfl) rfl)).mono ?_; rintro e w5 ⟨rfl, hx5, h5⟩) | (go_at_call 16; refine (same_any f f _ hcode).mono ?_; rintro e w' ⟨rfl, rfl⟩))
  clear c f0
  go_wp2_with fail
  go_ret
  exact ⟨by simp, (hxa.drew.trans hx4).trans hx5, own_erase 4 (own_pick 3 (own_pick 3 h5 rfl) rfl) rfl⟩
set_option maxRecDepth 1000000 in
set_option maxHeartbeats 8000000 in
theorem imaged_clear (b1 bd1 bh b2 bd2 : Nat) (m : ImgM) (hm : m.Ok) (hp : m.d.pend.length < 999000) (hw : m.d.writes < 999000) (x : Act) (ko : Option Addr) (kn kc : Nat) (hA : i64ok x.A) (hB : i64ok x.B) (hS : x.S.size ≤ 9223372036854775807) (R : List SL.HP) (w : World) (H : own w (imgAt b1 bd1 bh m :: devAt bd1 m.d :: rimgAt b2 bd2 m :: rdevAt bd2 m.d :: R)) (k0 : ¬ (x.kind.toList == [119, 114, 105, 116, 101]) = true) (k1 : ¬ (x.kind.toList == [102, 105, 108, 108]) = true) (k2 : (x.kind.toList == [99, 108, 101, 97, 114]) = true) :
    Calls Try.prog 73 #[.pointer (some ⟨b1, 0, none⟩), .pointer (some ⟨b2, 0, none⟩), .agg #[.string x.kind, .int .i64 x.A, .int .i64 x.B, .int .i64 x.C, .int .i64 x.D, .string x.S, .slice ko kn kc]] w fun e w' => e = .returned (.bool true) ∧ Ext w w' ∧ own w' (imgAt b1 bd1 bh (actM m x) :: devAt bd1 (actM m x).d :: rimgAt b2 bd2 (actM m x) :: rdevAt bd2 (actM m x).d :: R) := by
  unfold actM
  rw [if_neg k0]
  rw [if_neg k1]
  rw [if_pos k2]
  have hh : m.held.length ≤ 1000000 := by have := held_le40 hm; omega
  have hcode := clear_nonneg m x.A
  have HP := Lib.hid (fun (R : List SL.HP) (w : World) (H : own w (imgAt b1 bd1 bh m :: devAt bd1 m.d :: R)) => clear_any b1 bd1 bh m hm (by omega) (by omega) x.A R w H)
  have HR := Lib.hid (fun (R : List SL.HP) (w : World) (H : own w (rimgAt b2 bd2 m :: rdevAt bd2 m.d :: R)) => rclear_any b2 bd2 m hm (by omega) (by omega) hh x.A R w H)
  generalize m.clear x.A = S at *
  obtain ⟨f, m2⟩ := S
  dsimp only at hcode HP HR ⊢
  obtain ⟨A1, A2⟩ := hA
  obtain hB := hB
  have h0 := own_behind [_, _] (own_alloc H (.cells #[.string x.kind, .int .i64 x.A, .int .i64 x.B, .int .i64 x.C, .int .i64 x.D, .string x.S, .slice ko kn kc] 36))
  have hxa := (Ext.refl w).alloc (.cells #[.string x.kind, .int .i64 x.A, .int .i64 x.B, .int .i64 x.C, .int .i64 x.D, .string x.S, .slice ko kn kc] 36)
  go_enter Try.func73, Try.ntmps73
  go_upto_region 1 with (fail)
  generalize w.heap.size = ba at *
  generalize w.alloc (.cells #[.string x.kind, .int .i64 x.A, .int .i64 x.B, .int .i64 x.C, .int .i64 x.D, .string x.S, .slice ko kn kc] 36) = wa at *
  obtain ⟨c, f0⟩ := own_cells 2 h0 rfl
  go_upto_region 7 with (fail)
  have hd := own_drew h0
  go_region_held3 (fun w' => w'.cell? ⟨ba, 1, none⟩ = some (.int .i64 x.A)) (first | exact (own_cells 2 hd rfl).1 1 | exact (own_cells 2 h4 rfl).1 1 | exact (own_cells 4 h5 rfl).1 1) (first | (go_at_call 95; refine (HP.out _ _ hd).mono ?_; rintro e w4 ⟨rfl, hx4, h4⟩) | (go_at_call 96; refine (HR.out _ _ (own_pick 4 (own_pick 4 h4 rfl) rfl)).mono ?_; rintro e w5 ⟨rfl, hx5, h5⟩) | (go_at_call 16; refine (same_any f f _ hcode).mono ?_; rintro e w' ⟨rfl, rfl⟩))
  clear c f0
  go_wp2_with fail
  go_ret
  exact ⟨by simp, (hxa.drew.trans hx4).trans hx5, own_erase 4 (own_pick 3 (own_pick 3 h5 rfl) rfl) rfl⟩
set_option maxRecDepth 1000000 in
set_option maxHeartbeats 8000000 in
theorem imaged_link (b1 bd1 bh b2 bd2 : Nat) (m : ImgM) (hm : m.Ok) (hp : m.d.pend.length < 999000) (hw : m.d.writes < 999000) (x : Act) (ko : Option Addr) (kn kc : Nat) (hA : i64ok x.A) (hB : i64ok x.B) (hS : x.S.size ≤ 9223372036854775807) (R : List SL.HP) (w : World) (H : own w (imgAt b1 bd1 bh m :: devAt bd1 m.d :: rimgAt b2 bd2 m :: rdevAt bd2 m.d :: R)) (k0 : ¬ (x.kind.toList == [119, 114, 105, 116, 101]) = true) (k1 : ¬ (x.kind.toList == [102, 105, 108, 108]) = true) (k2 : ¬ (x.kind.toList == [99, 108, 101, 97, 114]) = true) (k3 : (x.kind.toList == [108, 105, 110, 107]) = true) :
    Calls Try.prog 73 #[.pointer (some ⟨b1, 0, none⟩), .pointer (some ⟨b2, 0, none⟩), .agg #[.string x.kind, .int .i64 x.A, .int .i64 x.B, .int .i64 x.C, .int .i64 x.D, .string x.S, .slice ko kn kc]] w fun e w' => e = .returned (.bool true) ∧ Ext w w' ∧ own w' (imgAt b1 bd1 bh (actM m x) :: devAt bd1 (actM m x).d :: rimgAt b2 bd2 (actM m x) :: rdevAt bd2 (actM m x).d :: R) := by
  unfold actM
  rw [if_neg k0]
  rw [if_neg k1]
  rw [if_neg k2]
  rw [if_pos k3]
  have hh : m.held.length ≤ 1000000 := by have := held_le40 hm; omega
  have hcode := link_nonneg m x.A
  have HP := Lib.hid (fun (R : List SL.HP) (w : World) (H : own w (imgAt b1 bd1 bh m :: devAt bd1 m.d :: R)) => link_any b1 bd1 bh m hm hw x.A R w H)
  have HR := Lib.hid (fun (R : List SL.HP) (w : World) (H : own w (rimgAt b2 bd2 m :: rdevAt bd2 m.d :: R)) => rlink_any b2 bd2 m hm hw x.A R w H)
  generalize m.link x.A = S at *
  obtain ⟨f, m2⟩ := S
  dsimp only at hcode HP HR ⊢
  obtain ⟨A1, A2⟩ := hA
  obtain hB := hB
  have h0 := own_behind [_, _] (own_alloc H (.cells #[.string x.kind, .int .i64 x.A, .int .i64 x.B, .int .i64 x.C, .int .i64 x.D, .string x.S, .slice ko kn kc] 36))
  have hxa := (Ext.refl w).alloc (.cells #[.string x.kind, .int .i64 x.A, .int .i64 x.B, .int .i64 x.C, .int .i64 x.D, .string x.S, .slice ko kn kc] 36)
  go_enter Try.func73, Try.ntmps73
  go_upto_region 1 with (fail)
  generalize w.heap.size = ba at *
  generalize w.alloc (.cells #[.string x.kind, .int .i64 x.A, .int .i64 x.B, .int .i64 x.C, .int .i64 x.D, .string x.S, .slice ko kn kc] 36) = wa at *
  obtain ⟨c, f0⟩ := own_cells 2 h0 rfl
  go_upto_region 9 with (fail)
  have hd := own_drew h0
  go_region_held3 (fun w' => w'.cell? ⟨ba, 1, none⟩ = some (.int .i64 x.A)) (first | exact (own_cells 2 hd rfl).1 1 | exact (own_cells 2 h4 rfl).1 1 | exact (own_cells 4 h5 rfl).1 1) (first | (go_at_call 97; refine (HP.out _ _ hd).mono ?_; rintro e w4 ⟨rfl, hx4, h4⟩) | (go_at_call 98; refine (HR.out _ _ (own_pick 4 (own_pick 4 h4 rfl) rfl)).mono ?_; rintro e w5 ⟨rfl, hx5, h5⟩) | (go_at_call 16; refine (same_any f f _ hcode).mono ?_; rintro e w' ⟨rfl, rfl⟩))
  clear c f0
  go_wp2_with fail
  go_ret
  exact ⟨by simp, (hxa.drew.trans hx4).trans hx5, own_erase 4 (own_pick 3 (own_pick 3 h5 rfl) rfl) rfl⟩
set_option maxRecDepth 1000000 in
set_option maxHeartbeats 8000000 in
theorem imaged_fail (b1 bd1 bh b2 bd2 : Nat) (m : ImgM) (hm : m.Ok) (hp : m.d.pend.length < 999000) (hw : m.d.writes < 999000) (x : Act) (ko : Option Addr) (kn kc : Nat) (hA : i64ok x.A) (hB : i64ok x.B) (hS : x.S.size ≤ 9223372036854775807) (R : List SL.HP) (w : World) (H : own w (imgAt b1 bd1 bh m :: devAt bd1 m.d :: rimgAt b2 bd2 m :: rdevAt bd2 m.d :: R)) (k0 : ¬ (x.kind.toList == [119, 114, 105, 116, 101]) = true) (k1 : ¬ (x.kind.toList == [102, 105, 108, 108]) = true) (k2 : ¬ (x.kind.toList == [99, 108, 101, 97, 114]) = true) (k3 : ¬ (x.kind.toList == [108, 105, 110, 107]) = true) (k4 : (x.kind.toList == [102, 97, 105, 108]) = true) :
    Calls Try.prog 73 #[.pointer (some ⟨b1, 0, none⟩), .pointer (some ⟨b2, 0, none⟩), .agg #[.string x.kind, .int .i64 x.A, .int .i64 x.B, .int .i64 x.C, .int .i64 x.D, .string x.S, .slice ko kn kc]] w fun e w' => e = .returned (.bool true) ∧ Ext w w' ∧ own w' (imgAt b1 bd1 bh (actM m x) :: devAt bd1 (actM m x).d :: rimgAt b2 bd2 (actM m x) :: rdevAt bd2 (actM m x).d :: R) := by
  unfold actM
  rw [if_neg k0]
  rw [if_neg k1]
  rw [if_neg k2]
  rw [if_neg k3]
  rw [if_pos k4]
  have hh : m.held.length ≤ 1000000 := by have := held_le40 hm; omega
  by_cases hneg : x.A < 0
  · rw [if_pos hneg]
    obtain ⟨A1, A2⟩ := hA
    obtain hB := hB
    have h0 := own_behind [_, _] (own_alloc H (.cells #[.string x.kind, .int .i64 x.A, .int .i64 x.B, .int .i64 x.C, .int .i64 x.D, .string x.S, .slice ko kn kc] 36))
    have hxa := (Ext.refl w).alloc (.cells #[.string x.kind, .int .i64 x.A, .int .i64 x.B, .int .i64 x.C, .int .i64 x.D, .string x.S, .slice ko kn kc] 36)
    go_enter Try.func73, Try.ntmps73
    go_upto_region 1 with (fail)
    generalize w.heap.size = ba at *
    generalize w.alloc (.cells #[.string x.kind, .int .i64 x.A, .int .i64 x.B, .int .i64 x.C, .int .i64 x.D, .string x.S, .slice ko kn kc] 36) = wa at *
    obtain ⟨c, f0⟩ := own_cells 2 h0 rfl
    go_wp2_with fail
    go_ret
    exact ⟨rfl, hxa, own_erase 2 h0 rfl⟩
  · rw [if_neg hneg]
    obtain ⟨A1, A2⟩ := hA
    obtain hB := hB
    have h0 := own_behind [_, _] (own_alloc H (.cells #[.string x.kind, .int .i64 x.A, .int .i64 x.B, .int .i64 x.C, .int .i64 x.D, .string x.S, .slice ko kn kc] 36))
    have hxa := (Ext.refl w).alloc (.cells #[.string x.kind, .int .i64 x.A, .int .i64 x.B, .int .i64 x.C, .int .i64 x.D, .string x.S, .slice ko kn kc] 36)
    go_enter Try.func73, Try.ntmps73
    go_upto_region 1 with (fail)
    generalize w.heap.size = ba at *
    generalize w.alloc (.cells #[.string x.kind, .int .i64 x.A, .int .i64 x.B, .int .i64 x.C, .int .i64 x.D, .string x.S, .slice ko kn kc] 36) = wa at *
    obtain ⟨c, f0⟩ := own_cells 2 h0 rfl
    obtain ⟨vt, vh, h1⟩ := rimg_open (own_pick 3 h0 rfl)
    obtain ⟨vf, va, vw, h2⟩ := rdev_open (own_pick 6 h1 rfl)
    obtain ⟨cr, fr⟩ := own_cells 0 h2 rfl
    obtain ⟨ci, fi⟩ := own_cells 4 h2 rfl
    go_upto_region 13 with (fail)
    go_still_tail 8, (by kernel_rfl)
    change wpList _ _ _ _ _ wa.drew
    have hd := own_drew h2
    have hxd := hxa.drew
    clear c f0 cr fr ci fi
    generalize wa.drew = wd at *
    obtain ⟨cr, fr⟩ := own_cells 0 hd rfl
    go_upto_region 14 with (fail)
    have h3 := rdev_close (m := { m.d with fail := x.A }) (own_set (i := 3) (v := .int .i64 x.A) 0 hd rfl)
    have hx3 := hxd.setCell ⟨bd2, 3, none⟩ (.int .i64 x.A)
    generalize wd.setCell ⟨bd2, 3, none⟩ (.int .i64 x.A) = w3 at *
    clear cr fr hd h2 h1
    have h4 : own w3 (imgAt b1 bd1 bh m :: devAt bd1 m.d :: pts ba (.cells #[.string x.kind, .int .i64 x.A, .int .i64 x.B, .int .i64 x.C, .int .i64 x.D, .string x.S, .slice ko kn kc] 36 (0, 0)) :: rimgAt b2 bd2 m :: rdevAt bd2 { m.d with fail := x.A } :: R) := own_pick 4 (own_pick 4 (own_pick 4 (rimg_close (own_behind [_, _, _] h3)) rfl) rfl) rfl
    obtain ⟨c, f0⟩ := own_cells 2 h4 rfl
    have hd4 := own_drew h4
    have hif1 : (if x.A < 0 then m.d else { m.d with fail := x.A }) = { m.d with fail := x.A } := if_neg hneg
    have hif2 : (if x.A < 0 then (1 : Int) else 0) = 0 := if_neg hneg
    have HF := Lib.hid (fun (R : List SL.HP) (w : World) (H : own w (devAt bd1 m.d :: R)) => (by
      have h := dev_fail bd1 m.d x.A R w H
      rw [hif1, hif2] at h
      exact h : Calls Try.prog 57 #[.pointer (some ⟨bd1, 0, none⟩), .int .i64 x.A] w fun e w' => e = .returned (errV 0) ∧ Ext w w' ∧ own w' (devAt bd1 { m.d with fail := x.A } :: R)))
    clear hif1 hif2 hneg
    go_region_held3 (fun w' => w'.cell? ⟨ba, 1, none⟩ = some (.int .i64 x.A)) (first | exact (own_cells 2 hd4 rfl).1 1 | exact (own_cells 2 h5 rfl).1 1) (first | (go_at_call 99; refine (imgdev_any b1 bd1 bh m _ _ hd4).mono ?_; rintro e w' ⟨rfl, rfl⟩) | (go_at_call 57; refine (HF.out _ _ (own_pick 1 hd4 rfl)).mono ?_; rintro e w5 ⟨rfl, hx5, h5'⟩; have h5 := own_put hd4 1 rfl h5') | (go_at_call 16; refine (same_any 0 0 _ (by omega)).mono ?_; rintro e w' ⟨rfl, rfl⟩))
    clear c f0
    go_wp2_with fail
    go_ret
    exact ⟨by simp, hx3.drew.trans hx5, own_erase 2 h5 rfl⟩
set_option maxRecDepth 1000000 in
set_option maxHeartbeats 8000000 in
theorem imaged_flush (b1 bd1 bh b2 bd2 : Nat) (m : ImgM) (hm : m.Ok) (hp : m.d.pend.length < 999000) (hw : m.d.writes < 999000) (x : Act) (ko : Option Addr) (kn kc : Nat) (hA : i64ok x.A) (hB : i64ok x.B) (hS : x.S.size ≤ 9223372036854775807) (R : List SL.HP) (w : World) (H : own w (imgAt b1 bd1 bh m :: devAt bd1 m.d :: rimgAt b2 bd2 m :: rdevAt bd2 m.d :: R)) (k0 : ¬ (x.kind.toList == [119, 114, 105, 116, 101]) = true) (k1 : ¬ (x.kind.toList == [102, 105, 108, 108]) = true) (k2 : ¬ (x.kind.toList == [99, 108, 101, 97, 114]) = true) (k3 : ¬ (x.kind.toList == [108, 105, 110, 107]) = true) (k4 : ¬ (x.kind.toList == [102, 97, 105, 108]) = true) :
    Calls Try.prog 73 #[.pointer (some ⟨b1, 0, none⟩), .pointer (some ⟨b2, 0, none⟩), .agg #[.string x.kind, .int .i64 x.A, .int .i64 x.B, .int .i64 x.C, .int .i64 x.D, .string x.S, .slice ko kn kc]] w fun e w' => e = .returned (.bool true) ∧ Ext w w' ∧ own w' (imgAt b1 bd1 bh (actM m x) :: devAt bd1 (actM m x).d :: rimgAt b2 bd2 (actM m x) :: rdevAt bd2 (actM m x).d :: R) := by
  unfold actM
  rw [if_neg k0]
  rw [if_neg k1]
  rw [if_neg k2]
  rw [if_neg k3]
  rw [if_neg k4]
  have hh : m.held.length ≤ 1000000 := by have := held_le40 hm; omega
  have HP := Lib.hid (fun (R : List SL.HP) (w : World) (H : own w (imgAt b1 bd1 bh m :: devAt bd1 m.d :: R)) => imgflush_any b1 bd1 bh m hm.d R w H)
  have HR := Lib.hid (fun (R : List SL.HP) (w : World) (H : own w (rimgAt b2 bd2 m :: rdevAt bd2 m.d :: R)) => rimgflush_any b2 bd2 m hm.d R w H)
  obtain ⟨A1, A2⟩ := hA
  obtain hB := hB
  have h0 := own_behind [_, _] (own_alloc H (.cells #[.string x.kind, .int .i64 x.A, .int .i64 x.B, .int .i64 x.C, .int .i64 x.D, .string x.S, .slice ko kn kc] 36))
  have hxa := (Ext.refl w).alloc (.cells #[.string x.kind, .int .i64 x.A, .int .i64 x.B, .int .i64 x.C, .int .i64 x.D, .string x.S, .slice ko kn kc] 36)
  go_enter Try.func73, Try.ntmps73
  go_upto_region 1 with (fail)
  generalize w.heap.size = ba at *
  generalize w.alloc (.cells #[.string x.kind, .int .i64 x.A, .int .i64 x.B, .int .i64 x.C, .int .i64 x.D, .string x.S, .slice ko kn kc] 36) = wa at *
  obtain ⟨c, f0⟩ := own_cells 2 h0 rfl
  go_wp2_with fail
  refine (HP.out _ wa h0).mono ?_
  rintro e w4 ⟨rfl, hx4, h4⟩
  go_wp2_with fail
  refine (HR.out _ w4 (own_pick 4 (own_pick 4 h4 rfl) rfl)).mono ?_
  rintro e w5 ⟨rfl, hx5, h5⟩
  go_wp2_with fail
  go_ret
  exact ⟨rfl, (hxa.trans hx4).trans hx5, own_erase 4 (own_pick 3 (own_pick 3 h5 rfl) rfl) rfl⟩
theorem imaged_any (b1 bd1 bh b2 bd2 : Nat) (m : ImgM) (hm : m.Ok) (hp : m.d.pend.length < 999000) (hw : m.d.writes < 999000) (x : Act) (ko : Option Addr) (kn kc : Nat) (hA : i64ok x.A) (hB : i64ok x.B) (hS : x.S.size ≤ 9223372036854775807) (R : List SL.HP) (w : World) (H : own w (imgAt b1 bd1 bh m :: devAt bd1 m.d :: rimgAt b2 bd2 m :: rdevAt bd2 m.d :: R)) :
    Calls Try.prog 73 #[.pointer (some ⟨b1, 0, none⟩), .pointer (some ⟨b2, 0, none⟩), .agg #[.string x.kind, .int .i64 x.A, .int .i64 x.B, .int .i64 x.C, .int .i64 x.D, .string x.S, .slice ko kn kc]] w fun e w' => e = .returned (.bool true) ∧ Ext w w' ∧ own w' (imgAt b1 bd1 bh (actM m x) :: devAt bd1 (actM m x).d :: rimgAt b2 bd2 (actM m x) :: rdevAt bd2 (actM m x).d :: R) := by
  by_cases k0 : (x.kind.toList == [119, 114, 105, 116, 101]) = true
  · exact imaged_write b1 bd1 bh b2 bd2 m hm hp hw x ko kn kc hA hB hS R w H k0
  by_cases k1 : (x.kind.toList == [102, 105, 108, 108]) = true
  · exact imaged_fill b1 bd1 bh b2 bd2 m hm hp hw x ko kn kc hA hB hS R w H k0 k1
  by_cases k2 : (x.kind.toList == [99, 108, 101, 97, 114]) = true
  · exact imaged_clear b1 bd1 bh b2 bd2 m hm hp hw x ko kn kc hA hB hS R w H k0 k1 k2
  by_cases k3 : (x.kind.toList == [108, 105, 110, 107]) = true
  · exact imaged_link b1 bd1 bh b2 bd2 m hm hp hw x ko kn kc hA hB hS R w H k0 k1 k2 k3
  by_cases k4 : (x.kind.toList == [102, 97, 105, 108]) = true
  · exact imaged_fail b1 bd1 bh b2 bd2 m hm hp hw x ko kn kc hA hB hS R w H k0 k1 k2 k3 k4
  exact imaged_flush b1 bd1 bh b2 bd2 m hm hp hw x ko kn kc hA hB hS R w H k0 k1 k2 k3 k4
end Go.Proofs.Ytbpblokfiajpjaa

namespace Go.Proofs.Ytbpblokfiajpjaa
def loopsOf : Code → List Code
  | .loop c => [c]
  | .seq a b => loopsOf a ++ loopsOf b
  | .block _ c => loopsOf c
  | .scope c => loopsOf c
  | .cond _ a b => loopsOf a ++ loopsOf b
  | _ => []
theorem frame_is (t : Array Value) (n : Nat) (h : t.size = n) : t = ((List.range n).map fun k => t.getD k undef).toArray := by
  apply Array.ext
  · simp [h]
  · intro i h1 h2
    simp [h1]
end Go.Proofs.Ytbpblokfiajpjaa

namespace Go.Proofs.Ytbpblokfiajpjaa
open Go.RowKit Go.SL Go.Crc
attribute [local go_sem ↓] Go.wp_at_zero Go.wp_at_succ

theorem tmod3 (n : Nat) : ((n : Int)).tmod 3 = ((n % 3 : Nat) : Int) := by
  rw [Int.tmod_eq_emod_of_nonneg (by omega)]; omega
noncomputable def iBody : Code := ((Try.f10.body.map loopsOf).getD []).getD 0 .skip
def iRel (w0 : World) (len : Nat) (d n i r k : Value) (wr : World) : Prop :=
  ∃ q : Nat, q ≤ len ∧ k = .int .i64 q ∧ Ext w0 wr ∧ ∃ (b1 bd1 bh b2 bd2 : Nat) (m : ImgM) (u : List Ent), d = .pointer (some ⟨bd1, 0, none⟩) ∧ n = .pointer (some ⟨bd2, 0, none⟩) ∧ i = .pointer (some ⟨b1, 0, none⟩) ∧ r = .pointer (some ⟨b2, 0, none⟩) ∧ m.Ok ∧ Safe m u ∧ m.d.pend.length ≤ 5 * q + 10 ∧ m.d.writes ≤ 5 * q + 10 ∧
    own wr [imgAt b1 bd1 bh m, devAt bd1 m.d, rimgAt b2 bd2 m, rdevAt bd2 m.d, exactly w0]
set_option maxRecDepth 1000000 in
def iWI (w0 : World) (len : Nat) (v : Value) (a : Go.Act) (w' : World) : Prop :=
  ∃ (T : Nat → Value) (d n i r k : Value), iRel w0 len d n i r k w' ∧ a = ⟨#[T 0, T 1, v, T 3, T 4, T 5, T 6, T 7, d, T 9, n, i, r, T 13, k, T 15, T 16, T 17, T 18, T 19, T 20, T 21, T 22, T 23, T 24, T 25, T 26, T 27, T 28, T 29, T 30, T 31, T 32, T 33, T 34, T 35, T 36, T 37, T 38, T 39, T 40, T 41, T 42, T 43, T 44, T 45, T 46, T 47, T 48, T 49, T 50, T 51, T 52, T 53, T 54, T 55, T 56, T 57, T 58, T 59, T 60, T 61, T 62, T 63, T 64, T 65, T 66, T 67, T 68, T 69, T 70, T 71, T 72, T 73, T 74, T 75, T 76, T 77, T 78, T 79, T 80, T 81, T 82, T 83, T 84, T 85, T 86, T 87, T 88, T 89, T 90, T 91, T 92, T 93, T 94, T 95, T 96, T 97, T 98, T 99, T 100, T 101, T 102, T 103, T 104, T 105, T 106, T 107, T 108, T 109, T 110, T 111, T 112, T 113, T 114, T 115, T 116, T 117, T 118, T 119, T 120, T 121, T 122, T 123, T 124, T 125, T 126, T 127, T 128, T 129, T 130, T 131, T 132, T 133, T 134, T 135, T 136, T 137, T 138, T 139, T 140, T 141, T 142, T 143, T 144, T 145, T 146, T 147, T 148, T 149], []⟩
def iMu (len : Nat) (a : Go.Act) (_w' : World) : Nat := len - (intOf (a.tmps.getD 14 undef)).toNat
set_option maxRecDepth 1000000 in
theorem iWI_mk {w0 : World} {len : Nat} {v : Value} {a : Go.Act} {w' : World} (hd : a.defers = []) (hs : a.tmps.size = 150) (h2 : a.tmps.getD 2 undef = v)
    (h : iRel w0 len (a.tmps.getD 8 undef) (a.tmps.getD 10 undef) (a.tmps.getD 11 undef) (a.tmps.getD 12 undef) (a.tmps.getD 14 undef) w') : iWI w0 len v a w' := by
  obtain ⟨t, df⟩ := a
  dsimp only at hd hs h2 h
  subst hd
  have e := frame_is t 150 hs
  obtain ⟨T, hT⟩ : ∃ T : Nat → Value, T = fun k => t.getD k undef := ⟨_, rfl⟩
  rw [← hT] at e
  rw [show t.getD 2 undef = T 2 from by rw [hT]] at h2
  rw [show t.getD 8 undef = T 8 from by rw [hT], show t.getD 10 undef = T 10 from by rw [hT], show t.getD 11 undef = T 11 from by rw [hT], show t.getD 12 undef = T 12 from by rw [hT], show t.getD 14 undef = T 14 from by rw [hT]] at h
  refine ⟨T, T 8, T 10, T 11, T 12, T 14, h, ?_⟩
  rw [e, ← h2]
  rfl
set_option maxRecDepth 1000000 in
set_option maxHeartbeats 8000000 in
theorem iRound1 {b off cap : Nat} {l : List Act} {w wr : World} (hL60 : l.length ≤ 60) (HL : ∀ a ∈ l, a.keep.length ≤ 300) (HAT : Hid (∀ i, i < l.length → ActCells w b (off + i * 7) (l.getD i actNone))) (HV : Hid (ActsAt w (.slice (some ⟨b, off, none⟩) l.length cap) l))
    (T : Nat → Value) {q b1 bd1 bh b2 bd2 : Nat} {m : ImgM} {u : List Ent} (hlt : q < l.length) (hxr : Ext w wr) (hm : m.Ok) (hsafe : Safe m u) (hpq : m.d.pend.length ≤ 5 * q + 10) (hwq : m.d.writes ≤ 5 * q + 10) (hown : own wr [imgAt b1 bd1 bh m, devAt bd1 m.d, rimgAt b2 bd2 m, rdevAt bd2 m.d, exactly w]) (Q0 : Exit → Go.Act → World → Prop) (k1 : ((l.getD q actNone).kind.toList == [99, 114, 97, 115, 104]) = true) :
    Code.wp Try.prog iBody (Exit.then (fun a' w'' => iWI w l.length (.slice (some ⟨b, off, none⟩) l.length cap) a' w'' ∧ iMu l.length a' w'' < iMu l.length ⟨#[T 0, T 1, .slice (some ⟨b, off, none⟩) l.length cap, T 3, T 4, T 5, T 6, T 7, .pointer (some ⟨bd1, 0, none⟩), T 9, .pointer (some ⟨bd2, 0, none⟩), .pointer (some ⟨b1, 0, none⟩), .pointer (some ⟨b2, 0, none⟩), T 13, .int .i64 (q : Int), T 15, T 16, T 17, T 18, T 19, T 20, T 21, T 22, T 23, T 24, T 25, T 26, T 27, T 28, T 29, T 30, T 31, T 32, T 33, T 34, T 35, T 36, T 37, T 38, T 39, T 40, T 41, T 42, T 43, T 44, T 45, T 46, T 47, T 48, T 49, T 50, T 51, T 52, T 53, T 54, T 55, T 56, T 57, T 58, T 59, T 60, T 61, T 62, T 63, T 64, T 65, T 66, T 67, T 68, T 69, T 70, T 71, T 72, T 73, T 74, T 75, T 76, T 77, T 78, T 79, T 80, T 81, T 82, T 83, T 84, T 85, T 86, T 87, T 88, T 89, T 90, T 91, T 92, T 93, T 94, T 95, T 96, T 97, T 98, T 99, T 100, T 101, T 102, T 103, T 104, T 105, T 106, T 107, T 108, T 109, T 110, T 111, T 112, T 113, T 114, T 115, T 116, T 117, T 118, T 119, T 120, T 121, T 122, T 123, T 124, T 125, T 126, T 127, T 128, T 129, T 130, T 131, T 132, T 133, T 134, T 135, T 136, T 137, T 138, T 139, T 140, T 141, T 142, T 143, T 144, T 145, T 146, T 147, T 148, T 149], []⟩ wr) Q0) ⟨#[T 0, T 1, .slice (some ⟨b, off, none⟩) l.length cap, T 3, T 4, T 5, T 6, T 7, .pointer (some ⟨bd1, 0, none⟩), T 9, .pointer (some ⟨bd2, 0, none⟩), .pointer (some ⟨b1, 0, none⟩), .pointer (some ⟨b2, 0, none⟩), T 13, .int .i64 (q : Int), T 15, T 16, T 17, T 18, T 19, T 20, T 21, T 22, T 23, T 24, T 25, T 26, T 27, T 28, T 29, T 30, T 31, T 32, T 33, T 34, T 35, T 36, T 37, T 38, T 39, T 40, T 41, T 42, T 43, T 44, T 45, T 46, T 47, T 48, T 49, T 50, T 51, T 52, T 53, T 54, T 55, T 56, T 57, T 58, T 59, T 60, T 61, T 62, T 63, T 64, T 65, T 66, T 67, T 68, T 69, T 70, T 71, T 72, T 73, T 74, T 75, T 76, T 77, T 78, T 79, T 80, T 81, T 82, T 83, T 84, T 85, T 86, T 87, T 88, T 89, T 90, T 91, T 92, T 93, T 94, T 95, T 96, T 97, T 98, T 99, T 100, T 101, T 102, T 103, T 104, T 105, T 106, T 107, T 108, T 109, T 110, T 111, T 112, T 113, T 114, T 115, T 116, T 117, T 118, T 119, T 120, T 121, T 122, T 123, T 124, T 125, T 126, T 127, T 128, T 129, T 130, T 131, T 132, T 133, T 134, T 135, T 136, T 137, T 138, T 139, T 140, T 141, T 142, T 143, T 144, T 145, T 146, T 147, T 148, T 149], []⟩ wr := by
  conv => arg 2; whnf
  have hq : q ≤ l.length := by omega
  obtain ⟨c0, c1, c2, c3, c4, c5, c6⟩ := (HAT.out q hlt).later 4 hown rfl
  have ok := HV.out.2 _ (all_getD hlt)
  have hkeep := ok.keep
  obtain ⟨ko, kc, hkv, hkl⟩ := keep_len ok.keep
  rw [hkv] at c6 hkeep
  have hA := ok.A
  have hB := ok.B
  have hSz := ok.S
  have hk3 := HL _ (all_getD hlt)
  clear HL
  generalize l.getD q actNone = x at *
  have HK := Lib.hid hkeep
  have HSF := Lib.hid hsafe
  have HM := Lib.hid hm
  have HA := Lib.hid (And.intro hA hB)
  clear hkv ok hkeep hsafe hm hA hB
  have hneed := HM.out.need
  have hlen0 : 0 < m.d.fl.length := by obtain ⟨C, hC, q1, q2, q3, q4, q5, q6, -⟩ := HM.out.nat; omega
  clear hneed
  go_upto_region 18 with (fail)
  have ha := own_alloc hown (.cells #[.string x.kind, .int .i64 x.A, .int .i64 x.B, .int .i64 x.C, .int .i64 x.D, .string x.S, .slice ko x.keep.length kc] 36)
  have hxa := hxr.alloc (.cells #[.string x.kind, .int .i64 x.A, .int .i64 x.B, .int .i64 x.C, .int .i64 x.D, .string x.S, .slice ko x.keep.length kc] 36)
  clear c0 c1 c2 c3 c4 c5 c6 hown hxr
  generalize wr.heap.size = ba at *
  generalize wr.alloc (.cells #[.string x.kind, .int .i64 x.A, .int .i64 x.B, .int .i64 x.C, .int .i64 x.D, .string x.S, .slice ko x.keep.length kc] 36) = wa at *
  obtain ⟨c, f⟩ := own_cells 0 ha rfl
  have hkb := (HK.out).later 5 ha rfl
  obtain ⟨TT, t1, t2, t3, t4⟩ := HSF.out.crash HM.out x.keep
  have HT := Lib.hid (And.intro t1 (And.intro t3 t4))
  have hcl : (m.d.crash x.keep).fl.length = m.d.fl.length := by simp only [DevM.crash, foldl_setAt_length]
  have hcp : (m.d.crash x.keep).pend.length = 0 := rfl
  have hcw : (m.d.crash x.keep).writes = m.d.writes := rfl
  have hcok := DevM.crash_ok HM.out.d x.keep
  clear hkb t1 t2 t3 t4
  go_wp2_with fail
  refine (dev_crash bd1 m.d HM.out.d _ x.keep _ wa (fun w' L hL => (HK.out).later (L.length + 4) hL (at_behind (l := L) rfl)) (own_pick 2 ha rfl)).mono ?_
  rintro e w4 ⟨cc, rfl, hx4, h4⟩
  clear c f
  obtain ⟨c, f⟩ := own_cells 2 h4 rfl
  go_wp2_with fail
  refine (rdev_crash bd2 m.d HM.out.d _ x.keep _ w4 (fun w' L hL => (HK.out).later (L.length + 5) hL (at_behind (l := L) rfl)) (own_pick 5 h4 rfl)).mono ?_
  rintro e w5 ⟨cr, rfl, hx5, h5⟩
  clear c f
  have hx5' := (hxa.trans hx4).trans hx5
  clear hx5 hx4 hxa h4 ha
  have HOP := Lib.hid (fun (R : List SL.HP) (w : World) (H : own w (devAt cc (m.d.crash x.keep) :: R)) => open_img cc (m.d.crash x.keep) hcok (by omega) R w H)
  have HRO := Lib.hid (fun (R : List SL.HP) (w : World) (H : own w (rdevAt cr (m.d.crash x.keep) :: R)) => opened_img cr (m.d.crash x.keep) hcok (by omega) R w H)
  rw [HT.out.1] at HOP HRO
  go_wp2_with fail
  refine (HOP.out _ w5 (own_pick 2 h5 rfl)).mono ?_
  rintro e w6 (⟨hne, -⟩ | ⟨-, bi, bh', rfl, hx6, h6⟩)
  · exact absurd rfl hne
  dsimp only at h6
  go_wp2_with fail
  refine (HRO.out _ w6 (own_pick 2 h6 rfl)).mono ?_
  rintro e w7 (⟨hne, -⟩ | ⟨-, br, rfl, hx7, h7⟩)
  · exact absurd rfl hne
  dsimp only at h7
  clear HOP HRO
  go_wp2_with fail
  refine (same_any 0 0 w7 (by omega)).mono ?_
  rintro e w8 ⟨rfl, rfl⟩
  go_wp2_with fail
  have h9 := own_pick 3 (own_pick 3 h7 rfl) rfl
  have h10 := own_erase 4 (own_erase 4 (own_erase 4 (own_erase 4 (own_erase 4 h9 rfl) rfl) rfl) rfl) rfl
  refine ⟨iWI_mk rfl rfl rfl ⟨q + 1, by omega, by go_num, (hx5'.trans hx6).trans hx7, bi, cc, bh', br, cr, _, TT, rfl, rfl, rfl, rfl, HT.out.2.1, HT.out.2.2, by dsimp only; omega, by dsimp only; omega, h10⟩, by simp [iMu, intOf]; omega⟩

set_option maxRecDepth 1000000 in
set_option maxHeartbeats 8000000 in
theorem iRound2 {b off cap : Nat} {l : List Act} {w wr : World} (hL60 : l.length ≤ 60) (HL : ∀ a ∈ l, a.keep.length ≤ 300) (HAT : Hid (∀ i, i < l.length → ActCells w b (off + i * 7) (l.getD i actNone))) (HV : Hid (ActsAt w (.slice (some ⟨b, off, none⟩) l.length cap) l))
    (T : Nat → Value) {q b1 bd1 bh b2 bd2 : Nat} {m : ImgM} {u : List Ent} (hlt : q < l.length) (hxr : Ext w wr) (hm : m.Ok) (hsafe : Safe m u) (hpq : m.d.pend.length ≤ 5 * q + 10) (hwq : m.d.writes ≤ 5 * q + 10) (hown : own wr [imgAt b1 bd1 bh m, devAt bd1 m.d, rimgAt b2 bd2 m, rdevAt bd2 m.d, exactly w]) (Q0 : Exit → Go.Act → World → Prop) (k1 : ¬ ((l.getD q actNone).kind.toList == [99, 114, 97, 115, 104]) = true) (k2 : ((l.getD q actNone).kind.toList == [111, 112, 101, 110]) = true) :
    Code.wp Try.prog iBody (Exit.then (fun a' w'' => iWI w l.length (.slice (some ⟨b, off, none⟩) l.length cap) a' w'' ∧ iMu l.length a' w'' < iMu l.length ⟨#[T 0, T 1, .slice (some ⟨b, off, none⟩) l.length cap, T 3, T 4, T 5, T 6, T 7, .pointer (some ⟨bd1, 0, none⟩), T 9, .pointer (some ⟨bd2, 0, none⟩), .pointer (some ⟨b1, 0, none⟩), .pointer (some ⟨b2, 0, none⟩), T 13, .int .i64 (q : Int), T 15, T 16, T 17, T 18, T 19, T 20, T 21, T 22, T 23, T 24, T 25, T 26, T 27, T 28, T 29, T 30, T 31, T 32, T 33, T 34, T 35, T 36, T 37, T 38, T 39, T 40, T 41, T 42, T 43, T 44, T 45, T 46, T 47, T 48, T 49, T 50, T 51, T 52, T 53, T 54, T 55, T 56, T 57, T 58, T 59, T 60, T 61, T 62, T 63, T 64, T 65, T 66, T 67, T 68, T 69, T 70, T 71, T 72, T 73, T 74, T 75, T 76, T 77, T 78, T 79, T 80, T 81, T 82, T 83, T 84, T 85, T 86, T 87, T 88, T 89, T 90, T 91, T 92, T 93, T 94, T 95, T 96, T 97, T 98, T 99, T 100, T 101, T 102, T 103, T 104, T 105, T 106, T 107, T 108, T 109, T 110, T 111, T 112, T 113, T 114, T 115, T 116, T 117, T 118, T 119, T 120, T 121, T 122, T 123, T 124, T 125, T 126, T 127, T 128, T 129, T 130, T 131, T 132, T 133, T 134, T 135, T 136, T 137, T 138, T 139, T 140, T 141, T 142, T 143, T 144, T 145, T 146, T 147, T 148, T 149], []⟩ wr) Q0) ⟨#[T 0, T 1, .slice (some ⟨b, off, none⟩) l.length cap, T 3, T 4, T 5, T 6, T 7, .pointer (some ⟨bd1, 0, none⟩), T 9, .pointer (some ⟨bd2, 0, none⟩), .pointer (some ⟨b1, 0, none⟩), .pointer (some ⟨b2, 0, none⟩), T 13, .int .i64 (q : Int), T 15, T 16, T 17, T 18, T 19, T 20, T 21, T 22, T 23, T 24, T 25, T 26, T 27, T 28, T 29, T 30, T 31, T 32, T 33, T 34, T 35, T 36, T 37, T 38, T 39, T 40, T 41, T 42, T 43, T 44, T 45, T 46, T 47, T 48, T 49, T 50, T 51, T 52, T 53, T 54, T 55, T 56, T 57, T 58, T 59, T 60, T 61, T 62, T 63, T 64, T 65, T 66, T 67, T 68, T 69, T 70, T 71, T 72, T 73, T 74, T 75, T 76, T 77, T 78, T 79, T 80, T 81, T 82, T 83, T 84, T 85, T 86, T 87, T 88, T 89, T 90, T 91, T 92, T 93, T 94, T 95, T 96, T 97, T 98, T 99, T 100, T 101, T 102, T 103, T 104, T 105, T 106, T 107, T 108, T 109, T 110, T 111, T 112, T 113, T 114, T 115, T 116, T 117, T 118, T 119, T 120, T 121, T 122, T 123, T 124, T 125, T 126, T 127, T 128, T 129, T 130, T 131, T 132, T 133, T 134, T 135, T 136, T 137, T 138, T 139, T 140, T 141, T 142, T 143, T 144, T 145, T 146, T 147, T 148, T 149], []⟩ wr := by
  conv => arg 2; whnf
  have hq : q ≤ l.length := by omega
  obtain ⟨c0, c1, c2, c3, c4, c5, c6⟩ := (HAT.out q hlt).later 4 hown rfl
  have ok := HV.out.2 _ (all_getD hlt)
  have hkeep := ok.keep
  obtain ⟨ko, kc, hkv, hkl⟩ := keep_len ok.keep
  rw [hkv] at c6 hkeep
  have hA := ok.A
  have hB := ok.B
  have hSz := ok.S
  have hk3 := HL _ (all_getD hlt)
  clear HL
  generalize l.getD q actNone = x at *
  have HK := Lib.hid hkeep
  have HSF := Lib.hid hsafe
  have HM := Lib.hid hm
  have HA := Lib.hid (And.intro hA hB)
  clear hkv ok hkeep hsafe hm hA hB
  have hneed := HM.out.need
  have hlen0 : 0 < m.d.fl.length := by obtain ⟨C, hC, q1, q2, q3, q4, q5, q6, -⟩ := HM.out.nat; omega
  clear hneed
  go_upto_region 18 with (fail)
  have ha := own_alloc hown (.cells #[.string x.kind, .int .i64 x.A, .int .i64 x.B, .int .i64 x.C, .int .i64 x.D, .string x.S, .slice ko x.keep.length kc] 36)
  have hxa := hxr.alloc (.cells #[.string x.kind, .int .i64 x.A, .int .i64 x.B, .int .i64 x.C, .int .i64 x.D, .string x.S, .slice ko x.keep.length kc] 36)
  clear c0 c1 c2 c3 c4 c5 c6 hown hxr
  generalize wr.heap.size = ba at *
  generalize wr.alloc (.cells #[.string x.kind, .int .i64 x.A, .int .i64 x.B, .int .i64 x.C, .int .i64 x.D, .string x.S, .slice ko x.keep.length kc] 36) = wa at *
  obtain ⟨c, f⟩ := own_cells 0 ha rfl
  have HOP := Lib.hid (fun (R : List SL.HP) (w : World) (H : own w (devAt bd1 m.d :: R)) => open_img bd1 m.d HM.out.d hlen0 R w H)
  have HRO := Lib.hid (fun (R : List SL.HP) (w : World) (H : own w (rdevAt bd2 m.d :: R)) => opened_img bd2 m.d HM.out.d hlen0 R w H)
  rw [HSF.out.open HM.out] at HOP HRO
  go_wp2_with fail
  refine (HOP.out _ wa (own_pick 2 ha rfl)).mono ?_
  rintro e w6 (⟨hne, -⟩ | ⟨-, bi, bh', rfl, hx6, h6⟩)
  · exact absurd rfl hne
  dsimp only at h6
  go_wp2_with fail
  refine (HRO.out _ w6 (own_pick 5 h6 rfl)).mono ?_
  rintro e w7 (⟨hne, -⟩ | ⟨-, br, rfl, hx7, h7⟩)
  · exact absurd rfl hne
  dsimp only at h7
  clear HOP HRO
  go_wp2_with fail
  refine (same_any 0 0 w7 (by omega)).mono ?_
  rintro e w8 ⟨rfl, rfl⟩
  go_wp2_with fail
  have h9 := own_pick 3 (own_pick 3 h7 rfl) rfl
  have h10 := own_erase 4 (own_erase 4 (own_erase 4 h9 rfl) rfl) rfl
  refine ⟨iWI_mk rfl rfl rfl ⟨q + 1, by omega, by go_num, (hxa.trans hx6).trans hx7, bi, bd1, bh', br, bd2, _, u, rfl, rfl, rfl, rfl, HM.out.unheld, HSF.out.unheld, by dsimp only; omega, by dsimp only; omega, h10⟩, by simp [iMu, intOf]; omega⟩

set_option maxRecDepth 1000000 in
set_option maxHeartbeats 8000000 in
theorem iRound3 {b off cap : Nat} {l : List Act} {w wr : World} (hL60 : l.length ≤ 60) (HL : ∀ a ∈ l, a.keep.length ≤ 300) (HAT : Hid (∀ i, i < l.length → ActCells w b (off + i * 7) (l.getD i actNone))) (HV : Hid (ActsAt w (.slice (some ⟨b, off, none⟩) l.length cap) l))
    (T : Nat → Value) {q b1 bd1 bh b2 bd2 : Nat} {m : ImgM} {u : List Ent} (hlt : q < l.length) (hxr : Ext w wr) (hm : m.Ok) (hsafe : Safe m u) (hpq : m.d.pend.length ≤ 5 * q + 10) (hwq : m.d.writes ≤ 5 * q + 10) (hown : own wr [imgAt b1 bd1 bh m, devAt bd1 m.d, rimgAt b2 bd2 m, rdevAt bd2 m.d, exactly w]) (Q0 : Exit → Go.Act → World → Prop) (k1 : ¬ ((l.getD q actNone).kind.toList == [99, 114, 97, 115, 104]) = true) (k2 : ¬ ((l.getD q actNone).kind.toList == [111, 112, 101, 110]) = true) :
    Code.wp Try.prog iBody (Exit.then (fun a' w'' => iWI w l.length (.slice (some ⟨b, off, none⟩) l.length cap) a' w'' ∧ iMu l.length a' w'' < iMu l.length ⟨#[T 0, T 1, .slice (some ⟨b, off, none⟩) l.length cap, T 3, T 4, T 5, T 6, T 7, .pointer (some ⟨bd1, 0, none⟩), T 9, .pointer (some ⟨bd2, 0, none⟩), .pointer (some ⟨b1, 0, none⟩), .pointer (some ⟨b2, 0, none⟩), T 13, .int .i64 (q : Int), T 15, T 16, T 17, T 18, T 19, T 20, T 21, T 22, T 23, T 24, T 25, T 26, T 27, T 28, T 29, T 30, T 31, T 32, T 33, T 34, T 35, T 36, T 37, T 38, T 39, T 40, T 41, T 42, T 43, T 44, T 45, T 46, T 47, T 48, T 49, T 50, T 51, T 52, T 53, T 54, T 55, T 56, T 57, T 58, T 59, T 60, T 61, T 62, T 63, T 64, T 65, T 66, T 67, T 68, T 69, T 70, T 71, T 72, T 73, T 74, T 75, T 76, T 77, T 78, T 79, T 80, T 81, T 82, T 83, T 84, T 85, T 86, T 87, T 88, T 89, T 90, T 91, T 92, T 93, T 94, T 95, T 96, T 97, T 98, T 99, T 100, T 101, T 102, T 103, T 104, T 105, T 106, T 107, T 108, T 109, T 110, T 111, T 112, T 113, T 114, T 115, T 116, T 117, T 118, T 119, T 120, T 121, T 122, T 123, T 124, T 125, T 126, T 127, T 128, T 129, T 130, T 131, T 132, T 133, T 134, T 135, T 136, T 137, T 138, T 139, T 140, T 141, T 142, T 143, T 144, T 145, T 146, T 147, T 148, T 149], []⟩ wr) Q0) ⟨#[T 0, T 1, .slice (some ⟨b, off, none⟩) l.length cap, T 3, T 4, T 5, T 6, T 7, .pointer (some ⟨bd1, 0, none⟩), T 9, .pointer (some ⟨bd2, 0, none⟩), .pointer (some ⟨b1, 0, none⟩), .pointer (some ⟨b2, 0, none⟩), T 13, .int .i64 (q : Int), T 15, T 16, T 17, T 18, T 19, T 20, T 21, T 22, T 23, T 24, T 25, T 26, T 27, T 28, T 29, T 30, T 31, T 32, T 33, T 34, T 35, T 36, T 37, T 38, T 39, T 40, T 41, T 42, T 43, T 44, T 45, T 46, T 47, T 48, T 49, T 50, T 51, T 52, T 53, T 54, T 55, T 56, T 57, T 58, T 59, T 60, T 61, T 62, T 63, T 64, T 65, T 66, T 67, T 68, T 69, T 70, T 71, T 72, T 73, T 74, T 75, T 76, T 77, T 78, T 79, T 80, T 81, T 82, T 83, T 84, T 85, T 86, T 87, T 88, T 89, T 90, T 91, T 92, T 93, T 94, T 95, T 96, T 97, T 98, T 99, T 100, T 101, T 102, T 103, T 104, T 105, T 106, T 107, T 108, T 109, T 110, T 111, T 112, T 113, T 114, T 115, T 116, T 117, T 118, T 119, T 120, T 121, T 122, T 123, T 124, T 125, T 126, T 127, T 128, T 129, T 130, T 131, T 132, T 133, T 134, T 135, T 136, T 137, T 138, T 139, T 140, T 141, T 142, T 143, T 144, T 145, T 146, T 147, T 148, T 149], []⟩ wr := by
  conv => arg 2; whnf
  have hq : q ≤ l.length := by omega
  obtain ⟨c0, c1, c2, c3, c4, c5, c6⟩ := (HAT.out q hlt).later 4 hown rfl
  have ok := HV.out.2 _ (all_getD hlt)
  have hkeep := ok.keep
  obtain ⟨ko, kc, hkv, hkl⟩ := keep_len ok.keep
  rw [hkv] at c6 hkeep
  have hA := ok.A
  have hB := ok.B
  have hSz := ok.S
  have hk3 := HL _ (all_getD hlt)
  clear HL
  generalize l.getD q actNone = x at *
  have HK := Lib.hid hkeep
  have HSF := Lib.hid hsafe
  have HM := Lib.hid hm
  have HA := Lib.hid (And.intro hA hB)
  clear hkv ok hkeep hsafe hm hA hB
  have hneed := HM.out.need
  have hlen0 : 0 < m.d.fl.length := by obtain ⟨C, hC, q1, q2, q3, q4, q5, q6, -⟩ := HM.out.nat; omega
  clear hneed
  go_upto_region 18 with (fail)
  have ha := own_alloc hown (.cells #[.string x.kind, .int .i64 x.A, .int .i64 x.B, .int .i64 x.C, .int .i64 x.D, .string x.S, .slice ko x.keep.length kc] 36)
  have hxa := hxr.alloc (.cells #[.string x.kind, .int .i64 x.A, .int .i64 x.B, .int .i64 x.C, .int .i64 x.D, .string x.S, .slice ko x.keep.length kc] 36)
  clear c0 c1 c2 c3 c4 c5 c6 hown hxr
  generalize wr.heap.size = ba at *
  generalize wr.alloc (.cells #[.string x.kind, .int .i64 x.A, .int .i64 x.B, .int .i64 x.C, .int .i64 x.D, .string x.S, .slice ko x.keep.length kc] 36) = wa at *
  obtain ⟨c, f⟩ := own_cells 0 ha rfl
  obtain ⟨vA, vB⟩ := HA.out
  have hst := step_act HM.out (by omega) (by omega) x vA
  obtain ⟨u', hu'⟩ := hst.safe u HSF.out
  have hsp := hst.pend
  have hsw := hst.wr
  have HOK := Lib.hid (And.intro hst.ok hu')
  have HIM := Lib.hid (fun (R : List SL.HP) (w : World) (H : own w (imgAt b1 bd1 bh m :: devAt bd1 m.d :: rimgAt b2 bd2 m :: rdevAt bd2 m.d :: R)) => imaged_any b1 bd1 bh b2 bd2 m HM.out (by omega) (by omega) x ko x.keep.length kc vA vB hSz R w H)
  clear hst hu' vA vB
  generalize actM m x = m2 at *
  go_wp2_with fail
  refine (HIM.out _ wa (own_behind [_, _, _, _] ha)).mono ?_
  rintro e w4 ⟨rfl, hx4, h4⟩
  clear c f HIM
  have HAS := Lib.hid (fun (R : List SL.HP) (w : World) (H : own w (imgAt b1 bd1 bh m2 :: devAt bd1 m2.d :: rimgAt b2 bd2 m2 :: rdevAt bd2 m2.d :: R)) => asimage_any b1 bd1 bh b2 bd2 m2 HOK.out.1 R w H)
  by_cases hq3 : q % 3 = 0
  · have hrem : ((q : Int)).tmod 3 = 0 := by rw [tmod3, hq3]; rfl
    go_wp2_with fail
    refine (HAS.out _ w4 h4).mono ?_
    rintro e w5 ⟨rfl, hx5, h5⟩
    go_wp2_with fail
    refine ⟨iWI_mk rfl rfl rfl ⟨q + 1, by omega, by go_num, (hxa.trans hx4).trans hx5, b1, bd1, bh, b2, bd2, m2, u', rfl, rfl, rfl, rfl, HOK.out.1, HOK.out.2, by omega, by omega, own_erase 4 h5 rfl⟩, by simp [iMu, intOf]; omega⟩
  · have hrem : ((q : Int)).tmod 3 = ((q % 3 : Nat) : Int) := tmod3 q
    have hne : ¬ (((q % 3 : Nat) : Int) = 0) := by omega
    go_wp2_with fail
    refine ⟨iWI_mk rfl rfl rfl ⟨q + 1, by omega, by go_num, hxa.trans hx4, b1, bd1, bh, b2, bd2, m2, u', rfl, rfl, rfl, rfl, HOK.out.1, HOK.out.2, by omega, by omega, own_erase 4 h4 rfl⟩, by simp [iMu, intOf]; omega⟩

set_option maxRecDepth 1000000 in
set_option maxHeartbeats 8000000 in
theorem iRound {b off cap : Nat} {ao : Option Addr} {l : List Act} {w : World} (hao : 0 < l.length → ao = some ⟨b, off, none⟩) (hL60 : l.length ≤ 60) (HL : ∀ a ∈ l, a.keep.length ≤ 300) (HAT : Hid (∀ i, i < l.length → ActCells w b (off + i * 7) (l.getD i actNone))) (HV : Hid (ActsAt w (.slice ao l.length cap) l)) (Q0 : Exit → Go.Act → World → Prop)
    (hexit : ∀ a w', iWI w l.length (.slice ao l.length cap) a w' → Q0 (.exit 0) a w') (a : Go.Act) (wr : World) (hI : iWI w l.length (.slice ao l.length cap) a wr) :
    Code.wp Try.prog iBody (Exit.then (fun a' w'' => iWI w l.length (.slice ao l.length cap) a' w'' ∧ iMu l.length a' w'' < iMu l.length a wr) Q0) a wr := by
  obtain ⟨T, d, n, i, r, k, ⟨q, hq, rfl, hxr, b1, bd1, bh, b2, bd2, m, u, rfl, rfl, rfl, rfl, hm, hsafe, hpq, hwq, hown⟩, rfl⟩ := hI
  by_cases hlt : q < l.length
  · obtain rfl := hao (by omega)
    by_cases k1 : ((l.getD q actNone).kind.toList == [99, 114, 97, 115, 104]) = true
    · exact iRound1 hL60 HL HAT HV T hlt hxr hm hsafe hpq hwq hown Q0 k1
    by_cases k2 : ((l.getD q actNone).kind.toList == [111, 112, 101, 110]) = true
    · exact iRound2 hL60 HL HAT HV T hlt hxr hm hsafe hpq hwq hown Q0 k1 k2
    · exact iRound3 hL60 HL HAT HV T hlt hxr hm hsafe hpq hwq hown Q0 k1 k2
  · conv => arg 2; whnf
    go_wp2_with fail
    exact iWI_mk rfl rfl rfl ⟨q, hq, rfl, hxr, b1, bd1, bh, b2, bd2, m, u, rfl, rfl, rfl, rfl, hm, hsafe, hpq, hwq, hown⟩

end Go.Proofs.Ytbpblokfiajpjaa
