/- TopImage answers true, whatever the acts and whatever is lost, and leaves what it was given as it was. TopImage answers true at every input, and its arguments read as they did. No conditions. -/
import Derived.Test.YtbpblokfiajpjabPk230c90f027
import Derived.Test.YtbpblokfiajpjabProg
import Derived.Test.YtbpblokfiajpjabRows
import Derived.WalkKit
import Derived.ProofKit
import Derived.OpenShut
import Derived.ShutString
import Derived.ChangeOld
import Derived.Below
namespace Go.Proofs.Ytbpblokfiajpjab
open Go.RowKit Go.SL Go.Crc
attribute [local go_sem ↓] Go.wp_at_zero Go.wp_at_succ

theorem created_is' (d : DevM) (c p b : Int) : (createR d c p b).2 = madeM (createR d c p b).2.d c p b := by
  unfold createR
  split
  · rfl
  · split
    · rfl
    · split <;> rfl
theorem created_good' {d : DevM} (hd : d.Ok) (hf : d.fail < 0) (hp : d.pend.length < 999000) (hw : d.writes < 999000) {c p b : Int} (h : ¬ fitBad d c p b) : (createR d c p b).1 = 0 ∧ (createR d c p b).2.d.fail < 0 := by
  have hb : ¬ headBad c p b := fun h' => h (.inl h')
  have hn : needN c p ≤ d.fl.length := Int.not_lt.1 fun h' => h (.inr h')
  have hbb := hb
  unfold headBad at hbb
  have hzl : (zeroT c).length = c.toNat := by simp [zeroT]
  have hrn : rowsN c.toNat ≤ 4 := by unfold rowsN; omega
  have hrl : (rowsL (zeroT c)).length = rowsN c.toNat := by simp [rowsL, hzl]
  have hn2 : 1 + (rowsN c.toNat : Int) + 4 * p ≤ d.fl.length := hn
  obtain ⟨o1, o2, o3, o4⟩ := puts_ok (l := rowsL (zeroT c)) (a := 1) hd (by omega) (by omega)
  obtain ⟨g1, g2⟩ := puts_good (l := rowsL (zeroT c)) (a := 1) hf (by omega) (by rw [hrl]; omega) (fun s hs => by
    unfold rowsL at hs
    obtain ⟨k, hk, rfl⟩ := List.mem_map.1 hs
    rw [List.mem_range, hzl] at hk
    rw [rowOf_is (P := 40) (by omega) (by omega) (zero_ents c 40) (by rw [hzl]; exact hk)]
    exact rowBytes_size _ _)
  unfold createR
  rw [if_neg h, if_neg (by simpa using g1)]
  generalize (d.puts 1 (rowsL (zeroT c))).2 = d1 at *
  have hl1 : d1.flush.fl.length = d1.fl.length := by simp only [DevM.flush, foldl_setAt_length]
  obtain ⟨w1, w2⟩ := write_good (d := d1.flush) g2 (a := 0) (by omega) (by omega) (s := headS c p b) (seal_size (by simp))
  rw [if_neg (by simpa using w1)]
  exact ⟨rfl, w2⟩
theorem arr48_init (vs : Nat → Value) : arr48 0 vs = #[.slice none 0 0, .slice none 0 0, .slice none 0 0, .slice none 0 0, .slice none 0 0, .slice none 0 0, .slice none 0 0, .slice none 0 0, .slice none 0 0, .slice none 0 0, .slice none 0 0, .slice none 0 0, .slice none 0 0, .slice none 0 0, .slice none 0 0, .slice none 0 0, .slice none 0 0, .slice none 0 0, .slice none 0 0, .slice none 0 0, .slice none 0 0, .slice none 0 0, .slice none 0 0, .slice none 0 0, .slice none 0 0, .slice none 0 0, .slice none 0 0, .slice none 0 0, .slice none 0 0, .slice none 0 0, .slice none 0 0, .slice none 0 0, .slice none 0 0, .slice none 0 0, .slice none 0 0, .slice none 0 0, .slice none 0 0, .slice none 0 0, .slice none 0 0, .slice none 0 0, .slice none 0 0, .slice none 0 0, .slice none 0 0, .slice none 0 0, .slice none 0 0, .slice none 0 0, .slice none 0 0, .slice none 0 0] := rfl
def jInit (n b1 bd1 bh bm : Nat) (m : ImgM) (w0 : World) (i : Value) (wr : World) : Prop :=
  ∃ (q : Nat) (vs : Nat → Value), q ≤ n ∧ i = .int .i64 q ∧ Ext w0 wr ∧ own wr (imgAt b1 bd1 bh m :: devAt bd1 m.d :: pts bm (.cells (arr48 q vs) 37 (0, 0)) :: (rowsO q vs (fun _ => [dash]) ++ [exactly w0]))
def jEnd (n : Nat) (L : List HP) (w0 : World) (i : Value) (wr : World) : Prop := ∃ k : Nat, k ≤ n ∧ i = .int .i64 k ∧ Ext w0 wr ∧ own wr L

set_option maxRecDepth 1000000 in
set_option maxHeartbeats 16000000 in
theorem topImage_walk (c0 p0 : Int) (v : Value) (l : List Act) (kv : Value) (ks : List Bool) (w : World) (hv : ActsAt w v l) (hk : BoolsAt w kv ks) :
    Calls Try.prog 3 #[.int .i64 c0, .int .i64 p0, v, kv] w fun e w' => e = .returned (.bool true) ∧ Below w.heap.size w w' := by
  obtain ⟨ao, b, off, cap, rfl, hlc, hao, hat⟩ := hv.form
  obtain ⟨kao, kcap, rfl, hkl⟩ := keep_len hk
  have h0 := own_exactly w
  have HKS := Lib.hid hk
  have HAO := Lib.hid hao
  have HAT := Lib.hid hat
  have HV := Lib.hid hv
  clear hk hao hat hv
  by_cases b1 : c0 < 1
  · have d1 : decide (c0 < 1) = true := decide_eq_true b1
    go_enter Try.func3, Try.ntmps3
    go_wp2_with fail
    go_ret
    exact ⟨rfl, below_of 0 h0 rfl (Ext.refl _)⟩
  have d1 : decide (c0 < 1) = false := decide_eq_false b1
  by_cases b2 : 12 < c0
  · have d2 : decide (12 < c0) = true := decide_eq_true b2
    clear b1
    go_enter Try.func3, Try.ntmps3
    go_wp2_with fail
    go_ret
    exact ⟨rfl, below_of 0 h0 rfl (Ext.refl _)⟩
  have d2 : decide (12 < c0) = false := decide_eq_false b2
  by_cases b3 : p0 < 0
  · have d3 : decide (p0 < 0) = true := decide_eq_true b3
    clear b1 b2
    go_enter Try.func3, Try.ntmps3
    go_wp2_with fail
    go_ret
    exact ⟨rfl, below_of 0 h0 rfl (Ext.refl _)⟩
  have d3 : decide (p0 < 0) = false := decide_eq_false b3
  by_cases b4 : 20 < p0
  · have d4 : decide (20 < p0) = true := decide_eq_true b4
    clear b1 b2 b3
    go_enter Try.func3, Try.ntmps3
    go_wp2_with fail
    go_ret
    exact ⟨rfl, below_of 0 h0 rfl (Ext.refl _)⟩
  have d4 : decide (20 < p0) = false := decide_eq_false b4
  obtain ⟨c, rfl⟩ := Int.eq_ofNat_of_zero_le (show 0 ≤ c0 by omega)
  have hc1 : 1 ≤ c := by omega
  have hc12 : c ≤ 12 := by omega
  by_cases hL : light l 40 = true
  · have hL40 : l.length ≤ 40 := by
      unfold light at hL
      simp only [Bool.and_eq_true, decide_eq_true_eq] at hL
      omega
    by_cases hk300 : ks.length ≤ 300
    · have d5 : decide (300 < (ks.length : Int)) = false := decide_eq_false (by omega)
      have ok0 : (newDev 120).Ok := newDev_ok (by decide)
      have hp0 : (newDev 120).pend.length < 999000 := by decide
      have hw0 : (newDev 120).writes < 999000 := by decide
      have hfit : ¬ fitBad (newDev 120) (c : Int) p0 (-1) := by
        rintro (h | h)
        · unfold headBad at h; omega
        · unfold needN rowsN at h
          rw [show (newDev 120).fl.length = 120 by simp [newDev], Int.toNat_natCast] at h
          omega
      obtain ⟨g1, g2⟩ := created_good' ok0 (show (newDev 120).fail < 0 by decide) hp0 hw0 hfit
      have hok := created_ok (c := (c : Int)) (p := p0) (b := -1) ok0 hp0 hw0
      have his := created_is' (newDev 120) (c : Int) p0 (-1)
      have HCR := Lib.hid (fun (b : Nat) (R : List SL.HP) (w : World) (H : own w (devAt b (newDev 120) :: R)) => create_any b (newDev 120) ok0 hp0 hw0 (c : Int) p0 (-1) R w H)
      unfold headV at HCR
      generalize createR (newDev 120) (c : Int) p0 (-1) = S at *
      obtain ⟨f, m⟩ := S
      dsimp only at g1 g2 hok his
      subst g1
      obtain ⟨-, -, -, hwr, h5⟩ := hok
      obtain ⟨hm, hsafe, hpend, -⟩ := h5 rfl
      rw [show (newDev 120).writes = 0 from rfl] at hwr
      have ht : m.t = List.replicate c (0, 0) := by rw [his]; rfl
      have htl : 4 * m.t.length = 4 * c := by rw [ht, List.length_replicate]
      have hcov0 := (cov_still hm hsafe hpend)
      have hsh : ∀ k, k < 4 * c → m.shown k = dash := fun k hk => by
        unfold ImgM.shown cont
        rw [if_pos]
        rw [ht]
        unfold ent
        simp [show k / 4 < c by omega]
      have hcov : Cov m (fun _ => [dash]) := ⟨hcov0.held, fun k hk s hs e => by have := hcov0.abs k hk s hs e; rw [hsh k (by omega)] at this; exact this, fun k hk s hs e => by have := hcov0.zero k hk s hs e; rw [hsh k (by omega)] at this; exact this, fun k hk s hs e x hx => by have := hcov0.data k hk s hs e x hx; rw [hsh k (by omega)] at this; exact this⟩
      have HM := Lib.hid (And.intro hm (And.intro hsafe (And.intro g2 hcov)))
      have HP := Lib.hid hpend
      have HTL := Lib.hid htl
      have HB3 := Lib.hid (And.intro b3 b4)
      clear hm hsafe g2 hcov hcov0 hsh his h5 hpend ok0 hp0 hw0 hfit ht htl b1 b2 b3 b4
      go_enter Try.func3, Try.ntmps3
      go_wp2_with fail
      refine (light_any _ l 40 w HV.out).mono ?_
      rintro e w1 ⟨rfl, rfl⟩
      rw [hL]
      clear hL
      go_wp2_with fail
      refine (dev_new_yes 120 _ w (by decide) h0).mono ?_
      rintro e w1 ⟨bd1, rfl, hx1, h1⟩
      go_wp2_with fail
      refine (HCR.out bd1 _ w1 h1).mono ?_
      rintro e w2 (⟨hne, -⟩ | ⟨-, b1, bh, rfl, hx2, h2⟩)
      · exact absurd rfl hne
      dsimp only at h2
      go_upto_region 12 with (fail)
      have h3 := own_behind [_, _] (own_alloc h2 (.cells (arr48 0 fun _ => undef) 37))
      have hx3 := (hx1.trans hx2).alloc (.cells (arr48 0 fun _ => undef) 37)
      rw [arr48_init] at hx3 h3
      clear h0 h1 h2 hx1 hx2 HCR
      generalize w2.heap.size = bm at *
      generalize w2.alloc _ = w3 at *
      go_wp2_with fail
      go_loopw [13] (jInit (4 * c) b1 bd1 bh bm m w) (fun i _ => 4 * c - (intOf i).toNat)
      case atStart => exact ⟨0, fun _ => undef, by omega, rfl, hx3, by rw [arr48_init]; exact h3⟩
      case round =>
        clear h3 hx3
        obtain ⟨q, vs, hq, rfl, hxr, hown⟩ := hrel
        by_cases hlt : q < 4 * c
        · have i1 : (0 : Int) ≤ (q : Int) := by omega
          have i2 : (q : Int) < 48 := by omega
          have i3 : (q : Int) < 4 * (c : Int) := by omega
          have h8 := own_row_one ⟨#[45]⟩ hown
          obtain ⟨ca, fa⟩ := own_cells 3 h8 rfl
          have hca : (wr.alloc (.cells #[.string ⟨#[45]⟩] 9)).cell? ⟨bm, q, none⟩ = some (.slice none 0 0) := by rw [ca]; exact arr48_fresh vs (by omega)
          clear ca
          have hx9 := hxr.alloc (.cells #[.string ⟨#[45]⟩] 9)
          go_wp2_with fail
          go_roundw
          case rel =>
            have h10 := own_set (i := q) (v := .slice (some ⟨wr.heap.size, 0, none⟩) 1 1) 3 h8 rfl
            refine ⟨q + 1, upd vs q (.slice (some ⟨wr.heap.size, 0, none⟩) 1 1), by omega, by go_num, hx9.setCell _ _, ?_⟩
            rw [← arr48_succ]
            have e1 := rowsO_succ q vs (fun _ => [dash]) (.slice (some ⟨wr.heap.size, 0, none⟩) 1 1) [dash]
            rw [show upd (fun _ => [dash]) q [dash] = fun _ => [dash] from funext fun j => by unfold upd; split <;> rfl] at e1
            rw [e1]
            have h11 := own_behind (imgAt b1 bd1 bh m :: devAt bd1 m.d :: pts bm (.cells ((arr48 q vs).setIfInBounds q (.slice (some ⟨wr.heap.size, 0, none⟩) 1 1)) 37 (0, 0)) :: rowsO q vs (fun _ => [dash])) h10
            rw [List.append_assoc]
            exact h11
          case measure => simp [intOf]; omega
        · have hq' : q = 4 * c := by omega
          have i3 : ¬ ((q : Int) < 4 * (c : Int)) := by omega
          subst hq'
          go_wp2_with fail
          refine wp_loop (jWI w l.length (4 * c) b1 bd1 bh bm (.int .i64 (c : Int)) (.slice ao l.length cap) (.slice kao ks.length kcap) (.pointer (some ⟨bd1, 0, none⟩)) (.pointer (some ⟨b1, 0, none⟩)) (.pointer (some ⟨bm, 0, none⟩))) (jMu l.length) ?_ ?_
          · exact jWI_mk rfl rfl rfl rfl rfl rfl rfl rfl ⟨0, m, zeroT (c : Int), fun _ => [dash], vs, Nat.zero_le _, rfl, hxr, HM.out.1, HM.out.2.1, HM.out.2.2.1, HM.out.2.2.2, HTL.out, fun j _ => by simp, by rw [HP.out]; simp, by omega, hown⟩
          · intro a w'' hI
            refine jRound hc1 hc12 HAO.out hL40 HAT HV _ ?_ a w'' hI
            rintro a w' ⟨T, i, ⟨q, m, u, may, vs, hq, rfl, hxr, hm, hsafe, hfail, hcov, hn, hml, hpq, hwq, hown⟩, rfl⟩
            obtain ⟨TT, t1, t2, t3, t4⟩ := hsafe.crash hm ks
            have hneed := hm.need
            have hcl : (m.d.crash ks).fl.length = m.d.fl.length := by simp only [DevM.crash, foldl_setAt_length]
            have hl0 : 0 < (m.d.crash ks).fl.length := by obtain ⟨C, hC, q1, q2, q3, q4, q5, q6, -⟩ := hm.nat; omega
            have hmk := fun (k : Nat) (hk : k < 4 * c) => hcov.crash hm hsafe ks t2 t4 (k := k) (by omega)
            have htl : 4 * (⟨m.d.crash ks, m.c, m.p, m.b, TT, []⟩ : ImgM).t.length = 4 * c := by show 4 * TT.length = 4 * c; rw [t2.1, hsafe.ulen]; exact hn
            have hid3 : ∃ my : ImgM, my = ⟨m.d.crash ks, m.c, m.p, m.b, TT, []⟩ ∧ my.Ok ∧ 4 * my.t.length = 4 * c ∧ m.d.crash ks = my.d := ⟨_, rfl, t3, htl, rfl⟩
            obtain ⟨my, hmy, hmy1, hmy2, hmy3⟩ := hid3
            have HOK3 := Lib.hid hmy1
            have HTT := Lib.hid hmy2
            have HDD := Lib.hid hmy3
            have hcok := DevM.crash_ok hm.d ks
            have HOP := Lib.hid (fun (bd : Nat) (R : List SL.HP) (w : World) (H : own w (devAt bd (m.d.crash ks) :: R)) => open_img bd (m.d.crash ks) hcok hl0 R w H)
            rw [t1, ← hmy] at HOP
            rw [← hmy] at hmk
            have HMK := Lib.hid hmk
            have HMY := Lib.hid hmy
            have HDC := Lib.hid (fun (R : List SL.HP) (w' : World) (hv : ∀ w' l, own w' (l ++ R) → BoolsAt w' (.slice kao ks.length kcap) ks) (H : own w' (devAt bd1 m.d :: R)) => dev_crash bd1 m.d hm.d (.slice kao ks.length kcap) ks R w' hv H)
            have HML := Lib.hid hml
            have HR := Lib.hid (rowsO_last (n := 4 * c) (A := [imgAt b1 bd1 bh m, pts bm (.cells (arr48 (4 * c) vs) 37 (0, 0))]) (R := [exactly w]) vs may rfl)
            clear hm hsafe hfail hcov hml t1 t2 t3 t4 hneed hcl hl0 htl hcok hn hpq hwq hmk hmy hmy1 hmy2 hmy3
            go_wp2_with fail
            refine (HDC.out _ w' (fun w' L H => HKS.out.later (L.length + (2 + 4 * c)) H (at_behind HR.out)) (own_pick 1 hown rfl)).mono ?_
            rintro e w4 ⟨bc, rfl, hx4, h4⟩
            go_wp2_with fail
            refine (HOP.out bc _ w4 h4).mono ?_
            rintro e w5 (⟨hne, -⟩ | ⟨-, bi, bh2, rfl, hx5, h5⟩)
            · exact absurd rfl hne
            dsimp only at h5
            have hx6 := (hxr.trans hx4).trans hx5
            replace h5 : own w5 (imgAt bi bc bh2 my :: devAt bc my.d :: devAt bd1 m.d :: imgAt b1 bd1 bh m :: pts bm (.cells (arr48 (4 * c) vs) 37 (0, 0)) :: (rowsO (4 * c) vs may ++ [exactly w])) := h5
            clear HOP HDC HR hown h4 hx4 hx5 hxr
            go_wp2_with fail
            obtain ⟨wo, rfl⟩ : ∃ wo : World, wo = w5 := ⟨_, rfl⟩
            go_loopw [19] (jEnd (4 * c) (imgAt bi bc bh2 my :: devAt bc my.d :: devAt bd1 m.d :: imgAt b1 bd1 bh m :: pts bm (.cells (arr48 (4 * c) vs) 37 (0, 0)) :: (rowsO (4 * c) vs may ++ [exactly w])) w) (fun i _ => 4 * c - (intOf i).toNat)
            case atStart => exact ⟨0, by omega, rfl, hx6, h5⟩
            case round =>
              clear h5 hx6
              obtain ⟨k, hk, rfl, hxr, hown⟩ := hrel
              by_cases hkn : k < 4 * c
              · have i1 : (0 : Int) ≤ (k : Int) := by omega
                have i2 : (k : Int) < 48 := by omega
                have i3 : (k : Int) < 4 * (c : Int) := by omega
                have HSW := Lib.hid (fun (R : List SL.HP) (w : World) (H : own w (imgAt bi bc bh2 my :: devAt bc my.d :: R)) => shown_any bi bc bh2 my HOK3.out k (by have := HTT.out; omega) R w H)
                have HK := Lib.hid (HMK.out k hkn)
                generalize my.shown k = Sk at *
                go_wp2_with fail
                refine (HSW.out _ wr hown).mono ?_
                rintro e w6 ⟨rfl, hx6, h6⟩
                have hatk := rowsO_at (A := [imgAt bi bc bh2 my, devAt bc my.d, devAt bd1 m.d, imgAt b1 bd1 bh m, pts bm (.cells (arr48 (4 * c) vs) 37 (0, 0))]) (R := [exactly w]) vs may hkn
                obtain ⟨ao9, g9, o9, cp9, hv9, p1, p2, p3, p4, -⟩ := own_rowo_form (5 + k) h6 hatk
                obtain ⟨ca, fa⟩ := own_cells 4 h6 rfl
                have hca : w6.cell? ⟨bm, k, none⟩ = some (.slice ao9 (may k).length cp9) := by rw [ca, ← hv9]; exact arr48_get vs (by omega) hkn
                have HH := Lib.hid (has_any ao9 g9 o9 cp9 (may k) Sk w6 (by have := HML.out k hkn; omega) p3 (fun j hj => p4 j _ (strCells_get hj)) HK.out)
                clear ca hatk hv9 p3 p4
                go_wp2_with fail
                refine HH.out.mono ?_
                rintro e w7 ⟨rfl, rfl⟩
                go_wp2_with fail
                go_roundw
                case rel => exact ⟨k + 1, by omega, by go_num, hxr.trans hx6, h6⟩
                case measure => simp [intOf]; omega
              · have i3 : ¬ ((k : Int) < 4 * (c : Int)) := by omega
                have hR := rowsO_last (n := 4 * c) (A := [imgAt bi bc bh2 my, devAt bc my.d, devAt bd1 m.d, imgAt b1 bd1 bh m, pts bm (.cells (arr48 (4 * c) vs) 37 (0, 0))]) (R := [exactly w]) vs may rfl
                have HR := Lib.hid hR
                clear hR
                go_wp2_with fail
                go_ret
                exact ⟨rfl, below_of (5 + 4 * c) hown HR.out hxr⟩
    · have d5 : decide (300 < (ks.length : Int)) = true := decide_eq_true (by omega)
      clear b1 b2 b3 b4
      go_enter Try.func3, Try.ntmps3
      go_wp2_with fail
      refine (light_any _ l 40 w HV.out).mono ?_
      rintro e w1 ⟨rfl, rfl⟩
      rw [hL]
      clear hL
      go_wp2_with fail
      go_ret
      exact ⟨rfl, below_of 0 h0 rfl (Ext.refl _)⟩
  · have hL' : light l 40 = false := by simpa using hL
    clear hL b1 b2 b3 b4
    go_enter Try.func3, Try.ntmps3
    go_wp2_with fail
    refine (light_any _ l 40 w HV.out).mono ?_
    rintro e w1 ⟨rfl, rfl⟩
    rw [hL']
    clear hL'
    go_wp2_with fail
    go_ret
    exact ⟨rfl, below_of 0 h0 rfl (Ext.refl _)⟩
end Go.Proofs.Ytbpblokfiajpjab

namespace Go.Proofs.Ytbpblokfiajpjab.topImageDone
open Go.ChangeShapes Go.WideShapes Go.ChangeAt Go.RowKit
open Go.ChangeMaps (open_string shut_string)
set_option linter.unusedVariables false

theorem own : ownKnob Try.prog.godebug = none := by kernel_rfl
theorem laidOut : laidOutB Try.prog = true := by kernel_rfl

set_option maxRecDepth 100000 in
theorem lifted (os : Os) (started : os.Started) (H : Type) (enc : TypeId × Value → H) :
    ReturnsInHanded {} Try.checked os 3 .any (Rows.topImageSpec.pre6 enc Try.prog Try.f3 Rows.topImageRow.domain false) (Rows.topImageSpec.post enc Try.prog Try.f3 false true false false) := by
  refine returnsInHanded_of_change (C := Try.checked) own started (by kernel_rfl) Try.func3
    (ChangeSpec.witness6 (enc := enc) (C := Try.checked) false ⟨#[], #[.int .i64 0, .int .i64 0, .slice none 0 0, .slice none 0 0], []⟩ 8 (by kernel_rfl) (by kernel_rfl) (by kernel_rfl) (by kernel_rfl)) ?_
  intro W base args ds gs before hval0 hW hcnd _
  have hval : ∀ (j : Nat) t v, Try.f3.params[j]? = some t → args[j]? = some v → Value.okWide Try.prog W .any base t v := hval0
  have hW' := hW
  obtain ⟨p, q, hA0, hV, rfl, hfz, hnd⟩ := hW
  have hA : DataW.TrodAll enc Try.prog W 0 (fun _ => true) true Try.f3.params.toList args.toList ds p := hA0
  rw [Try.params3] at hA hval
  obtain ⟨v0, vs0, d0, ds0, p0, q0, hargs, rfl, rfl, h0, r0⟩ := trodAll_cons hA
  obtain ⟨v1, vs1, d1, ds1, p1, q1, rfl, rfl, rfl, h1, r1⟩ := trodAll_cons r0
  obtain ⟨v2, vs2, d2, ds2, p2, q2, rfl, rfl, rfl, h2, r2⟩ := trodAll_cons r1
  obtain ⟨v3, vs3, d3, ds3, p3, q3, rfl, rfl, rfl, h3, r3⟩ := trodAll_cons r2
  obtain ⟨rfl, rfl, rfl⟩ := trodAll_nil r3
  obtain rfl : args = #[v0, v1, v2, v3] := by cases args; simp_all
  obtain ⟨rfl, rfl⟩ := trodVars_none hV
  obtain ⟨a0, rfl, rfl, rfl, k0⟩ := open_int Try.underlying3 (hval 0 3 v0 rfl rfl) h0
  obtain ⟨a1, rfl, rfl, rfl, k1⟩ := open_int Try.underlying3 (hval 1 3 v1 rfl rfl) h1
  obtain ⟨ao2, len2, cap2, rfl⟩ := okWide_slice Try.underlying22 (hval 2 22 v2 rfl rfl)
  have t2 := h2
  have lt2 : ∀ x ∈ p2, x.block < W.heap.size := by obtain ⟨m, hm⟩ := t2; exact DataW.trod_lt m _ _ _ hm
  obtain ⟨a2, k2⟩ : ∃ l, ActsAt W (.slice ao2 len2 cap2) l := by
    obtain ⟨fuel, hf⟩ := h2
    exact acts_open hf
  obtain ⟨ao3, len3, cap3, rfl⟩ := okWide_slice Try.underlying23 (hval 3 23 v3 rfl rfl)
  have t3 := h3
  have lt3 : ∀ x ∈ p3, x.block < W.heap.size := by obtain ⟨m, hm⟩ := t3; exact DataW.trod_lt m _ _ _ hm
  obtain ⟨a3, k3⟩ : ∃ l, BoolsAt W (.slice ao3 len3 cap3) l := by
    obtain ⟨fuel, hf⟩ := h3
    exact bools_open hf
  clear hA0 hval0
  refine (topImage_walk a0 a1 _ a2 _ a3 W k2 k3).mono fun e W' ⟨he, bel⟩ => ?_
  subst he
  exact ⟨_, rfl, _, _, _, [], _, [], hW', trodAll_mk1 (shut_bool Try.underlying4 _), (trodAll_cons_mk (shut_int Try.underlying3 k0) (trodAll_cons_mk (shut_int Try.underlying3 k1) (trodAll_cons_mk (Below.trod laidOut (by kernel_rfl) (of_decide_eq_true (by kernel_rfl)) t2 bel lt2) (trodAll_cons_mk (Below.trod laidOut (by kernel_rfl) (of_decide_eq_true (by kernel_rfl)) t3 bel lt3) trodAll_mk0)))), rfl, bel.frame _, fun h => by cases h⟩

theorem over : Rows.topImageRow.holds Try.pinned (OpenSpec.ofChange Rows.topImageSpec) :=
  OpenClaim.holds_of_wide 3 Try.f3 rfl rfl rfl rfl rfl rfl rfl ⟨rfl, rfl, rfl, rfl, rfl⟩ rfl rfl rfl rfl rfl (by kernel_rfl) Try.func3 (by kernel_rfl)
    (of_decide_eq_true (by kernel_rfl)) (by unfold Func.isWrapper; first | (rw [if_pos (by decide +kernel)]; kernel_rfl) | (rw [if_neg (by decide +kernel)]; exact ⟨rfl, rfl⟩))
    (fun os started H enc _ => lifted os started H enc)

theorem proved : Rows.TopImageSaid := over
#print axioms proved
end Go.Proofs.Ytbpblokfiajpjab.topImageDone
