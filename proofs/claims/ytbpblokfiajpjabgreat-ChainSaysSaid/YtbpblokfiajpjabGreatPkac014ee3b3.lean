/- Two shelves side by side; are they one? An act on the list of a root, answered by both shelves. A closed fact of shelves: what is below is seen. ChainSays answers true, whatever the files, the root and the acts, and leaves what it was given as it was. ChainSays answers true at every input, and its arguments read as they did. No conditions. -/
import Derived.Test.YtbpblokfiajpjabGreatPk7c1b2a73c6
import Derived.Test.YtbpblokfiajpjabGreatProg
import Derived.Test.YtbpblokfiajpjabGreatRows
import Derived.WalkKit
import Derived.ProofKit
import Derived.OpenShut
import Derived.ShutString
import Derived.ChangeOld
import Derived.Below
namespace Go.Proofs.YtbpblokfiajpjabGreat
open Go.RowKit Go.SL Go.Crc
attribute [local go_sem ↓] Go.wp_at_zero Go.wp_at_succ

theorem own_put' {w : World} {l : List SL.HP} (k : Nat) {P Q : SL.HP} (hk : l[k]? = some P) (H : own w (Q :: l.eraseIdx k)) : own w (l.set k Q) := by
  refine own_mono (fun h hh => star_unpick k (P := Q) ?_ ?_) H
  · have := (List.getElem?_eq_some_iff.1 hk).1
    simp [this]
  · rw [List.eraseIdx_set_eq]; exact hh
theorem sh_put' {b : Nat} {A : Nat → Nat × Nat × Nat} {F : ShM} {R : List SL.HP} {w : World} {k : Nat} (hk : k < 5) {m m' : ImgM} (h : F k = some m)
    (H : own w (imgAt (A k).1 (A k).2.1 (A k).2.2 m' :: devAt (A k).2.1 m'.d :: (shL b A F ++ R).eraseIdx (1 + k))) : own w (shL b A (put F k m') ++ R) := by
  have h1 := own_star_mk [imgAt (A k).1 (A k).2.1 (A k).2.2 m', devAt (A k).2.1 m'.d] H
  have h2 := own_put' (1 + k) (shL_get hk) h1
  rwa [shL_put hk h] at h2
theorem rsh_put' {b : Nat} {A : Nat → Nat × Nat} {F : ShM} {R : List SL.HP} {w : World} {k : Nat} (hk : k < 5) {m m' : ImgM} (h : F k = some m)
    (H : own w (rimgAt (A k).1 (A k).2 m' :: rdevAt (A k).2 m'.d :: (rshL b A F ++ R).eraseIdx (1 + k))) : own w (rshL b A (put F k m') ++ R) := by
  have h1 := own_star_mk [rimgAt (A k).1 (A k).2 m', rdevAt (A k).2 m'.d] H
  have h2 := own_put' (1 + k) (rshL_get hk) h1
  rwa [rshL_put hk h] at h2
theorem erase_sh {b : Nat} {A : Nat → Nat × Nat × Nat} {F : ShM} {R : List SL.HP} {k : Nat} (hk : k < 5) : (shL b A F ++ R).eraseIdx (1 + k) = (shL b A F).eraseIdx (1 + k) ++ R :=
  List.eraseIdx_append_of_lt_length (by simp [shL]; omega) R
theorem erase_rsh {b : Nat} {A : Nat → Nat × Nat} {F : ShM} {R : List SL.HP} {k : Nat} (hk : k < 5) : (rshL b A F ++ R).eraseIdx (1 + k) = (rshL b A F).eraseIdx (1 + k) ++ R :=
  List.eraseIdx_append_of_lt_length (by simp [rshL]; omega) R
section
variable {b b2 : Nat} {A : Nat → Nat × Nat × Nat} {A2 : Nat → Nat × Nat} {F : ShM} {R : List SL.HP} {w : World} {k : Nat}
theorem both_take (hk : k < 5) {m : ImgM} (h : F k = some m) (H : own w (shL b A F ++ (rshL b2 A2 F ++ R))) :
    own w (imgAt (A k).1 (A k).2.1 (A k).2.2 m :: devAt (A k).2.1 m.d :: rimgAt (A2 k).1 (A2 k).2 m :: rdevAt (A2 k).2 m.d :: ((shL b A F).eraseIdx (1 + k) ++ ((rshL b2 A2 F).eraseIdx (1 + k) ++ R))) := by
  have h1 := rsh_take hk h (own_swap2 (shL b A F) (rshL b2 A2 F) H)
  rw [erase_rsh hk] at h1
  have h2 : own w (shL b A F ++ ((rimgAt (A2 k).1 (A2 k).2 m :: rdevAt (A2 k).2 m.d :: (rshL b2 A2 F).eraseIdx (1 + k)) ++ R)) := own_perm (List.perm_append_comm_assoc (rimgAt (A2 k).1 (A2 k).2 m :: rdevAt (A2 k).2 m.d :: (rshL b2 A2 F).eraseIdx (1 + k)) (shL b A F) R) h1
  have h3 := sh_take hk h h2
  rw [erase_sh hk] at h3
  exact own_perm (((List.perm_append_comm_assoc ((shL b A F).eraseIdx (1 + k)) [rimgAt (A2 k).1 (A2 k).2 m, rdevAt (A2 k).2 m.d] ((rshL b2 A2 F).eraseIdx (1 + k) ++ R)).cons _).cons _) h3
theorem both_put (hk : k < 5) {m m' : ImgM} (h : F k = some m) (H : own w (imgAt (A k).1 (A k).2.1 (A k).2.2 m' :: devAt (A k).2.1 m'.d :: rimgAt (A2 k).1 (A2 k).2 m' :: rdevAt (A2 k).2 m'.d :: ((shL b A F).eraseIdx (1 + k) ++ ((rshL b2 A2 F).eraseIdx (1 + k) ++ R)))) :
    own w (shL b A (put F k m') ++ (rshL b2 A2 (put F k m') ++ R)) := by
  have h1 : own w (imgAt (A k).1 (A k).2.1 (A k).2.2 m' :: devAt (A k).2.1 m'.d :: ((shL b A F).eraseIdx (1 + k) ++ ((rimgAt (A2 k).1 (A2 k).2 m' :: rdevAt (A2 k).2 m'.d :: (rshL b2 A2 F).eraseIdx (1 + k)) ++ R))) :=
    own_perm (((List.perm_append_comm_assoc [rimgAt (A2 k).1 (A2 k).2 m', rdevAt (A2 k).2 m'.d] ((shL b A F).eraseIdx (1 + k)) ((rshL b2 A2 F).eraseIdx (1 + k) ++ R)).cons _).cons _) H
  rw [← erase_sh hk] at h1
  have h2 := sh_put' hk h h1
  have h3 : own w (rimgAt (A2 k).1 (A2 k).2 m' :: rdevAt (A2 k).2 m'.d :: ((rshL b2 A2 F).eraseIdx (1 + k) ++ (shL b A (put F k m') ++ R))) := own_perm (List.perm_append_comm_assoc (shL b A (put F k m')) (rimgAt (A2 k).1 (A2 k).2 m' :: rdevAt (A2 k).2 m'.d :: (rshL b2 A2 F).eraseIdx (1 + k)) R) h2
  rw [← erase_rsh hk] at h3
  exact own_swap2 (rshL b2 A2 (put F k m')) (shL b A (put F k m')) (rsh_put' hk h h3)
end

set_option maxRecDepth 100000 in
set_option maxHeartbeats 8000000 in
theorem asshelf_any (b b2 : Nat) (A : Nat → Nat × Nat × Nat) (A2 : Nat → Nat × Nat) (F : ShM) (hF : ShOk F) (R : List SL.HP) (w : World) (H : own w (shL b A F ++ (rshL b2 A2 F ++ R))) :
    Calls Tryz.prog 13 #[.pointer (some ⟨b, 0, none⟩), .pointer (some ⟨b2, 0, none⟩)] w fun e w' => e = .returned (.bool true) ∧ Ext w w' ∧ own w' (shL b A F ++ (rshL b2 A2 F ++ R)) := by
  go_enter Tryz.func13, Tryz.ntmps13
  go_wp2_with fail
  go_loopw [5] (fun iv wr => ∃ i : Nat, i ≤ 5 ∧ iv = .int .i64 i ∧ Ext w wr ∧ own wr (shL b A F ++ (rshL b2 A2 F ++ R))) (fun iv _ => 5 - (intOf iv).toNat)
  case atStart => exact ⟨0, by omega, rfl, Ext.refl _, H⟩
  case round =>
    obtain ⟨i, hi, rfl, hxr, hown⟩ := hrel
    by_cases hlt : i < 5
    · have w1 : (i : Int) < 5 := by omega
      have w2 : (0 : Int) ≤ (i : Int) := by omega
      have g1 := sh_cell hown hlt
      have g2 := rsh_cell (own_swap2 (shL b A F) (rshL b2 A2 F) hown) hlt
      cases hFi : F i with
      | none =>
        rw [slotV_none hFi] at g1
        rw [rslotV_none hFi] at g2
        clear hFi
        go_upto_region 4 with (fail)
        go_quiet (fail)
        have hb := own_drewN nq hown
        have hxb := hxr.drewN nq
        clear g1 g2 hown hxr
        generalize wr.drewN nq = wb at *
        go_wp2_with fail
        go_roundw
        case rel => exact ⟨i + 1, by omega, by go_num, hxb, hb⟩
        case measure => simp [intOf]; omega
      | some m =>
        rw [slotV_some hFi] at g1
        rw [rslotV_some hFi] at g2
        have HFI := Lib.hid hFi
        have HAS := Lib.hid (fun (w : World) (H : own w (shL b A F ++ (rshL b2 A2 F ++ R))) => (asimage_any (A i).1 (A i).2.1 (A i).2.2 (A2 i).1 (A2 i).2 m (hF.ok i m hlt hFi) _ w (both_take hlt hFi H)).mono fun e w' h => show e = .returned (.bool true) ∧ Ext w w' ∧ own w' (shL b A F ++ (rshL b2 A2 F ++ R)) from ⟨h.1, h.2.1, by have := both_put hlt hFi h.2.2; rwa [put_self hFi] at this⟩)
        have HG := Lib.hid (fun (w : World) (H : own w (shL b A F ++ (rshL b2 A2 F ++ R))) => show w.cell? ⟨b, i, none⟩ = some (.pointer (some ⟨(A i).1, 0, none⟩)) ∧ w.cell? ⟨b2, i, none⟩ = some (.pointer (some ⟨(A2 i).1, 0, none⟩)) from ⟨by rw [sh_cell H hlt, slotV_some HFI.out], by rw [rsh_cell (own_swap2 (shL b A F) (rshL b2 A2 F) H) hlt, rslotV_some HFI.out]⟩)
        clear hFi g1 g2
        go_upto_region 4 with (fail)
        have hz := own_drew hown
        have hxz := hxr.drew
        clear hown hxr
        go_region_held3 (fun w' => w'.cell? ⟨b, i, none⟩ = some (.pointer (some ⟨(A i).1, 0, none⟩)) ∧ w'.cell? ⟨b2, i, none⟩ = some (.pointer (some ⟨(A2 i).1, 0, none⟩))) (exact HG.out _ hz) ((go_at_call 36; refine (HAS.out _ hz).mono ?_; rintro e w5 ⟨rfl, hx5, hz'⟩; have hxz := hxz.trans hx5; have hz := hz'))
        all_goals
          go_wp2_with fail
          go_roundw
          case rel => exact ⟨i + 1, by omega, by go_num, hxz, hz⟩
          case measure => simp [intOf]; omega
    · obtain rfl : i = 5 := by omega
      clear hi hlt
      go_wp2_with fail
      go_ret
      exact ⟨rfl, hxr, hown⟩
end Go.Proofs.YtbpblokfiajpjabGreat

namespace Go.Proofs.YtbpblokfiajpjabGreat
open Go.RowKit Go.SL Go.Crc
attribute [local go_sem ↓] Go.wp_at_zero Go.wp_at_succ

def moveBad (F : ShM) (x : Act) : Prop := x.A < 0 ∨ 4 < x.A ∨ F x.A.toNat = none ∨ x.S.size ≠ 64
open Classical in
noncomputable def chainA (F : ShM) (l : List Int) (x : Act) : ShM :=
  if (x.kind.toList == [112, 117, 116]) = true then (putM F l x.A x.S).2
  else if (x.kind.toList == [119, 105, 112, 101]) = true then (if x.B < 0 ∨ 200 < x.B then F else (wipeM F l x.A x.B).2)
  else if (x.kind.toList == [103, 101, 116]) = true then F
  else if (x.kind.toList == [109, 111, 118, 101]) = true then (if moveBad F x then F else (moveM F x.A.toNat x.B x.S).2)
  else F
theorem topI_le {F : ShM} {l : List Int} (hl : ∀ x ∈ l, isFile F x) : topI l < 5 := by
  by_cases h0 : l.length = 0
  · unfold topI
    rw [List.length_eq_zero_iff.1 h0]
    simp
  · obtain ⟨m, h5, -⟩ := topI_of hl h0
    exact h5
theorem chainA_step {F : ShM} {N : Nat} (hW : ShW N F) (hN : N + 1000 < 900000) {l : List Int} (hl : ∀ x ∈ l, isFile F x) (x : Act) (hS : x.S.size ≤ 3200) : ShStep 1000 F (chainA F l x) := by
  have h5 := topI_le hl
  have hF := hW.sh (show N < 900000 by omega)
  unfold chainA
  split
  · exact putM_step hW h5 hN _ _ hS
  · split
    · split
      · exact ShStep.refl hF _
      · exact wipeM_step hW h5 hN _ _ (by omega)
    · split
      · exact ShStep.refl hF _
      · split
        · split
          · exact ShStep.refl hF _
          · rename_i hb
            unfold moveBad at hb
            exact (moveM_step hF (by omega) _ _).mono (by omega)
        · exact ShStep.refl hF _
theorem own_box {w : World} {l R : List SL.HP} (o : Obj) (H : own w (l ++ R)) : own (w.alloc o) (l ++ (pts w.heap.size o :: R)) := own_behind l (own_alloc H o)
set_option maxRecDepth 1000000 in
set_option maxHeartbeats 8000000 in
theorem chained_put (b b2 : Nat) (A : Nat → Nat × Nat × Nat) (A2 : Nat → Nat × Nat) (F : ShM) (N : Nat) (hW : ShW N F) (hN : N + 1000 < 900000) (v : Value) (l : List Int) (hl : ∀ x ∈ l, isFile F x) (hl5 : l.length ≤ 5) (x : Act) (ko : Option Addr) (kn kc : Nat) (hA : i64ok x.A) (hB : i64ok x.B) (hS : x.S.size ≤ 3200) (R : List SL.HP) (w : World) (hv : ∀ w' L, own w' (L ++ R) → IntsAt w' v l) (H : own w (shL b A F ++ (rshL b2 A2 F ++ R))) (k0 : (x.kind.toList == [112, 117, 116]) = true) :
    Calls Tryz.prog 12 #[.pointer (some ⟨b, 0, none⟩), .pointer (some ⟨b2, 0, none⟩), v, .agg #[.string x.kind, .int .i64 x.A, .int .i64 x.B, .int .i64 x.C, .int .i64 x.D, .string x.S, .slice ko kn kc]] w fun e w' => e = .returned (.bool true) ∧ Ext w w' ∧ own w' (shL b A (chainA F l x) ++ (rshL b2 A2 (chainA F l x) ++ R)) := by
  unfold chainA
  rw [if_pos k0]
  have hcode := putM_code F l x.A x.S
  have HP := Lib.hid (fun (R : List SL.HP) (hv : ∀ w' L, own w' (L ++ R) → IntsAt w' v l) (w : World) (H : own w (shL b A F ++ R)) => sput_any b A F N hW hN v l hl hl5 x.A hA x.S hS R w hv H)
  have HR := Lib.hid (fun (R : List SL.HP) (hv : ∀ w' L, own w' (L ++ R) → IntsAt w' v l) (w : World) (H : own w (rshL b2 A2 F ++ R)) => rput_any b2 A2 F N hW hN v l hl hl5 x.A hA x.S hS R w hv H)
  generalize putM F l x.A x.S = S at *
  obtain ⟨f, F2⟩ := S
  dsimp only at hcode HP HR ⊢
  obtain ⟨A1', A2'⟩ := hA
  obtain ⟨B1', B2'⟩ := hB
  have hF : ShOk F := hW.sh (by omega)
  have h0 : own (w.alloc (.cells #[.string x.kind, .int .i64 x.A, .int .i64 x.B, .int .i64 x.C, .int .i64 x.D, .string x.S, .slice ko kn kc] 43)) (shL b A F ++ (rshL b2 A2 F ++ (pts w.heap.size (.cells #[.string x.kind, .int .i64 x.A, .int .i64 x.B, .int .i64 x.C, .int .i64 x.D, .string x.S, .slice ko kn kc] 43) :: R))) := by
    have := own_box (.cells #[.string x.kind, .int .i64 x.A, .int .i64 x.B, .int .i64 x.C, .int .i64 x.D, .string x.S, .slice ko kn kc] 43) (show own w ((shL b A F ++ rshL b2 A2 F) ++ R) by rwa [List.append_assoc])
    rwa [List.append_assoc] at this
  have hxa := (Ext.refl w).alloc (.cells #[.string x.kind, .int .i64 x.A, .int .i64 x.B, .int .i64 x.C, .int .i64 x.D, .string x.S, .slice ko kn kc] 43)
  have HV := Lib.hid hv
  clear hl hF hW H hv
  go_enter Tryz.func12, Tryz.ntmps12
  go_upto_region 1 with (fail)
  generalize w.heap.size = ba at *
  generalize w.alloc (.cells #[.string x.kind, .int .i64 x.A, .int .i64 x.B, .int .i64 x.C, .int .i64 x.D, .string x.S, .slice ko kn kc] 43) = wa at *
  obtain ⟨cc, -⟩ := own_cells 12 h0 rfl
  have c0 := cc 0
  have c1 := cc 1
  have c2 := cc 2
  have c5 := cc 5
  clear cc
  go_upto_region 3 with (fail)
  have hd := own_drew h0
  go_region_held3 (fun w' => w'.cell? ⟨ba, 1, none⟩ = some (.int .i64 x.A) ∧ w'.cell? ⟨ba, 5, none⟩ = some (.string x.S)) (first | exact ⟨(own_cells 12 hd rfl).1 1, (own_cells 12 hd rfl).1 5⟩ | exact ⟨(own_cells 12 h4 rfl).1 1, (own_cells 12 h4 rfl).1 5⟩ | exact ⟨(own_cells 12 h5 rfl).1 1, (own_cells 12 h5 rfl).1 5⟩) (first | (go_at_call 25; refine (HP.out _ (ints_more HV.out (rshL b2 A2 F ++ [_])) _ hd).mono ?_; rintro e w4 ⟨rfl, hx4, h4⟩) | (go_at_call 26; refine (HR.out _ (ints_more HV.out (shL b A F2 ++ [_])) _ (own_swap2 (shL b A F2) (rshL b2 A2 F) h4)).mono ?_; rintro e w5 ⟨rfl, hx5, h5⟩) | (go_at_call 10; refine (same_any f f _ hcode).mono ?_; rintro e w' ⟨rfl, rfl⟩))
  clear c0 c1 c2 c5
  go_wp2_with fail
  go_ret
  exact ⟨by simp, (hxa.drew.trans hx4).trans hx5, own_swap2 (rshL b2 A2 F2) (shL b A F2) (own_erase 12 h5 rfl)⟩

set_option maxRecDepth 1000000 in
set_option maxHeartbeats 8000000 in
theorem chained_wipe (b b2 : Nat) (A : Nat → Nat × Nat × Nat) (A2 : Nat → Nat × Nat) (F : ShM) (N : Nat) (hW : ShW N F) (hN : N + 1000 < 900000) (v : Value) (l : List Int) (hl : ∀ x ∈ l, isFile F x) (hl5 : l.length ≤ 5) (x : Act) (ko : Option Addr) (kn kc : Nat) (hA : i64ok x.A) (hB : i64ok x.B) (hS : x.S.size ≤ 3200) (R : List SL.HP) (w : World) (hv : ∀ w' L, own w' (L ++ R) → IntsAt w' v l) (H : own w (shL b A F ++ (rshL b2 A2 F ++ R))) (k0 : ¬ (x.kind.toList == [112, 117, 116]) = true) (k1 : (x.kind.toList == [119, 105, 112, 101]) = true) :
    Calls Tryz.prog 12 #[.pointer (some ⟨b, 0, none⟩), .pointer (some ⟨b2, 0, none⟩), v, .agg #[.string x.kind, .int .i64 x.A, .int .i64 x.B, .int .i64 x.C, .int .i64 x.D, .string x.S, .slice ko kn kc]] w fun e w' => e = .returned (.bool true) ∧ Ext w w' ∧ own w' (shL b A (chainA F l x) ++ (rshL b2 A2 (chainA F l x) ++ R)) := by
  unfold chainA
  rw [if_neg k0]
  rw [if_pos k1]
  by_cases hb1 : x.B < 0
  · rw [if_pos (.inl hb1)]
    have d1 : decide (x.B < 0) = true := decide_eq_true hb1
    obtain ⟨A1', A2'⟩ := hA
    obtain ⟨B1', B2'⟩ := hB
    have hF : ShOk F := hW.sh (by omega)
    have h0 : own (w.alloc (.cells #[.string x.kind, .int .i64 x.A, .int .i64 x.B, .int .i64 x.C, .int .i64 x.D, .string x.S, .slice ko kn kc] 43)) (shL b A F ++ (rshL b2 A2 F ++ (pts w.heap.size (.cells #[.string x.kind, .int .i64 x.A, .int .i64 x.B, .int .i64 x.C, .int .i64 x.D, .string x.S, .slice ko kn kc] 43) :: R))) := by
      have := own_box (.cells #[.string x.kind, .int .i64 x.A, .int .i64 x.B, .int .i64 x.C, .int .i64 x.D, .string x.S, .slice ko kn kc] 43) (show own w ((shL b A F ++ rshL b2 A2 F) ++ R) by rwa [List.append_assoc])
      rwa [List.append_assoc] at this
    have hxa := (Ext.refl w).alloc (.cells #[.string x.kind, .int .i64 x.A, .int .i64 x.B, .int .i64 x.C, .int .i64 x.D, .string x.S, .slice ko kn kc] 43)
    have HV := Lib.hid hv
    clear hl hF hW hv hb1
    go_enter Tryz.func12, Tryz.ntmps12
    go_upto_region 1 with (fail)
    generalize w.heap.size = ba at *
    generalize w.alloc (.cells #[.string x.kind, .int .i64 x.A, .int .i64 x.B, .int .i64 x.C, .int .i64 x.D, .string x.S, .slice ko kn kc] 43) = wa at *
    obtain ⟨cc, -⟩ := own_cells 12 h0 rfl
    have c0 := cc 0
    have c1 := cc 1
    have c2 := cc 2
    have c5 := cc 5
    clear cc
    go_wp2_with fail
    go_ret
    exact ⟨rfl, hxa, by have := own_erase 12 h0 rfl; exact this⟩
  by_cases hb2 : 200 < x.B
  · rw [if_pos (.inr hb2)]
    have d1 : decide (x.B < 0) = false := decide_eq_false hb1
    have d2 : decide (200 < x.B) = true := decide_eq_true hb2
    obtain ⟨A1', A2'⟩ := hA
    obtain ⟨B1', B2'⟩ := hB
    have hF : ShOk F := hW.sh (by omega)
    have h0 : own (w.alloc (.cells #[.string x.kind, .int .i64 x.A, .int .i64 x.B, .int .i64 x.C, .int .i64 x.D, .string x.S, .slice ko kn kc] 43)) (shL b A F ++ (rshL b2 A2 F ++ (pts w.heap.size (.cells #[.string x.kind, .int .i64 x.A, .int .i64 x.B, .int .i64 x.C, .int .i64 x.D, .string x.S, .slice ko kn kc] 43) :: R))) := by
      have := own_box (.cells #[.string x.kind, .int .i64 x.A, .int .i64 x.B, .int .i64 x.C, .int .i64 x.D, .string x.S, .slice ko kn kc] 43) (show own w ((shL b A F ++ rshL b2 A2 F) ++ R) by rwa [List.append_assoc])
      rwa [List.append_assoc] at this
    have hxa := (Ext.refl w).alloc (.cells #[.string x.kind, .int .i64 x.A, .int .i64 x.B, .int .i64 x.C, .int .i64 x.D, .string x.S, .slice ko kn kc] 43)
    have HV := Lib.hid hv
    clear hl hF hW hv hb1 hb2
    go_enter Tryz.func12, Tryz.ntmps12
    go_upto_region 1 with (fail)
    generalize w.heap.size = ba at *
    generalize w.alloc (.cells #[.string x.kind, .int .i64 x.A, .int .i64 x.B, .int .i64 x.C, .int .i64 x.D, .string x.S, .slice ko kn kc] 43) = wa at *
    obtain ⟨cc, -⟩ := own_cells 12 h0 rfl
    have c0 := cc 0
    have c1 := cc 1
    have c2 := cc 2
    have c5 := cc 5
    clear cc
    go_wp2_with fail
    go_ret
    exact ⟨rfl, hxa, by have := own_erase 12 h0 rfl; exact this⟩
  · rw [if_neg (by omega)]
    have hcode := wipeM_code F l x.A x.B
    obtain ⟨nb, hnb⟩ := Int.eq_ofNat_of_zero_le (show 0 ≤ x.B by omega)
    have HP := Lib.hid (fun (R : List SL.HP) (hv : ∀ w' L, own w' (L ++ R) → IntsAt w' v l) (w : World) (H : own w (shL b A F ++ R)) => swipe_any b A F N hW hN v l hl hl5 x.A x.B hA hB R w hv H)
    have HR := Lib.hid (fun (R : List SL.HP) (hv : ∀ w' L, own w' (L ++ R) → IntsAt w' v l) (w : World) (H : own w (rshL b2 A2 F ++ R)) => rwipe_any b2 A2 F N hW hN v l hl hl5 x.A hA nb (by omega) (zs (16 * nb)) (zs_size _) R w hv H)
    have HZ := Lib.hid (fun (R : List SL.HP) (w : World) (H : own w R) => noughts_any (16 * nb) (by omega) R w H)
    rw [← hnb] at HR
    have d1 : decide (x.B < 0) = false := decide_eq_false hb1
    have d2 : decide (200 < x.B) = false := decide_eq_false hb2
    have e1 : IntKind.i64.wrap (16 * x.B) = ((16 * nb : Nat) : Int) := by rw [IntWalk.i64_in _ (by omega)]; omega
    generalize wipeM F l x.A x.B = S at *
    obtain ⟨f, F2⟩ := S
    dsimp only at hcode HP HR ⊢
    obtain ⟨A1', A2'⟩ := hA
    obtain ⟨B1', B2'⟩ := hB
    have hF : ShOk F := hW.sh (by omega)
    have h0 : own (w.alloc (.cells #[.string x.kind, .int .i64 x.A, .int .i64 x.B, .int .i64 x.C, .int .i64 x.D, .string x.S, .slice ko kn kc] 43)) (shL b A F ++ (rshL b2 A2 F ++ (pts w.heap.size (.cells #[.string x.kind, .int .i64 x.A, .int .i64 x.B, .int .i64 x.C, .int .i64 x.D, .string x.S, .slice ko kn kc] 43) :: R))) := by
      have := own_box (.cells #[.string x.kind, .int .i64 x.A, .int .i64 x.B, .int .i64 x.C, .int .i64 x.D, .string x.S, .slice ko kn kc] 43) (show own w ((shL b A F ++ rshL b2 A2 F) ++ R) by rwa [List.append_assoc])
      rwa [List.append_assoc] at this
    have hxa := (Ext.refl w).alloc (.cells #[.string x.kind, .int .i64 x.A, .int .i64 x.B, .int .i64 x.C, .int .i64 x.D, .string x.S, .slice ko kn kc] 43)
    have HV := Lib.hid hv
    have HNB := Lib.hid hnb
    clear hl hF hW H hv hb1 hb2 hnb
    go_enter Tryz.func12, Tryz.ntmps12
    go_upto_region 1 with (fail)
    generalize w.heap.size = ba at *
    generalize w.alloc (.cells #[.string x.kind, .int .i64 x.A, .int .i64 x.B, .int .i64 x.C, .int .i64 x.D, .string x.S, .slice ko kn kc] 43) = wa at *
    obtain ⟨cc, -⟩ := own_cells 12 h0 rfl
    have c0 := cc 0
    have c1 := cc 1
    have c2 := cc 2
    have c5 := cc 5
    clear cc
    go_upto_region 7 with (fail)
    have hd := own_drew h0
    go_region_held3 (fun w' => w'.cell? ⟨ba, 1, none⟩ = some (.int .i64 x.A) ∧ w'.cell? ⟨ba, 2, none⟩ = some (.int .i64 x.B)) (first | exact ⟨(own_cells 12 hd rfl).1 1, (own_cells 12 hd rfl).1 2⟩ | exact ⟨(own_cells 12 h4 rfl).1 1, (own_cells 12 h4 rfl).1 2⟩ | exact ⟨(own_cells 12 h6 rfl).1 1, (own_cells 12 h6 rfl).1 2⟩ | exact ⟨(own_cells 12 h5 rfl).1 1, (own_cells 12 h5 rfl).1 2⟩) (first | (go_at_call 27; refine (HP.out _ (ints_more HV.out (rshL b2 A2 F ++ [_])) _ hd).mono ?_; rintro e w4 ⟨rfl, hx4, h4⟩) | (go_at_call 28; refine (HZ.out _ _ h4).mono ?_; rintro e w6 ⟨rfl, hx6, h6⟩) | (go_at_call 26; refine (HR.out _ (ints_more HV.out (shL b A F2 ++ [_])) _ (own_swap2 (shL b A F2) (rshL b2 A2 F) h6)).mono ?_; rintro e w5 ⟨rfl, hx5, h5⟩) | (go_at_call 10; refine (same_any f f _ hcode).mono ?_; rintro e w' ⟨rfl, rfl⟩))
    clear c0 c1 c2 c5
    go_wp2_with fail
    go_ret
    exact ⟨by simp, ((hxa.drew.trans hx4).trans hx6).trans hx5, own_swap2 (rshL b2 A2 F2) (shL b A F2) (own_erase 12 h5 rfl)⟩

set_option maxRecDepth 1000000 in
set_option maxHeartbeats 8000000 in
theorem chained_get (b b2 : Nat) (A : Nat → Nat × Nat × Nat) (A2 : Nat → Nat × Nat) (F : ShM) (N : Nat) (hW : ShW N F) (hN : N + 1000 < 900000) (v : Value) (l : List Int) (hl : ∀ x ∈ l, isFile F x) (hl5 : l.length ≤ 5) (x : Act) (ko : Option Addr) (kn kc : Nat) (hA : i64ok x.A) (hB : i64ok x.B) (hS : x.S.size ≤ 3200) (R : List SL.HP) (w : World) (hv : ∀ w' L, own w' (L ++ R) → IntsAt w' v l) (H : own w (shL b A F ++ (rshL b2 A2 F ++ R))) (k0 : ¬ (x.kind.toList == [112, 117, 116]) = true) (k1 : ¬ (x.kind.toList == [119, 105, 112, 101]) = true) (k2 : (x.kind.toList == [103, 101, 116]) = true) :
    Calls Tryz.prog 12 #[.pointer (some ⟨b, 0, none⟩), .pointer (some ⟨b2, 0, none⟩), v, .agg #[.string x.kind, .int .i64 x.A, .int .i64 x.B, .int .i64 x.C, .int .i64 x.D, .string x.S, .slice ko kn kc]] w fun e w' => e = .returned (.bool true) ∧ Ext w w' ∧ own w' (shL b A (chainA F l x) ++ (rshL b2 A2 (chainA F l x) ++ R)) := by
  unfold chainA
  rw [if_neg k0]
  rw [if_neg k1]
  rw [if_pos k2]
  have hcode : 0 ≤ (getM F l x.A x.B).2 := by
    unfold getM
    split
    · simp
    · exact withinM_code _ _ _ _
  obtain ⟨A1', A2'⟩ := hA
  obtain ⟨B1', B2'⟩ := hB
  have hF : ShOk F := hW.sh (by omega)
  have h0 : own (w.alloc (.cells #[.string x.kind, .int .i64 x.A, .int .i64 x.B, .int .i64 x.C, .int .i64 x.D, .string x.S, .slice ko kn kc] 43)) (shL b A F ++ (rshL b2 A2 F ++ (pts w.heap.size (.cells #[.string x.kind, .int .i64 x.A, .int .i64 x.B, .int .i64 x.C, .int .i64 x.D, .string x.S, .slice ko kn kc] 43) :: R))) := by
    have := own_box (.cells #[.string x.kind, .int .i64 x.A, .int .i64 x.B, .int .i64 x.C, .int .i64 x.D, .string x.S, .slice ko kn kc] 43) (show own w ((shL b A F ++ rshL b2 A2 F) ++ R) by rwa [List.append_assoc])
    rwa [List.append_assoc] at this
  have hxa := (Ext.refl w).alloc (.cells #[.string x.kind, .int .i64 x.A, .int .i64 x.B, .int .i64 x.C, .int .i64 x.D, .string x.S, .slice ko kn kc] 43)
  have HV := Lib.hid hv
  have HP := Lib.hid (fun (R : List SL.HP) (hv : ∀ w' L, own w' (L ++ R) → IntsAt w' v l) (w : World) (H : own w (shL b A F ++ R)) => get_any b A F hF v l hl hl5 x.A x.B ⟨A1', A2'⟩ ⟨B1', B2'⟩ R w hv H)
  have HR := Lib.hid (fun (R : List SL.HP) (hv : ∀ w' L, own w' (L ++ R) → IntsAt w' v l) (w : World) (H : own w (rshL b2 A2 F ++ R)) => rget_any b2 A2 F hF v l hl hl5 x.A x.B ⟨A1', A2'⟩ ⟨B1', B2'⟩ R w hv H)
  generalize getM F l x.A x.B = S at *
  obtain ⟨t, f⟩ := S
  dsimp only at hcode HP HR
  clear hl hF hW H hv
  go_enter Tryz.func12, Tryz.ntmps12
  go_upto_region 1 with (fail)
  generalize w.heap.size = ba at *
  generalize w.alloc (.cells #[.string x.kind, .int .i64 x.A, .int .i64 x.B, .int .i64 x.C, .int .i64 x.D, .string x.S, .slice ko kn kc] 43) = wa at *
  obtain ⟨cc, -⟩ := own_cells 12 h0 rfl
  have c0 := cc 0
  have c1 := cc 1
  have c2 := cc 2
  have c5 := cc 5
  clear cc
  go_wp2_with fail
  refine (HP.out _ (ints_more HV.out (rshL b2 A2 F ++ [_])) _ h0).mono ?_
  rintro e w4 ⟨rfl, hx4, h4⟩
  clear c0 c1 c2 c5
  obtain ⟨cc, -⟩ := own_cells 12 h4 rfl
  have c1 := cc 1
  have c2 := cc 2
  clear cc
  go_wp2_with fail
  refine (HR.out _ (ints_more HV.out (shL b A F ++ [_])) _ (own_swap2 (shL b A F) (rshL b2 A2 F) h4)).mono ?_
  rintro e w5 ⟨rfl, hx5, h5⟩
  go_wp2_with fail
  refine (same_any f f _ hcode).mono ?_
  rintro e w' ⟨rfl, rfl⟩
  go_wp2_with fail
  go_ret
  exact ⟨by simp, (hxa.trans hx4).trans hx5, own_swap2 (rshL b2 A2 F) (shL b A F) (own_erase 12 h5 rfl)⟩

set_option maxRecDepth 1000000 in
set_option maxHeartbeats 8000000 in
theorem chained_move (b b2 : Nat) (A : Nat → Nat × Nat × Nat) (A2 : Nat → Nat × Nat) (F : ShM) (N : Nat) (hW : ShW N F) (hN : N + 1000 < 900000) (v : Value) (l : List Int) (hl : ∀ x ∈ l, isFile F x) (hl5 : l.length ≤ 5) (x : Act) (ko : Option Addr) (kn kc : Nat) (hA : i64ok x.A) (hB : i64ok x.B) (hS : x.S.size ≤ 3200) (R : List SL.HP) (w : World) (hv : ∀ w' L, own w' (L ++ R) → IntsAt w' v l) (H : own w (shL b A F ++ (rshL b2 A2 F ++ R))) (k0 : ¬ (x.kind.toList == [112, 117, 116]) = true) (k1 : ¬ (x.kind.toList == [119, 105, 112, 101]) = true) (k2 : ¬ (x.kind.toList == [103, 101, 116]) = true) (k3 : (x.kind.toList == [109, 111, 118, 101]) = true) :
    Calls Tryz.prog 12 #[.pointer (some ⟨b, 0, none⟩), .pointer (some ⟨b2, 0, none⟩), v, .agg #[.string x.kind, .int .i64 x.A, .int .i64 x.B, .int .i64 x.C, .int .i64 x.D, .string x.S, .slice ko kn kc]] w fun e w' => e = .returned (.bool true) ∧ Ext w w' ∧ own w' (shL b A (chainA F l x) ++ (rshL b2 A2 (chainA F l x) ++ R)) := by
  unfold chainA
  rw [if_neg k0]
  rw [if_neg k1]
  rw [if_neg k2]
  rw [if_pos k3]
  by_cases hb1 : x.A < 0
  · rw [if_pos (.inl hb1)]
    have d1 : decide (x.A < 0) = true := decide_eq_true hb1
    obtain ⟨A1', A2'⟩ := hA
    obtain ⟨B1', B2'⟩ := hB
    have hF : ShOk F := hW.sh (by omega)
    have h0 : own (w.alloc (.cells #[.string x.kind, .int .i64 x.A, .int .i64 x.B, .int .i64 x.C, .int .i64 x.D, .string x.S, .slice ko kn kc] 43)) (shL b A F ++ (rshL b2 A2 F ++ (pts w.heap.size (.cells #[.string x.kind, .int .i64 x.A, .int .i64 x.B, .int .i64 x.C, .int .i64 x.D, .string x.S, .slice ko kn kc] 43) :: R))) := by
      have := own_box (.cells #[.string x.kind, .int .i64 x.A, .int .i64 x.B, .int .i64 x.C, .int .i64 x.D, .string x.S, .slice ko kn kc] 43) (show own w ((shL b A F ++ rshL b2 A2 F) ++ R) by rwa [List.append_assoc])
      rwa [List.append_assoc] at this
    have hxa := (Ext.refl w).alloc (.cells #[.string x.kind, .int .i64 x.A, .int .i64 x.B, .int .i64 x.C, .int .i64 x.D, .string x.S, .slice ko kn kc] 43)
    have HV := Lib.hid hv
    clear hl hF hW hv hb1
    go_enter Tryz.func12, Tryz.ntmps12
    go_upto_region 1 with (fail)
    generalize w.heap.size = ba at *
    generalize w.alloc (.cells #[.string x.kind, .int .i64 x.A, .int .i64 x.B, .int .i64 x.C, .int .i64 x.D, .string x.S, .slice ko kn kc] 43) = wa at *
    obtain ⟨cc, -⟩ := own_cells 12 h0 rfl
    have c0 := cc 0
    have c1 := cc 1
    have c2 := cc 2
    have c5 := cc 5
    clear cc
    go_upto_region 13 with (fail)
    go_quiet (fail)
    have hb := own_drewN nq h0
    have hxb := hxa.drewN nq
    clear c0 c1 c2 c5 h0 hxa
    generalize wa.drewN nq = wb at *
    go_wp2_with fail
    go_ret
    exact ⟨rfl, hxb, own_erase 12 hb rfl⟩
  by_cases hb2 : 4 < x.A
  · rw [if_pos (.inr (.inl hb2))]
    have d1 : decide (x.A < 0) = false := decide_eq_false hb1
    have d2 : decide (4 < x.A) = true := decide_eq_true hb2
    obtain ⟨A1', A2'⟩ := hA
    obtain ⟨B1', B2'⟩ := hB
    have hF : ShOk F := hW.sh (by omega)
    have h0 : own (w.alloc (.cells #[.string x.kind, .int .i64 x.A, .int .i64 x.B, .int .i64 x.C, .int .i64 x.D, .string x.S, .slice ko kn kc] 43)) (shL b A F ++ (rshL b2 A2 F ++ (pts w.heap.size (.cells #[.string x.kind, .int .i64 x.A, .int .i64 x.B, .int .i64 x.C, .int .i64 x.D, .string x.S, .slice ko kn kc] 43) :: R))) := by
      have := own_box (.cells #[.string x.kind, .int .i64 x.A, .int .i64 x.B, .int .i64 x.C, .int .i64 x.D, .string x.S, .slice ko kn kc] 43) (show own w ((shL b A F ++ rshL b2 A2 F) ++ R) by rwa [List.append_assoc])
      rwa [List.append_assoc] at this
    have hxa := (Ext.refl w).alloc (.cells #[.string x.kind, .int .i64 x.A, .int .i64 x.B, .int .i64 x.C, .int .i64 x.D, .string x.S, .slice ko kn kc] 43)
    have HV := Lib.hid hv
    clear hl hF hW hv hb1 hb2
    go_enter Tryz.func12, Tryz.ntmps12
    go_upto_region 1 with (fail)
    generalize w.heap.size = ba at *
    generalize w.alloc (.cells #[.string x.kind, .int .i64 x.A, .int .i64 x.B, .int .i64 x.C, .int .i64 x.D, .string x.S, .slice ko kn kc] 43) = wa at *
    obtain ⟨cc, -⟩ := own_cells 12 h0 rfl
    have c0 := cc 0
    have c1 := cc 1
    have c2 := cc 2
    have c5 := cc 5
    clear cc
    go_upto_region 13 with (fail)
    go_quiet (fail)
    have hb := own_drewN nq h0
    have hxb := hxa.drewN nq
    clear c0 c1 c2 c5 h0 hxa
    generalize wa.drewN nq = wb at *
    go_wp2_with fail
    go_ret
    exact ⟨rfl, hxb, own_erase 12 hb rfl⟩
  obtain ⟨na, hna⟩ := Int.eq_ofNat_of_zero_le (show 0 ≤ x.A by omega)
  have hn5 : na < 5 := by omega
  have hnt : x.A.toNat = na := by omega
  have d1 : decide (x.A < 0) = false := decide_eq_false hb1
  have d2 : decide (4 < x.A) = false := decide_eq_false hb2
  have i1 : (0 : Int) ≤ (na : Int) := by omega
  have i2 : (na : Int) < 5 := by omega
  cases hFa : F na with
  | none =>
    rw [if_pos (.inr (.inr (.inl (by rw [hnt]; exact hFa))))]
    obtain ⟨A1', A2'⟩ := hA
    obtain ⟨B1', B2'⟩ := hB
    have hF : ShOk F := hW.sh (by omega)
    have h0 : own (w.alloc (.cells #[.string x.kind, .int .i64 x.A, .int .i64 x.B, .int .i64 x.C, .int .i64 x.D, .string x.S, .slice ko kn kc] 43)) (shL b A F ++ (rshL b2 A2 F ++ (pts w.heap.size (.cells #[.string x.kind, .int .i64 x.A, .int .i64 x.B, .int .i64 x.C, .int .i64 x.D, .string x.S, .slice ko kn kc] 43) :: R))) := by
      have := own_box (.cells #[.string x.kind, .int .i64 x.A, .int .i64 x.B, .int .i64 x.C, .int .i64 x.D, .string x.S, .slice ko kn kc] 43) (show own w ((shL b A F ++ rshL b2 A2 F) ++ R) by rwa [List.append_assoc])
      rwa [List.append_assoc] at this
    have hxa := (Ext.refl w).alloc (.cells #[.string x.kind, .int .i64 x.A, .int .i64 x.B, .int .i64 x.C, .int .i64 x.D, .string x.S, .slice ko kn kc] 43)
    have HV := Lib.hid hv
    have g1 := sh_cell h0 hn5
    rw [slotV_none hFa] at g1
    rw [hna] at d1 d2
    rw [hna] at h0 hxa g1
    clear hl hF hW hv hb1 hb2 hnt hFa
    have HNA := Lib.hid hna
    rw [hna]
    clear hna
    go_enter Tryz.func12, Tryz.ntmps12
    go_upto_region 1 with (fail)
    generalize w.heap.size = ba at *
    generalize w.alloc (.cells #[.string x.kind, .int .i64 (na : Int), .int .i64 x.B, .int .i64 x.C, .int .i64 x.D, .string x.S, .slice ko kn kc] 43) = wa at *
    obtain ⟨cc, -⟩ := own_cells 12 h0 rfl
    have c0 := cc 0
    have c1 := cc 1
    have c2 := cc 2
    have c5 := cc 5
    clear cc
    go_upto_region 13 with (fail)
    go_quiet (fail)
    have hb := own_drewN nq h0
    have hxb := hxa.drewN nq
    clear c0 c1 c2 c5 h0 hxa
    generalize wa.drewN nq = wb at *
    go_wp2_with fail
    go_ret
    exact ⟨rfl, hxb, own_erase 12 hb rfl⟩
  | some m =>
    by_cases hz : x.S.size = 64
    · rw [if_neg (fun h => by
        rcases h with h | h | h | h
        · exact hb1 h
        · exact hb2 h
        · rw [hnt, hFa] at h; cases h
        · exact h hz), hnt]
      have hcode := moveM_code F na x.B x.S
      obtain ⟨A1', A2'⟩ := hA
      obtain ⟨B1', B2'⟩ := hB
      have hF : ShOk F := hW.sh (by omega)
      have h0 : own (w.alloc (.cells #[.string x.kind, .int .i64 x.A, .int .i64 x.B, .int .i64 x.C, .int .i64 x.D, .string x.S, .slice ko kn kc] 43)) (shL b A F ++ (rshL b2 A2 F ++ (pts w.heap.size (.cells #[.string x.kind, .int .i64 x.A, .int .i64 x.B, .int .i64 x.C, .int .i64 x.D, .string x.S, .slice ko kn kc] 43) :: R))) := by
        have := own_box (.cells #[.string x.kind, .int .i64 x.A, .int .i64 x.B, .int .i64 x.C, .int .i64 x.D, .string x.S, .slice ko kn kc] 43) (show own w ((shL b A F ++ rshL b2 A2 F) ++ R) by rwa [List.append_assoc])
        rwa [List.append_assoc] at this
      have hxa := (Ext.refl w).alloc (.cells #[.string x.kind, .int .i64 x.A, .int .i64 x.B, .int .i64 x.C, .int .i64 x.D, .string x.S, .slice ko kn kc] 43)
      have HV := Lib.hid hv
      have HP := Lib.hid (fun (R : List SL.HP) (w : World) (H : own w (shL b A F ++ R)) => smove_any b A F hF na m hn5 hFa x.B x.S hS R w H)
      have HR := Lib.hid (fun (R : List SL.HP) (w : World) (H : own w (rshL b2 A2 F ++ R)) => rmove_any b2 A2 F hF na m hn5 hFa x.B x.S hS R w H)
      have g1 := sh_cell h0 hn5
      rw [slotV_some hFa] at g1
      have t64 : ((x.S.size : Int) != 64) = false := by rw [hz]; rfl
      rw [hna] at d1 d2
      rw [hna] at h0 hxa g1
      generalize moveM F na x.B x.S = S at *
      obtain ⟨f, F2⟩ := S
      dsimp only at hcode HP HR ⊢
      have HZ := Lib.hid hz
      have HNA := Lib.hid hna
      clear hl hF hW hv hb1 hb2 hnt hFa hz
      rw [hna]
      clear hna
      go_enter Tryz.func12, Tryz.ntmps12
      go_upto_region 1 with (fail)
      generalize w.heap.size = ba at *
      generalize w.alloc (.cells #[.string x.kind, .int .i64 (na : Int), .int .i64 x.B, .int .i64 x.C, .int .i64 x.D, .string x.S, .slice ko kn kc] 43) = wa at *
      obtain ⟨cc, -⟩ := own_cells 12 h0 rfl
      have c0 := cc 0
      have c1 := cc 1
      have c2 := cc 2
      have c5 := cc 5
      clear cc
      go_upto_region 13 with (fail)
      go_quiet (fail)
      have hb := own_drewN nq h0
      have hxb := hxa.drewN nq
      clear c0 c1 c2 c5 h0 hxa
      generalize wa.drewN nq = wb at *
      go_upto_region 15 with (fail)
      have hd := own_drew hb
      go_region_held3 (fun w' => w'.cell? ⟨ba, 1, none⟩ = some (.int .i64 (na : Int)) ∧ w'.cell? ⟨ba, 2, none⟩ = some (.int .i64 x.B) ∧ w'.cell? ⟨ba, 5, none⟩ = some (.string x.S)) (first | exact ⟨(own_cells 12 hd rfl).1 1, (own_cells 12 hd rfl).1 2, (own_cells 12 hd rfl).1 5⟩ | exact ⟨(own_cells 12 h4 rfl).1 1, (own_cells 12 h4 rfl).1 2, (own_cells 12 h4 rfl).1 5⟩ | exact ⟨(own_cells 12 h5 rfl).1 1, (own_cells 12 h5 rfl).1 2, (own_cells 12 h5 rfl).1 5⟩) (first | (go_at_call 31; refine (HP.out _ _ hd).mono ?_; rintro e w4 ⟨rfl, hx4, h4⟩) | (go_at_call 32; refine (HR.out _ _ (own_swap2 (shL b A F2) (rshL b2 A2 F) h4)).mono ?_; rintro e w5 ⟨rfl, hx5, h5⟩) | (go_at_call 10; refine (same_any f f _ hcode).mono ?_; rintro e w' ⟨rfl, rfl⟩))
      go_wp2_with fail
      go_ret
      exact ⟨by simp, (hxb.drew.trans hx4).trans hx5, own_swap2 (rshL b2 A2 F2) (shL b A F2) (own_erase 12 h5 rfl)⟩
    · rw [if_pos (.inr (.inr (.inr hz)))]
      obtain ⟨A1', A2'⟩ := hA
      obtain ⟨B1', B2'⟩ := hB
      have hF : ShOk F := hW.sh (by omega)
      have h0 : own (w.alloc (.cells #[.string x.kind, .int .i64 x.A, .int .i64 x.B, .int .i64 x.C, .int .i64 x.D, .string x.S, .slice ko kn kc] 43)) (shL b A F ++ (rshL b2 A2 F ++ (pts w.heap.size (.cells #[.string x.kind, .int .i64 x.A, .int .i64 x.B, .int .i64 x.C, .int .i64 x.D, .string x.S, .slice ko kn kc] 43) :: R))) := by
        have := own_box (.cells #[.string x.kind, .int .i64 x.A, .int .i64 x.B, .int .i64 x.C, .int .i64 x.D, .string x.S, .slice ko kn kc] 43) (show own w ((shL b A F ++ rshL b2 A2 F) ++ R) by rwa [List.append_assoc])
        rwa [List.append_assoc] at this
      have hxa := (Ext.refl w).alloc (.cells #[.string x.kind, .int .i64 x.A, .int .i64 x.B, .int .i64 x.C, .int .i64 x.D, .string x.S, .slice ko kn kc] 43)
      have HV := Lib.hid hv
      have g1 := sh_cell h0 hn5
      rw [slotV_some hFa] at g1
      have t64 : ((x.S.size : Int) != 64) = true := by simpa using fun h => hz (by omega)
      rw [hna] at d1 d2
      rw [hna] at h0 hxa g1
      have HZ := Lib.hid hz
      have HNA := Lib.hid hna
      clear hl hF hW hv hb1 hb2 hnt hFa hz
      rw [hna]
      clear hna
      go_enter Tryz.func12, Tryz.ntmps12
      go_upto_region 1 with (fail)
      generalize w.heap.size = ba at *
      generalize w.alloc (.cells #[.string x.kind, .int .i64 (na : Int), .int .i64 x.B, .int .i64 x.C, .int .i64 x.D, .string x.S, .slice ko kn kc] 43) = wa at *
      obtain ⟨cc, -⟩ := own_cells 12 h0 rfl
      have c0 := cc 0
      have c1 := cc 1
      have c2 := cc 2
      have c5 := cc 5
      clear cc
      go_upto_region 13 with (fail)
      go_quiet (fail)
      have hb := own_drewN nq h0
      have hxb := hxa.drewN nq
      clear c0 c1 c2 c5 h0 hxa
      generalize wa.drewN nq = wb at *
      go_wp2_with fail
      go_ret
      exact ⟨rfl, hxb, own_erase 12 hb rfl⟩

set_option maxRecDepth 1000000 in
set_option maxHeartbeats 8000000 in
theorem chained_read (b b2 : Nat) (A : Nat → Nat × Nat × Nat) (A2 : Nat → Nat × Nat) (F : ShM) (N : Nat) (hW : ShW N F) (hN : N + 1000 < 900000) (v : Value) (l : List Int) (hl : ∀ x ∈ l, isFile F x) (hl5 : l.length ≤ 5) (x : Act) (ko : Option Addr) (kn kc : Nat) (hA : i64ok x.A) (hB : i64ok x.B) (hS : x.S.size ≤ 3200) (R : List SL.HP) (w : World) (hv : ∀ w' L, own w' (L ++ R) → IntsAt w' v l) (H : own w (shL b A F ++ (rshL b2 A2 F ++ R))) (k0 : ¬ (x.kind.toList == [112, 117, 116]) = true) (k1 : ¬ (x.kind.toList == [119, 105, 112, 101]) = true) (k2 : ¬ (x.kind.toList == [103, 101, 116]) = true) (k3 : ¬ (x.kind.toList == [109, 111, 118, 101]) = true) :
    Calls Tryz.prog 12 #[.pointer (some ⟨b, 0, none⟩), .pointer (some ⟨b2, 0, none⟩), v, .agg #[.string x.kind, .int .i64 x.A, .int .i64 x.B, .int .i64 x.C, .int .i64 x.D, .string x.S, .slice ko kn kc]] w fun e w' => e = .returned (.bool true) ∧ Ext w w' ∧ own w' (shL b A (chainA F l x) ++ (rshL b2 A2 (chainA F l x) ++ R)) := by
  unfold chainA
  rw [if_neg k0]
  rw [if_neg k1]
  rw [if_neg k2]
  rw [if_neg k3]
  have hcode := readM_code F l x.A
  obtain ⟨A1', A2'⟩ := hA
  obtain ⟨B1', B2'⟩ := hB
  have hF : ShOk F := hW.sh (by omega)
  have h0 : own (w.alloc (.cells #[.string x.kind, .int .i64 x.A, .int .i64 x.B, .int .i64 x.C, .int .i64 x.D, .string x.S, .slice ko kn kc] 43)) (shL b A F ++ (rshL b2 A2 F ++ (pts w.heap.size (.cells #[.string x.kind, .int .i64 x.A, .int .i64 x.B, .int .i64 x.C, .int .i64 x.D, .string x.S, .slice ko kn kc] 43) :: R))) := by
    have := own_box (.cells #[.string x.kind, .int .i64 x.A, .int .i64 x.B, .int .i64 x.C, .int .i64 x.D, .string x.S, .slice ko kn kc] 43) (show own w ((shL b A F ++ rshL b2 A2 F) ++ R) by rwa [List.append_assoc])
    rwa [List.append_assoc] at this
  have hxa := (Ext.refl w).alloc (.cells #[.string x.kind, .int .i64 x.A, .int .i64 x.B, .int .i64 x.C, .int .i64 x.D, .string x.S, .slice ko kn kc] 43)
  have HV := Lib.hid hv
  have HP := Lib.hid (fun (R : List SL.HP) (hv : ∀ w' L, own w' (L ++ R) → IntsAt w' v l) (w : World) (H : own w (shL b A F ++ R)) => shread_any b A F hF v l hl hl5 x.A R w hv H)
  have HR := Lib.hid (fun (R : List SL.HP) (hv : ∀ w' L, own w' (L ++ R) → IntsAt w' v l) (w : World) (H : own w (rshL b2 A2 F ++ R)) => rshread_any b2 A2 F hF v l hl hl5 x.A R w hv H)
  have HF1 := Lib.hid (fun (R : List SL.HP) (hv : ∀ w' L, own w' (L ++ R) → IntsAt w' v l) (w : World) (H : own w (shL b A F ++ R)) => found_any b A F hF v l hl hl5 x.A R w (hv w _ H) H)
  have HF2 := Lib.hid (fun (R : List SL.HP) (hv : ∀ w' L, own w' (L ++ R) → IntsAt w' v l) (w : World) (H : own w (rshL b2 A2 F ++ R)) => rfound_any b2 A2 F hF v l hl hl5 x.A R w (hv w _ H) H)
  generalize foundM F l x.A = fi at *
  generalize readM F l x.A = S at *
  obtain ⟨t, f⟩ := S
  dsimp only at hcode HP HR
  clear hl hF hW H hv
  go_enter Tryz.func12, Tryz.ntmps12
  go_upto_region 1 with (fail)
  generalize w.heap.size = ba at *
  generalize w.alloc (.cells #[.string x.kind, .int .i64 x.A, .int .i64 x.B, .int .i64 x.C, .int .i64 x.D, .string x.S, .slice ko kn kc] 43) = wa at *
  obtain ⟨cc, -⟩ := own_cells 12 h0 rfl
  have c0 := cc 0
  have c1 := cc 1
  have c2 := cc 2
  have c5 := cc 5
  clear cc
  go_wp2_with fail
  refine (HP.out _ (ints_more HV.out (rshL b2 A2 F ++ [_])) _ h0).mono ?_
  rintro e w4 ⟨rfl, hx4, h4⟩
  clear c0 c1 c2 c5
  obtain ⟨cc, -⟩ := own_cells 12 h4 rfl
  have c1 := cc 1
  clear cc
  go_wp2_with fail
  refine (HR.out _ (ints_more HV.out (shL b A F ++ [_])) _ (own_swap2 (shL b A F) (rshL b2 A2 F) h4)).mono ?_
  rintro e w5 ⟨rfl, hx5, h5⟩
  clear c1
  have c1 := (own_cells 12 h5 rfl).1 1
  have h6 := own_swap2 (rshL b2 A2 F) (shL b A F) h5
  have hsm := fun (w : World) => (same_any f f w hcode).mono fun e w' h => show e = .returned (.bool true) ∧ w = w' from ⟨by rw [h.1]; simp, h.2⟩
  have HSM := Lib.hid hsm
  clear hsm
  go_upto_region 18 with (fail)
  go_quiet ((first | (go_at_call 10; exact Calls.quiet_of_same ((HSM.out _).mono fun e w' h => ⟨h.1, h.2.symm⟩)) | (go_at_call 34; exact Calls.quiet_of_same ((HF1.out _ (ints_more HV.out (rshL b2 A2 F ++ [_])) _ (by first | exact h6 | exact own_drew h6 | exact own_drewN _ h6)).mono fun e w' h => ⟨h.1, h.2.symm⟩)) | (go_at_call 35; exact Calls.quiet_of (HF2.out _ (ints_more HV.out (shL b A F ++ [_])) _ (by first | exact h5 | exact own_drew h5 | exact own_drewN _ h5)))))
  have hb := own_drewN nq h6
  have hxb := ((hxa.trans hx4).trans hx5).drewN nq
  clear c1 h5 h6
  generalize w5.drewN nq = wb at *
  go_wp2_with fail
  go_ret
  exact ⟨by simp, hxb, own_erase 12 hb rfl⟩

theorem chained_any (b b2 : Nat) (A : Nat → Nat × Nat × Nat) (A2 : Nat → Nat × Nat) (F : ShM) (N : Nat) (hW : ShW N F) (hN : N + 1000 < 900000) (v : Value) (l : List Int) (hl : ∀ x ∈ l, isFile F x) (hl5 : l.length ≤ 5) (x : Act) (ko : Option Addr) (kn kc : Nat) (hA : i64ok x.A) (hB : i64ok x.B) (hS : x.S.size ≤ 3200) (R : List SL.HP) (w : World) (hv : ∀ w' L, own w' (L ++ R) → IntsAt w' v l) (H : own w (shL b A F ++ (rshL b2 A2 F ++ R))) :
    Calls Tryz.prog 12 #[.pointer (some ⟨b, 0, none⟩), .pointer (some ⟨b2, 0, none⟩), v, .agg #[.string x.kind, .int .i64 x.A, .int .i64 x.B, .int .i64 x.C, .int .i64 x.D, .string x.S, .slice ko kn kc]] w fun e w' => e = .returned (.bool true) ∧ Ext w w' ∧ own w' (shL b A (chainA F l x) ++ (rshL b2 A2 (chainA F l x) ++ R)) := by
  by_cases k0 : (x.kind.toList == [112, 117, 116]) = true
  · exact chained_put b b2 A A2 F N hW hN v l hl hl5 x ko kn kc hA hB hS R w hv H k0
  by_cases k1 : (x.kind.toList == [119, 105, 112, 101]) = true
  · exact chained_wipe b b2 A A2 F N hW hN v l hl hl5 x ko kn kc hA hB hS R w hv H k0 k1
  by_cases k2 : (x.kind.toList == [103, 101, 116]) = true
  · exact chained_get b b2 A A2 F N hW hN v l hl hl5 x ko kn kc hA hB hS R w hv H k0 k1 k2
  by_cases k3 : (x.kind.toList == [109, 111, 118, 101]) = true
  · exact chained_move b b2 A A2 F N hW hN v l hl hl5 x ko kn kc hA hB hS R w hv H k0 k1 k2 k3
  exact chained_read b b2 A A2 F N hW hN v l hl hl5 x ko kn kc hA hB hS R w hv H k0 k1 k2 k3
end Go.Proofs.YtbpblokfiajpjabGreat

namespace Go.Proofs.YtbpblokfiajpjabGreat
open Go.RowKit Go.SL Go.Crc
attribute [local go_sem ↓] Go.wp_at_zero Go.wp_at_succ

def stkL (g : Nat) : List FileM := [⟨true, 2, 2, 1, .slice none 0 0, []⟩, ⟨true, 2, 2, -1, .slice (some ⟨g, 0, none⟩) 1 1, [5]⟩]
set_option maxRecDepth 1000000 in
theorem stk_walk (g : Nat) : walkM (laidM (stkL g)) 0 = ([0, 1], 0) := by kernel_rfl
set_option maxRecDepth 1000000 in
theorem stk_read (g : Nat) : readM (laidM (stkL g)) [0, 1] 0 = (clusS 5, 0) := by kernel_rfl
theorem own_tail {w : World} (l : List SL.HP) {R : List SL.HP} (H : own w (l ++ R)) : own w R := by
  induction l with
  | nil => exact H
  | cons a l ih => exact ih (own_drop H)
theorem stk_at (g gf : Nat) (R : List SL.HP) : ∀ w' L, own w' (L ++ ([pts gf (.cells #[.bool true, .int .i64 2, .int .i64 2, .int .i64 1, .slice none 0 0, .bool true, .int .i64 2, .int .i64 2, .int .i64 (-1), .slice (some ⟨g, 0, none⟩) 1 1] 49 (0, 0)), pts g (.cells #[.int .i64 5] 3 (0, 0))] ++ R)) → FilesAt w' (.slice (some ⟨gf, 0, none⟩) 2 2) (stkL g) := by
  intro w' L H
  have c1 := (own_cells (L.length + 0) H (at_behind (l := L) rfl)).1
  have c2 := (own_cells (L.length + 1) H (at_behind (l := L) rfl)).1
  refine ⟨⟨some ⟨gf, 0, none⟩, gf, 0, 2, rfl, Nat.le_refl _, by decide, fun _ => rfl, fun i hi => ?_⟩, fun f hf => ?_⟩
  · match i, hi with
    | 0, _ => exact ⟨c1 0, c1 1, c1 2, c1 3, c1 4⟩
    | 1, _ => exact ⟨c1 5, c1 6, c1 7, c1 8, c1 9⟩
  · simp only [stkL, List.mem_cons, List.not_mem_nil, or_false] at hf
    rcases hf with rfl | rfl
    · exact ⟨(show i64ok 2 from ⟨by decide, by decide⟩), (show i64ok 2 from ⟨by decide, by decide⟩), (show i64ok 1 from ⟨by decide, by decide⟩), ⟨none, 0, 0, 0, rfl, Nat.le_refl _, by decide, fun h => absurd h (by simp), fun i h => absurd h (by simp)⟩, by simp⟩
    · exact ⟨(show i64ok 2 from ⟨by decide, by decide⟩), (show i64ok 2 from ⟨by decide, by decide⟩), (show i64ok (-1) from ⟨by decide, by decide⟩), ⟨some ⟨g, 0, none⟩, g, 0, 1, rfl, Nat.le_refl _, by decide, fun _ => rfl, fun i h => by
        match i, h with
        | 0, _ => exact c2 0⟩, fun x hx => by
        rw [List.mem_singleton.1 hx]
        exact (show i64ok 5 from ⟨by decide, by decide⟩)⟩

set_option maxRecDepth 100000 in
set_option maxHeartbeats 8000000 in
theorem stacks_any (R : List SL.HP) (w : World) (H : own w R) : Calls Tryz.prog 4 #[] w fun e w' => e = .returned (.bool true) ∧ Ext w w' ∧ own w' R := by
  have h1 := own_alloc H (.cells #[.int .i64 5] 3)
  have hx1 := (Ext.refl w).alloc (.cells #[.int .i64 5] 3)
  have h2 := own_alloc h1 (.cells #[.bool true, .int .i64 2, .int .i64 2, .int .i64 1, .slice none 0 0, .bool true, .int .i64 2, .int .i64 2, .int .i64 (-1), .slice (some ⟨w.heap.size, 0, none⟩) 1 1] 49)
  have hx2 := hx1.alloc (.cells #[.bool true, .int .i64 2, .int .i64 2, .int .i64 1, .slice none 0 0, .bool true, .int .i64 2, .int .i64 2, .int .i64 (-1), .slice (some ⟨w.heap.size, 0, none⟩) 1 1] 49)
  have hs : (w.alloc (.cells #[.int .i64 5] 3)).heap.size = w.heap.size + 1 := by simp
  rw [hs] at h2
  go_enter Tryz.func4, Tryz.ntmps4
  go_wp2_with fail
  generalize w.heap.size = g at *
  generalize g + 1 = gf at *
  generalize (w.alloc (.cells #[.int .i64 5] 3)).alloc (.cells #[.bool true, .int .i64 2, .int .i64 2, .int .i64 1, .slice none 0 0, .bool true, .int .i64 2, .int .i64 2, .int .i64 (-1), .slice (some ⟨g, 0, none⟩) 1 1] 49) = w2 at *
  clear hs hx1 h1 H
  have hlight : ∀ f ∈ stkL g, f.is.length ≤ 40 := fun f hf => by
    simp only [stkL, List.mem_cons, List.not_mem_nil, or_false] at hf
    rcases hf with rfl | rfl <;> simp
  have hW := laidTo_W hlight (stkL g).length
  have hF : ShOk (laidM (stkL g)) := hW.sh (by omega)
  refine (laid_any _ (stkL g) (by simp [stkL]) hlight _ w2 (stk_at g gf R) h2).mono ?_
  rintro e w3 ⟨bs, br, A, A2, rfl, hx3, h3⟩
  have hwk := walk_any bs A (laidM (stkL g)) hF 0 _ w3 h3
  have hfl := walk_files (laidM (stkL g)) 0
  unfold WalkPost at hwk
  rw [stk_walk] at hwk hfl
  rw [errV_0] at hwk
  have HRD := Lib.hid (fun (v : Value) (R : List SL.HP) (w : World) (hv : ∀ w' L, own w' (L ++ R) → IntsAt w' v [0, 1]) (H : own w (shL bs A (laidM (stkL g)) ++ R)) => shread_any bs A (laidM (stkL g)) hF v [0, 1] hfl (by simp) 0 R w hv H)
  rw [stk_read, errV_0] at HRD
  have HWK := Lib.hid hwk
  have hz := clusS_size 5
  clear hwk hfl hF hW hlight
  generalize laidM (stkL g) = F at *
  have HCL := Lib.hid (fun (R : List SL.HP) (w : World) (H : own w R) => cluster_any 5 R w H)
  generalize clusS 5 = cs at *
  go_wp2_with fail
  refine HWK.out.mono ?_
  rintro e w4 ⟨v, rfl, hx4, h4⟩
  have h5 := own_behind (shL bs A F) h4
  have hrow : ∀ w' L, own w' (L ++ ([row 3 1 v 2 (intVals [0, 1])] ++ (rshL br A2 F ++ ([pts gf (.cells #[.bool true, .int .i64 2, .int .i64 2, .int .i64 1, .slice none 0 0, .bool true, .int .i64 2, .int .i64 2, .int .i64 (-1), .slice (some ⟨g, 0, none⟩) 1 1] 49 (0, 0)), pts g (.cells #[.int .i64 5] 3 (0, 0))] ++ R)))) → IntsAt w' v [0, 1] := fun w' L h => ints_row (l := [0, 1]) (L.length + 0) h (at_behind (l := L) rfl)
  go_wp2_with fail
  refine (HRD.out v _ w4 hrow h5).mono ?_
  rintro e w5 ⟨rfl, hx5, h6⟩
  have hi := hrow w5 (shL bs A F) h6
  have HI := Lib.hid hi
  clear hi
  go_wp2_with fail
  refine (same_any 0 0 w5 (by omega)).mono ?_
  rintro e w' ⟨rfl, rfl⟩
  go_wp2_with fail
  refine (same_any 0 0 w5 (by omega)).mono ?_
  rintro e w' ⟨rfl, rfl⟩
  have h7 := own_alloc h6 (.cells #[.int .i64 0, .int .i64 1] 3)
  have i2 : IntsAt (w5.alloc (.cells #[.int .i64 0, .int .i64 1] 3)) (.slice (some ⟨w5.heap.size, 0, none⟩) 2 2) [0, 1] := ints_own 0 h7 rfl rfl (fun i hi => by
    match i, hi with
    | 0, _ => rfl
    | 1, _ => rfl) (by decide)
  have i1 := hrow _ (pts w5.heap.size (.cells #[.int .i64 0, .int .i64 1] 3 (0, 0)) :: shL bs A F) h7
  go_wp2_with fail
  refine (samenumbers_any v _ [0, 1] [0, 1] _ i1 i2).mono ?_
  rintro e w6 ⟨rfl, n6, rfl⟩
  have h8 := own_drewN n6 h7
  have hx8 := ((((hx2.trans hx3).trans hx4).trans hx5).alloc (.cells #[.int .i64 0, .int .i64 1] 3)).drewN n6
  clear i1 i2 h7 h6 h5 h4 h3 h2 hx2 hx3 hx4 hx5
  generalize (w5.alloc (.cells #[.int .i64 0, .int .i64 1] 3)).drewN n6 = w7 at *
  go_wp2_with fail
  refine (HCL.out _ w7 h8).mono ?_
  rintro e w9 ⟨rfl, hx9, h9⟩
  go_wp2_with fail
  go_ret
  refine ⟨by simp, hx8.trans hx9, ?_⟩
  exact own_tail (pts w5.heap.size (.cells #[.int .i64 0, .int .i64 1] 3 (0, 0)) :: shL bs A F ++ [row 3 1 v 2 (intVals [0, 1])] ++ rshL br A2 F ++ [pts gf (.cells #[.bool true, .int .i64 2, .int .i64 2, .int .i64 1, .slice none 0 0, .bool true, .int .i64 2, .int .i64 2, .int .i64 (-1), .slice (some ⟨g, 0, none⟩) 1 1] 49 (0, 0)), pts g (.cells #[.int .i64 5] 3 (0, 0))]) h9
end Go.Proofs.YtbpblokfiajpjabGreat

namespace Go.Proofs.YtbpblokfiajpjabGreat
open Go.RowKit Go.SL Go.Crc
attribute [local go_sem ↓] Go.wp_at_zero Go.wp_at_succ

theorem own_beh2 {w : World} {a : SL.HP} (l m : List SL.HP) {R : List SL.HP} (H : own w (a :: (l ++ (m ++ R)))) : own w (l ++ (m ++ a :: R)) := by
  have h : own w (a :: ((l ++ m) ++ R)) := by rwa [List.append_assoc]
  have := own_behind (l ++ m) h
  rwa [List.append_assoc] at this

set_option maxRecDepth 1000000 in
set_option maxHeartbeats 8000000 in
theorem chainSays_walk (vf : Value) (lf : List FileM) (root : Int) (v : Value) (l : List Act) (w : World) (hvf : FilesAt w vf lf) (hv : ActsAt w v l) :
    Calls Tryz.prog 3 #[vf, .int .i64 root, v] w fun e w' => e = .returned (.bool true) ∧ Below w.heap.size w w' := by
  obtain ⟨ao, bb, off, cap, rfl, hlen, hao, hat⟩ := hv.form
  have HAT := Lib.hid hat
  have HV := Lib.hid hv
  have HAO := Lib.hid hao
  have HVF := Lib.hid hvf
  clear hat hv hao hvf
  go_enter Tryz.func3, Tryz.ntmps3
  go_wp2_with fail
  refine (stacks_any _ w (own_exactly w)).mono ?_
  rintro e w1 ⟨rfl, hx1, h1⟩
  go_wp2_with fail
  refine (lightfiles_any vf lf w1 (HVF.out.later 0 h1 rfl)).mono ?_
  rintro e w' ⟨rfl, rfl⟩
  by_cases hLF : lightF lf = true
  · rw [hLF]
    have hlf2 : lf.length ≤ 5 ∧ ∀ f ∈ lf, f.is.length ≤ 40 := by
      simp only [lightF, Bool.and_eq_true, decide_eq_true_eq, List.all_eq_true] at hLF
      exact hLF
    obtain ⟨hl5, hI⟩ := hlf2
    clear hLF
    go_wp2_with fail
    refine (light_any _ l 40 w1 (HV.out.later 0 h1 rfl)).mono ?_
    rintro e w' ⟨rfl, rfl⟩
    by_cases hL : light l 40 = true
    · have hl2 : l.length ≤ 40 ∧ ∀ a ∈ l, a.S.size ≤ 700 := by
        simp only [light, Bool.and_eq_true, decide_eq_true_eq, List.all_eq_true, lightOne] at hL
        exact ⟨by omega, fun a h => (hL.2 a h).1⟩
      obtain ⟨hL40, hk⟩ := hl2
      have HL := Lib.hid hk
      clear hk
      rw [hL]
      clear hL
      have hW := laidTo_W hI lf.length
      have hld := laid_any vf lf hl5 hI [exactly w] w1 (fun w' L h => HVF.out.later (L.length + 0) h (at_behind (l := L) rfl)) h1
      unfold LaidPost at hld
      have HLD := Lib.hid hld
      have HW := Lib.hid hW
      clear hld hI hW
      change Hid (ShW 300 (laidM lf)) at HW
      generalize laidM lf = F at *
      have hF : ShOk F := HW.out.sh (by omega)
      have HFL := Lib.hid (walk_files F root)
      have hn5 : (walkM F root).1.length ≤ 5 := walkGo_len (by simp)
      have hwc : 0 ≤ (walkM F root).2 := walkGo_code
      have HWK := Lib.hid (fun (bs : Nat) (A : Nat → Nat × Nat × Nat) (R : List SL.HP) (w : World) (H : own w (shL bs A F ++ R)) => walk_any bs A F hF root R w H)
      have HRW := Lib.hid (fun (br : Nat) (A2 : Nat → Nat × Nat) (R : List SL.HP) (w : World) (H : own w (rshL br A2 F ++ R)) => rwalk_any br A2 F hF root R w H)
      unfold WalkPost at HWK HRW
      clear hF
      generalize walkM F root = S at *
      obtain ⟨li, wc⟩ := S
      dsimp only at hn5 hwc HWK HRW HFL
      go_wp2_with fail
      refine HLD.out.mono ?_
      rintro e w2 ⟨bs, br, A, A2, rfl, hx2, h2⟩
      go_wp2_with fail
      refine (HWK.out bs A _ w2 h2).mono ?_
      rintro e w3 ⟨v1, rfl, hx3, h3⟩
      have h4 := own_swap2 (shL bs A F) (rshL br A2 F) (own_beh2 (shL bs A F) (rshL br A2 F) h3)
      go_wp2_with fail
      refine (HRW.out br A2 _ w3 h4).mono ?_
      rintro e w4 ⟨v2, rfl, hx4, h5⟩
      have h6 := own_swap2 (rshL br A2 F) (shL bs A F) (own_beh2 (rshL br A2 F) (shL bs A F) h5)
      have hx6 := ((hx1.trans hx2).trans hx3).trans hx4
      have i1 : IntsAt w4 v1 li := ints_row 13 h6 rfl
      have i2 : IntsAt w4 v2 li := ints_row 12 h6 rfl
      have hrow : ∀ w' L, own w' (L ++ [row 3 1 v2 li.length (intVals li), row 3 1 v1 li.length (intVals li), exactly w]) → IntsAt w' v1 li := fun w' L h => ints_row (L.length + 1) h (at_behind (l := L) rfl)
      have HROW := Lib.hid hrow
      clear hrow HLD HWK HRW h1 h2 h3 h4 h5 hx1 hx2 hx3 hx4
      go_wp2_with fail
      refine (same_any wc wc w4 hwc).mono ?_
      rintro e w' ⟨rfl, rfl⟩
      go_wp2_with fail
      refine (samenumbers_any v1 v2 li li w4 i1 i2).mono ?_
      rintro e w5 ⟨rfl, n5, rfl⟩
      have h7 := own_drewN n5 h6
      have hx7 := hx6.drewN n5
      clear i1 i2 h6 hx6
      generalize w4.drewN n5 = w6 at *
      by_cases hz : 0 < wc
      · go_wp2_with fail
        go_ret
        exact ⟨rfl, below_of 14 h7 rfl hx7⟩
      · have hw0 : wc = 0 := by omega
        subst hw0
        have HWF := Lib.hid (fun (F' : ShM) (n : Nat) (hn : n ≤ 40) (hs : ShStep (1000 * n) F F') => show ShW (300 + 1000 * n) F' ∧ (∀ x ∈ li, isFile F' x) from ⟨HW.out.step hs, fun x hx => hs.file (HFL.out x hx)⟩)
        have hrf : ShStep (1000 * 0) F F := ShStep.refl (HW.out.sh (by omega)) _
        have HRF := Lib.hid hrf
        clear hrf hz hwc HW HFL
        go_wp2_with fail
        go_loopw [14] (fun kv wr => ∃ (q : Nat) (F' : ShM), q ≤ l.length ∧ kv = .int .i64 q ∧ ShStep (1000 * q) F F' ∧ Ext w wr ∧ own wr (shL bs A F' ++ (rshL br A2 F' ++ [row 3 1 v2 li.length (intVals li), row 3 1 v1 li.length (intVals li), exactly w]))) (fun kv _ => l.length - (intOf kv).toNat)
        case atStart => exact ⟨0, F, by omega, rfl, HRF.out, hx7, h7⟩
        case round =>
          clear h7 hx7
          obtain ⟨q, F', hq, rfl, hst, hxr, hown⟩ := hrel
          by_cases hlt : q < l.length
          · obtain rfl := HAO.out (by omega)
            obtain ⟨c0, c1, c2, c3, c4, c5, c6⟩ := (HAT.out q hlt).later 14 hown rfl
            have ok := HV.out.2 _ (all_getD hlt)
            obtain ⟨ko, kc, hkv, hkl⟩ := keep_len ok.keep
            rw [hkv] at c6
            have hS := HL.out _ (all_getD hlt)
            obtain ⟨hW', hl'⟩ := HWF.out F' q (by omega) hst
            have HST := Lib.hid (hst.trans (chainA_step hW' (by omega) hl' (l.getD q actNone) (by omega)))
            have HCH := Lib.hid (chained_any bs br A A2 F' (300 + 1000 * q) hW' (by omega) v1 li hl' hn5 (l.getD q actNone) ko (l.getD q actNone).keep.length kc ok.A ok.B (by omega) _ wr HROW.out hown)
            clear ok hkv hst hW' hl' hown
            generalize chainA F' li (l.getD q actNone) = F2 at *
            generalize l.getD q actNone = x at *
            go_wp2_with fail
            refine HCH.out.mono ?_
            rintro e w7 ⟨rfl, hx7, h7⟩
            go_wp2_with fail
            go_roundw
            case rel => exact ⟨q + 1, F2, by omega, by go_num, HST.out.mono (by omega), hxr.trans hx7, h7⟩
            case measure => simp [intOf]; omega
          · obtain rfl : q = l.length := by omega
            obtain ⟨hW', -⟩ := HWF.out F' l.length (by omega) hst
            have HAS := Lib.hid (asshelf_any bs br A A2 F' (hW'.sh (by omega)) _ wr hown)
            clear hW' hst hown
            go_wp2_with fail
            refine HAS.out.mono ?_
            rintro e w7 ⟨rfl, hx7, h7⟩
            go_wp2_with fail
            go_ret
            exact ⟨rfl, below_of 14 h7 rfl (hxr.trans hx7)⟩
    · rw [Bool.not_eq_true] at hL
      rw [hL]
      clear hL
      go_wp2_with fail
      go_ret
      exact ⟨rfl, below_of 0 h1 rfl hx1⟩
  · rw [Bool.not_eq_true] at hLF
    rw [hLF]
    clear hLF
    go_wp2_with fail
    go_ret
    exact ⟨rfl, below_of 0 h1 rfl hx1⟩
end Go.Proofs.YtbpblokfiajpjabGreat

namespace Go.Proofs.YtbpblokfiajpjabGreat.chainSaysDone
open Go.ChangeShapes Go.WideShapes Go.ChangeAt Go.RowKit
open Go.ChangeMaps (open_string shut_string)
set_option linter.unusedVariables false

theorem own : ownKnob Tryz.prog.godebug = none := by kernel_rfl
theorem laidOut : laidOutB Tryz.prog = true := by kernel_rfl

set_option maxRecDepth 100000 in
theorem lifted (os : Os) (started : os.Started) (H : Type) (enc : TypeId × Value → H) :
    ReturnsInHanded {} Tryz.checked os 3 .any (Rows.chainSaysSpec.pre6 enc Tryz.prog Tryz.f3 Rows.chainSaysRow.domain false) (Rows.chainSaysSpec.post enc Tryz.prog Tryz.f3 false true false false) := by
  refine returnsInHanded_of_change (C := Tryz.checked) own started (by kernel_rfl) Tryz.func3
    (ChangeSpec.witness6 (enc := enc) (C := Tryz.checked) false ⟨#[], #[.slice none 0 0, .int .i64 0, .slice none 0 0], []⟩ 8 (by kernel_rfl) (by kernel_rfl) (by kernel_rfl) (by kernel_rfl)) ?_
  intro W base args ds gs before hval0 hW hcnd _
  have hval : ∀ (j : Nat) t v, Tryz.f3.params[j]? = some t → args[j]? = some v → Value.okWide Tryz.prog W .any base t v := hval0
  have hW' := hW
  obtain ⟨p, q, hA0, hV, rfl, hfz, hnd⟩ := hW
  have hA : DataW.TrodAll enc Tryz.prog W 0 (fun _ => true) true Tryz.f3.params.toList args.toList ds p := hA0
  rw [Tryz.params3] at hA hval
  obtain ⟨v0, vs0, d0, ds0, p0, q0, hargs, rfl, rfl, h0, r0⟩ := trodAll_cons hA
  obtain ⟨v1, vs1, d1, ds1, p1, q1, rfl, rfl, rfl, h1, r1⟩ := trodAll_cons r0
  obtain ⟨v2, vs2, d2, ds2, p2, q2, rfl, rfl, rfl, h2, r2⟩ := trodAll_cons r1
  obtain ⟨rfl, rfl, rfl⟩ := trodAll_nil r2
  obtain rfl : args = #[v0, v1, v2] := by cases args; simp_all
  obtain ⟨rfl, rfl⟩ := trodVars_none hV
  obtain ⟨ao0, len0, cap0, rfl⟩ := okWide_slice Tryz.underlying22 (hval 0 22 v0 rfl rfl)
  have t0 := h0
  have lt0 : ∀ x ∈ p0, x.block < W.heap.size := by obtain ⟨m, hm⟩ := t0; exact DataW.trod_lt m _ _ _ hm
  obtain ⟨a0, k0⟩ : ∃ l, FilesAt W (.slice ao0 len0 cap0) l := by
    obtain ⟨fuel, hf⟩ := h0
    exact files_open hf
  obtain ⟨a1, rfl, rfl, rfl, k1⟩ := open_int Tryz.underlying3 (hval 1 3 v1 rfl rfl) h1
  obtain ⟨ao2, len2, cap2, rfl⟩ := okWide_slice Tryz.underlying23 (hval 2 23 v2 rfl rfl)
  have t2 := h2
  have lt2 : ∀ x ∈ p2, x.block < W.heap.size := by obtain ⟨m, hm⟩ := t2; exact DataW.trod_lt m _ _ _ hm
  obtain ⟨a2, k2⟩ : ∃ l, ActsAt W (.slice ao2 len2 cap2) l := by
    obtain ⟨fuel, hf⟩ := h2
    exact acts_open hf
  clear hA0 hval0
  refine (chainSays_walk _ a0 a1 _ a2 W k0 k2).mono fun e W' ⟨he, bel⟩ => ?_
  subst he
  exact ⟨_, rfl, _, _, _, [], _, [], hW', trodAll_mk1 (shut_bool Tryz.underlying4 _), (trodAll_cons_mk (Below.trod laidOut (by kernel_rfl) (of_decide_eq_true (by kernel_rfl)) t0 bel lt0) (trodAll_cons_mk (shut_int Tryz.underlying3 k1) (trodAll_cons_mk (Below.trod laidOut (by kernel_rfl) (of_decide_eq_true (by kernel_rfl)) t2 bel lt2) trodAll_mk0))), rfl, bel.frame _, fun h => by cases h⟩

theorem over : Rows.chainSaysRow.holds Tryz.pinned (OpenSpec.ofChange Rows.chainSaysSpec) :=
  OpenClaim.holds_of_wide 3 Tryz.f3 rfl rfl rfl rfl rfl rfl rfl ⟨rfl, rfl, rfl, rfl, rfl⟩ rfl rfl rfl rfl rfl (by kernel_rfl) Tryz.func3 (by kernel_rfl)
    (of_decide_eq_true (by kernel_rfl)) (by unfold Func.isWrapper; first | (rw [if_pos (by decide +kernel)]; kernel_rfl) | (rw [if_neg (by decide +kernel)]; exact ⟨rfl, rfl⟩))
    (fun os started H enc _ => lifted os started H enc)

theorem proved : Rows.ChainSaysSaid := over
#print axioms proved
end Go.Proofs.YtbpblokfiajpjabGreat.chainSaysDone
