/- An image opened: Open (the program's). An image's model: each act keeps it in form, and keeps it such that it is opened behind any crash. An image's model: every act is a step. An image's model made. An image's head; an image held against its model. An image's model: a cluster is filled where the device does not fail, and is read. No conditions. -/
import Derived.Test.YtbpblokfiajpjaaPkfde98b4690
import Derived.Test.YtbpblokfiajpjaaProg
namespace Go.Proofs.Ytbpblokfiajpjaa
open Go.RowKit Go.SL Go.Crc
attribute [local go_sem ↓] Go.wp_at_zero Go.wp_at_succ

set_option maxRecDepth 100000 in
set_option maxHeartbeats 8000000 in
theorem open_img (bd : Nat) (d : DevM) (hd : d.Ok) (hn1 : 0 < d.fl.length) (R : List SL.HP) (w : World) (H : own w (devAt bd d :: R)) :
    Calls Try.prog 71 #[.pointer (some ⟨bd, 0, none⟩)] w (MadePost bd (openR d) R w) := by
  have hE : openR d = openH d (headOf (d.seen 0)) := rfl
  generalize openR d = S at *
  have hs0 := seen_size hd (a := 0) (by omega) (by omega)
  have hsn := dev_read bd d hd 0 R w H
  rw [if_neg (by omega)] at hsn
  have hgd := fun h => headOf_good (s := d.seen 0) h
  have hnn := headOf_nonneg (d.seen 0)
  have HHD := Lib.hid (fun (R : List SL.HP) (w : World) (H : own w R) => readhead_any (d.seen 0) (by omega) R w H)
  have HSN := Lib.hid hsn
  have HGD := Lib.hid hgd
  clear hsn hgd hs0
  generalize d.seen 0 = s0 at *
  generalize headOf s0 = hh at *
  obtain ⟨⟨c, p, b⟩, f⟩ := hh
  have HE := Lib.hid hE
  clear hE
  dsimp only at hnn HGD HHD
  unfold headV at HHD
  have hn := hd.n
  go_enter Try.func71, Try.ntmps71
  go_wp2_with fail
  refine HSN.out.mono ?_
  rintro e w1 ⟨rfl, rfl⟩
  go_wp2_with fail
  refine (HHD.out _ w H).mono ?_
  rintro e w2 ⟨rfl, hx2, h2⟩
  go_upto_region 5 with (fail)
  have h3 := own_alloc h2 (.cells #[.int .i64 c, .int .i64 p, .int .i64 b] 52)
  have hx3 := hx2.alloc (.cells #[.int .i64 c, .int .i64 p, .int .i64 b] 52)
  generalize w2.heap.size = gh at *
  generalize w2.alloc (.cells #[.int .i64 c, .int .i64 p, .int .i64 b] 52) = w3 at *
  clear h2 hx2 HHD HSN
  by_cases hf : f = 0
  · subst hf
    have hgood := HGD.out rfl
    have hE2 := HE.out
    unfold openH at hE2
    rw [if_neg (by simp)] at hE2
    dsimp only at hE2
    have hbb := hgood
    unfold headBad at hbb
    obtain ⟨C, rfl⟩ := Int.eq_ofNat_of_zero_le (show 0 ≤ c by omega)
    have c1 : 1 ≤ C := by omega
    have c2 : C ≤ 32 := by omega
    rw [Int.toNat_natCast] at hE2
    have hND : needN (C : Int) p = 1 + (rowsN C : Int) + 4 * p := by unfold needN; rw [Int.toNat_natCast]
    have hp0 : 0 ≤ p := by omega
    have hr1 : 1 ≤ rowsN C := by unfold rowsN; omega
    have hr4 : rowsN C ≤ 4 := by unfold rowsN; omega
    have HFT := Lib.hid (fun (R : List SL.HP) (w : World) (H : own w (devAt bd d :: R)) => fits_any bd d hd (C : Int) p b R w H)
    unfold headV at HFT
    have HE2 := Lib.hid hE2
    have HGG := Lib.hid hgood
    clear hE2 hgood HGD hbb HE
    obtain ⟨c0, f0⟩ := own_cells 0 h3 rfl
    rw [errV_0]
    by_cases hl : (d.fl.length : Int) < needN (C : Int) p
    · have hS : S = (1, noImg d) := by rw [HE2.out, if_pos hl]
      have HS := Lib.hid hS
      have hq : fitF d (C : Int) p b = 1 := if_pos (.inr hl)
      rw [hq, show errV 1 = .iface 121 (.int .i64 1) from rfl] at HFT
      clear hl hS hq hND
      go_wp2_with fail
      refine (HFT.out _ w3 (own_pick 1 h3 rfl)).mono ?_
      rintro e w4 ⟨rfl, hx4, h4⟩
      go_wp2_with fail
      go_ret2
      rw [HS.out]
      exact .inl ⟨by simp, rfl, hx3.trans hx4, own_erase 1 h4 rfl⟩
    · have hS : S = openT d (C : Int) p b (tableOf (C : Int) p b (rowsSeen d C)) := by rw [HE2.out, if_neg hl]
      have hge : 1 + (rowsN C : Int) + 4 * p ≤ d.fl.length := by omega
      have hq : fitF d (C : Int) p b = 0 := if_neg (fun h => h.elim HGG.out hl)
      rw [hq, errV_0] at HFT
      have HS := Lib.hid hS
      have hrl : (rowsN C : Int) < d.fl.length := by omega
      have HSZ := Lib.hid (rowsSeen_size hd hrl)
      have hTN := tableOf_nonneg (C : Int) p b (rowsSeen d C)
      have HTK := Lib.hid (fun (q : Nat) (h : q < rowsN C) => rowsSeen_take d (C := C) h)
      have HRL := Lib.hid (rowsSeen_len d C)
      have HRW := Lib.hid (rows_any C (by omega))
      have HSN := Lib.hid (fun (q : Nat) (hq : q < rowsN C) (R : List SL.HP) (w : World) (H : own w (devAt bd d :: R)) => (by
        have h := dev_read bd d hd (1 + (q : Int)) R w H
        rw [if_neg (by omega)] at h
        exact h : Calls Try.prog 53 #[.pointer (some ⟨bd, 0, none⟩), .int .i64 (1 + (q : Int))] w fun e w' => e = .returned (.tuple #[.string (d.seen (1 + (q : Int))), .nilIface]) ∧ w = w'))
      clear hl hS hrl hq hND
      go_wp2_with fail
      refine (HFT.out _ w3 (own_pick 1 h3 rfl)).mono ?_
      rintro e w4 ⟨rfl, hx4, h4⟩
      have hx6 := hx3.trans hx4
      clear c0 f0
      obtain ⟨c0, f0⟩ := own_cells 1 h4 rfl
      have h7 := own_row_nil 9 1 h4
      go_wp2_with fail
      refine (HRW.out w4).mono ?_
      rintro e w' ⟨rfl, rfl⟩
      go_wp2_with fail
      clear c0 f0 HFT
      go_loopw [7, 37] (rowsInv (devAt bd d :: pts gh (.cells #[.int .i64 (C : Int), .int .i64 p, .int .i64 b] 52 (0, 0)) :: R) d C w) (fun _ i _ => rowsN C - (intOf i).toNat)
      case atStart => exact ⟨0, by omega, rfl, hx6, h7⟩
      case round =>
        obtain ⟨q, hq, rfl, hxr, hown⟩ := hrel
        clear h7 h4 h3 hx3 hx4 hx6
        obtain ⟨cg, fg⟩ := own_cells 2 hown rfl
        by_cases hlt : q < rowsN C
        · have hE := HTK.out q hlt
          have HT2 := Lib.hid hE
          have e1 : IntKind.i64.wrap (1 + (q : Int)) = 1 + (q : Int) := IntWalk.i64_in _ (by omega)
          have hqN : (q : Int) < (rowsN C : Int) := by omega
          have HQ := Lib.hid (HSN.out q hlt)
          clear hE
          generalize d.seen (1 + (q : Int)) = sq at *
          have hml : q + 1 ≤ maxLen := by simp only [maxLen]; omega
          go_wp2_with fail
          refine (HQ.out _ wr (own_pick 1 hown rfl)).mono ?_
          rintro e w' ⟨rfl, rfl⟩
          have ha2 := own_alloc hown (.cells #[.string sq] 9)
          go_wp2_with (first | (at_builtin; refine wpList_append_row rfl _ _ 42 rfl 1 9 Try.underlying42 elem_string rfl (by decide) rfl ha2 rfl (some ⟨wr.heap.size, 0, none⟩) 1 1 [.string sq] rfl rfl (alloc_news wr [.string sq] _) (fun h => by cases h) (one_strv sq) hml (by omega) ?_))
          intro v' w6 h6' hx6
          have hx7 := (hxr.alloc (.cells #[.string sq] 9)).trans hx6
          have h7 := own_drop h6'
          clear ha2 hown hxr hx6 h6'
          go_wp2_with fail
          go_roundw
          case rel => exact ⟨q + 1, by omega, by go_num, hx7, by rw [HT2.out, strCells_append]; exact h7⟩
          case measure => simp [intOf]; omega
        · have hqe : q = rowsN C := by omega
          subst hqe
          have htk : (rowsSeen d C).take (rowsN C) = rowsSeen d C := List.take_of_length_le (by rw [HRL.out]; exact Nat.le_refl _)
          rw [htk] at hown
          obtain ⟨ao, g, cap, rfl, r1, r2, r3, -, -, -, -⟩ := own_row_form 0 hown rfl
          obtain rfl := r3 (by omega)
          have hr : (rowsSeen d C).length ≤ 1000 := by rw [HRL.out]; omega
          have HSR := Lib.hid (fun w' (L : List SL.HP) (H : own w' (L ++ (row 9 1 (.slice (some ⟨g, 0, none⟩) (rowsN C) cap) (rowsN C) (strCells (rowsSeen d C)) :: devAt bd d :: pts gh (.cells #[.int .i64 (C : Int), .int .i64 p, .int .i64 b] 52 (0, 0)) :: R))) => (by
            have h := strs_row (L.length + 0) (l := rowsSeen d C) (rest := []) H (at_behind (l := L) rfl) (by simp [strCells]) (fun s hs => by have := HSZ.out s hs; omega)
            rw [HRL.out] at h
            exact h : StrsAt w' (.slice (some ⟨g, 0, none⟩) (rowsN C) cap) (rowsSeen d C)))
          have HS2 := HS.out
          generalize hT : tableOf (C : Int) p b (rowsSeen d C) = TF at *
          obtain ⟨T, F⟩ := TF
          have HTB := Lib.hid (fun w' (H : own w' (row 9 1 (.slice (some ⟨g, 0, none⟩) (rowsN C) cap) (rowsN C) (strCells (rowsSeen d C)) :: devAt bd d :: pts gh (.cells #[.int .i64 (C : Int), .int .i64 p, .int .i64 b] 52 (0, 0)) :: R)) => readtable_any (C : Int) p b (.slice (some ⟨g, 0, none⟩) (rowsN C) cap) (rowsSeen d C) T F hT hr _ w' HSR.out H)
          have HS3 := Lib.hid HS2
          unfold headV at HTB
          dsimp only at hTN
          clear hT HS2 HS HTK HSN htk r3 hr HSR hq hlt
          by_cases hF : F = 0
          · subst hF
            rw [errV_0] at HTB
            have hmm := run_makeMap (P := Try.prog) 140
            go_wp2_with fail
            refine (HTB.out wr hown).mono ?_
            rintro e w6 ⟨vt, rfl, hx6', h6⟩
            obtain ⟨at_, gt, capt, rfl, -, -, -, -, -, -, -⟩ := own_row_form 0 h6 rfl
            have hx7 := hxr.trans hx6'
            clear cg fg hown hxr hx6'
            obtain ⟨cg, fg⟩ := own_cells 3 h6 rfl
            have h7 := held_made h6
            have h8 := own_alloc h7 (.cells #[.pointer (some ⟨bd, 0, none⟩), .int .i64 (C : Int), .int .i64 p, .int .i64 b, .slice at_ T.length capt, .map (some w6.heap.size)] 142)
            rw [show (w6.alloc (.map #[] 0)).heap.size = w6.heap.size + 1 by simp] at h8
            go_wp2_with fail
            go_ret2
            rw [HS3.out]
            have h9 := img_close (m := ⟨d, (C : Int), p, b, T, []⟩) (own_behind [_, _] (own_pick 1 h8 rfl |> fun h => own_pick 1 h rfl |> fun h => own_behind [_] (own_pick 0 h rfl)))
            exact .inr ⟨rfl, _, _, rfl, (hx7.alloc _).alloc _, own_erase 2 (own_erase 1 h9 rfl) rfl⟩
          · have hpF : 0 < F := by omega
            have HPE := Lib.hid (errV_pos hpF)
            rw [errV_pos hpF] at HTB
            have HF := Lib.hid hF
            clear hF
            go_wp2_with fail
            refine (HTB.out wr hown).mono ?_
            rintro e w6 ⟨vt, rfl, hx6', h6⟩
            go_wp2_with fail
            go_ret2
            rw [HS3.out]
            exact .inl ⟨HF.out, by dsimp only [openT]; rw [HPE.out]; rfl, hxr.trans hx6', own_erase 1 (own_erase 1 (own_erase 1 (own_pick 2 h6 rfl) rfl) rfl) rfl⟩
  · have hpos : 0 < f := by omega
    have hE2 := HE.out
    unfold openH at hE2
    rw [if_pos (by simpa using hf)] at hE2
    have HS := Lib.hid hE2
    have HPE := Lib.hid (errV_pos hpos)
    rw [errV_pos hpos]
    have HF := Lib.hid hf
    clear hE2 HE hf HGD
    go_wp2_with fail
    go_ret2
    rw [HS.out]
    exact .inl ⟨HF.out, by dsimp only; rw [HPE.out]; rfl, hx3, own_erase 1 (own_pick 1 h3 rfl) rfl⟩
end Go.Proofs.Ytbpblokfiajpjaa

namespace Go.Proofs.Ytbpblokfiajpjaa
open Go.RowKit Go.SL Go.Crc

/-! ### devices -/
theorem DevM.write_cases (d : DevM) (a : Int) (s : ByteArray) :
    ((d.write a s).1 = 0 ∧ (d.write a s).2.pend = d.pend ++ [(a, s)] ∧ (d.write a s).2.fl = d.fl) ∨ ((d.write a s).1 ≠ 0 ∧ (d.write a s).2.pend = d.pend ∧ (d.write a s).2.fl = d.fl) := by
  unfold DevM.write
  split
  · exact .inr ⟨by simp, rfl, rfl⟩
  · split
    · exact .inr ⟨by simp, rfl, rfl⟩
    · exact .inl ⟨rfl, rfl, rfl⟩
theorem DevM.puts_cases : ∀ (l : List ByteArray) (d : DevM) (a : Int), (d.puts a l).2.fl = d.fl ∧ ∃ q, (d.puts a l).2.pend = d.pend ++ q ∧ (∀ x ∈ q, a ≤ x.1 ∧ x.1 < a + l.length) ∧
    (∃ j, j ≤ l.length ∧ q = (List.range j).map (fun (i : Nat) => (a + (i : Int), l.getD i ByteArray.empty)) ∧ ((d.puts a l).1 = 0 → j = l.length)) := by
  intro l
  induction l with
  | nil => intro d a; exact ⟨rfl, [], by simp [DevM.puts], by simp, 0, by simp, rfl, fun _ => rfl⟩
  | cons s l ih =>
    intro d a
    rw [DevM.puts]
    rcases DevM.write_cases d a s with ⟨h1, h2, h3⟩ | ⟨h1, h2, h3⟩
    · rw [if_neg (by simpa using h1)]
      obtain ⟨i1, q, i2, i3, j, j1, j2, j3⟩ := ih (d.write a s).2 (a + 1)
      refine ⟨i1.trans h3, (a, s) :: q, by rw [i2, h2]; simp, fun x hx => ?_, j + 1, by simpa using j1, ?_, fun h => by simpa using j3 h⟩
      · simp only [List.length_cons]
        rcases List.mem_cons.1 hx with rfl | hx
        · dsimp only; omega
        · have := i3 x hx; omega
      · rw [List.range_succ_eq_map, List.map_cons, List.map_map, j2]
        simp only [List.getD_cons_zero, Function.comp_def, List.getD_cons_succ]
        congr 1
        · simp
        · exact List.map_congr_left fun i _ => by simp; omega
    · rw [if_pos h1]
      exact ⟨h3, [], by rw [h2]; simp, by simp, 0, by simp, rfl, fun h => absurd h h1⟩
theorem foldl_pick {p : List (Int × ByteArray)} {a : Int} : ∀ {s : ByteArray}, p.foldl (fun s x => if x.1 = a then x.2 else s) s = s ∨ (a, p.foldl (fun s x => if x.1 = a then x.2 else s) s) ∈ p := by
  induction p with
  | nil => intro s; exact .inl rfl
  | cons x p ih =>
    intro s
    rw [List.foldl_cons]
    rcases ih (s := if x.1 = a then x.2 else s) with h | h
    · rw [h]
      by_cases hx : x.1 = a
      · rw [if_pos hx]; exact .inr (by rw [← hx]; simp)
      · rw [if_neg hx]; exact .inl rfl
    · exact .inr (List.mem_cons_of_mem _ h)
theorem foldl_setAt_getD {p : List (Int × ByteArray)} : ∀ {f : List ByteArray} {i : Nat}, (∀ x ∈ p, 0 ≤ x.1) → i < f.length →
    (p.foldl setAt f).getD i ByteArray.empty = p.foldl (fun s x => if x.1 = (i : Int) then x.2 else s) (f.getD i ByteArray.empty) := by
  induction p with
  | nil => intro f i _ _; rfl
  | cons x p ih =>
    intro f i hx hi
    rw [List.foldl_cons, List.foldl_cons, ih (fun y hy => hx y (by simp [hy])) (by simpa [setAt] using hi)]
    congr 1
    have h0 := hx x (by simp)
    unfold setAt
    by_cases h : x.1 = (i : Int)
    · rw [if_pos h, show x.1.toNat = i by omega, List.getD_eq_getElem?_getD, List.getElem?_set_self hi]
      rfl
    · rw [if_neg h, List.getD_eq_getElem?_getD, List.getElem?_set_ne (by omega), List.getD_eq_getElem?_getD]
theorem seen_none {d : DevM} {a : Int} (h : ∀ x ∈ d.pend, x.1 ≠ a) : d.seen a = d.fl.getD a.toNat ByteArray.empty := by
  unfold DevM.seen
  generalize d.fl.getD a.toNat ByteArray.empty = s
  generalize d.pend = p at h
  induction p with
  | nil => rfl
  | cons x p ih => rw [List.foldl_cons, if_neg (h x (by simp))]; exact ih fun y hy => h y (by simp [hy])
theorem seen_add {d d' : DevM} {q : List (Int × ByteArray)} (hf : d'.fl = d.fl) (hp : d'.pend = d.pend ++ q) (a : Int) : d'.seen a = q.foldl (fun s x => if x.1 = a then x.2 else s) (d.seen a) := by
  unfold DevM.seen
  rw [hf, hp, List.foldl_append]
theorem seen_same {d d' : DevM} {q : List (Int × ByteArray)} (hf : d'.fl = d.fl) (hp : d'.pend = d.pend ++ q) {a : Int} (h : ∀ x ∈ q, x.1 ≠ a) : d'.seen a = d.seen a := by
  rw [seen_add hf hp]
  generalize d.seen a = s
  clear hp
  induction q with
  | nil => rfl
  | cons x q ih => rw [List.foldl_cons, if_neg (h x (by simp))]; exact ih fun y hy => h y (by simp [hy])
theorem flush_fl {d : DevM} (hd : d.Ok) {i : Nat} (hi : i < d.fl.length) : d.flush.fl.getD i ByteArray.empty = d.seen (i : Int) := by
  unfold DevM.flush
  dsimp only
  rw [foldl_setAt_getD (fun x hx => (hd.pend x hx).1) hi]
  rfl
theorem flush_seen {d : DevM} (hd : d.Ok) {i : Nat} (hi : i < d.fl.length) : d.flush.seen (i : Int) = d.seen (i : Int) := by
  rw [seen_none (d := d.flush) (fun x hx => by cases hx), Int.toNat_natCast, flush_fl hd hi]

/-! ### safe: opened behind any crash -/
def Sub (P : Int) (u t : List Ent) : Prop := t.length = u.length ∧ ∀ k, k < u.length → entOk (ent t k) P = true ∧ ((ent t k).1 = 2 → ent t k = ent u k)
theorem Sub.ents {P : Int} {u t : List Ent} (h : Sub P u t) : ∀ e ∈ t, entOk e P = true := fun e he => by
  obtain ⟨k, hk, rfl⟩ := List.getElem_of_mem he
  rw [← ent_get hk]
  exact (h.2 k (by rw [← h.1]; exact hk)).1
theorem Sub.uniq {P : Int} {u t : List Ent} (h : Sub P u t) (hu : Uniq u) : Uniq t := fun i j hi hj h2 hij => by
  have hi' : i < u.length := by rw [← h.1]; exact hi
  have hj' : j < u.length := by rw [← h.1]; exact hj
  have e1 := (h.2 i hi').2 h2
  have e2 := (h.2 j hj').2 (hij ▸ h2)
  exact hu i j hi' hj' (e1 ▸ h2) (by rw [← e1, ← e2, hij])
theorem Sub.self {P : Int} {t : List Ent} (h : ∀ e ∈ t, entOk e P = true) : Sub P t t := ⟨rfl, fun k hk => ⟨h _ (ent_mem hk), fun _ => rfl⟩⟩
theorem Sub.mono {P : Int} {u u' t : List Ent} (h : Sub P u t) (hl : u'.length = u.length) (hu : ∀ k, k < u.length → (ent t k).1 = 2 → ent u' k = ent u k) : Sub P u' t :=
  ⟨h.1.trans hl.symm, fun k hk => ⟨(h.2 k (by omega)).1, fun h2 => ((h.2 k (by omega)).2 h2).trans (hu k (by omega) h2).symm⟩⟩

structure Safe (m : ImgM) (u : List Ent) : Prop where
  ulen : u.length = m.t.length
  uok : ∀ e ∈ u, entOk e m.p = true
  uuniq : Uniq u
  hd : m.d.fl.getD 0 ByteArray.empty = headS m.c m.p m.b
  nohd : ∀ x ∈ m.d.pend, x.1 ≠ 0
  rows : ∀ r : Nat, r < rowsN m.t.length → ∀ s, (s = m.d.fl.getD (1 + r) ByteArray.empty ∨ (1 + (r : Int), s) ∈ m.d.pend) → ∃ t', Sub m.p u t' ∧ s = rowBytes t' r
  cur : Sub m.p u m.t
  see : ∀ r : Nat, r < rowsN m.t.length → m.d.seen (1 + (r : Int)) = rowBytes m.t r

theorem Safe.open {m : ImgM} {u : List Ent} (hm : m.Ok) (h : Safe m u) : openR m.d = (0, { m with held := [] }) := by
  have h0 := seen_none h.nohd
  exact openR_rows hm.head hm.t hm.ents hm.one (h0.trans h.hd) h.see (by have := hm.need; unfold needN; omega)
theorem ImgM.Ok.unheld {m : ImgM} (hm : m.Ok) : ({ m with held := [] } : ImgM).Ok := ⟨hm.d, hm.head, hm.t, hm.ents, hm.one, List.nodup_nil, (fun x hx => by cases hx), (fun x hx => by cases hx), hm.need⟩
theorem Safe.unheld {m : ImgM} {u : List Ent} (h : Safe m u) : Safe { m with held := [] } u := ⟨h.ulen, h.uok, h.uuniq, h.hd, h.nohd, h.rows, h.cur, h.see⟩

theorem rowEnts_of {C : Nat} {t : List Ent} {f : Nat → List Ent} (ht : t = (List.range C).map fun (k : Nat) => ent (f (k / 8)) k) {r : Nat} (hf : (f r).length = C) : rowEnts t r = rowEnts (f r) r := by
  subst ht
  unfold rowEnts
  refine List.map_congr_left fun k hk => ?_
  have hk8 := List.mem_range.1 hk
  by_cases h : 8 * r + k < C
  · have e : (8 * r + k) / 8 = r := by omega
    simp [h, e, ent]
  · simp [show C ≤ 8 * r + k by omega, hf]
theorem rows_of_nat {C k : Nat} (h : k < C) : k / 8 < rowsN C := by unfold rowsN; omega

theorem Safe.crash {m : ImgM} {u : List Ent} (hm : m.Ok) (h : Safe m u) (keep : List Bool) : ∃ T, openR (m.d.crash keep) = (0, ⟨m.d.crash keep, m.c, m.p, m.b, T, []⟩) ∧ Sub m.p u T ∧
    (⟨m.d.crash keep, m.c, m.p, m.b, T, []⟩ : ImgM).Ok ∧ Safe ⟨m.d.crash keep, m.c, m.p, m.b, T, []⟩ T := by
  have hneed := hm.need
  have hlen : (m.d.crash keep).fl.length = m.d.fl.length := by simp only [DevM.crash, foldl_setAt_length]
  have hseen : ∀ a : Nat, a < m.d.fl.length → (m.d.crash keep).seen (a : Int) = (m.d.crash keep).fl.getD a ByteArray.empty := fun a ha => by
    rw [seen_none (d := m.d.crash keep) (fun x hx => by cases hx), Int.toNat_natCast]
  have hfl : ∀ a : Nat, a < m.d.fl.length → (m.d.crash keep).fl.getD a ByteArray.empty = m.d.fl.getD a ByteArray.empty ∨ ((a : Int), (m.d.crash keep).fl.getD a ByteArray.empty) ∈ m.d.pend := fun a ha => by
    have e : (m.d.crash keep).fl.getD a ByteArray.empty = (keptOnes m.d.pend keep).foldl (fun s x => if x.1 = (a : Int) then x.2 else s) (m.d.fl.getD a ByteArray.empty) :=
      foldl_setAt_getD (fun x hx => (hm.d.pend x (keptOnes_mem hx)).1) ha
    rw [e]
    rcases foldl_pick (p := keptOnes m.d.pend keep) (a := (a : Int)) (s := m.d.fl.getD a ByteArray.empty) with h | h
    · exact .inl h
    · exact .inr (keptOnes_mem h)
  have ht := hm.t
  obtain ⟨C, hC, q1, q2, q3, q4, q5, q6, -⟩ := hm.nat
  have hcn : m.c.toNat = m.t.length := by omega
  have h0 : (m.d.crash keep).fl.getD 0 ByteArray.empty = headS m.c m.p m.b := by
    rcases hfl 0 (by omega) with h' | h'
    · rw [h']; exact h.hd
    · exact absurd rfl (h.nohd _ h')
  have hrow : ∀ r, r < rowsN m.t.length → ∃ t', Sub m.p u t' ∧ (m.d.crash keep).fl.getD (1 + r) ByteArray.empty = rowBytes t' r := fun r hr => by
    refine h.rows r hr _ ?_
    rcases hfl (1 + r) (by rw [hcn] at hneed; omega) with h' | h'
    · exact .inl h'
    · exact .inr (by simpa using h')
  obtain ⟨f, hf⟩ := Deep.choose_lt hrow
  obtain ⟨T, hT⟩ : ∃ T, T = (List.range m.t.length).map fun (k : Nat) => ent (f (k / 8)) k := ⟨_, rfl⟩
  have hTl : T.length = m.t.length := by rw [hT]; simp
  have hTe : ∀ k, k < m.t.length → ent T k = ent (f (k / 8)) k := fun k hk => by rw [hT]; simp [ent, hk]
  have hsub : Sub m.p u T := ⟨hTl.trans h.ulen.symm, fun k hk => by
    have hk' : k < m.t.length := by rw [← h.ulen]; exact hk
    rw [hTe k hk']
    exact (hf (k / 8) (rows_of_nat hk')).1.2 k hk⟩
  have hrb : ∀ r, r < rowsN m.t.length → (m.d.crash keep).fl.getD (1 + r) ByteArray.empty = rowBytes T r := fun r hr => by
    rw [(hf r hr).2]
    unfold rowBytes
    rw [rowEnts_of hT ((hf r hr).1.1.trans h.ulen)]
  have hsr : ∀ r : Nat, r < rowsN T.length → (m.d.crash keep).seen (1 + (r : Int)) = rowBytes T r := fun r hr => by
    rw [hTl] at hr
    have := hseen (1 + r) (by rw [hcn] at hneed; omega)
    rw [show (1 + (r : Int)) = ((1 + r : Nat) : Int) by omega, this, hrb r hr]
  refine ⟨T, openR_rows hm.head (by omega) hsub.ents (hsub.uniq h.uuniq) ((hseen 0 (by omega)).trans h0) hsr (by unfold needN; omega), hsub,
    ⟨DevM.crash_ok hm.d keep, hm.head, by dsimp only; omega, hsub.ents, hsub.uniq h.uuniq, List.nodup_nil, (fun x hx => by cases hx), (fun x hx => by cases hx), by dsimp only; omega⟩,
    ⟨rfl, hsub.ents, hsub.uniq h.uuniq, h0, (fun x hx => by cases hx), fun r hr s hs => ?_, Sub.self hsub.ents, hsr⟩⟩
  rcases hs with hs | hs
  · refine ⟨T, Sub.self hsub.ents, hs.trans (hrb r ?_)⟩
    dsimp only at hr
    rw [hTl] at hr
    exact hr
  · cases hs

/-! ### steps -/
/-- the device is written where neither head nor table lies -/
theorem Safe.data {m : ImgM} {u : List Ent} (h : Safe m u) {d' : DevM} {q : List (Int × ByteArray)} (hf : d'.fl = m.d.fl) (hp : d'.pend = m.d.pend ++ q) (hq : ∀ x ∈ q, 1 + (rowsN m.t.length : Int) ≤ x.1) : Safe { m with d := d' } u :=
  ⟨h.ulen, h.uok, h.uuniq, by dsimp only; rw [hf]; exact h.hd, fun x hx => by
      dsimp only at hx
      rw [hp] at hx
      rcases List.mem_append.1 hx with h' | h'
      · exact h.nohd x h'
      · have := hq x h'; omega,
    fun r hr s hs => by
      dsimp only at hs hr
      rw [hf, hp] at hs
      refine h.rows r hr s (hs.imp id fun h' => ?_)
      rcases List.mem_append.1 h' with h'' | h''
      · exact h''
      · have := hq _ h''; dsimp only at this; omega,
    h.cur, fun r hr => by
      dsimp only at hr ⊢
      rw [seen_same hf hp fun x hx => by have := hq x hx; omega]
      exact h.see r hr⟩
theorem Safe.uni {m : ImgM} {u u' : List Ent} (h : Safe m u) (hl : u'.length = u.length) (ho : ∀ e ∈ u', entOk e m.p = true) (hu' : Uniq u') (hu : ∀ k, k < u.length → (ent u k).1 = 2 → ent u' k = ent u k) : Safe m u' :=
  have key : ∀ t, Sub m.p u t → Sub m.p u' t := fun t ht => ht.mono hl fun k hk h2 => hu k hk ((ht.2 k hk).2 h2 ▸ h2)
  ⟨hl.trans h.ulen, ho, hu', h.hd, h.nohd, fun r hr s hs => let ⟨t', a, b⟩ := h.rows r hr s hs; ⟨t', key _ a, b⟩, key _ h.cur, h.see⟩
theorem Safe.flush {m : ImgM} {u : List Ent} (hm : m.Ok) (h : Safe m u) : Safe m.flush m.t := by
  have hneed := hm.need
  have ht := hm.t
  obtain ⟨C, hC, q1, q2, q3, q4, q5, q6, -⟩ := hm.nat
  have hcn : m.c.toNat = m.t.length := by omega
  rw [hcn] at hneed
  refine ⟨rfl, hm.ents, hm.one, ?_, (fun x hx => by cases hx), fun r hr s hs => ?_, Sub.self hm.ents, fun r hr => ?_⟩
  · have := flush_fl hm.d (i := 0) (by omega)
    show m.d.flush.fl.getD 0 ByteArray.empty = headS m.c m.p m.b
    rw [this]
    exact (seen_none h.nohd).trans h.hd
  · have hr' : r < rowsN m.t.length := hr
    refine ⟨m.t, Sub.self hm.ents, ?_⟩
    rcases hs with hs | hs
    · rw [hs]
      show m.d.flush.fl.getD (1 + r) ByteArray.empty = _
      rw [flush_fl hm.d (i := 1 + r) (by omega), show ((1 + r : Nat) : Int) = 1 + (r : Int) by omega]
      exact h.see r hr'
    · cases hs
  · have hr' : r < rowsN m.t.length := hr
    show m.d.flush.seen (1 + (r : Int)) = _
    have := flush_seen hm.d (i := 1 + r) (by omega)
    rw [show ((1 + r : Nat) : Int) = 1 + (r : Int) by omega] at this
    rw [this]
    exact h.see r hr'

theorem ent_set {t : List Ent} {k j : Nat} {e : Ent} (hk : k < t.length) : ent (t.set k e) j = if j = k then e else ent t j := by
  unfold ent
  by_cases h : j = k
  · subst h; rw [if_pos rfl, List.getD_eq_getElem?_getD, List.getElem?_set_self hk]; rfl
  · rw [if_neg h, List.getD_eq_getElem?_getD, List.getElem?_set_ne (by omega), List.getD_eq_getElem?_getD]
theorem rowEnts_set {t : List Ent} {k : Nat} {e : Ent} (hk : k < t.length) {r : Nat} (hr : r ≠ k / 8) : rowEnts (t.set k e) r = rowEnts t r := by
  unfold rowEnts
  refine List.map_congr_left fun j hj => ?_
  have := List.mem_range.1 hj
  have h := ent_set (t := t) (e := e) (j := 8 * r + j) hk
  rw [if_neg (by omega)] at h
  exact h
theorem setE_eq {m : ImgM} (hm : m.Ok) {k : Nat} (hk : k < m.t.length) {e : Ent} (he : entOk e m.p = true) :
    m.setE k e = if (m.d.write (1 + ((k / 8 : Nat) : Int)) (rowBytes (m.t.set k e) (k / 8))).1 ≠ 0 then ((m.d.write (1 + ((k / 8 : Nat) : Int)) (rowBytes (m.t.set k e) (k / 8))).1, { m with d := (m.d.write (1 + ((k / 8 : Nat) : Int)) (rowBytes (m.t.set k e) (k / 8))).2 })
    else (0, { m with d := (m.d.write (1 + ((k / 8 : Nat) : Int)) (rowBytes (m.t.set k e) (k / 8))).2, t := m.t.set k e, held := if (ent m.t k).1 = 2 then m.held ++ [(ent m.t k).2] else m.held }) := by
  obtain ⟨C, hC, q1, q2, q3, q4, q5, q6, -⟩ := hm.nat
  have hr : rowOf (m.t.set k e) ((k / 8 : Nat) : Int) = (rowBytes (m.t.set k e) (k / 8), 0) := rowOf_is q6 (by simp; omega) (fun x hx => by
    rcases List.mem_or_eq_of_mem_set hx with h | h
    · exact hm.ents x h
    · rw [h]; exact he) (by rw [List.length_set]; exact rows_of_nat hk)
  unfold ImgM.setE
  rw [hr]
theorem Safe.setE {m : ImgM} {u : List Ent} (hm : m.Ok) (h : Safe m u) {k : Nat} (hk : k < m.t.length) {e : Ent} (he : entOk e m.p = true) (hu : e.1 = 2 → e = ent u k) : Safe (m.setE k e).2 u := by
  rw [setE_eq hm hk he]
  have hr8 := rows_of_nat hk
  have hset : Sub m.p u (m.t.set k e) := ⟨by rw [List.length_set]; exact h.ulen.symm, fun j hj => by
    rw [ent_set hk]
    by_cases hjk : j = k
    · subst hjk; rw [if_pos rfl]; exact ⟨he, hu⟩
    · rw [if_neg hjk]; exact h.cur.2 j hj⟩
  rcases DevM.write_cases m.d (1 + ((k / 8 : Nat) : Int)) (rowBytes (m.t.set k e) (k / 8)) with ⟨h1, h2, h3⟩ | ⟨h1, h2, h3⟩
  · rw [if_neg (by simpa using h1)]
    generalize (m.d.write (1 + ((k / 8 : Nat) : Int)) (rowBytes (m.t.set k e) (k / 8))).2 = d' at *
    have hl : (m.t.set k e).length = m.t.length := List.length_set
    refine ⟨by rw [hl]; exact h.ulen, h.uok, h.uuniq, by dsimp only; rw [h3]; exact h.hd, fun x hx => ?_, fun r hr s hs => ?_, hset, fun r hr => ?_⟩
    · dsimp only at hx
      rw [h2] at hx
      rcases List.mem_append.1 hx with h' | h'
      · exact h.nohd x h'
      · rw [List.mem_singleton.1 h']; dsimp only; omega
    · dsimp only at hr hs ⊢
      rw [hl] at hr
      rw [h2, h3] at hs
      rcases hs with hs | hs
      · exact h.rows r hr s (.inl hs)
      · rcases List.mem_append.1 hs with h' | h'
        · exact h.rows r hr s (.inr h')
        · have e2 := List.mem_singleton.1 h'
          simp only [Prod.mk.injEq] at e2
          obtain rfl : r = k / 8 := by omega
          exact ⟨_, hset, e2.2⟩
    · dsimp only at hr ⊢
      rw [hl] at hr
      rw [seen_add h3 h2]
      simp only [List.foldl_cons, List.foldl_nil]
      by_cases hrk : r = k / 8
      · subst hrk; rw [if_pos rfl]
      · rw [if_neg (by omega), h.see r hr]
        unfold rowBytes
        rw [rowEnts_set hk hrk]
  · rw [if_pos h1]
    exact h.data (q := []) h3 (by rw [h2]; simp) (fun x hx => by cases hx)

theorem Uniq_set {t : List Ent} (h : Uniq t) {k : Nat} (hk : k < t.length) {e : Ent} (he : e.1 = 2 → e ∉ t) : Uniq (t.set k e) := by
  intro i j hi hj h2 hij
  rw [List.length_set] at hi hj
  rw [ent_set hk] at h2 hij
  rw [ent_set hk] at hij
  by_cases hi' : i = k
  · by_cases hj' : j = k
    · rw [hi', hj']
    · rw [if_pos hi'] at h2 hij
      rw [if_neg hj'] at hij
      exact absurd (hij ▸ ent_mem hj) (he h2)
  · rw [if_neg hi'] at h2 hij
    by_cases hj' : j = k
    · rw [if_pos hj'] at hij
      exact absurd (hij ▸ ent_mem hi) (he (hij ▸ h2))
    · rw [if_neg hj'] at hij
      exact h i j hi hj h2 hij
theorem ok_dev {m : ImgM} (hm : m.Ok) {d : DevM} (hd : d.Ok) (hl : d.fl.length = m.d.fl.length) : ({ m with d := d } : ImgM).Ok :=
  ⟨hd, hm.head, hm.t, hm.ents, hm.one, hm.nodup, hm.range, hm.apart, by have := hm.need; dsimp only; omega⟩
theorem ImgM.Ok.setE {m : ImgM} (hm : m.Ok) (hw : m.d.writes < 1000000) (hp : m.d.pend.length < 1000000) {k : Nat} (hk : k < m.t.length) {e : Ent} (he : entOk e m.p = true) (h2 : e.1 = 2 → e ∉ m.t ∧ e.2 ∉ m.held) : (m.setE k e).2.Ok := by
  rw [setE_eq hm hk he]
  have hok := DevM.write_ok hm.d (1 + ((k / 8 : Nat) : Int)) (rowBytes (m.t.set k e) (k / 8)) hp hw
  obtain ⟨l1, -, -⟩ := write_lens m.d (1 + ((k / 8 : Nat) : Int)) (rowBytes (m.t.set k e) (k / 8))
  split
  · exact ok_dev hm hok l1
  · generalize (m.d.write (1 + ((k / 8 : Nat) : Int)) (rowBytes (m.t.set k e) (k / 8))).2 = d' at *
    have hmem : ∀ x, ((2, x) : Ent) ∈ m.t.set k e → ((2, x) : Ent) = e ∨ ∃ j, j < m.t.length ∧ j ≠ k ∧ ent m.t j = (2, x) := fun x hx => by
      obtain ⟨j, hj, hje⟩ := List.getElem_of_mem hx
      have hj' := hj
      rw [List.length_set] at hj'
      rw [← ent_get hj, ent_set hk] at hje
      by_cases hjk : j = k
      · rw [if_pos hjk] at hje; exact .inl hje.symm
      · rw [if_neg hjk] at hje; exact .inr ⟨j, hj', hjk, hje⟩
    have hap : ∀ x ∈ m.held, ((2, x) : Ent) ∉ m.t.set k e := fun x hx hc => by
      rcases hmem x hc with h | ⟨j, hj, _, hje⟩
      · exact (h2 (by rw [← h])).2 (by rw [← h]; exact hx)
      · exact hm.apart x hx (hje ▸ ent_mem hj)
    refine ⟨hok, hm.head, by dsimp only; rw [List.length_set]; exact hm.t, fun x hx => ?_, Uniq_set hm.one hk fun h => (h2 h).1, ?_, ?_, ?_, by have := hm.need; dsimp only; omega⟩
    · rcases List.mem_or_eq_of_mem_set hx with h | h
      · exact hm.ents x h
      · rw [h]; exact he
    · dsimp only
      split
      · rename_i hk2
        refine List.nodup_append.2 ⟨hm.nodup, by simp, fun a ha b hb => ?_⟩
        rw [List.mem_singleton.1 hb]
        intro hab
        refine hm.apart a ha ?_
        rw [hab]
        have := ent_mem hk
        rwa [show ent m.t k = (2, (ent m.t k).2) from Prod.ext hk2 rfl] at this
      · exact hm.nodup
    · dsimp only
      split
      · rename_i hk2
        intro x hx
        rcases List.mem_append.1 hx with h | h
        · exact hm.range x h
        · rw [List.mem_singleton.1 h]; exact data_range hm hk hk2
      · exact hm.range
    · dsimp only
      split
      · rename_i hk2
        intro x hx
        rcases List.mem_append.1 hx with h | h
        · exact hap x h
        · rw [List.mem_singleton.1 h]
          intro hc
          rcases hmem _ hc with h' | ⟨j, hj, hjk, hje⟩
          · exact (h2 (by rw [← h'])).1 (by rw [← h']; have := ent_mem hk; rwa [show ent m.t k = (2, (ent m.t k).2) from Prod.ext hk2 rfl] at this)
          · refine hjk (hm.one j k hj hk (by rw [hje]) ?_)
            rw [hje]
            exact (Prod.ext hk2 rfl : ent m.t k = (2, (ent m.t k).2)).symm
      · exact hap
end Go.Proofs.Ytbpblokfiajpjaa

namespace Go.Proofs.Ytbpblokfiajpjaa
open Go.RowKit Go.SL Go.Crc

structure Step (n : Nat) (m m' : ImgM) : Prop where
  ok : m'.Ok
  safe : ∀ u, Safe m u → ∃ u', Safe m' u'
  c : m'.c = m.c
  p : m'.p = m.p
  len : m'.d.fl.length = m.d.fl.length
  pend : m'.d.pend.length ≤ m.d.pend.length + n
  wr : m'.d.writes ≤ m.d.writes + n
theorem Step.refl {m : ImgM} (hm : m.Ok) (n : Nat) : Step n m m := ⟨hm, fun u h => ⟨u, h⟩, rfl, rfl, rfl, by omega, by omega⟩
theorem Step.trans {a b : Nat} {m m' m'' : ImgM} (h : Step a m m') (k : Step b m' m'') : Step (a + b) m m'' :=
  ⟨k.ok, fun u hu => let ⟨u', hu'⟩ := h.safe u hu; k.safe u' hu', k.c.trans h.c, k.p.trans h.p, k.len.trans h.len, by have := h.pend; have := k.pend; omega, by have := h.wr; have := k.wr; omega⟩
theorem Step.mono {a b : Nat} {m m' : ImgM} (h : Step a m m') (hab : a ≤ b) : Step b m m' :=
  ⟨h.ok, h.safe, h.c, h.p, h.len, by have := h.pend; omega, by have := h.wr; omega⟩
theorem held_le40 {m : ImgM} (hm : m.Ok) : m.held.length ≤ 40 := by
  have h := free_count hm
  obtain ⟨C, hC, q1, q2, q3, q4, q5, q6, -⟩ := hm.nat
  omega
theorem rows_eq {m : ImgM} (hm : m.Ok) : m.c.toNat = m.t.length := by
  have := hm.t
  omega

theorem step_setE {m : ImgM} (hm : m.Ok) (hw : m.d.writes < 1000000) (hp : m.d.pend.length < 1000000) {k : Nat} (hk : k < m.t.length) {e : Ent} (he : entOk e m.p = true) (h2 : e.1 = 2 → e ∉ m.t ∧ e.2 ∉ m.held)
    (hu : ∀ u, Safe m u → ∃ u', Safe m u' ∧ (e.1 = 2 → e = ent u' k)) : Step 1 m (m.setE k e).2 := by
  refine ⟨hm.setE hw hp hk he h2, fun u h => ?_, ?_, ?_, ?_, ?_, ?_⟩
  · obtain ⟨u', h', hu'⟩ := hu u h
    exact ⟨u', h'.setE hm hk he hu'⟩
  all_goals
    rw [setE_eq hm hk he]
    obtain ⟨l1, l2, l3⟩ := write_lens m.d (1 + ((k / 8 : Nat) : Int)) (rowBytes (m.t.set k e) (k / 8))
    split
    · first | rfl | exact l1 | exact l2 | exact l3
    · first | rfl | exact l1 | exact l2 | exact l3
theorem step_clear {m : ImgM} (hm : m.Ok) (hw : m.d.writes < 1000000) (hp : m.d.pend.length < 1000000) (k : Int) : Step 1 m (m.clear k).2 := by
  unfold ImgM.clear
  split
  · rename_i ht
    obtain ⟨k0, -, hkl⟩ := there_range hm ht
    split
    · exact Step.refl hm 1
    · exact step_setE hm hw hp hkl rfl (fun h => by cases h) fun u h => ⟨u, h, fun h => by cases h⟩
  · exact Step.refl hm 1
theorem step_data {m : ImgM} (hm : m.Ok) {d' : DevM} {q : List (Int × ByteArray)} {n : Nat} (hd : d'.Ok) (hf : d'.fl = m.d.fl) (hp : d'.pend = m.d.pend ++ q) (hq : ∀ x ∈ q, 1 + (rowsN m.t.length : Int) ≤ x.1) (hn : q.length ≤ n) (hw : d'.writes ≤ m.d.writes + n) :
    Step n m { m with d := d' } :=
  ⟨ok_dev hm hd (by rw [hf]), fun u h => ⟨u, h.data hf hp hq⟩, rfl, rfl, by dsimp only; rw [hf], by dsimp only; rw [hp, List.length_append]; omega, hw⟩
theorem step_puts {m : ImgM} (hm : m.Ok) (hw : m.d.writes < 999000) (hp : m.d.pend.length < 999000) {a : Int} (ha : 1 + (rowsN m.t.length : Int) ≤ a) {l : List ByteArray} {n : Nat} (hl : l.length ≤ n) (hn : n ≤ 900) : Step n m { m with d := (m.d.puts a l).2 } := by
  obtain ⟨o1, o2, o3, o4⟩ := puts_ok (l := l) (a := a) hm.d (by omega) (by omega)
  obtain ⟨h1, q, h2, h3, j, j1, j2, -⟩ := DevM.puts_cases l m.d a
  exact step_data hm o1 h1 h2 (fun x hx => by have := (h3 x hx).1; omega) (by rw [j2, List.length_map, List.length_range]; omega) (by omega)
theorem first_ge {m : ImgM} (hm : m.Ok) {y : Int} (h0 : 0 ≤ y) : 1 + (rowsN m.t.length : Int) ≤ m.first y := by
  unfold ImgM.first
  rw [rows_eq hm]
  omega
theorem step_wr {m : ImgM} (hm : m.Ok) (hw : m.d.writes < 999000) (hp : m.d.pend.length < 999000) (k fr : Int) (s : ByteArray) : Step 4 m (m.wr k fr s).2 := by
  unfold ImgM.wr
  split
  · exact Step.refl hm 4
  · rename_i hb
    split
    · exact Step.refl hm 4
    · rename_i hk
      unfold ImgM.wrBad at hb
      have ht : m.there k = true := by
        cases h : m.there k
        · exact absurd (.inl h) hb
        · rfl
      have hb' : 0 ≤ fr ∧ (s.size : Int) ≤ 16 * (4 - fr) := by
        refine ⟨?_, ?_⟩
        · exact Int.not_lt.1 fun h => hb (.inr (.inl h))
        · exact Int.not_lt.1 fun h => hb (.inr (.inr (.inr (.inr h))))
      obtain ⟨k0, -, hkl⟩ := there_range hm ht
      have hk2 : (ent m.t k.toNat).1 = 2 := Decidable.byContradiction hk
      obtain ⟨r0, r1⟩ := data_range hm hkl hk2
      have := first_ge hm r0
      refine step_puts hm hw hp (by omega) ?_ (by omega)
      unfold chunksN
      rw [List.length_map, List.length_range]
      omega
theorem step_flush {m : ImgM} (hm : m.Ok) : Step 0 m m.flush :=
  ⟨flushed_ok (d := m.d) hm hm.d rfl, fun u h => ⟨_, h.flush hm⟩, rfl, rfl, by simp only [ImgM.flush, DevM.flush, foldl_setAt_length], by simp [ImgM.flush, DevM.flush], by simp [ImgM.flush, DevM.flush]⟩
theorem openB_is {m : ImgM} {p : Int} (h : m.openB p = true) : ((2, p) : Ent) ∉ m.t ∧ p ∉ m.held := by
  unfold ImgM.openB at h
  simpa using h
theorem step_fill {m : ImgM} (hm : m.Ok) (hw : m.d.writes < 999000) (hp : m.d.pend.length < 999000) (k : Int) (s : ByteArray) : Step 5 m (m.fill k s).2 := by
  unfold ImgM.fill
  split
  · exact Step.refl hm 5
  · rename_i h1
    split
    · exact Step.refl hm 5
    · rename_i h2
      split
      · exact Step.refl hm 5
      · rename_i h3
        have ht : m.there k = true := by
          cases h : m.there k
          · exact absurd (.inl h) h1
          · rfl
        obtain ⟨k0, -, hkl⟩ := there_range hm ht
        obtain ⟨C, hC, q1, q2, q3, q4, q5, q6, -⟩ := hm.nat
        obtain ⟨P, hP⟩ := Int.eq_ofNat_of_zero_le q5
        rcases freeP_cases m hP with h | ⟨q, hq, hqP, ho, -⟩
        · exact absurd (by rw [h]; decide) h3
        · rw [hq]
          obtain ⟨n1, n2⟩ := openB_is ho
          unfold ImgM.fillAt
          have hf := first_ge hm (y := (q : Int)) (by omega)
          have s1 := step_puts (n := 4) hm hw hp hf (l := chunksN s 4) (by simp [chunksN]) (by omega)
          split
          · exact s1.mono (by omega)
          · have s2 := step_flush s1.ok
            have h12 := s1.trans s2
            have w12 := h12.wr
            have p12 := h12.pend
            have he : entOk (2, (q : Int)) m.p = true := by unfold entOk; rw [if_pos rfl]; simp; omega
            refine h12.trans (b := 1) (step_setE (k := k.toNat) (e := (2, (q : Int))) h12.ok (by omega) (by omega) hkl he (fun _ => ⟨n1, fun h => by cases h⟩) fun u h => ?_)
            refine ⟨m.t.set k.toNat (2, (q : Int)), ?_, fun _ => by rw [ent_set hkl, if_pos rfl]⟩
            have hsf : Safe ({ m with d := (m.d.puts (m.first (q : Int)) (chunksN s 4)).2 } : ImgM).flush m.t := by
              refine ⟨rfl, hm.ents, hm.one, h.hd, h.nohd, fun r hr s hs => ?_, Sub.self hm.ents, h.see⟩
              rcases hs with hs | hs
              · refine ⟨m.t, Sub.self hm.ents, hs.trans ?_⟩
                have e := h.see r hr
                rw [seen_none (fun x hx => by cases hx), show (1 + (r : Int)).toNat = 1 + r by omega] at e
                exact e
              · cases hs
            refine hsf.uni (by rw [List.length_set]) (fun x hx => ?_) (Uniq_set hm.one hkl fun _ => n1) fun j hj hj2 => ?_
            · rcases List.mem_or_eq_of_mem_set hx with h | h
              · exact hm.ents x h
              · rw [h]; exact he
            · rw [ent_set hkl]
              split
              · rename_i hjk
                subst hjk
                exact absurd hj2 h2
              · rfl
theorem step_fail {m : ImgM} (hm : m.Ok) {n : Int} (h0 : 0 ≤ n) (h1 : n ≤ 9223372036854775807) : Step 0 m { m with d := { m.d with fail := n } } :=
  step_data (q := []) hm ⟨hm.d.n, hm.d.fl, hm.d.p, hm.d.pend, ⟨by dsimp only; omega, h1⟩, hm.d.writes⟩ rfl (by simp) (fun x hx => by cases hx) (by simp) (by simp)

/-- the head is written anew, all that is pending being flushed -/
theorem head_flush {d : DevM} (hd : d.Ok) (hp : d.pend = []) (hl : 0 < d.fl.length) {s : ByteArray} (hw : d.writes < 1000000) (h : (d.write 0 s).1 = 0) :
    (d.write 0 s).2.flush.Ok ∧ (d.write 0 s).2.flush.pend = [] ∧ (d.write 0 s).2.flush.fl.length = d.fl.length ∧ (d.write 0 s).2.flush.fl.getD 0 ByteArray.empty = s ∧
    (∀ i : Nat, 0 < i → i < d.fl.length → (d.write 0 s).2.flush.fl.getD i ByteArray.empty = d.fl.getD i ByteArray.empty) ∧ (d.write 0 s).2.flush.writes ≤ d.writes + 1 := by
  have ok := DevM.write_ok hd 0 s (by rw [hp]; decide) hw
  obtain ⟨-, -, l3⟩ := write_lens d 0 s
  rcases DevM.write_cases d 0 s with ⟨h1, h2, h3⟩ | ⟨h1, h2, h3⟩
  · generalize (d.write 0 s).2 = d' at *
    rw [hp] at h2
    refine ⟨DevM.flush_ok ok, rfl, by simp only [DevM.flush, foldl_setAt_length, h3], ?_, fun i h0 hi => ?_, l3⟩
    · rw [flush_fl ok (by rw [h3]; exact hl)]
      unfold DevM.seen
      rw [h2]
      simp
    · rw [flush_fl ok (by rw [h3]; exact hi)]
      unfold DevM.seen
      rw [h2, h3]
      simp only [List.nil_append, List.foldl_cons, List.foldl_nil]
      rw [if_neg (by omega)]
      simp
  · exact absurd h h1
theorem step_link {m : ImgM} (hm : m.Ok) (hw : m.d.writes < 999000) (k : Int) : Step 1 m (m.link k).2 := by
  unfold ImgM.link
  split
  · exact Step.refl hm 1
  · rename_i hb
    have s0 := step_flush hm
    have hw0 : m.d.flush.writes = m.d.writes := rfl
    have hneed := s0.ok.need
    obtain ⟨l1, l2, l3⟩ := write_lens m.d.flush 0 (headS m.c m.p k)
    have okw := DevM.write_ok (DevM.flush_ok hm.d) 0 (headS m.c m.p k) (by simp [DevM.flush]) (by omega)
    have q5 : 0 ≤ m.p := by
      obtain ⟨C, hC, q1, q2, q3, q4, q5, q6, -⟩ := hm.nat
      exact q5
    split
    · rename_i h1
      rcases DevM.write_cases m.d.flush 0 (headS m.c m.p k) with ⟨e1, -, -⟩ | ⟨-, e2, e3⟩
      · exact absurd e1 h1
      · exact (s0.trans (b := 1) (step_data (m := m.flush) (q := []) s0.ok okw e3 (by rw [List.append_nil]; exact e2) (fun x hx => by cases hx) (by simp) (by dsimp only [ImgM.flush]; omega))).mono (by omega)
    · rename_i h1
      have hl0 : 0 < m.d.flush.fl.length := by
        have : 1 + (rowsN m.c.toNat : Int) + 4 * m.p ≤ m.d.flush.fl.length := hneed
        omega
      obtain ⟨f1, f2, f3, f4, f5, f6⟩ := head_flush (s := headS m.c m.p k) (DevM.flush_ok hm.d) rfl hl0 (by omega) (Decidable.byContradiction h1)
      generalize (m.d.flush.write 0 (headS m.c m.p k)).2.flush = d' at *
      have hsl : ∀ u, Safe m u → Safe ({ m.flush with d := d', b := k } : ImgM) m.t := fun u h => by
        have hf := h.flush hm
        have hrow : ∀ r : Nat, r < rowsN m.t.length → d'.fl.getD (1 + r) ByteArray.empty = rowBytes m.t r := fun r hr => by
          have hr' : 1 + r < m.d.flush.fl.length := by
            have h' : 1 + (rowsN m.c.toNat : Int) + 4 * m.p ≤ m.d.flush.fl.length := hneed
            rw [rows_eq hm] at h'
            omega
          rw [f5 (1 + r) (by omega) hr']
          have e : m.d.flush.seen (1 + (r : Int)) = rowBytes m.t r := hf.see r hr
          rw [seen_none (d := m.d.flush) (fun x hx => by cases hx), show (1 + (r : Int)).toNat = 1 + r by omega] at e
          exact e
        refine ⟨rfl, hm.ents, hm.one, f4, fun x hx => ?_, fun r hr s hs => ?_, Sub.self hm.ents, fun r hr => ?_⟩
        · dsimp only at hx
          rw [f2] at hx
          cases hx
        · dsimp only at hs
          rw [f2] at hs
          rcases hs with hs | hs
          · exact ⟨m.t, Sub.self hm.ents, hs.trans (hrow r hr)⟩
          · cases hs
        · dsimp only
          rw [seen_none (d := d') (fun x hx => by rw [f2] at hx; cases hx), show (1 + (r : Int)).toNat = 1 + r by omega]
          exact hrow r hr
      exact ⟨⟨f1, hb, hm.t, hm.ents, hm.one, List.nodup_nil, (fun x hx => by cases hx), (fun x hx => by cases hx), by have h' : 1 + (rowsN m.c.toNat : Int) + 4 * m.p ≤ m.d.flush.fl.length := hneed; dsimp only [ImgM.flush]; omega⟩,
        fun u h => ⟨_, hsl u h⟩, rfl, rfl, by dsimp only; rw [f3]; exact s0.len, by dsimp only; rw [f2]; simp, by dsimp only; omega⟩
end Go.Proofs.Ytbpblokfiajpjaa

namespace Go.Proofs.Ytbpblokfiajpjaa
open Go.RowKit Go.SL Go.Crc

theorem pick_range {f : Nat → ByteArray} {a : Int} : ∀ {j r : Nat} {s : ByteArray}, r < j →
    ((List.range j).map fun (i : Nat) => (a + (i : Int), f i)).foldl (fun s x => if x.1 = a + (r : Int) then x.2 else s) s = f r := by
  intro j
  induction j with
  | zero => intro r s h; omega
  | succ j ih =>
    intro r s h
    rw [List.range_succ, List.map_append, List.foldl_append]
    simp only [List.map_cons, List.map_nil, List.foldl_cons, List.foldl_nil]
    by_cases hr : r = j
    · subst hr; rw [if_pos rfl]
    · rw [if_neg (by omega)]; exact ih (by omega)
theorem puts_seen {l : List ByteArray} {d : DevM} {a : Int} (h : (d.puts a l).1 = 0) {r : Nat} (hr : r < l.length) : (d.puts a l).2.seen (a + (r : Int)) = l.getD r ByteArray.empty := by
  obtain ⟨h1, q, h2, -, j, -, j2, j3⟩ := DevM.puts_cases l d a
  obtain rfl := j3 h
  rw [seen_add h1 h2, j2]
  exact pick_range (f := fun i => l.getD i ByteArray.empty) hr
theorem zero_ents (c p : Int) : ∀ e ∈ zeroT c, entOk e p = true := fun e he => by
  unfold zeroT at he
  rw [(List.mem_replicate.1 he).2]
  rfl
theorem zero_uniq (c : Int) : Uniq (zeroT c) := fun i j hi hj h2 _ => by
  have h0 : ent (zeroT c) i = (0, 0) := (List.mem_replicate.1 (show ent (zeroT c) i ∈ List.replicate c.toNat (0, 0) from ent_mem hi)).2
  rw [h0] at h2
  cases h2

theorem created_ok {d : DevM} (hd : d.Ok) (hp : d.pend.length < 999000) (hw : d.writes < 999000) {c p b : Int} :
    (createR d c p b).2.d.Ok ∧ (createR d c p b).2.d.fl.length = d.fl.length ∧ (createR d c p b).2.d.pend.length ≤ d.pend.length + 4 ∧ (createR d c p b).2.d.writes ≤ d.writes + 5 ∧
    ((createR d c p b).1 = 0 → (createR d c p b).2.Ok ∧ Safe (createR d c p b).2 (zeroT c) ∧ (createR d c p b).2.d.pend = [] ∧ ¬ headBad c p b) := by
  unfold createR
  split
  · exact ⟨hd, rfl, by dsimp only [madeM]; omega, by dsimp only [madeM]; omega, fun h => by cases h⟩
  · rename_i hf
    have hb : ¬ headBad c p b := fun h => hf (.inl h)
    have hn : needN c p ≤ d.fl.length := Int.not_lt.1 fun h => hf (.inr h)
    have hbb := hb
    unfold headBad at hbb
    have hzl : (zeroT c).length = c.toNat := by simp [zeroT]
    have hrn : rowsN c.toNat ≤ 4 := by unfold rowsN; omega
    have hrl : (rowsL (zeroT c)).length = rowsN c.toNat := by simp [rowsL, hzl]
    have hn2 : 1 + (rowsN c.toNat : Int) + 4 * p ≤ d.fl.length := hn
    obtain ⟨o1, o2, o3, o4⟩ := puts_ok (l := rowsL (zeroT c)) (a := 1) hd (by omega) (by omega)
    split
    · exact ⟨o1, o2, by dsimp only [madeM]; omega, by dsimp only [madeM]; omega, fun h => absurd h (by assumption)⟩
    · rename_i h1
      have h1' := Decidable.byContradiction h1
      have hsr : ∀ r : Nat, r < rowsN c.toNat → (d.puts 1 (rowsL (zeroT c))).2.seen (1 + (r : Int)) = rowBytes (zeroT c) r := fun r hr => by
        rw [puts_seen h1' (by omega)]
        have := rowOf_is (P := 40) (by omega) (t := zeroT c) (by omega) (zero_ents c 40) (r := r) (by rw [hzl]; exact hr)
        simp [rowsL, hzl, hr, this]
      generalize (d.puts 1 (rowsL (zeroT c))).2 = d1 at *
      have okf := DevM.flush_ok o1
      have hl1 : d1.flush.fl.length = d1.fl.length := by simp only [DevM.flush, foldl_setAt_length]
      have hw1 : d1.flush.writes = d1.writes := rfl
      split
      · rename_i h2
        obtain ⟨l1, l2, l3⟩ := write_lens d1.flush 0 (headS c p b)
        have okw := DevM.write_ok okf 0 (headS c p b) (by simp [DevM.flush]) (by omega)
        have hp0 : d1.flush.pend.length = 0 := rfl
        exact ⟨okw, by dsimp only [madeM]; omega, by dsimp only [madeM]; omega, by dsimp only [madeM]; omega, fun h => absurd h h2⟩
      · rename_i h2
        obtain ⟨f1, f2, f3, f4, f5, f6⟩ := head_flush (s := headS c p b) okf rfl (by omega) (by omega) (Decidable.byContradiction h2)
        generalize (d1.flush.write 0 (headS c p b)).2.flush = d' at *
        have hrow : ∀ r : Nat, r < rowsN c.toNat → d'.fl.getD (1 + r) ByteArray.empty = rowBytes (zeroT c) r := fun r hr => by
          rw [f5 (1 + r) (by omega) (by omega), flush_fl o1 (by omega), show ((1 + r : Nat) : Int) = 1 + (r : Int) by omega]
          exact hsr r hr
        refine ⟨f1, by dsimp only [madeM]; omega, by dsimp only [madeM]; rw [f2]; simp, by dsimp only [madeM]; omega, fun _ => ⟨?_, ?_, f2, hb⟩⟩
        · exact ⟨f1, hb, by dsimp only [madeM]; rw [hzl]; omega, zero_ents c p, zero_uniq c, List.nodup_nil, (fun x hx => by cases hx), (fun x hx => by cases hx), by dsimp only [madeM]; omega⟩
        · refine ⟨rfl, zero_ents c p, zero_uniq c, f4, fun x hx => ?_, fun r hr s hs => ?_, Sub.self (zero_ents c p), fun r hr => ?_⟩
          · dsimp only [madeM] at hx
            rw [f2] at hx
            cases hx
          · dsimp only [madeM] at hs hr
            rw [f2] at hs
            rw [hzl] at hr
            rcases hs with hs | hs
            · exact ⟨zeroT c, Sub.self (zero_ents c p), hs.trans (hrow r hr)⟩
            · cases hs
          · dsimp only [madeM] at hr ⊢
            rw [hzl] at hr
            rw [seen_none (d := d') (fun x hx => by rw [f2] at hx; cases hx), show (1 + (r : Int)).toNat = 1 + r by omega]
            exact hrow r hr
end Go.Proofs.Ytbpblokfiajpjaa

namespace Go.Proofs.Ytbpblokfiajpjaa
open Go.RowKit Go.SL Go.Crc
attribute [local go_sem ↓] Go.wp_at_zero Go.wp_at_succ

theorem results_cell1 {fn : Func} {p : Tmp} {ty : TypeId} (h : fn.results = #[.cell p ty]) (tmps : Array Value) (P : Program) (w : World) :
    (results fn tmps).run P w = ((asAddr (tmps.getD p undef)).run P w).andThen fun a w₁ => (loadVar ty a).run P w₁ := by
  simp only [results, h]
  simp [Sem.run_bind, Result.andThen]
theorem results_head1 {fn : Func} {t : Tmp} (h : fn.results = #[.cell t 52]) (tmps : Array Value) (w : World) (g : Nat) (c p b : Int) (hg : tmps.getD t undef = .pointer (some ⟨g, 0, none⟩))
    (h0 : w.cell? ⟨g, 0, none⟩ = some (.int .i64 c)) (h1 : w.cell? ⟨g, 1, none⟩ = some (.int .i64 p)) (h2 : w.cell? ⟨g, 2, none⟩ = some (.int .i64 b)) :
    (results fn tmps).run Try.prog w = .ok (headV c p b) w := by
  rw [results_cell1 h, hg]
  unfold headV
  go_simp

set_option maxRecDepth 100000 in
set_option maxHeartbeats 1000000 in
theorem imghead_any (b bd bh : Nat) (m : ImgM) (R : List SL.HP) (w : World) (H : own w (imgAt b bd bh m :: R)) :
    Calls Try.prog 102 #[.pointer (some ⟨b, 0, none⟩)] w fun e w' => e = .returned (headV m.c m.p m.b) ∧ Ext w w' ∧ own w' (imgAt b bd bh m :: R) := by
  obtain ⟨v, h⟩ := img_open H
  have ha := own_alloc h (.cells #[.int .i64 0, .int .i64 0, .int .i64 0] 52)
  have hxa := (Ext.refl w).alloc (.cells #[.int .i64 0, .int .i64 0, .int .i64 0] 52)
  go_enter Try.func102, Try.ntmps102
  go_upto_region 1 with (fail)
  generalize w.heap.size = g at *
  generalize w.alloc (.cells #[.int .i64 0, .int .i64 0, .int .i64 0] 52) = w1 at *
  obtain ⟨cc, ff⟩ := own_cells 1 ha rfl
  obtain ⟨cg, fg⟩ := own_cells 0 ha rfl
  go_wp2_with fail
  have h5 := own_set (i := 2) (v := .int .i64 m.b) 0 (own_set (i := 1) (v := .int .i64 m.p) 0 (own_set (i := 0) (v := .int .i64 m.c) 0 ha rfl) rfl) rfl
  obtain ⟨c3, -⟩ := own_cells 0 h5 rfl
  refine bodyPost_ret (results_head1 rfl _ _ g m.c m.p m.b rfl (c3 0) (c3 1) (c3 2)) rfl ?_
  exact ⟨rfl, ((hxa.setCell _ _).setCell _ _).setCell _ _, img_close (own_drop h5)⟩

theorem read_nonneg (m : ImgM) (k : Int) : 0 ≤ (m.read k).2 := by
  unfold ImgM.read
  split
  · split
    · decide
    · split <;> simp
  · simp

set_option maxRecDepth 100000 in
set_option maxHeartbeats 8000000 in
theorem asimage_any (b1 bd1 bh b2 bd2 : Nat) (m : ImgM) (hm : m.Ok) (R : List SL.HP) (w : World) (H : own w (imgAt b1 bd1 bh m :: devAt bd1 m.d :: rimgAt b2 bd2 m :: rdevAt bd2 m.d :: R)) :
    Calls Try.prog 74 #[.pointer (some ⟨b1, 0, none⟩), .pointer (some ⟨b2, 0, none⟩)] w fun e w' => e = .returned (.bool true) ∧ Ext w w' ∧ own w' (imgAt b1 bd1 bh m :: devAt bd1 m.d :: rimgAt b2 bd2 m :: rdevAt bd2 m.d :: R) := by
  obtain ⟨vt, vh, h⟩ := rimg_open (own_pick 2 H rfl)
  obtain ⟨ao, g, cap, rfl, r1, r2, r3, -, -, -, -⟩ := own_row_form 1 h rfl
  obtain ⟨C, hC, q1, q2, q3, q4, q5, q6, -⟩ := hm.nat
  have hh := held_le40 hm
  obtain rfl := r3 (by omega)
  have HM := Lib.hid hm
  have HC := Lib.hid hC
  have HQ3 := Lib.hid q3
  have hd := own_drew h
  have HIH := fun (R : List SL.HP) (w : World) (H : own w (imgAt b1 bd1 bh m :: R)) => imghead_any b1 bd1 bh m R w H
  unfold headV at HIH
  have HIH' := Lib.hid HIH
  clear HIH hC q3 r3 hm
  go_enter Try.func74, Try.ntmps74
  go_upto_region 1 with (fail)
  go_region_held3 (fun w' => w'.cell? ⟨b2, 0, none⟩ = some (.pointer (some ⟨bd2, 0, none⟩)) ∧ w'.cell? ⟨b2, 1, none⟩ = some (.int .i64 m.c) ∧ w'.cell? ⟨b2, 2, none⟩ = some (.int .i64 m.p) ∧ w'.cell? ⟨b2, 3, none⟩ = some (.int .i64 m.b)) (first | exact ⟨(own_cells 0 hd rfl).1 0, (own_cells 0 hd rfl).1 1, (own_cells 0 hd rfl).1 2, (own_cells 0 hd rfl).1 3⟩ | exact ⟨(own_cells 0 h2 rfl).1 0, (own_cells 0 h2 rfl).1 1, (own_cells 0 h2 rfl).1 2, (own_cells 0 h2 rfl).1 3⟩ | exact ⟨(own_cells 0 h3 rfl).1 0, (own_cells 0 h3 rfl).1 1, (own_cells 0 h3 rfl).1 2, (own_cells 0 h3 rfl).1 3⟩ | exact ⟨(own_cells 2 h4 rfl).1 0, (own_cells 2 h4 rfl).1 1, (own_cells 2 h4 rfl).1 2, (own_cells 2 h4 rfl).1 3⟩) (first | (go_at_call 102; refine (HIH'.out _ _ (own_pick 3 hd rfl)).mono ?_; rintro e w2 ⟨rfl, hx2, h2'⟩; have h2 := own_put hd 3 rfl h2') | (go_at_call 89; refine (free_any b1 bd1 bh m HM.out _ _ (own_pick 3 h2 rfl)).mono ?_; rintro e w3 ⟨rfl, hx3, h3'⟩; have h3 := own_put h2 3 rfl h3') | (go_at_call 103; refine (rfree_any b2 bd2 m HM.out (by omega) _ _ (rimg_close (by first | exact h3 | exact h2))).mono ?_; rintro e w' ⟨rfl, rfl⟩) | (go_at_call 99; refine (imgdev_any b1 bd1 bh m _ _ (own_pick 3 h3 rfl)).mono ?_; rintro e w' ⟨rfl, rfl⟩) | (go_at_call 59; refine (asdev_any bd1 bd2 m.d HM.out.d _ _ (own_pick 5 (own_pick 5 h3 rfl) rfl)).mono ?_; rintro e w4 ⟨rfl, hx4, h4⟩))
  have h5 : own w4 (imgAt b1 bd1 bh m :: devAt bd1 m.d :: rimgAt b2 bd2 m :: rdevAt bd2 m.d :: R) :=
    own_pick 3 (own_pick 2 (rimg_close (own_behind [_, _, _] (own_behind [_, _, _, _] h4))) rfl) rfl
  have hx5 : Ext w w4 := (((Ext.refl w).drew.trans hx2).trans hx3).trans hx4
  clear hd h h2 h2' h3 h3' hx2 hx3 H
  obtain ⟨c0, f0⟩ := own_cells 2 h4 rfl
  have hcC := HC.out
  go_wp2_with fail
  clear c0 f0 h4
  go_loopw [5] (fun i wr => ∃ q : Nat, q ≤ C + 2 ∧ i = .int .i64 ((q : Int) - 1) ∧ Ext w wr ∧ own wr (imgAt b1 bd1 bh m :: devAt bd1 m.d :: rimgAt b2 bd2 m :: rdevAt bd2 m.d :: R)) (fun i _ => (C + 2 - intOf i).toNat)
  case atStart => exact ⟨0, by omega, by go_num, hx5, h5⟩
  case round =>
    obtain ⟨q, hq, rfl, hxr, hown⟩ := hrel
    clear h5 hx5
    obtain ⟨vt, vh, h6⟩ := rimg_open (own_pick 2 hown rfl)
    obtain ⟨cc, ff⟩ := own_cells 0 h6 rfl
    have hqc : C = m.t.length := HQ3.out.symm
    have HR := Lib.hid (fun (R : List SL.HP) (w : World) (H : own w (imgAt b1 bd1 bh m :: devAt bd1 m.d :: R)) => read_any b1 bd1 bh m HM.out ((q : Int) - 1) R w H)
    have HRR := Lib.hid (fun (R : List SL.HP) (w : World) (H : own w (rimgAt b2 bd2 m :: rdevAt bd2 m.d :: R)) => rread_any b2 bd2 m HM.out ((q : Int) - 1) R w H)
    have hrn := read_nonneg m ((q : Int) - 1)
    have hmc := HC.out
    by_cases hlt : q < C + 2
    · have hle : (q : Int) - 1 ≤ m.c := by omega
      have hki := kind_any b1 bd1 bh m HM.out ((q : Int) - 1) _ wr hown
      have hth := fun (R : List SL.HP) (w : World) (H : own w (rimgAt b2 bd2 m :: R)) => rthere_any b2 bd2 m ((q : Int) - 1) R w H
      cases ht : m.there ((q : Int) - 1)
      · rw [ht, if_neg (by decide), show errV 1 = .iface 121 (.int .i64 1) from rfl] at hki
        rw [ht] at hth
        have HK := Lib.hid hki
        have HTH := Lib.hid hth
        have HMC := Lib.hid hmc
        clear hki hth ht hqc hmc hcC
        generalize m.read ((q : Int) - 1) = rd at *
        obtain ⟨rs, rf⟩ := rd
        dsimp only at HR HRR hrn
        go_wp2_with fail
        refine HK.out.mono ?_
        rintro e w' ⟨rfl, rfl⟩
        go_wp2_with fail
        refine (HR.out _ wr hown).mono ?_
        rintro e w7 ⟨rfl, hx7, h7⟩
        clear cc ff
        go_wp2_with fail
        refine (HRR.out _ w7 (own_pick 3 (own_pick 3 h7 rfl) rfl)).mono ?_
        rintro e w8 ⟨rfl, hx8, h8⟩
        go_wp2_with fail
        refine (same_any rf rf w8 hrn).mono ?_
        rintro e w' ⟨rfl, rfl⟩
        go_wp2_with fail
        refine (HTH.out _ w8 h8).mono ?_
        rintro e w' ⟨rfl, rfl⟩
        go_wp2_with fail
        refine (same_any 1 1 w8 (by omega)).mono ?_
        rintro e w' ⟨rfl, rfl⟩
        go_wp2_with fail
        go_roundw
        case rel => exact ⟨q + 1, by omega, by go_num, (hxr.trans hx7).trans hx8, own_pick 3 (own_pick 3 h8 rfl) rfl⟩
        case measure => simp [intOf]; omega
      · obtain ⟨k0, k1, k2⟩ := there_range HM.out ht
        rw [ht, if_pos rfl] at hki
        rw [ht] at hth
        have HK := Lib.hid hki
        have HTH := Lib.hid hth
        have HMC := Lib.hid hmc
        clear hki hth ht hqc hmc hcC
        generalize m.read ((q : Int) - 1) = rd at *
        obtain ⟨rs, rf⟩ := rd
        dsimp only at HR HRR hrn
        obtain ⟨n, rfl⟩ : ∃ n, q = n + 1 := ⟨q - 1, by omega⟩
        rw [show ((n + 1 : Nat) : Int) - 1 = (n : Int) by omega] at *
        rw [Int.toNat_natCast] at k2
        go_wp2_with fail
        refine HK.out.mono ?_
        rintro e w' ⟨rfl, rfl⟩
        go_wp2_with fail
        refine (HR.out _ wr hown).mono ?_
        rintro e w7 ⟨rfl, hx7, h7⟩
        clear cc ff
        go_wp2_with fail
        refine (HRR.out _ w7 (own_pick 3 (own_pick 3 h7 rfl) rfl)).mono ?_
        rintro e w8 ⟨rfl, hx8, h8⟩
        obtain ⟨vt8, vh8, h9⟩ := rimg_open h8
        obtain ⟨ao8, g8, cap8, rfl, -, -, r38, -, -, r68, -⟩ := own_row_form 1 h9 rfl
        obtain rfl := r38 (by omega)
        have y1 : w8.cell? ⟨g8, n * 2, none⟩ = some (.int .i64 (m.kind (n : Int))) := r68 _ _ (entCells_get k2).1
        have i2 : (n : Int) < (m.t.length : Int) := by omega
        obtain ⟨cc, ff⟩ := own_cells 0 h9 rfl
        clear r38 r68
        generalize m.kind (n : Int) = kd at *
        go_wp2_with fail
        refine (same_any rf rf w8 hrn).mono ?_
        rintro e w' ⟨rfl, rfl⟩
        go_wp2_with fail
        refine (HTH.out _ w8 h8).mono ?_
        rintro e w' ⟨rfl, rfl⟩
        go_wp2_with fail
        go_roundw
        case rel => exact ⟨n + 1 + 1, by omega, by go_num, (hxr.trans hx7).trans hx8, own_pick 3 (own_pick 3 h8 rfl) rfl⟩
        case measure => simp [intOf]; omega
    · have hgt : m.c < (q : Int) - 1 := by omega
      clear HR HRR hrn
      go_wp2_with fail
      go_ret
      exact ⟨rfl, hxr, hown⟩
end Go.Proofs.Ytbpblokfiajpjaa

namespace Go.Proofs.Ytbpblokfiajpjaa
open Go.RowKit Go.SL Go.Crc

theorem catL_cuts (s : ByteArray) : ∀ n : Nat, n * 16 ≤ s.size → catL ((List.range n).map (chunk s)) = s.data.toList.take (n * 16) := by
  intro n
  induction n with
  | zero => intro _; simp [catL]
  | succ n ih =>
    intro h
    have h1 := ih (by omega)
    have e : catL ((List.range (n + 1)).map (chunk s)) = catL ((List.range n).map (chunk s)) ++ (chunk s n).data.toList := by
      rw [List.range_succ, List.map_append]
      simp [catL]
    rw [e, h1]
    unfold chunk
    rw [ByteArray.data_extract, Array.toList_extract, List.extract]
    rw [show (n + 1) * 16 - n * 16 = 16 by omega, show (n + 1) * 16 = n * 16 + 16 by omega, List.take_add]
theorem cat_chunks {s : ByteArray} {n : Nat} (h : s.size = 16 * n) : cat (chunksN s n) = s := by
  apply Go.WideShapes.bytes_inj
  unfold cat chunksN
  rw [catL_cuts s n (by omega), List.take_of_length_le]
  rw [Array.length_toList]
  have : s.data.size = s.size := rfl
  omega
theorem chunk_size {s : ByteArray} {n k : Nat} (h : s.size = 16 * n) (hk : k < n) : (chunk s k).size = 16 := by
  unfold chunk
  rw [ByteArray.size_extract]
  omega
theorem chunksN_sizes {s : ByteArray} {n : Nat} (h : s.size = 16 * n) : ∀ x ∈ chunksN s n, x.size = 16 := fun x hx => by
  unfold chunksN at hx
  obtain ⟨k, hk, rfl⟩ := List.mem_map.1 hx
  exact chunk_size h (List.mem_range.1 hk)
theorem chunksN_len (s : ByteArray) (n : Nat) : (chunksN s n).length = n := by simp [chunksN]
theorem chunksN_get {s : ByteArray} {n k : Nat} (h : k < n) : (chunksN s n).getD k ByteArray.empty = chunk s k := by simp [chunksN, h]

theorem write_good {d : DevM} (hf : d.fail < 0) {a : Int} (a0 : 0 ≤ a) (a1 : a < d.fl.length) {s : ByteArray} (hs : s.size = 16) : (d.write a s).1 = 0 ∧ (d.write a s).2.fail < 0 := by
  have hb : ¬ (d.bad a s = true) := by
    unfold DevM.bad
    simp only [Bool.or_eq_true, decide_eq_true_eq]
    omega
  unfold DevM.write
  rw [if_neg hb, if_neg (by omega)]
  refine ⟨rfl, ?_⟩
  dsimp only
  rw [if_neg (by omega)]
  exact hf
theorem puts_good : ∀ {l : List ByteArray} {d : DevM} {a : Int}, d.fail < 0 → 0 ≤ a → a + l.length ≤ d.fl.length → (∀ x ∈ l, x.size = 16) → (d.puts a l).1 = 0 ∧ (d.puts a l).2.fail < 0 := by
  intro l
  induction l with
  | nil => intro d a hf _ _ _; exact ⟨rfl, hf⟩
  | cons s l ih =>
    intro d a hf a0 a1 hs
    simp only [List.length_cons] at a1
    obtain ⟨h1, h2⟩ := write_good hf a0 (a := a) (by omega) (hs s (by simp))
    obtain ⟨l1, -, -⟩ := write_lens d a s
    rw [DevM.puts, if_neg (by simpa using h1)]
    exact ih h2 (by omega) (by omega) fun x hx => hs x (by simp [hx])

theorem setE_good {m : ImgM} (hm : m.Ok) (hf : m.d.fail < 0) {k : Nat} (hk : k < m.t.length) {e : Ent} (he : entOk e m.p = true) :
    ∃ d', d'.fl = m.d.fl ∧ d'.pend = m.d.pend ++ [(1 + ((k / 8 : Nat) : Int), rowBytes (m.t.set k e) (k / 8))] ∧ d'.fail < 0 ∧
      m.setE k e = (0, { m with d := d', t := m.t.set k e, held := if (ent m.t k).1 = 2 then m.held ++ [(ent m.t k).2] else m.held }) := by
  have hneed := hm.need
  rw [rows_eq hm] at hneed
  have hr := rows_of_nat hk
  obtain ⟨C, hC, q1, q2, q3, q4, q5, q6, -⟩ := hm.nat
  obtain ⟨h1, h2⟩ := write_good hf (a := 1 + ((k / 8 : Nat) : Int)) (by omega) (by omega) (rowBytes_size (m.t.set k e) (k / 8))
  rw [setE_eq hm hk he]
  rcases DevM.write_cases m.d (1 + ((k / 8 : Nat) : Int)) (rowBytes (m.t.set k e) (k / 8)) with ⟨e1, e2, e3⟩ | ⟨e1, -, -⟩
  · exact ⟨_, e3, e2, h2, by rw [if_neg (by simpa using e1)]⟩
  · exact absurd h1 e1

theorem read_data {m : ImgM} {k : Nat} {q : Int} (ht : m.there (k : Int) = true) (h : ent m.t k = (2, q)) : m.read (k : Int) = (cat (m.secs q 4), 0) := by
  have hk : m.kind (k : Int) = 2 := by unfold ImgM.kind; rw [Int.toNat_natCast, h]
  unfold ImgM.read
  rw [if_pos ht, if_neg (by rw [hk]; decide), if_neg (by rw [hk]; decide), Int.toNat_natCast, h]
theorem fill_good {m : ImgM} (hm : m.Ok) (hf : m.d.fail < 0) (hw : m.d.writes < 999000) (hp : m.d.pend.length < 999000) {k : Nat} (hk : k < m.t.length) (h2 : (ent m.t k).1 ≠ 2) {s : ByteArray} (hs : s.size = 64) {q : Nat} (hq : m.freeP = q) (hqp : (q : Int) < m.p) :
    (m.fill k s).1 = 0 ∧ (m.fill k s).2.t = m.t.set k (2, (q : Int)) ∧ (m.fill k s).2.held = [] ∧ (m.fill k s).2.read k = (s, 0) := by
  obtain ⟨C, hC, q1, q2, q3, q4, q5, q6, -⟩ := hm.nat
  have ht : m.there (k : Int) = true := by
    unfold ImgM.there
    simp
    omega
  have hfi := first_in hm (y := (q : Int)) (by omega) hqp
  have hfg := first_ge hm (y := (q : Int)) (by omega)
  have hkd : ¬ m.kind (k : Int) = 2 := h2
  obtain ⟨p1, p2⟩ := puts_good (l := chunksN s 4) hf (a := m.first (q : Int)) (by omega) (by rw [chunksN_len]; omega) (chunksN_sizes (n := 4) (by omega))
  have s1 := step_puts (n := 4) hm hw hp hfg (l := chunksN s 4) (by rw [chunksN_len]; omega) (by omega)
  have s2 := step_flush s1.ok
  have hseen := fun (j : Nat) (hj : j < 4) => puts_seen (d := m.d) (a := m.first (q : Int)) (l := chunksN s 4) p1 (r := j) (by rw [chunksN_len]; exact hj)
  have hl1 := s1.len
  dsimp only at hl1
  have he : entOk (2, (q : Int)) m.p = true := by unfold entOk; rw [if_pos rfl]; simp; omega
  obtain ⟨d', e1, e2, e3, e4⟩ := setE_good (m := ({ m with d := (m.d.puts (m.first (q : Int)) (chunksN s 4)).2 } : ImgM).flush) s2.ok (by exact p2) (k := k) hk (e := (2, (q : Int))) he
  have hfill : m.fill (k : Int) s = ({ m with d := (m.d.puts (m.first (q : Int)) (chunksN s 4)).2 } : ImgM).flush.setE k (2, (q : Int)) := by
    unfold ImgM.fill
    rw [if_neg (by rw [ht]; simp [hs]), if_neg hkd, hq, if_neg (by omega)]
    unfold ImgM.fillAt
    rw [if_neg (by simpa using p1), Int.toNat_natCast]
  rw [hfill, e4]
  have hrow := rows_of_nat hk
  refine ⟨rfl, rfl, ?_, ?_⟩
  · exact if_neg h2
  · refine (read_data (q := (q : Int)) (by exact ht) (by show ent (m.t.set k (2, (q : Int))) k = _; rw [ent_set hk, if_pos rfl])).trans ?_
    refine Prod.ext ?_ rfl
    dsimp only
    rw [← cat_chunks (s := s) (n := 4) (by omega)]
    congr 1
    unfold ImgM.secs chunksN
    refine List.map_congr_left fun j hj => ?_
    have hj4 := List.mem_range.1 hj
    have hns := s1.ok.d
    dsimp only at hns
    have hse := hseen j hj4
    rw [chunksN_get hj4] at hse
    show d'.seen (m.first (q : Int) + (j : Int)) = chunk s j
    rw [seen_same e1 e2 (fun x hx => by rw [List.mem_singleton.1 hx]; dsimp only; omega)]
    obtain ⟨a, ha⟩ := Int.eq_ofNat_of_zero_le (show 0 ≤ m.first (q : Int) + (j : Int) by omega)
    rw [ha] at hse ⊢
    show (m.d.puts (m.first (q : Int)) (chunksN s 4)).2.flush.seen (a : Int) = chunk s j
    rw [flush_seen hns (by omega), hse]
end Go.Proofs.Ytbpblokfiajpjaa
