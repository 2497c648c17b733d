/- An image's head; an image held against its model. An image's model: a cluster is filled where the device does not fail, and is read. Lists of numbers that are read; SameNumbers answers whether two are one. A shelf of images: its model, what it is in memory, the program's and the document's. The files one below the other: Walk, the program's and the document's. What a list of files has of a cluster: Found and Read, the program's and the document's. A cluster of a list of files is read: the program's and the document's. No conditions. -/
import Derived.Test.YtbpblokfiajpjabGreatPkcfe098bbfa
import Derived.Test.YtbpblokfiajpjabGreatProg
namespace Go.Proofs.YtbpblokfiajpjabGreat
open Go.RowKit Go.SL Go.Crc
attribute [local go_sem ↓] Go.wp_at_zero Go.wp_at_succ

theorem results_cell1 {fn : Func} {p : Tmp} {ty : TypeId} (h : fn.results = #[.cell p ty]) (tmps : Array Value) (P : Program) (w : World) :
    (results fn tmps).run P w = ((asAddr (tmps.getD p undef)).run P w).andThen fun a w₁ => (loadVar ty a).run P w₁ := by
  simp only [results, h]
  simp [Sem.run_bind, Result.andThen]
theorem results_head1 {fn : Func} {t : Tmp} (h : fn.results = #[.cell t 47]) (tmps : Array Value) (w : World) (g : Nat) (c p b : Int) (hg : tmps.getD t undef = .pointer (some ⟨g, 0, none⟩))
    (h0 : w.cell? ⟨g, 0, none⟩ = some (.int .i64 c)) (h1 : w.cell? ⟨g, 1, none⟩ = some (.int .i64 p)) (h2 : w.cell? ⟨g, 2, none⟩ = some (.int .i64 b)) :
    (results fn tmps).run Tryz.prog w = .ok (headV c p b) w := by
  rw [results_cell1 h, hg]
  unfold headV
  go_simp

set_option maxRecDepth 100000 in
set_option maxHeartbeats 1000000 in
theorem imghead_any (b bd bh : Nat) (m : ImgM) (R : List SL.HP) (w : World) (H : own w (imgAt b bd bh m :: R)) :
    Calls Tryz.prog 24 #[.pointer (some ⟨b, 0, none⟩)] w fun e w' => e = .returned (headV m.c m.p m.b) ∧ Ext w w' ∧ own w' (imgAt b bd bh m :: R) := by
  obtain ⟨v, h⟩ := img_open H
  have ha := own_alloc h (.cells #[.int .i64 0, .int .i64 0, .int .i64 0] 47)
  have hxa := (Ext.refl w).alloc (.cells #[.int .i64 0, .int .i64 0, .int .i64 0] 47)
  go_enter Tryz.func24, Tryz.ntmps24
  go_upto_region 1 with (fail)
  generalize w.heap.size = g at *
  generalize w.alloc (.cells #[.int .i64 0, .int .i64 0, .int .i64 0] 47) = w1 at *
  obtain ⟨cc, ff⟩ := own_cells 1 ha rfl
  obtain ⟨cg, fg⟩ := own_cells 0 ha rfl
  go_wp2_with fail
  have h5 := own_set (i := 2) (v := .int .i64 m.b) 0 (own_set (i := 1) (v := .int .i64 m.p) 0 (own_set (i := 0) (v := .int .i64 m.c) 0 ha rfl) rfl) rfl
  obtain ⟨c3, -⟩ := own_cells 0 h5 rfl
  refine bodyPost_ret (results_head1 rfl _ _ g m.c m.p m.b rfl (c3 0) (c3 1) (c3 2)) rfl ?_
  exact ⟨rfl, ((hxa.setCell _ _).setCell _ _).setCell _ _, img_close (own_drop h5)⟩

theorem read_nonneg (m : ImgM) (k : Int) : 0 ≤ (m.read k).2 := by
  unfold ImgM.read
  split
  · split
    · decide
    · split <;> simp
  · simp

set_option maxRecDepth 100000 in
set_option maxHeartbeats 8000000 in
theorem asimage_any (b1 bd1 bh b2 bd2 : Nat) (m : ImgM) (hm : m.Ok) (R : List SL.HP) (w : World) (H : own w (imgAt b1 bd1 bh m :: devAt bd1 m.d :: rimgAt b2 bd2 m :: rdevAt bd2 m.d :: R)) :
    Calls Tryz.prog 36 #[.pointer (some ⟨b1, 0, none⟩), .pointer (some ⟨b2, 0, none⟩)] w fun e w' => e = .returned (.bool true) ∧ Ext w w' ∧ own w' (imgAt b1 bd1 bh m :: devAt bd1 m.d :: rimgAt b2 bd2 m :: rdevAt bd2 m.d :: R) := by
  obtain ⟨vt, vh, h⟩ := rimg_open (own_pick 2 H rfl)
  obtain ⟨ao, g, cap, rfl, r1, r2, r3, -, -, -, -⟩ := own_row_form 1 h rfl
  obtain ⟨C, hC, q1, q2, q3, q4, q5, q6, -⟩ := hm.nat
  have hh := held_le40 hm
  obtain rfl := r3 (by omega)
  have HM := Lib.hid hm
  have HC := Lib.hid hC
  have HQ3 := Lib.hid q3
  have hd := own_drew h
  have HIH := fun (R : List SL.HP) (w : World) (H : own w (imgAt b1 bd1 bh m :: R)) => imghead_any b1 bd1 bh m R w H
  unfold headV at HIH
  have HIH' := Lib.hid HIH
  clear HIH hC q3 r3 hm
  go_enter Tryz.func36, Tryz.ntmps36
  go_upto_region 1 with (fail)
  go_region_held3 (fun w' => w'.cell? ⟨b2, 0, none⟩ = some (.pointer (some ⟨bd2, 0, none⟩)) ∧ w'.cell? ⟨b2, 1, none⟩ = some (.int .i64 m.c) ∧ w'.cell? ⟨b2, 2, none⟩ = some (.int .i64 m.p) ∧ w'.cell? ⟨b2, 3, none⟩ = some (.int .i64 m.b)) (first | exact ⟨(own_cells 0 hd rfl).1 0, (own_cells 0 hd rfl).1 1, (own_cells 0 hd rfl).1 2, (own_cells 0 hd rfl).1 3⟩ | exact ⟨(own_cells 0 h2 rfl).1 0, (own_cells 0 h2 rfl).1 1, (own_cells 0 h2 rfl).1 2, (own_cells 0 h2 rfl).1 3⟩ | exact ⟨(own_cells 0 h3 rfl).1 0, (own_cells 0 h3 rfl).1 1, (own_cells 0 h3 rfl).1 2, (own_cells 0 h3 rfl).1 3⟩ | exact ⟨(own_cells 2 h4 rfl).1 0, (own_cells 2 h4 rfl).1 1, (own_cells 2 h4 rfl).1 2, (own_cells 2 h4 rfl).1 3⟩) (first | (go_at_call 24; refine (HIH'.out _ _ (own_pick 3 hd rfl)).mono ?_; rintro e w2 ⟨rfl, hx2, h2'⟩; have h2 := own_put hd 3 rfl h2') | (go_at_call 73; refine (free_any b1 bd1 bh m HM.out _ _ (own_pick 3 h2 rfl)).mono ?_; rintro e w3 ⟨rfl, hx3, h3'⟩; have h3 := own_put h2 3 rfl h3') | (go_at_call 74; refine (rfree_any b2 bd2 m HM.out (by omega) _ _ (rimg_close (by first | exact h3 | exact h2))).mono ?_; rintro e w' ⟨rfl, rfl⟩) | (go_at_call 76; refine (imgdev_any b1 bd1 bh m _ _ (own_pick 3 h3 rfl)).mono ?_; rintro e w' ⟨rfl, rfl⟩) | (go_at_call 75; refine (asdev_any bd1 bd2 m.d HM.out.d _ _ (own_pick 5 (own_pick 5 h3 rfl) rfl)).mono ?_; rintro e w4 ⟨rfl, hx4, h4⟩))
  have h5 : own w4 (imgAt b1 bd1 bh m :: devAt bd1 m.d :: rimgAt b2 bd2 m :: rdevAt bd2 m.d :: R) :=
    own_pick 3 (own_pick 2 (rimg_close (own_behind [_, _, _] (own_behind [_, _, _, _] h4))) rfl) rfl
  have hx5 : Ext w w4 := (((Ext.refl w).drew.trans hx2).trans hx3).trans hx4
  clear hd h h2 h2' h3 h3' hx2 hx3 H
  obtain ⟨c0, f0⟩ := own_cells 2 h4 rfl
  have hcC := HC.out
  go_wp2_with fail
  clear c0 f0 h4
  go_loopw [5] (fun i wr => ∃ q : Nat, q ≤ C + 2 ∧ i = .int .i64 ((q : Int) - 1) ∧ Ext w wr ∧ own wr (imgAt b1 bd1 bh m :: devAt bd1 m.d :: rimgAt b2 bd2 m :: rdevAt bd2 m.d :: R)) (fun i _ => (C + 2 - intOf i).toNat)
  case atStart => exact ⟨0, by omega, by go_num, hx5, h5⟩
  case round =>
    obtain ⟨q, hq, rfl, hxr, hown⟩ := hrel
    clear h5 hx5
    obtain ⟨vt, vh, h6⟩ := rimg_open (own_pick 2 hown rfl)
    obtain ⟨cc, ff⟩ := own_cells 0 h6 rfl
    have hqc : C = m.t.length := HQ3.out.symm
    have HR := Lib.hid (fun (R : List SL.HP) (w : World) (H : own w (imgAt b1 bd1 bh m :: devAt bd1 m.d :: R)) => read_any b1 bd1 bh m HM.out ((q : Int) - 1) R w H)
    have HRR := Lib.hid (fun (R : List SL.HP) (w : World) (H : own w (rimgAt b2 bd2 m :: rdevAt bd2 m.d :: R)) => rread_any b2 bd2 m HM.out ((q : Int) - 1) R w H)
    have hrn := read_nonneg m ((q : Int) - 1)
    have hmc := HC.out
    by_cases hlt : q < C + 2
    · have hle : (q : Int) - 1 ≤ m.c := by omega
      have hki := kind_any b1 bd1 bh m HM.out ((q : Int) - 1) _ wr hown
      have hth := fun (R : List SL.HP) (w : World) (H : own w (rimgAt b2 bd2 m :: R)) => rthere_any b2 bd2 m ((q : Int) - 1) R w H
      cases ht : m.there ((q : Int) - 1)
      · rw [ht, if_neg (by decide), show errV 1 = .iface 72 (.int .i64 1) from rfl] at hki
        rw [ht] at hth
        have HK := Lib.hid hki
        have HTH := Lib.hid hth
        have HMC := Lib.hid hmc
        clear hki hth ht hqc hmc hcC
        generalize m.read ((q : Int) - 1) = rd at *
        obtain ⟨rs, rf⟩ := rd
        dsimp only at HR HRR hrn
        go_wp2_with fail
        refine HK.out.mono ?_
        rintro e w' ⟨rfl, rfl⟩
        go_wp2_with fail
        refine (HR.out _ wr hown).mono ?_
        rintro e w7 ⟨rfl, hx7, h7⟩
        clear cc ff
        go_wp2_with fail
        refine (HRR.out _ w7 (own_pick 3 (own_pick 3 h7 rfl) rfl)).mono ?_
        rintro e w8 ⟨rfl, hx8, h8⟩
        go_wp2_with fail
        refine (same_any rf rf w8 hrn).mono ?_
        rintro e w' ⟨rfl, rfl⟩
        go_wp2_with fail
        refine (HTH.out _ w8 h8).mono ?_
        rintro e w' ⟨rfl, rfl⟩
        go_wp2_with fail
        refine (same_any 1 1 w8 (by omega)).mono ?_
        rintro e w' ⟨rfl, rfl⟩
        go_wp2_with fail
        go_roundw
        case rel => exact ⟨q + 1, by omega, by go_num, (hxr.trans hx7).trans hx8, own_pick 3 (own_pick 3 h8 rfl) rfl⟩
        case measure => simp [intOf]; omega
      · obtain ⟨k0, k1, k2⟩ := there_range HM.out ht
        rw [ht, if_pos rfl] at hki
        rw [ht] at hth
        have HK := Lib.hid hki
        have HTH := Lib.hid hth
        have HMC := Lib.hid hmc
        clear hki hth ht hqc hmc hcC
        generalize m.read ((q : Int) - 1) = rd at *
        obtain ⟨rs, rf⟩ := rd
        dsimp only at HR HRR hrn
        obtain ⟨n, rfl⟩ : ∃ n, q = n + 1 := ⟨q - 1, by omega⟩
        rw [show ((n + 1 : Nat) : Int) - 1 = (n : Int) by omega] at *
        rw [Int.toNat_natCast] at k2
        go_wp2_with fail
        refine HK.out.mono ?_
        rintro e w' ⟨rfl, rfl⟩
        go_wp2_with fail
        refine (HR.out _ wr hown).mono ?_
        rintro e w7 ⟨rfl, hx7, h7⟩
        clear cc ff
        go_wp2_with fail
        refine (HRR.out _ w7 (own_pick 3 (own_pick 3 h7 rfl) rfl)).mono ?_
        rintro e w8 ⟨rfl, hx8, h8⟩
        obtain ⟨vt8, vh8, h9⟩ := rimg_open h8
        obtain ⟨ao8, g8, cap8, rfl, -, -, r38, -, -, r68, -⟩ := own_row_form 1 h9 rfl
        obtain rfl := r38 (by omega)
        have y1 : w8.cell? ⟨g8, n * 2, none⟩ = some (.int .i64 (m.kind (n : Int))) := r68 _ _ (entCells_get k2).1
        have i2 : (n : Int) < (m.t.length : Int) := by omega
        obtain ⟨cc, ff⟩ := own_cells 0 h9 rfl
        clear r38 r68
        generalize m.kind (n : Int) = kd at *
        go_wp2_with fail
        refine (same_any rf rf w8 hrn).mono ?_
        rintro e w' ⟨rfl, rfl⟩
        go_wp2_with fail
        refine (HTH.out _ w8 h8).mono ?_
        rintro e w' ⟨rfl, rfl⟩
        go_wp2_with fail
        go_roundw
        case rel => exact ⟨n + 1 + 1, by omega, by go_num, (hxr.trans hx7).trans hx8, own_pick 3 (own_pick 3 h8 rfl) rfl⟩
        case measure => simp [intOf]; omega
    · have hgt : m.c < (q : Int) - 1 := by omega
      clear HR HRR hrn
      go_wp2_with fail
      go_ret
      exact ⟨rfl, hxr, hown⟩
end Go.Proofs.YtbpblokfiajpjabGreat

namespace Go.Proofs.YtbpblokfiajpjabGreat
open Go.RowKit Go.SL Go.Crc

theorem catL_cuts (s : ByteArray) : ∀ n : Nat, n * 16 ≤ s.size → catL ((List.range n).map (chunk s)) = s.data.toList.take (n * 16) := by
  intro n
  induction n with
  | zero => intro _; simp [catL]
  | succ n ih =>
    intro h
    have h1 := ih (by omega)
    have e : catL ((List.range (n + 1)).map (chunk s)) = catL ((List.range n).map (chunk s)) ++ (chunk s n).data.toList := by
      rw [List.range_succ, List.map_append]
      simp [catL]
    rw [e, h1]
    unfold chunk
    rw [ByteArray.data_extract, Array.toList_extract, List.extract]
    rw [show (n + 1) * 16 - n * 16 = 16 by omega, show (n + 1) * 16 = n * 16 + 16 by omega, List.take_add]
theorem cat_chunks {s : ByteArray} {n : Nat} (h : s.size = 16 * n) : cat (chunksN s n) = s := by
  apply Go.WideShapes.bytes_inj
  unfold cat chunksN
  rw [catL_cuts s n (by omega), List.take_of_length_le]
  rw [Array.length_toList]
  have : s.data.size = s.size := rfl
  omega
theorem chunk_size {s : ByteArray} {n k : Nat} (h : s.size = 16 * n) (hk : k < n) : (chunk s k).size = 16 := by
  unfold chunk
  rw [ByteArray.size_extract]
  omega
theorem chunksN_sizes {s : ByteArray} {n : Nat} (h : s.size = 16 * n) : ∀ x ∈ chunksN s n, x.size = 16 := fun x hx => by
  unfold chunksN at hx
  obtain ⟨k, hk, rfl⟩ := List.mem_map.1 hx
  exact chunk_size h (List.mem_range.1 hk)
theorem chunksN_len (s : ByteArray) (n : Nat) : (chunksN s n).length = n := by simp [chunksN]
theorem chunksN_get {s : ByteArray} {n k : Nat} (h : k < n) : (chunksN s n).getD k ByteArray.empty = chunk s k := by simp [chunksN, h]

theorem write_good {d : DevM} (hf : d.fail < 0) {a : Int} (a0 : 0 ≤ a) (a1 : a < d.fl.length) {s : ByteArray} (hs : s.size = 16) : (d.write a s).1 = 0 ∧ (d.write a s).2.fail < 0 := by
  have hb : ¬ (d.bad a s = true) := by
    unfold DevM.bad
    simp only [Bool.or_eq_true, decide_eq_true_eq]
    omega
  unfold DevM.write
  rw [if_neg hb, if_neg (by omega)]
  refine ⟨rfl, ?_⟩
  dsimp only
  rw [if_neg (by omega)]
  exact hf
theorem puts_good : ∀ {l : List ByteArray} {d : DevM} {a : Int}, d.fail < 0 → 0 ≤ a → a + l.length ≤ d.fl.length → (∀ x ∈ l, x.size = 16) → (d.puts a l).1 = 0 ∧ (d.puts a l).2.fail < 0 := by
  intro l
  induction l with
  | nil => intro d a hf _ _ _; exact ⟨rfl, hf⟩
  | cons s l ih =>
    intro d a hf a0 a1 hs
    simp only [List.length_cons] at a1
    obtain ⟨h1, h2⟩ := write_good hf a0 (a := a) (by omega) (hs s (by simp))
    obtain ⟨l1, -, -⟩ := write_lens d a s
    rw [DevM.puts, if_neg (by simpa using h1)]
    exact ih h2 (by omega) (by omega) fun x hx => hs x (by simp [hx])

theorem setE_good {m : ImgM} (hm : m.Ok) (hf : m.d.fail < 0) {k : Nat} (hk : k < m.t.length) {e : Ent} (he : entOk e m.p = true) :
    ∃ d', d'.fl = m.d.fl ∧ d'.pend = m.d.pend ++ [(1 + ((k / 8 : Nat) : Int), rowBytes (m.t.set k e) (k / 8))] ∧ d'.fail < 0 ∧
      m.setE k e = (0, { m with d := d', t := m.t.set k e, held := if (ent m.t k).1 = 2 then m.held ++ [(ent m.t k).2] else m.held }) := by
  have hneed := hm.need
  rw [rows_eq hm] at hneed
  have hr := rows_of_nat hk
  obtain ⟨C, hC, q1, q2, q3, q4, q5, q6, -⟩ := hm.nat
  obtain ⟨h1, h2⟩ := write_good hf (a := 1 + ((k / 8 : Nat) : Int)) (by omega) (by omega) (rowBytes_size (m.t.set k e) (k / 8))
  rw [setE_eq hm hk he]
  rcases DevM.write_cases m.d (1 + ((k / 8 : Nat) : Int)) (rowBytes (m.t.set k e) (k / 8)) with ⟨e1, e2, e3⟩ | ⟨e1, -, -⟩
  · exact ⟨_, e3, e2, h2, by rw [if_neg (by simpa using e1)]⟩
  · exact absurd h1 e1

theorem read_data {m : ImgM} {k : Nat} {q : Int} (ht : m.there (k : Int) = true) (h : ent m.t k = (2, q)) : m.read (k : Int) = (cat (m.secs q 4), 0) := by
  have hk : m.kind (k : Int) = 2 := by unfold ImgM.kind; rw [Int.toNat_natCast, h]
  unfold ImgM.read
  rw [if_pos ht, if_neg (by rw [hk]; decide), if_neg (by rw [hk]; decide), Int.toNat_natCast, h]
theorem fill_good {m : ImgM} (hm : m.Ok) (hf : m.d.fail < 0) (hw : m.d.writes < 999000) (hp : m.d.pend.length < 999000) {k : Nat} (hk : k < m.t.length) (h2 : (ent m.t k).1 ≠ 2) {s : ByteArray} (hs : s.size = 64) {q : Nat} (hq : m.freeP = q) (hqp : (q : Int) < m.p) :
    (m.fill k s).1 = 0 ∧ (m.fill k s).2.t = m.t.set k (2, (q : Int)) ∧ (m.fill k s).2.held = [] ∧ (m.fill k s).2.read k = (s, 0) := by
  obtain ⟨C, hC, q1, q2, q3, q4, q5, q6, -⟩ := hm.nat
  have ht : m.there (k : Int) = true := by
    unfold ImgM.there
    simp
    omega
  have hfi := first_in hm (y := (q : Int)) (by omega) hqp
  have hfg := first_ge hm (y := (q : Int)) (by omega)
  have hkd : ¬ m.kind (k : Int) = 2 := h2
  obtain ⟨p1, p2⟩ := puts_good (l := chunksN s 4) hf (a := m.first (q : Int)) (by omega) (by rw [chunksN_len]; omega) (chunksN_sizes (n := 4) (by omega))
  have s1 := step_puts (n := 4) hm hw hp hfg (l := chunksN s 4) (by rw [chunksN_len]; omega) (by omega)
  have s2 := step_flush s1.ok
  have hseen := fun (j : Nat) (hj : j < 4) => puts_seen (d := m.d) (a := m.first (q : Int)) (l := chunksN s 4) p1 (r := j) (by rw [chunksN_len]; exact hj)
  have hl1 := s1.len
  dsimp only at hl1
  have he : entOk (2, (q : Int)) m.p = true := by unfold entOk; rw [if_pos rfl]; simp; omega
  obtain ⟨d', e1, e2, e3, e4⟩ := setE_good (m := ({ m with d := (m.d.puts (m.first (q : Int)) (chunksN s 4)).2 } : ImgM).flush) s2.ok (by exact p2) (k := k) hk (e := (2, (q : Int))) he
  have hfill : m.fill (k : Int) s = ({ m with d := (m.d.puts (m.first (q : Int)) (chunksN s 4)).2 } : ImgM).flush.setE k (2, (q : Int)) := by
    unfold ImgM.fill
    rw [if_neg (by rw [ht]; simp [hs]), if_neg hkd, hq, if_neg (by omega)]
    unfold ImgM.fillAt
    rw [if_neg (by simpa using p1), Int.toNat_natCast]
  rw [hfill, e4]
  have hrow := rows_of_nat hk
  refine ⟨rfl, rfl, ?_, ?_⟩
  · exact if_neg h2
  · refine (read_data (q := (q : Int)) (by exact ht) (by show ent (m.t.set k (2, (q : Int))) k = _; rw [ent_set hk, if_pos rfl])).trans ?_
    refine Prod.ext ?_ rfl
    dsimp only
    rw [← cat_chunks (s := s) (n := 4) (by omega)]
    congr 1
    unfold ImgM.secs chunksN
    refine List.map_congr_left fun j hj => ?_
    have hj4 := List.mem_range.1 hj
    have hns := s1.ok.d
    dsimp only at hns
    have hse := hseen j hj4
    rw [chunksN_get hj4] at hse
    show d'.seen (m.first (q : Int) + (j : Int)) = chunk s j
    rw [seen_same e1 e2 (fun x hx => by rw [List.mem_singleton.1 hx]; dsimp only; omega)]
    obtain ⟨a, ha⟩ := Int.eq_ofNat_of_zero_le (show 0 ≤ m.first (q : Int) + (j : Int) by omega)
    rw [ha] at hse ⊢
    show (m.d.puts (m.first (q : Int)) (chunksN s 4)).2.flush.seen (a : Int) = chunk s j
    rw [flush_seen hns (by omega), hse]
end Go.Proofs.YtbpblokfiajpjabGreat

namespace Go.Proofs.YtbpblokfiajpjabGreat
open Go.RowKit Go.SL

def IntsAt (w : World) (v : Value) (l : List Int) : Prop := SlAt v l.length (fun b off i => w.cell? ⟨b, off + i, none⟩ = some (.int .i64 (l.getD i 0)))
theorem IntsAt.form {w : World} {v : Value} {l : List Int} (h : IntsAt w v l) : ∃ ao b off cap, v = .slice ao l.length cap ∧ l.length ≤ cap ∧ cap ≤ 9223372036854775807 ∧ (0 < l.length → ao = some ⟨b, off, none⟩) ∧
    ∀ i, i < l.length → w.cell? ⟨b, off + i, none⟩ = some (.int .i64 (l.getD i 0)) := by
  obtain ⟨ao, b, off, cap, hv, h1, h2, h3, h4⟩ := h
  exact ⟨ao, b, off, cap, hv, h1, h2, h3, h4⟩
theorem drewN_add' (w : World) (a b : Nat) : (w.drewN a).drewN b = w.drewN (a + b) := by simp [World.drewN, Nat.add_assoc]

theorem ints_own {w : World} {L : List HP} (k : Nat) {b n : Nat} {arr : Array Value} {T : TypeId} {l : List Int} (H : own w L) (hk : L[k]? = some (pts b (.cells arr T (0, 0)))) (hn : l.length = n)
    (ha : ∀ i, i < l.length → arr[i]? = some (.int .i64 (l.getD i 0))) (hb : n ≤ 9223372036854775807) : IntsAt w (.slice (some ⟨b, 0, none⟩) n n) l := by
  subst hn
  exact ⟨_, b, 0, l.length, rfl, Nat.le_refl _, hb, fun _ => rfl, fun i hi => by dsimp only; rw [Nat.zero_add, (own_cells k H hk).1]; exact ha i hi⟩

set_option maxRecDepth 100000 in
set_option maxHeartbeats 1000000 in
theorem samenumbers_any (va vb : Value) (la lb : List Int) (w : World) (ha : IntsAt w va la) (hb : IntsAt w vb lb) :
    Calls Tryz.prog 11 #[va, vb] w fun e w' => e = .returned (.bool (decide (la = lb))) ∧ ∃ n, w' = w.drewN n := by
  obtain ⟨aoa, ba, offa, capa, rfl, a1, a2, a3, a4⟩ := ha.form
  obtain ⟨aob, bb, offb, capb, rfl, b1, b2, b3, b4⟩ := hb.form
  by_cases hl : la.length = lb.length
  · go_enter Tryz.func11, Tryz.ntmps11
    have hl2 : ((la.length : Int) != (lb.length : Int)) = false := by rw [hl]; simp
    have HL := Lib.hid hl
    clear hl
    go_wp2_with fail
    go_loopw [5] (fun i wr => ∃ k : Nat, k ≤ la.length ∧ i = .int .i64 k ∧ (∀ j, j < k → la.getD j 0 = lb.getD j 0) ∧ ∃ n, wr = w.drewN n) (fun i _ => la.length - (intOf i).toNat)
    case atStart => exact ⟨0, by omega, rfl, fun j hj => absurd hj (by omega), 0, rfl⟩
    case round =>
      obtain ⟨k, hk, rfl, hj, nd, rfl⟩ := hrel
      have HJ := Lib.hid hj
      clear hj
      by_cases hlt : k < la.length
      · obtain rfl := a3 (by omega)
        have hlt2 : k < lb.length := by rw [← HL.out]; exact hlt
        obtain rfl := b3 (by omega)
        have c1 := a4 k hlt
        have c2 := b4 k hlt2
        clear a3 a4 b3 b4 ha hb
        generalize hxa : la.getD k 0 = xa at *
        generalize hxb : lb.getD k 0 = xb at *
        have HXA := Lib.hid hxa
        have HXB := Lib.hid hxb
        clear hxa hxb
        have ha5 : (k : Int) < (la.length : Int) := by omega
        have hb5 : (k : Int) < (lb.length : Int) := by omega
        by_cases hx : xa = xb
        · have HX := Lib.hid hx
          have ht : (xa != xb) = false := by rw [hx]; simp
          clear hx
          go_wp2_with fail
          go_quiet (fail)
          go_wp2_with fail
          go_roundw
          case rel => exact ⟨k + 1, by omega, by go_num, (fun j hj => by
            by_cases e : j = k
            · subst e; rw [HXA.out, HXB.out, HX.out]
            · exact HJ.out j (by omega)), nd + nq, by first | rfl | exact drewN_add' _ _ _⟩
          case measure => simp [intOf]; omega
        · have ht : (xa != xb) = true := by rw [bne_iff_ne]; exact hx
          have HX := Lib.hid hx
          clear hx
          go_wp2_with fail
          go_quiet (fail)
          go_wp2_with fail
          go_ret
          refine ⟨ret_bool ?_, nd + nq, by first | rfl | exact drewN_add' _ _ _⟩
          symm
          apply decide_eq_false
          intro e
          exact HX.out (by rw [← HXA.out, ← HXB.out, e])
      · obtain rfl : k = la.length := by omega
        go_wp2_with fail
        go_ret
        refine ⟨ret_bool ?_, _, rfl⟩
        symm
        apply decide_eq_true
        apply List.ext_getElem HL.out
        intro i h1 h2
        have := HJ.out i h1
        simpa [h1, h2] using this
  · have hl2 : ((la.length : Int) != (lb.length : Int)) = true := by rw [bne_iff_ne]; omega
    go_enter Tryz.func11, Tryz.ntmps11
    have HL := Lib.hid hl
    clear hl
    go_wp2_with fail
    go_ret
    refine ⟨ret_bool ?_, 0, rfl⟩
    symm
    apply decide_eq_false
    intro e
    exact HL.out (by rw [e])
end Go.Proofs.YtbpblokfiajpjabGreat

namespace Go.Proofs.YtbpblokfiajpjabGreat
open Go.RowKit Go.SL Go.Crc
attribute [local go_sem ↓] Go.wp_at_zero Go.wp_at_succ

abbrev ShM := Nat → Option ImgM
def put (F : ShM) (k : Nat) (m : ImgM) : ShM := fun j => if j = k then some m else F j
theorem put_self {F : ShM} {k : Nat} {m : ImgM} (h : F k = some m) : put F k m = F := funext fun j => by unfold put; split <;> simp_all
theorem put_at (F : ShM) (k : Nat) (m : ImgM) : put F k m k = some m := if_pos rfl
theorem put_ne (F : ShM) {k j : Nat} (m : ImgM) (h : j ≠ k) : put F k m j = F j := if_neg h

/-! ### the program's -/
def slotV (A : Nat → Nat × Nat × Nat) (F : ShM) (k : Nat) : Value := match F k with
  | none => .pointer none
  | some _ => .pointer (some ⟨(A k).1, 0, none⟩)
def slotP (A : Nat → Nat × Nat × Nat) (F : ShM) (k : Nat) : HP := match F k with
  | none => emp
  | some m => star [imgAt (A k).1 (A k).2.1 (A k).2.2 m, devAt (A k).2.1 m.d]
def shCells (A : Nat → Nat × Nat × Nat) (F : ShM) : Array Value := #[slotV A F 0, slotV A F 1, slotV A F 2, slotV A F 3, slotV A F 4]
def shL (b : Nat) (A : Nat → Nat × Nat × Nat) (F : ShM) : List SL.HP := [pts b (.cells (shCells A F) 55 (0, 0)), slotP A F 0, slotP A F 1, slotP A F 2, slotP A F 3, slotP A F 4]
theorem shL_get {b : Nat} {A : Nat → Nat × Nat × Nat} {F : ShM} {R : List SL.HP} {k : Nat} (hk : k < 5) : (shL b A F ++ R)[1 + k]? = some (slotP A F k) := by
  rcases k with _ | _ | _ | _ | _ | k
  · rfl
  · rfl
  · rfl
  · rfl
  · rfl
  · omega
theorem slotV_put {A : Nat → Nat × Nat × Nat} {F : ShM} {k : Nat} {m m' : ImgM} (h : F k = some m) (j : Nat) : slotV A (put F k m') j = slotV A F j := by
  unfold slotV put
  by_cases e : j = k
  · subst e; rw [if_pos rfl, h]
  · rw [if_neg e]
theorem shL_put {b : Nat} {A : Nat → Nat × Nat × Nat} {F : ShM} {R : List SL.HP} {k : Nat} (hk : k < 5) {m m' : ImgM} (h : F k = some m) :
    (shL b A F ++ R).set (1 + k) (star [imgAt (A k).1 (A k).2.1 (A k).2.2 m', devAt (A k).2.1 m'.d]) = shL b A (put F k m') ++ R := by
  have hc : shCells A (put F k m') = shCells A F := by unfold shCells; simp only [slotV_put h]
  have hs : ∀ j, j ≠ k → slotP A (put F k m') j = slotP A F j := fun j hj => by unfold slotP; rw [put_ne F m' hj]
  have hk' : slotP A (put F k m') k = star [imgAt (A k).1 (A k).2.1 (A k).2.2 m', devAt (A k).2.1 m'.d] := by unfold slotP; rw [put_at]
  rcases k with _ | _ | _ | _ | _ | k
  case succ.succ.succ.succ.succ => omega
  all_goals
    unfold shL
    rw [hc, ← hk']
    simp [hs]
theorem sh_take {b : Nat} {A : Nat → Nat × Nat × Nat} {F : ShM} {R : List SL.HP} {w : World} {k : Nat} (hk : k < 5) {m : ImgM} (h : F k = some m) (H : own w (shL b A F ++ R)) :
    own w (imgAt (A k).1 (A k).2.1 (A k).2.2 m :: devAt (A k).2.1 m.d :: (shL b A F ++ R).eraseIdx (1 + k)) := by
  have h1 := own_pick (1 + k) H (shL_get hk)
  have hs : slotP A F k = star [imgAt (A k).1 (A k).2.1 (A k).2.2 m, devAt (A k).2.1 m.d] := by unfold slotP; rw [h]
  rw [hs] at h1
  exact own_star h1
theorem sh_put {b : Nat} {A : Nat → Nat × Nat × Nat} {F : ShM} {R : List SL.HP} {w w0 : World} {k : Nat} (hk : k < 5) {m m' : ImgM} (h : F k = some m) (H0 : own w0 (shL b A F ++ R))
    (H : own w (imgAt (A k).1 (A k).2.1 (A k).2.2 m' :: devAt (A k).2.1 m'.d :: (shL b A F ++ R).eraseIdx (1 + k))) : own w (shL b A (put F k m') ++ R) := by
  have h1 := own_star_mk [imgAt (A k).1 (A k).2.1 (A k).2.2 m', devAt (A k).2.1 m'.d] H
  have h2 := own_put H0 (1 + k) (shL_get hk) h1
  rwa [shL_put hk h] at h2
theorem sh_cell {b : Nat} {A : Nat → Nat × Nat × Nat} {F : ShM} {R : List SL.HP} {w : World} (H : own w (shL b A F ++ R)) {k : Nat} (hk : k < 5) : w.cell? ⟨b, k, none⟩ = some (slotV A F k) := by
  rw [(own_cells (l := shL b A F ++ R) (b := b) (arr := shCells A F) (T := 55) 0 H rfl).1]
  rcases k with _ | _ | _ | _ | _ | k
  · rfl
  · rfl
  · rfl
  · rfl
  · rfl
  · omega
theorem slotV_some {A : Nat → Nat × Nat × Nat} {F : ShM} {k : Nat} {m : ImgM} (h : F k = some m) : slotV A F k = .pointer (some ⟨(A k).1, 0, none⟩) := by unfold slotV; rw [h]
theorem slotV_none {A : Nat → Nat × Nat × Nat} {F : ShM} {k : Nat} (h : F k = none) : slotV A F k = .pointer none := by unfold slotV; rw [h]

/-! ### the document's -/
def rslotV (A : Nat → Nat × Nat) (F : ShM) (k : Nat) : Value := match F k with
  | none => .pointer none
  | some _ => .pointer (some ⟨(A k).1, 0, none⟩)
def rslotP (A : Nat → Nat × Nat) (F : ShM) (k : Nat) : HP := match F k with
  | none => emp
  | some m => star [rimgAt (A k).1 (A k).2 m, rdevAt (A k).2 m.d]
def rshCells (A : Nat → Nat × Nat) (F : ShM) : Array Value := #[rslotV A F 0, rslotV A F 1, rslotV A F 2, rslotV A F 3, rslotV A F 4]
def rshL (b : Nat) (A : Nat → Nat × Nat) (F : ShM) : List SL.HP := [pts b (.cells (rshCells A F) 58 (0, 0)), rslotP A F 0, rslotP A F 1, rslotP A F 2, rslotP A F 3, rslotP A F 4]
theorem rshL_get {b : Nat} {A : Nat → Nat × Nat} {F : ShM} {R : List SL.HP} {k : Nat} (hk : k < 5) : (rshL b A F ++ R)[1 + k]? = some (rslotP A F k) := by
  rcases k with _ | _ | _ | _ | _ | k
  · rfl
  · rfl
  · rfl
  · rfl
  · rfl
  · omega
theorem rslotV_put {A : Nat → Nat × Nat} {F : ShM} {k : Nat} {m m' : ImgM} (h : F k = some m) (j : Nat) : rslotV A (put F k m') j = rslotV A F j := by
  unfold rslotV put
  by_cases e : j = k
  · subst e; rw [if_pos rfl, h]
  · rw [if_neg e]
theorem rshL_put {b : Nat} {A : Nat → Nat × Nat} {F : ShM} {R : List SL.HP} {k : Nat} (hk : k < 5) {m m' : ImgM} (h : F k = some m) :
    (rshL b A F ++ R).set (1 + k) (star [rimgAt (A k).1 (A k).2 m', rdevAt (A k).2 m'.d]) = rshL b A (put F k m') ++ R := by
  have hc : rshCells A (put F k m') = rshCells A F := by unfold rshCells; simp only [rslotV_put h]
  have hs : ∀ j, j ≠ k → rslotP A (put F k m') j = rslotP A F j := fun j hj => by unfold rslotP; rw [put_ne F m' hj]
  have hk' : rslotP A (put F k m') k = star [rimgAt (A k).1 (A k).2 m', rdevAt (A k).2 m'.d] := by unfold rslotP; rw [put_at]
  rcases k with _ | _ | _ | _ | _ | k
  case succ.succ.succ.succ.succ => omega
  all_goals
    unfold rshL
    rw [hc, ← hk']
    simp [hs]
theorem rsh_take {b : Nat} {A : Nat → Nat × Nat} {F : ShM} {R : List SL.HP} {w : World} {k : Nat} (hk : k < 5) {m : ImgM} (h : F k = some m) (H : own w (rshL b A F ++ R)) :
    own w (rimgAt (A k).1 (A k).2 m :: rdevAt (A k).2 m.d :: (rshL b A F ++ R).eraseIdx (1 + k)) := by
  have h1 := own_pick (1 + k) H (rshL_get hk)
  have hs : rslotP A F k = star [rimgAt (A k).1 (A k).2 m, rdevAt (A k).2 m.d] := by unfold rslotP; rw [h]
  rw [hs] at h1
  exact own_star h1
theorem rsh_put {b : Nat} {A : Nat → Nat × Nat} {F : ShM} {R : List SL.HP} {w w0 : World} {k : Nat} (hk : k < 5) {m m' : ImgM} (h : F k = some m) (H0 : own w0 (rshL b A F ++ R))
    (H : own w (rimgAt (A k).1 (A k).2 m' :: rdevAt (A k).2 m'.d :: (rshL b A F ++ R).eraseIdx (1 + k))) : own w (rshL b A (put F k m') ++ R) := by
  have h1 := own_star_mk [rimgAt (A k).1 (A k).2 m', rdevAt (A k).2 m'.d] H
  have h2 := own_put H0 (1 + k) (rshL_get hk) h1
  rwa [rshL_put hk h] at h2
theorem rsh_cell {b : Nat} {A : Nat → Nat × Nat} {F : ShM} {R : List SL.HP} {w : World} (H : own w (rshL b A F ++ R)) {k : Nat} (hk : k < 5) : w.cell? ⟨b, k, none⟩ = some (rslotV A F k) := by
  rw [(own_cells (l := rshL b A F ++ R) (b := b) (arr := rshCells A F) (T := 58) 0 H rfl).1]
  rcases k with _ | _ | _ | _ | _ | k
  · rfl
  · rfl
  · rfl
  · rfl
  · rfl
  · omega
theorem rslotV_some {A : Nat → Nat × Nat} {F : ShM} {k : Nat} {m : ImgM} (h : F k = some m) : rslotV A F k = .pointer (some ⟨(A k).1, 0, none⟩) := by unfold rslotV; rw [h]
theorem rslotV_none {A : Nat → Nat × Nat} {F : ShM} {k : Nat} (h : F k = none) : rslotV A F k = .pointer none := by unfold rslotV; rw [h]
/-- a file's cells, seen -/
theorem rsh_img {b : Nat} {A : Nat → Nat × Nat} {F : ShM} {R : List SL.HP} {w : World} {k : Nat} (hk : k < 5) {m : ImgM} (h : F k = some m) (H : own w (rshL b A F ++ R)) :
    ∃ vt vh, w.cell? ⟨(A k).1, 0, none⟩ = some (.pointer (some ⟨(A k).2, 0, none⟩)) ∧ w.cell? ⟨(A k).1, 1, none⟩ = some (.int .i64 m.c) ∧ w.cell? ⟨(A k).1, 2, none⟩ = some (.int .i64 m.p) ∧ w.cell? ⟨(A k).1, 3, none⟩ = some (.int .i64 m.b) ∧ w.cell? ⟨(A k).1, 4, none⟩ = some vt ∧ w.cell? ⟨(A k).1, 5, none⟩ = some vh ∧ entsAt w vt m.t := by
  obtain ⟨vt, vh, h1⟩ := rimg_open (rsh_take hk h H)
  have c := (own_cells 0 h1 rfl).1
  exact ⟨vt, vh, c 0, c 1, c 2, c 3, c 4, c 5, ents_row 1 h1 rfl⟩

/-! ### the way down -/
structure ShOk (F : ShM) : Prop where
  ok : ∀ k m, k < 5 → F k = some m → m.Ok
  wr : ∀ k m, k < 5 → F k = some m → m.d.writes < 900000
  pend : ∀ k m, k < 5 → F k = some m → m.d.pend.length < 900000
def clus (F : ShM) (root : Int) : Int := match F root.toNat with
  | some m => m.c
  | none => 0
def walkGo (F : ShM) (root : Int) : Nat → List Int → Int → List Int × Int
  | 0, l, _ => (l, 0)
  | n + 1, l, at_ => if at_ = -1 then (l, 0) else if at_ < 0 ∨ 5 ≤ at_ then ([], 4) else match F at_.toNat with
    | none => ([], 4)
    | some m => if l.length = 5 then ([], 10) else if m.c ≠ clus F root then ([], 2) else walkGo F root n (l ++ [at_]) m.b
def walkM (F : ShM) (root : Int) : List Int × Int := walkGo F root 6 [] root
/-- a file that there is -/
def isFile (F : ShM) (x : Int) : Prop := 0 ≤ x ∧ x < 5 ∧ ∃ m, F x.toNat = some m
theorem walkGo_files {F : ShM} {root : Int} : ∀ {n : Nat} {l : List Int} {at_ : Int}, (∀ x ∈ l, isFile F x) → ∀ x ∈ (walkGo F root n l at_).1, isFile F x := by
  intro n
  induction n with
  | zero => intro l at_ h; exact h
  | succ n ih =>
    intro l at_ h
    rw [walkGo]
    split
    · exact h
    · split
      · intro x hx; cases hx
      · rename_i h1
        split
        · intro x hx; cases hx
        · rename_i m hm
          split
          · intro x hx; cases hx
          · split
            · intro x hx; cases hx
            · refine ih fun x hx => ?_
              rcases List.mem_append.1 hx with hx | hx
              · exact h x hx
              · rw [List.mem_singleton.1 hx]; exact ⟨by omega, by omega, m, hm⟩
theorem walk_files (F : ShM) (root : Int) : ∀ x ∈ (walkM F root).1, isFile F x := walkGo_files fun x hx => by cases hx
theorem walkGo_code {F : ShM} {root : Int} : ∀ {n : Nat} {l : List Int} {at_ : Int}, 0 ≤ (walkGo F root n l at_).2 := by
  intro n
  induction n with
  | zero => intro l at_; simp [walkGo]
  | succ n ih =>
    intro l at_
    rw [walkGo]
    split
    · simp
    · split
      · simp
      · split
        · simp
        · split
          · simp
          · split
            · simp
            · exact ih
theorem walkGo_len {F : ShM} {root : Int} : ∀ {n : Nat} {l : List Int} {at_ : Int}, l.length ≤ 5 → (walkGo F root n l at_).1.length ≤ 5 := by
  intro n
  induction n with
  | zero => intro l at_ h; exact h
  | succ n ih =>
    intro l at_ h
    rw [walkGo]
    split
    · exact h
    · split
      · simp
      · split
        · simp
        · split
          · simp
          · split
            · simp
            · exact ih (by simp; omega)
def intVals (l : List Int) : List Value := l.map (Value.int .i64)
theorem intVals_get {l : List Int} {i : Nat} (h : i < l.length) : (intVals l)[i]? = some (.int .i64 (l.getD i 0)) := by simp [intVals, h]
theorem ints_row {w : World} {L : List HP} (k : Nat) {v : Value} {l : List Int} (H : own w L) (hk : L[k]? = some (row 3 1 v l.length (intVals l))) : IntsAt w v l := by
  obtain ⟨ao, g, cap, rfl, h1, h2, h3, -, -, h6, -⟩ := own_row_form k H hk
  refine ⟨ao, g, 0, cap, rfl, h1, by simp only [maxLen] at h2; omega, h3, fun i hi => ?_⟩
  dsimp only
  rw [Nat.zero_add]
  exact h6 _ _ (intVals_get hi)
def sliceN : Value → Nat
  | .slice _ n _ => n
  | _ => 0
def WalkPost (val : Int → Value) (res : List Int × Int) (L : List SL.HP) (w : World) (e : Ending) (w' : World) : Prop :=
  ∃ v, e = .returned (.tuple #[v, val res.2]) ∧ Ext w w' ∧ own w' (row 3 1 v res.1.length (intVals res.1) :: L)
def walkInv (F : ShM) (root : Int) (res : List Int × Int) (L : List SL.HP) (w0 : World) (v i : Value) (wr : World) : Prop :=
  ∃ (n : Nat) (l : List Int) (at_ : Int), n + l.length = 6 ∧ l.length ≤ 5 ∧ i = .int .i64 at_ ∧ ((l = [] ∧ at_ = root) ∨ (isFile F root ∧ -1 ≤ at_ ∧ at_ ≤ 4)) ∧ walkGo F root n l at_ = res ∧ Ext w0 wr ∧ own wr (row 3 1 v l.length (intVals l) :: L)

set_option maxRecDepth 100000 in
set_option maxHeartbeats 1000000 in
theorem shead_any {b : Nat} {A : Nat → Nat × Nat × Nat} {F : ShM} {k : Nat} (hk : k < 5) {m : ImgM} (h : F k = some m) (R : List SL.HP) (w : World) (H : own w (shL b A F ++ R)) :
    Calls Tryz.prog 24 #[.pointer (some ⟨(A k).1, 0, none⟩)] w fun e w' => e = .returned (headV m.c m.p m.b) ∧ Ext w w' ∧ own w' (shL b A F ++ R) :=
  (imghead_any _ _ _ m _ w (sh_take hk h H)).mono fun e w' ⟨h1, h2, h3⟩ => ⟨h1, h2, by have := sh_put hk h H h3; rwa [put_self h] at this⟩
end Go.Proofs.YtbpblokfiajpjabGreat

namespace Go.Proofs.YtbpblokfiajpjabGreat
open Go.RowKit Go.SL Go.Crc
attribute [local go_sem ↓] Go.wp_at_zero Go.wp_at_succ

theorem intVals_append (l m : List Int) : intVals (l ++ m) = intVals l ++ intVals m := by simp [intVals]
theorem clus_of {F : ShM} {r : Nat} {m : ImgM} (h : F r = some m) : clus F (r : Int) = m.c := by unfold clus; rw [Int.toNat_natCast, h]

theorem head_f0 (c p b : Int) (w : World) : (Instr.field 47 (.agg #[.int .i64 c, .int .i64 p, .int .i64 b]) 0).run Tryz.prog w = .ok (.int .i64 c) w := by kernel_rfl
theorem head_f2 (c p b : Int) (w : World) : (Instr.field 47 (.agg #[.int .i64 c, .int .i64 p, .int .i64 b]) 2).run Tryz.prog w = .ok (.int .i64 b) w := by kernel_rfl

set_option maxRecDepth 100000 in
set_option maxHeartbeats 8000000 in
theorem walk_any (b : Nat) (A : Nat → Nat × Nat × Nat) (F : ShM) (hF : ShOk F) (root : Int) (R : List SL.HP) (w : World) (H : own w (shL b A F ++ R)) :
    Calls Tryz.prog 8 #[.pointer (some ⟨b, 0, none⟩), .int .i64 root] w (WalkPost errV (walkM F root) (shL b A F ++ R) w) := by
  generalize hres : walkM F root = res
  have HRES := Lib.hid hres
  clear hres
  go_enter Tryz.func8, Tryz.ntmps8
  go_wp2_with fail
  go_loopw [6, 7] (walkInv F root res (shL b A F ++ R) w) (fun v _ _ => 6 - sliceN v)
  case atStart => exact ⟨6, [], root, rfl, by simp, rfl, .inl ⟨rfl, rfl⟩, HRES.out, Ext.refl _, own_row_nil _ _ H⟩
  case round =>
    obtain ⟨n, l, at_, hn, hl, rfl, hor, hgo, hxr, hown⟩ := hrel
    obtain ⟨n, rfl⟩ : ∃ k, n = k + 1 := ⟨n - 1, by omega⟩
    rw [walkGo] at hgo
    have hsh : own wr (shL b A F ++ R) := own_drop hown
    by_cases h1 : at_ = -1
    · rw [if_pos h1] at hgo
      subst h1
      subst hgo
      go_wp2_with fail
      go_ret2
      exact ⟨_, rfl, hxr, hown⟩
    · rw [if_neg h1] at hgo
      by_cases h2 : at_ < 0 ∨ 5 ≤ at_
      · rw [if_pos h2] at hgo
        subst hgo
        have t1 : (at_ != -1) = true := bne_iff_ne.2 h1
        by_cases h3 : at_ < 0
        · clear h1 h2
          go_wp2_with fail
          go_ret2
          exact ⟨_, rfl, hxr, own_row_nil _ _ hsh⟩
        · have h4 : 5 ≤ at_ := by omega
          clear h1 h2
          go_wp2_with fail
          go_ret2
          exact ⟨_, rfl, hxr, own_row_nil _ _ hsh⟩
      · rw [if_neg h2] at hgo
        obtain ⟨k, rfl⟩ := Int.eq_ofNat_of_zero_le (show 0 ≤ at_ by omega)
        have hk : k < 5 := by omega
        have i1 : (0 : Int) ≤ (k : Int) := by omega
        have i2 : (k : Int) < 5 := by omega
        have t1 : ((k : Int) != -1) = true := bne_iff_ne.2 h1
        rw [Int.toNat_natCast] at hgo
        have cell := sh_cell hsh hk
        clear h1 h2
        cases hFk : F k with
        | none =>
          rw [hFk] at hgo
          rw [slotV_none hFk] at cell
          have hgo' : res = ([], 4) := hgo.symm
          subst hgo'
          clear hgo
          go_wp2_with fail
          go_ret2
          exact ⟨_, rfl, hxr, own_row_nil _ _ hsh⟩
        | some m =>
          rw [hFk] at hgo
          dsimp only at hgo
          rw [slotV_some hFk] at cell
          obtain ⟨ao, g, cap, rfl, r1, r2, r3, -, -, -, -⟩ := own_row_form 0 hown rfl
          by_cases h5 : l.length = 5
          · rw [if_pos h5] at hgo
            have hgo' : res = ([], 10) := hgo.symm
            subst hgo'
            have t5 : ((l.length : Int) == 5) = true := by simp [h5]
            have H5 := Lib.hid h5
            clear hgo h5
            go_wp2_with fail
            go_ret2
            exact ⟨_, rfl, hxr, own_row_nil _ _ hsh⟩
          · rw [if_neg h5] at hgo
            have t5 : ((l.length : Int) == 5) = false := by
              rw [beq_eq_false_iff_ne]; omega
            have hroot : isFile F root := by
              rcases hor with ⟨-, h⟩ | ⟨h, -⟩
              · rw [← h]; exact ⟨by omega, by omega, m, by rw [Int.toNat_natCast]; exact hFk⟩
              · exact h
            have HFILE := Lib.hid hroot
            obtain ⟨q1, q2, mr, hmr⟩ := hroot
            obtain ⟨r, rfl⟩ := Int.eq_ofNat_of_zero_le q1
            rw [Int.toNat_natCast] at hmr
            have hr : r < 5 := by omega
            have cellr := sh_cell hsh hr
            rw [slotV_some hmr] at cellr
            rw [clus_of hmr] at hgo
            have HGO := Lib.hid hgo
            have HFK := Lib.hid hFk
            have HMR := Lib.hid hmr
            have HH1 := Lib.hid (fun (R' : List SL.HP) (w : World) (H : own w (shL b A F ++ R')) => shead_any hk hFk R' w H)
            have HH2 := Lib.hid (fun (R' : List SL.HP) (w : World) (H : own w (shL b A F ++ R')) => shead_any hr hmr R' w H)
            unfold headV at HH1 HH2
            obtain ⟨C, -, -, -, -, -, -, -, b1, b2⟩ := (hF.ok k m hk hFk).nat
            have hl4 : l.length ≤ 4 := by omega
            clear hor hgo hFk hmr h5 hl r3
            have f1 := head_f0 m.c m.p m.b
            have f2 := head_f0 mr.c mr.p mr.b
            have f3 := head_f2 m.c m.p m.b
            by_cases hcc : m.c = mr.c
            · have t6 : (m.c != mr.c) = false := by simp [hcc]
              have HGO2 := HGO.out
              rw [if_neg (by simpa using hcc)] at HGO2
              have HGO3 := Lib.hid HGO2
              clear hcc HGO2 HGO
              go_upto_region 8 with (fail)
              clear cell cellr
              have hz : own wr.drew (shL b A F ++ (row 3 1 (.slice ao l.length cap) l.length (intVals l) :: R)) := own_drew (own_behind (shL b A F) hown)
              have hxz := hxr.drew
              clear hown hxr hsh
              go_region_held3 (fun w' => w'.cell? ⟨b, k, none⟩ = some (.pointer (some ⟨(A k).1, 0, none⟩)) ∧ w'.cell? ⟨b, r, none⟩ = some (.pointer (some ⟨(A r).1, 0, none⟩))) (exact ⟨by rw [sh_cell hz hk, slotV_some HFK.out], by rw [sh_cell hz hr, slotV_some HMR.out]⟩) (first | (go_at_call 24; refine (HH1.out _ _ hz).mono ?_; rintro e w5 ⟨rfl, hx5, hz'⟩; have hxz := hxz.trans hx5; have hz := hz') | (go_at_call 24; refine (HH2.out _ _ hz).mono ?_; rintro e w6 ⟨rfl, hx6, hz'⟩; have hxz := hxz.trans hx6; have hz := hz'))
              all_goals
                have hz2 : own _ (row 3 1 (.slice ao l.length cap) l.length (intVals l) :: (shL b A F ++ R)) := own_pick 6 hz rfl
                have hm5 : l.length + 1 ≤ maxLen := by simp only [maxLen]; omega
                have ha2 := own_alloc hz2 (.cells #[.int .i64 (k : Int)] 3)
                go_wp2_with (first | (at_builtin; refine wpList_append_row rfl _ _ 31 rfl 1 3 Tryz.underlying31 elem_int rfl (by decide) rfl ha2 rfl (some ⟨_, 0, none⟩) 1 1 [.int .i64 (k : Int)] rfl rfl (alloc_news _ [.int .i64 (k : Int)] _) (fun h => by cases h) (one_int _) hm5 (by omega) ?_))
                intro v' w7 h7' hx7
                obtain ⟨ao', g', cap', rfl, -, -, -, -, -, -, -⟩ := own_row_form 1 h7' rfl
                have h7 : own w7 (shL b A F ++ (row 3 1 (.slice ao' (l.length + 1) cap') (l.length + 1) (intVals l ++ [.int .i64 (k : Int)]) :: R)) := own_behind (shL b A F) (own_drop h7')
                have hx8 := (hxz.alloc (.cells #[.int .i64 (k : Int)] 3)).trans hx7
                have cell := sh_cell h7 hk
                rw [slotV_some HFK.out] at cell
                clear hz hxz hz2 ha2 h7' hx7
                go_wp2_with fail
                refine (HH1.out _ w7 h7).mono ?_
                rintro e w8 ⟨rfl, hx9, h8⟩
                clear cell
                go_wp2_with fail
                go_roundw
                case rel => exact ⟨n, l ++ [(k : Int)], m.b, by simp; omega, by simp; omega, rfl, .inr ⟨HFILE.out, by omega, by omega⟩, HGO3.out, hx8.trans hx9, by rw [intVals_append, List.length_append]; exact own_pick 6 h8 rfl⟩
                case measure => simp [sliceN]; omega
            · have t6 : (m.c != mr.c) = true := by simpa using hcc
              have hgo' : res = ([], 2) := by have := HGO.out; rw [if_pos (by simpa using hcc)] at this; exact this.symm
              clear HGO hcc
              subst hgo'
              go_upto_region 8 with (fail)
              clear cell cellr
              have hz : own wr.drew (shL b A F ++ (row 3 1 (.slice ao l.length cap) l.length (intVals l) :: R)) := own_drew (own_behind (shL b A F) hown)
              have hxz := hxr.drew
              clear hown hxr hsh
              go_region_held3 (fun w' => w'.cell? ⟨b, k, none⟩ = some (.pointer (some ⟨(A k).1, 0, none⟩)) ∧ w'.cell? ⟨b, r, none⟩ = some (.pointer (some ⟨(A r).1, 0, none⟩))) (exact ⟨by rw [sh_cell hz hk, slotV_some HFK.out], by rw [sh_cell hz hr, slotV_some HMR.out]⟩) (first | (go_at_call 24; refine (HH1.out _ _ hz).mono ?_; rintro e w5 ⟨rfl, hx5, hz'⟩; have hxz := hxz.trans hx5; have hz := hz') | (go_at_call 24; refine (HH2.out _ _ hz).mono ?_; rintro e w6 ⟨rfl, hx6, hz'⟩; have hxz := hxz.trans hx6; have hz := hz'))
              all_goals
                go_wp2_with fail
                go_ret2
                exact ⟨_, rfl, hxz, own_row_nil _ _ (own_erase 6 hz rfl)⟩

set_option maxRecDepth 100000 in
set_option maxHeartbeats 8000000 in
theorem rwalk_any (b : Nat) (A : Nat → Nat × Nat) (F : ShM) (hF : ShOk F) (root : Int) (R : List SL.HP) (w : World) (H : own w (rshL b A F ++ R)) :
    Calls Tryz.prog 9 #[.pointer (some ⟨b, 0, none⟩), .int .i64 root] w (WalkPost (Value.int .i64) (walkM F root) (rshL b A F ++ R) w) := by
  generalize hres : walkM F root = res
  have HRES := Lib.hid hres
  clear hres
  go_enter Tryz.func9, Tryz.ntmps9
  go_wp2_with fail
  go_loopw [6, 7] (walkInv F root res (rshL b A F ++ R) w) (fun v _ _ => 6 - sliceN v)
  case atStart => exact ⟨6, [], root, rfl, by simp, rfl, .inl ⟨rfl, rfl⟩, HRES.out, Ext.refl _, own_row_nil _ _ H⟩
  case round =>
    obtain ⟨n, l, at_, hn, hl, rfl, hor, hgo, hxr, hown⟩ := hrel
    obtain ⟨n, rfl⟩ : ∃ k, n = k + 1 := ⟨n - 1, by omega⟩
    rw [walkGo] at hgo
    have hsh : own wr (rshL b A F ++ R) := own_drop hown
    by_cases h1 : at_ = -1
    · rw [if_pos h1] at hgo
      subst h1
      subst hgo
      go_wp2_with fail
      go_ret2
      exact ⟨_, rfl, hxr, hown⟩
    · rw [if_neg h1] at hgo
      by_cases h2 : at_ < 0 ∨ 5 ≤ at_
      · rw [if_pos h2] at hgo
        subst hgo
        have t1 : (at_ != -1) = true := bne_iff_ne.2 h1
        by_cases h3 : at_ < 0
        · clear h1 h2
          go_wp2_with fail
          go_ret2
          exact ⟨_, rfl, hxr, own_row_nil _ _ hsh⟩
        · have h4 : 5 ≤ at_ := by omega
          clear h1 h2
          go_wp2_with fail
          go_ret2
          exact ⟨_, rfl, hxr, own_row_nil _ _ hsh⟩
      · rw [if_neg h2] at hgo
        obtain ⟨k, rfl⟩ := Int.eq_ofNat_of_zero_le (show 0 ≤ at_ by omega)
        have hk : k < 5 := by omega
        have i1 : (0 : Int) ≤ (k : Int) := by omega
        have i2 : (k : Int) < 5 := by omega
        have t1 : ((k : Int) != -1) = true := bne_iff_ne.2 h1
        rw [Int.toNat_natCast] at hgo
        have cell := rsh_cell hsh hk
        clear h1 h2
        cases hFk : F k with
        | none =>
          rw [hFk] at hgo
          rw [rslotV_none hFk] at cell
          have hgo' : res = ([], 4) := hgo.symm
          subst hgo'
          clear hgo
          go_wp2_with fail
          go_ret2
          exact ⟨_, rfl, hxr, own_row_nil _ _ hsh⟩
        | some m =>
          rw [hFk] at hgo
          dsimp only at hgo
          rw [rslotV_some hFk] at cell
          obtain ⟨ao, g, cap, rfl, r1, r2, r3, -, -, -, -⟩ := own_row_form 0 hown rfl
          by_cases h5 : l.length = 5
          · rw [if_pos h5] at hgo
            have hgo' : res = ([], 10) := hgo.symm
            subst hgo'
            have t5 : ((l.length : Int) == 5) = true := by simp [h5]
            have H5 := Lib.hid h5
            clear hgo h5
            go_wp2_with fail
            go_ret2
            exact ⟨_, rfl, hxr, own_row_nil _ _ hsh⟩
          · rw [if_neg h5] at hgo
            have t5 : ((l.length : Int) == 5) = false := by
              rw [beq_eq_false_iff_ne]; omega
            have hroot : isFile F root := by
              rcases hor with ⟨-, h⟩ | ⟨h, -⟩
              · rw [← h]; exact ⟨by omega, by omega, m, by rw [Int.toNat_natCast]; exact hFk⟩
              · exact h
            have HFILE := Lib.hid hroot
            obtain ⟨q1, q2, mr, hmr⟩ := hroot
            obtain ⟨r, rfl⟩ := Int.eq_ofNat_of_zero_le q1
            rw [Int.toNat_natCast] at hmr
            have hr : r < 5 := by omega
            have j1 : (0 : Int) ≤ (r : Int) := by omega
            have j2 : (r : Int) < 5 := by omega
            have cellr := rsh_cell hsh hr
            rw [rslotV_some hmr] at cellr
            rw [clus_of hmr] at hgo
            obtain ⟨vt1, vh1, -, x1, -, x3, -, -, -⟩ := rsh_img hk hFk hsh
            obtain ⟨vt2, vh2, -, y1, -, -, -, -, -⟩ := rsh_img hr hmr hsh
            have HGO := Lib.hid hgo
            have HFK := Lib.hid hFk
            obtain ⟨C, -, -, -, -, -, -, -, b1, b2⟩ := (hF.ok k m hk hFk).nat
            have hl4 : l.length ≤ 4 := by omega
            clear hor hgo hmr h5 hl r3 hFk
            by_cases hcc : m.c = mr.c
            · have t6 : (m.c != mr.c) = false := by simp [hcc]
              have HGO2 := HGO.out
              rw [if_neg (by simpa using hcc)] at HGO2
              have HGO3 := Lib.hid HGO2
              clear hcc HGO HGO2
              go_upto_region 8 with (fail)
              go_quiet (fail)
              have hz2 := own_drewN nq hown
              have hxz := hxr.drewN nq
              clear hown hxr hsh cell cellr x1 x3 y1
              generalize wr.drewN nq = w2 at *
              have hm5 : l.length + 1 ≤ maxLen := by simp only [maxLen]; omega
              have ha2 := own_alloc hz2 (.cells #[.int .i64 (k : Int)] 3)
              go_wp2_with (first | (at_builtin; refine wpList_append_row rfl _ _ 31 rfl 1 3 Tryz.underlying31 elem_int rfl (by decide) rfl ha2 rfl (some ⟨_, 0, none⟩) 1 1 [.int .i64 (k : Int)] rfl rfl (alloc_news _ [.int .i64 (k : Int)] _) (fun h => by cases h) (one_int _) hm5 (by omega) ?_))
              intro v' w7 h7' hx7
              obtain ⟨ao', g', cap', rfl, -, -, -, -, -, -, -⟩ := own_row_form 1 h7' rfl
              have h7 : own w7 (rshL b A F ++ (row 3 1 (.slice ao' (l.length + 1) cap') (l.length + 1) (intVals l ++ [.int .i64 (k : Int)]) :: R)) := own_behind (rshL b A F) (own_drop h7')
              have hx8 := (hxz.alloc (.cells #[.int .i64 (k : Int)] 3)).trans hx7
              have cell := rsh_cell h7 hk
              rw [rslotV_some HFK.out] at cell
              obtain ⟨vt1, vh1, -, -, -, x3, -, -, -⟩ := rsh_img hk HFK.out h7
              clear hz2 hxz ha2 h7' hx7
              go_wp2_with fail
              go_roundw
              case rel => exact ⟨n, l ++ [(k : Int)], m.b, by simp; omega, by simp; omega, rfl, .inr ⟨HFILE.out, by omega, by omega⟩, HGO3.out, hx8, by rw [intVals_append, List.length_append]; exact own_pick 6 h7 rfl⟩
              case measure => simp [sliceN]; omega
            · have t6 : (m.c != mr.c) = true := by simpa using hcc
              have hgo' : res = ([], 2) := by have := HGO.out; rw [if_pos (by simpa using hcc)] at this; exact this.symm
              clear HGO hcc
              subst hgo'
              go_upto_region 8 with (fail)
              go_quiet (fail)
              go_wp2_with fail
              go_ret2
              exact ⟨_, rfl, hxr.drewN nq, own_row_nil _ _ (own_drewN nq hsh)⟩
end Go.Proofs.YtbpblokfiajpjabGreat

namespace Go.Proofs.YtbpblokfiajpjabGreat
open Go.RowKit Go.SL Go.Crc
attribute [local go_sem ↓] Go.wp_at_zero Go.wp_at_succ

def hasC (F : ShM) (x c : Int) : Bool := match F x.toNat with
  | some m => m.there c && decide (m.kind c ≠ 0)
  | none => false
def foundGo (F : ShM) (c : Int) : Nat → List Int → Int
  | _, [] => -1
  | i, x :: l => if hasC F x c = true then (i : Int) else foundGo F c (i + 1) l
def foundM (F : ShM) (l : List Int) (c : Int) : Int := foundGo F c 0 l
theorem foundGo_range {F : ShM} {c : Int} : ∀ {l : List Int} {i : Nat}, foundGo F c i l = -1 ∨ ((i : Int) ≤ foundGo F c i l ∧ foundGo F c i l < (i : Int) + l.length) := by
  intro l
  induction l with
  | nil => intro i; exact .inl rfl
  | cons x l ih =>
    intro i
    rw [foundGo]
    split
    · right; simp only [List.length_cons]; omega
    · rcases ih (i := i + 1) with h | h
      · exact .inl h
      · right; simp only [List.length_cons]; omega
theorem foundM_range (F : ShM) (l : List Int) (c : Int) : foundM F l c = -1 ∨ (0 ≤ foundM F l c ∧ foundM F l c < l.length) := by
  have := foundGo_range (F := F) (c := c) (l := l) (i := 0)
  unfold foundM
  omega
theorem hasC_of {F : ShM} {k : Nat} {m : ImgM} (h : F k = some m) (c : Int) : hasC F (k : Int) c = (m.there c && decide (m.kind c ≠ 0)) := by unfold hasC; rw [Int.toNat_natCast, h]
theorem isFile_nat {F : ShM} {x : Int} (h : isFile F x) : ∃ (k : Nat) (m : ImgM), x = k ∧ k < 5 ∧ F k = some m := by
  obtain ⟨h0, h1, m, hm⟩ := h
  exact ⟨x.toNat, m, by omega, by omega, hm⟩
theorem kind_range {m : ImgM} (hm : m.Ok) {c : Int} (ht : m.there c = true) : 0 ≤ m.kind c ∧ m.kind c ≤ 2 := by
  obtain ⟨k0, -, hkl⟩ := there_range hm ht
  have := entOk_range (hm.ents _ (ent_mem hkl))
  unfold ImgM.kind
  omega

set_option maxRecDepth 100000 in
set_option maxHeartbeats 4000000 in
theorem found_any (b : Nat) (A : Nat → Nat × Nat × Nat) (F : ShM) (hF : ShOk F) (v : Value) (l : List Int) (hl : ∀ x ∈ l, isFile F x) (hl5 : l.length ≤ 5) (c : Int) (R : List SL.HP) (w : World) (hv : IntsAt w v l) (H : own w (shL b A F ++ R)) :
    Calls Tryz.prog 34 #[.pointer (some ⟨b, 0, none⟩), v, .int .i64 c] w fun e w' => e = .returned (.int .i64 (foundM F l c)) ∧ w = w' := by
  obtain ⟨ao, lb, off, cap, rfl, hlc, hcap, hao, hat⟩ := hv.form
  generalize hres : foundM F l c = res
  unfold foundM at hres
  have HRES := Lib.hid hres
  have HAO := Lib.hid hao
  have HAT := Lib.hid hat
  have HL := Lib.hid hl
  have HOW := Lib.hid H
  clear hres hao hat hl hv
  go_enter Tryz.func34, Tryz.ntmps34
  go_wp2_with fail
  go_loop [13] (fun i => ∃ q : Nat, q ≤ l.length ∧ i = .int .i64 q ∧ foundGo F c q (l.drop q) = res) (fun i => l.length - (intOf i).toNat)
  case atStart => exact ⟨0, Nat.zero_le _, rfl, HRES.out⟩
  case round =>
    obtain ⟨q, hq, rfl, hgo⟩ := hrel
    by_cases hlt : q < l.length
    · obtain rfl := HAO.out (by omega)
      have c1 := HAT.out q hlt
      rw [drop_getD 0 hlt, foundGo] at hgo
      obtain ⟨k, m, hxk, hk, hFk⟩ := isFile_nat (HL.out (l.getD q 0) (by simp [hlt]))
      rw [hxk] at c1 hgo
      rw [hasC_of hFk] at hgo
      have cell := sh_cell HOW.out hk
      rw [slotV_some hFk] at cell
      have i1 : (0 : Int) ≤ (k : Int) := by omega
      have i2 : (k : Int) < 5 := by omega
      have hm := hF.ok k m hk hFk
      have hki := kind_any (A k).1 (A k).2.1 (A k).2.2 m hm c _ w (sh_take hk hFk HOW.out)
      have HGO := Lib.hid hgo
      clear hgo hxk
      cases ht : m.there c
      · rw [ht, if_neg (by decide), show errV 1 = .iface 72 (.int .i64 1) from rfl] at hki
        have HK := Lib.hid hki
        have HT := Lib.hid ht
        clear hki ht hm hFk
        go_wp2_with fail
        refine HK.out.mono ?_
        rintro e w' ⟨rfl, rfl⟩
        go_wp2_with fail
        go_round
        case rel => exact ⟨q + 1, by omega, by go_num, by have := HGO.out; rw [HT.out] at this; simpa using this⟩
        case measure => simp [intOf]; omega
      · rw [ht, if_pos rfl] at hki
        have HK := Lib.hid hki
        have HT := Lib.hid ht
        clear hki ht hm hFk
        by_cases hz : m.kind c = 0
        · rw [hz] at HK
          have HZ := Lib.hid hz
          clear hz
          go_wp2_with fail
          refine HK.out.mono ?_
          rintro e w' ⟨rfl, rfl⟩
          go_wp2_with fail
          go_round
          case rel => exact ⟨q + 1, by omega, by go_num, by have := HGO.out; rw [HT.out, HZ.out] at this; simpa using this⟩
          case measure => simp [intOf]; omega
        · have t0 : (m.kind c != 0) = true := bne_iff_ne.2 hz
          have HZ := Lib.hid hz
          clear hz
          go_wp2_with fail
          refine HK.out.mono ?_
          rintro e w' ⟨rfl, rfl⟩
          go_wp2_with fail
          go_ret
          have := HGO.out
          rw [HT.out, if_pos (by simpa using HZ.out)] at this
          exact ⟨ret_int this, rfl⟩
    · obtain rfl : l.length = q := by omega
      rw [List.drop_of_length_le (Nat.le_refl _)] at hgo
      have hgo' : res = -1 := hgo.symm
      subst hgo'
      clear hgo
      go_wp2_with fail
      go_ret
      exact ⟨rfl, rfl⟩

set_option maxRecDepth 100000 in
set_option maxHeartbeats 4000000 in
theorem rfound_any (b : Nat) (A : Nat → Nat × Nat) (F : ShM) (hF : ShOk F) (v : Value) (l : List Int) (hl : ∀ x ∈ l, isFile F x) (hl5 : l.length ≤ 5) (c : Int) (R : List SL.HP) (w : World) (hv : IntsAt w v l) (H : own w (rshL b A F ++ R)) :
    Calls Tryz.prog 35 #[.pointer (some ⟨b, 0, none⟩), v, .int .i64 c] w fun e w' => e = .returned (.int .i64 (foundM F l c)) ∧ ∃ n, w' = w.drewN n := by
  obtain ⟨ao, lb, off, cap, rfl, hlc, hcap, hao, hat⟩ := hv.form
  generalize hres : foundM F l c = res
  unfold foundM at hres
  have HRES := Lib.hid hres
  have HAO := Lib.hid hao
  have HAT := Lib.hid hat
  have HL := Lib.hid hl
  have HOW := Lib.hid H
  clear hres hao hat hl hv
  go_enter Tryz.func35, Tryz.ntmps35
  go_wp2_with fail
  go_loopw [7] (fun i wr => ∃ q : Nat, q ≤ l.length ∧ i = .int .i64 q ∧ foundGo F c q (l.drop q) = res ∧ ∃ n, wr = w.drewN n) (fun i _ => l.length - (intOf i).toNat)
  case atStart => exact ⟨0, Nat.zero_le _, rfl, HRES.out, 0, rfl⟩
  case round =>
    obtain ⟨q, hq, rfl, hgo, nd, hwr⟩ := hrel
    have hown : own wr (rshL b A F ++ R) := by rw [hwr]; exact own_drewN nd HOW.out
    by_cases hlt : q < l.length
    · obtain rfl := HAO.out (by omega)
      have c1 : wr.cell? ⟨lb, off + q, none⟩ = some (.int .i64 (l.getD q 0)) := by rw [hwr]; exact HAT.out q hlt
      rw [drop_getD 0 hlt, foundGo] at hgo
      obtain ⟨k, m, hxk, hk, hFk⟩ := isFile_nat (HL.out (l.getD q 0) (by simp [hlt]))
      rw [hxk] at c1 hgo
      rw [hasC_of hFk] at hgo
      have cell := rsh_cell hown hk
      rw [rslotV_some hFk] at cell
      obtain ⟨vt, vh, -, -, -, -, x4, -, x6⟩ := rsh_img hk hFk hown
      have i1 : (0 : Int) ≤ (k : Int) := by omega
      have i2 : (k : Int) < 5 := by omega
      have j1 : (0 : Int) ≤ (q : Int) := by omega
      have j2 : (q : Int) < (l.length : Int) := by omega
      have hm := hF.ok k m hk hFk
      have hth := fun (w' : World) (H : own w' (rshL b A F ++ R)) => rthere_any (A k).1 (A k).2 m c _ w' (rsh_take hk hFk H)
      have HGO := Lib.hid hgo
      have HW := Lib.hid hwr
      clear hgo hxk hwr
      cases ht : m.there c
      · rw [ht] at hth
        have HTH := Lib.hid hth
        have HT := Lib.hid ht
        clear hth ht hm hFk x4 x6
        go_upto_region 4 with (fail)
        go_quiet ((go_at_call 55; exact Calls.quiet_of_same ((HTH.out _ (by first | exact hown | exact own_drew hown | exact own_drewN _ hown)).mono fun e w' h => ⟨h.1, h.2.symm⟩)))
        generalize nq = n1 at *
        go_wp2_with fail
        go_quiet (fail)
        go_wp2_with fail
        go_roundw
        case rel => exact ⟨q + 1, by omega, by go_num, by have := HGO.out; rw [HT.out] at this; simpa using this, nd + (n1 + nq), by rw [HW.out]; simp [drewN_add', Nat.add_assoc]⟩
        case measure => simp [intOf]; omega
      · rw [ht] at hth
        have hkr := kind_range hm ht
        obtain ⟨k0, -, hkl⟩ := there_range hm ht
        obtain ⟨cn, rfl⟩ := Int.eq_ofNat_of_zero_le k0
        rw [Int.toNat_natCast] at hkl
        obtain ⟨eo, eb, eoff, ecap, rfl, e1, e2, e3⟩ := x6.form
        obtain rfl := e3 (by omega)
        have y1 : wr.cell? ⟨eb, eoff + cn * 2, none⟩ = some (.int .i64 (m.kind (cn : Int))) := (x6.cells hkl).1
        have l1 : (cn : Int) < (m.t.length : Int) := by omega
        have l2 : (0 : Int) ≤ (cn : Int) := by omega
        have HTH := Lib.hid hth
        have HT := Lib.hid ht
        clear hth ht hm hFk x6 e3 k0
        by_cases hz : m.kind (cn : Int) = 0
        · have d0 : decide (0 < m.kind (cn : Int)) = false := decide_eq_false (by omega)
          have HZ := Lib.hid hz
          rw [hz] at y1
          clear hz hkr d0
          go_upto_region 4 with (fail)
          go_quiet ((go_at_call 55; exact Calls.quiet_of_same ((HTH.out _ (by first | exact hown | exact own_drew hown | exact own_drewN _ hown)).mono fun e w' h => ⟨h.1, h.2.symm⟩)))
          generalize nq = n1 at *
          go_wp2_with fail
          go_quiet (fail)
          go_wp2_with fail
          go_roundw
          case rel => exact ⟨q + 1, by omega, by go_num, by have := HGO.out; rw [HT.out, HZ.out] at this; simpa using this, nd + (n1 + nq), by rw [HW.out]; simp [drewN_add', Nat.add_assoc]⟩
          case measure => simp [intOf]; omega
        · have hp : 0 < m.kind (cn : Int) := by omega
          have HZ := Lib.hid hz
          clear hz
          generalize m.kind (cn : Int) = kd at *
          go_upto_region 4 with (fail)
          go_quiet ((go_at_call 55; exact Calls.quiet_of_same ((HTH.out _ (by first | exact hown | exact own_drew hown | exact own_drewN _ hown)).mono fun e w' h => ⟨h.1, h.2.symm⟩)))
          generalize nq = n1 at *
          go_wp2_with fail
          go_quiet (fail)
          go_wp2_with fail
          go_ret
          have := HGO.out
          rw [HT.out, if_pos (by simpa using HZ.out)] at this
          exact ⟨ret_int this, nd + (n1 + nq), by rw [HW.out]; simp [drewN_add', Nat.add_assoc]⟩
    · obtain rfl : l.length = q := by omega
      rw [List.drop_of_length_le (Nat.le_refl _)] at hgo
      have hgo' : res = -1 := hgo.symm
      subst hgo'
      have HWR := Lib.hid hwr
      clear hgo hwr
      go_wp2_with fail
      go_ret
      exact ⟨rfl, nd, HWR.out⟩
end Go.Proofs.YtbpblokfiajpjabGreat

namespace Go.Proofs.YtbpblokfiajpjabGreat
open Go.RowKit Go.SL Go.Crc
attribute [local go_sem ↓] Go.wp_at_zero Go.wp_at_succ

def imgRead (F : ShM) (x c : Int) : ByteArray × Int := match F x.toNat with
  | some m => m.read c
  | none => (ByteArray.empty, 4)
def thereC (F : ShM) (x c : Int) : Bool := match F x.toNat with
  | some m => m.there c
  | none => false
def readF (F : ShM) (l : List Int) (c i : Int) : ByteArray × Int := if i < 0 then (zs 64, 0) else imgRead F (l.getD i.toNat 0) c
def readM (F : ShM) (l : List Int) (c : Int) : ByteArray × Int :=
  if l.length = 0 then (ByteArray.empty, 4) else if thereC F (l.getD 0 0) c = false then (ByteArray.empty, 1) else readF F l c (foundM F l c)
theorem readM_code (F : ShM) (l : List Int) (c : Int) : 0 ≤ (readM F l c).2 := by
  unfold readM
  split
  · simp
  · split
    · simp
    · unfold readF
      split
      · simp
      · unfold imgRead
        split
        · exact read_nonneg _ _
        · simp
theorem ints_cell {w : World} {lb off n cap : Nat} {l : List Int} (h : IntsAt w (.slice (some ⟨lb, off, none⟩) n cap) l) {i : Nat} (hi : i < l.length) : w.cell? ⟨lb, off + i, none⟩ = some (.int .i64 (l.getD i 0)) := by
  obtain ⟨ao, lb', off', cap', hv, h1, h2, h3, h4⟩ := h.form
  simp only [Value.slice.injEq] at hv
  have h5 := h3 (by omega)
  rw [← hv.1] at h5
  simp only [Option.some.injEq, Addr.mk.injEq, and_true] at h5
  obtain ⟨rfl, rfl⟩ := h5
  exact h4 i hi
theorem thereC_of {F : ShM} {k : Nat} {m : ImgM} (h : F k = some m) (c : Int) : thereC F (k : Int) c = m.there c := by unfold thereC; rw [Int.toNat_natCast, h]
theorem imgRead_of {F : ShM} {k : Nat} {m : ImgM} (h : F k = some m) (c : Int) : imgRead F (k : Int) c = m.read c := by unfold imgRead; rw [Int.toNat_natCast, h]
theorem sread_any {b : Nat} {A : Nat → Nat × Nat × Nat} {F : ShM} {k : Nat} (hk : k < 5) {m : ImgM} (h : F k = some m) (hm : m.Ok) (c : Int) (R : List SL.HP) (w : World) (H : own w (shL b A F ++ R)) :
    Calls Tryz.prog 38 #[.pointer (some ⟨(A k).1, 0, none⟩), .int .i64 c] w fun e w' => e = .returned (.tuple #[.string (m.read c).1, errV (m.read c).2]) ∧ Ext w w' ∧ own w' (shL b A F ++ R) :=
  (read_any _ _ _ m hm c _ w (sh_take hk h H)).mono fun e w' ⟨h1, h2, h3⟩ => ⟨h1, h2, by have := sh_put hk h H h3; rwa [put_self h] at this⟩
theorem rsread_any {b : Nat} {A : Nat → Nat × Nat} {F : ShM} {k : Nat} (hk : k < 5) {m : ImgM} (h : F k = some m) (hm : m.Ok) (c : Int) (R : List SL.HP) (w : World) (H : own w (rshL b A F ++ R)) :
    Calls Tryz.prog 72 #[.pointer (some ⟨(A k).1, 0, none⟩), .int .i64 c] w fun e w' => e = .returned (.tuple #[.string (m.read c).1, .int .i64 (m.read c).2]) ∧ Ext w w' ∧ own w' (rshL b A F ++ R) :=
  (rread_any _ _ m hm c _ w (rsh_take hk h H)).mono fun e w' ⟨h1, h2, h3⟩ => ⟨h1, h2, by have := rsh_put hk h H h3; rwa [put_self h] at this⟩
theorem zs64_lit : zs 64 = ⟨#[0, 0, 0, 0, 0, 0, 0, 0, 0, 0, 0, 0, 0, 0, 0, 0, 0, 0, 0, 0, 0, 0, 0, 0, 0, 0, 0, 0, 0, 0, 0, 0, 0, 0, 0, 0, 0, 0, 0, 0, 0, 0, 0, 0, 0, 0, 0, 0, 0, 0, 0, 0, 0, 0, 0, 0, 0, 0, 0, 0, 0, 0, 0, 0]⟩ := rfl

set_option maxRecDepth 100000 in
set_option maxHeartbeats 4000000 in
theorem shread_any (b : Nat) (A : Nat → Nat × Nat × Nat) (F : ShM) (hF : ShOk F) (v : Value) (l : List Int) (hl : ∀ x ∈ l, isFile F x) (hl5 : l.length ≤ 5) (c : Int) (R : List SL.HP) (w : World) (hv : ∀ w' L, own w' (L ++ R) → IntsAt w' v l) (H : own w (shL b A F ++ R)) :
    Calls Tryz.prog 14 #[.pointer (some ⟨b, 0, none⟩), v, .int .i64 c] w fun e w' => e = .returned (.tuple #[.string (readM F l c).1, errV (readM F l c).2]) ∧ Ext w w' ∧ own w' (shL b A F ++ R) := by
  have hv0 := hv w _ H
  obtain ⟨ao, lb, off, cap, rfl, hlc, hcap, hao, -⟩ := hv0.form
  generalize hres : readM F l c = res
  unfold readM at hres
  have HV := Lib.hid hv
  by_cases h0 : l.length = 0
  · rw [if_pos h0] at hres
    subst hres
    have t0 : ((l.length : Int) == 0) = true := by simp [h0]
    have H0 := Lib.hid h0
    clear h0 hv hv0 hao
    go_enter Tryz.func14, Tryz.ntmps14
    go_wp2_with fail
    go_ret2
    exact ⟨rfl, Ext.refl _, H⟩
  · rw [if_neg h0] at hres
    have t0 : ((l.length : Int) == 0) = false := by rw [beq_eq_false_iff_ne]; omega
    obtain rfl := hao (by omega)
    have hpos : 0 < l.length := by omega
    have c0 : w.cell? ⟨lb, off, none⟩ = some (.int .i64 (l.getD 0 0)) := ints_cell hv0 hpos
    obtain ⟨k, m, hxk, hk, hFk⟩ := isFile_nat (hl (l.getD 0 0) (by simp [hpos]))
    rw [hxk] at c0 hres
    rw [thereC_of hFk] at hres
    have cell := sh_cell H hk
    rw [slotV_some hFk] at cell
    have i1 : (0 : Int) ≤ (k : Int) := by omega
    have i2 : (k : Int) < 5 := by omega
    have j2 : (0 : Int) < (l.length : Int) := by omega
    have hm := hF.ok k m hk hFk
    have hki := fun (w' : World) (H : own w' (shL b A F ++ R)) => kind_any (A k).1 (A k).2.1 (A k).2.2 m hm c _ w' (sh_take hk hFk H)
    have HRES := Lib.hid hres
    have HFO := Lib.hid (fun (w' : World) (H : own w' (shL b A F ++ R)) => found_any b A F hF _ l hl hl5 c R w' (hv w' _ H) H)
    have HL := Lib.hid hl
    clear hres hxk h0 hv hv0 hl hao
    cases ht : m.there c
    · rw [ht, if_neg (by decide), show errV 1 = .iface 72 (.int .i64 1) from rfl] at hki
      have hr2 := HRES.out
      rw [ht, if_pos rfl] at hr2
      have HR2 := Lib.hid hr2
      have HK := Lib.hid hki
      clear hki ht hm hFk hr2
      go_enter Tryz.func14, Tryz.ntmps14
      go_upto_region 3 with (fail)
      go_quiet ((go_at_call 37; exact Calls.quiet_of_same ((HK.out _ (by first | exact H | exact own_drew H | exact own_drewN _ H)).mono fun e w' h => ⟨h.1, h.2.symm⟩)))
      go_wp2_with fail
      go_ret2
      rw [← HR2.out]
      exact ⟨rfl, (Ext.refl w).drewN _, own_drewN _ H⟩
    · rw [ht, if_pos rfl] at hki
      have hr2 := HRES.out
      rw [ht, if_neg (by decide)] at hr2
      have HR2 := Lib.hid hr2
      have HK := Lib.hid hki
      have hfr := foundM_range F l c
      clear hki ht hm hFk hr2
      generalize foundM F l c = fi at *
      unfold readF at HR2
      by_cases hneg : fi < 0
      · have hr3 := HR2.out
        rw [if_pos hneg] at hr3
        have HR3 := Lib.hid hr3
        have d0 : decide (fi < 0) = true := decide_eq_true hneg
        clear hr3 hneg hfr
        go_enter Tryz.func14, Tryz.ntmps14
        go_upto_region 3 with (fail)
        go_quiet ((go_at_call 37; exact Calls.quiet_of_same ((HK.out _ (by first | exact H | exact own_drew H | exact own_drewN _ H)).mono fun e w' h => ⟨h.1, h.2.symm⟩)))
        generalize nq = n1 at *
        go_wp2_with fail
        refine (HFO.out _ (own_drewN n1 H)).mono ?_
        rintro e w' ⟨rfl, rfl⟩
        go_wp2_with fail
        go_ret2
        rw [← HR3.out]
        exact ⟨rfl, (Ext.refl w).drewN _, own_drewN _ H⟩
      · have hr3 := HR2.out
        rw [if_neg hneg] at hr3
        have hfi : 0 ≤ fi ∧ fi < l.length := by omega
        obtain ⟨i, rfl⟩ := Int.eq_ofNat_of_zero_le hfi.1
        have hil : i < l.length := by omega
        rw [Int.toNat_natCast] at hr3
        obtain ⟨k2, m2, hxk2, hk2, hFk2⟩ := isFile_nat (HL.out (l.getD i 0) (by simp [hil]))
        rw [hxk2, imgRead_of hFk2] at hr3
        have HR3 := Lib.hid hr3
        have HX2 := Lib.hid hxk2
        have HSR := Lib.hid (fun (w : World) (H : own w (shL b A F ++ R)) => sread_any hk2 hFk2 (hF.ok k2 m2 hk2 hFk2) c R w H)
        have HF2 := Lib.hid hFk2
        have u1 : (0 : Int) ≤ (k2 : Int) := by omega
        have u2 : (k2 : Int) < 5 := by omega
        have u3 : (i : Int) < (l.length : Int) := by omega
        have u4 : (0 : Int) ≤ (i : Int) := by omega
        clear hr3 hneg hfr hfi hxk2 hFk2
        go_enter Tryz.func14, Tryz.ntmps14
        go_upto_region 3 with (fail)
        go_quiet ((go_at_call 37; exact Calls.quiet_of_same ((HK.out _ (by first | exact H | exact own_drew H | exact own_drewN _ H)).mono fun e w' h => ⟨h.1, h.2.symm⟩)))
        generalize nq = n1 at *
        have hd := own_drewN n1 H
        have hxd := (Ext.refl w).drewN n1
        generalize w.drewN n1 = w1 at *
        clear c0 cell
        go_wp2_with fail
        refine (HFO.out _ hd).mono ?_
        rintro e w' ⟨rfl, rfl⟩
        go_upto_region 9 with (fail)
        have hz := own_drew hd
        have hxz := hxd.drew
        go_region_held3 (fun w' => w'.cell? ⟨lb, off + i, none⟩ = some (.int .i64 (k2 : Int)) ∧ w'.cell? ⟨b, k2, none⟩ = some (.pointer (some ⟨(A k2).1, 0, none⟩))) (exact ⟨by rw [← HX2.out]; exact ints_cell (HV.out _ _ hz) hil, by rw [sh_cell hz hk2, slotV_some HF2.out]⟩) ((go_at_call 38; refine (HSR.out _ hz).mono ?_; rintro e w5 ⟨rfl, hx5, hz'⟩; have hxz := hxz.trans hx5; have hz := hz'))
        go_wp2_with fail
        go_ret2
        rw [← HR3.out]
        exact ⟨rfl, hxz, hz⟩
set_option maxRecDepth 100000 in
set_option maxHeartbeats 4000000 in
theorem rshread_any (b : Nat) (A : Nat → Nat × Nat) (F : ShM) (hF : ShOk F) (v : Value) (l : List Int) (hl : ∀ x ∈ l, isFile F x) (hl5 : l.length ≤ 5) (c : Int) (R : List SL.HP) (w : World) (hv : ∀ w' L, own w' (L ++ R) → IntsAt w' v l) (H : own w (rshL b A F ++ R)) :
    Calls Tryz.prog 33 #[.pointer (some ⟨b, 0, none⟩), v, .int .i64 c] w fun e w' => e = .returned (.tuple #[.string (readM F l c).1, .int .i64 (readM F l c).2]) ∧ Ext w w' ∧ own w' (rshL b A F ++ R) := by
  have hv0 := hv w _ H
  obtain ⟨ao, lb, off, cap, rfl, hlc, hcap, hao, -⟩ := hv0.form
  generalize hres : readM F l c = res
  unfold readM at hres
  have HV := Lib.hid hv
  by_cases h0 : l.length = 0
  · rw [if_pos h0] at hres
    subst hres
    have t0 : ((l.length : Int) == 0) = true := by simp [h0]
    have H0 := Lib.hid h0
    clear h0 hv hv0 hao
    go_enter Tryz.func33, Tryz.ntmps33
    go_wp2_with fail
    go_ret2
    exact ⟨rfl, Ext.refl _, H⟩
  · rw [if_neg h0] at hres
    have t0 : ((l.length : Int) == 0) = false := by rw [beq_eq_false_iff_ne]; omega
    obtain rfl := hao (by omega)
    have hpos : 0 < l.length := by omega
    have c0 : w.cell? ⟨lb, off, none⟩ = some (.int .i64 (l.getD 0 0)) := ints_cell hv0 hpos
    obtain ⟨k, m, hxk, hk, hFk⟩ := isFile_nat (hl (l.getD 0 0) (by simp [hpos]))
    rw [hxk] at c0 hres
    rw [thereC_of hFk] at hres
    have cell := rsh_cell H hk
    rw [rslotV_some hFk] at cell
    have i1 : (0 : Int) ≤ (k : Int) := by omega
    have i2 : (k : Int) < 5 := by omega
    have j2 : (0 : Int) < (l.length : Int) := by omega
    have hm := hF.ok k m hk hFk
    have hki := fun (w' : World) (H : own w' (rshL b A F ++ R)) => rthere_any (A k).1 (A k).2 m c _ w' (rsh_take hk hFk H)
    have HRES := Lib.hid hres
    have HFO := Lib.hid (fun (w' : World) (H : own w' (rshL b A F ++ R)) => rfound_any b A F hF _ l hl hl5 c R w' (hv w' _ H) H)
    have HL := Lib.hid hl
    clear hres hxk h0 hv hv0 hl hao
    cases ht : m.there c
    · rw [ht] at hki
      have hr2 := HRES.out
      rw [ht, if_pos rfl] at hr2
      have HR2 := Lib.hid hr2
      have HK := Lib.hid hki
      clear hki ht hm hFk hr2
      go_enter Tryz.func33, Tryz.ntmps33
      go_upto_region 3 with (fail)
      go_quiet ((go_at_call 55; exact Calls.quiet_of_same ((HK.out _ (by first | exact H | exact own_drew H | exact own_drewN _ H)).mono fun e w' h => ⟨h.1, h.2.symm⟩)))
      go_wp2_with fail
      go_ret2
      rw [← HR2.out]
      exact ⟨rfl, (Ext.refl w).drewN _, own_drewN _ H⟩
    · rw [ht] at hki
      have hr2 := HRES.out
      rw [ht, if_neg (by decide)] at hr2
      have HR2 := Lib.hid hr2
      have HK := Lib.hid hki
      have hfr := foundM_range F l c
      clear hki ht hm hFk hr2
      generalize foundM F l c = fi at *
      unfold readF at HR2
      by_cases hneg : fi < 0
      · have hr3 := HR2.out
        rw [if_pos hneg] at hr3
        have HR3 := Lib.hid hr3
        have d0 : decide (fi < 0) = true := decide_eq_true hneg
        clear hr3 hneg hfr
        go_enter Tryz.func33, Tryz.ntmps33
        go_upto_region 3 with (fail)
        go_quiet ((go_at_call 55; exact Calls.quiet_of_same ((HK.out _ (by first | exact H | exact own_drew H | exact own_drewN _ H)).mono fun e w' h => ⟨h.1, h.2.symm⟩)))
        generalize nq = n1 at *
        go_wp2_with fail
        refine (HFO.out _ (own_drewN n1 H)).mono ?_
        rintro e w' ⟨rfl, n2, rfl⟩
        go_wp2_with fail
        refine (noughts_any 64 (by decide) _ _ (own_drewN (n1 + n2) H)).mono ?_
        rintro e w5 ⟨rfl, hx5, h5⟩
        go_wp2_with fail
        go_ret2
        rw [← HR3.out]
        exact ⟨rfl, ((Ext.refl w).drewN _).trans hx5, h5⟩
      · have hr3 := HR2.out
        rw [if_neg hneg] at hr3
        have hfi : 0 ≤ fi ∧ fi < l.length := by omega
        obtain ⟨i, rfl⟩ := Int.eq_ofNat_of_zero_le hfi.1
        have hil : i < l.length := by omega
        rw [Int.toNat_natCast] at hr3
        obtain ⟨k2, m2, hxk2, hk2, hFk2⟩ := isFile_nat (HL.out (l.getD i 0) (by simp [hil]))
        rw [hxk2, imgRead_of hFk2] at hr3
        have HR3 := Lib.hid hr3
        have HX2 := Lib.hid hxk2
        have HSR := Lib.hid (fun (w : World) (H : own w (rshL b A F ++ R)) => rsread_any hk2 hFk2 (hF.ok k2 m2 hk2 hFk2) c R w H)
        have HF2 := Lib.hid hFk2
        have u1 : (0 : Int) ≤ (k2 : Int) := by omega
        have u2 : (k2 : Int) < 5 := by omega
        have u3 : (i : Int) < (l.length : Int) := by omega
        have u4 : (0 : Int) ≤ (i : Int) := by omega
        clear hr3 hneg hfr hfi hxk2 hFk2
        go_enter Tryz.func33, Tryz.ntmps33
        go_upto_region 3 with (fail)
        go_quiet ((go_at_call 55; exact Calls.quiet_of_same ((HK.out _ (by first | exact H | exact own_drew H | exact own_drewN _ H)).mono fun e w' h => ⟨h.1, h.2.symm⟩)))
        generalize nq = n1 at *
        have hd := own_drewN n1 H
        have hxd := (Ext.refl w).drewN n1
        generalize w.drewN n1 = w1 at *
        clear c0 cell
        go_wp2_with fail
        refine (HFO.out _ hd).mono ?_
        rintro e w' ⟨rfl, n2, rfl⟩
        have hd2 := own_drewN n2 hd
        have hxd2 := hxd.drewN n2
        generalize w1.drewN n2 = w2 at *
        go_upto_region 9 with (fail)
        have hz := own_drew hd2
        have hxz := hxd2.drew
        go_region_held3 (fun w' => w'.cell? ⟨lb, off + i, none⟩ = some (.int .i64 (k2 : Int)) ∧ w'.cell? ⟨b, k2, none⟩ = some (.pointer (some ⟨(A k2).1, 0, none⟩))) (exact ⟨by rw [← HX2.out]; exact ints_cell (HV.out _ _ hz) hil, by rw [rsh_cell hz hk2, rslotV_some HF2.out]⟩) ((go_at_call 72; refine (HSR.out _ hz).mono ?_; rintro e w5 ⟨rfl, hx5, hz'⟩; have hxz := hxz.trans hx5; have hz := hz'))
        go_wp2_with fail
        go_ret2
        rw [← HR3.out]
        exact ⟨rfl, hxz, hz⟩
end Go.Proofs.YtbpblokfiajpjabGreat
