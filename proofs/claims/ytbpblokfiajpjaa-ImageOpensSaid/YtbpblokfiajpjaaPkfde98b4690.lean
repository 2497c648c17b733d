/- An image linked to another file: the program's, the document's. A cluster read: the program's, the document's. An image made: fits, Create (the program's). An image made: Create (the program's). An image's model opened: what lies on a device is read back. An image opened: Opened (the document's). No conditions. -/
import Derived.Test.YtbpblokfiajpjaaPk474ba95335
import Derived.Test.YtbpblokfiajpjaaProg
namespace Go.Proofs.Ytbpblokfiajpjaa
open Go.RowKit Go.SL Go.Crc
attribute [local go_sem ↓] Go.wp_at_zero Go.wp_at_succ

def ImgM.link (m : ImgM) (k : Int) : Int × ImgM :=
  if headBad m.c m.p k then (1, m)
  else if (m.d.flush.write 0 (headS m.c m.p k)).1 ≠ 0 then ((m.d.flush.write 0 (headS m.c m.p k)).1, { m.flush with d := (m.d.flush.write 0 (headS m.c m.p k)).2 })
  else (0, { m.flush with d := (m.d.flush.write 0 (headS m.c m.p k)).2.flush, b := k })

set_option maxRecDepth 100000 in
set_option maxHeartbeats 8000000 in
theorem link_any (b bd bh : Nat) (m : ImgM) (hm : m.Ok) (hw : m.d.writes < 999000) (k : Int) (R : List SL.HP) (w : World) (H : own w (imgAt b bd bh m :: devAt bd m.d :: R)) :
    Calls Try.prog 97 #[.pointer (some ⟨b, 0, none⟩), .int .i64 k] w fun e w' => e = .returned (errV (m.link k).1) ∧ Ext w w' ∧ own w' (imgAt b bd bh (m.link k).2 :: devAt bd (m.link k).2.d :: R) := by
  obtain ⟨v, h⟩ := img_open H
  obtain ⟨c, f⟩ := own_cells 0 h rfl
  have e : m.link k = if headBad m.c m.p k then (1, m) else if (m.d.flush.write 0 (headS m.c m.p k)).1 ≠ 0 then ((m.d.flush.write 0 (headS m.c m.p k)).1, { m.flush with d := (m.d.flush.write 0 (headS m.c m.p k)).2 })
    else (0, { m.flush with d := (m.d.flush.write 0 (headS m.c m.p k)).2.flush, b := k }) := rfl
  generalize m.link k = S at *
  have HE := Lib.hid e
  clear e
  go_enter Try.func97, Try.ntmps97
  go_upto_region 2 with (fail)
  have ha := own_alloc H (.cells #[.int .i64 m.c, .int .i64 m.p, .int .i64 m.b] 52)
  have hxa := (Ext.refl w).alloc (.cells #[.int .i64 m.c, .int .i64 m.p, .int .i64 m.b] 52)
  clear c f h
  generalize w.heap.size = gh at *
  generalize w.alloc (.cells #[.int .i64 m.c, .int .i64 m.p, .int .i64 m.b] 52) = w1 at *
  obtain ⟨c, f⟩ := own_cells 0 ha rfl
  go_upto_region 3 with (fail)
  have h1 := own_set (i := 2) (v := .int .i64 k) 0 ha rfl
  have hx1 := hxa.setCell ⟨gh, 2, none⟩ (.int .i64 k)
  clear c f ha hxa
  generalize w1.setCell ⟨gh, 2, none⟩ (.int .i64 k) = w2 at *
  replace h1 : own w2 (pts gh (.cells #[.int .i64 m.c, .int .i64 m.p, .int .i64 k] 52 (0, 0)) :: imgAt b bd bh m :: devAt bd m.d :: R) := h1
  obtain ⟨c, f⟩ := own_cells 0 h1 rfl
  have hsz : (headS m.c m.p k).size = 16 := seal_size (xs := [83, 89, m.c, m.p, k + 1]) (by simp)
  by_cases hb : headBad m.c m.p k
  · have hS : S = (1, m) := by rw [HE.out, if_pos hb]
    have HS := Lib.hid hS
    have hq := head_any m.c m.p k _ w2 h1
    rw [show headF m.c m.p k = 1 from if_pos hb, if_neg (by decide)] at hq
    have HQ := Lib.hid hq
    unfold headV at HQ
    clear hq hb hS
    go_wp2_with fail
    refine HQ.out.mono ?_
    rintro e w3 ⟨rfl, hx3, h3⟩
    rw [show errV 1 = .iface 121 (.int .i64 1) from rfl]
    go_wp2_with fail
    go_ret
    rw [HS.out]
    exact ⟨rfl, hx1.trans hx3, own_drop h3⟩
  · have hE2 : S = if (m.d.flush.write 0 (headS m.c m.p k)).1 ≠ 0 then ((m.d.flush.write 0 (headS m.c m.p k)).1, { m.flush with d := (m.d.flush.write 0 (headS m.c m.p k)).2 })
      else (0, { m.flush with d := (m.d.flush.write 0 (headS m.c m.p k)).2.flush, b := k }) := by rw [HE.out, if_neg hb]
    have HE2 := Lib.hid hE2
    have okf := DevM.flush_ok hm.d
    have fw : m.d.flush.writes = m.d.writes := rfl
    have fp : m.d.flush.pend.length = 0 := rfl
    have okw := DevM.write_ok okf 0 (headS m.c m.p k) (by omega) (by omega)
    have hnn := write_nonneg m.d.flush 0 (headS m.c m.p k)
    have HF := Lib.hid (fun (R : List SL.HP) (w : World) (H : own w (imgAt b bd bh m :: devAt bd m.d :: R)) => imgflush_any b bd bh m hm.d R w H)
    have hq := head_any m.c m.p k _ w2 h1
    rw [show headF m.c m.p k = 0 from if_neg hb, if_pos rfl, errV_0] at hq
    have HW := Lib.hid (fun (R : List SL.HP) (w : World) (H : own w (devAt bd m.d.flush :: R)) => dev_write bd m.d.flush okf 0 (headS m.c m.p k) (by omega) (by omega) (by omega) R w H)
    have HQ := Lib.hid hq
    unfold headV at HQ
    clear hq hb hE2 fw fp
    generalize m.d.flush.write 0 (headS m.c m.p k) = r at *
    have HF2 := Lib.hid (fun (R : List SL.HP) (w : World) (H : own w (imgAt b bd bh m.flush :: devAt bd r.2 :: R)) => imgflush_any b bd bh { m.flush with d := r.2 } okw R w H)
    generalize headS m.c m.p k = hs at *
    go_wp2_with fail
    refine HQ.out.mono ?_
    rintro e w3 ⟨rfl, hx3, h3⟩
    replace hx3 := hx1.trans hx3
    clear c f h1 hx1
    go_wp2_with fail
    refine (HF.out _ w3 (own_behind [_, _] h3)).mono ?_
    rintro e w4 ⟨rfl, hx4, h4⟩
    replace hx4 := hx3.trans hx4
    clear h3 hx3
    obtain ⟨v, h5⟩ := img_open h4
    clear h4
    obtain ⟨c, f⟩ := own_cells 0 h5 rfl
    go_wp2_with fail
    refine (HW.out _ w4 (own_pick 3 h5 rfl)).mono ?_
    rintro e w5 ⟨rfl, hx5, h6'⟩
    have h6 := own_put h5 3 rfl h6'
    replace hx5 := hx4.trans hx5
    clear c f h5 h6' hx4
    by_cases hz : r.1 = 0
    · have hS : S = (0, { m.flush with d := r.2.flush, b := k }) := by rw [HE2.out, if_neg (by simpa using hz)]
      have HS := Lib.hid hS
      rw [hz, errV_0]
      clear hz hS
      have h7 : own w5 (imgAt b bd bh m.flush :: devAt bd r.2 :: pts gh (.cells #[.int .i64 m.c, .int .i64 m.p, .int .i64 k] 52 (0, 0)) :: R) := img_close h6
      clear h6
      go_wp2_with fail
      refine (HF2.out _ w5 h7).mono ?_
      rintro e w8 ⟨rfl, hx8, h8⟩
      replace hx8 := hx5.trans hx8
      obtain ⟨v2, h9⟩ := img_open h8
      clear h7 h8 hx5
      obtain ⟨c, f⟩ := own_cells 0 h9 rfl
      obtain ⟨c4, f4⟩ := own_cells 4 h9 rfl
      go_wp2_with fail
      go_ret
      rw [HS.out]
      have h10 := own_set (i := 3) (v := .int .i64 k) 0 (own_set (i := 2) (v := .int .i64 m.p) 0 (own_set (i := 1) (v := .int .i64 m.c) 0 h9 rfl) rfl) rfl
      refine ⟨rfl, ((hx8.setCell _ _).setCell _ _).setCell _ _, ?_⟩
      have h11 := img_close (m := { m.flush with d := r.2.flush, b := k }) h10
      exact own_erase 2 h11 rfl
    · have hS : S = (r.1, { m.flush with d := r.2 }) := by rw [HE2.out, if_pos hz]
      have HS := Lib.hid hS
      have hpz : 0 < r.1 := by omega
      have HPE := Lib.hid (errV_pos hpz)
      rw [errV_pos hpz]
      clear hz hS
      go_wp2_with fail
      go_ret
      rw [HS.out]
      have h11 := img_close (m := { m.flush with d := r.2 }) h6
      exact ⟨by rw [HPE.out]; rfl, hx5, own_erase 2 h11 rfl⟩

set_option maxRecDepth 100000 in
set_option maxHeartbeats 8000000 in
theorem rlink_any (b bd : Nat) (m : ImgM) (hm : m.Ok) (hw : m.d.writes < 999000) (k : Int) (R : List SL.HP) (w : World) (H : own w (rimgAt b bd m :: rdevAt bd m.d :: R)) :
    Calls Try.prog 98 #[.pointer (some ⟨b, 0, none⟩), .int .i64 k] w fun e w' => e = .returned (.int .i64 (m.link k).1) ∧ Ext w w' ∧ own w' (rimgAt b bd (m.link k).2 :: rdevAt bd (m.link k).2.d :: R) := by
  obtain ⟨vt, vh, h⟩ := rimg_open H
  obtain ⟨c, f⟩ := own_cells 0 h rfl
  have e : m.link k = if headBad m.c m.p k then (1, m) else if (m.d.flush.write 0 (headS m.c m.p k)).1 ≠ 0 then ((m.d.flush.write 0 (headS m.c m.p k)).1, { m.flush with d := (m.d.flush.write 0 (headS m.c m.p k)).2 })
    else (0, { m.flush with d := (m.d.flush.write 0 (headS m.c m.p k)).2.flush, b := k }) := rfl
  generalize m.link k = S at *
  have HE := Lib.hid e
  clear e
  go_enter Try.func98, Try.ntmps98
  go_upto_region 2 with (fail)
  have ha := own_alloc H (.cells #[.int .i64 m.c, .int .i64 m.p, .int .i64 m.b] 52)
  have hxa := (Ext.refl w).alloc (.cells #[.int .i64 m.c, .int .i64 m.p, .int .i64 m.b] 52)
  clear c f h
  generalize w.heap.size = gh at *
  generalize w.alloc (.cells #[.int .i64 m.c, .int .i64 m.p, .int .i64 m.b] 52) = w1 at *
  obtain ⟨c, f⟩ := own_cells 0 ha rfl
  go_upto_region 3 with (fail)
  have h1 := own_set (i := 2) (v := .int .i64 k) 0 ha rfl
  have hx1 := hxa.setCell ⟨gh, 2, none⟩ (.int .i64 k)
  clear c f ha hxa
  generalize w1.setCell ⟨gh, 2, none⟩ (.int .i64 k) = w2 at *
  replace h1 : own w2 (pts gh (.cells #[.int .i64 m.c, .int .i64 m.p, .int .i64 k] 52 (0, 0)) :: rimgAt b bd m :: rdevAt bd m.d :: R) := h1
  obtain ⟨c, f⟩ := own_cells 0 h1 rfl
  have hsz : (headS m.c m.p k).size = 16 := seal_size (xs := [83, 89, m.c, m.p, k + 1]) (by simp)
  by_cases hb : headBad m.c m.p k
  · have hS : S = (1, m) := by rw [HE.out, if_pos hb]
    have HS := Lib.hid hS
    have hq := headfault_any m.c m.p k _ w2 h1
    rw [show headF m.c m.p k = 1 from if_pos hb] at hq
    have HQ := Lib.hid hq
    unfold headV at HQ
    clear hq hb hS
    go_wp2_with fail
    refine HQ.out.mono ?_
    rintro e w3 ⟨rfl, hx3, h3⟩
    skip
    go_wp2_with fail
    go_ret
    rw [HS.out]
    exact ⟨rfl, hx1.trans hx3, own_drop h3⟩
  · have hE2 : S = if (m.d.flush.write 0 (headS m.c m.p k)).1 ≠ 0 then ((m.d.flush.write 0 (headS m.c m.p k)).1, { m.flush with d := (m.d.flush.write 0 (headS m.c m.p k)).2 })
      else (0, { m.flush with d := (m.d.flush.write 0 (headS m.c m.p k)).2.flush, b := k }) := by rw [HE.out, if_neg hb]
    have HE2 := Lib.hid hE2
    have okf := DevM.flush_ok hm.d
    have fw : m.d.flush.writes = m.d.writes := rfl
    have fp : m.d.flush.pend.length = 0 := rfl
    have okw := DevM.write_ok okf 0 (headS m.c m.p k) (by omega) (by omega)
    have hnn := write_nonneg m.d.flush 0 (headS m.c m.p k)
    have HF := Lib.hid (fun (R : List SL.HP) (w : World) (H : own w (rimgAt b bd m :: rdevAt bd m.d :: R)) => rimgflush_any b bd m hm.d R w H)
    have hq := headfault_any m.c m.p k _ w2 h1
    rw [show headF m.c m.p k = 0 from if_neg hb] at hq
    have HW := Lib.hid (fun (R : List SL.HP) (w : World) (H : own w (rdevAt bd m.d.flush :: R)) => rdev_write bd m.d.flush okf 0 (headS m.c m.p k) (by omega) (by omega) (by omega) R w H)
    have HSC := Lib.hid (fun (R : List SL.HP) (w : World) (H : own w R) => headsector_any m.c m.p k hb R w H)
    unfold headV at HSC
    have HQ := Lib.hid hq
    unfold headV at HQ
    clear hq hb hE2 fw fp
    generalize m.d.flush.write 0 (headS m.c m.p k) = r at *
    have HF2 := Lib.hid (fun (R : List SL.HP) (w : World) (H : own w (rimgAt b bd m.flush :: rdevAt bd r.2 :: R)) => rimgflush_any b bd { m.flush with d := r.2 } okw R w H)
    generalize headS m.c m.p k = hs at *
    go_wp2_with fail
    refine HQ.out.mono ?_
    rintro e w3 ⟨rfl, hx3, h3⟩
    replace hx3 := hx1.trans hx3
    clear c f h1 hx1
    go_wp2_with fail
    refine (HF.out _ w3 (own_behind [_, _] h3)).mono ?_
    rintro e w4 ⟨rfl, hx4, h4⟩
    replace hx4 := hx3.trans hx4
    clear h3 hx3
    obtain ⟨vt, vh, h5⟩ := rimg_open h4
    clear h4
    have hd1 := own_drew h5
    go_upto_region 7 with (fail)
    go_region_held3 (fun w' => w'.cell? ⟨b, 0, none⟩ = some (.pointer (some ⟨bd, 0, none⟩)) ∧ w'.cell? ⟨gh, 0, none⟩ = some (.int .i64 m.c) ∧ w'.cell? ⟨gh, 1, none⟩ = some (.int .i64 m.p) ∧ w'.cell? ⟨gh, 2, none⟩ = some (.int .i64 k)) (first | exact ⟨(own_cells 0 hd1 rfl).1 0, (own_cells 4 hd1 rfl).1 0, (own_cells 4 hd1 rfl).1 1, (own_cells 4 hd1 rfl).1 2⟩ | exact ⟨(own_cells 0 h7 rfl).1 0, (own_cells 4 h7 rfl).1 0, (own_cells 4 h7 rfl).1 1, (own_cells 4 h7 rfl).1 2⟩ | exact ⟨(own_cells 0 h6 rfl).1 0, (own_cells 4 h6 rfl).1 0, (own_cells 4 h6 rfl).1 1, (own_cells 4 h6 rfl).1 2⟩) (first | (go_at_call 34; refine (HSC.out _ _ hd1).mono ?_; rintro e w7 ⟨rfl, hx7, h7⟩) | (go_at_call 52; refine (HW.out _ _ (own_pick 3 h7 rfl)).mono ?_; rintro e w5 ⟨rfl, hx5', h6'⟩; have h6 := own_put h7 3 rfl h6'))
    have hx5 := (hx4.drew.trans hx7).trans hx5'
    clear hd1 h7 h6' h5 hx4
    by_cases hz : r.1 = 0
    · have hS : S = (0, { m.flush with d := r.2.flush, b := k }) := by rw [HE2.out, if_neg (by simpa using hz)]
      have HS := Lib.hid hS
      have d0 : decide (0 < r.1) = false := decide_eq_false (by omega)
      clear hz hS
      have h7 : own w5 (rimgAt b bd m.flush :: rdevAt bd r.2 :: pts gh (.cells #[.int .i64 m.c, .int .i64 m.p, .int .i64 k] 52 (0, 0)) :: R) := rimg_close h6
      clear h6
      go_wp2_with fail
      refine (HF2.out _ w5 h7).mono ?_
      rintro e w8 ⟨rfl, hx8, h8⟩
      replace hx8 := hx5.trans hx8
      obtain ⟨vt2, vh2, h9⟩ := rimg_open h8
      clear h7 h8 hx5
      obtain ⟨c, f⟩ := own_cells 0 h9 rfl
      obtain ⟨c4, f4⟩ := own_cells 4 h9 rfl
      go_wp2_with fail
      go_ret
      rw [HS.out]
      have h10 := own_set (i := 3) (v := .int .i64 k) 0 (own_set (i := 2) (v := .int .i64 m.p) 0 (own_set (i := 1) (v := .int .i64 m.c) 0 h9 rfl) rfl) rfl
      refine ⟨rfl, ((hx8.setCell _ _).setCell _ _).setCell _ _, ?_⟩
      have h11 := rimg_close (m := { m.flush with d := r.2.flush, b := k }) h10
      exact own_erase 2 h11 rfl
    · have hS : S = (r.1, { m.flush with d := r.2 }) := by rw [HE2.out, if_pos hz]
      have HS := Lib.hid hS
      have hpz : 0 < r.1 := by omega
      have d0 : decide (0 < r.1) = true := decide_eq_true hpz
      skip
      clear hz hS
      go_wp2_with fail
      go_ret
      rw [HS.out]
      have h11 := rimg_close (m := { m.flush with d := r.2 }) h6
      exact ⟨rfl, hx5, own_erase 2 h11 rfl⟩

end Go.Proofs.Ytbpblokfiajpjaa

namespace Go.Proofs.Ytbpblokfiajpjaa
open Go.RowKit Go.SL Go.Crc
attribute [local go_sem ↓] Go.wp_at_zero Go.wp_at_succ

theorem foldl_size {p : List (Int × ByteArray)} {a : Int} : ∀ {s : ByteArray}, s.size = 16 → (∀ x ∈ p, x.2.size = 16) → (p.foldl (fun s x => if x.1 = a then x.2 else s) s).size = 16 := by
  induction p with
  | nil => intro s h _; exact h
  | cons x p ih =>
    intro s h hp
    rw [List.foldl_cons]
    refine ih ?_ fun y hy => hp y (by simp [hy])
    split
    · exact hp x (by simp)
    · exact h
theorem seen_size {m : DevM} (hm : m.Ok) {a : Int} (h0 : 0 ≤ a) (h1 : a < m.fl.length) : (m.seen a).size = 16 := by
  unfold DevM.seen
  refine foldl_size (hm.fl _ ?_) fun x hx => (hm.pend x hx).2.2
  simp [show a.toNat < m.fl.length by omega]
def ImgM.secs (m : ImgM) (y : Int) (q : Nat) : List ByteArray := (List.range q).map fun (j : Nat) => m.d.seen (m.first y + (j : Int))
def ImgM.read (m : ImgM) (k : Int) : ByteArray × Int :=
  if m.there k = true then (if m.kind k = 0 then (ByteArray.empty, 4) else if m.kind k = 1 then (zs 64, 0) else (cat (m.secs (ent m.t k.toNat).2 4), 0)) else (ByteArray.empty, 1)
theorem secs_succ (m : ImgM) (y : Int) (q : Nat) : cat (m.secs y (q + 1)) = cat (m.secs y q) ++ m.d.seen (m.first y + (q : Int)) := by
  unfold ImgM.secs
  rw [List.range_succ, List.map_append]
  apply Go.WideShapes.bytes_inj
  simp [cat, catL]
theorem kind_cases {m : ImgM} (hm : m.Ok) {k : Nat} (hk : k < m.t.length) : m.kind k = 0 ∨ m.kind k = 1 ∨ m.kind k = 2 := by
  have h := entOk_range (hm.ents (ent m.t k) (by unfold ent; simp [hk]))
  have e : m.kind k = (ent m.t k).1 := rfl
  rw [e]
  omega
theorem first_in {m : ImgM} (hm : m.Ok) {y : Int} (h0 : 0 ≤ y) (h1 : y < m.p) : m.first y + 4 ≤ m.d.fl.length := by
  have := hm.need
  unfold ImgM.first
  omega

set_option maxRecDepth 100000 in
set_option maxHeartbeats 8000000 in
theorem read_any (b bd bh : Nat) (m : ImgM) (hm : m.Ok) (k : Int) (R : List SL.HP) (w : World) (H : own w (imgAt b bd bh m :: devAt bd m.d :: R)) :
    Calls Try.prog 88 #[.pointer (some ⟨b, 0, none⟩), .int .i64 k] w fun e w' => e = .returned (.tuple #[.string (m.read k).1, errV (m.read k).2]) ∧ Ext w w' ∧ own w' (imgAt b bd bh m :: devAt bd m.d :: R) := by
  have hth := there_any b bd bh m k _ w H
  cases ht : m.there k
  · have e : m.read k = (ByteArray.empty, 1) := by unfold ImgM.read; rw [ht, if_neg (by decide)]
    rw [e]
    rw [ht] at hth
    have HT := Lib.hid hth
    clear hth e ht
    go_enter Try.func88, Try.ntmps88
    go_wp2_with fail
    refine HT.out.mono ?_
    rintro e w' ⟨rfl, rfl⟩
    go_wp2_with fail
    go_ret2
    exact ⟨rfl, Ext.refl _, H⟩
  · rw [ht] at hth
    obtain ⟨k0, -, hkl⟩ := there_range hm ht
    obtain ⟨n, rfl⟩ := Int.eq_ofNat_of_zero_le k0
    rw [Int.toNat_natCast] at hkl
    have HT := Lib.hid hth
    obtain ⟨v, h⟩ := img_open H
    obtain ⟨ao, g, cap, rfl, r1, r2, r3, -, -, r6, -⟩ := own_row_form 1 h rfl
    obtain rfl := r3 (by omega)
    have x1 : w.cell? ⟨g, n * 2, none⟩ = some (.int .i64 (m.kind n)) := r6 _ _ (entCells_get hkl).1
    obtain ⟨c, f⟩ := own_cells 0 h rfl
    have i1 : (0 : Int) ≤ (n : Int) := by omega
    have i2 : (n : Int) < (m.t.length : Int) := by omega
    rcases kind_cases hm hkl with h0 | h0 | h0
    · have e : m.read n = (ByteArray.empty, 4) := by unfold ImgM.read; rw [ht, if_pos rfl, if_pos h0]
      rw [e]
      rw [h0] at x1
      clear hth e ht r3 r6 h0
      go_enter Try.func88, Try.ntmps88
      go_wp2_with fail
      refine HT.out.mono ?_
      rintro e w' ⟨rfl, rfl⟩
      go_wp2_with fail
      go_ret2
      exact ⟨rfl, Ext.refl _, H⟩
    · have e : m.read n = (zs 64, 0) := by unfold ImgM.read; rw [ht, if_pos rfl, if_neg (by omega), if_pos h0]
      rw [e]
      rw [h0] at x1
      clear hth e ht r3 r6 h0
      go_enter Try.func88, Try.ntmps88
      go_wp2_with fail
      refine HT.out.mono ?_
      rintro e w' ⟨rfl, rfl⟩
      go_wp2_with fail
      refine (rep_any 64 (by omega) w).mono ?_
      rintro e w2 ⟨rfl, hb2⟩
      go_wp2_with fail
      go_ret2
      exact ⟨rfl, ext_below hb2, own_below H hb2⟩
    · have e : m.read n = (cat (m.secs (ent m.t n).2 4), 0) := by unfold ImgM.read; rw [ht, if_pos rfl, if_neg (by omega), if_neg (by omega), Int.toNat_natCast]
      rw [e]
      rw [h0] at x1
      obtain ⟨y0, y1⟩ := data_range hm hkl h0
      have hin := first_in hm y0 y1
      obtain ⟨C, hC, q1, q2, q3, q4, q5, q6, -⟩ := hm.nat
      obtain ⟨F0, F1⟩ := first_le hm y0 (by omega)
      have HGET : Hid ((entCells m.t)[n * 2 + 1]? = some (.int .i64 (ent m.t n).2)) := Lib.hid (entCells_get (l := m.t) hkl).2
      have HSEC := Lib.hid (secs_succ m (ent m.t n).2)
      have HSZ := Lib.hid (fun (q : Nat) (hq : q ≤ 4) => show (cat (m.secs (ent m.t n).2 q)).size = q * 16 from by
        have := catL_length (l := m.secs (ent m.t n).2 q) (k := 16) fun s hs => by
          simp only [ImgM.secs, List.mem_map, List.mem_range] at hs
          obtain ⟨j, hj, rfl⟩ := hs
          exact seen_size hm.d (by omega) (by omega)
        simp [ImgM.secs] at this
        simpa [cat, ByteArray.size, ImgM.secs] using this)
      have HSS := Lib.hid (fun (q : Nat) (hq : q < 4) => seen_size hm.d (a := m.first (ent m.t n).2 + (q : Int)) (by omega) (by omega))
      have hd := hm.d
      have hl2 : m.d.fl.length ≤ 200 := hd.n
      have HFI := Lib.hid (fun (R : List SL.HP) (w : World) (H : own w (imgAt b bd bh m :: R)) => first_any b bd bh m hm (ent m.t n).2 y0 (by omega) R w H)
      have hc0 : cat (m.secs (ent m.t n).2 0) = ⟨#[]⟩ := rfl
      have HC0 := Lib.hid hc0
      generalize hcq : (fun q => cat (m.secs (ent m.t n).2 q)) = CQ at *
      have hcq' : ∀ q, cat (m.secs (ent m.t n).2 q) = CQ q := fun q => by rw [← hcq]
      simp only [hcq'] at HSEC HSZ HC0 ⊢
      clear hcq hcq' hc0
      generalize (ent m.t n).2 = y at *
      generalize m.first y = F at *
      clear hth e ht r3 r6 h0 hC q1 q2 q3 q4 q5 q6
      go_enter Try.func88, Try.ntmps88
      go_wp2_with fail
      refine HT.out.mono ?_
      rintro e w' ⟨rfl, rfl⟩
      go_wp2_with fail
      go_loopw [6, 29] (fun s i wr => ∃ q : Nat, q ≤ 4 ∧ i = .int .i64 q ∧ s = .string (CQ q) ∧ Ext w wr ∧ own wr (imgAt b bd bh m :: devAt bd m.d :: R)) (fun _ i _ => 4 - (intOf i).toNat)
      case atStart => exact ⟨0, by omega, rfl, by rw [HC0.out], Ext.refl _, H⟩
      case round =>
        clear c f x1 h
        obtain ⟨q, hq, rfl, rfl, hxr, hown⟩ := hrel
        by_cases hlt : q < 4
        · have hz := HSZ.out q (by omega)
          have hss := HSS.out q hlt
          have hsec := HSEC.out q
          have e4 : IntKind.i64.wrap (F + (q : Int)) = F + (q : Int) := IntWalk.i64_in _ (by omega)
          have hg0 : 0 ≤ F + (q : Int) := by omega
          have hg1 : F + (q : Int) < m.d.fl.length := by omega
          obtain ⟨v, h⟩ := img_open hown
          obtain ⟨ao2, g2, cap2, rfl, -, -, t3, -, -, t6, -⟩ := own_row_form 1 h rfl
          obtain rfl := t3 (by omega)
          clear t3 t6
          have hd1 := own_drew h
          have HSEQ := Lib.hid hsec
          clear hsec
          have HRD := Lib.hid (fun (R : List SL.HP) (w : World) (H : own w (devAt bd m.d :: R)) => dev_read bd m.d hd (F + (q : Int)) R w H)
          rw [if_neg (show ¬ (F + (q : Int) < 0 ∨ (m.d.fl.length : Int) ≤ F + (q : Int)) by omega)] at HRD
          generalize m.d.seen (F + (q : Int)) = sq at *
          generalize CQ q = cq at *
          go_upto_region 12 with (fail)
          go_region_held3 (fun w' => w'.cell? ⟨b, 0, none⟩ = some (.pointer (some ⟨bd, 0, none⟩)) ∧ w'.cell? ⟨b, 4, none⟩ = some (.slice (some ⟨g2, 0, none⟩) m.t.length cap2) ∧ w'.cell? ⟨g2, n * 2 + 1, none⟩ = some (.int .i64 y)) (exact ⟨(own_cells 0 hd1 rfl).1 0, (own_cells 0 hd1 rfl).1 4, (own_row_cells 1 hd1 rfl).1 _ _ HGET.out⟩) (first | (go_at_call 116; refine (HFI.out _ _ (img_close hd1)).mono ?_; rintro e w' ⟨rfl, rfl⟩) | (go_at_call 53; refine (HRD.out _ _ (own_pick 3 hd1 rfl)).mono ?_; rintro e w' ⟨rfl, rfl⟩))
          have h5 : own _ (imgAt b bd bh m :: devAt bd m.d :: R) := img_close hd1
          have hx5 := hxr.drew
          clear e4 hd1 h
          go_wp2_with fail
          go_roundw
          case rel => exact ⟨q + 1, by omega, by go_num, by rw [HSEQ.out], hx5, h5⟩
          case measure => simp [intOf]; omega
        · have hqe : q = 4 := by omega
          subst hqe
          go_wp2_with fail
          go_ret2
          exact ⟨rfl, hxr, hown⟩

set_option maxRecDepth 100000 in
set_option maxHeartbeats 8000000 in
theorem rread_any (b bd : Nat) (m : ImgM) (hm : m.Ok) (k : Int) (R : List SL.HP) (w : World) (H : own w (rimgAt b bd m :: rdevAt bd m.d :: R)) :
    Calls Try.prog 105 #[.pointer (some ⟨b, 0, none⟩), .int .i64 k] w fun e w' => e = .returned (.tuple #[.string (m.read k).1, .int .i64 (m.read k).2]) ∧ Ext w w' ∧ own w' (rimgAt b bd m :: rdevAt bd m.d :: R) := by
  have hth := rthere_any b bd m k _ w H
  cases ht : m.there k
  · have e : m.read k = (ByteArray.empty, 1) := by unfold ImgM.read; rw [ht, if_neg (by decide)]
    rw [e]
    rw [ht] at hth
    have HT := Lib.hid hth
    clear hth e ht
    go_enter Try.func105, Try.ntmps105
    go_wp2_with fail
    refine HT.out.mono ?_
    rintro e w' ⟨rfl, rfl⟩
    go_wp2_with fail
    go_ret2
    exact ⟨rfl, Ext.refl _, H⟩
  · rw [ht] at hth
    obtain ⟨k0, -, hkl⟩ := there_range hm ht
    obtain ⟨n, rfl⟩ := Int.eq_ofNat_of_zero_le k0
    rw [Int.toNat_natCast] at hkl
    have HT := Lib.hid hth
    obtain ⟨vt, vh, h⟩ := rimg_open H
    obtain ⟨ao, g, cap, rfl, r1, r2, r3, -, -, r6, -⟩ := own_row_form 1 h rfl
    obtain rfl := r3 (by omega)
    have x1 : w.cell? ⟨g, n * 2, none⟩ = some (.int .i64 (m.kind n)) := r6 _ _ (entCells_get hkl).1
    obtain ⟨c, f⟩ := own_cells 0 h rfl
    have i1 : (0 : Int) ≤ (n : Int) := by omega
    have i2 : (n : Int) < (m.t.length : Int) := by omega
    rcases kind_cases hm hkl with h0 | h0 | h0
    · have e : m.read n = (ByteArray.empty, 4) := by unfold ImgM.read; rw [ht, if_pos rfl, if_pos h0]
      rw [e]
      rw [h0] at x1
      clear hth e ht r3 r6 h0
      go_enter Try.func105, Try.ntmps105
      go_wp2_with fail
      refine HT.out.mono ?_
      rintro e w' ⟨rfl, rfl⟩
      go_wp2_with fail
      go_ret2
      exact ⟨rfl, Ext.refl _, H⟩
    · have e : m.read n = (zs 64, 0) := by unfold ImgM.read; rw [ht, if_pos rfl, if_neg (by omega), if_pos h0]
      rw [e]
      rw [h0] at x1
      clear hth e ht r3 r6 h0
      go_enter Try.func105, Try.ntmps105
      go_wp2_with fail
      refine HT.out.mono ?_
      rintro e w' ⟨rfl, rfl⟩
      go_wp2_with fail
      refine (noughts_any 64 (by omega) _ w H).mono ?_
      rintro e w2 ⟨rfl, hx2, h2⟩
      go_wp2_with fail
      go_ret2
      exact ⟨rfl, hx2, h2⟩
    · have e : m.read n = (cat (m.secs (ent m.t n).2 4), 0) := by unfold ImgM.read; rw [ht, if_pos rfl, if_neg (by omega), if_neg (by omega), Int.toNat_natCast]
      rw [e]
      rw [h0] at x1
      obtain ⟨y0, y1⟩ := data_range hm hkl h0
      have hin := first_in hm y0 y1
      obtain ⟨C, hC, q1, q2, q3, q4, q5, q6, -⟩ := hm.nat
      obtain ⟨F0, F1⟩ := first_le hm y0 (by omega)
      have HGET : Hid ((entCells m.t)[n * 2 + 1]? = some (.int .i64 (ent m.t n).2)) := Lib.hid (entCells_get (l := m.t) hkl).2
      have HSEC := Lib.hid (secs_succ m (ent m.t n).2)
      have HSZ := Lib.hid (fun (q : Nat) (hq : q ≤ 4) => show (cat (m.secs (ent m.t n).2 q)).size = q * 16 from by
        have := catL_length (l := m.secs (ent m.t n).2 q) (k := 16) fun s hs => by
          simp only [ImgM.secs, List.mem_map, List.mem_range] at hs
          obtain ⟨j, hj, rfl⟩ := hs
          exact seen_size hm.d (by omega) (by omega)
        simp [ImgM.secs] at this
        simpa [cat, ByteArray.size, ImgM.secs] using this)
      have HSS := Lib.hid (fun (q : Nat) (hq : q < 4) => seen_size hm.d (a := m.first (ent m.t n).2 + (q : Int)) (by omega) (by omega))
      have hd := hm.d
      have hl2 : m.d.fl.length ≤ 200 := hd.n
      have HFI := Lib.hid (fun (R : List SL.HP) (w : World) (H : own w (rimgAt b bd m :: R)) => rfirst_any b bd m hm (ent m.t n).2 y0 (by omega) R w H)
      have hc0 : cat (m.secs (ent m.t n).2 0) = ⟨#[]⟩ := rfl
      have HC0 := Lib.hid hc0
      generalize hcq : (fun q => cat (m.secs (ent m.t n).2 q)) = CQ at *
      have hcq' : ∀ q, cat (m.secs (ent m.t n).2 q) = CQ q := fun q => by rw [← hcq]
      simp only [hcq'] at HSEC HSZ HC0 ⊢
      clear hcq hcq' hc0
      generalize (ent m.t n).2 = y at *
      generalize m.first y = F at *
      clear hth e ht r3 r6 h0 hC q1 q2 q3 q4 q5 q6
      go_enter Try.func105, Try.ntmps105
      go_wp2_with fail
      refine HT.out.mono ?_
      rintro e w' ⟨rfl, rfl⟩
      go_wp2_with fail
      go_loopw [6, 7] (fun s i wr => ∃ q : Nat, q ≤ 4 ∧ i = .int .i64 q ∧ s = .string (CQ q) ∧ Ext w wr ∧ own wr (rimgAt b bd m :: rdevAt bd m.d :: R)) (fun _ i _ => 4 - (intOf i).toNat)
      case atStart => exact ⟨0, by omega, rfl, by rw [HC0.out], Ext.refl _, H⟩
      case round =>
        clear c f x1 h
        obtain ⟨q, hq, rfl, rfl, hxr, hown⟩ := hrel
        by_cases hlt : q < 4
        · have hz := HSZ.out q (by omega)
          have hss := HSS.out q hlt
          have hsec := HSEC.out q
          have e4 : IntKind.i64.wrap (F + (q : Int)) = F + (q : Int) := IntWalk.i64_in _ (by omega)
          have hg0 : 0 ≤ F + (q : Int) := by omega
          have hg1 : F + (q : Int) < m.d.fl.length := by omega
          obtain ⟨vt, vh, h⟩ := rimg_open hown
          obtain ⟨ao2, g2, cap2, rfl, -, -, t3, -, -, t6, -⟩ := own_row_form 1 h rfl
          obtain rfl := t3 (by omega)
          clear t3 t6
          have y0 := (own_cells 0 h rfl).1 0
          have y4 := (own_cells 0 h rfl).1 4
          have y5 := (own_row_cells 1 h rfl).1 _ _ HGET.out
          have HOW := Lib.hid h
          have HSEQ := Lib.hid hsec
          clear hsec
          have HRD := Lib.hid (fun (R : List SL.HP) (w : World) (H : own w (rdevAt bd m.d :: R)) => rdev_seen bd m.d hd (F + (q : Int)) hg0 hg1 R w H)
          generalize m.d.seen (F + (q : Int)) = sq at *
          generalize CQ q = cq at *
          go_upto_region 12 with (fail)
          go_quiet ((first | (go_at_call 119; exact Calls.quiet_of_same ((HFI.out _ _ (rimg_close (by first | exact HOW.out | exact own_drew HOW.out | exact own_drewN _ HOW.out))).mono fun e w' h => ⟨h.1, h.2.symm⟩)) | (go_at_call 54; exact Calls.quiet_of_same ((HRD.out _ _ (own_pick 3 (by first | exact HOW.out | exact own_drew HOW.out | exact own_drewN _ HOW.out) rfl)).mono fun e w' h => ⟨h.1, h.2.symm⟩))))
          have h5 : own _ (rimgAt b bd m :: rdevAt bd m.d :: R) := rimg_close (own_drewN nq HOW.out)
          have hx5 := hxr.drewN nq
          clear e4 h y0 y4 y5
          go_wp2_with fail
          go_roundw
          case rel => exact ⟨q + 1, by omega, by go_num, by rw [HSEQ.out], hx5, h5⟩
          case measure => simp [intOf]; omega
        · have hqe : q = 4 := by omega
          subst hqe
          go_wp2_with fail
          go_ret2
          exact ⟨rfl, hxr, hown⟩

end Go.Proofs.Ytbpblokfiajpjaa

namespace Go.Proofs.Ytbpblokfiajpjaa
open Go.RowKit Go.SL Go.Crc
attribute [local go_sem ↓] Go.wp_at_zero Go.wp_at_succ

def fitBad (d : DevM) (c p b : Int) : Prop := headBad c p b ∨ (d.fl.length : Int) < needN c p
instance (d : DevM) (c p b : Int) : Decidable (fitBad d c p b) := by unfold fitBad; infer_instance
def fitF (d : DevM) (c p b : Int) : Int := if fitBad d c p b then 1 else 0

set_option maxRecDepth 100000 in
set_option maxHeartbeats 2000000 in
theorem fits_any (bd : Nat) (d : DevM) (hd : d.Ok) (c p b : Int) (R : List SL.HP) (w : World) (H : own w (devAt bd d :: R)) :
    Calls Try.prog 90 #[.pointer (some ⟨bd, 0, none⟩), headV c p b] w fun e w' => e = .returned (errV (fitF d c p b)) ∧ Ext w w' ∧ own w' (devAt bd d :: R) := by
  have ha := own_alloc H (.cells #[.int .i64 c, .int .i64 p, .int .i64 b] 52)
  have hxa := (Ext.refl w).alloc (.cells #[.int .i64 c, .int .i64 p, .int .i64 b] 52)
  obtain ⟨F, hF⟩ : ∃ F, F = fitF d c p b := ⟨_, rfl⟩
  rw [← hF]
  have HF := Lib.hid hF
  clear hF
  have hq := checkhead_any c p b _ _ ha
  by_cases hb : headBad c p b
  · have hS : F = 1 := by rw [HF.out, fitF, if_pos (.inl hb)]
    rw [show headF c p b = 1 from if_pos hb] at hq
    have HQ := Lib.hid hq
    have HS := Lib.hid hS
    unfold headV at HQ
    unfold headV
    clear hq hb hS
    go_enter Try.func90, Try.ntmps90
    go_upto_region 1 with (fail)
    obtain ⟨cc, ff⟩ := own_cells 0 ha rfl
    generalize w.heap.size = g at *
    generalize w.alloc (.cells #[.int .i64 c, .int .i64 p, .int .i64 b] 52) = w1 at *
    go_wp2_with fail
    refine HQ.out.mono ?_
    rintro e w2 ⟨rfl, hx2, h2⟩
    rw [show errV 1 = .iface 121 (.int .i64 1) from rfl]
    go_wp2_with fail
    go_ret
    rw [HS.out]
    exact ⟨rfl, hxa.trans hx2, own_drop h2⟩
  · rw [show headF c p b = 0 from if_neg hb, errV_0] at hq
    have HQ := Lib.hid hq
    have HN := Lib.hid (fun (R : List SL.HP) (w : World) (H : own w R) => need_any c p b hb R w H)
    have hE : F = if (d.fl.length : Int) < needN c p then 1 else 0 := by
      rw [HF.out]
      unfold fitF
      by_cases h : (d.fl.length : Int) < needN c p
      · rw [if_pos (show fitBad d c p b from .inr h), if_pos h]
      · rw [if_neg (show ¬ fitBad d c p b from fun h' => h'.elim hb h), if_neg h]
    have HE := Lib.hid hE
    unfold headV at HQ HN
    unfold headV
    clear hq hb hE
    generalize needN c p = nd at *
    go_enter Try.func90, Try.ntmps90
    go_upto_region 1 with (fail)
    obtain ⟨cc, ff⟩ := own_cells 0 ha rfl
    generalize w.heap.size = g at *
    generalize w.alloc (.cells #[.int .i64 c, .int .i64 p, .int .i64 b] 52) = w1 at *
    go_wp2_with fail
    refine HQ.out.mono ?_
    rintro e w2 ⟨rfl, hx2, h2⟩
    clear cc ff
    obtain ⟨cc, ff⟩ := own_cells 0 h2 rfl
    go_wp2_with fail
    refine (HN.out _ w2 h2).mono ?_
    rintro e w3 ⟨rfl, hx3, h3⟩
    go_wp2_with fail
    refine (dev_size bd d _ w3 (own_pick 1 h3 rfl)).mono ?_
    rintro e w4 ⟨rfl, rfl⟩
    have hx4 := (hxa.trans hx2).trans hx3
    by_cases h : (d.fl.length : Int) < nd
    · have hS : F = 1 := by rw [HE.out, if_pos h]
      have HS := Lib.hid hS
      have d0 : decide ((d.fl.length : Int) < nd) = true := decide_eq_true h
      clear h hS
      go_wp2_with fail
      go_ret
      rw [HS.out]
      exact ⟨rfl, hx4, own_drop h3⟩
    · have hS : F = 0 := by rw [HE.out, if_neg h]
      have HS := Lib.hid hS
      have d0 : decide ((d.fl.length : Int) < nd) = false := decide_eq_false h
      clear h hS
      go_wp2_with fail
      go_ret
      rw [HS.out]
      exact ⟨rfl, hx4, own_drop h3⟩

def zeroT (c : Int) : List Ent := List.replicate c.toNat (0, 0)
def rowsL (t : List Ent) : List ByteArray := (List.range (rowsN t.length)).map fun (k : Nat) => (rowOf t k).1
def madeM (d : DevM) (c p b : Int) : ImgM := ⟨d, c, p, b, zeroT c, []⟩
def createR (d : DevM) (c p b : Int) : Int × ImgM :=
  if fitBad d c p b then (1, madeM d c p b)
  else if (d.puts 1 (rowsL (zeroT c))).1 ≠ 0 then ((d.puts 1 (rowsL (zeroT c))).1, madeM (d.puts 1 (rowsL (zeroT c))).2 c p b)
  else if ((d.puts 1 (rowsL (zeroT c))).2.flush.write 0 (headS c p b)).1 ≠ 0 then (((d.puts 1 (rowsL (zeroT c))).2.flush.write 0 (headS c p b)).1, madeM ((d.puts 1 (rowsL (zeroT c))).2.flush.write 0 (headS c p b)).2 c p b)
  else (0, madeM ((d.puts 1 (rowsL (zeroT c))).2.flush.write 0 (headS c p b)).2.flush c p b)
def MadePost (bd : Nat) (S : Int × ImgM) (R : List SL.HP) (w : World) (e : Ending) (w' : World) : Prop :=
  (S.1 ≠ 0 ∧ e = .returned (.tuple #[.pointer none, errV S.1]) ∧ Ext w w' ∧ own w' (devAt bd S.2.d :: R)) ∨
  (S.1 = 0 ∧ ∃ bi bh, e = .returned (.tuple #[.pointer (some ⟨bi, 0, none⟩), .nilIface]) ∧ Ext w w' ∧ own w' (imgAt bi bd bh S.2 :: devAt bd S.2.d :: R))
theorem entCells_zero (n : Nat) : (madeCells #[.int .i64 0, .int .i64 0] (n * 2)).toList = entCells (List.replicate n (0, 0)) := by
  induction n with
  | zero => simp [madeCells, entCells]
  | succ n ih =>
    rw [List.replicate_succ', entCells_append, ← ih]
    unfold madeCells
    rw [show (n + 1) * 2 = n * 2 + 1 + 1 by omega]
    simp [Array.range_succ, entCells, Nat.add_mod]
end Go.Proofs.Ytbpblokfiajpjaa

namespace Go.Proofs.Ytbpblokfiajpjaa
open Go.RowKit Go.SL Go.Crc
attribute [local go_sem ↓] Go.wp_at_zero Go.wp_at_succ

def putInvL (L : DevM → List HP) (d : DevM) (at_ : Int) (l : List ByteArray) (res : Int × DevM) (w0 : World) (i : Value) (wr : World) : Prop :=
  ∃ (k : Nat) (dk : DevM), k ≤ l.length ∧ i = .int .i64 k ∧ dk.puts (at_ + k) (l.drop k) = res ∧ dk.Ok ∧ dk.pend.length ≤ d.pend.length + k ∧ dk.writes ≤ d.writes + k ∧ Ext w0 wr ∧ own wr (L dk)

theorem row_made {w : World} {L : List HP} (C : Nat) (hC : C ≤ 1000) (H : own w L) :
    own (w.alloc (.cells (madeCells #[.int .i64 0, .int .i64 0] (C * 2)) 64)) (row 64 2 (.slice (some ⟨w.heap.size, 0, none⟩) C C) C (entCells (List.replicate C (0, 0))) :: L) :=
  own_row_of 0 (n := C) (cap := C) (sz := 2) (xs := entCells (List.replicate C (0, 0))) (own_alloc H (.cells (madeCells #[.int .i64 0, .int .i64 0] (C * 2)) 64)) rfl (Nat.le_refl _) (by simp only [maxLen]; omega) (size_madeCells _ _) (by
    rw [entCells_zero]
    exact List.take_of_length_le (by rw [entCells_len]; simp))
theorem made_img1 {w : World} {L : List HP} (d : DevM) (bd C : Nat) (hC : C ≤ 1000) (p b : Int) (H : own w L) :
    own (((w.alloc (.cells (madeCells #[.int .i64 0, .int .i64 0] (C * 2)) 64)).alloc (.map #[] 0)).alloc (.cells #[.pointer (some ⟨bd, 0, none⟩), .int .i64 (C : Int), .int .i64 p, .int .i64 b, .slice (some ⟨w.heap.size, 0, none⟩) C C, .map (some (w.heap.size + 1))] 142)) (imgAt (w.heap.size + 1 + 1) bd (w.heap.size + 1) (madeM d C p b) :: L) := by
  have h1 := row_made C hC H
  have h2 := held_made h1
  have h3 := own_alloc h2 (.cells #[.pointer (some ⟨bd, 0, none⟩), .int .i64 (C : Int), .int .i64 p, .int .i64 b, .slice (some ⟨w.heap.size, 0, none⟩) C C, .map (some (w.heap.size + 1))] 142)
  have e1 : (w.alloc (.cells (madeCells #[.int .i64 0, .int .i64 0] (C * 2)) 64)).heap.size = w.heap.size + 1 := by simp
  have e2 : ((w.alloc (.cells (madeCells #[.int .i64 0, .int .i64 0] (C * 2)) 64)).alloc (.map #[] 0)).heap.size = w.heap.size + 1 + 1 := by simp
  rw [e1, e2] at h3
  have h4 := own_behind [_] (own_pick 2 h3 rfl)
  exact img_close (m := madeM d C p b) (by
    show own _ (pts (w.heap.size + 1 + 1) _ :: row 64 2 _ (List.replicate C ((0, 0) : Ent)).length _ :: heldAt (w.heap.size + 1) [] :: L)
    rw [List.length_replicate]
    exact h4)
theorem made_img2 {w : World} {L : List HP} (d : DevM) (bd C : Nat) (hC : C ≤ 1000) (p b : Int) (H : own w L) :
    own (((w.alloc (.map #[] 0)).alloc (.cells (madeCells #[.int .i64 0, .int .i64 0] (C * 2)) 64)).alloc (.cells #[.pointer (some ⟨bd, 0, none⟩), .int .i64 (C : Int), .int .i64 p, .int .i64 b, .slice (some ⟨w.heap.size + 1, 0, none⟩) C C, .map (some w.heap.size)] 142)) (imgAt (w.heap.size + 1 + 1) bd w.heap.size (madeM d C p b) :: L) := by
  have h1 := held_made H
  have h2 := row_made C hC h1
  have h3 := own_alloc h2 (.cells #[.pointer (some ⟨bd, 0, none⟩), .int .i64 (C : Int), .int .i64 p, .int .i64 b, .slice (some ⟨w.heap.size + 1, 0, none⟩) C C, .map (some w.heap.size)] 142)
  have e1 : (w.alloc (.map #[] 0)).heap.size = w.heap.size + 1 := by simp
  have e2 : ((w.alloc (.map #[] 0)).alloc (.cells (madeCells #[.int .i64 0, .int .i64 0] (C * 2)) 64)).heap.size = w.heap.size + 1 + 1 := by simp
  rw [e1, e2] at h3
  exact img_close (m := madeM d C p b) (by
    show own _ (pts (w.heap.size + 1 + 1) _ :: row 64 2 _ (List.replicate C ((0, 0) : Ent)).length _ :: heldAt w.heap.size [] :: L)
    rw [List.length_replicate]
    exact h3)
theorem rowsL_get {c : Int} {k : Nat} (h : k < rowsN (zeroT c).length) : (rowsL (zeroT c)).drop k = (rowOf (zeroT c) k).1 :: (rowsL (zeroT c)).drop (k + 1) := by
  rw [List.drop_eq_getElem_cons (by simp [rowsL]; exact h)]
  simp [rowsL]
theorem zero_valid (C : Nat) : ∀ e ∈ zeroT (C : Int), entOk e 40 = true := fun e he => by
  unfold zeroT at he
  rw [(List.mem_replicate.1 he).2]; rfl

set_option maxRecDepth 100000 in
set_option maxHeartbeats 8000000 in
theorem create_any (bd : Nat) (d : DevM) (hd : d.Ok) (hp : d.pend.length < 999000) (hw : d.writes < 999000) (c p b : Int) (R : List SL.HP) (w : World) (H : own w (devAt bd d :: R)) :
    Calls Try.prog 67 #[.pointer (some ⟨bd, 0, none⟩), headV c p b] w (MadePost bd (createR d c p b) R w) := by
  have hE : createR d c p b = if fitBad d c p b then (1, madeM d c p b)
    else if (d.puts 1 (rowsL (zeroT c))).1 ≠ 0 then ((d.puts 1 (rowsL (zeroT c))).1, madeM (d.puts 1 (rowsL (zeroT c))).2 c p b)
    else if ((d.puts 1 (rowsL (zeroT c))).2.flush.write 0 (headS c p b)).1 ≠ 0 then (((d.puts 1 (rowsL (zeroT c))).2.flush.write 0 (headS c p b)).1, madeM ((d.puts 1 (rowsL (zeroT c))).2.flush.write 0 (headS c p b)).2 c p b)
    else (0, madeM ((d.puts 1 (rowsL (zeroT c))).2.flush.write 0 (headS c p b)).2.flush c p b) := rfl
  generalize createR d c p b = S at *
  have HE := Lib.hid hE
  clear hE
  have ha := own_alloc H (.cells #[.int .i64 c, .int .i64 p, .int .i64 b] 52)
  have hxa := (Ext.refl w).alloc (.cells #[.int .i64 c, .int .i64 p, .int .i64 b] 52)
  have HFT := Lib.hid (fun (R : List SL.HP) (w : World) (H : own w (devAt bd d :: R)) => fits_any bd d hd c p b R w H)
  unfold headV at HFT
  unfold headV
  go_enter Try.func67, Try.ntmps67
  go_upto_region 1 with (fail)
  obtain ⟨cc, ff⟩ := own_cells 0 ha rfl
  generalize w.heap.size = gh at *
  generalize w.alloc (.cells #[.int .i64 c, .int .i64 p, .int .i64 b] 52) = w1 at *
  go_wp2_with fail
  refine (HFT.out _ w1 (own_pick 1 ha rfl)).mono ?_
  rintro e w2 ⟨rfl, hx2, h2⟩
  replace hx2 := hxa.trans hx2
  clear cc ff ha hxa
  by_cases hb : fitBad d c p b
  · have hS : S = (1, madeM d c p b) := by rw [HE.out, if_pos hb]
    have HS := Lib.hid hS
    rw [show fitF d c p b = 1 from if_pos hb, show errV 1 = .iface 121 (.int .i64 1) from rfl]
    clear hb hS
    go_wp2_with fail
    go_ret2
    rw [HS.out]
    exact .inl ⟨by simp, rfl, hx2, own_erase 1 h2 rfl⟩
  · rw [show fitF d c p b = 0 from if_neg hb, errV_0]
    have hhb : ¬ headBad c p b := fun h => hb (.inl h)
    have hh := hhb
    unfold headBad at hh
    obtain ⟨C, rfl⟩ := Int.eq_ofNat_of_zero_le (show 0 ≤ c by omega)
    have c1 : 1 ≤ C := by omega
    have c2 : C ≤ 32 := by omega
    have hE2 := HE.out
    rw [if_neg hb] at hE2
    have hzt : zeroT (C : Int) = List.replicate C (0, 0) := rfl
    have hz : (madeCells #[.int .i64 0, .int .i64 0] (C * 2)).toList = entCells (List.replicate C (0, 0)) := entCells_zero C
    have hlen : (List.replicate C ((0, 0) : Ent)).length = C := by simp
    have hmk : ∀ wx : World, (Instr.makeSlice 53 (.int .i64 (C : Int)) (.int .i64 (C : Int))).run Try.prog wx = .ok (.slice (some ⟨wx.heap.size, 0, none⟩) C C) (wx.alloc (.cells (madeCells #[.int .i64 0, .int .i64 0] (C * 2)) 64)) := fun wx => by
      obtain ⟨i, hi, hzz, hs1, hs2⟩ := info_parts elem_entry
      have := run_makeSlice (P := Try.prog) wx 53 64 i _ Try.underlying53 hi hzz .i64 .i64 (C : Int) (C : Int) (by omega) (by omega) (by rw [hs1, Int.toNat_natCast]; omega) (by rw [hs2]; omega) (by omega)
      rw [hs1, Int.toNat_natCast] at this
      exact this
    have hmm := run_makeMap (P := Try.prog) 140
    have hd1 := own_drew h2
    have HB := Lib.hid hhb
    have HE2 := Lib.hid hE2
    have HZ := Lib.hid hz
    clear hb hhb hh hE2 hz hzt hlen
    obtain ⟨cc, ff⟩ := own_cells 1 h2 rfl
    go_upto_region 4 with (fail)
    go_region_held3 (fun w' => w'.cell? ⟨gh, 0, none⟩ = some (.int .i64 (C : Int)) ∧ w'.cell? ⟨gh, 1, none⟩ = some (.int .i64 p) ∧ w'.cell? ⟨gh, 2, none⟩ = some (.int .i64 b)) (first | exact ⟨(own_cells 1 hd1 rfl).1 0, (own_cells 1 hd1 rfl).1 1, (own_cells 1 hd1 rfl).1 2⟩ | exact ⟨(own_cells 2 (own_alloc hd1 _) rfl).1 0, (own_cells 2 (own_alloc hd1 _) rfl).1 1, (own_cells 2 (own_alloc hd1 _) rfl).1 2⟩ | exact ⟨(own_cells 3 (own_alloc (own_alloc hd1 _) _) rfl).1 0, (own_cells 3 (own_alloc (own_alloc hd1 _) _) rfl).1 1, (own_cells 3 (own_alloc (own_alloc hd1 _) _) rfl).1 2⟩ | exact ⟨(own_cells 4 (own_alloc (own_alloc (own_alloc hd1 _) _) _) rfl).1 0, (own_cells 4 (own_alloc (own_alloc (own_alloc hd1 _) _) _) rfl).1 1, (own_cells 4 (own_alloc (own_alloc (own_alloc hd1 _) _) _) rfl).1 2⟩) (fail)
    · -- way 1
      have h4 := own_drew (made_img1 d bd C (by omega) p b h2)
      have hx4 := (((hx2.alloc (.cells (madeCells #[.int .i64 0, .int .i64 0] (C * 2)) 64)).alloc (.map #[] 0)).alloc (.cells #[.pointer (some ⟨bd, 0, none⟩), .int .i64 (C : Int), .int .i64 p, .int .i64 b, .slice (some ⟨w2.heap.size, 0, none⟩) C C, .map (some (w2.heap.size + 1))] 142)).drew
      generalize (((w2.alloc (.cells (madeCells #[.int .i64 0, .int .i64 0] (C * 2)) 64)).alloc (.map #[] 0)).alloc (.cells #[.pointer (some ⟨bd, 0, none⟩), .int .i64 (C : Int), .int .i64 p, .int .i64 b, .slice (some ⟨w2.heap.size, 0, none⟩) C C, .map (some (w2.heap.size + 1))] 142)).drew = w4 at h4 hx4 ⊢
      generalize w2.heap.size + 1 + 1 = bi at *
      generalize w2.heap.size + 1 = bh at *
      obtain ⟨cc, ff⟩ := own_cells 2 h4 rfl
      have hlz : (zeroT (C : Int)).length = C := by simp [zeroT]
      have hrz : rowsN (zeroT (C : Int)).length = rowsN C := by rw [hlz]
      have hrn : rowsN C ≤ 4 := by unfold rowsN; omega
      have hll : (rowsL (zeroT (C : Int))).length = rowsN C := by simp [rowsL, hlz]
      have HGET := Lib.hid (fun (k : Nat) (h : k < rowsN C) => rowsL_get (c := (C : Int)) (k := k) (by rw [hlz]; exact h))
      have HEND := Lib.hid (show (rowsL (zeroT (C : Int))).drop (rowsN C) = [] from List.drop_of_length_le (by omega))
      have HOK := Lib.hid (fun (k : Nat) (h : k < rowsN C) => rowOf_valid (t := zeroT (C : Int)) (r := k) (by rw [hlz]; omega) (by rw [hlz]; exact h) (zero_valid C))
      have HRW := Lib.hid (rows_any C (by omega))
      have hpo := puts_ok (l := rowsL (zeroT (C : Int))) (d := d) (a := 1) hd (by omega) (by omega)
      have hpn := puts_nonneg (l := rowsL (zeroT (C : Int))) (d := d) (a := 1)
      rw [hll] at hpo
      have HIR := Lib.hid (fun (dk : DevM) (okd : dk.Ok) (hw : dk.writes < 1000000) (hp : dk.pend.length < 1000000) (k : Nat) (hk : k < rowsN C) (R : List SL.HP) (w : World) (H : own w (imgAt bi bd bh (madeM d C p b) :: devAt bd dk :: R)) =>
        imgrow_any bi bd bh (madeM dk C p b) okd (show (zeroT (C : Int)).length ≤ 1000 by rw [hlz]; omega) hw hp k (by omega) (HOK.out k hk) R w H)
      have HE3 := HE2.out
      generalize hrl : rowsL (zeroT (C : Int)) = RL at *
      generalize hres : d.puts 1 RL = res at *
      have HRES := Lib.hid hres
      have HE4 := Lib.hid HE3
      generalize hN : rowsN C = N at *
      obtain ⟨o1, o2, o3, o4⟩ := hpo
      clear HE3 hlz hrz HE2 HE hd1 hmk hmm hres hrl HZ
      go_wp2_with fail
      refine (HRW.out w4).mono ?_
      rintro e w' ⟨rfl, rfl⟩
      go_wp2_with fail
      go_loopw [27] (putInvL (fun dk => imgAt bi bd bh (madeM d C p b) :: devAt bd dk :: pts gh (.cells #[.int .i64 C, .int .i64 p, .int .i64 b] 52 (0, 0)) :: R) d 1 RL res w) (fun i _ => N - (intOf i).toNat)
      case atStart => exact ⟨0, d, by omega, rfl, by simpa using HRES.out, hd, by omega, by simp, hx4, h4⟩
      case round =>
        clear cc ff
        obtain ⟨k, dk, hk, rfl, hput, okd, hpk, hwk, hxr, hown⟩ := hrel
        rw [hll] at hk
        by_cases hlt : k < N
        · rw [HGET.out k hlt] at hput
          have HPUT := Lib.hid hput
          clear hput
          have e1 : IntKind.i64.wrap ((k : Int) + 1) = (k : Int) + 1 := IntWalk.i64_in _ (by omega)
          have hkN : (k : Int) < (N : Int) := by omega
          have HW := Lib.hid (HIR.out dk okd (by omega) (by omega) k hlt)
          have hcode := write_nonneg dk (1 + (k : Int)) (rowOf (zeroT (C : Int)) k).1
          obtain ⟨l1, l2, l3⟩ := write_lens dk (1 + (k : Int)) (rowOf (zeroT (C : Int)) k).1
          have okw := DevM.write_ok okd (1 + (k : Int)) (rowOf (zeroT (C : Int)) k).1 (by omega) (by omega)
          have hstep : dk.puts (1 + (k : Int)) ((rowOf (zeroT (C : Int)) k).1 :: RL.drop (k + 1)) = if (dk.write (1 + (k : Int)) (rowOf (zeroT (C : Int)) k).1).1 ≠ 0 then dk.write (1 + (k : Int)) (rowOf (zeroT (C : Int)) k).1 else (dk.write (1 + (k : Int)) (rowOf (zeroT (C : Int)) k).1).2.puts (1 + (k : Int) + 1) (RL.drop (k + 1)) := rfl
          rw [HPUT.out] at hstep
          have HSTP := Lib.hid hstep
          clear hstep l1
          change Hid (∀ (R : List SL.HP) (w : World), own w (imgAt bi bd bh (madeM d C p b) :: devAt bd dk :: R) → Calls Try.prog 91 #[.pointer (some ⟨bi, 0, none⟩), .int .i64 k] w fun e w' => e = .returned (errV (dk.write (1 + (k : Int)) (rowOf (zeroT (C : Int)) k).1).1) ∧ Ext w w' ∧ own w' (imgAt bi bd bh (madeM d C p b) :: devAt bd (dk.write (1 + (k : Int)) (rowOf (zeroT (C : Int)) k).1).2 :: R)) at HW
          generalize dk.write (1 + (k : Int)) (rowOf (zeroT (C : Int)) k).1 = r at *
          clear HIR HGET HOK
          go_wp2_with fail
          refine (HW.out _ wr hown).mono ?_
          rintro e w5 ⟨rfl, hx5', h5⟩
          have hx5 := hxr.trans hx5'
          clear hx5' hown hxr
          by_cases hz : r.1 = 0
          · have HZ := Lib.hid hz
            rw [hz, errV_0]
            clear hz
            go_wp2_with fail
            go_roundw
            case rel => exact ⟨k + 1, r.2, by rw [hll]; omega, by go_num, by have := HSTP.out; rw [if_neg (by simpa using HZ.out)] at this; rw [this]; congr 1 <;> omega, okw, by omega, by omega, hx5, h5⟩
            case measure => simp [intOf]; omega
          · have hfin : res = r := by have := HSTP.out; rw [if_pos hz] at this; exact this
            have hS2 : S = (r.1, madeM r.2 C p b) := by rw [HE4.out, hfin, if_pos hz]
            have HF := Lib.hid hS2
            have hpz : 0 < r.1 := by omega
            have HPE := Lib.hid (errV_pos hpz)
            rw [errV_pos hpz]
            clear hz hfin hS2
            go_wp2_with fail
            go_ret2
            rw [HF.out]
            exact .inl ⟨by dsimp only; omega, by dsimp only; rw [HPE.out]; rfl, hx5, own_erase 1 (own_erase 0 h5 rfl) rfl⟩
        · have hke : k = N := by omega
          subst hke
          rw [HEND.out, DevM.puts] at hput
          have hr0 : res.1 = 0 := by rw [← hput]
          have hr2 : res.2 = dk := by rw [← hput]
          have hS2 := HE4.out
          rw [if_neg (by simpa using hr0), hr2] at hS2
          have HF := Lib.hid hS2
          clear hput hlt hS2 hr0 hr2
          have HFL := Lib.hid (fun (R : List SL.HP) (w : World) (H : own w (devAt bd dk :: R)) => dev_flush bd dk okd R w H)
          have okf := DevM.flush_ok okd
          have hpl : dk.flush.pend.length = 0 := rfl
          have hwl : dk.flush.writes = dk.writes := rfl
          have hhs : (headS C p b).size = 16 := seal_size (by simp)
          have HWR := Lib.hid (fun (R : List SL.HP) (w : World) (H : own w (devAt bd dk.flush :: R)) => dev_write bd dk.flush okf 0 (headS C p b) (by omega) (by omega) (by omega) R w H)
          have hcode := write_nonneg dk.flush 0 (headS C p b)
          have okw := DevM.write_ok okf 0 (headS C p b) (by omega) (by omega)
          generalize dk.flush = df at *
          have HHD := Lib.hid (fun (R : List SL.HP) (w : World) (H : own w R) => head_any C p b R w H)
          rw [show headF C p b = 0 from if_neg HB.out, if_pos rfl, errV_0] at HHD
          unfold headV at HHD
          generalize headS C p b = hs at *
          generalize df.write 0 hs = r at *
          clear HIR HGET HOK
          go_wp2_with fail
          refine (HFL.out _ wr (own_pick 1 hown rfl)).mono ?_
          rintro e w5 ⟨rfl, hx5, h5'⟩
          have h5 := own_put hown 1 rfl h5'
          obtain ⟨cc, ff⟩ := own_cells 2 h5 rfl
          go_wp2_with fail
          refine (HHD.out _ w5 h5).mono ?_
          rintro e w6 ⟨rfl, hx6, h6⟩
          clear cc ff
          go_wp2_with fail
          refine (HWR.out _ w6 (own_pick 1 h6 rfl)).mono ?_
          rintro e w7 ⟨rfl, hx7, h7'⟩
          have h7 := own_put h6 1 rfl h7'
          have hx7f := ((hxr.trans hx5).trans hx6).trans hx7
          by_cases hz : r.1 = 0
          · have hS2 := HF.out
            rw [if_neg (by simpa using hz)] at hS2
            have HS2 := Lib.hid hS2
            have HFL2 := Lib.hid (fun (R : List SL.HP) (w : World) (H : own w (devAt bd r.2 :: R)) => dev_flush bd r.2 okw R w H)
            rw [hz, errV_0]
            clear hz hS2
            go_wp2_with fail
            refine (HFL2.out _ w7 (own_pick 1 h7 rfl)).mono ?_
            rintro e w8 ⟨rfl, hx8, h8'⟩
            have h8 := own_put h7 1 rfl h8'
            go_wp2_with fail
            go_ret2
            rw [HS2.out]
            exact .inr ⟨rfl, bi, bh, rfl, hx7f.trans hx8, own_erase 2 h8 rfl⟩
          · have hS2 := HF.out
            rw [if_pos hz] at hS2
            have HS2 := Lib.hid hS2
            have hpz : 0 < r.1 := by omega
            have HPE := Lib.hid (errV_pos hpz)
            rw [errV_pos hpz]
            clear hz hS2
            go_wp2_with fail
            go_ret2
            rw [HS2.out]
            exact .inl ⟨by dsimp only; omega, by dsimp only; rw [HPE.out]; rfl, hx7f, own_erase 1 (own_erase 0 h7 rfl) rfl⟩
    · -- way 2
      have h4 := own_drew (made_img2 d bd C (by omega) p b h2)
      have hx4 := (((hx2.alloc (.map #[] 0)).alloc (.cells (madeCells #[.int .i64 0, .int .i64 0] (C * 2)) 64)).alloc (.cells #[.pointer (some ⟨bd, 0, none⟩), .int .i64 (C : Int), .int .i64 p, .int .i64 b, .slice (some ⟨w2.heap.size + 1, 0, none⟩) C C, .map (some w2.heap.size)] 142)).drew
      generalize (((w2.alloc (.map #[] 0)).alloc (.cells (madeCells #[.int .i64 0, .int .i64 0] (C * 2)) 64)).alloc (.cells #[.pointer (some ⟨bd, 0, none⟩), .int .i64 (C : Int), .int .i64 p, .int .i64 b, .slice (some ⟨w2.heap.size + 1, 0, none⟩) C C, .map (some w2.heap.size)] 142)).drew = w4 at h4 hx4 ⊢
      generalize w2.heap.size + 1 + 1 = bi at *
      generalize w2.heap.size = bh at *
      obtain ⟨cc, ff⟩ := own_cells 2 h4 rfl
      have hlz : (zeroT (C : Int)).length = C := by simp [zeroT]
      have hrz : rowsN (zeroT (C : Int)).length = rowsN C := by rw [hlz]
      have hrn : rowsN C ≤ 4 := by unfold rowsN; omega
      have hll : (rowsL (zeroT (C : Int))).length = rowsN C := by simp [rowsL, hlz]
      have HGET := Lib.hid (fun (k : Nat) (h : k < rowsN C) => rowsL_get (c := (C : Int)) (k := k) (by rw [hlz]; exact h))
      have HEND := Lib.hid (show (rowsL (zeroT (C : Int))).drop (rowsN C) = [] from List.drop_of_length_le (by omega))
      have HOK := Lib.hid (fun (k : Nat) (h : k < rowsN C) => rowOf_valid (t := zeroT (C : Int)) (r := k) (by rw [hlz]; omega) (by rw [hlz]; exact h) (zero_valid C))
      have HRW := Lib.hid (rows_any C (by omega))
      have hpo := puts_ok (l := rowsL (zeroT (C : Int))) (d := d) (a := 1) hd (by omega) (by omega)
      have hpn := puts_nonneg (l := rowsL (zeroT (C : Int))) (d := d) (a := 1)
      rw [hll] at hpo
      have HIR := Lib.hid (fun (dk : DevM) (okd : dk.Ok) (hw : dk.writes < 1000000) (hp : dk.pend.length < 1000000) (k : Nat) (hk : k < rowsN C) (R : List SL.HP) (w : World) (H : own w (imgAt bi bd bh (madeM d C p b) :: devAt bd dk :: R)) =>
        imgrow_any bi bd bh (madeM dk C p b) okd (show (zeroT (C : Int)).length ≤ 1000 by rw [hlz]; omega) hw hp k (by omega) (HOK.out k hk) R w H)
      have HE3 := HE2.out
      generalize hrl : rowsL (zeroT (C : Int)) = RL at *
      generalize hres : d.puts 1 RL = res at *
      have HRES := Lib.hid hres
      have HE4 := Lib.hid HE3
      generalize hN : rowsN C = N at *
      obtain ⟨o1, o2, o3, o4⟩ := hpo
      clear HE3 hlz hrz HE2 HE hd1 hmk hmm hres hrl HZ
      go_wp2_with fail
      refine (HRW.out w4).mono ?_
      rintro e w' ⟨rfl, rfl⟩
      go_wp2_with fail
      go_loopw [27] (putInvL (fun dk => imgAt bi bd bh (madeM d C p b) :: devAt bd dk :: pts gh (.cells #[.int .i64 C, .int .i64 p, .int .i64 b] 52 (0, 0)) :: R) d 1 RL res w) (fun i _ => N - (intOf i).toNat)
      case atStart => exact ⟨0, d, by omega, rfl, by simpa using HRES.out, hd, by omega, by simp, hx4, h4⟩
      case round =>
        clear cc ff
        obtain ⟨k, dk, hk, rfl, hput, okd, hpk, hwk, hxr, hown⟩ := hrel
        rw [hll] at hk
        by_cases hlt : k < N
        · rw [HGET.out k hlt] at hput
          have HPUT := Lib.hid hput
          clear hput
          have e1 : IntKind.i64.wrap ((k : Int) + 1) = (k : Int) + 1 := IntWalk.i64_in _ (by omega)
          have hkN : (k : Int) < (N : Int) := by omega
          have HW := Lib.hid (HIR.out dk okd (by omega) (by omega) k hlt)
          have hcode := write_nonneg dk (1 + (k : Int)) (rowOf (zeroT (C : Int)) k).1
          obtain ⟨l1, l2, l3⟩ := write_lens dk (1 + (k : Int)) (rowOf (zeroT (C : Int)) k).1
          have okw := DevM.write_ok okd (1 + (k : Int)) (rowOf (zeroT (C : Int)) k).1 (by omega) (by omega)
          have hstep : dk.puts (1 + (k : Int)) ((rowOf (zeroT (C : Int)) k).1 :: RL.drop (k + 1)) = if (dk.write (1 + (k : Int)) (rowOf (zeroT (C : Int)) k).1).1 ≠ 0 then dk.write (1 + (k : Int)) (rowOf (zeroT (C : Int)) k).1 else (dk.write (1 + (k : Int)) (rowOf (zeroT (C : Int)) k).1).2.puts (1 + (k : Int) + 1) (RL.drop (k + 1)) := rfl
          rw [HPUT.out] at hstep
          have HSTP := Lib.hid hstep
          clear hstep l1
          change Hid (∀ (R : List SL.HP) (w : World), own w (imgAt bi bd bh (madeM d C p b) :: devAt bd dk :: R) → Calls Try.prog 91 #[.pointer (some ⟨bi, 0, none⟩), .int .i64 k] w fun e w' => e = .returned (errV (dk.write (1 + (k : Int)) (rowOf (zeroT (C : Int)) k).1).1) ∧ Ext w w' ∧ own w' (imgAt bi bd bh (madeM d C p b) :: devAt bd (dk.write (1 + (k : Int)) (rowOf (zeroT (C : Int)) k).1).2 :: R)) at HW
          generalize dk.write (1 + (k : Int)) (rowOf (zeroT (C : Int)) k).1 = r at *
          clear HIR HGET HOK
          go_wp2_with fail
          refine (HW.out _ wr hown).mono ?_
          rintro e w5 ⟨rfl, hx5', h5⟩
          have hx5 := hxr.trans hx5'
          clear hx5' hown hxr
          by_cases hz : r.1 = 0
          · have HZ := Lib.hid hz
            rw [hz, errV_0]
            clear hz
            go_wp2_with fail
            go_roundw
            case rel => exact ⟨k + 1, r.2, by rw [hll]; omega, by go_num, by have := HSTP.out; rw [if_neg (by simpa using HZ.out)] at this; rw [this]; congr 1 <;> omega, okw, by omega, by omega, hx5, h5⟩
            case measure => simp [intOf]; omega
          · have hfin : res = r := by have := HSTP.out; rw [if_pos hz] at this; exact this
            have hS2 : S = (r.1, madeM r.2 C p b) := by rw [HE4.out, hfin, if_pos hz]
            have HF := Lib.hid hS2
            have hpz : 0 < r.1 := by omega
            have HPE := Lib.hid (errV_pos hpz)
            rw [errV_pos hpz]
            clear hz hfin hS2
            go_wp2_with fail
            go_ret2
            rw [HF.out]
            exact .inl ⟨by dsimp only; omega, by dsimp only; rw [HPE.out]; rfl, hx5, own_erase 1 (own_erase 0 h5 rfl) rfl⟩
        · have hke : k = N := by omega
          subst hke
          rw [HEND.out, DevM.puts] at hput
          have hr0 : res.1 = 0 := by rw [← hput]
          have hr2 : res.2 = dk := by rw [← hput]
          have hS2 := HE4.out
          rw [if_neg (by simpa using hr0), hr2] at hS2
          have HF := Lib.hid hS2
          clear hput hlt hS2 hr0 hr2
          have HFL := Lib.hid (fun (R : List SL.HP) (w : World) (H : own w (devAt bd dk :: R)) => dev_flush bd dk okd R w H)
          have okf := DevM.flush_ok okd
          have hpl : dk.flush.pend.length = 0 := rfl
          have hwl : dk.flush.writes = dk.writes := rfl
          have hhs : (headS C p b).size = 16 := seal_size (by simp)
          have HWR := Lib.hid (fun (R : List SL.HP) (w : World) (H : own w (devAt bd dk.flush :: R)) => dev_write bd dk.flush okf 0 (headS C p b) (by omega) (by omega) (by omega) R w H)
          have hcode := write_nonneg dk.flush 0 (headS C p b)
          have okw := DevM.write_ok okf 0 (headS C p b) (by omega) (by omega)
          generalize dk.flush = df at *
          have HHD := Lib.hid (fun (R : List SL.HP) (w : World) (H : own w R) => head_any C p b R w H)
          rw [show headF C p b = 0 from if_neg HB.out, if_pos rfl, errV_0] at HHD
          unfold headV at HHD
          generalize headS C p b = hs at *
          generalize df.write 0 hs = r at *
          clear HIR HGET HOK
          go_wp2_with fail
          refine (HFL.out _ wr (own_pick 1 hown rfl)).mono ?_
          rintro e w5 ⟨rfl, hx5, h5'⟩
          have h5 := own_put hown 1 rfl h5'
          obtain ⟨cc, ff⟩ := own_cells 2 h5 rfl
          go_wp2_with fail
          refine (HHD.out _ w5 h5).mono ?_
          rintro e w6 ⟨rfl, hx6, h6⟩
          clear cc ff
          go_wp2_with fail
          refine (HWR.out _ w6 (own_pick 1 h6 rfl)).mono ?_
          rintro e w7 ⟨rfl, hx7, h7'⟩
          have h7 := own_put h6 1 rfl h7'
          have hx7f := ((hxr.trans hx5).trans hx6).trans hx7
          by_cases hz : r.1 = 0
          · have hS2 := HF.out
            rw [if_neg (by simpa using hz)] at hS2
            have HS2 := Lib.hid hS2
            have HFL2 := Lib.hid (fun (R : List SL.HP) (w : World) (H : own w (devAt bd r.2 :: R)) => dev_flush bd r.2 okw R w H)
            rw [hz, errV_0]
            clear hz hS2
            go_wp2_with fail
            refine (HFL2.out _ w7 (own_pick 1 h7 rfl)).mono ?_
            rintro e w8 ⟨rfl, hx8, h8'⟩
            have h8 := own_put h7 1 rfl h8'
            go_wp2_with fail
            go_ret2
            rw [HS2.out]
            exact .inr ⟨rfl, bi, bh, rfl, hx7f.trans hx8, own_erase 2 h8 rfl⟩
          · have hS2 := HF.out
            rw [if_pos hz] at hS2
            have HS2 := Lib.hid hS2
            have hpz : 0 < r.1 := by omega
            have HPE := Lib.hid (errV_pos hpz)
            rw [errV_pos hpz]
            clear hz hS2
            go_wp2_with fail
            go_ret2
            rw [HS2.out]
            exact .inl ⟨by dsimp only; omega, by dsimp only; rw [HPE.out]; rfl, hx7f, own_erase 1 (own_erase 0 h7 rfl) rfl⟩
end Go.Proofs.Ytbpblokfiajpjaa

namespace Go.Proofs.Ytbpblokfiajpjaa
open Go.RowKit Go.SL Go.Crc

def rowsSeen (d : DevM) (C : Nat) : List ByteArray := (List.range (rowsN C)).map fun (k : Nat) => d.seen (1 + (k : Int))
def noImg (d : DevM) : ImgM := ⟨d, 0, 0, 0, [], []⟩
def openT (d : DevM) (c p b : Int) (T : List Ent × Int) : Int × ImgM := (T.2, ⟨d, c, p, b, T.1, []⟩)
def openH (d : DevM) (h : (Int × Int × Int) × Int) : Int × ImgM :=
  if h.2 ≠ 0 then (h.2, noImg d) else if (d.fl.length : Int) < needN h.1.1 h.1.2.1 then (1, noImg d)
  else openT d h.1.1 h.1.2.1 h.1.2.2 (tableOf h.1.1 h.1.2.1 h.1.2.2 (rowsSeen d h.1.1.toNat))
def openR (d : DevM) : Int × ImgM := openH d (headOf (d.seen 0))
theorem openH_d (d : DevM) (h : (Int × Int × Int) × Int) : (openH d h).2.d = d := by
  unfold openH; split
  · rfl
  · split <;> rfl
theorem openR_d (d : DevM) : (openR d).2.d = d := openH_d d _
theorem headOf_good {s : ByteArray} (h : (headOf s).2 = 0) : ¬ headBad (headOf s).1.1 (headOf s).1.2.1 (headOf s).1.2.2 := by
  unfold headOf at h ⊢
  by_cases h1 : openF s ≠ 0
  · rw [if_pos h1] at h; exact absurd h h1
  · rw [if_neg h1] at h ⊢
    by_cases h2 : headOfBad s
    · rw [if_pos h2] at h; cases h
    · rw [if_neg h2]
      exact fun hb => h2 (.inl hb)
theorem rowsSeen_take (d : DevM) {C q : Nat} (h : q < rowsN C) : (rowsSeen d C).take (q + 1) = (rowsSeen d C).take q ++ [d.seen (1 + (q : Int))] := by
  rw [List.take_add_one]
  simp [rowsSeen, h]
theorem rowsSeen_len (d : DevM) (C : Nat) : (rowsSeen d C).length = rowsN C := by simp [rowsSeen]
theorem rowsSeen_size {d : DevM} (hd : d.Ok) {C : Nat} (h : (rowsN C : Int) < d.fl.length) : ∀ s ∈ rowsSeen d C, s.size = 16 := fun s hs => by
  simp only [rowsSeen, List.mem_map, List.mem_range] at hs
  obtain ⟨k, hk, rfl⟩ := hs
  exact seen_size hd (by omega) (by omega)

/-! ### a row read back -/
theorem bt_nums {xs : List Int} {i : Nat} {x : Int} (hx : xs[i]? = some x) (h0 : 0 ≤ x) (h1 : x ≤ 255) : bt (strOfNums xs) i = x := by
  have e : (strOfNums xs).data.toList[i]? = some (UInt8.ofNat x.toNat) := by
    simp only [strOfNums, List.getElem?_map, hx]
    rfl
  unfold bt
  rw [List.getD_eq_getElem?_getD, e]
  simp
  omega
theorem entNums_get {l : List Ent} : ∀ {k : Nat}, k < l.length → (entNums l)[2 * k]? = some (ent l k).1 ∧ (entNums l)[2 * k + 1]? = some (ent l k).2 := by
  induction l with
  | nil => intro k h; simp at h
  | cons x l ih =>
    intro k h
    cases k with
    | zero => simp [entNums, ent]
    | succ k =>
      have := ih (k := k) (by simpa using h)
      have e2 : 2 * (k + 1) = 2 * k + 2 := by omega
      simp only [entNums, List.flatMap_cons, e2, ent] at this ⊢
      simpa using this
theorem ent_get {t : List Ent} {k : Nat} (h : k < t.length) : ent t k = t[k] := by simp [ent, h]
theorem ent_mem {t : List Ent} {k : Nat} (h : k < t.length) : ent t k ∈ t := by rw [ent_get h]; exact List.getElem_mem h
theorem ent_out {t : List Ent} {k : Nat} (h : t.length ≤ k) : ent t k = (0, 0) := by simp [ent, h]
theorem sEnts_row {l : List Ent} (hl : l.length = 8) (hv : ∀ e ∈ l, entOk e 40 = true) : sEnts (strOfNums (entNums l)) = l := by
  apply List.ext_getElem
  · simp [sEnts, hl]
  · intro i h1 h2
    have hm := entOk_range (hv l[i] (List.getElem_mem h2))
    obtain ⟨g1, g2⟩ := entNums_get (l := l) (k := i) h2
    rw [ent_get h2] at g1 g2
    simp only [sEnts, List.getElem_map, List.getElem_range, sEnt]
    rw [bt_nums g1 (by omega) (by omega), bt_nums g2 (by omega) (by omega)]

def Uniq (t : List Ent) : Prop := ∀ i j : Nat, i < t.length → j < t.length → (ent t i).1 = 2 → ent t i = ent t j → i = j
def rowBytes (t : List Ent) (r : Nat) : ByteArray := strOfNums (entNums (rowEnts t r))
theorem rowBytes_size (t : List Ent) (r : Nat) : (rowBytes t r).size = 16 := by
  unfold rowBytes
  rw [strOfNums_size, entNums_len, rowEnts_len]
theorem rowEnts_valid {P : Int} (hP : P ≤ 40) {t : List Ent} (hv : ∀ e ∈ t, entOk e P = true) (r : Nat) : ∀ e ∈ rowEnts t r, entOk e 40 = true := by
  intro e he
  simp only [rowEnts, List.mem_map, List.mem_range] at he
  obtain ⟨k, hk, rfl⟩ := he
  by_cases h : 8 * r + k < t.length
  · exact entOk_mono (hv _ (ent_mem h)) hP
  · rw [show t.getD (8 * r + k) (0, 0) = (0, 0) from ent_out (by omega)]
    rfl
theorem rowOf_is {P : Int} (hP : P ≤ 40) {t : List Ent} (hl : t.length ≤ 32) (hv : ∀ e ∈ t, entOk e P = true) {r : Nat} (hr : r < rowsN t.length) : rowOf t (r : Int) = (rowBytes t r, 0) := by
  refine rowOf_ok (by unfold rowOut; omega) fun k hk => rowEnts_valid hP hv r _ ?_
  simp only [rowEnts, List.mem_map, List.mem_range]
  exact ⟨k, hk, rfl⟩

theorem tabRow_row {C : Nat} {P : Int} {t : List Ent} (hl : t.length = C) (hv : ∀ e ∈ t, entOk e P = true) (hu : Uniq t) (r : Nat) :
    ∀ n k : Nat, n + k = 8 → tabRow C P (t.take (8 * r + k)) ((rowEnts t r).drop k) = some (t.take (8 * r + 8)) := by
  intro n
  induction n with
  | zero =>
    intro k hk
    obtain rfl : k = 8 := by omega
    rw [List.drop_of_length_le (by rw [rowEnts_len]; omega)]
    rfl
  | succ n ih =>
    intro k hk
    have hd : (rowEnts t r).drop k = ent t (8 * r + k) :: (rowEnts t r).drop (k + 1) := by
      rw [drop_getD (0, 0) (by rw [rowEnts_len]; omega), rowEnts_get _ _ _ (by omega)]
      rfl
    rw [hd]
    by_cases h : 8 * r + k < C
    · have hne : (t.take (8 * r + k)).length ≠ C := by rw [List.length_take]; omega
      have hgood : tabBad P (t.take (8 * r + k)) (ent t (8 * r + k)) = false := by
        unfold tabBad
        rw [hv (ent t (8 * r + k)) (ent_mem (by omega))]
        by_cases h2 : (ent t (8 * r + k)).1 = 2
        · cases hc : (t.take (8 * r + k)).contains (ent t (8 * r + k)) with
          | false => simp
          | true =>
            exfalso
            obtain ⟨j, hj, he⟩ := List.getElem_of_mem (by simpa using hc : ent t (8 * r + k) ∈ t.take (8 * r + k))
            rw [List.length_take] at hj
            rw [List.getElem_take] at he
            have := hu (8 * r + k) j (by omega) (by omega) h2 (by rw [← he, ent_get (by omega)])
            omega
        · simp [h2]
      rw [tabRow_step hne hgood, show t.take (8 * r + k) ++ [ent t (8 * r + k)] = t.take (8 * r + (k + 1)) from (by rw [← Nat.add_assoc]; exact (take_succ_getD (0, 0) (by omega)).symm)]
      exact ih (k + 1) (by omega)
    · have hlen : (t.take (8 * r + k)).length = C := by rw [List.length_take]; omega
      rw [ent_out (by omega), tabRow_full hlen, show t.take (8 * r + k) = t.take (8 * r + (k + 1)) by rw [List.take_of_length_le (by omega), List.take_of_length_le (by omega)]]
      exact ih (k + 1) (by omega)
theorem tabRows_rows {C : Nat} {P : Int} (hP : P ≤ 40) {t : List Ent} (hl : t.length = C) (hv : ∀ e ∈ t, entOk e P = true) (hu : Uniq t) :
    ∀ n r : Nat, n + r = rowsN C → tabRows C P (t.take (8 * r)) (((List.range (rowsN C)).map (rowBytes t)).drop r) = (t, 0) := by
  intro n
  induction n with
  | zero =>
    intro r hr
    obtain rfl : r = rowsN C := by omega
    rw [List.drop_of_length_le (by simp), List.take_of_length_le (by unfold rowsN; omega)]
    rfl
  | succ n ih =>
    intro r hr
    have hd : ((List.range (rowsN C)).map (rowBytes t)).drop r = rowBytes t r :: ((List.range (rowsN C)).map (rowBytes t)).drop (r + 1) := by
      rw [List.drop_eq_getElem_cons (by simp; omega)]
      simp
    have hr2 := tabRow_row hl hv hu r 8 0 rfl
    rw [hd, tabRows_some (rowBytes_size t r) (t' := t.take (8 * r + 8)) (by rw [show sEnts (rowBytes t r) = rowEnts t r from sEnts_row (rowEnts_len t r) (rowEnts_valid hP hv r)]; simpa using hr2)]
    exact ih (r + 1) (by omega)
theorem tableOf_rows {c p b : Int} (hb : ¬ headBad c p b) {t : List Ent} (hl : (t.length : Int) = c) (hv : ∀ e ∈ t, entOk e p = true) (hu : Uniq t) : tableOf c p b ((List.range (rowsN t.length)).map (rowBytes t)) = (t, 0) := by
  have hb' := hb
  unfold headBad at hb'
  have hc : c.toNat = t.length := by omega
  unfold tableOf
  rw [if_neg hb, hc, if_neg (by simp)]
  have := tabRows_rows (P := p) (by omega) rfl hv hu (rowsN t.length) 0 (by omega)
  simpa using this

theorem openR_rows {d : DevM} {c p b : Int} {t : List Ent} (hb : ¬ headBad c p b) (hl : (t.length : Int) = c) (hv : ∀ e ∈ t, entOk e p = true) (hu : Uniq t) (h0 : d.seen 0 = headS c p b)
    (hr : ∀ r : Nat, r < rowsN t.length → d.seen (1 + (r : Int)) = rowBytes t r) (hn : needN c p ≤ d.fl.length) : openR d = (0, ⟨d, c, p, b, t, []⟩) := by
  unfold openR
  rw [h0, headOf_headS hb]
  unfold openH
  rw [if_neg (by simp), if_neg (by dsimp only; omega)]
  dsimp only
  have hrs : rowsSeen d c.toNat = (List.range (rowsN t.length)).map (rowBytes t) := by
    have hc : c.toNat = t.length := by omega
    unfold rowsSeen
    rw [hc]
    exact List.map_congr_left fun r h => hr r (List.mem_range.1 h)
  rw [hrs, tableOf_rows hb hl hv hu]
  rfl

/-! ### what a table that was read is -/
theorem Uniq_snoc {t : List Ent} {e : Ent} (h : Uniq t) (he : e.1 = 2 → e ∉ t) : Uniq (t ++ [e]) := by
  intro i j hi hj h2 hij
  simp only [List.length_append, List.length_cons, List.length_nil] at hi hj
  have g : ∀ k, k < t.length → ent (t ++ [e]) k = ent t k := fun k hk => by unfold ent; rw [List.getD_eq_getElem?_getD, List.getD_eq_getElem?_getD, List.getElem?_append_left hk]
  have g1 : ent (t ++ [e]) t.length = e := by unfold ent; simp
  by_cases h1 : i < t.length
  · by_cases h3 : j < t.length
    · rw [g i h1] at h2 hij
      rw [g j h3] at hij
      exact h i j h1 h3 h2 hij
    · obtain rfl : j = t.length := by omega
      rw [g1, g i h1] at hij
      rw [g i h1] at h2
      exact absurd (hij ▸ ent_mem h1) (he (hij ▸ h2))
  · obtain rfl : i = t.length := by omega
    by_cases h3 : j < t.length
    · rw [g1, g j h3] at hij
      rw [g1] at h2
      exact absurd (hij ▸ ent_mem h3) (he h2)
    · omega
theorem tabBad_no {P : Int} {t : List Ent} {e : Ent} (h : tabBad P t e = false) : entOk e P = true ∧ (e.1 = 2 → e ∉ t) := by
  unfold tabBad at h
  simp only [Bool.or_eq_false_iff, Bool.not_eq_false'] at h
  refine ⟨h.1, fun h2 hm => ?_⟩
  have := h.2
  simp [h2, hm] at this
theorem tabRow_is {C : Nat} {P : Int} : ∀ {l t t' : List Ent}, t.length ≤ C → (∀ e ∈ t, entOk e P = true) → Uniq t → tabRow C P t l = some t' →
    t'.length = min C (t.length + l.length) ∧ (∀ e ∈ t', entOk e P = true) ∧ Uniq t' := by
  intro l
  induction l with
  | nil =>
    intro t t' h1 h2 h3 h
    rw [tabRow] at h
    obtain rfl := Option.some.inj h
    exact ⟨by simp only [List.length_nil]; omega, h2, h3⟩
  | cons e l ih =>
    intro t t' h1 h2 h3 h
    rw [tabRow] at h
    by_cases hc : t.length = C
    · rw [if_pos hc] at h
      by_cases he : e = (0, 0)
      · rw [if_pos he] at h
        obtain ⟨a, b, c⟩ := ih h1 h2 h3 h
        exact ⟨by simp only [List.length_cons]; omega, b, c⟩
      · rw [if_neg he] at h; cases h
    · rw [if_neg hc] at h
      cases hb : tabBad P t e
      · rw [hb, if_neg (by decide)] at h
        obtain ⟨b1, b2⟩ := tabBad_no hb
        obtain ⟨a, b, c⟩ := ih (t := t ++ [e]) (by simp only [List.length_append, List.length_cons, List.length_nil]; omega) (fun x hx => by
          rcases List.mem_append.1 hx with h | h
          · exact h2 x h
          · rw [List.mem_singleton.1 h]; exact b1) (Uniq_snoc h3 b2) h
        exact ⟨by simp only [List.length_append, List.length_cons, List.length_nil] at a ⊢; omega, b, c⟩
      · rw [hb, if_pos rfl] at h; cases h
theorem tabRows_is {C : Nat} {P : Int} : ∀ {l : List ByteArray} {t T : List Ent}, t.length ≤ C → (∀ e ∈ t, entOk e P = true) → Uniq t → tabRows C P t l = (T, 0) →
    T.length = min C (t.length + 8 * l.length) ∧ (∀ e ∈ T, entOk e P = true) ∧ Uniq T := by
  intro l
  induction l with
  | nil =>
    intro t T h1 h2 h3 h
    rw [tabRows] at h
    obtain ⟨rfl, -⟩ := Prod.mk.inj h
    exact ⟨by simp only [List.length_nil]; omega, h2, h3⟩
  | cons s l ih =>
    intro t T h1 h2 h3 h
    rw [tabRows] at h
    split at h
    · cases (Prod.mk.inj h).2
    · split at h
      · cases (Prod.mk.inj h).2
      · rename_i t' ht
        obtain ⟨a, b, c⟩ := tabRow_is h1 h2 h3 ht
        obtain ⟨a', b', c'⟩ := ih (by omega) b c h
        rw [sEnts_len] at a
        exact ⟨by simp only [List.length_cons]; omega, b', c'⟩
theorem tableOf_is {c p b : Int} {rows : List ByteArray} {T : List Ent} (h : tableOf c p b rows = (T, 0)) : (T.length : Int) = c ∧ (∀ e ∈ T, entOk e p = true) ∧ Uniq T := by
  unfold tableOf at h
  split at h
  · cases (Prod.mk.inj h).2
  · rename_i hb
    unfold headBad at hb
    split at h
    · cases (Prod.mk.inj h).2
    · rename_i hr
      obtain ⟨a, b', c'⟩ := tabRows_is (t := []) (by simp) (fun e he => by cases he) (fun i j hi => by simp at hi) h
      have hr' : rows.length = rowsN c.toNat := by omega
      rw [hr'] at a
      simp only [List.length_nil] at a
      unfold rowsN at a
      exact ⟨by omega, b', c'⟩
theorem openR_ok {d : DevM} (hd : d.Ok) (h : (openR d).1 = 0) : (openR d).2.Ok := by
  unfold openR openH at h ⊢
  split at h
  · rename_i h1; exact absurd h h1
  · rename_i h1
    rw [if_neg h1]
    split at h
    · cases h
    · rename_i h2
      rw [if_neg h2]
      have hg := headOf_good (s := d.seen 0) (by simpa using h1)
      obtain ⟨a, b, c⟩ := tableOf_is (T := (tableOf (headOf (d.seen 0)).1.1 (headOf (d.seen 0)).1.2.1 (headOf (d.seen 0)).1.2.2 (rowsSeen d (headOf (d.seen 0)).1.1.toNat)).1) (Prod.ext rfl h)
      exact ⟨hd, hg, a, b, c, List.nodup_nil, (fun x hx => by cases hx), (fun x hx => by cases hx), by unfold needN at h2; simp only [openT]; omega⟩
def RMadePost (bd : Nat) (S : Int × ImgM) (R : List SL.HP) (w : World) (e : Ending) (w' : World) : Prop :=
  (S.1 ≠ 0 ∧ e = .returned (.tuple #[.pointer none, .int .i64 S.1]) ∧ Ext w w' ∧ own w' (rdevAt bd S.2.d :: R)) ∨
  (S.1 = 0 ∧ ∃ bi, e = .returned (.tuple #[.pointer (some ⟨bi, 0, none⟩), .int .i64 0]) ∧ Ext w w' ∧ own w' (rimgAt bi bd S.2 :: rdevAt bd S.2.d :: R))
end Go.Proofs.Ytbpblokfiajpjaa

namespace Go.Proofs.Ytbpblokfiajpjaa
open Go.RowKit Go.SL Go.Crc
attribute [local go_sem ↓] Go.wp_at_zero Go.wp_at_succ

theorem strCells_append (l m : List ByteArray) : strCells (l ++ m) = strCells l ++ strCells m := by simp [strCells]
def rowsInv (L : List SL.HP) (d : DevM) (C : Nat) (w0 : World) (v i : Value) (wr : World) : Prop :=
  ∃ q : Nat, q ≤ rowsN C ∧ i = .int .i64 q ∧ Ext w0 wr ∧ own wr (row 9 1 v q (strCells ((rowsSeen d C).take q)) :: L)
theorem one_strv (s : ByteArray) : ∀ u ∈ [Value.string s], u.oneCell' = true := fun u hu => by simp at hu; subst hu; rfl

set_option maxRecDepth 100000 in
set_option maxHeartbeats 8000000 in
theorem opened_img (bd : Nat) (d : DevM) (hd : d.Ok) (hn1 : 0 < d.fl.length) (R : List SL.HP) (w : World) (H : own w (rdevAt bd d :: R)) :
    Calls Try.prog 72 #[.pointer (some ⟨bd, 0, none⟩)] w (RMadePost bd (openR d) R w) := by
  have hE : openR d = openH d (headOf (d.seen 0)) := rfl
  generalize openR d = S at *
  have hs0 := seen_size hd (a := 0) (by omega) (by omega)
  have hsn := fun (R : List SL.HP) (w : World) (H : own w (rdevAt bd d :: R)) => rdev_seen bd d hd 0 (by omega) (by omega) R w H
  have hgd := fun h => headOf_good (s := d.seen 0) h
  have hnn := headOf_nonneg (d.seen 0)
  have HHD := Lib.hid (fun (R : List SL.HP) (w : World) (H : own w R) => headof_any (d.seen 0) (by omega) R w H)
  have HSN := Lib.hid hsn
  have HGD := Lib.hid hgd
  clear hsn hgd hs0
  generalize d.seen 0 = s0 at *
  generalize headOf s0 = hh at *
  obtain ⟨⟨c, p, b⟩, f⟩ := hh
  have HE := Lib.hid hE
  clear hE
  dsimp only at hnn HGD HHD
  unfold headV at HHD
  have hn := hd.n
  go_enter Try.func72, Try.ntmps72
  go_wp2_with fail
  refine (HSN.out _ w H).mono ?_
  rintro e w1 ⟨rfl, rfl⟩
  go_wp2_with fail
  refine (HHD.out _ w H).mono ?_
  rintro e w2 ⟨rfl, hx2, h2⟩
  go_upto_region 2 with (fail)
  have h3 := own_alloc h2 (.cells #[.int .i64 c, .int .i64 p, .int .i64 b] 52)
  have hx3 := hx2.alloc (.cells #[.int .i64 c, .int .i64 p, .int .i64 b] 52)
  generalize w2.heap.size = gh at *
  generalize w2.alloc (.cells #[.int .i64 c, .int .i64 p, .int .i64 b] 52) = w3 at *
  clear h2 hx2 HHD HSN
  by_cases hf : f = 0
  · subst hf
    have hgood := HGD.out rfl
    have hE2 := HE.out
    unfold openH at hE2
    rw [if_neg (by simp)] at hE2
    dsimp only at hE2
    have hbb := hgood
    unfold headBad at hbb
    obtain ⟨C, rfl⟩ := Int.eq_ofNat_of_zero_le (show 0 ≤ c by omega)
    have c1 : 1 ≤ C := by omega
    have c2 : C ≤ 32 := by omega
    rw [Int.toNat_natCast] at hE2
    have hND : needN (C : Int) p = 1 + (rowsN C : Int) + 4 * p := by unfold needN; rw [Int.toNat_natCast]
    have hp0 : 0 ≤ p := by omega
    have hr1 : 1 ≤ rowsN C := by unfold rowsN; omega
    have hr4 : rowsN C ≤ 4 := by unfold rowsN; omega
    have HND := Lib.hid (fun (R : List SL.HP) (w : World) (H : own w R) => rneed_any (C : Int) p b hgood R w H)
    unfold headV at HND
    have HE2 := Lib.hid hE2
    have HNE := Lib.hid hND
    clear hE2 hgood HGD hbb hND HE
    generalize hnd : needN (C : Int) p = nd at *
    have HNDE := Lib.hid hnd
    clear hnd
    obtain ⟨vf, va, vw, h4⟩ := rdev_open (own_pick 1 h3 rfl)
    obtain ⟨af, gf, cf, rfl, -, -, -, -, -, -, -⟩ := own_row_form 1 h4 rfl
    by_cases hl : (d.fl.length : Int) < nd
    · have hS : S = (1, noImg d) := by rw [HE2.out, if_pos hl]
      have d0 : decide ((d.fl.length : Int) < nd) = true := decide_eq_true hl
      have HS := Lib.hid hS
      clear hl hS
      go_upto_region 4 with (fail)
      have hd1 := own_drew h4
      go_region_held3 (fun w' => w'.cell? ⟨gh, 0, none⟩ = some (.int .i64 (C : Int)) ∧ w'.cell? ⟨gh, 1, none⟩ = some (.int .i64 p) ∧ w'.cell? ⟨gh, 2, none⟩ = some (.int .i64 b) ∧ w'.cell? ⟨bd, 0, none⟩ = some (.slice af d.fl.length cf)) (first | exact ⟨(own_cells 4 hd1 rfl).1 0, (own_cells 4 hd1 rfl).1 1, (own_cells 4 hd1 rfl).1 2, (own_cells 0 hd1 rfl).1 0⟩ | exact ⟨(own_cells 4 h5 rfl).1 0, (own_cells 4 h5 rfl).1 1, (own_cells 4 h5 rfl).1 2, (own_cells 0 h5 rfl).1 0⟩) ((go_at_call 70; refine (HND.out _ _ hd1).mono ?_; rintro e w5 ⟨rfl, hx5, h5⟩))
      have h6 := rdev_close h5
      have hx6 := hx3.drew.trans hx5
      clear hd1 h4 h3 hx3 h5 hx5
      go_wp2_with fail
      go_ret2
      rw [HS.out]
      exact .inl ⟨by simp, rfl, hx6, own_erase 1 h6 rfl⟩
    · have hS : S = openT d (C : Int) p b (tableOf (C : Int) p b (rowsSeen d C)) := by rw [HE2.out, if_neg hl]
      have hge : 1 + (rowsN C : Int) + 4 * p ≤ d.fl.length := by have := HNE.out; omega
      have d0 : decide ((d.fl.length : Int) < nd) = false := decide_eq_false hl
      have HS := Lib.hid hS
      have hrl : (rowsN C : Int) < d.fl.length := by omega
      have HSZ := Lib.hid (rowsSeen_size hd hrl)
      have hTN := tableOf_nonneg (C : Int) p b (rowsSeen d C)
      have HTK := Lib.hid (fun (q : Nat) (h : q < rowsN C) => rowsSeen_take d (C := C) h)
      have HRL := Lib.hid (rowsSeen_len d C)
      have HRW := Lib.hid (rrows_any C (by omega))
      have HSN := Lib.hid (fun (q : Nat) (hq : q < rowsN C) (R : List SL.HP) (w : World) (H : own w (rdevAt bd d :: R)) => rdev_seen bd d hd (1 + (q : Int)) (by omega) (by omega) R w H)
      clear hl hS hrl
      go_upto_region 4 with (fail)
      have hd1 := own_drew h4
      go_region_held3 (fun w' => w'.cell? ⟨gh, 0, none⟩ = some (.int .i64 (C : Int)) ∧ w'.cell? ⟨gh, 1, none⟩ = some (.int .i64 p) ∧ w'.cell? ⟨gh, 2, none⟩ = some (.int .i64 b) ∧ w'.cell? ⟨bd, 0, none⟩ = some (.slice af d.fl.length cf)) (first | exact ⟨(own_cells 4 hd1 rfl).1 0, (own_cells 4 hd1 rfl).1 1, (own_cells 4 hd1 rfl).1 2, (own_cells 0 hd1 rfl).1 0⟩ | exact ⟨(own_cells 4 h5 rfl).1 0, (own_cells 4 h5 rfl).1 1, (own_cells 4 h5 rfl).1 2, (own_cells 0 h5 rfl).1 0⟩) ((go_at_call 70; refine (HND.out _ _ hd1).mono ?_; rintro e w5 ⟨rfl, hx5, h5⟩))
      have h6 := rdev_close h5
      have hx6 := hx3.drew.trans hx5
      clear hd1 h4 h3 hx3 h5 hx5
      obtain ⟨c0, f0⟩ := own_cells 1 h6 rfl
      have h7 := own_row_nil 9 1 h6
      go_wp2_with fail
      clear c0 f0
      go_loopw [6, 7] (rowsInv (rdevAt bd d :: pts gh (.cells #[.int .i64 (C : Int), .int .i64 p, .int .i64 b] 52 (0, 0)) :: R) d C w) (fun _ i _ => rowsN C - (intOf i).toNat)
      case atStart => exact ⟨0, by omega, rfl, hx6, h7⟩
      case round =>
        obtain ⟨q, hq, rfl, hxr, hown⟩ := hrel
        clear h7 h6 hx6
        obtain ⟨cg, fg⟩ := own_cells 2 hown rfl
        by_cases hlt : q < rowsN C
        · have hE := HTK.out q hlt
          have HT2 := Lib.hid hE
          have e1 : IntKind.i64.wrap (1 + (q : Int)) = 1 + (q : Int) := IntWalk.i64_in _ (by omega)
          have hqN : (q : Int) < (rowsN C : Int) := by omega
          have HQ := Lib.hid (HSN.out q hlt)
          clear hE
          generalize d.seen (1 + (q : Int)) = sq at *
          have hml : q + 1 ≤ maxLen := by simp only [maxLen]; omega
          go_wp2_with fail
          refine (HRW.out wr).mono ?_
          rintro e w' ⟨rfl, rfl⟩
          go_wp2_with fail
          refine (HQ.out _ wr (own_pick 1 hown rfl)).mono ?_
          rintro e w' ⟨rfl, rfl⟩
          have ha2 := own_alloc hown (.cells #[.string sq] 9)
          go_wp2_with (first | (at_builtin; refine wpList_append_row rfl _ _ 42 rfl 1 9 Try.underlying42 elem_string rfl (by decide) rfl ha2 rfl (some ⟨wr.heap.size, 0, none⟩) 1 1 [.string sq] rfl rfl (alloc_news wr [.string sq] _) (fun h => by cases h) (one_strv sq) hml (by omega) ?_))
          intro v' w6 h6' hx6
          have hx7 := (hxr.alloc (.cells #[.string sq] 9)).trans hx6
          have h7 := own_drop h6'
          clear ha2 hown hxr hx6 h6'
          go_wp2_with fail
          go_roundw
          case rel => exact ⟨q + 1, by omega, by go_num, hx7, by rw [HT2.out, strCells_append]; exact h7⟩
          case measure => simp [intOf]; omega
        · have hqe : q = rowsN C := by omega
          subst hqe
          have htk : (rowsSeen d C).take (rowsN C) = rowsSeen d C := List.take_of_length_le (by rw [HRL.out]; exact Nat.le_refl _)
          rw [htk] at hown
          obtain ⟨ao, g, cap, rfl, r1, r2, r3, -, -, -, -⟩ := own_row_form 0 hown rfl
          obtain rfl := r3 (by omega)
          have hr : (rowsSeen d C).length ≤ 1000 := by rw [HRL.out]; omega
          have HSR := Lib.hid (fun w' (L : List SL.HP) (H : own w' (L ++ (row 9 1 (.slice (some ⟨g, 0, none⟩) (rowsN C) cap) (rowsN C) (strCells (rowsSeen d C)) :: rdevAt bd d :: pts gh (.cells #[.int .i64 (C : Int), .int .i64 p, .int .i64 b] 52 (0, 0)) :: R))) => (by
            have h := strs_row (L.length + 0) (l := rowsSeen d C) (rest := []) H (at_behind (l := L) rfl) (by simp [strCells]) (fun s hs => by have := HSZ.out s hs; omega)
            rw [HRL.out] at h
            exact h : StrsAt w' (.slice (some ⟨g, 0, none⟩) (rowsN C) cap) (rowsSeen d C)))
          have HS2 := HS.out
          generalize hT : tableOf (C : Int) p b (rowsSeen d C) = TF at *
          obtain ⟨T, F⟩ := TF
          have HTB := Lib.hid (fun w' (H : own w' (row 9 1 (.slice (some ⟨g, 0, none⟩) (rowsN C) cap) (rowsN C) (strCells (rowsSeen d C)) :: rdevAt bd d :: pts gh (.cells #[.int .i64 (C : Int), .int .i64 p, .int .i64 b] 52 (0, 0)) :: R)) => tableof_any (C : Int) p b (.slice (some ⟨g, 0, none⟩) (rowsN C) cap) (rowsSeen d C) T F hT hr _ w' HSR.out H)
          have HS3 := Lib.hid HS2
          unfold headV at HTB
          dsimp only at hTN
          clear hT HS2 HS HTK HSN htk r3 hr HSR hq hlt
          go_wp2_with fail
          refine (HRW.out wr).mono ?_
          rintro e w' ⟨rfl, rfl⟩
          go_wp2_with fail
          refine (HTB.out wr hown).mono ?_
          rintro e w6 ⟨vt, rfl, hx6', h6⟩
          obtain ⟨at_, gt, capt, rfl, -, -, -, -, -, -, -⟩ := own_row_form 0 h6 rfl
          have hx7 := hxr.trans hx6'
          clear cg fg hown hxr hx6'
          obtain ⟨cg, fg⟩ := own_cells 3 h6 rfl
          by_cases hF : F = 0
          · subst hF
            have h7 := own_alloc h6 (.cells #[.pointer (some ⟨bd, 0, none⟩), .int .i64 (C : Int), .int .i64 p, .int .i64 b, .slice at_ T.length capt, .slice none 0 0] 144)
            go_wp2_with fail
            go_ret2
            rw [HS3.out]
            have h8 := rimg_close (m := ⟨d, (C : Int), p, b, T, []⟩) (own_behind [_, _] (own_row_nil 3 1 h7))
            exact .inr ⟨rfl, _, rfl, hx7.alloc _, own_erase 2 (own_erase 1 h8 rfl) rfl⟩
          · have d1 : decide (0 < F) = true := decide_eq_true (by omega)
            have HF := Lib.hid hF
            clear hF
            go_wp2_with fail
            go_ret2
            rw [HS3.out]
            exact .inl ⟨HF.out, rfl, hx7, own_erase 1 (own_erase 1 (own_erase 1 (own_pick 2 h6 rfl) rfl) rfl) rfl⟩
  · have hpos : 0 < f := by omega
    have hE2 := HE.out
    unfold openH at hE2
    rw [if_pos (by simpa using hf)] at hE2
    have HS := Lib.hid hE2
    have d0 : decide (0 < f) = true := decide_eq_true hpos
    clear hE2 HE hf HGD
    go_wp2_with fail
    go_ret2
    rw [HS.out]
    exact .inl ⟨by dsimp only; omega, rfl, hx3, own_erase 1 (own_pick 1 h3 rfl) rfl⟩
end Go.Proofs.Ytbpblokfiajpjaa
