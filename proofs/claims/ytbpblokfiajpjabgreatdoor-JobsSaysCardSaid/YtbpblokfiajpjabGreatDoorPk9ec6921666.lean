/- An image made: Created (the document's). A shelf is laid of files that are told: the walk. A job's step; the program's side. What a job that is ready has moved lasts; the program's side. No conditions. -/
import Derived.Test.YtbpblokfiajpjabGreatDoorPk7ddc8039fe
import Derived.Test.YtbpblokfiajpjabGreatDoorProg
namespace Go.Proofs.YtbpblokfiajpjabGreatDoor
open Go.RowKit Go.SL Go.Crc
attribute [local go_sem ↓] Go.wp_at_zero Go.wp_at_succ
set_option maxRecDepth 100000 in
set_option maxHeartbeats 8000000 in
theorem created_any (bd : Nat) (d : DevM) (hd : d.Ok) (hp : d.pend.length < 999000) (hw : d.writes < 999000) (c p b : Int) (R : List SL.HP) (w : World) (H : own w (rdevAt bd d::R)) :
  Calls Tryz.prog 63 #[.pointer (some ⟨bd,0,none⟩),headV c p b] w (RMadePost bd (createR d c p b) R w):=by
 have hE : createR d c p b = if fitBad d c p b then (1,madeM d c p b)
  else if (d.puts 1 (rowsL (zeroT c))).1≠0 then ((d.puts 1 (rowsL (zeroT c))).1,madeM (d.puts 1 (rowsL (zeroT c))).2 c p b)
  else if ((d.puts 1 (rowsL (zeroT c))).2.flush.write 0 (headS c p b)).1≠0 then (((d.puts 1 (rowsL (zeroT c))).2.flush.write 0 (headS c p b)).1,madeM ((d.puts 1 (rowsL (zeroT c))).2.flush.write 0 (headS c p b)).2 c p b)
  else (0,madeM ((d.puts 1 (rowsL (zeroT c))).2.flush.write 0 (headS c p b)).2.flush c p b):=rfl
 generalize createR d c p b = S at *
 have HE:=Lib.hid hE
 clear hE
 have ha:=own_alloc H (.cells #[.int .i64 c,.int .i64 p,.int .i64 b] 103)
 have hxa:=(Ext.refl w).alloc (.cells #[.int .i64 c,.int .i64 p,.int .i64 b] 103)
 obtain ⟨vf,va,vw,h⟩:=rdev_open (own_pick 1 ha rfl)
 obtain ⟨af,gf,cf,rfl,-,-,-,-,-,-,-⟩:=own_row_form 1 h rfl
 have hn:=hd.n
 have hfh:=fun (R : List SL.HP) (w : World) (H : own w R)=>headfault_any c p b R w H
 by_cases hb : headBad c p b
 ·have hS : S = (1,madeM d c p b):=by rw [HE.out,if_pos (show fitBad d c p b from .inl hb)]
  rw [show headF c p b = 1 from if_pos hb] at hfh
  have HFH:=Lib.hid hfh
  have HS:=Lib.hid hS
  clear hb hS hfh
  unfold headV at HFH
  unfold headV
  go_enter Tryz.func63,Tryz.ntmps63
  go_upto_region 1 with (fail)
  generalize w.heap.size = gh at *
  generalize w.alloc (.cells #[.int .i64 c,.int .i64 p,.int .i64 b] 103) = w1 at *
  have hd1:=own_drew h
  clear h
  refine wp_region_held_drew (S:=fun w'=>w'.cell? ⟨gh,0,none⟩ = some (.int .i64 c)∧w'.cell? ⟨gh,1,none⟩ = some (.int .i64 p)∧w'.cell? ⟨gh,2,none⟩ = some (.int .i64 b)∧w'.cell? ⟨bd,0,none⟩ = some (.slice af d.fl.length cf)) (by kernel_rfl) ⟨(own_cells 4 hd1 rfl).1 0,(own_cells 4 hd1 rfl).1 1,(own_cells 4 hd1 rfl).1 2,(own_cells 0 hd1 rfl).1 0⟩ (fun hHeld=>?_)
  refine wpAnyH_take (i:=0) (v:=?_) rfl (by kernel_rfl) (by kernel_rfl) (by kernel_rfl) (fun _ _ _ h=>h) (Or.inl ⟨by rfl,?_⟩) (by assumption) ?_
  rotate_left
  ·intro w hSw
   go_simp
   try with_reducible rfl
  try simp only [Act.put,List.setIfInBounds_toArray,List.set_cons_zero,List.set_cons_succ]
  refine wpAnyH_ready (rs:=[1]) (by kernel_rfl) (by simp) ?_
  refine AllReadyH.cons rfl (fun K hK=>?_) AllReadyH.nil
  go_simp
  go_at_call 129
  refine (HFH.out _ _ hd1).mono ?_
  rintro e w2 ⟨rfl,hx2,h2⟩
  go_simp
  refine hK.out _ _ ⟨(own_cells 4 h2 rfl).1 0,(own_cells 4 h2 rfl).1 1,(own_cells 4 h2 rfl).1 2,(own_cells 0 h2 rfl).1 0⟩ (fun _=>?_)
  clear hK K
  try simp only [Act.put,List.setIfInBounds_toArray,List.set_cons_zero,List.set_cons_succ]
  refine wpAnyH_take (i:=2) (v:=?_) rfl (by kernel_rfl) (by kernel_rfl) (by kernel_rfl) (fun _ _ _ h=>h) (Or.inl ⟨by rfl,?_⟩) (by assumption) ?_
  rotate_left
  ·intro w hSw
   go_simp
   try with_reducible rfl
  try simp only [Act.put,List.setIfInBounds_toArray,List.set_cons_zero,List.set_cons_succ]
  refine wpAnyH_take (i:=3) (v:=?_) rfl (by kernel_rfl) (by kernel_rfl) (by kernel_rfl) (fun _ _ _ h=>h) (Or.inl ⟨by rfl,?_⟩) (by assumption) ?_
  rotate_left
  ·intro w hSw
   go_simp
   try with_reducible rfl
  try simp only [Act.put,List.setIfInBounds_toArray,List.set_cons_zero,List.set_cons_succ]
  refine wpAnyH_take (i:=4) (v:=undef) rfl (by kernel_rfl) (by kernel_rfl) (by kernel_rfl) (fun _ _ _ h=>h) (Or.inr ⟨by kernel_rfl,rfl⟩) (by assumption) ?_
  try simp only [Act.put,List.setIfInBounds_toArray,List.set_cons_zero,List.set_cons_succ]
  refine wpAnyH_take (i:=5) (v:=undef) rfl (by kernel_rfl) (by kernel_rfl) (by kernel_rfl) (fun _ _ _ h=>h) (Or.inr ⟨by kernel_rfl,rfl⟩) (by assumption) ?_
  try simp only [Act.put,List.setIfInBounds_toArray,List.set_cons_zero,List.set_cons_succ]
  refine wpAnyH_take (i:=6) (v:=undef) rfl (by kernel_rfl) (by kernel_rfl) (by kernel_rfl) (fun _ _ _ h=>h) (Or.inr ⟨by kernel_rfl,rfl⟩) (by assumption) ?_
  try simp only [Act.put,List.setIfInBounds_toArray,List.set_cons_zero,List.set_cons_succ]
  refine wpAnyH_take (i:=7) (v:=undef) rfl (by kernel_rfl) (by kernel_rfl) (by kernel_rfl) (fun _ _ _ h=>h) (Or.inr ⟨by kernel_rfl,rfl⟩) (by assumption) ?_
  try simp only [Act.put,List.setIfInBounds_toArray,List.set_cons_zero,List.set_cons_succ]
  refine wpAnyH_take (i:=8) (v:=undef) rfl (by kernel_rfl) (by kernel_rfl) (by kernel_rfl) (fun _ _ _ h=>h) (Or.inr ⟨by kernel_rfl,rfl⟩) (by assumption) ?_
  try simp only [Act.put,List.setIfInBounds_toArray,List.set_cons_zero,List.set_cons_succ]
  refine wpAnyH_take (i:=9) (v:=undef) rfl (by kernel_rfl) (by kernel_rfl) (by kernel_rfl) (fun _ _ _ h=>h) (Or.inr ⟨by kernel_rfl,rfl⟩) (by assumption) ?_
  try simp only [Act.put,List.setIfInBounds_toArray,List.set_cons_zero,List.set_cons_succ]
  refine wpAnyH_take (i:=10) (v:=undef) rfl (by kernel_rfl) (by kernel_rfl) (by kernel_rfl) (fun _ _ _ h=>h) (Or.inr ⟨by kernel_rfl,rfl⟩) (by assumption) ?_
  try simp only [Act.put,List.setIfInBounds_toArray,List.set_cons_zero,List.set_cons_succ]
  refine wpAnyH_take (i:=11) (v:=undef) rfl (by kernel_rfl) (by kernel_rfl) (by kernel_rfl) (fun _ _ _ h=>h) (Or.inr ⟨by kernel_rfl,rfl⟩) (by assumption) ?_
  try simp only [Act.put,List.setIfInBounds_toArray,List.set_cons_zero,List.set_cons_succ]
  refine wpAnyH_ready (rs:=[12]) (by kernel_rfl) (by simp) ?_
  refine AllReadyH.cons rfl (fun K hK=>?_) AllReadyH.nil
  go_simp
  refine hK.out _ _ (by assumption) (fun _=>?_)
  clear hK K
  try simp only [Act.put,List.setIfInBounds_toArray,List.set_cons_zero,List.set_cons_succ]
  refine wpAnyH_done (by kernel_rfl) ?_ _
  have h3:=rdev_close h2
  have hx3:=hxa.drew.trans hx2
  clear hd1 h2
  go_wp2_with fail
  go_ret2
  rw [HS.out]
  exact .inl ⟨by simp,rfl,hx3,own_erase 1 h3 rfl⟩
 ·rw [show headF c p b = 0 from if_neg hb] at hfh
  have HFH:=Lib.hid hfh
  have HND:=Lib.hid (fun (R : List SL.HP) (w : World) (H : own w R)=>rneed_any c p b hb R w H)
  have HB:=Lib.hid hb
  have hfb : fitBad d c p b↔(d.fl.length : Int) < needN c p:=⟨fun h=>h.elim (fun h=>absurd h hb) id,.inr⟩
  have HFB:=Lib.hid hfb
  clear hb hfh hfb
  generalize needN c p = nd at *
  by_cases hl : (d.fl.length : Int) < nd
  ·have d0 : decide ((d.fl.length : Int) < nd) = true:=decide_eq_true hl
   have HL:=Lib.hid hl
   clear hl
   unfold headV at HFH HND
   unfold headV
   go_enter Tryz.func63,Tryz.ntmps63
   go_upto_region 1 with (fail)
   generalize w.heap.size = gh at *
   generalize w.alloc (.cells #[.int .i64 c,.int .i64 p,.int .i64 b] 103) = w1 at *
   have hd1:=own_drew h
   clear h
   refine wp_region_held_drew (S:=fun w'=>w'.cell? ⟨gh,0,none⟩ = some (.int .i64 c)∧w'.cell? ⟨gh,1,none⟩ = some (.int .i64 p)∧w'.cell? ⟨gh,2,none⟩ = some (.int .i64 b)∧w'.cell? ⟨bd,0,none⟩ = some (.slice af d.fl.length cf)) (by kernel_rfl) ⟨(own_cells 4 hd1 rfl).1 0,(own_cells 4 hd1 rfl).1 1,(own_cells 4 hd1 rfl).1 2,(own_cells 0 hd1 rfl).1 0⟩ (fun hHeld=>?_)
   refine wpAnyH_take (i:=0) (v:=?_) rfl (by kernel_rfl) (by kernel_rfl) (by kernel_rfl) (fun _ _ _ h=>h) (Or.inl ⟨by rfl,?_⟩) (by assumption) ?_
   rotate_left
   ·intro w hSw
    go_simp
    try with_reducible rfl
   try simp only [Act.put,List.setIfInBounds_toArray,List.set_cons_zero,List.set_cons_succ]
   refine wpAnyH_ready (rs:=[1]) (by kernel_rfl) (by simp) ?_
   refine AllReadyH.cons rfl (fun K hK=>?_) AllReadyH.nil
   go_simp
   go_at_call 129
   refine (HFH.out _ _ hd1).mono ?_
   rintro e w2 ⟨rfl,hx2,h2⟩
   go_simp
   refine hK.out _ _ ⟨(own_cells 4 h2 rfl).1 0,(own_cells 4 h2 rfl).1 1,(own_cells 4 h2 rfl).1 2,(own_cells 0 h2 rfl).1 0⟩ (fun _=>?_)
   clear hK K
   try simp only [Act.put,List.setIfInBounds_toArray,List.set_cons_zero,List.set_cons_succ]
   refine wpAnyH_take (i:=2) (v:=?_) rfl (by kernel_rfl) (by kernel_rfl) (by kernel_rfl) (fun _ _ _ h=>h) (Or.inl ⟨by rfl,?_⟩) (by assumption) ?_
   rotate_left
   ·intro w hSw
    go_simp
    try with_reducible rfl
   try simp only [Act.put,List.setIfInBounds_toArray,List.set_cons_zero,List.set_cons_succ]
   refine wpAnyH_take (i:=3) (v:=?_) rfl (by kernel_rfl) (by kernel_rfl) (by kernel_rfl) (fun _ _ _ h=>h) (Or.inl ⟨by rfl,?_⟩) (by assumption) ?_
   rotate_left
   ·intro w hSw
    go_simp
    try with_reducible rfl
   try simp only [Act.put,List.setIfInBounds_toArray,List.set_cons_zero,List.set_cons_succ]
   refine wpAnyH_take (i:=4) (v:=?_) rfl (by kernel_rfl) (by kernel_rfl) (by kernel_rfl) (fun _ _ _ h=>h) (Or.inl ⟨by rfl,?_⟩) (by assumption) ?_
   rotate_left
   ·intro w hSw
    go_simp
    try with_reducible rfl
   try simp only [Act.put,List.setIfInBounds_toArray,List.set_cons_zero,List.set_cons_succ]
   refine wpAnyH_take (i:=6) (v:=?_) rfl (by kernel_rfl) (by kernel_rfl) (by kernel_rfl) (fun _ _ _ h=>h) (Or.inl ⟨by rfl,?_⟩) (by assumption) ?_
   rotate_left
   ·intro w hSw
    go_simp
    try with_reducible rfl
   try simp only [Act.put,List.setIfInBounds_toArray,List.set_cons_zero,List.set_cons_succ]
   refine wpAnyH_take (i:=7) (v:=?_) rfl (by kernel_rfl) (by kernel_rfl) (by kernel_rfl) (fun _ _ _ h=>h) (Or.inl ⟨by rfl,?_⟩) (by assumption) ?_
   rotate_left
   ·intro w hSw
    go_simp
    try with_reducible rfl
   try simp only [Act.put,List.setIfInBounds_toArray,List.set_cons_zero,List.set_cons_succ]
   refine wpAnyH_take (i:=8) (v:=?_) rfl (by kernel_rfl) (by kernel_rfl) (by kernel_rfl) (fun _ _ _ h=>h) (Or.inl ⟨by rfl,?_⟩) (by assumption) ?_
   rotate_left
   ·intro w hSw
    go_simp
    try with_reducible rfl
   try simp only [Act.put,List.setIfInBounds_toArray,List.set_cons_zero,List.set_cons_succ]
   refine wpAnyH_take (i:=9) (v:=?_) rfl (by kernel_rfl) (by kernel_rfl) (by kernel_rfl) (fun _ _ _ h=>h) (Or.inl ⟨by rfl,?_⟩) (by assumption) ?_
   rotate_left
   ·intro w hSw
    go_simp
    try with_reducible rfl
   try simp only [Act.put,List.setIfInBounds_toArray,List.set_cons_zero,List.set_cons_succ]
   refine wpAnyH_take (i:=10) (v:=?_) rfl (by kernel_rfl) (by kernel_rfl) (by kernel_rfl) (fun _ _ _ h=>h) (Or.inl ⟨by rfl,?_⟩) (by assumption) ?_
   rotate_left
   ·intro w hSw
    go_simp
    try with_reducible rfl
   try simp only [Act.put,List.setIfInBounds_toArray,List.set_cons_zero,List.set_cons_succ]
   refine wpAnyH_ready (rs:=[5]) (by kernel_rfl) (by simp) ?_
   refine AllReadyH.cons rfl (fun K hK=>?_) AllReadyH.nil
   go_simp
   go_at_call 130
   refine (HND.out _ _ h2).mono ?_
   rintro e w3 ⟨rfl,hx3,h3⟩
   go_simp
   refine hK.out _ _ ⟨(own_cells 4 h3 rfl).1 0,(own_cells 4 h3 rfl).1 1,(own_cells 4 h3 rfl).1 2,(own_cells 0 h3 rfl).1 0⟩ (fun _=>?_)
   clear hK K
   try simp only [Act.put,List.setIfInBounds_toArray,List.set_cons_zero,List.set_cons_succ]
   refine wpAnyH_ready (rs:=[11]) (by kernel_rfl) (by simp) ?_
   refine AllReadyH.cons rfl (fun K hK=>?_) AllReadyH.nil
   go_simp
   refine hK.out _ _ (by assumption) (fun _=>?_)
   clear hK K
   try simp only [Act.put,List.setIfInBounds_toArray,List.set_cons_zero,List.set_cons_succ]
   refine wpAnyH_ready (rs:=[12]) (by kernel_rfl) (by simp) ?_
   refine AllReadyH.cons rfl (fun K hK=>?_) AllReadyH.nil
   go_simp
   refine hK.out _ _ (by assumption) (fun _=>?_)
   clear hK K
   try simp only [Act.put,List.setIfInBounds_toArray,List.set_cons_zero,List.set_cons_succ]
   refine wpAnyH_done (by kernel_rfl) ?_ _
   have h4:=rdev_close h3
   have hx4:=(hxa.drew.trans hx2).trans hx3
   clear hd1 h2 h3
   go_wp2_with fail
   go_ret2
   rw [HE.out,if_pos (HFB.out.2 HL.out)]
   exact .inl ⟨by simp,rfl,hx4,own_erase 1 h4 rfl⟩
  ·have d0 : decide ((d.fl.length : Int) < nd) = false:=decide_eq_false hl
   have HL:=Lib.hid hl
   clear hl
   unfold headV at HFH HND
   unfold headV
   go_enter Tryz.func63,Tryz.ntmps63
   go_upto_region 1 with (fail)
   generalize w.heap.size = gh at *
   generalize w.alloc (.cells #[.int .i64 c,.int .i64 p,.int .i64 b] 103) = w1 at *
   have hd1:=own_drew h
   clear h
   refine wp_region_held_drew (S:=fun w'=>w'.cell? ⟨gh,0,none⟩ = some (.int .i64 c)∧w'.cell? ⟨gh,1,none⟩ = some (.int .i64 p)∧w'.cell? ⟨gh,2,none⟩ = some (.int .i64 b)∧w'.cell? ⟨bd,0,none⟩ = some (.slice af d.fl.length cf)) (by kernel_rfl) ⟨(own_cells 4 hd1 rfl).1 0,(own_cells 4 hd1 rfl).1 1,(own_cells 4 hd1 rfl).1 2,(own_cells 0 hd1 rfl).1 0⟩ (fun hHeld=>?_)
   refine wpAnyH_take (i:=0) (v:=?_) rfl (by kernel_rfl) (by kernel_rfl) (by kernel_rfl) (fun _ _ _ h=>h) (Or.inl ⟨by rfl,?_⟩) (by assumption) ?_
   rotate_left
   ·intro w hSw
    go_simp
    try with_reducible rfl
   try simp only [Act.put,List.setIfInBounds_toArray,List.set_cons_zero,List.set_cons_succ]
   refine wpAnyH_ready (rs:=[1]) (by kernel_rfl) (by simp) ?_
   refine AllReadyH.cons rfl (fun K hK=>?_) AllReadyH.nil
   go_simp
   go_at_call 129
   refine (HFH.out _ _ hd1).mono ?_
   rintro e w2 ⟨rfl,hx2,h2⟩
   go_simp
   refine hK.out _ _ ⟨(own_cells 4 h2 rfl).1 0,(own_cells 4 h2 rfl).1 1,(own_cells 4 h2 rfl).1 2,(own_cells 0 h2 rfl).1 0⟩ (fun _=>?_)
   clear hK K
   try simp only [Act.put,List.setIfInBounds_toArray,List.set_cons_zero,List.set_cons_succ]
   refine wpAnyH_take (i:=2) (v:=?_) rfl (by kernel_rfl) (by kernel_rfl) (by kernel_rfl) (fun _ _ _ h=>h) (Or.inl ⟨by rfl,?_⟩) (by assumption) ?_
   rotate_left
   ·intro w hSw
    go_simp
    try with_reducible rfl
   try simp only [Act.put,List.setIfInBounds_toArray,List.set_cons_zero,List.set_cons_succ]
   refine wpAnyH_take (i:=3) (v:=?_) rfl (by kernel_rfl) (by kernel_rfl) (by kernel_rfl) (fun _ _ _ h=>h) (Or.inl ⟨by rfl,?_⟩) (by assumption) ?_
   rotate_left
   ·intro w hSw
    go_simp
    try with_reducible rfl
   try simp only [Act.put,List.setIfInBounds_toArray,List.set_cons_zero,List.set_cons_succ]
   refine wpAnyH_take (i:=4) (v:=?_) rfl (by kernel_rfl) (by kernel_rfl) (by kernel_rfl) (fun _ _ _ h=>h) (Or.inl ⟨by rfl,?_⟩) (by assumption) ?_
   rotate_left
   ·intro w hSw
    go_simp
    try with_reducible rfl
   try simp only [Act.put,List.setIfInBounds_toArray,List.set_cons_zero,List.set_cons_succ]
   refine wpAnyH_take (i:=6) (v:=?_) rfl (by kernel_rfl) (by kernel_rfl) (by kernel_rfl) (fun _ _ _ h=>h) (Or.inl ⟨by rfl,?_⟩) (by assumption) ?_
   rotate_left
   ·intro w hSw
    go_simp
    try with_reducible rfl
   try simp only [Act.put,List.setIfInBounds_toArray,List.set_cons_zero,List.set_cons_succ]
   refine wpAnyH_take (i:=7) (v:=?_) rfl (by kernel_rfl) (by kernel_rfl) (by kernel_rfl) (fun _ _ _ h=>h) (Or.inl ⟨by rfl,?_⟩) (by assumption) ?_
   rotate_left
   ·intro w hSw
    go_simp
    try with_reducible rfl
   try simp only [Act.put,List.setIfInBounds_toArray,List.set_cons_zero,List.set_cons_succ]
   refine wpAnyH_take (i:=8) (v:=?_) rfl (by kernel_rfl) (by kernel_rfl) (by kernel_rfl) (fun _ _ _ h=>h) (Or.inl ⟨by rfl,?_⟩) (by assumption) ?_
   rotate_left
   ·intro w hSw
    go_simp
    try with_reducible rfl
   try simp only [Act.put,List.setIfInBounds_toArray,List.set_cons_zero,List.set_cons_succ]
   refine wpAnyH_take (i:=9) (v:=?_) rfl (by kernel_rfl) (by kernel_rfl) (by kernel_rfl) (fun _ _ _ h=>h) (Or.inl ⟨by rfl,?_⟩) (by assumption) ?_
   rotate_left
   ·intro w hSw
    go_simp
    try with_reducible rfl
   try simp only [Act.put,List.setIfInBounds_toArray,List.set_cons_zero,List.set_cons_succ]
   refine wpAnyH_take (i:=10) (v:=?_) rfl (by kernel_rfl) (by kernel_rfl) (by kernel_rfl) (fun _ _ _ h=>h) (Or.inl ⟨by rfl,?_⟩) (by assumption) ?_
   rotate_left
   ·intro w hSw
    go_simp
    try with_reducible rfl
   try simp only [Act.put,List.setIfInBounds_toArray,List.set_cons_zero,List.set_cons_succ]
   refine wpAnyH_ready (rs:=[5]) (by kernel_rfl) (by simp) ?_
   refine AllReadyH.cons rfl (fun K hK=>?_) AllReadyH.nil
   go_simp
   go_at_call 130
   refine (HND.out _ _ h2).mono ?_
   rintro e w3 ⟨rfl,hx3,h3⟩
   go_simp
   refine hK.out _ _ ⟨(own_cells 4 h3 rfl).1 0,(own_cells 4 h3 rfl).1 1,(own_cells 4 h3 rfl).1 2,(own_cells 0 h3 rfl).1 0⟩ (fun _=>?_)
   clear hK K
   try simp only [Act.put,List.setIfInBounds_toArray,List.set_cons_zero,List.set_cons_succ]
   refine wpAnyH_ready (rs:=[11]) (by kernel_rfl) (by simp) ?_
   refine AllReadyH.cons rfl (fun K hK=>?_) AllReadyH.nil
   go_simp
   refine hK.out _ _ (by assumption) (fun _=>?_)
   clear hK K
   try simp only [Act.put,List.setIfInBounds_toArray,List.set_cons_zero,List.set_cons_succ]
   refine wpAnyH_ready (rs:=[12]) (by kernel_rfl) (by simp) ?_
   refine AllReadyH.cons rfl (fun K hK=>?_) AllReadyH.nil
   go_simp
   refine hK.out _ _ (by assumption) (fun _=>?_)
   clear hK K
   try simp only [Act.put,List.setIfInBounds_toArray,List.set_cons_zero,List.set_cons_succ]
   refine wpAnyH_done (by kernel_rfl) ?_ _
   have h4:=rdev_close h3
   have hx4:=(hxa.drew.trans hx2).trans hx3
   clear hd1 h2 h3
   go_upto_region 4 with (fail)
   have hhb:=HB.out
   unfold headBad at hhb
   obtain ⟨C,rfl⟩:=Int.eq_ofNat_of_zero_le (show 0≤c by omega)
   have c2 : C≤32:=by omega
   clear hhb
   have h5:=own_alloc h4 (.cells #[.pointer (some ⟨bd,0,none⟩),.int .i64 C,.int .i64 p,.int .i64 b,.slice none 0 0,.slice none 0 0] 152)
   have hx5:=hx4.alloc (.cells #[.pointer (some ⟨bd,0,none⟩),.int .i64 C,.int .i64 p,.int .i64 b,.slice none 0 0,.slice none 0 0] 152)
   generalize w3.heap.size = bi at *
   generalize w3.alloc (.cells #[.pointer (some ⟨bd,0,none⟩),.int .i64 C,.int .i64 p,.int .i64 b,.slice none 0 0,.slice none 0 0] 152) = w5 at *
   have h6:=own_row_nil 221 2 h5
   clear h5 h4 hx4
   go_wp2_with fail
   go_loopw [7] (fun i wr=>∃(q : Nat) (v : Value),q≤C∧i = .int .i64 q∧Ext w wr∧own wr (row 221 2 v q (entCells (List.replicate q (0,0)))::pts bi (.cells #[.pointer (some ⟨bd,0,none⟩),.int .i64 C,.int .i64 p,.int .i64 b,v,.slice none 0 0] 152 (0,0))::rdevAt bd d::pts gh (.cells #[.int .i64 C,.int .i64 p,.int .i64 b] 103 (0,0))::R)) (fun i _=>C - (intOf i).toNat)
   case atStart=>exact ⟨0,_,by omega,rfl,hx5,h6⟩
   case round=>
    obtain ⟨q,v,hq,rfl,hxr,hown⟩:=hrel
    by_cases hlt : q < C
    ·obtain ⟨cc,ff⟩:=own_cells 1 hown rfl
     obtain ⟨cg,fg⟩:=own_cells 3 hown rfl
     have hqC : (q : Int) < (C : Int):=by omega
     have hml : q + 1≤maxLen:=by simp only [maxLen]; omega
     have e1 : IntKind.i64.wrap ((q : Int) + 1) = (q : Int) + 1:=IntWalk.i64_in _ (by omega)
     have ha2:=own_alloc hown (.cells #[.int .i64 0,.int .i64 0] 221)
     have one0 : ∀u∈[Value.int .i64 0,Value.int .i64 0],u.oneCell' = true:=fun u hu=>by simp at hu; subst hu; rfl
     go_wp2_with (first | (at_builtin; refine wpList_append_row rfl _ _ 150 rfl 1 221 Tryz.underlying150 elem_entry rfl (by decide) rfl ha2 rfl (some ⟨wr.heap.size,0,none⟩) 1 1 [.int .i64 0,.int .i64 0] rfl rfl (alloc_news wr [.int .i64 0,.int .i64 0] _) (fun h=>by cases h) one0 hml (by omega) ?_))
     intro v' w6 h6' hx6
     have hx7:=(hxr.alloc (.cells #[.int .i64 0,.int .i64 0] 221)).trans hx6
     clear cc ff cg fg ha2 hown hxr hx6
     obtain ⟨cc,ff⟩:=own_cells 2 h6' rfl
     obtain ⟨ao',g',cap',rfl,-,-,-,-,-,-,-⟩:=own_row_form 1 h6' rfl
     have h7:=own_set (i:=4) (v:=.slice ao' (q + 1) cap') 2 h6' rfl
     have hx8:=hx7.setCell ⟨bi,4,none⟩ (.slice ao' (q + 1) cap')
     go_wp2_with fail
     go_roundw
     case rel=>
      refine ⟨q + 1,.slice ao' (q + 1) cap',by omega,by go_num,hx8,?_⟩
      have h8:=own_drop h7
      have e9 : entCells (List.replicate (q + 1) ((0,0) : Ent)) = entCells (List.replicate q (0,0))++[.int .i64 0,.int .i64 0]:=by
       rw [List.replicate_succ',entCells,List.flatMap_append]; rfl
      rw [e9]
      exact h8
     case measure=>simp [intOf]; omega
    ·obtain rfl : C = q:=by omega
     have h7 : own wr (rimgAt bi bd (madeM d C p b)::rdevAt bd d::pts gh (.cells #[.int .i64 C,.int .i64 p,.int .i64 b] 103 (0,0))::R):=by
      have h1:=own_behind [_,_] (own_row_nil 3 1 (own_pick 1 hown rfl))
      exact rimg_close (m:=madeM d C p b) (by
       show own _ (pts bi _::row 221 2 v (List.replicate C ((0,0) : Ent)).length _::row 3 1 _ 0 []::_)
       rw [List.length_replicate]
       exact h1)
     have hx7:=hxr
     clear hown hxr hq hlt
     have hlz : (zeroT (C : Int)).length = C:=by simp [zeroT]
     have hrn : rowsN C≤4:=by unfold rowsN; omega
     have hll : (rowsL (zeroT (C : Int))).length = rowsN C:=by simp [rowsL,hlz]
     have HGET:=Lib.hid (fun (k : Nat) (h : k < rowsN C)=>rowsL_get (c:=(C : Int)) (k:=k) (by rw [hlz]; exact h))
     have HEND:=Lib.hid (show (rowsL (zeroT (C : Int))).drop (rowsN C) = [] from List.drop_of_length_le (by omega))
     have HOK:=Lib.hid (fun (k : Nat) (h : k < rowsN C)=>rowOf_valid (t:=zeroT (C : Int)) (r:=k) (by rw [hlz]; omega) (by rw [hlz]; exact h) (zero_valid C))
     have HRW:=Lib.hid (rrows_any C (by omega))
     have hpo:=puts_ok (l:=rowsL (zeroT (C : Int))) (d:=d) (a:=1) hd (by omega) (by omega)
     have hpn:=puts_nonneg (l:=rowsL (zeroT (C : Int))) (d:=d) (a:=1)
     rw [hll] at hpo
     have hE3:=HE.out
     rw [if_neg (fun h=>by have h1:=HFB.out.1 h; have h2:=HL.out; omega)] at hE3
     have HLZ:=Lib.hid hlz
     generalize hrl : rowsL (zeroT (C : Int)) = RL at *
     generalize hres : d.puts 1 RL = res at *
     have HRES:=Lib.hid hres
     have HE4:=Lib.hid hE3
     generalize hN : rowsN C = N at *
     obtain ⟨o1,o2,o3,o4⟩:=hpo
     clear hE3 hlz HE hres hrl HL HFB HND HFH d0
     obtain ⟨c0,f0⟩:=own_cells 2 h7 rfl
     go_wp2_with fail
     clear c0 f0
     go_loopw [8] (putInvL (fun dk=>rimgAt bi bd (madeM d C p b)::rdevAt bd dk::pts gh (.cells #[.int .i64 C,.int .i64 p,.int .i64 b] 103 (0,0))::R) d 1 RL res w) (fun i _=>N - (intOf i).toNat)
     case atStart=>exact ⟨0,d,by omega,rfl,by simpa using HRES.out,hd,by omega,by simp,hx7,h7⟩
     case round=>
      obtain ⟨k,dk,hk,rfl,hput,okd,hpk,hwk,hxr,hown⟩:=hrel
      rw [hll] at hk
      obtain ⟨cg,fg⟩:=own_cells 2 (by exact hown) rfl
      by_cases hlt : k < N
      ·rw [HGET.out k hlt] at hput
       obtain ⟨z,hz⟩ : ∃z,rowOf (zeroT (C : Int)) (k : Int) = (z,0):=⟨_,Prod.ext rfl (HOK.out k hlt)⟩
       have hsz:=rowOf_size (HOK.out k hlt)
       rw [hz] at hput hsz
       dsimp only at hput hsz
       have HZ:=Lib.hid hz
       have HPUT:=Lib.hid hput
       clear hput hz
       have e1 : IntKind.i64.wrap ((k : Int) + 1) = (k : Int) + 1:=IntWalk.i64_in _ (by omega)
       have e2 : IntKind.i64.wrap (1 + (k : Int)) = 1 + (k : Int):=IntWalk.i64_in _ (by omega)
       have hkN : (k : Int) < (N : Int):=by omega
       have HW:=Lib.hid (fun (R : List SL.HP) (w : World) (H : own w (rdevAt bd dk::R))=>rdev_write bd dk okd (1 + (k : Int)) z (by omega) (by omega) (by omega) R w H)
       have hcode:=write_nonneg dk (1 + (k : Int)) z
       obtain ⟨l1,l2,l3⟩:=write_lens dk (1 + (k : Int)) z
       have okw:=DevM.write_ok okd (1 + (k : Int)) z (by omega) (by omega)
       have hstep : dk.puts (1 + (k : Int)) (z::RL.drop (k + 1)) = if (dk.write (1 + (k : Int)) z).1≠0 then dk.write (1 + (k : Int)) z else (dk.write (1 + (k : Int)) z).2.puts (1 + (k : Int) + 1) (RL.drop (k + 1)):=rfl
       rw [HPUT.out] at hstep
       have HSTP:=Lib.hid hstep
       clear hstep l1
       generalize dk.write (1 + (k : Int)) z = r at *
       clear HGET HOK
       obtain ⟨vt,vh,h⟩:=rimg_open hown
       obtain ⟨cc,ff⟩:=own_cells 0 h rfl
       go_wp2_with fail
       refine (HRW.out wr).mono ?_
       rintro e w' ⟨rfl,rfl⟩
       go_wp2_with fail
       refine (rrowof_any vt (zeroT (C : Int)) (k : Int) (by have:=HLZ.out; omega) _ wr (fun w' L H=>ents_row (L.length + 1) (l:=zeroT (C : Int)) H (at_behind (l:=L) rfl)) h).mono ?_
       rw [HZ.out]
       rintro e w4 ⟨rfl,hx4,h4⟩
       clear cc ff cg fg
       go_wp2_with fail
       refine (HW.out _ w4 (own_pick 3 h4 rfl)).mono ?_
       rintro e w5 ⟨rfl,hx5',h5'⟩
       have h5:=rimg_close (m:=madeM d C p b) (own_put h4 3 rfl h5')
       have hx5:=(hxr.trans hx4).trans hx5'
       clear hx5' hx4 hown hxr h h4 h5'
       by_cases hz : r.1 = 0
       ·have HZ0:=Lib.hid hz
        have t0 : decide (0 < r.1) = false:=decide_eq_false (by omega)
        clear hz
        go_wp2_with fail
        go_roundw
        case rel=>exact ⟨k + 1,r.2,by rw [hll]; omega,by go_num,by have:=HSTP.out; rw [if_neg (by simpa using HZ0.out)] at this; rw [this]; congr 1 <;> omega,okw,by omega,by omega,hx5,h5⟩
        case measure=>simp [intOf]; omega
       ·have hfin : res = r:=by have:=HSTP.out; rw [if_pos hz] at this; exact this
        have hS2 : S = (r.1,madeM r.2 C p b):=by rw [HE4.out,hfin,if_pos hz]
        have HF:=Lib.hid hS2
        have t0 : decide (0 < r.1) = true:=decide_eq_true (by omega)
        have hpz : 0 < r.1:=by omega
        clear hz hfin hS2
        go_wp2_with fail
        go_ret2
        rw [HF.out]
        exact .inl ⟨by dsimp only; omega,rfl,hx5,own_erase 1 (own_erase 0 h5 rfl) rfl⟩
      ·obtain rfl : N = k:=by omega
       rw [HEND.out,DevM.puts] at hput
       have hr0 : res.1 = 0:=by rw [← hput]
       have hr2 : res.2 = dk:=by rw [← hput]
       have hS2:=HE4.out
       rw [if_neg (by simpa using hr0),hr2] at hS2
       have HF:=Lib.hid hS2
       clear hput hlt hS2 hr0 hr2
       have HFL:=Lib.hid (fun (R : List SL.HP) (w : World) (H : own w (rdevAt bd dk::R))=>rdev_flush bd dk okd R w H)
       have okf:=DevM.flush_ok okd
       have hpl : dk.flush.pend.length = 0:=rfl
       have hwl : dk.flush.writes = dk.writes:=rfl
       have hhs : (headS C p b).size = 16:=seal_size (by simp)
       have HWR:=Lib.hid (fun (R : List SL.HP) (w : World) (H : own w (rdevAt bd dk.flush::R))=>rdev_write bd dk.flush okf 0 (headS C p b) (by omega) (by omega) (by omega) R w H)
       have hcode:=write_nonneg dk.flush 0 (headS C p b)
       have okw:=DevM.write_ok okf 0 (headS C p b) (by omega) (by omega)
       generalize dk.flush = df at *
       have HHD:=Lib.hid (fun (R : List SL.HP) (w : World) (H : own w R)=>headsector_any C p b HB.out R w H)
       unfold headV at HHD
       generalize headS C p b = hs at *
       generalize df.write 0 hs = r at *
       clear HGET HOK
       go_wp2_with fail
       refine (HRW.out wr).mono ?_
       rintro e w' ⟨rfl,rfl⟩
       go_wp2_with fail
       refine (HFL.out _ wr (own_pick 1 hown rfl)).mono ?_
       rintro e w5 ⟨rfl,hx5,h5'⟩
       have h5:=own_put hown 1 rfl h5'
       clear cg fg
       obtain ⟨cc,ff⟩:=own_cells 2 h5 rfl
       go_wp2_with fail
       refine (HHD.out _ w5 h5).mono ?_
       rintro e w6 ⟨rfl,hx6,h6⟩
       clear cc ff
       go_wp2_with fail
       refine (HWR.out _ w6 (own_pick 1 h6 rfl)).mono ?_
       rintro e w7 ⟨rfl,hx7',h7'⟩
       have h7:=own_put h6 1 rfl h7'
       have hx7f:=((hxr.trans hx5).trans hx6).trans hx7'
       by_cases hz : r.1 = 0
       ·have hS2:=HF.out
        rw [if_neg (by simpa using hz)] at hS2
        have HS2:=Lib.hid hS2
        have t0 : decide (0 < r.1) = false:=decide_eq_false (by omega)
        have HFL2:=Lib.hid (fun (R : List SL.HP) (w : World) (H : own w (rdevAt bd r.2::R))=>rdev_flush bd r.2 okw R w H)
        clear hz hS2
        go_wp2_with fail
        refine (HFL2.out _ w7 (own_pick 1 h7 rfl)).mono ?_
        rintro e w8 ⟨rfl,hx8,h8'⟩
        have h8:=own_put h7 1 rfl h8'
        go_wp2_with fail
        go_ret2
        rw [HS2.out]
        exact .inr ⟨rfl,bi,rfl,hx7f.trans hx8,own_erase 2 h8 rfl⟩
       ·have hS2:=HF.out
        rw [if_pos hz] at hS2
        have HS2:=Lib.hid hS2
        have t0 : decide (0 < r.1) = true:=decide_eq_true (by omega)
        clear hz hS2
        go_wp2_with fail
        go_ret2
        rw [HS2.out]
        exact .inl ⟨by dsimp only; have:=of_decide_eq_true t0; omega,rfl,hx7f,own_erase 1 (own_erase 0 h7 rfl) rfl⟩
end Go.Proofs.YtbpblokfiajpjabGreatDoor

namespace Go.Proofs.YtbpblokfiajpjabGreatDoor
open Go.RowKit Go.SL Go.Crc
attribute [local go_sem ↓] Go.wp_at_zero Go.wp_at_succ
theorem own_swap2 {w : World} (l m : List SL.HP) {R : List SL.HP} (H : own w (l++(m++R))) : own w (m++(l++R)):=own_mono (fun _=>star_perm (List.perm_append_comm_assoc l m R)) H
theorem own_perm {w : World} {l m : List SL.HP} (p : l.Perm m) (H : own w l) : own w m:=own_mono (fun _=>star_perm p) H
theorem files_cell {w : World} {lb off n cap : Nat} {l : List FileM} (h : FilesAt w (.slice (some ⟨lb,off,none⟩) n cap) l) {i : Nat} (hi : i < l.length) : FileCells w lb (off + i * 5) (l.getD i fileNone):=by
 obtain ⟨ao,lb',off',cap',hv,h1,h2,h3,h4⟩:=h.form
 simp only [Value.slice.injEq] at hv
 have h5:=h3 (by omega)
 rw [← hv.1] at h5
 simp only [Option.some.injEq,Addr.mk.injEq,and_true] at h5
 obtain ⟨rfl,rfl⟩:=h5
 exact h4 i hi
theorem created_code (d : DevM) (c p b : Int) : 0≤(createR d c p b).1:=by
 unfold createR
 split
 ·simp
 ·split
  ·exact puts_nonneg
  ·split
   ·exact write_nonneg _ _ _
   ·simp
def LaidPost (F : ShM) (R : List SL.HP) (w : World) (e : Ending) (w' : World) : Prop:=
 ∃bs br A A2,e = .returned (.tuple #[.pointer (some ⟨bs,0,none⟩),.pointer (some ⟨br,0,none⟩),.bool true])∧Ext w w'∧own w' (shL bs A F++(rshL br A2 F++R))
set_option maxRecDepth 100000 in
set_option maxHeartbeats 16000000 in
theorem laid_any (v : Value) (l : List FileM) (hl5 : l.length≤5) (hI : ∀f∈l,f.is.length≤40) (R : List SL.HP) (w : World) (hv : ∀w' L,own w' (L++R)→FilesAt w' v l) (H : own w R) :
  Calls Tryz.prog 14 #[v] w (LaidPost (laidM l) R w):=by
 obtain ⟨ao,lb,off,cap,rfl,hlc,hcap,hao,-⟩:=(hv w [] H).form
 have HV:=Lib.hid hv
 have HAO:=Lib.hid hao
 have HI:=Lib.hid hI
 clear hv hao hI
 have h1:=sh_new (fun _=>(0,0,0)) H
 have hx1:=(Ext.refl w).alloc (.cells #[.pointer none,.pointer none,.pointer none,.pointer none,.pointer none] 111)
 go_enter Tryz.func14,Tryz.ntmps14
 go_upto_region 2 with (fail)
 generalize w.heap.size = bs at *
 generalize w.alloc (.cells #[.pointer none,.pointer none,.pointer none,.pointer none,.pointer none] 111) = w1 at *
 have h2:=rsh_new (fun _=>(0,0)) h1
 have hx2:=hx1.alloc (.cells #[.pointer none,.pointer none,.pointer none,.pointer none,.pointer none] 114)
 go_upto_region 3 with (fail)
 generalize w1.heap.size = br at *
 generalize w1.alloc (.cells #[.pointer none,.pointer none,.pointer none,.pointer none,.pointer none] 114) = w2 at *
 have h3:=own_swap2 (rshL br (fun _=>(0,0)) fun _=>none) (shL bs (fun _=>(0,0,0)) fun _=>none) h2
 rw [← laidTo_zero l] at h3
 clear h1 hx1 h2 H
 go_wp2_with fail
 go_loopw [7] (fun kv wr=>∃(q : Nat) (A : Nat→Nat×Nat×Nat) (A2 : Nat→Nat×Nat),q≤l.length∧kv = .int .i64 q∧Ext w wr∧own wr (shL bs A (laidTo l q)++(rshL br A2 (laidTo l q)++R))) (fun kv _=>6 - (intOf kv).toNat)
 case atStart=>exact ⟨0,_,_,by omega,rfl,hx2,h3⟩
 case round=>
  clear h3 hx2
  obtain ⟨q,A,A2,hq,rfl,hxr,hown⟩:=hrel
  by_cases hlt : q < l.length
  ·obtain rfl:=HAO.out (by omega)
   have hq5 : q < 5:=by omega
   have g1 : (q : Int) < 5:=by omega
   have g2 : (q : Int) < (l.length : Int):=by omega
   have g3 : (0 : Int)≤(q : Int):=by omega
   obtain ⟨c0,c1,c2,c3,c4⟩:=files_cell (HV.out wr (shL bs A (laidTo l q)++rshL br A2 (laidTo l q)) (by rwa [List.append_assoc])) hlt
   have hmem:=file_getD hlt
   have hfile : fileI (l.getD q fileNone) = if (l.getD q fileNone).there = true then (if (createR (newDev 170) (l.getD q fileNone).c (l.getD q fileNone).p (l.getD q fileNone).b).1 = 0 then some (fillIs (createR (newDev 170) (l.getD q fileNone).c (l.getD q fileNone).p (l.getD q fileNone).b).2 0 (l.getD q fileNone).is) else none) else none:=rfl
   cases hth : (l.getD q fileNone).there
   ·rw [hth,if_neg (by decide)] at hfile
    rw [hth] at c0
    have HN:=Lib.hid (laidTo_none hfile)
    clear hfile hth c1 c2 c3 c4 hmem
    go_wp2_with fail
    go_roundw
    case rel=>exact ⟨q + 1,A,A2,by omega,by go_num,hxr,by rw [← HN.out]; exact hown⟩
    case measure=>simp [intOf]; omega
   ·rw [hth,if_pos rfl] at hfile
    rw [hth] at c0
    have hcn:=created_code (newDev 170) (l.getD q fileNone).c (l.getD q fileNone).p (l.getD q fileNone).b
    have hcr:=created_ok (c:=(l.getD q fileNone).c) (p:=(l.getD q fileNone).p) (b:=(l.getD q fileNone).b) new170 (by show (0 : Nat) < 999000; omega) (by show (0 : Int) < 999000; omega)
    have HC1:=Lib.hid (fun (bd : Nat) (R : List SL.HP) (w : World) (H : own w (devAt bd (newDev 170)::R))=>create_any bd (newDev 170) new170 (by show (0 : Nat) < 999000; omega) (by show (0 : Int) < 999000; omega) (l.getD q fileNone).c (l.getD q fileNone).p (l.getD q fileNone).b R w H)
    have HC2:=Lib.hid (fun (bd : Nat) (R : List SL.HP) (w : World) (H : own w (rdevAt bd (newDev 170)::R))=>created_any bd (newDev 170) new170 (by show (0 : Nat) < 999000; omega) (by show (0 : Int) < 999000; omega) (l.getD q fileNone).c (l.getD q fileNone).p (l.getD q fileNone).b R w H)
    unfold headV at HC1 HC2
    have HCR:=Lib.hid hcr
    have HFI:=Lib.hid hfile
    have HIS:=Lib.hid (HI.out _ hmem)
    clear hcr hfile hth hmem
    generalize createR (newDev 170) (l.getD q fileNone).c (l.getD q fileNone).p (l.getD q fileNone).b = S at *
    obtain ⟨fc,m⟩:=S
    dsimp only at hcn HCR HFI
    have hdn:=dev_new_yes 170
    have hrn:=rdev_new 170
    have HFC:=Lib.hid (fun (w' : World) (L : List SL.HP) (H : own w' (L++R))=>files_cell (HV.out w' L H) hlt)
    generalize hff : l.getD q fileNone = f at *
    have HFF:=Lib.hid hff
    clear hff
    go_wp2_with fail
    refine (hdn _ wr rfl hown).mono ?_
    rintro e w3 ⟨bd,rfl,hx3,h3⟩
    clear c0 c1 c2 c3 c4
    have HCC:=Lib.hid (fun (w' : World) (L : List SL.HP) (H : own w' (L++R))=>show w'.cell? ⟨lb,off + q * 5 + 1,none⟩ = some (.int .i64 f.c)∧w'.cell? ⟨lb,off + q * 5 + 2,none⟩ = some (.int .i64 f.p)∧w'.cell? ⟨lb,off + q * 5 + 3,none⟩ = some (.int .i64 f.b) from (let ⟨_,a,b,c,_⟩:=HFC.out w' L H; ⟨a,b,c⟩))
    have HC4:=Lib.hid (fun (w' : World) (L : List SL.HP) (H : own w' (L++R))=>show w'.cell? ⟨lb,off + q * 5 + 4,none⟩ = some f.iv from (let ⟨_,_,_,_,c⟩:=HFC.out w' L H; c))
    have HFO:=Lib.hid (fun (w' : World) (L : List SL.HP) (H : own w' (L++R))=>show FileOk w' f from (HV.out w' L H).2 f (by rw [← HFF.out]; exact file_getD hlt))
    obtain ⟨c1,c2,c3⟩:=HCC.out w3 (devAt bd (newDev 170)::shL bs A (laidTo l q)++rshL br A2 (laidTo l q)) h3
    by_cases hf : fc = 0
    ·subst hf
     rw [if_pos rfl] at HFI
     obtain ⟨hm,-,-,-⟩:=HCR.out.2.2.2.2 rfl
     have hwr:=HCR.out.2.2.2.1
     have hpl:=HCR.out.2.2.1
     rw [show (newDev 170).writes = 0 from rfl] at hwr
     rw [show (newDev 170).pend.length = 0 from rfl] at hpl
     have HM:=Lib.hid hm
     have HC1s:=Lib.hid (fun (bd : Nat) (R : List SL.HP) (w : World) (H : own w (devAt bd (newDev 170)::R))=>(HC1.out bd R w H).mono fun e w' h=>(h.resolve_left fun h=>h.1 rfl).2)
     have HC2s:=Lib.hid (fun (bd : Nat) (R : List SL.HP) (w : World) (H : own w (rdevAt bd (newDev 170)::R))=>(HC2.out bd R w H).mono fun e w' h=>(h.resolve_left fun h=>h.1 rfl).2)
     clear HC1 HC2 HCR hm hcn
     dsimp only at HC1s HC2s
     go_wp2_with fail
     refine (HC1s.out bd _ w3 h3).mono ?_
     rintro e w4 ⟨b1,bh,rfl,hx4,h4⟩
     have hx4':=(hxr.trans hx3).trans hx4
     clear c1 c2 c3 hxr hx3 hx4 h3 hown
     go_upto_region 11 with (fail)
     have hz:=own_drew h4
     have hxz:=hx4'.drew
     clear h4 hx4'
     go_region_held3 (fun w'=>w'.cell? ⟨lb,off + q * 5 + 1,none⟩ = some (.int .i64 f.c)∧w'.cell? ⟨lb,off + q * 5 + 2,none⟩ = some (.int .i64 f.p)∧w'.cell? ⟨lb,off + q * 5 + 3,none⟩ = some (.int .i64 f.b)) (first | exact HCC.out _ (imgAt b1 bd bh m::devAt bd m.d::shL bs A (laidTo l q)++rshL br A2 (laidTo l q)) hz | exact HCC.out _ (rdevAt bd2 (newDev 170)::imgAt b1 bd bh m::devAt bd m.d::shL bs A (laidTo l q)++rshL br A2 (laidTo l q)) h5 | exact HCC.out _ (rimgAt b2 bd2 m::rdevAt bd2 m.d::imgAt b1 bd bh m::devAt bd m.d::shL bs A (laidTo l q)++rshL br A2 (laidTo l q)) h6) (first | (go_at_call 64; refine (hrn _ _ (by omega) hz).mono ?_; rintro e w5 ⟨bd2,rfl,hx5,h5⟩) | (go_at_call 63; refine (HC2s.out bd2 _ _ h5).mono ?_; rintro e w6 ⟨b2,rfl,hx6,h6⟩))
     all_goals
      have hx7:=(hxz.trans hx5).trans hx6
      clear hz hxz hx5 h5 hx6
      go_wp2_with fail
      refine (same_any 0 0 w6 (by omega)).mono ?_
      rintro e w8 ⟨rfl,rfl⟩
      go_wp2_with fail
      go_loopw [13] (fun cv wr=>∃(c : Nat) (mc : ImgM),c≤f.is.length∧cv = .int .i64 c∧Step (5 * c) m mc∧fillIs mc c (f.is.drop c) = fillIs m 0 f.is∧Ext w wr∧own wr (rimgAt b2 bd2 mc::rdevAt bd2 mc.d::imgAt b1 bd bh mc::devAt bd mc.d::(shL bs A (laidTo l q)++(rshL br A2 (laidTo l q)++R)))) (fun cv _=>f.is.length - (intOf cv).toNat)
      case atStart=>exact ⟨0,m,by omega,rfl,Step.refl HM.out _,rfl,hx7,h6⟩
      case round=>
       clear hx7 h6
       obtain ⟨c,mc,hc,rfl,hst,hgo,hxr,hown⟩:=hrel
       have hok:=HFO.out wr (rimgAt b2 bd2 mc::rdevAt bd2 mc.d::imgAt b1 bd bh mc::devAt bd mc.d::shL bs A (laidTo l q)++rshL br A2 (laidTo l q)) hown
       have c4:=HC4.out wr (rimgAt b2 bd2 mc::rdevAt bd2 mc.d::imgAt b1 bd bh mc::devAt bd mc.d::shL bs A (laidTo l q)++rshL br A2 (laidTo l q)) hown
       obtain ⟨iao,ilb,ioff,icap,hiv,-,-,hiao,hiat⟩:=hok.is.form
       rw [hiv] at c4
       have hil:=HIS.out
       by_cases hlc2 : c < f.is.length
       ·obtain rfl:=hiao (by omega)
        have d1:=hiat c hlc2
        have w1 : (c : Int) < (f.is.length : Int):=by omega
        have w2 : (0 : Int)≤(c : Int):=by omega
        rw [drop_getD 0 hlc2,fillIs] at hgo
        have hsw:=hst.wr
        have hsp:=hst.pend
        have hsok:=hst.ok
        have hst2:=hst.trans (step_clusOne hst.ok (by omega) (by omega) c (f.is.getD c 0))
        have h40:=held_le40 hst.ok
        have hone : clusOne mc c (f.is.getD c 0) = if f.is.getD c 0 = 1 then (mc.clear (c : Int)).2 else if 1 < f.is.getD c 0 then (mc.fill (c : Int) (clusS (f.is.getD c 0))).2 else mc:=rfl
        have hb:=hok.all (f.is.getD c 0) (by simp [hlc2])
        have HST:=Lib.hid hst2
        have HGO:=Lib.hid hgo
        have HON:=Lib.hid hone
        have HSO:=Lib.hid hsok
        clear hst hst2 hgo hone hok hiat hiao hiv hsok
        generalize f.is.getD c 0 = x at *
        by_cases x1 : x = 1
        ·subst x1
         rw [if_pos rfl] at HON
         have HA1:=Lib.hid (fun (R : List SL.HP) (w : World) (H : own w (imgAt b1 bd bh mc::devAt bd mc.d::R))=>clear_any b1 bd bh mc HSO.out (by omega) (by omega) (c : Int) R w H)
         have HA2:=Lib.hid (fun (R : List SL.HP) (w : World) (H : own w (rimgAt b2 bd2 mc::rdevAt bd2 mc.d::R))=>rclear_any b2 bd2 mc HSO.out (by omega) (by omega) (by omega) (c : Int) R w H)
         rw [← HON.out] at HA1 HA2
         have hx0 : clusOne mc c 1 = (mc.clear (c : Int)).2:=HON.out
         clear HON
         go_wp2_with fail
         refine (HA1.out _ wr (own_pick 3 (own_pick 3 hown rfl) rfl)).mono ?_
         rintro e w4 ⟨rfl,hx4,h4⟩
         go_wp2_with fail
         refine (HA2.out _ w4 (own_pick 3 (own_pick 3 h4 rfl) rfl)).mono ?_
         rintro e w5 ⟨rfl,hx5,h5⟩
         have HX0:=Lib.hid hx0
         clear hx0
         go_wp2_with fail
         go_roundw
         case rel=>exact ⟨c + 1,clusOne mc c 1,by omega,by go_num,HST.out.mono (by omega),HGO.out,(hxr.trans hx4).trans hx5,h5⟩
         case measure=>simp [intOf]; omega
        ·rw [if_neg x1] at HON
         have tx : (x == 1) = false:=beq_eq_false_iff_ne.2 x1
         by_cases x2 : 1 < x
         ·rw [if_pos x2] at HON
          have hcs : (clusS x).size≤9223372036854775807:=by rw [clusS_size]; omega
          have HA1:=Lib.hid (fun (R : List SL.HP) (w : World) (H : own w (imgAt b1 bd bh mc::devAt bd mc.d::R))=>fill_any b1 bd bh mc HSO.out (by omega) (by omega) (c : Int) (clusS x) hcs R w H)
          have HA2:=Lib.hid (fun (R : List SL.HP) (w : World) (H : own w (rimgAt b2 bd2 mc::rdevAt bd2 mc.d::R))=>rfill_any b2 bd2 mc HSO.out (by omega) (by omega) (by omega) (c : Int) (clusS x) hcs R w H)
          rw [← HON.out] at HA1 HA2
          have HCL:=Lib.hid (fun (R : List SL.HP) (w : World) (H : own w R)=>cluster_any x R w H)
          clear HON hcs
          generalize clusS x = cs at *
          go_wp2_with fail
          refine (HCL.out _ wr hown).mono ?_
          rintro e w3 ⟨rfl,hx3,h3⟩
          go_wp2_with fail
          refine (HA1.out _ w3 (own_pick 3 (own_pick 3 h3 rfl) rfl)).mono ?_
          rintro e w4 ⟨rfl,hx4,h4⟩
          go_wp2_with fail
          refine (HA2.out _ w4 (own_pick 3 (own_pick 3 h4 rfl) rfl)).mono ?_
          rintro e w5 ⟨rfl,hx5,h5⟩
          go_wp2_with fail
          go_roundw
          case rel=>exact ⟨c + 1,clusOne mc c x,by omega,by go_num,HST.out.mono (by omega),HGO.out,((hxr.trans hx3).trans hx4).trans hx5,h5⟩
          case measure=>simp [intOf]; omega
         ·rw [if_neg x2] at HON
          have hx0 : clusOne mc c x = mc:=HON.out
          have HX0:=Lib.hid hx0
          clear HON hx0
          go_wp2_with fail
          go_roundw
          case rel=>exact ⟨c + 1,clusOne mc c x,by omega,by go_num,HST.out.mono (by omega),HGO.out,hxr,by rw [HX0.out]; exact hown⟩
          case measure=>simp [intOf]; omega
       ·have hce : f.is.length = c:=by omega
        have hs5:=own_behind (imgAt b1 bd bh mc::devAt bd mc.d::shL bs A (laidTo l q)) (own_behind (rdevAt bd2 mc.d::imgAt b1 bd bh mc::devAt bd mc.d::shL bs A (laidTo l q)) hown)
        have hs6:=sh_lay hq5 (laidTo_at l q) hs5
        have hs7:=own_pick 1 (own_pick 7 (own_pick 7 hs6 rfl) rfl) rfl
        have hs8:=own_perm (((List.perm_append_comm_assoc (shL bs (setA A q (b1,bd,bh)) (put (laidTo l q) q mc)) (rshL br A2 (laidTo l q)) R).cons _).cons _) hs7
        have hs9:=rsh_lay hq5 (laidTo_at l q) hs8
        have hs10:=own_swap2 (rshL br (setA A2 q (b2,bd2)) (put (laidTo l q) q mc)) (shL bs (setA A q (b1,bd,bh)) (put (laidTo l q) q mc)) hs9
        rw [laidTo_some (by rw [HFF.out,HFI.out,← hgo,List.drop_of_length_le (by omega),fillIs])] at hs10
        have f1:=(own_cells 4 hown rfl).2 q
        have f2:=(own_cells 10 hown rfl).2 q
        have y1:=sh_cell (R:=rdevAt bd2 mc.d::rimgAt b2 bd2 mc::(rshL br A2 (laidTo l q)++R)) (own_drop (own_drop hs5)) hq5
        rw [slotV_none (laidTo_at l q)] at y1
        have y2:=rsh_cell (own_drop (own_drop hs8)) hq5
        rw [rslotV_none (laidTo_at l q)] at y2
        have HS10:=Lib.hid hs10
        clear hs5 hs6 hs7 hs8 hs9 hs10 hst hgo hok hiat hiao hiv
        go_wp2_with fail
        go_roundw
        case rel=>exact ⟨q + 1,_,_,by omega,by go_num,(hxr.setCell _ _).setCell _ _,HS10.out⟩
        case measure=>simp [intOf]; omega
    ·rw [if_neg hf] at HFI
     have HC1f:=Lib.hid (fun (bd : Nat) (R : List SL.HP) (w : World) (H : own w (devAt bd (newDev 170)::R))=>(HC1.out bd R w H).mono fun e w' h=>(h.resolve_right fun h=>hf h.1).2)
     have HC2f:=Lib.hid (fun (bd : Nat) (R : List SL.HP) (w : World) (H : own w (rdevAt bd (newDev 170)::R))=>(HC2.out bd R w H).mono fun e w' h=>(h.resolve_right fun h=>hf h.1).2)
     have hfp : 0 < fc:=by omega
     dsimp only at HC1f HC2f
     rw [errV_pos hfp] at HC1f
     have HSM:=Lib.hid (fun (w : World)=>(same_err fc fc w).mono fun e w' h=>show e = .returned (.bool true)∧w = w' from ⟨by rw [h.1,decide_eq_true hfp]; simp,h.2⟩)
     clear HC1 HC2 HCR hcn hf
     go_wp2_with fail
     refine (HC1f.out bd _ w3 h3).mono ?_
     rintro e w4 ⟨rfl,hx4,h4⟩
     have hx4':=(hxr.trans hx3).trans hx4
     clear c1 c2 c3 hxr hx3 hx4 h3 hown
     go_upto_region 11 with (fail)
     have hz:=own_drew h4
     have hxz:=hx4'.drew
     clear h4 hx4'
     go_region_held3 (fun w'=>w'.cell? ⟨lb,off + q * 5 + 1,none⟩ = some (.int .i64 f.c)∧w'.cell? ⟨lb,off + q * 5 + 2,none⟩ = some (.int .i64 f.p)∧w'.cell? ⟨lb,off + q * 5 + 3,none⟩ = some (.int .i64 f.b)) (first | exact HCC.out _ (devAt bd m.d::shL bs A (laidTo l q)++rshL br A2 (laidTo l q)) hz | exact HCC.out _ (rdevAt bd2 (newDev 170)::devAt bd m.d::shL bs A (laidTo l q)++rshL br A2 (laidTo l q)) h5 | exact HCC.out _ (rdevAt bd2 m.d::devAt bd m.d::shL bs A (laidTo l q)++rshL br A2 (laidTo l q)) h6) (first | (go_at_call 64; refine (hrn _ _ (by omega) hz).mono ?_; rintro e w5 ⟨bd2,rfl,hx5,h5⟩) | (go_at_call 63; refine (HC2f.out bd2 _ _ h5).mono ?_; rintro e w6 ⟨rfl,hx6,h6⟩))
     all_goals
      have hx7:=(hxz.trans hx5).trans hx6
      have h7:=own_drop (own_drop h6)
      clear hz hxz hx5 h5 hx6 h6
      go_wp2_with fail
      refine (HSM.out w6).mono ?_
      rintro e w8 ⟨rfl,rfl⟩
      go_wp2_with fail
      go_loopw [13] (fun cv wr=>cv = .int .i64 0∧Ext w wr∧own wr (shL bs A (laidTo l q)++(rshL br A2 (laidTo l q)++R))) (fun _ _=>0)
      case atStart=>exact ⟨rfl,hx7,h7⟩
      case round=>
       clear hx7 h7
       obtain ⟨rfl,hxr,hown⟩:=hrel
       have hs8:=own_swap2 (shL bs A (laidTo l q)) (rshL br A2 (laidTo l q)) (sh_lay_nil hq5 (laidTo_at l q) hown)
       have hs10:=own_swap2 (rshL br A2 (laidTo l q)) (shL bs A (laidTo l q)) (rsh_lay_nil hq5 (laidTo_at l q) hs8)
       have f1:=(own_cells 0 hown rfl).2 q
       have f2:=(own_cells 6 hown rfl).2 q
       have y1:=sh_cell hown hq5
       rw [slotV_none (laidTo_at l q)] at y1
       have y2:=rsh_cell hs8 hq5
       rw [rslotV_none (laidTo_at l q)] at y2
       have hln : laidTo l q = laidTo l (q + 1):=laidTo_none (by rw [HFF.out,HFI.out])
       have HLN:=Lib.hid hln
       have HS10:=Lib.hid hs10
       clear hs8 hs10 hln
       go_wp2_with fail
       go_roundw
       case rel=>exact ⟨q + 1,A,A2,by omega,by go_num,(hxr.setCell _ _).setCell _ _,by rw [← HLN.out]; exact HS10.out⟩
       case measure=>simp [intOf]; omega
  ·obtain rfl : q = l.length:=by omega
   have g1 : ¬(l.length : Int) < (l.length : Int):=by omega
   go_wp2_with fail
   go_ret3
   exact ⟨bs,br,A,A2,rfl,hxr,hown⟩
end Go.Proofs.YtbpblokfiajpjabGreatDoor

namespace Go.Proofs.YtbpblokfiajpjabGreatDoor
open Go.RowKit Go.SL Go.Crc
attribute [local go_sem ↓] Go.wp_at_zero Go.wp_at_succ
theorem next_le {n x : Nat} (hn : n≤64) (hx : x < 2 ^ 64) (fr : Int) : (nextM n x fr).1≤127:=by
 unfold nextM
 split
 ·exact Nat.zero_le _
 ·rename_i h0
  split
  ·rename_i h
   have hd : x / 2 ^ fr.toNat < 2 ^ 64:=Nat.lt_of_le_of_lt (Nat.div_le_self _ _) hx
   obtain ⟨-,-,-,-,-,-,hk⟩:=tz_facts _ h.2.2 hd
   have:=h.2.1
   dsimp only
   omega
  ·obtain ⟨-,-,-,-,-,-,hk⟩:=tz_facts _ h0 hx
   dsimp only
   omega
def jnext (j : JobM) : Nat×Bool:=nextM j.n j.x (j.at_ : Nat)
def jdid (j : JobM) : JobM:=turnM { j with level:=j.level - 4,x:=(bputM j.n j.x ((jnext j).1 : Nat) false).2,at_:=(jnext j).1 + 1 }
def stepM (F : ShM) (j : JobM) : (Bool×Int)×ShM×JobM:=
 if j.st≠1∧j.st≠3 then ((false,9),F,j) else if (jnext j).2 = false∨j.level < 4 then ((false,0),F,j)
 else if (jmoveM F j ((jnext j).1 : Nat)).1≠0 then ((false,(jmoveM F j ((jnext j).1 : Nat)).1),(jmoveM F j ((jnext j).1 : Nat)).2,{ j with level:=j.level - 4,st:=5 })
 else ((true,0),(jmoveM F j ((jnext j).1 : Nat)).2,jdid j)
theorem jdid_ok {j : JobM} (h : j.Ok) (h4 : ¬j.level < 4) : (jdid j).Ok:=by
 unfold jdid
 have:=h.level
 exact turnM_ok { h with x:=bput_lt h.n h.x _ false,level:=(by dsimp only; omega),at_:=(by have:=next_le h.n h.x64 (j.at_ : Nat); dsimp only [jnext]; omega) }
theorem stepM_ok {F : ShM} {j : JobM} (h : j.Ok) : (stepM F j).2.2.Ok:=by
 unfold stepM
 have:=h.level
 split
 ·exact h
 ·split
  ·exact h
  ·rename_i h4
   have h4 : ¬j.level < 4:=fun e=>h4 (.inr e)
   split
   ·exact { h with level:=(by dsimp only; omega),st:=(by dsimp only; omega) }
   ·exact jdid_ok h h4
theorem stepM_step {F : ShM} (hF : ShOk F) {j : JobM} (hj : j.Ok) (h : JobS F j) : ShStep 5 F (stepM F j).2.1:=by
 unfold stepM
 split
 ·exact ShStep.refl hF 5
 ·split
  ·exact ShStep.refl hF 5
  ·split <;> exact jmoveM_step hF hj h _
theorem stepM_code (F : ShM) (j : JobM) : 0≤(stepM F j).1.2:=by
 unfold stepM
 split
 ·simp
 ·split
  ·simp
  ·split
   ·exact jmoveM_code F j _
   ·simp
set_option maxRecDepth 100000 in
set_option maxHeartbeats 8000000 in
theorem jstep_any (bs : Nat) (A : Nat→Nat×Nat×Nat) (F : ShM) (hF : ShOk F) (bj bt bb : Nat) (v : Value) (j : JobM) (hj : j.Ok) (hS : JobS F j) (R : List SL.HP) (w : World)
  (hv : ∀w' L,own w' (L++R)→IntsAt w' v j.list) (hT : ∀w' L,own w' (L++R)→TabAt w') (H : own w (shL bs A F++(jobL bs bj bt bb v j++R))) :
  Calls Tryz.prog 58 #[.pointer (some ⟨bj,0,none⟩)] w fun e w'=>e = .returned (.tuple #[.bool (stepM F j).1.1,errV (stepM F j).1.2])∧Ext w w'∧own w' (shL bs A (stepM F j).2.1++(jobL bs bj bt bb v (stepM F j).2.2++R)):=by
 unfold stepM
 by_cases hst : j.st≠1∧j.st≠3
 ·rw [if_pos hst]
  have d1 : (j.st != 1) = true:=bne_iff_ne.2 hst.1
  have d3 : (j.st != 3) = true:=bne_iff_ne.2 hst.2
  have c7:=(own_cells 6 H rfl).1 7
  clear hst
  go_enter Tryz.func58,Tryz.ntmps58
  go_wp2_with fail
  go_ret2
  exact ⟨rfl,Ext.refl _,H⟩
 ·rw [if_neg hst]
  have hst' : j.st = 1∨j.st = 3:=by omega
  have hNX : ∀w',own w' (shL bs A F++(jobL bs bj bt bb v j++R))→Calls Tryz.prog 148 #[.pointer (some ⟨bt,0,none⟩),.int .i64 (j.at_ : Nat)] w' fun e w''=>e = .returned (.tuple #[.int .i64 ((jnext j).1 : Nat),.bool (jnext j).2])∧w' = w'':=fun w' h=>
   bset_next bt j.n j.x hj.n hj.x64 (j.at_ : Nat) 7 w' (hT w' (shL bs A F++jobL bs bj bt bb v j) (by rwa [List.append_assoc])) h rfl
  have HNX:=Lib.hid hNX
  have hle : (jnext j).1≤127:=next_le hj.n hj.x64 _
  have HOW:=Lib.hid H
  have c5:=(own_cells 6 H rfl).1 5
  have c6:=(own_cells 6 H rfl).1 6
  by_cases hsm : (jnext j).2 = false
  ·rw [if_pos (.inl hsm)]
   rw [hsm] at HNX
   generalize (jnext j).1 = cn at *
   rcases hst' with h1 | h1
   all_goals
    have c7 : w.cell? ⟨bj,7,none⟩ = some (.int .i64 j.st):=(own_cells 6 H rfl).1 7
    rw [h1] at c7
    clear hst hNX hsm
    go_enter Tryz.func58,Tryz.ntmps58
    go_upto_region 3 with (fail)
    go_quiet ((go_at_call 148; exact Calls.quiet_of_same ((HNX.out _ (by first | exact HOW.out | exact own_drew HOW.out | exact own_drewN _ HOW.out)).mono fun e w' h=>⟨h.1,h.2.symm⟩)))
    have h2:=own_drewN nq H
    have hx2:=(Ext.refl w).drewN nq
    clear H HNX c5 c6 c7
    generalize w.drewN nq = w2 at *
    go_wp2_with fail
    go_ret2
    exact ⟨rfl,hx2,h2⟩
  ·have hsm' : (jnext j).2 = true:=by simpa using hsm
   rw [hsm'] at HNX
   by_cases h4 : j.level < 4
   ·rw [if_pos (.inr h4)]
    have hTK : ∀w',own w' (shL bs A F++(jobL bs bj bt bb v j++R))→Calls Tryz.prog 149 #[.pointer (some ⟨bb,0,none⟩),.int .i64 4] w' fun e w''=>e = .returned (.bool false)∧Ext w' w''∧own w'' (shL bs A F++(jobL bs bj bt bb v j++R)):=fun w' h=>by
     have:=bk_take (b:=bb) (r:=j.rate) (u:=j.burst) (l:=j.level) (n:=4) (L:=shL bs A F++(jobL bs bj bt bb v j++R)) 8 w' (by have:=hj.level; have:=hj.burst; omega) h rfl
     rw [show takeL j.level 4 = j.level from if_neg (by omega),show decide ((0 : Int)≤4∧4≤j.level) = false from decide_eq_false (by omega)] at this
     exact this
    have HTK:=Lib.hid hTK
    generalize (jnext j).1 = cn at *
    rcases hst' with h1 | h1
    all_goals
     have c7 : w.cell? ⟨bj,7,none⟩ = some (.int .i64 j.st):=(own_cells 6 H rfl).1 7
     rw [h1] at c7
     clear hst hNX hsm hsm' hTK h4
     go_enter Tryz.func58,Tryz.ntmps58
     go_upto_region 3 with (fail)
     go_quiet ((go_at_call 148; exact Calls.quiet_of_same ((HNX.out _ (by first | exact HOW.out | exact own_drew HOW.out | exact own_drewN _ HOW.out)).mono fun e w' h=>⟨h.1,h.2.symm⟩)))
     have h2:=own_drewN nq H
     have hx2:=(Ext.refl w).drewN nq
     clear H HNX c5 c6 c7
     generalize w.drewN nq = w2 at *
     have c8:=(own_cells 6 h2 rfl).1 8
     go_wp2_with fail
     refine (HTK.out _ h2).mono ?_
     rintro e w3 ⟨rfl,hx3,h3⟩
     go_wp2_with fail
     go_ret2
     exact ⟨rfl,hx2.trans hx3,h3⟩
   ·rw [if_neg (by rintro (h | h); exact hsm h; exact h4 h)]
    have hTK : ∀w',own w' (shL bs A F++(jobL bs bj bt bb v j++R))→Calls Tryz.prog 149 #[.pointer (some ⟨bb,0,none⟩),.int .i64 4] w' fun e w''=>e = .returned (.bool true)∧Ext w' w''∧own w'' (shL bs A F++(jobL bs bj bt bb v { j with level:=j.level - 4 }++R)):=fun w' h=>by
     have:=bk_take (b:=bb) (r:=j.rate) (u:=j.burst) (l:=j.level) (n:=4) (L:=shL bs A F++(jobL bs bj bt bb v j++R)) 8 w' (by have:=hj.level; have:=hj.burst; omega) h rfl
     rw [show takeL j.level 4 = j.level - 4 from if_pos (by omega),show decide ((0 : Int)≤4∧4≤j.level) = true from decide_eq_true (by omega)] at this
     exact this
    have HTK:=Lib.hid hTK
    have hj1 : ({ j with level:=j.level - 4 } : JobM).Ok:={ hj with level:=by have:=hj.level; dsimp only; omega }
    have HMV:=Lib.hid (fun w' h=>jmove_any bs A F hF bj bt bb v { j with level:=j.level - 4 } hj1 ⟨hS.list,hS.file⟩ ((jnext j).1 : Nat) R w' hv h)
    rw [show jmoveM F { j with level:=j.level - 4 } ((jnext j).1 : Nat) = jmoveM F j ((jnext j).1 : Nat) from rfl] at HMV
    have hmc:=jmoveM_code F j ((jnext j).1 : Nat)
    have hms:=jmoveM_step hF hj hS ((jnext j).1 : Nat)
    unfold jdid
    generalize jmoveM F j ((jnext j).1 : Nat) = mv at *
    obtain ⟨mc,F'⟩:=mv
    dsimp only at *
    by_cases hm : mc = 0
    ·subst hm
     rw [if_neg (by decide)]
     rw [show errV 0 = .nilIface from rfl] at HMV
     generalize (jnext j).1 = cn at *
     have hjp : ∀b,({ j with level:=j.level - 4,x:=(bputM j.n j.x (cn : Nat) false).2,at_:=b } : JobM).x < 2 ^ j.n:=fun b=>bput_lt hj.n hj.x _ false
     have HPT:=Lib.hid (fun (L : List SL.HP) w' h hk=>bset_put (l:=L) bt j.n j.x hj.n hj.x (cn : Nat) false 7 w' h hk)
     have HTN:=Lib.hid (fun w' h=>jturn_any bs bj bt bb v { j with level:=j.level - 4,x:=(bputM j.n j.x (cn : Nat) false).2,at_:=cn + 1 } { hj1 with x:=hjp 0,at_:=(by dsimp only; omega) } (shL bs A F'++R) w' h)
     generalize (bputM j.n j.x (cn : Nat) false).1 = pb at *
     generalize (bputM j.n j.x (cn : Nat) false).2 = px at *
     have w9 : (cn : Int)≤127:=by omega
     rcases hst' with h1 | h1
     all_goals
      have c7 : w.cell? ⟨bj,7,none⟩ = some (.int .i64 j.st):=(own_cells 6 H rfl).1 7
      rw [h1] at c7
      clear hst hNX hsm hsm' hTK h4 hjp
      go_enter Tryz.func58,Tryz.ntmps58
      go_upto_region 3 with (fail)
      go_quiet ((go_at_call 148; exact Calls.quiet_of_same ((HNX.out _ (by first | exact HOW.out | exact own_drew HOW.out | exact own_drewN _ HOW.out)).mono fun e w' h=>⟨h.1,h.2.symm⟩)))
      have h2:=own_drewN nq H
      have hx2:=(Ext.refl w).drewN nq
      clear H HNX c5 c6 c7
      generalize w.drewN nq = w2 at *
      have c8:=(own_cells 6 h2 rfl).1 8
      go_wp2_with fail
      refine (HTK.out _ h2).mono ?_
      rintro e w3 ⟨rfl,hx3,h3⟩
      go_wp2_with fail
      refine (HMV.out _ h3).mono ?_
      rintro e w4 ⟨rfl,hx4,h4⟩
      have c5:=(own_cells 6 h4 rfl).1 5
      go_wp2_with fail
      refine (HPT.out _ _ h4 rfl).mono ?_
      rintro e w5 ⟨rfl,hx5,h5'⟩
      have h5 : own w5 (shL bs A F'++(jobL bs bj bt bb v { j with level:=j.level - 4,x:=px }++R)):=h5'
      have c6:=(own_cells 6 h5 rfl).1 6
      have f6:=(own_cells 6 h5 rfl).2 6
      have h6 : own (w5.setCell ⟨bj,6,none⟩ (.int .i64 ((cn : Int) + 1))) (shL bs A F'++(jobL bs bj bt bb v { j with level:=j.level - 4,x:=px,at_:=cn + 1 }++R)):=own_set (i:=6) (v:=.int .i64 ((cn : Int) + 1)) 6 h5 rfl
      go_wp2_with fail
      refine (HTN.out _ (own_swap2 (shL bs A F') (jobL bs bj bt bb v _) h6)).mono ?_
      rintro e w7 ⟨rfl,hx7,h7⟩
      go_wp2_with fail
      go_ret2
      exact ⟨rfl,(((((hx2.trans hx3).trans hx4).trans hx5).setCell _ _).trans hx7),own_swap2 (jobL bs bj bt bb v _) (shL bs A F') h7⟩
    ·rw [if_pos hm]
     have hp : 0 < mc:=by omega
     rw [errV_pos hp] at HMV ⊢
     generalize (jnext j).1 = cn at *
     rcases hst' with h1 | h1
     all_goals
      have c7 : w.cell? ⟨bj,7,none⟩ = some (.int .i64 j.st):=(own_cells 6 H rfl).1 7
      rw [h1] at c7
      clear hst hNX hsm hsm' hTK h4 hm
      go_enter Tryz.func58,Tryz.ntmps58
      go_upto_region 3 with (fail)
      go_quiet ((go_at_call 148; exact Calls.quiet_of_same ((HNX.out _ (by first | exact HOW.out | exact own_drew HOW.out | exact own_drewN _ HOW.out)).mono fun e w' h=>⟨h.1,h.2.symm⟩)))
      have h2:=own_drewN nq H
      have hx2:=(Ext.refl w).drewN nq
      clear H HNX c5 c6 c7
      generalize w.drewN nq = w2 at *
      have c8:=(own_cells 6 h2 rfl).1 8
      go_wp2_with fail
      refine (HTK.out _ h2).mono ?_
      rintro e w3 ⟨rfl,hx3,h3⟩
      go_wp2_with fail
      refine (HMV.out _ h3).mono ?_
      rintro e w4 ⟨rfl,hx4,h4⟩
      have c7:=(own_cells 6 h4 rfl).1 7
      have f7:=(own_cells 6 h4 rfl).2 7
      have h6 : own (w4.setCell ⟨bj,7,none⟩ (.int .i64 5)) (shL bs A F'++(jobL bs bj bt bb v { j with level:=j.level - 4,st:=5 }++R)):=own_set (i:=7) (v:=.int .i64 5) 6 h4 rfl
      go_wp2_with fail
      go_ret2
      exact ⟨rfl,((hx2.trans hx3).trans hx4).setCell _ _,h6⟩
end Go.Proofs.YtbpblokfiajpjabGreatDoor

namespace Go.Proofs.YtbpblokfiajpjabGreatDoor
open Go.RowKit Go.SL Go.Crc
attribute [local go_sem ↓] Go.wp_at_zero Go.wp_at_succ
section
variable {b : Nat} {F : ShM} {k : Nat} {m : ImgM}
theorem slink_any {A : Nat→Nat×Nat×Nat} (hk : k < 5) (h : F k = some m) (hF : ShOk F) (c : Int) (R : List SL.HP) (w : World) (H : own w (shL b A F++R)) :
  Calls Tryz.prog 186 #[.pointer (some ⟨(A k).1,0,none⟩),.int .i64 c] w fun e w'=>e = .returned (errV (m.link c).1)∧Ext w w'∧own w' (shL b A (put F k (m.link c).2)++R):=
 (link_any _ _ _ m (hF.ok k m hk h) (by have:=hF.wr k m hk h; omega) c _ w (sh_take hk h H)).mono fun e w' ⟨h1,h2,h3⟩=>⟨h1,h2,sh_put hk h H h3⟩
theorem rslink_any {A : Nat→Nat×Nat} (hk : k < 5) (h : F k = some m) (hF : ShOk F) (c : Int) (R : List SL.HP) (w : World) (H : own w (rshL b A F++R)) :
  Calls Tryz.prog 187 #[.pointer (some ⟨(A k).1,0,none⟩),.int .i64 c] w fun e w'=>e = .returned (.int .i64 (m.link c).1)∧Ext w w'∧own w' (rshL b A (put F k (m.link c).2)++R):=
 (rlink_any _ _ m (hF.ok k m hk h) (by have:=hF.wr k m hk h; omega) c _ w (rsh_take hk h H)).mono fun e w' ⟨h1,h2,h3⟩=>⟨h1,h2,rsh_put hk h H h3⟩
theorem sflush_any {A : Nat→Nat×Nat×Nat} (hk : k < 5) (h : F k = some m) (hF : ShOk F) (R : List SL.HP) (w : World) (H : own w (shL b A F++R)) :
  Calls Tryz.prog 172 #[.pointer (some ⟨(A k).1,0,none⟩)] w fun e w'=>e = .returned (.tuple #[])∧Ext w w'∧own w' (shL b A (put F k m.flush)++R):=
 (imgflush_any _ _ _ m (hF.ok k m hk h).d _ w (sh_take hk h H)).mono fun e w' ⟨h1,h2,h3⟩=>⟨h1,h2,sh_put (m':=m.flush) hk h H h3⟩
theorem rsflush_any {A : Nat→Nat×Nat} (hk : k < 5) (h : F k = some m) (hF : ShOk F) (R : List SL.HP) (w : World) (H : own w (rshL b A F++R)) :
  Calls Tryz.prog 176 #[.pointer (some ⟨(A k).1,0,none⟩)] w fun e w'=>e = .returned (.tuple #[])∧Ext w w'∧own w' (rshL b A (put F k m.flush)++R):=
 (rimgflush_any _ _ m (hF.ok k m hk h).d _ w (rsh_take hk h H)).mono fun e w' ⟨h1,h2,h3⟩=>⟨h1,h2,rsh_put (m':=m.flush) hk h H h3⟩
end
theorem put_file {F : ShM} {k : Nat} {m' : ImgM} {x : Int} (h : isFile F x) : isFile (put F k m') x:=by
 obtain ⟨h0,h1,m,hm⟩:=h
 refine ⟨h0,h1,?_⟩
 by_cases e : x.toNat = k
 ·exact ⟨m',by rw [e]; exact put_at F k m'⟩
 ·exact ⟨m,by rw [put_ne F m' e]; exact hm⟩
theorem put_shw {N n : Nat} {F : ShM} {k : Nat} {m m' : ImgM} (h : ShW N F) (hk : k < 5) (hm : F k = some m) (s : Step n m m') : ShW (N + n) (put F k m'):=by
 have key : ∀q mq,q < 5→put F k m' q = some mq→(q≠k∧F q = some mq)∨(q = k∧mq = m'):=fun q mq _ hq=>by
  by_cases e : q = k
  ·subst e; rw [put_at] at hq; exact .inr ⟨rfl,(Option.some.inj hq).symm⟩
  ·rw [put_ne F m' e] at hq; exact .inl ⟨e,hq⟩
 refine ⟨fun q mq hq h'=>?_,fun q mq hq h'=>?_,fun q mq hq h'=>?_⟩
 ·rcases key q mq hq h' with ⟨-,h2⟩ | ⟨-,rfl⟩
  ·exact h.ok q mq hq h2
  ·exact s.ok
 ·rcases key q mq hq h' with ⟨-,h2⟩ | ⟨-,rfl⟩
  ·have:=h.wr q mq hq h2; omega
  ·have:=h.wr k m hk hm; have:=s.wr; omega
 ·rcases key q mq hq h' with ⟨-,h2⟩ | ⟨-,rfl⟩
  ·have:=h.pend q mq hq h2; omega
  ·have:=h.pend k m hk hm; have:=s.pend; omega
def flushI (F : ShM) (k : Nat) : ShM:=match F k with
 | some m=>put F k m.flush
 | none=>F
def flushAll (F : ShM) : List Int→ShM
 | []=>F
 | x::l=>flushAll (flushI F x.toNat) l
theorem flushI_file {F : ShM} {k : Nat} {x : Int} (h : isFile F x) : isFile (flushI F k) x:=by
 unfold flushI
 split
 ·exact put_file h
 ·exact h
theorem flushI_shw {N : Nat} {F : ShM} (h : ShW N F) {k : Nat} (hk : k < 5) : ShW N (flushI F k):=by
 unfold flushI
 split
 ·rename_i m hm; exact put_shw h hk hm (step_flush (h.ok k m hk hm))
 ·exact h
theorem flushAll_file {x : Int} {l : List Int} : ∀{F : ShM},isFile F x→isFile (flushAll F l) x:=by
 induction l with
 | nil=>intro F h; exact h
 | cons y l ih=>intro F h; exact ih (flushI_file h)
theorem flushAll_shw {N : Nat} {l : List Int} : ∀{F : ShM},ShW N F→(∀x∈l,isFile F x)→ShW N (flushAll F l):=by
 induction l with
 | nil=>intro F h _; exact h
 | cons x l ih=>
  intro F h hl
  have hx:=hl x List.mem_cons_self
  exact ih (flushI_shw h (by have:=hx.1; have:=hx.2.1; omega)) (fun y hy=>flushI_file (hl y (List.mem_cons_of_mem _ hy)))
def linkI (F : ShM) (k : Nat) (c : Int) : Int×ShM:=match F k with
 | some m=>((m.link c).1,put F k (m.link c).2)
 | none=>(0,F)
theorem linkI_file {F : ShM} {k : Nat} {c x : Int} (h : isFile F x) : isFile (linkI F k c).2 x:=by
 unfold linkI
 split
 ·exact put_file h
 ·exact h
theorem linkI_shw {N : Nat} {F : ShM} (h : ShW N F) (hN : N < 900000) {k : Nat} (hk : k < 5) (c : Int) : ShW (N + 1) (linkI F k c).2:=by
 unfold linkI
 split
 ·rename_i m hm; exact put_shw h hk hm (step_link (h.ok k m hk hm) (by have:=h.wr k m hk hm; omega) c)
 ·exact h.mono (by omega)
theorem linkI_code (F : ShM) (k : Nat) (c : Int) : 0≤(linkI F k c).1:=by
 unfold linkI
 split
 ·exact link_nonneg _ _
 ·simp
def settleM (F : ShM) (j : JobM) : Int×ShM×JobM:=
 if j.st≠3 then (9,F,j)
 else if j.kind = 2 then (if (linkI F (j.list.getD 0 0).toNat j.file).1≠0 then ((linkI F (j.list.getD 0 0).toNat j.file).1,(linkI F (j.list.getD 0 0).toNat j.file).2,{ j with st:=5 }) else (0,(linkI F (j.list.getD 0 0).toNat j.file).2,j))
 else if (walkM F j.file).2≠0 then ((walkM F j.file).2,F,j) else (0,flushAll F (walkM F j.file).1,j)
theorem settleM_ok {F : ShM} {j : JobM} (h : j.Ok) : (settleM F j).2.2.Ok:=by
 unfold settleM
 split
 ·exact h
 ·split
  ·split
   ·exact { h with st:=by simp }
   ·exact h
  ·split <;> exact h
theorem settleM_shw {N : Nat} {F : ShM} (hW : ShW N F) (hN : N < 900000) {j : JobM} (hj : j.Ok) (hS : JobS F j) : ShW (N + 1) (settleM F j).2.1:=by
 have h0:=hS.list _ (mem0 hj.pos)
 have hk : (j.list.getD 0 0).toNat < 5:=by have:=h0.1; have:=h0.2.1; omega
 unfold settleM
 split
 ·exact hW.mono (by omega)
 ·split
  ·split <;> exact linkI_shw hW hN hk _
  ·split
   ·exact hW.mono (by omega)
   ·exact (flushAll_shw hW (walk_files F j.file)).mono (by omega)
theorem settleM_file {F : ShM} {j : JobM} {x : Int} (h : isFile F x) : isFile (settleM F j).2.1 x:=by
 unfold settleM
 split
 ·exact h
 ·split
  ·split <;> exact linkI_file h
  ·split
   ·exact h
   ·exact flushAll_file h
theorem settleM_code (F : ShM) (j : JobM) : 0≤(settleM F j).1:=by
 unfold settleM
 split
 ·simp
 ·split
  ·split
   ·exact linkI_code _ _ _
   ·simp
  ·split
   ·exact walkGo_code
   ·simp
set_option maxRecDepth 100000 in
set_option maxHeartbeats 8000000 in
theorem jsettle_any (bs : Nat) (A : Nat→Nat×Nat×Nat) (F : ShM) (N : Nat) (hW : ShW N F) (hN : N < 900000) (bj bt bb : Nat) (v : Value) (j : JobM) (hj : j.Ok) (hS : JobS F j) (R : List SL.HP) (w : World)
  (hv : ∀w' L,own w' (L++R)→IntsAt w' v j.list) (H : own w (shL bs A F++(jobL bs bj bt bb v j++R))) :
  Calls Tryz.prog 85 #[.pointer (some ⟨bj,0,none⟩)] w fun e w'=>e = .returned (errV (settleM F j).1)∧Ext w w'∧own w' (shL bs A (settleM F j).2.1++(jobL bs bj bt bb v (settleM F j).2.2++R)):=by
 have hF : ShOk F:=hW.sh hN
 have c7:=(own_cells 6 H rfl).1 7
 unfold settleM
 by_cases h3 : j.st = 3
 ·rw [if_neg (fun h=>h h3)]
  have d7 : w.cell? ⟨bj,7,none⟩ = some (.int .i64 3):=by rw [← h3]; exact c7
  clear c7 h3
  by_cases h2 : j.kind = 2
  ·rw [if_pos h2]
   have c1 : w.cell? ⟨bj,1,none⟩ = some (.int .i64 2):=by rw [← h2]; exact (own_cells 6 H rfl).1 1
   have hvw:=ints_more hv (jobL bs bj bt bb v j)
   obtain ⟨ao,lb,off,cap,rfl,hlc,hcap,hao,-⟩:=(hvw w _ H).form
   obtain rfl:=hao (by have:=hj.pos; omega)
   have hpos : 0 < j.list.length:=by have:=hj.pos; omega
   have l0 : (0 : Int) < (j.list.length : Int):=by omega
   obtain ⟨k,m,hxk,hk,hFk⟩:=isFile_nat (hS.list _ (mem0 hj.pos))
   have c0:=(own_cells 6 H rfl).1 0
   have c2:=(own_cells 6 H rfl).1 2
   have c3:=(own_cells 6 H rfl).1 3
   have c9 : w.cell? ⟨lb,off,none⟩ = some (.int .i64 (k : Int)):=by rw [← hxk]; exact ints_cell (hvw _ _ H) hpos
   have g1:=sh_cell H hk
   rw [slotV_some hFk] at g1
   have i1 : (0 : Int)≤(k : Int):=by omega
   have i2 : (k : Int) < 5:=by omega
   have HL:=Lib.hid (fun w' h=>slink_any (b:=bs) (A:=A) hk hFk hF j.file (jobL bs bj bt bb (.slice (some ⟨lb,off,none⟩) j.list.length cap) j++R) w' h)
   have hc:=linkI_code F k j.file
   rw [hxk,Int.toNat_natCast]
   rw [show linkI F k j.file = ((m.link j.file).1,put F k (m.link j.file).2) by unfold linkI; rw [hFk]] at hc ⊢
   dsimp only at hc ⊢
   generalize put F k (m.link j.file).2 = F' at *
   generalize (m.link j.file).1 = lc at *
   clear hv hvw hao hlc hxk h2 hFk
   by_cases hlz : lc = 0
   ·subst hlz
    rw [if_neg (by decide)]
    rw [show errV 0 = .nilIface from rfl] at HL
    go_enter Tryz.func85,Tryz.ntmps85
    go_upto_region 4 with (fail)
    go_still_tail 17,(by kernel_rfl)
    change wpList _ _ _ _ _ w.drew
    go_wp2_with fail
    refine (HL.out _ (own_drew H)).mono ?_
    rintro e w2 ⟨rfl,hx2,h2'⟩
    go_wp2_with fail
    go_ret
    exact ⟨rfl,(Ext.refl w).drew.trans hx2,h2'⟩
   ·have hp : 0 < lc:=by omega
    rw [if_pos hlz]
    rw [errV_pos hp] at HL ⊢
    clear hlz
    go_enter Tryz.func85,Tryz.ntmps85
    go_upto_region 4 with (fail)
    go_still_tail 17,(by kernel_rfl)
    change wpList _ _ _ _ _ w.drew
    go_wp2_with fail
    refine (HL.out _ (own_drew H)).mono ?_
    rintro e w2 ⟨rfl,hx2,h2'⟩
    clear c0 c1 c2 c3 c9 g1 d7
    have c7:=(own_cells 6 h2' rfl).1 7
    have f7:=(own_cells 6 h2' rfl).2 7
    have h6 : own (w2.setCell ⟨bj,7,none⟩ (.int .i64 5)) (shL bs A F'++(jobL bs bj bt bb (.slice (some ⟨lb,off,none⟩) j.list.length cap) { j with st:=5 }++R)):=own_set (i:=7) (v:=.int .i64 5) 6 h2' rfl
    go_wp2_with fail
    go_ret
    exact ⟨rfl,((Ext.refl w).drew.trans hx2).setCell _ _,h6⟩
  ·rw [if_neg h2]
   have d2 : (j.kind == 2) = false:=by rw [beq_eq_false_iff_ne]; exact h2
   have c1:=(own_cells 6 H rfl).1 1
   have hwk:=fun w' h=>walk_any bs A F hF j.file (jobL bs bj bt bb v j++R) w' h
   have hfl:=walk_files F j.file
   have hwc : 0≤(walkM F j.file).2:=walkGo_code
   have HWK:=Lib.hid hwk
   unfold WalkPost at HWK
   generalize walkM F j.file = S at *
   obtain ⟨l,wc⟩:=S
   dsimp only at hfl hwc HWK ⊢
   have HFL:=Lib.hid hfl
   have HSW:=Lib.hid hW
   have HN:=Lib.hid hN
   clear hwk h2 hfl hF hW hN hv
   by_cases hz : wc = 0
   ·subst hz
    rw [if_neg (by decide)]
    rw [show errV 0 = .nilIface from rfl] at HWK
    generalize hres : flushAll F l = res
    have HRES:=Lib.hid hres
    clear hres
    go_enter Tryz.func85,Tryz.ntmps85
    go_upto_region 9 with (fail)
    have hd:=own_drew H
    have hxd:=(Ext.refl w).drew
    go_region_held3 (fun w'=>w'.cell? ⟨bj,0,none⟩ = some (.pointer (some ⟨bs,0,none⟩))∧w'.cell? ⟨bj,2,none⟩ = some (.int .i64 j.file)) (first | exact ⟨(own_cells 6 hd rfl).1 0,(own_cells 6 hd rfl).1 2⟩ | exact ⟨(own_cells 7 h4 rfl).1 0,(own_cells 7 h4 rfl).1 2⟩) ((go_at_call 69; refine (HWK.out _ hd).mono ?_; rintro e w4 ⟨vl,rfl,hx4,h4⟩))
    have hx5:=hxd.trans hx4
    clear hd hxd hx4 c1 d7 d2 H
    have hil:=ints_row 0 h4 rfl
    obtain ⟨ao,lb,off,cap,rfl,hlc,hcap,hao,-⟩:=hil.form
    have HAO:=Lib.hid hao
    clear hao hil
    go_wp2_with fail
    go_loopw [60] (fun i wr=>∃(q : Nat) (F' : ShM),q≤l.length∧i = .int .i64 q∧flushAll F' (l.drop q) = res∧ShW N F'∧(∀x∈l,isFile F' x)∧Ext w wr∧own wr (row 3 1 (.slice ao l.length cap) l.length (intVals l)::(shL bs A F'++(jobL bs bj bt bb v j++R)))) (fun i _=>l.length - (intOf i).toNat)
    case atStart=>exact ⟨0,F,Nat.zero_le _,rfl,HRES.out,HSW.out,HFL.out,hx5,h4⟩
    case round=>
     obtain ⟨q,F',hq,rfl,hgo,hW',hl',hxr,hown⟩:=hrel
     by_cases hlt : q < l.length
     ·obtain rfl:=HAO.out (by omega)
      have g0:=ints_cell (ints_row 0 hown rfl) hlt
      rw [drop_getD 0 hlt] at hgo
      obtain ⟨k,m,hxk,hk,hFk⟩:=isFile_nat (hl' (l.getD q 0) (by simp [hlt]))
      rw [hxk] at g0
      have hgo' : flushAll (put F' k m.flush) (l.drop (q + 1)) = res:=by
       rw [← hgo]
       show _ = flushAll (flushI F' (l.getD q 0).toNat) _
       rw [hxk,Int.toNat_natCast]
       unfold flushI
       rw [hFk]
      have c0:=(own_cells 7 hown rfl).1 0
      have hsh:=own_drop hown
      have g1:=sh_cell hsh hk
      rw [slotV_some hFk] at g1
      have i1 : (0 : Int)≤(k : Int):=by omega
      have i2 : (k : Int) < 5:=by omega
      have j1 : (0 : Int)≤(q : Int):=by omega
      have j2 : (q : Int) < (l.length : Int):=by omega
      have HFU:=Lib.hid (sflush_any (b:=bs) (A:=A) hk hFk (hW'.sh HN.out) (jobL bs bj bt bb v j++(row 3 1 (.slice (some ⟨lb,off,none⟩) l.length cap) l.length (intVals l)::R)) wr)
      have HW2:=Lib.hid (put_shw hW' hk hFk (step_flush (hW'.ok k m hk hFk)))
      have HL2:=Lib.hid (fun x hx=>put_file (k:=k) (m':=m.flush) (hl' x hx))
      have HGO:=Lib.hid hgo'
      have HOW:=Lib.hid hown
      clear hgo hgo' hxk hW' hl' hsh hown
      go_wp2_with fail
      refine (HFU.out (by have:=own_behind (shL bs A F'++jobL bs bj bt bb v j) (by simpa [List.append_assoc] using HOW.out); simpa [List.append_assoc] using this)).mono ?_
      rintro e w6 ⟨rfl,hx6,h6⟩
      go_wp2_with fail
      go_roundw
      case rel=>exact ⟨q + 1,_,by omega,by go_num,HGO.out,HW2.out,HL2.out,hxr.trans hx6,own_pick 9 h6 rfl⟩
      case measure=>simp [intOf]; omega
     ·obtain rfl : l.length = q:=by omega
      rw [List.drop_of_length_le (Nat.le_refl _)] at hgo
      have hgo' : res = F':=hgo.symm
      subst hgo'
      go_wp2_with fail
      go_ret
      exact ⟨rfl,hxr,own_drop hown⟩
   ·have hp : 0 < wc:=by omega
    rw [if_pos hz]
    rw [errV_pos hp] at HWK ⊢
    clear hz
    go_enter Tryz.func85,Tryz.ntmps85
    go_upto_region 9 with (fail)
    have hd:=own_drew H
    have hxd:=(Ext.refl w).drew
    go_region_held3 (fun w'=>w'.cell? ⟨bj,0,none⟩ = some (.pointer (some ⟨bs,0,none⟩))∧w'.cell? ⟨bj,2,none⟩ = some (.int .i64 j.file)) (first | exact ⟨(own_cells 6 hd rfl).1 0,(own_cells 6 hd rfl).1 2⟩ | exact ⟨(own_cells 7 h4 rfl).1 0,(own_cells 7 h4 rfl).1 2⟩) ((go_at_call 69; refine (HWK.out _ hd).mono ?_; rintro e w4 ⟨vl,rfl,hx4,h4⟩))
    go_wp2_with fail
    go_ret
    exact ⟨rfl,hxd.trans hx4,own_drop h4⟩
 ·rw [if_pos h3]
  have d3 : (j.st != 3) = true:=bne_iff_ne.2 h3
  clear h3
  go_enter Tryz.func85,Tryz.ntmps85
  go_wp2_with fail
  go_ret
  exact ⟨rfl,Ext.refl _,H⟩
end Go.Proofs.YtbpblokfiajpjabGreatDoor
