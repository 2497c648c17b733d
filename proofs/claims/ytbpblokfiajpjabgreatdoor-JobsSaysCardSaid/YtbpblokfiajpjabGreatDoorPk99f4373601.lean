/- An act on a job, answered by both. An act on a job keeps what the next one wants. JobsSays answers true, whatever the files, the desk and the acts, and leaves what it was given as it was. The table that TrailingZeros64 reads lies where a row's premise lays it. The card of JobsSays: it answers true at every input, and its arguments read as they did. No conditions. -/
import Derived.Test.YtbpblokfiajpjabGreatDoorPka731889ae0
import Derived.Test.YtbpblokfiajpjabGreatDoorProg
import Derived.Test.YtbpblokfiajpjabGreatDoorRows
import Derived.LaidMore
import Derived.Lay
import Derived.Test.YtbpblokfiajpjabGreatDoorCards
import Derived.Test.YtbpblokfiajpjabGreatDoorTie
import Derived.WalkKit
import Derived.ProofKit
import Derived.OpenShut
import Derived.ShutString
import Derived.ChangeOld
import Derived.Below
import Derived.LaidOnce
import Derived.SevenTiedAt
namespace Go.Proofs.YtbpblokfiajpjabGreatDoor
open Go.RowKit Go.SL Go.Crc
attribute [local go_sem ↓] Go.wp_at_zero Go.wp_at_succ
abbrev JW (b : Nat) (A : Nat→Nat×Nat×Nat) (b2 : Nat) (A2 : Nat→Nat×Nat) (bj bt bb : Nat) (v : Value) (br : Nat) (v2 : Value) (F : ShM) (j : JobM) (F2 : ShM) (j2 : JobM) (R : List SL.HP) : List SL.HP:=
 shL b A F++(jobL b bj bt bb v j++(rshL b2 A2 F2++(rjobP b2 br v2 j2::R)))
theorem own_rot {w : World} (a c d e : List SL.HP) {R : List SL.HP} (H : own w (a++(c++(d++(e++R))))) : own w (d++(e++(a++(c++R)))):=by
 have:=own_swap2 (a++c) (d++e) (R:=R) (by simpa only [List.append_assoc] using H)
 simpa only [List.append_assoc] using this
theorem jw_box {b : Nat} {A : Nat→Nat×Nat×Nat} {b2 : Nat} {A2 : Nat→Nat×Nat} {bj bt bb : Nat} {v : Value} {br : Nat} {v2 : Value} {F : ShM} {j : JobM} {F2 : ShM} {j2 : JobM} {R : List SL.HP} {w : World} (o : Obj) (H : own w (JW b A b2 A2 bj bt bb v br v2 F j F2 j2 R)) :
  own (w.alloc o) (JW b A b2 A2 bj bt bb v br v2 F j F2 j2 (pts w.heap.size o::R)):=by
 have:=own_box o (show own w ((shL b A F++jobL b bj bt bb v j++rshL b2 A2 F2++[rjobP b2 br v2 j2])++R) by simpa only [JW,List.append_assoc,List.singleton_append] using H)
 simpa only [JW,List.append_assoc,List.singleton_append] using this
theorem jw_r {b : Nat} {A : Nat→Nat×Nat×Nat} {b2 : Nat} {A2 : Nat→Nat×Nat} {bj bt bb : Nat} {v : Value} {br : Nat} {v2 : Value} {F : ShM} {j : JobM} {F2 : ShM} {j2 : JobM} {R : List SL.HP} {w : World} (H : own w (JW b A b2 A2 bj bt bb v br v2 F j F2 j2 R)) :
  own w (rshL b2 A2 F2++(rjobP b2 br v2 j2::(shL b A F++(jobL b bj bt bb v j++R)))):=own_rot (shL b A F) (jobL b bj bt bb v j) (rshL b2 A2 F2) [rjobP b2 br v2 j2] H
theorem jw_of_r {b : Nat} {A : Nat→Nat×Nat×Nat} {b2 : Nat} {A2 : Nat→Nat×Nat} {bj bt bb : Nat} {v : Value} {br : Nat} {v2 : Value} {F : ShM} {j : JobM} {F2 : ShM} {j2 : JobM} {R : List SL.HP} {w : World} (H : own w (rshL b2 A2 F2++(rjobP b2 br v2 j2::(shL b A F++(jobL b bj bt bb v j++R))))) :
  own w (JW b A b2 A2 bj bt bb v br v2 F j F2 j2 R):=own_rot (rshL b2 A2 F2) [rjobP b2 br v2 j2] (shL b A F) (jobL b bj bt bb v j) H
theorem jw_rj {b : Nat} {A : Nat→Nat×Nat×Nat} {b2 : Nat} {A2 : Nat→Nat×Nat} {bj bt bb : Nat} {v : Value} {br : Nat} {v2 : Value} {F : ShM} {j : JobM} {F2 : ShM} {j2 : JobM} {R : List SL.HP} {w : World} (H : own w (JW b A b2 A2 bj bt bb v br v2 F j F2 j2 R)) :
  own w (rjobP b2 br v2 j2::(rshL b2 A2 F2++(shL b A F++(jobL b bj bt bb v j++R)))):=own_swap2 (rshL b2 A2 F2) [rjobP b2 br v2 j2] (jw_r H)
theorem jw_of_rj {b : Nat} {A : Nat→Nat×Nat×Nat} {b2 : Nat} {A2 : Nat→Nat×Nat} {bj bt bb : Nat} {v : Value} {br : Nat} {v2 : Value} {F : ShM} {j : JobM} {F2 : ShM} {j2 : JobM} {R : List SL.HP} {w : World} (H : own w (rjobP b2 br v2 j2::(rshL b2 A2 F2++(shL b A F++(jobL b bj bt bb v j++R))))) :
  own w (JW b A b2 A2 bj bt bb v br v2 F j F2 j2 R):=jw_of_r (own_swap2 [rjobP b2 br v2 j2] (rshL b2 A2 F2) H)
theorem jw_j {b : Nat} {A : Nat→Nat×Nat×Nat} {b2 : Nat} {A2 : Nat→Nat×Nat} {bj bt bb : Nat} {v : Value} {br : Nat} {v2 : Value} {F : ShM} {j : JobM} {F2 : ShM} {j2 : JobM} {R : List SL.HP} {w : World} (H : own w (JW b A b2 A2 bj bt bb v br v2 F j F2 j2 R)) :
  own w (jobL b bj bt bb v j++(shL b A F++(rshL b2 A2 F2++(rjobP b2 br v2 j2::R)))):=own_swap2 (shL b A F) (jobL b bj bt bb v j) H
theorem jw_of_j {b : Nat} {A : Nat→Nat×Nat×Nat} {b2 : Nat} {A2 : Nat→Nat×Nat} {bj bt bb : Nat} {v : Value} {br : Nat} {v2 : Value} {F : ShM} {j : JobM} {F2 : ShM} {j2 : JobM} {R : List SL.HP} {w : World} (H : own w (jobL b bj bt bb v j++(shL b A F++(rshL b2 A2 F2++(rjobP b2 br v2 j2::R))))) :
  own w (JW b A b2 A2 bj bt bb v br v2 F j F2 j2 R):=own_swap2 (jobL b bj bt bb v j) (shL b A F) H
theorem tabs_more {R : List SL.HP} (hT : ∀w' L,own w' (L++R)→TabAt w') (X : List SL.HP) : ∀w' L,own w' (L++(X++R))→TabAt w':=fun w' L h=>hT w' (L++X) (by rwa [List.append_assoc])
theorem rjob_tick {bs br : Nat} {v : Value} {j : JobM} (hj : j.Ok) {n : Int} (hn : 0≤n) (hn2 : n≤100000) {L : List SL.HP} (kk : Nat) (w : World) (H : own w L) (hk : L[kk]? = some (rjobP bs br v j)) :
  Calls Tryz.prog 84 #[.pointer (some ⟨br,75,none⟩),.int .i64 n] w fun e w'=>e = .returned (.tuple #[])∧Ext w w'∧own w' (L.set kk (rjobP bs br v (jtickM j n))):=by
 have hk' : L[kk]? = some (bkB br (rjobC bs v j) 149 75 j.level):=by rw [hk,← rjob_bk]
 refine (rbk_tick (rjob_bkat bs v j) kk w H hk' hn hn2 hj.level.1 hj.level.2 hj.rate.1 hj.rate.2 hj.burst.2).mono ?_
 rintro e w' ⟨h1,h2,h3⟩
 unfold jtickM
 rw [if_pos ⟨hn,hn2⟩,rjob_bk]
 exact ⟨h1,h2,h3⟩
set_option maxRecDepth 1000000 in
set_option maxHeartbeats 8000000 in
theorem worked_step (b b2 bj bt bb br : Nat) (A : Nat→Nat×Nat×Nat) (A2 : Nat→Nat×Nat) (F : ShM) (N : Nat) (hW : ShW N F) (hN : N < 900000) (v v2 : Value) (j : JobM) (hj : j.Ok) (hS : JobS F j) (x : Act) (ko : Option Addr) (kn kc : Nat) (hA : i64ok x.A) (R : List SL.HP) (w : World) (hv : ∀w' L,own w' (L++R)→IntsAt w' v j.list) (hv2 : ∀w' L,own w' (L++R)→IntsAt w' v2 j.list) (hT : ∀w' L,own w' (L++R)→TabAt w') (H : own w (JW b A b2 A2 bj bt bb v br v2 F j F j R)) (k0 : (x.kind.toList == [115,116,101,112]) = true) :
  Calls Tryz.prog 18 #[.pointer (some ⟨bj,0,none⟩),.pointer (some ⟨br,0,none⟩),.agg #[.string x.kind,.int .i64 x.A,.int .i64 x.B,.int .i64 x.C,.int .i64 x.D,.string x.S,.slice ko kn kc]] w fun e w'=>e = .returned (.bool true)∧Ext w w'∧own w' (JW b A b2 A2 bj bt bb v br v2 (stepM F j).2.1 (stepM F j).2.2 (stepM F j).2.1 (stepM F j).2.2 R):=by
 obtain ⟨A1',A2'⟩:=hA
 have hF : ShOk F:=hW.sh hN
 have h0 : own (w.alloc (.cells #[.string x.kind,.int .i64 x.A,.int .i64 x.B,.int .i64 x.C,.int .i64 x.D,.string x.S,.slice ko kn kc] 45)) (JW b A b2 A2 bj bt bb v br v2 F j F j (pts w.heap.size (.cells #[.string x.kind,.int .i64 x.A,.int .i64 x.B,.int .i64 x.C,.int .i64 x.D,.string x.S,.slice ko kn kc] 45 (0,0))::R)):=jw_box (.cells #[.string x.kind,.int .i64 x.A,.int .i64 x.B,.int .i64 x.C,.int .i64 x.D,.string x.S,.slice ko kn kc] 45) H
 have hxa:=(Ext.refl w).alloc (.cells #[.string x.kind,.int .i64 x.A,.int .i64 x.B,.int .i64 x.C,.int .i64 x.D,.string x.S,.slice ko kn kc] 45)
 have hcode:=stepM_code F j
 have HP:=Lib.hid (fun (P : SL.HP) w' h=>jstep_any b A F hF bj bt bb v j hj hS (rshL b2 A2 F++([rjobP b2 br v2 j,P]++R)) w' (ints_more (ints_more hv _) _) (tabs_more (tabs_more hT _) _) h)
 have HR:=Lib.hid (fun (P : SL.HP) F' j' w' h=>rjstep_any b2 A2 F hF br v2 j hj hS (shL b A F'++(jobL b bj bt bb v j'++([P]++R))) w' (ints_more (ints_more (ints_more hv2 _) _) _) h)
 generalize stepM F j = S at *
 obtain ⟨⟨did,f⟩,F2,j2⟩:=S
 dsimp only at hcode HP HR ⊢
 clear H hv hv2 hT hF hW hN hS hj
 go_enter Tryz.func18,Tryz.ntmps18
 go_upto_region 1 with (fail)
 generalize w.heap.size = ba at *
 generalize w.alloc (.cells #[.string x.kind,.int .i64 x.A,.int .i64 x.B,.int .i64 x.C,.int .i64 x.D,.string x.S,.slice ko kn kc] 45) = wa at *
 have c0:=(own_cells 16 h0 rfl).1 0
 have c1:=(own_cells 16 h0 rfl).1 1
 go_wp2_with fail
 refine (HP.out _ wa h0).mono ?_
 rintro e w4 ⟨rfl,hx4,h4⟩
 go_wp2_with fail
 refine (HR.out _ F2 j2 w4 (jw_r h4)).mono ?_
 rintro e w5 ⟨rfl,hx5,h5⟩
 have h6:=jw_of_r h5
 clear c0 c1 h0 h4 h5
 cases did
 all_goals
  go_wp2_with fail
  refine (same_any f f _ hcode).mono ?_
  rintro e w' ⟨rfl,rfl⟩
  go_wp2_with fail
  go_ret
  exact ⟨by simp,(hxa.trans hx4).trans hx5,own_erase 16 h6 rfl⟩
set_option maxRecDepth 1000000 in
set_option maxHeartbeats 8000000 in
theorem worked_dirty (b b2 bj bt bb br : Nat) (A : Nat→Nat×Nat×Nat) (A2 : Nat→Nat×Nat) (F : ShM) (N : Nat) (hW : ShW N F) (hN : N < 900000) (v v2 : Value) (j : JobM) (hj : j.Ok) (hS : JobS F j) (x : Act) (ko : Option Addr) (kn kc : Nat) (hA : i64ok x.A) (R : List SL.HP) (w : World) (hv : ∀w' L,own w' (L++R)→IntsAt w' v j.list) (hv2 : ∀w' L,own w' (L++R)→IntsAt w' v2 j.list) (hT : ∀w' L,own w' (L++R)→TabAt w') (H : own w (JW b A b2 A2 bj bt bb v br v2 F j F j R)) (k0 : ¬(x.kind.toList == [115,116,101,112]) = true) (k1 : (x.kind.toList == [100,105,114,116,121]) = true) :
  Calls Tryz.prog 18 #[.pointer (some ⟨bj,0,none⟩),.pointer (some ⟨br,0,none⟩),.agg #[.string x.kind,.int .i64 x.A,.int .i64 x.B,.int .i64 x.C,.int .i64 x.D,.string x.S,.slice ko kn kc]] w fun e w'=>e = .returned (.bool true)∧Ext w w'∧own w' (JW b A b2 A2 bj bt bb v br v2 F (dirtyM j x.A) F (dirtyM j x.A) R):=by
 obtain ⟨A1',A2'⟩:=hA
 have hF : ShOk F:=hW.sh hN
 have h0 : own (w.alloc (.cells #[.string x.kind,.int .i64 x.A,.int .i64 x.B,.int .i64 x.C,.int .i64 x.D,.string x.S,.slice ko kn kc] 45)) (JW b A b2 A2 bj bt bb v br v2 F j F j (pts w.heap.size (.cells #[.string x.kind,.int .i64 x.A,.int .i64 x.B,.int .i64 x.C,.int .i64 x.D,.string x.S,.slice ko kn kc] 45 (0,0))::R)):=jw_box (.cells #[.string x.kind,.int .i64 x.A,.int .i64 x.B,.int .i64 x.C,.int .i64 x.D,.string x.S,.slice ko kn kc] 45) H
 have hxa:=(Ext.refl w).alloc (.cells #[.string x.kind,.int .i64 x.A,.int .i64 x.B,.int .i64 x.C,.int .i64 x.D,.string x.S,.slice ko kn kc] 45)
 have HP:=Lib.hid (fun (L : List SL.HP) w' h=>jdirty_any b bj bt bb v j hj x.A L w' h)
 have HR:=Lib.hid (fun (L : List SL.HP) w' h=>rjdirty_any b2 br v2 j hj x.A L w' h)
 clear H hv hv2 hT hF hW hN hS hj
 go_enter Tryz.func18,Tryz.ntmps18
 go_upto_region 1 with (fail)
 generalize w.heap.size = ba at *
 generalize w.alloc (.cells #[.string x.kind,.int .i64 x.A,.int .i64 x.B,.int .i64 x.C,.int .i64 x.D,.string x.S,.slice ko kn kc] 45) = wa at *
 have c0:=(own_cells 16 h0 rfl).1 0
 have c1:=(own_cells 16 h0 rfl).1 1
 go_wp2_with fail
 refine (HP.out _ wa (jw_j h0)).mono ?_
 rintro e w4 ⟨rfl,hx4,h4'⟩
 have h4:=jw_of_j h4'
 clear c0 c1
 have c1:=(own_cells 16 h4 rfl).1 1
 go_wp2_with fail
 refine (HR.out _ w4 (jw_rj h4)).mono ?_
 rintro e w5 ⟨rfl,hx5,h5⟩
 have h6:=jw_of_rj h5
 go_wp2_with fail
 go_ret
 exact ⟨rfl,(hxa.trans hx4).trans hx5,own_erase 16 h6 rfl⟩
set_option maxRecDepth 1000000 in
set_option maxHeartbeats 8000000 in
theorem worked_pause (b b2 bj bt bb br : Nat) (A : Nat→Nat×Nat×Nat) (A2 : Nat→Nat×Nat) (F : ShM) (N : Nat) (hW : ShW N F) (hN : N < 900000) (v v2 : Value) (j : JobM) (hj : j.Ok) (hS : JobS F j) (x : Act) (ko : Option Addr) (kn kc : Nat) (hA : i64ok x.A) (R : List SL.HP) (w : World) (hv : ∀w' L,own w' (L++R)→IntsAt w' v j.list) (hv2 : ∀w' L,own w' (L++R)→IntsAt w' v2 j.list) (hT : ∀w' L,own w' (L++R)→TabAt w') (H : own w (JW b A b2 A2 bj bt bb v br v2 F j F j R)) (k0 : ¬(x.kind.toList == [115,116,101,112]) = true) (k1 : ¬(x.kind.toList == [100,105,114,116,121]) = true) (k2 : (x.kind.toList == [112,97,117,115,101]) = true) :
  Calls Tryz.prog 18 #[.pointer (some ⟨bj,0,none⟩),.pointer (some ⟨br,0,none⟩),.agg #[.string x.kind,.int .i64 x.A,.int .i64 x.B,.int .i64 x.C,.int .i64 x.D,.string x.S,.slice ko kn kc]] w fun e w'=>e = .returned (.bool true)∧Ext w w'∧own w' (JW b A b2 A2 bj bt bb v br v2 F (pauseM j (decide (0 < x.A))).2 F (pauseM j (decide (0 < x.A))).2 R):=by
 obtain ⟨A1',A2'⟩:=hA
 have hF : ShOk F:=hW.sh hN
 have h0 : own (w.alloc (.cells #[.string x.kind,.int .i64 x.A,.int .i64 x.B,.int .i64 x.C,.int .i64 x.D,.string x.S,.slice ko kn kc] 45)) (JW b A b2 A2 bj bt bb v br v2 F j F j (pts w.heap.size (.cells #[.string x.kind,.int .i64 x.A,.int .i64 x.B,.int .i64 x.C,.int .i64 x.D,.string x.S,.slice ko kn kc] 45 (0,0))::R)):=jw_box (.cells #[.string x.kind,.int .i64 x.A,.int .i64 x.B,.int .i64 x.C,.int .i64 x.D,.string x.S,.slice ko kn kc] 45) H
 have hxa:=(Ext.refl w).alloc (.cells #[.string x.kind,.int .i64 x.A,.int .i64 x.B,.int .i64 x.C,.int .i64 x.D,.string x.S,.slice ko kn kc] 45)
 have hcode : 0≤(pauseM j (decide (0 < x.A))).1:=by unfold pauseM; split <;> split <;> simp
 have HP:=Lib.hid (fun (L : List SL.HP) w' h=>jpause_any b bj bt bb v j hj (decide (0 < x.A)) L w' h)
 have HR:=Lib.hid (fun (L : List SL.HP) w' h=>rjpause_any b2 br v2 j (decide (0 < x.A)) L w' h)
 generalize pauseM j (decide (0 < x.A)) = S at *
 obtain ⟨f,j2⟩:=S
 dsimp only at hcode HP HR ⊢
 clear H hv hv2 hT hF hW hN hS hj
 go_enter Tryz.func18,Tryz.ntmps18
 go_upto_region 1 with (fail)
 generalize w.heap.size = ba at *
 generalize w.alloc (.cells #[.string x.kind,.int .i64 x.A,.int .i64 x.B,.int .i64 x.C,.int .i64 x.D,.string x.S,.slice ko kn kc] 45) = wa at *
 have c0:=(own_cells 16 h0 rfl).1 0
 have c1:=(own_cells 16 h0 rfl).1 1
 go_upto_region 10 with (fail)
 have hd:=own_drew h0
 go_region_held3 (fun w'=>w'.cell? ⟨ba,1,none⟩ = some (.int .i64 x.A)) (first | exact (own_cells 16 hd rfl).1 1 | exact (own_cells 16 h4 rfl).1 1 | exact (own_cells 16 h5 rfl).1 1) (first | (go_at_call 57; refine (HP.out _ _ (jw_j hd)).mono ?_; rintro e w4 ⟨rfl,hx4,h4'⟩; have h4:=jw_of_j h4') | (go_at_call 82; refine (HR.out _ _ (jw_rj h4)).mono ?_; rintro e w5 ⟨rfl,hx5,h5'⟩; have h5:=jw_of_rj h5') | (go_at_call 17; refine (same_any f f _ hcode).mono ?_; rintro e w' ⟨rfl,rfl⟩))
 clear c0 c1
 go_wp2_with fail
 go_ret
 exact ⟨by simp,(hxa.drew.trans hx4).trans hx5,own_erase 16 h5 rfl⟩
set_option maxRecDepth 1000000 in
set_option maxHeartbeats 8000000 in
theorem worked_tick (b b2 bj bt bb br : Nat) (A : Nat→Nat×Nat×Nat) (A2 : Nat→Nat×Nat) (F : ShM) (N : Nat) (hW : ShW N F) (hN : N < 900000) (v v2 : Value) (j : JobM) (hj : j.Ok) (hS : JobS F j) (x : Act) (ko : Option Addr) (kn kc : Nat) (hA : i64ok x.A) (R : List SL.HP) (w : World) (hv : ∀w' L,own w' (L++R)→IntsAt w' v j.list) (hv2 : ∀w' L,own w' (L++R)→IntsAt w' v2 j.list) (hT : ∀w' L,own w' (L++R)→TabAt w') (H : own w (JW b A b2 A2 bj bt bb v br v2 F j F j R)) (k0 : ¬(x.kind.toList == [115,116,101,112]) = true) (k1 : ¬(x.kind.toList == [100,105,114,116,121]) = true) (k2 : ¬(x.kind.toList == [112,97,117,115,101]) = true) (k3 : (x.kind.toList == [116,105,99,107]) = true) :
  Calls Tryz.prog 18 #[.pointer (some ⟨bj,0,none⟩),.pointer (some ⟨br,0,none⟩),.agg #[.string x.kind,.int .i64 x.A,.int .i64 x.B,.int .i64 x.C,.int .i64 x.D,.string x.S,.slice ko kn kc]] w fun e w'=>e = .returned (.bool true)∧Ext w w'∧own w' (JW b A b2 A2 bj bt bb v br v2 F (jtickM j x.A) F (jtickM j x.A) R):=by
 by_cases hin : 0≤x.A∧x.A≤100000
 ·obtain ⟨A1',A2'⟩:=hA
  have hF : ShOk F:=hW.sh hN
  have h0 : own (w.alloc (.cells #[.string x.kind,.int .i64 x.A,.int .i64 x.B,.int .i64 x.C,.int .i64 x.D,.string x.S,.slice ko kn kc] 45)) (JW b A b2 A2 bj bt bb v br v2 F j F j (pts w.heap.size (.cells #[.string x.kind,.int .i64 x.A,.int .i64 x.B,.int .i64 x.C,.int .i64 x.D,.string x.S,.slice ko kn kc] 45 (0,0))::R)):=jw_box (.cells #[.string x.kind,.int .i64 x.A,.int .i64 x.B,.int .i64 x.C,.int .i64 x.D,.string x.S,.slice ko kn kc] 45) H
  have hxa:=(Ext.refl w).alloc (.cells #[.string x.kind,.int .i64 x.A,.int .i64 x.B,.int .i64 x.C,.int .i64 x.D,.string x.S,.slice ko kn kc] 45)
  have d1 : decide (x.A < 0) = false:=decide_eq_false (by omega)
  have d2 : decide (100000 < x.A) = false:=decide_eq_false (by omega)
  have HP:=Lib.hid (fun (L : List SL.HP) w' h=>jtick_any b bj bt bb v j hj x.A L w' h)
  rw [if_pos hin,errV_0] at HP
  have HR:=Lib.hid (fun (L : List SL.HP) w' (h : own w' (rjobP b2 br v2 j::L))=>rjob_tick hj hin.1 hin.2 0 w' h rfl)
  clear hin
  clear H hv hv2 hT hF hW hN hS hj
  go_enter Tryz.func18,Tryz.ntmps18
  go_upto_region 1 with (fail)
  generalize w.heap.size = ba at *
  generalize w.alloc (.cells #[.string x.kind,.int .i64 x.A,.int .i64 x.B,.int .i64 x.C,.int .i64 x.D,.string x.S,.slice ko kn kc] 45) = wa at *
  have c0:=(own_cells 16 h0 rfl).1 0
  have c1:=(own_cells 16 h0 rfl).1 1
  go_upto_region 14 with (fail)
  have hd:=own_drew h0
  go_region_held3 (fun w'=>w'.cell? ⟨ba,1,none⟩ = some (.int .i64 x.A)) (first | exact (own_cells 16 hd rfl).1 1 | exact (own_cells 16 h4 rfl).1 1) ((go_at_call 84; refine (HR.out _ _ (jw_rj hd)).mono ?_; rintro e w4 ⟨rfl,hx4,h4'⟩; have h4:=jw_of_rj h4'))
  clear c0 c1
  have c1:=(own_cells 16 h4 rfl).1 1
  go_wp2_with fail
  refine (HP.out _ w4 (jw_j h4)).mono ?_
  rintro e w5 ⟨rfl,hx5,h5'⟩
  have h5:=jw_of_j h5'
  go_wp2_with fail
  refine (same_any 0 0 _ (by omega)).mono ?_
  rintro e w' ⟨rfl,rfl⟩
  go_wp2_with fail
  go_ret
  exact ⟨by simp,(hxa.drew.trans hx4).trans hx5,own_erase 16 h5 rfl⟩
 ·have hj2 : jtickM j x.A = j:=by unfold jtickM; rw [if_neg hin]
  rw [hj2]
  by_cases h1 : x.A < 0
  ·have d1 : decide (x.A < 0) = true:=decide_eq_true h1
   obtain ⟨A1',A2'⟩:=hA
   have hF : ShOk F:=hW.sh hN
   have h0 : own (w.alloc (.cells #[.string x.kind,.int .i64 x.A,.int .i64 x.B,.int .i64 x.C,.int .i64 x.D,.string x.S,.slice ko kn kc] 45)) (JW b A b2 A2 bj bt bb v br v2 F j F j (pts w.heap.size (.cells #[.string x.kind,.int .i64 x.A,.int .i64 x.B,.int .i64 x.C,.int .i64 x.D,.string x.S,.slice ko kn kc] 45 (0,0))::R)):=jw_box (.cells #[.string x.kind,.int .i64 x.A,.int .i64 x.B,.int .i64 x.C,.int .i64 x.D,.string x.S,.slice ko kn kc] 45) H
   have hxa:=(Ext.refl w).alloc (.cells #[.string x.kind,.int .i64 x.A,.int .i64 x.B,.int .i64 x.C,.int .i64 x.D,.string x.S,.slice ko kn kc] 45)
   have HP:=Lib.hid (fun (L : List SL.HP) w' h=>jtick_any b bj bt bb v j hj x.A L w' h)
   rw [if_neg hin,hj2] at HP
   rw [show errV 1 = .iface 128 (.int .i64 1) from rfl] at HP
   clear hin hj2 h1
   clear H hv hv2 hT hF hW hN hS hj
   go_enter Tryz.func18,Tryz.ntmps18
   go_upto_region 1 with (fail)
   generalize w.heap.size = ba at *
   generalize w.alloc (.cells #[.string x.kind,.int .i64 x.A,.int .i64 x.B,.int .i64 x.C,.int .i64 x.D,.string x.S,.slice ko kn kc] 45) = wa at *
   have c0:=(own_cells 16 h0 rfl).1 0
   have c1:=(own_cells 16 h0 rfl).1 1
   go_wp2_with fail
   refine (HP.out _ wa (jw_j h0)).mono ?_
   rintro e w5 ⟨rfl,hx5,h5'⟩
   have h5:=jw_of_j h5'
   go_wp2_with fail
   refine (same_any 1 1 _ (by omega)).mono ?_
   rintro e w' ⟨rfl,rfl⟩
   go_wp2_with fail
   go_ret
   exact ⟨by simp,hxa.trans hx5,own_erase 16 h5 rfl⟩
  ·have d1 : decide (x.A < 0) = false:=decide_eq_false h1
   have d2 : decide (100000 < x.A) = true:=decide_eq_true (by omega)
   obtain ⟨A1',A2'⟩:=hA
   have hF : ShOk F:=hW.sh hN
   have h0 : own (w.alloc (.cells #[.string x.kind,.int .i64 x.A,.int .i64 x.B,.int .i64 x.C,.int .i64 x.D,.string x.S,.slice ko kn kc] 45)) (JW b A b2 A2 bj bt bb v br v2 F j F j (pts w.heap.size (.cells #[.string x.kind,.int .i64 x.A,.int .i64 x.B,.int .i64 x.C,.int .i64 x.D,.string x.S,.slice ko kn kc] 45 (0,0))::R)):=jw_box (.cells #[.string x.kind,.int .i64 x.A,.int .i64 x.B,.int .i64 x.C,.int .i64 x.D,.string x.S,.slice ko kn kc] 45) H
   have hxa:=(Ext.refl w).alloc (.cells #[.string x.kind,.int .i64 x.A,.int .i64 x.B,.int .i64 x.C,.int .i64 x.D,.string x.S,.slice ko kn kc] 45)
   have HP:=Lib.hid (fun (L : List SL.HP) w' h=>jtick_any b bj bt bb v j hj x.A L w' h)
   rw [if_neg hin,hj2] at HP
   rw [show errV 1 = .iface 128 (.int .i64 1) from rfl] at HP
   clear hin hj2 h1
   clear H hv hv2 hT hF hW hN hS hj
   go_enter Tryz.func18,Tryz.ntmps18
   go_upto_region 1 with (fail)
   generalize w.heap.size = ba at *
   generalize w.alloc (.cells #[.string x.kind,.int .i64 x.A,.int .i64 x.B,.int .i64 x.C,.int .i64 x.D,.string x.S,.slice ko kn kc] 45) = wa at *
   have c0:=(own_cells 16 h0 rfl).1 0
   have c1:=(own_cells 16 h0 rfl).1 1
   go_wp2_with fail
   refine (HP.out _ wa (jw_j h0)).mono ?_
   rintro e w5 ⟨rfl,hx5,h5'⟩
   have h5:=jw_of_j h5'
   go_wp2_with fail
   refine (same_any 1 1 _ (by omega)).mono ?_
   rintro e w' ⟨rfl,rfl⟩
   go_wp2_with fail
   go_ret
   exact ⟨by simp,hxa.trans hx5,own_erase 16 h5 rfl⟩
set_option maxRecDepth 1000000 in
set_option maxHeartbeats 8000000 in
theorem worked_settle (b b2 bj bt bb br : Nat) (A : Nat→Nat×Nat×Nat) (A2 : Nat→Nat×Nat) (F : ShM) (N : Nat) (hW : ShW N F) (hN : N < 900000) (v v2 : Value) (j : JobM) (hj : j.Ok) (hS : JobS F j) (x : Act) (ko : Option Addr) (kn kc : Nat) (hA : i64ok x.A) (R : List SL.HP) (w : World) (hv : ∀w' L,own w' (L++R)→IntsAt w' v j.list) (hv2 : ∀w' L,own w' (L++R)→IntsAt w' v2 j.list) (hT : ∀w' L,own w' (L++R)→TabAt w') (H : own w (JW b A b2 A2 bj bt bb v br v2 F j F j R)) (k0 : ¬(x.kind.toList == [115,116,101,112]) = true) (k1 : ¬(x.kind.toList == [100,105,114,116,121]) = true) (k2 : ¬(x.kind.toList == [112,97,117,115,101]) = true) (k3 : ¬(x.kind.toList == [116,105,99,107]) = true) (k4 : (x.kind.toList == [115,101,116,116,108,101]) = true) :
  Calls Tryz.prog 18 #[.pointer (some ⟨bj,0,none⟩),.pointer (some ⟨br,0,none⟩),.agg #[.string x.kind,.int .i64 x.A,.int .i64 x.B,.int .i64 x.C,.int .i64 x.D,.string x.S,.slice ko kn kc]] w fun e w'=>e = .returned (.bool true)∧Ext w w'∧own w' (JW b A b2 A2 bj bt bb v br v2 (settleM F j).2.1 (settleM F j).2.2 (settleM F j).2.1 (settleM F j).2.2 R):=by
 obtain ⟨A1',A2'⟩:=hA
 have hF : ShOk F:=hW.sh hN
 have h0 : own (w.alloc (.cells #[.string x.kind,.int .i64 x.A,.int .i64 x.B,.int .i64 x.C,.int .i64 x.D,.string x.S,.slice ko kn kc] 45)) (JW b A b2 A2 bj bt bb v br v2 F j F j (pts w.heap.size (.cells #[.string x.kind,.int .i64 x.A,.int .i64 x.B,.int .i64 x.C,.int .i64 x.D,.string x.S,.slice ko kn kc] 45 (0,0))::R)):=jw_box (.cells #[.string x.kind,.int .i64 x.A,.int .i64 x.B,.int .i64 x.C,.int .i64 x.D,.string x.S,.slice ko kn kc] 45) H
 have hxa:=(Ext.refl w).alloc (.cells #[.string x.kind,.int .i64 x.A,.int .i64 x.B,.int .i64 x.C,.int .i64 x.D,.string x.S,.slice ko kn kc] 45)
 have hcode:=settleM_code F j
 have HP:=Lib.hid (fun (P : SL.HP) w' h=>jsettle_any b A F N hW hN bj bt bb v j hj hS (rshL b2 A2 F++([rjobP b2 br v2 j,P]++R)) w' (ints_more (ints_more hv _) _) h)
 have HR:=Lib.hid (fun (P : SL.HP) F' j' w' h=>rjsettle_any b2 A2 F N hW hN br v2 j hj hS (shL b A F'++(jobL b bj bt bb v j'++([P]++R))) w' (ints_more (ints_more (ints_more hv2 _) _) _) h)
 generalize settleM F j = S at *
 obtain ⟨f,F2,j2⟩:=S
 dsimp only at hcode HP HR ⊢
 clear H hv hv2 hT hF hW hN hS hj
 go_enter Tryz.func18,Tryz.ntmps18
 go_upto_region 1 with (fail)
 generalize w.heap.size = ba at *
 generalize w.alloc (.cells #[.string x.kind,.int .i64 x.A,.int .i64 x.B,.int .i64 x.C,.int .i64 x.D,.string x.S,.slice ko kn kc] 45) = wa at *
 have c0:=(own_cells 16 h0 rfl).1 0
 have c1:=(own_cells 16 h0 rfl).1 1
 go_wp2_with fail
 refine (HP.out _ wa h0).mono ?_
 rintro e w4 ⟨rfl,hx4,h4⟩
 go_wp2_with fail
 refine (HR.out _ F2 j2 w4 (jw_r h4)).mono ?_
 rintro e w5 ⟨rfl,hx5,h5⟩
 have h6:=jw_of_r h5
 clear c0 c1 h0 h4 h5
 go_wp2_with fail
 refine (same_any f f _ hcode).mono ?_
 rintro e w' ⟨rfl,rfl⟩
 go_wp2_with fail
 go_ret
 exact ⟨by simp,(hxa.trans hx4).trans hx5,own_erase 16 h6 rfl⟩
set_option maxRecDepth 1000000 in
set_option maxHeartbeats 8000000 in
theorem worked_end (b b2 bj bt bb br : Nat) (A : Nat→Nat×Nat×Nat) (A2 : Nat→Nat×Nat) (F : ShM) (N : Nat) (hW : ShW N F) (hN : N < 900000) (v v2 : Value) (j : JobM) (hj : j.Ok) (hS : JobS F j) (x : Act) (ko : Option Addr) (kn kc : Nat) (hA : i64ok x.A) (R : List SL.HP) (w : World) (hv : ∀w' L,own w' (L++R)→IntsAt w' v j.list) (hv2 : ∀w' L,own w' (L++R)→IntsAt w' v2 j.list) (hT : ∀w' L,own w' (L++R)→TabAt w') (H : own w (JW b A b2 A2 bj bt bb v br v2 F j F j R)) (k0 : ¬(x.kind.toList == [115,116,101,112]) = true) (k1 : ¬(x.kind.toList == [100,105,114,116,121]) = true) (k2 : ¬(x.kind.toList == [112,97,117,115,101]) = true) (k3 : ¬(x.kind.toList == [116,105,99,107]) = true) (k4 : ¬(x.kind.toList == [115,101,116,116,108,101]) = true) (k5 : (x.kind.toList == [101,110,100]) = true) :
  Calls Tryz.prog 18 #[.pointer (some ⟨bj,0,none⟩),.pointer (some ⟨br,0,none⟩),.agg #[.string x.kind,.int .i64 x.A,.int .i64 x.B,.int .i64 x.C,.int .i64 x.D,.string x.S,.slice ko kn kc]] w fun e w'=>e = .returned (.bool true)∧Ext w w'∧own w' (JW b A b2 A2 bj bt bb v br v2 F (endM j (decide (0 < x.A))) F (endM j (decide (0 < x.A))) R):=by
 obtain ⟨A1',A2'⟩:=hA
 have hF : ShOk F:=hW.sh hN
 have h0 : own (w.alloc (.cells #[.string x.kind,.int .i64 x.A,.int .i64 x.B,.int .i64 x.C,.int .i64 x.D,.string x.S,.slice ko kn kc] 45)) (JW b A b2 A2 bj bt bb v br v2 F j F j (pts w.heap.size (.cells #[.string x.kind,.int .i64 x.A,.int .i64 x.B,.int .i64 x.C,.int .i64 x.D,.string x.S,.slice ko kn kc] 45 (0,0))::R)):=jw_box (.cells #[.string x.kind,.int .i64 x.A,.int .i64 x.B,.int .i64 x.C,.int .i64 x.D,.string x.S,.slice ko kn kc] 45) H
 have hxa:=(Ext.refl w).alloc (.cells #[.string x.kind,.int .i64 x.A,.int .i64 x.B,.int .i64 x.C,.int .i64 x.D,.string x.S,.slice ko kn kc] 45)
 have HP:=Lib.hid (fun (L : List SL.HP) w' h=>jend_any b bj bt bb v j (decide (0 < x.A)) L w' h)
 clear H hv hv2 hT hF hW hN hS hj
 go_enter Tryz.func18,Tryz.ntmps18
 go_upto_region 1 with (fail)
 generalize w.heap.size = ba at *
 generalize w.alloc (.cells #[.string x.kind,.int .i64 x.A,.int .i64 x.B,.int .i64 x.C,.int .i64 x.D,.string x.S,.slice ko kn kc] 45) = wa at *
 have c0:=(own_cells 16 h0 rfl).1 0
 have c1:=(own_cells 16 h0 rfl).1 1
 go_wp2_with fail
 refine (HP.out _ wa (jw_j h0)).mono ?_
 rintro e w4 ⟨rfl,hx4,h4'⟩
 have h4:=jw_of_j h4'
 clear c0 c1
 have f7:=rjob_free 15 h4 rfl 74
 have c7:=rjob_cell 15 h4 rfl 74 (by decide)
 have h5 : own (w4.setCell ⟨br,74,none⟩ (.int .i64 5)) (JW b A b2 A2 bj bt bb v br v2 F (endM j (decide (0 < x.A))) F (endM j false) _):=rjob_set (i:=74) (a:=.int .i64 5) 15 h4 rfl (rjob_st b2 v2 j 5)
 have hx5:=hx4.setCell (⟨br,74,none⟩ : Addr) (.int .i64 5)
 clear h4 h4' h0 HP
 go_upto_region 21 with (fail)
 clear f7 c7
 generalize w4.setCell ⟨br,74,none⟩ (.int .i64 5) = w5 at *
 have c1:=(own_cells 16 h5 rfl).1 1
 have f8:=rjob_free 15 h5 rfl 74
 have c8:=rjob_cell 15 h5 rfl 74 (by decide)
 have h6 : own (w5.setCell ⟨br,74,none⟩ (.int .i64 4)) (JW b A b2 A2 bj bt bb v br v2 F (endM j (decide (0 < x.A))) F (endM j true) _):=rjob_set (i:=74) (a:=.int .i64 4) 15 h5 rfl (rjob_st b2 v2 (endM j false) 4)
 have hx6:=hx5.setCell (⟨br,74,none⟩ : Addr) (.int .i64 4)
 by_cases hp : 0 < x.A
 ·have d1 : decide (0 < x.A) = true:=decide_eq_true hp
  have h7:=h6
  rw [show endM j true = endM j (decide (0 < x.A)) by rw [d1]] at h7
  clear hp h5 h6
  go_wp2_with fail
  go_ret
  exact ⟨rfl,hxa.trans hx6,own_erase 16 h7 rfl⟩
 ·have d1 : decide (0 < x.A) = false:=decide_eq_false hp
  have h7:=h5
  rw [show endM j false = endM j (decide (0 < x.A)) by rw [d1]] at h7
  clear hp h5 h6
  go_wp2_with fail
  go_ret
  exact ⟨rfl,hxa.trans hx5,own_erase 16 h7 rfl⟩
set_option maxRecDepth 1000000 in
set_option maxHeartbeats 8000000 in
theorem worked_else (b b2 bj bt bb br : Nat) (A : Nat→Nat×Nat×Nat) (A2 : Nat→Nat×Nat) (F : ShM) (N : Nat) (hW : ShW N F) (hN : N < 900000) (v v2 : Value) (j : JobM) (hj : j.Ok) (hS : JobS F j) (x : Act) (ko : Option Addr) (kn kc : Nat) (hA : i64ok x.A) (R : List SL.HP) (w : World) (hv : ∀w' L,own w' (L++R)→IntsAt w' v j.list) (hv2 : ∀w' L,own w' (L++R)→IntsAt w' v2 j.list) (hT : ∀w' L,own w' (L++R)→TabAt w') (H : own w (JW b A b2 A2 bj bt bb v br v2 F j F j R)) (k0 : ¬(x.kind.toList == [115,116,101,112]) = true) (k1 : ¬(x.kind.toList == [100,105,114,116,121]) = true) (k2 : ¬(x.kind.toList == [112,97,117,115,101]) = true) (k3 : ¬(x.kind.toList == [116,105,99,107]) = true) (k4 : ¬(x.kind.toList == [115,101,116,116,108,101]) = true) (k5 : ¬(x.kind.toList == [101,110,100]) = true) :
  Calls Tryz.prog 18 #[.pointer (some ⟨bj,0,none⟩),.pointer (some ⟨br,0,none⟩),.agg #[.string x.kind,.int .i64 x.A,.int .i64 x.B,.int .i64 x.C,.int .i64 x.D,.string x.S,.slice ko kn kc]] w fun e w'=>e = .returned (.bool true)∧Ext w w'∧own w' (JW b A b2 A2 bj bt bb v br v2 F j F j R):=by
 obtain ⟨A1',A2'⟩:=hA
 have hF : ShOk F:=hW.sh hN
 have h0 : own (w.alloc (.cells #[.string x.kind,.int .i64 x.A,.int .i64 x.B,.int .i64 x.C,.int .i64 x.D,.string x.S,.slice ko kn kc] 45)) (JW b A b2 A2 bj bt bb v br v2 F j F j (pts w.heap.size (.cells #[.string x.kind,.int .i64 x.A,.int .i64 x.B,.int .i64 x.C,.int .i64 x.D,.string x.S,.slice ko kn kc] 45 (0,0))::R)):=jw_box (.cells #[.string x.kind,.int .i64 x.A,.int .i64 x.B,.int .i64 x.C,.int .i64 x.D,.string x.S,.slice ko kn kc] 45) H
 have hxa:=(Ext.refl w).alloc (.cells #[.string x.kind,.int .i64 x.A,.int .i64 x.B,.int .i64 x.C,.int .i64 x.D,.string x.S,.slice ko kn kc] 45)
 clear H hv hv2 hT hF hW hN hS hj
 go_enter Tryz.func18,Tryz.ntmps18
 go_upto_region 1 with (fail)
 generalize w.heap.size = ba at *
 generalize w.alloc (.cells #[.string x.kind,.int .i64 x.A,.int .i64 x.B,.int .i64 x.C,.int .i64 x.D,.string x.S,.slice ko kn kc] 45) = wa at *
 have c0:=(own_cells 16 h0 rfl).1 0
 have c1:=(own_cells 16 h0 rfl).1 1
 go_wp2_with fail
 go_ret
 exact ⟨rfl,hxa,own_erase 16 h0 rfl⟩
def workM (F : ShM) (j : JobM) (x : Act) : ShM×JobM:=
 if (x.kind.toList == [115,116,101,112]) = true then (stepM F j).2
 else if (x.kind.toList == [100,105,114,116,121]) = true then (F,dirtyM j x.A)
 else if (x.kind.toList == [112,97,117,115,101]) = true then (F,(pauseM j (decide (0 < x.A))).2)
 else if (x.kind.toList == [116,105,99,107]) = true then (F,jtickM j x.A)
 else if (x.kind.toList == [115,101,116,116,108,101]) = true then (settleM F j).2
 else if (x.kind.toList == [101,110,100]) = true then (F,endM j (decide (0 < x.A)))
 else (F,j)
theorem worked_any (b b2 bj bt bb br : Nat) (A : Nat→Nat×Nat×Nat) (A2 : Nat→Nat×Nat) (F : ShM) (N : Nat) (hW : ShW N F) (hN : N < 900000) (v v2 : Value) (j : JobM) (hj : j.Ok) (hS : JobS F j) (x : Act) (ko : Option Addr) (kn kc : Nat) (hA : i64ok x.A) (R : List SL.HP) (w : World) (hv : ∀w' L,own w' (L++R)→IntsAt w' v j.list) (hv2 : ∀w' L,own w' (L++R)→IntsAt w' v2 j.list) (hT : ∀w' L,own w' (L++R)→TabAt w') (H : own w (JW b A b2 A2 bj bt bb v br v2 F j F j R))  :
  Calls Tryz.prog 18 #[.pointer (some ⟨bj,0,none⟩),.pointer (some ⟨br,0,none⟩),.agg #[.string x.kind,.int .i64 x.A,.int .i64 x.B,.int .i64 x.C,.int .i64 x.D,.string x.S,.slice ko kn kc]] w fun e w'=>e = .returned (.bool true)∧Ext w w'∧own w' (JW b A b2 A2 bj bt bb v br v2 (workM F j x).1 (workM F j x).2 (workM F j x).1 (workM F j x).2 R):=by
 unfold workM
 by_cases k0 : (x.kind.toList == [115,116,101,112]) = true
 ·rw [if_pos k0]
  exact worked_step b b2 bj bt bb br A A2 F N hW hN v v2 j hj hS x ko kn kc hA R w hv hv2 hT H k0
 ·rw [if_neg k0]
  by_cases k1 : (x.kind.toList == [100,105,114,116,121]) = true
  ·rw [if_pos k1]
   exact worked_dirty b b2 bj bt bb br A A2 F N hW hN v v2 j hj hS x ko kn kc hA R w hv hv2 hT H k0 k1
  ·rw [if_neg k1]
   by_cases k2 : (x.kind.toList == [112,97,117,115,101]) = true
   ·rw [if_pos k2]
    exact worked_pause b b2 bj bt bb br A A2 F N hW hN v v2 j hj hS x ko kn kc hA R w hv hv2 hT H k0 k1 k2
   ·rw [if_neg k2]
    by_cases k3 : (x.kind.toList == [116,105,99,107]) = true
    ·rw [if_pos k3]
     exact worked_tick b b2 bj bt bb br A A2 F N hW hN v v2 j hj hS x ko kn kc hA R w hv hv2 hT H k0 k1 k2 k3
    ·rw [if_neg k3]
     by_cases k4 : (x.kind.toList == [115,101,116,116,108,101]) = true
     ·rw [if_pos k4]
      exact worked_settle b b2 bj bt bb br A A2 F N hW hN v v2 j hj hS x ko kn kc hA R w hv hv2 hT H k0 k1 k2 k3 k4
     ·rw [if_neg k4]
      by_cases k5 : (x.kind.toList == [101,110,100]) = true
      ·rw [if_pos k5]
       exact worked_end b b2 bj bt bb br A A2 F N hW hN v v2 j hj hS x ko kn kc hA R w hv hv2 hT H k0 k1 k2 k3 k4 k5
      ·rw [if_neg k5]
       exact worked_else b b2 bj bt bb br A A2 F N hW hN v v2 j hj hS x ko kn kc hA R w hv hv2 hT H k0 k1 k2 k3 k4 k5
end Go.Proofs.YtbpblokfiajpjabGreatDoor

namespace Go.Proofs.YtbpblokfiajpjabGreatDoor
open Go.RowKit Go.SL Go.Crc
def SameJ (j j' : JobM) : Prop:=j'.list = j.list∧j'.kind = j.kind∧j'.file = j.file∧j'.root = j.root∧j'.n = j.n
theorem SameJ.refl (j : JobM) : SameJ j j:=⟨rfl,rfl,rfl,rfl,rfl⟩
theorem turnM_same (j : JobM) : SameJ j (turnM j):=by
 unfold turnM
 split
 ·exact ⟨rfl,rfl,rfl,rfl,rfl⟩
 ·split <;> exact ⟨rfl,rfl,rfl,rfl,rfl⟩
theorem SameJ.turn {j j2 : JobM} (h : SameJ j j2) : SameJ j (turnM j2):=by
 obtain ⟨a,b,c,d,e⟩:=turnM_same j2
 exact ⟨a.trans h.1,b.trans h.2.1,c.trans h.2.2.1,d.trans h.2.2.2.1,e.trans h.2.2.2.2⟩
theorem endM_same (j : JobM) (b : Bool) : SameJ j (endM j b):=⟨rfl,rfl,rfl,rfl,rfl⟩
theorem jtickM_same (j : JobM) (n : Int) : SameJ j (jtickM j n):=by
 unfold jtickM
 split <;> exact ⟨rfl,rfl,rfl,rfl,rfl⟩
theorem dirtyM_same (j : JobM) (c : Int) : SameJ j (dirtyM j c):=by
 unfold dirtyM
 split
 ·exact SameJ.turn ⟨rfl,rfl,rfl,rfl,rfl⟩
 ·exact SameJ.refl j
theorem pauseM_same (j : JobM) (on : Bool) : SameJ j (pauseM j on).2:=by
 unfold pauseM
 split
 ·split
  ·exact ⟨rfl,rfl,rfl,rfl,rfl⟩
  ·exact SameJ.refl j
 ·split
  ·exact SameJ.turn (j:=j) (j2:={ j with st:=1 }) ⟨rfl,rfl,rfl,rfl,rfl⟩
  ·exact SameJ.refl j
theorem stepM_same (F : ShM) (j : JobM) : SameJ j (stepM F j).2.2:=by
 unfold stepM
 split
 ·exact SameJ.refl j
 ·split
  ·exact SameJ.refl j
  ·split
   ·exact ⟨rfl,rfl,rfl,rfl,rfl⟩
   ·exact SameJ.turn ⟨rfl,rfl,rfl,rfl,rfl⟩
theorem settleM_same (F : ShM) (j : JobM) : SameJ j (settleM F j).2.2:=by
 unfold settleM
 split
 ·exact SameJ.refl j
 ·split
  ·split
   ·exact ⟨rfl,rfl,rfl,rfl,rfl⟩
   ·exact SameJ.refl j
  ·split <;> exact SameJ.refl j
theorem JobS.same {F : ShM} {j j' : JobM} (h : JobS F j) (s : SameJ j j') : JobS F j':=
 ⟨fun x hx=>h.list x (by rw [← s.1]; exact hx),fun h2=>by rw [s.2.2.1]; exact h.file (by rw [← s.2.1]; exact h2)⟩
theorem JobS.files {F F' : ShM} {j : JobM} (h : JobS F j) (hf : ∀x,isFile F x→isFile F' x) : JobS F' j:=⟨fun x hx=>hf x (h.list x hx),fun h2=>hf _ (h.file h2)⟩
theorem workM_keep {N : Nat} {F : ShM} {j : JobM} (hW : ShW N F) (hN : N < 900000) (hj : j.Ok) (hS : JobS F j) (x : Act) :
  ShW (N + 5) (workM F j x).1∧(workM F j x).2.Ok∧JobS (workM F j x).1 (workM F j x).2∧SameJ j (workM F j x).2:=by
 have hM : ShW (N + 5) F:=hW.mono (by omega)
 unfold workM
 split
 ·have hs:=stepM_step (hW.sh hN) hj hS
  exact ⟨hW.step hs,stepM_ok hj,(hS.step hs).same (stepM_same F j),stepM_same F j⟩
 ·split
  ·exact ⟨hM,dirtyM_ok hj _,hS.same (dirtyM_same j _),dirtyM_same j _⟩
  ·split
   ·exact ⟨hM,pauseM_ok hj _,hS.same (pauseM_same j _),pauseM_same j _⟩
   ·split
    ·exact ⟨hM,jtickM_ok hj _,hS.same (jtickM_same j _),jtickM_same j _⟩
    ·split
     ·exact ⟨(settleM_shw hW hN hj hS).mono (by omega),settleM_ok hj,(hS.files fun x hx=>settleM_file hx).same (settleM_same F j),settleM_same F j⟩
     ·split
      ·exact ⟨hM,endM_ok hj _,hS.same (endM_same j _),endM_same j _⟩
      ·exact ⟨hM,hj,hS,SameJ.refl j⟩
end Go.Proofs.YtbpblokfiajpjabGreatDoor

namespace Go.Proofs.YtbpblokfiajpjabGreatDoor
open Go.RowKit Go.SL Go.Crc
attribute [local go_sem ↓] Go.wp_at_zero Go.wp_at_succ
theorem newM_code (F : ShM) (root kind file rate burst : Int) : 0≤(newM F root kind file rate burst).2:=by
 have : 0≤(walkM F root).2:=walkGo_code
 unfold newM
 repeat' split
 all_goals first | exact this | simp
theorem own_news {w : World} (a c d : List SL.HP) {r : SL.HP} {R : List SL.HP} (H : own w (a++(c++(r::(d++R))))) : own w (d++(a++(c++(r::R)))):=by
 have:=own_swap2 (a++(c++[r])) d (R:=R) (by simpa only [List.append_assoc,List.singleton_append] using H)
 simpa only [List.append_assoc,List.singleton_append] using this
theorem jw_mk {b : Nat} {A : Nat→Nat×Nat×Nat} {b2 : Nat} {A2 : Nat→Nat×Nat} {bj bt bb : Nat} {v : Value} {br : Nat} {v2 : Value} {F : ShM} {j : JobM} {F2 : ShM} {j2 : JobM} {r1 r2 : SL.HP} {R : List SL.HP} {w : World} (H : own w (rshL b2 A2 F2++(rjobP b2 br v2 j2::(r2::(shL b A F++(jobL b bj bt bb v j++(r1::R))))))) :
  own w (JW b A b2 A2 bj bt bb v br v2 F j F2 j2 (r2::r1::R)):=by
 have:=own_swap2 (rshL b2 A2 F2++[rjobP b2 br v2 j2,r2]) (shL b A F++jobL b bj bt bb v j) (R:=r1::R) (by simpa only [List.append_assoc,List.cons_append,List.nil_append] using H)
 simpa only [List.append_assoc,List.cons_append,List.nil_append] using this
theorem own_in {w : World} (a c d : List SL.HP) {R : List SL.HP} (H : own w (a++(c++(d++R)))) : own w (a++(d++(c++R))):=by
 have h1:=own_swap2 a (c++d) (R:=R) (by simpa only [List.append_assoc] using H)
 have h2:=own_swap2 c (d++a) (R:=R) (by simpa only [List.append_assoc] using h1)
 have h3:=own_swap2 d a (R:=c++R) (by simpa only [List.append_assoc] using h2)
 exact h3
set_option maxRecDepth 1000000 in
set_option maxHeartbeats 8000000 in
theorem jobsSays_walk (vf : Value) (lf : List FileM) (d0 d1 d2 d3 d4 : Int) (v : Value) (l : List Act) (w : World) (hvf : FilesAt w vf lf) (hv : ActsAt w v l) (hT : TabAt w) :
  Calls Tryz.prog 3 #[vf,.agg #[.int .i64 d0,.int .i64 d1,.int .i64 d2,.int .i64 d3,.int .i64 d4],v] w fun e w'=>e = .returned (.bool true)∧Below w.heap.size w w':=by
 obtain ⟨ao,bb,off,cap,rfl,hlen,hao,hat⟩:=hv.form
 have h0:=own_alloc (own_exactly w) (.cells #[.int .i64 d0,.int .i64 d1,.int .i64 d2,.int .i64 d3,.int .i64 d4] 24)
 have hx0:=(Ext.refl w).alloc (.cells #[.int .i64 d0,.int .i64 d1,.int .i64 d2,.int .i64 d3,.int .i64 d4] 24)
 have HAT:=Lib.hid hat
 have HV:=Lib.hid hv
 have HAO:=Lib.hid hao
 have HVF:=Lib.hid hvf
 have HT:=Lib.hid hT
 have HZ : Hid (w.heap.size = w.heap.size):=Lib.hid rfl
 clear hat hv hao hvf hT
 go_enter Tryz.func3,Tryz.ntmps3
 go_upto_region 1 with (fail)
 generalize hgg : w.heap.size = g at h0 hx0 ⊢
 generalize w.alloc (.cells #[.int .i64 d0,.int .i64 d1,.int .i64 d2,.int .i64 d3,.int .i64 d4] 24) = w0 at *
 have hTR : ∀w' L,own w' (L++[pts g (.cells #[.int .i64 d0,.int .i64 d1,.int .i64 d2,.int .i64 d3,.int .i64 d4] 24 (0,0)),exactly w])→TabAt w':=fun w' L h=>HT.out.later (L.length + 1) h (at_behind (l:=L) rfl)
 have HTR:=Lib.hid hTR
 clear hTR
 go_wp2_with fail
 refine (moves_any _ HTR.out w0 h0).mono ?_
 rintro e w1 ⟨rfl,hx1,h1⟩
 have hx1:=hx0.trans hx1
 go_wp2_with fail
 refine (lightfiles_any vf lf w1 (HVF.out.later 1 h1 rfl)).mono ?_
 rintro e w' ⟨rfl,rfl⟩
 by_cases hLF : lightF lf = true
 ·rw [hLF]
  have hlf2 : lf.length≤5∧∀f∈lf,f.is.length≤40:=by
   simp only [lightF,Bool.and_eq_true,decide_eq_true_eq,List.all_eq_true] at hLF
   exact hLF
  obtain ⟨hl5,hI⟩:=hlf2
  clear hLF
  go_wp2_with fail
  refine (light_any _ l 50 w1 (HV.out.later 1 h1 rfl)).mono ?_
  rintro e w' ⟨rfl,rfl⟩
  by_cases hL : light l 50 = true
  ·have hl2 : l.length≤50:=by
    simp only [light,Bool.and_eq_true,decide_eq_true_eq] at hL
    omega
   rw [hL]
   clear hL
   have hW:=laidTo_W hI lf.length
   have hld:=laid_any vf lf hl5 hI _ w1 (fun w' L h=>HVF.out.later (L.length + 1) h (at_behind (l:=L) rfl)) h1
   unfold LaidPost at hld
   have HLD:=Lib.hid hld
   have HW:=Lib.hid hW
   clear hld hI hW
   change Hid (ShW 300 (laidM lf)) at HW
   generalize laidM lf = F at *
   have hF : ShOk F:=HW.out.sh (by omega)
   have hn5 : (walkM F d0).1.length≤5:=walkGo_len (by simp)
   have HN:=Lib.hid (fun (bs : Nat) (A : Nat→Nat×Nat×Nat) (R : List SL.HP) (w : World) (H : own w (shL bs A F++R))=>jnew_any bs A F hF d0 d1 d2 d3 d4 hn5 R w H)
   have HRN:=Lib.hid (fun (br : Nat) (A2 : Nat→Nat×Nat) (R : List SL.HP) (w : World) (H : own w (rshL br A2 F++R))=>rnew_any br A2 F hF d0 d1 d2 d3 d4 hn5 R w H)
   have hcode:=newM_code F d0 d1 d2 d3 d4
   have hgood:=Lib.hid (fun j (h : (newM F d0 d1 d2 d3 d4).1 = some j)=>newM_good hF hn5 h)
   have c0:=(own_cells 0 h1 rfl).1
   clear hF hn5
   generalize newM F d0 d1 d2 d3 d4 = S at *
   obtain ⟨oj,f⟩:=S
   have HC:=Lib.hid hcode
   clear hcode
   go_wp2_with fail
   refine HLD.out.mono ?_
   rintro e w2 ⟨bs,br,A,A2,rfl,hx2,h2⟩
   have e0:=(own_cells 12 h2 rfl).1 0
   have e1:=(own_cells 12 h2 rfl).1 1
   have e2:=(own_cells 12 h2 rfl).1 2
   have e3:=(own_cells 12 h2 rfl).1 3
   have e4:=(own_cells 12 h2 rfl).1 4
   have hx2:=hx1.trans hx2
   clear hx1 h1 HLD c0
   cases oj with
   | none=>
    go_wp2_with fail
    refine (HN.out bs A _ w2 h2).mono ?_
    rintro e w3 ⟨rfl,hx3,h3⟩
    have h4:=own_swap2 (shL bs A F) (rshL br A2 F) h3
    have e0:=(own_cells 12 h3 rfl).1 0
    have e1:=(own_cells 12 h3 rfl).1 1
    have e2:=(own_cells 12 h3 rfl).1 2
    have e3:=(own_cells 12 h3 rfl).1 3
    have e4:=(own_cells 12 h3 rfl).1 4
    go_wp2_with fail
    refine (HRN.out br A2 _ w3 h4).mono ?_
    rintro e w4 ⟨rfl,hx4,h5⟩
    have hc : (0 : Int)≤f:=HC.out
    go_wp2_with fail
    refine (same_any f f w4 hc).mono ?_
    rintro e w' ⟨rfl,rfl⟩
    go_wp2_with fail
    go_ret
    exact ⟨rfl,below_of 13 h5 rfl ((hx2.trans hx3).trans hx4)⟩
   | some j=>
    obtain ⟨hj,hS⟩:=hgood.out j rfl
    have HJ:=Lib.hid hj
    have HS:=Lib.hid hS
    clear hj hS hgood
    go_wp2_with fail
    refine (HN.out bs A _ w2 h2).mono ?_
    rintro e w3 ⟨bj,bt,bb2,v1,rfl,hx3,h3⟩
    have h4:=own_news (shL bs A F) (jobL bs bj bt bb2 v1 j) (rshL br A2 F) h3
    have e0:=(own_cells 16 h3 rfl).1 0
    have e1:=(own_cells 16 h3 rfl).1 1
    have e2:=(own_cells 16 h3 rfl).1 2
    have e3:=(own_cells 16 h3 rfl).1 3
    have e4:=(own_cells 16 h3 rfl).1 4
    go_wp2_with fail
    refine (HRN.out br A2 _ w3 h4).mono ?_
    rintro e w4 ⟨b2,v2,rfl,hx4,h5⟩
    have h6:=jw_mk h5
    have hx6:=(hx2.trans hx3).trans hx4
    clear h2 h3 h4 h5 hx2 hx3 hx4 e0 e1 e2 e3 e4 HN HRN
    go_wp2_with fail
    refine (same_any 0 0 w4 (by omega)).mono ?_
    rintro e w' ⟨rfl,rfl⟩
    have hv1 : ∀w' L,own w' (L++[row 3 1 v2 j.list.length (intVals j.list),row 3 1 v1 j.list.length (intVals j.list),pts g (.cells #[.int .i64 d0,.int .i64 d1,.int .i64 d2,.int .i64 d3,.int .i64 d4] 24 (0,0)),exactly w])→IntsAt w' v1 j.list:=fun w' L h=>ints_row (L.length + 1) h (at_behind (l:=L) rfl)
    have hv2 : ∀w' L,own w' (L++[row 3 1 v2 j.list.length (intVals j.list),row 3 1 v1 j.list.length (intVals j.list),pts g (.cells #[.int .i64 d0,.int .i64 d1,.int .i64 d2,.int .i64 d3,.int .i64 d4] 24 (0,0)),exactly w])→IntsAt w' v2 j.list:=fun w' L h=>ints_row (L.length + 0) h (at_behind (l:=L) rfl)
    have hT2 : ∀w' L,own w' (L++[row 3 1 v2 j.list.length (intVals j.list),row 3 1 v1 j.list.length (intVals j.list),pts g (.cells #[.int .i64 d0,.int .i64 d1,.int .i64 d2,.int .i64 d3,.int .i64 d4] 24 (0,0)),exactly w])→TabAt w':=fun w' L h=>HT.out.later (L.length + 3) h (at_behind (l:=L) rfl)
    have HV1:=Lib.hid hv1
    have HV2:=Lib.hid hv2
    have HT2:=Lib.hid hT2
    have H6:=Lib.hid h6
    have HX6:=Lib.hid hx6
    clear hv1 hv2 hT2 h6 hx6
    go_wp2_with fail
    go_loopw [14] (fun kv wr=>∃(q : Nat) (F' : ShM) (j' : JobM),q≤l.length∧kv = .int .i64 q∧ShW (300 + 5 * q) F'∧j'.Ok∧JobS F' j'∧SameJ j j'∧Ext w wr∧own wr (JW bs A br A2 bj bt bb2 v1 b2 v2 F' j' F' j' [row 3 1 v2 j.list.length (intVals j.list),row 3 1 v1 j.list.length (intVals j.list),pts g (.cells #[.int .i64 d0,.int .i64 d1,.int .i64 d2,.int .i64 d3,.int .i64 d4] 24 (0,0)),exactly w])) (fun kv _=>l.length - (intOf kv).toNat)
    case atStart=>exact ⟨0,F,j,by omega,rfl,HW.out,HJ.out,HS.out,SameJ.refl j,HX6.out,H6.out⟩
    case round=>
     clear H6 HX6 HW HJ HS
     obtain ⟨q,F',j',hq,rfl,hW',hj',hS',hsm,hxr,hown⟩:=hrel
     by_cases hlt : q < l.length
     ·obtain rfl:=HAO.out (by omega)
      obtain ⟨c0,c1,c2,c3,c4,c5,c6⟩:=(HAT.out q hlt).later 19 hown rfl
      have ok:=HV.out.2 _ (all_getD hlt)
      obtain ⟨ko,kc,hkv,hkl⟩:=keep_len ok.keep
      rw [hkv] at c6
      have hl1 : j'.list = j.list:=hsm.1
      have HWA:=Lib.hid (worked_any bs br bj bt bb2 b2 A A2 F' (300 + 5 * q) hW' (by omega) v1 v2 j' hj' hS' (l.getD q actNone) ko (l.getD q actNone).keep.length kc ok.A _ wr (fun w' L h=>by rw [hl1]; exact HV1.out w' L h) (fun w' L h=>by rw [hl1]; exact HV2.out w' L h) HT2.out hown)
      obtain ⟨k1,k2,k3,k4⟩:=workM_keep hW' (by omega) hj' hS' (l.getD q actNone)
      have k4 : SameJ j (workM F' j' (l.getD q actNone)).2:=⟨k4.1.trans hsm.1,k4.2.1.trans hsm.2.1,k4.2.2.1.trans hsm.2.2.1,k4.2.2.2.1.trans hsm.2.2.2.1,k4.2.2.2.2.trans hsm.2.2.2.2⟩
      have HS1:=Lib.hid (fun (L : List SL.HP) w' h=>jstatus_any bs bj bt bb2 v1 _ k2 L w' h)
      have HS2:=Lib.hid (fun (L : List SL.HP) w' h=>rjstatus_any br b2 v2 (workM F' j' (l.getD q actNone)).2 L w' h)
      have HG1:=Lib.hid (fun (L : List SL.HP) w' h=>jgoes_any bs bj bt bb2 v1 (workM F' j' (l.getD q actNone)).2 L w' h)
      have HG2:=Lib.hid (fun (L : List SL.HP) w' h=>rjgoes_any br b2 v2 (workM F' j' (l.getD q actNone)).2 L w' h)
      have K:=Lib.hid (And.intro k1 (And.intro k2 (And.intro k3 k4)))
      unfold statusV at HS1 HS2
      clear ok hkv hW' hj' hS' hsm hown k1 k2 k3 k4 hl1
      generalize workM F' j' (l.getD q actNone) = S at *
      obtain ⟨F2,j2⟩:=S
      dsimp only at HWA HS1 HS2 HG1 HG2 K
      generalize l.getD q actNone = x at *
      generalize hcn : cnt j2.x = cn at *
      clear hcn
      generalize hst4 : decide (j2.st < 4) = go at *
      clear hst4
      go_wp2_with fail
      refine HWA.out.mono ?_
      rintro e w7 ⟨rfl,hx7,h7⟩
      go_wp2_with fail
      refine (HS1.out _ w7 (jw_j h7)).mono ?_
      rintro e w8 ⟨rfl,hx8,h8'⟩
      have h8:=jw_of_j h8'
      go_wp2_with fail
      refine (HS2.out _ w8 (jw_rj h8)).mono ?_
      rintro e w9 ⟨rfl,hx9,h9'⟩
      have h9:=jw_of_rj h9'
      clear h8' h9' h7 h8
      go_wp2_with fail
      refine (HG1.out _ w9 (jw_j h9)).mono ?_
      rintro e w' ⟨rfl,rfl⟩
      go_wp2_with fail
      refine (HG2.out _ w9 (jw_rj h9)).mono ?_
      rintro e w' ⟨rfl,rfl⟩
      cases go
      all_goals
       go_wp2_with fail
       go_roundw
       case rel=>exact ⟨q + 1,F2,j2,by omega,by go_num,K.out.1,K.out.2.1,K.out.2.2.1,K.out.2.2.2,((hxr.trans hx7).trans hx8).trans hx9,h9⟩
       case measure=>simp [intOf]; omega
     ·obtain rfl : q = l.length:=by omega
      have h7:=own_in (shL bs A F') (jobL bs bj bt bb2 v1 j') (rshL br A2 F') hown
      have HAS:=Lib.hid (asshelf_any bs br A A2 F' (hW'.sh (by omega)) _ wr h7)
      clear hW' hown h7
      go_wp2_with fail
      refine HAS.out.mono ?_
      rintro e w7 ⟨rfl,hx7,h7⟩
      go_wp2_with fail
      go_ret
      exact ⟨rfl,below_of 19 h7 rfl (hxr.trans hx7)⟩
  ·rw [Bool.not_eq_true] at hL
   rw [hL]
   clear hL
   go_wp2_with fail
   go_ret
   exact ⟨rfl,below_of 1 h1 rfl hx1⟩
 ·rw [Bool.not_eq_true] at hLF
  rw [hLF]
  clear hLF
  go_wp2_with fail
  go_ret
  exact ⟨rfl,below_of 1 h1 rfl hx1⟩
end Go.Proofs.YtbpblokfiajpjabGreatDoor

namespace Go.Proofs.YtbpblokfiajpjabGreatDoor
open Go.ChangeShapes Go.WideShapes Go.ChangeAt Go.RowKit
theorem tab_list : Rows.laid_math_bits_deBruijn64tab (H:=Unit) = .agg (Lib.deBruijn64tab.map fun (n : Nat)=>.lit (.int .u8 (n : Int))):=by kernel_rfl
theorem tab_laid {W : World} (h : laidMetH Tryz.prog [("math/bits.deBruijn64tab", Rows.laid_math_bits_deBruijn64tab)] W) : TabAt W := by
 intro r hr
 rw [MakeChecks.laidMetH_plain _ _ _ (by kernel_rfl)] at h
 obtain ⟨ps,⟨g,t,cs,fuel,p,q,hg,ht,hv,hd,_,_⟩,_,_⟩:=h
 obtain rfl := Option.some.inj ((show Tryz.prog.globalNamed "math/bits.deBruijn64tab" = some 0 by kernel_rfl).symm.trans hg)
 obtain rfl:=Option.some.inj ((show (Tryz.prog.globals[0]?).map (·.type) = some 291 by kernel_rfl).symm.trans ht)
 obtain ⟨xs,m,_,ex,_,hl,hel⟩:=DataW.trod_array Tryz.underlying291 hd
 have c5 : Tryz.prog.cellsOf 5 = 1:=by kernel_rfl
 have hE:=hel r hr
 rw [c5,Nat.mul_one,List.getElem?_eq_getElem (by omega)] at hE
 obtain ⟨z,e1,e2,_⟩:=DataW.trod_int Tryz.underlying5 hE
 have hlen : Lib.deBruijn64tab.length = 64:=by decide
 rw [tab_list] at ex
 have e3 : (xs.map (·.1)) = Lib.deBruijn64tab.map fun (n : Nat)=>.lit (.int .u8 (n : Int)):=(DataW.agg.inj (Prod.mk.inj ex).1).symm
 have e4 : (xs.map (·.1))[r]? = (Lib.deBruijn64tab.map fun (n : Nat)=>(DataW.lit (.int .u8 (n : Int)) : DataW Unit))[r]?:=by rw [e3]
 rw [List.getElem?_map,List.getElem?_map,List.getElem?_eq_getElem (by omega : r < xs.length),List.getElem?_eq_getElem (by omega : r < Lib.deBruijn64tab.length),e2] at e4
 have hz : z = ((Lib.deBruijn64tab.getD r 0 : Nat) : Int):=by
  simp only [Option.map_some,Option.some.injEq,DataW.lit.injEq,Lit.int.injEq,true_and] at e4
  rw [e4,List.getD,List.getElem?_eq_getElem (by omega : r < Lib.deBruijn64tab.length)]; rfl
 rw [World.var?_cell hg hv r,← hz]
 have : cs.toList[r]? = some (.int .u8 z):=by
  have h0 : ((cs.toList.drop r).take 1)[0]? = some (.int .u8 z):=by rw [e1]; rfl
  simpa using h0
 simpa using this
end Go.Proofs.YtbpblokfiajpjabGreatDoor

namespace Go.Proofs.YtbpblokfiajpjabGreatDoor.jobsSaysDone
open Go.ChangeShapes Go.WideShapes Go.ChangeAt Go.RowKit
open Go.ChangeMaps (open_string shut_string)
set_option linter.unusedVariables false
theorem own : ownKnob Tryz.prog.godebug = none:=by kernel_rfl
theorem laidOut : laidOutB Tryz.prog = true:=by kernel_rfl
set_option maxRecDepth 100000 in
theorem lifted (os : Os) (started : os.Started) (H : Type) (enc : TypeId×Value→H) :
  ReturnsInHanded {} Tryz.checked os 3 .any (fun w args=>(Rows.jobsSaysSpec.pre enc Tryz.prog Tryz.f3 Rows.jobsSaysRow.domain false w args∧laidMetH Tryz.prog Rows.jobsSaysRow.laid w)∧sizedMet enc Tryz.prog Tryz.f3 (OpenSpec.ofChange Rows.jobsSaysSpec) false w args)
   (Rows.jobsSaysSpec.post enc Tryz.prog Tryz.f3 false true false false):=by
 refine returnsInHanded_of_change_and (C:=Tryz.checked) (X:=fun w _=>laidMetH Tryz.prog Rows.jobsSaysRow.laid w) (fun _ _ _ hh h=>h.of_heap hh) own started (by kernel_rfl) Tryz.func3
  (ChangeSpec.witness_shaped (enc:=enc) (C:=Tryz.checked) (os:=os) (X:=fun w _=>laidMetH Tryz.prog Rows.jobsSaysRow.laid w) false (World.laidAll Tryz.prog os Rows.jobsSaysRow.laid) #[.slice none 0 0,.agg #[.int .i64 0,.int .i64 0,.int .i64 0,.int .i64 0,.int .i64 0],.slice none 0 0] 8 (World.laidAll_os _ _ _)
   (World.shaped_of_ZipB (by kernel_rfl) (by kernel_rfl)) (by kernel_rfl) (by kernel_rfl) (by kernel_rfl)
   (by rw [MakeChecks.laidMetH_plain _ _ _ (by kernel_rfl)]; exact laidMet_laidAll _ (by kernel_rfl) (by kernel_rfl))) ?_
 intro W base args ds gs before hval0 hW hcnd _ hL _
 have hval : ∀(j : Nat) t v,Tryz.f3.params[j]? = some t→args[j]? = some v→Value.okWide Tryz.prog W .any base t v:=hval0
 have hW':=hW
 obtain ⟨p,q,hA0,hV,rfl,hfz,hnd⟩:=hW
 have hA : DataW.TrodAll enc Tryz.prog W 0 (fun _=>true) true Tryz.f3.params.toList args.toList ds p:=hA0
 rw [Tryz.params3] at hA hval
 obtain ⟨v0,vs0,d0,ds0,p0,q0,hargs,rfl,rfl,h0,r0⟩:=trodAll_cons hA
 obtain ⟨v1,vs1,d1,ds1,p1,q1,rfl,rfl,rfl,h1,r1⟩:=trodAll_cons r0
 obtain ⟨v2,vs2,d2,ds2,p2,q2,rfl,rfl,rfl,h2,r2⟩:=trodAll_cons r1
 obtain ⟨rfl,rfl,rfl⟩:=trodAll_nil r2
 obtain rfl : args = #[v0,v1,v2]:=by cases args; simp_all
 obtain ⟨rfl,rfl⟩:=trodVars_none hV
 obtain ⟨ao0,len0,cap0,rfl⟩:=okWide_slice Tryz.underlying22 (hval 0 22 v0 rfl rfl)
 have t0:=h0
 have lt0 : ∀x∈p0,x.block < W.heap.size:=by obtain ⟨m,hm⟩:=t0; exact DataW.trod_lt m _ _ _ hm
 obtain ⟨a0,k0⟩ : ∃l,FilesAt W (.slice ao0 len0 cap0) l:=by
  obtain ⟨fuel,hf⟩:=h0
  exact files_open hf
 have t1:=h1
 have lt1 : ∀x∈p1,x.block < W.heap.size:=by obtain ⟨m,hm⟩:=t1; exact DataW.trod_lt m _ _ _ hm
 obtain ⟨a1_0,a1_1,a1_2,a1_3,a1_4,rfl⟩:=desk_open (hval 1 24 v1 rfl rfl) h1
 obtain ⟨ao2,len2,cap2,rfl⟩:=okWide_slice Tryz.underlying25 (hval 2 25 v2 rfl rfl)
 have t2:=h2
 have lt2 : ∀x∈p2,x.block < W.heap.size:=by obtain ⟨m,hm⟩:=t2; exact DataW.trod_lt m _ _ _ hm
 obtain ⟨a2,k2⟩ : ∃l,ActsAt W (.slice ao2 len2 cap2) l:=by
  obtain ⟨fuel,hf⟩:=h2
  exact acts_open hf
 clear hA0 hval0
 refine (jobsSays_walk _ a0 a1_0 a1_1 a1_2 a1_3 a1_4 _ a2 W k0 k2 (tab_laid hL)).mono fun e W' ⟨he,bel⟩=>?_
 subst he
 exact ⟨_,rfl,_,_,_,[],_,[],hW',trodAll_mk1 (shut_bool Tryz.underlying4 _),(trodAll_cons_mk (Below.trod laidOut (by kernel_rfl) (of_decide_eq_true (by kernel_rfl)) t0 bel lt0) (trodAll_cons_mk (Below.trod laidOut (by kernel_rfl) (of_decide_eq_true (by kernel_rfl)) t1 bel lt1) (trodAll_cons_mk (Below.trod laidOut (by kernel_rfl) (of_decide_eq_true (by kernel_rfl)) t2 bel lt2) trodAll_mk0))),rfl,bel.frame _,fun h=>by cases h⟩
theorem andB {a b : Bool} (ha : a = true) (hb : b = true) : (a && b) = true:=by rw [ha,hb]; rfl
theorem fact0 : Rows.jobsSaysRow.wf (OpenSpec.ofChange Rows.jobsSaysSpec) = true:=by kernel_rfl
theorem fact1 : laidOutB Tryz.prog = true:=by kernel_rfl
theorem fact2 : mapsRowed Tryz.prog = true:=by kernel_rfl
theorem fact3 : Tryz.f3.params.all (Tryz.prog.readableRec ·) = true:=by kernel_rfl
theorem fact4 : namedTie Tryz.prog Rows.jobsSaysRow.named Rows.jobsSaysSpec.vars = true:=by kernel_rfl
theorem fact5 : (Rows.jobsSaysRow.stops == []) = true:=by kernel_rfl
theorem fact6 : (Tryz.prog.stops == []) = true:=by kernel_rfl
theorem fact7 : (Rows.jobsSaysRow.knobs == []) = true:=by kernel_rfl
theorem fact8 : (Tryz.prog.stopKnobs == []) = true:=by kernel_rfl
theorem fact9 : (Rows.jobsSaysRow.inPlace == Tryz.prog.inPlace 3) = true:=by kernel_rfl
theorem fact10 : (Rows.jobsSaysRow.unfollowed == Tryz.prog.unfollowed 3) = true:=by kernel_rfl
theorem fact11 : (Rows.jobsSaysRow.recurses == Tryz.prog.recurses 3) = true:=by kernel_rfl
theorem fact12 : (Rows.jobsSaysRow.named == Tryz.prog.varsNamed 3) = true:=by kernel_rfl
theorem fact13 : (Rows.jobsSaysRow.maps == (Tryz.f3.params.toList++Rows.jobsSaysSpec.plain.varTypes Tryz.prog).any (Tryz.prog.mapsRec ·)) = true:=by kernel_rfl
theorem fact14 : (Rows.jobsSaysRow.ifaces == (Tryz.f3.params.toList++Rows.jobsSaysSpec.plain.varTypes Tryz.prog).any (Tryz.prog.ifacesRec ·)) = true:=by kernel_rfl
theorem fact15 : (Rows.jobsSaysRow.mapsOut == Tryz.prog.mapsAmong Tryz.f3.resultTypes.toList) = true:=by kernel_rfl
theorem fact16 : (Rows.jobsSaysRow.loops == (Tryz.f3.params.toList++Rows.jobsSaysSpec.plain.varTypes Tryz.prog).any (Tryz.prog.loopsFrom ·)) = true:=by kernel_rfl
theorem fact17 : (Rows.jobsSaysRow.wideKeys == (Tryz.f3.params.toList++Rows.jobsSaysSpec.plain.varTypes Tryz.prog++Tryz.f3.resultTypes.toList).any (Tryz.prog.wideKeysFrom ·)) = true:=by kernel_rfl
theorem fact18 : Rows.jobsSaysSpec.vars.all (Tryz.prog.varReadable ·) = true:=by kernel_rfl
theorem fact19 : Tryz.f3.resultTypes.all (fun t=>Tryz.prog.readableRec t && decide (t < Tryz.prog.types.size)) = true:=by kernel_rfl
theorem fact20 : (Rows.jobsSaysRow.ifacesOut == Tryz.f3.resultTypes.toList.any (Tryz.prog.ifacesRec ·)) = true:=by kernel_rfl
theorem fact21 : (Rows.jobsSaysRow.loopsOut == Tryz.f3.resultTypes.toList.any (Tryz.prog.loopsFrom ·)) = true:=by kernel_rfl
theorem fact22 : (Rows.jobsSaysRow.plainKeys == Tryz.prog.plainKeys) = true:=by kernel_rfl
theorem fact23 : Rows.jobsSaysRow.shortTexts.isNone = true:=by kernel_rfl
theorem fact24 : Tryz.prog.stopsHeard = true:=by kernel_rfl
theorem fact25 : Tryz.prog.mayEnter = true:=by kernel_rfl
theorem fact26 : (Rows.jobsSaysRow.lifted == Tryz.prog.liftsFinal) = true:=by kernel_rfl
theorem fact27 : (Tryz.prog.make == some Rows.jobsSaysRow.make) = true:=by kernel_rfl
theorem fact28 : (Rows.jobsSaysRow.kinds == (if Rows.jobsSaysRow.domain.isEmpty then [] else Tryz.f3.params.toList.map fun t=>match Tryz.prog.underlying t with | some (.int k)=>some k | _=>none)) = true:=by kernel_rfl
theorem fact29 : (Rows.jobsSaysRow.pinned == Rows.jobsSaysRow.pinnedBy) = true:=by kernel_rfl
theorem fact30 : (Rows.jobsSaysRow.veiled == (Tryz.f3.params.toList++Rows.jobsSaysSpec.plain.varTypes Tryz.prog++Tryz.f3.resultTypes.toList).any (Tryz.prog.veiledRec ·)) = true:=by kernel_rfl
theorem fact31 : Rows.jobsSaysRow.veiledFits Tryz.prog Tryz.f3.params.toList (Tryz.f3.params.toList++Rows.jobsSaysSpec.plain.varTypes Tryz.prog++Tryz.f3.resultTypes.toList) = true:=by kernel_rfl
set_option maxRecDepth 100000 in
theorem closed : joinedFacts Tryz.prog 3 Tryz.f3 Rows.jobsSaysSpec Rows.jobsSaysRow = true:=by
 unfold joinedFacts
 exact (andB (andB (andB (andB (andB (andB (andB (andB (andB (andB (andB (andB (andB (andB (andB (andB (andB (andB (andB (andB (andB (andB (andB (andB (andB (andB (andB (andB (andB (andB (andB fact0 fact1) fact2) fact3) fact4) fact5) fact6) fact7) fact8) fact9) fact10) fact11) fact12) fact13) fact14) fact15) fact16) fact17) fact18) fact19) fact20) fact21) fact22) fact23) fact24) fact25) fact26) fact27) fact28) fact29) fact30) fact31)
theorem named_f : Tryz.prog.funcNamed Rows.jobsSaysRow.func = some 3:=by kernel_rfl
theorem over : Rows.jobsSaysRow.holds Tryz.pinned (OpenSpec.ofChange Rows.jobsSaysSpec):=
 OpenClaim.holds_of_wide 3 Tryz.f3 rfl rfl rfl rfl rfl rfl rfl ⟨rfl,rfl,rfl,rfl,rfl⟩ rfl rfl rfl rfl rfl named_f Tryz.func3 closed
  (of_decide_eq_true (by kernel_rfl)) (by unfold Func.isWrapper; first | (rw [if_pos (by decide +kernel)]; kernel_rfl) | (rw [if_neg (by decide +kernel)]; exact ⟨rfl,rfl⟩))
  (fun os started H enc _=>lifted os started H enc)
theorem proved : Rows.JobsSaysCardSaid:=
 Claim7.holds_tied_plain_at .later [] _ _ _ _ over (fun _ h=>by cases h) (by kernel_rfl) (fun _ h=>by cases h) jobsSays_row_tie rfl ⟨rfl,rfl⟩ (by kernel_rfl) rfl
  (fun f fn hf hfn=>by
   obtain rfl : f = 3 := Option.some.inj ((show Tryz.prog.funcNamed "stackyard/stackyardlaw.JobsSays" = some 3 by kernel_rfl).symm.trans hf) |>.symm
   obtain rfl : fn = Tryz.f3:=(Option.some.inj (Tryz.func3.symm.trans hfn)).symm
   exact ⟨by kernel_rfl,fun j t ht=>by
    rw [Tryz.params3] at ht
    have hm : t∈[22,24,25]:=by
     have:=Array.mem_of_getElem? ht
     simp only [List.mem_toArray,List.mem_cons,List.mem_nil_iff,or_false] at this ⊢
     simp only [this,true_or,or_true] <;> omega
    have hall : ([22,24,25].all fun u=>!Tryz.prog.wantsStandIn u) = true:=by kernel_rfl
    exact (show Tryz.prog.wantsStandIn t = false by simpa using List.all_eq_true.1 hall t hm)⟩)
  (by kernel_rfl)
#print axioms proved
end Go.Proofs.YtbpblokfiajpjabGreatDoor.jobsSaysDone
