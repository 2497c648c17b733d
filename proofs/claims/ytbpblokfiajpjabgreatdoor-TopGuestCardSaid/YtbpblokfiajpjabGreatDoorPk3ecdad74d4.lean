/- TopGuest answers true, whatever the clusters, the places and the acts, and leaves what it was given as it was. No conditions. -/
import Derived.Test.YtbpblokfiajpjabGreatDoorPkdb112624fc
import Derived.Test.YtbpblokfiajpjabGreatDoorRows
import Derived.LaidMore
import Derived.Lay
import Derived.Test.YtbpblokfiajpjabGreatDoorCards
import Derived.Test.YtbpblokfiajpjabGreatDoorTie
import Derived.ShutString
import Derived.ChangeOld
import Derived.Below
import Derived.LaidOnce
import Derived.SevenTiedAt
set_option linter.all false
set_option maxRecDepth 1000000
set_option maxHeartbeats 32000000
namespace Go.Proofs.YtbpblokfiajpjabGreatDoor
open Go.RowKit Go.SL Go.Crc
attribute [local go_sem ↓] Go.wp_at_zero Go.wp_at_succ
def Bf (Y : YA) (m : ld) (R : List SL.HP) (w : World) (e : Ending) (w' : World) : Prop:=∃Y' : YA,Y'.y = Y.y /\ e = .returned (.tuple #[]) /\ Ext w w' /\ own w' (yL Y' m R)
def Ey (Y : YA) (gb : Nat) (vn vc : Value) (m : ld) (g : lM) (R : List SL.HP) (w : World) (e : Ending) (w' : World) : Prop:=∃(Y' : YA) (nv cv : Nat -> Value),Y'.y = Y.y /\ e = .returned (.tuple #[]) /\ Ext w w' /\ own w' (yL Y' m (gL gb vn vc nv cv g++R))
theorem Bf.g {Y : YA} {gb : Nat} {vn vc : Value} {nv cv : Nat -> Value} {m : ld} {g : lM} {R : List SL.HP} {w w' : World} {e : Ending} (h : Bf Y m (gL gb vn vc nv cv g++R) w e w') : Ey Y gb vn vc m g R w e w':=by
 obtain ⟨Y',hy,he,hx,h⟩:=h
 exact ⟨Y',nv,cv,hy,he,hx,h⟩
theorem yg_g {Y : YA} {m : ld} {L R : List SL.HP} {w : World} {P : SL.HP} (H : own w (yL Y m (P::(L++R)))) : own w (L++yL Y m (P::R)):=by
 have h:=lp (shL Y.bs Y.A m.F++(yT Y m++[P])) L (R:=R) (by simpa only [zp,List.cons_append,List.nil_append] using H)
 simpa only [zp,List.cons_append,List.nil_append] using h
theorem yg_y {Y : YA} {m : ld} {L R : List SL.HP} {w : World} {P : SL.HP} (H : own w (L++yL Y m (P::R))) : own w (yL Y m (P::(L++R))):=by
 have h:=lp L (shL Y.bs Y.A m.F++(yT Y m++[P])) (R:=R) (by simpa only [zp,List.cons_append,List.nil_append] using H)
 simpa only [zp,List.cons_append,List.nil_append] using h
theorem NP (Y : YA) (m : ld) (N : Nat) (hm : ly N m) (hN : N + 2000 < 890000) (x : Act) (v gv : Value) (R : List SL.HP) (w : World) (H : own w (yL Y m R)) (k0 : ¬(x.kind.toList == [119,114,105,116,101]) = true) (k1 : ¬(x.kind.toList == [119,105,112,101]) = true) (k2 : ¬(x.kind.toList == [102,108,117,115,104]) = true) (k3 : (x.kind.toList == [98,108,97,110,107]) = true) :
  Calls Tryz.prog 41 #[.pointer (some ⟨Y.y,0,none⟩),gv,.agg #[.string x.kind,.int .i64 x.A,.int .i64 x.B,.int .i64 x.C,.int .i64 x.D,.string x.S,v]] w (Bf Y (l9 m x.A (-1)).2 R w):=by
 have h0:=oW (lf H (.cells #[.string x.kind,.int .i64 x.A,.int .i64 x.B,.int .i64 x.C,.int .i64 x.D,.string x.S,v] 45))
 have hxa:=(zR w).alloc (.cells #[.string x.kind,.int .i64 x.A,.int .i64 x.B,.int .i64 x.C,.int .i64 x.D,.string x.S,v] 45)
 have HP:=zh (fun (R' : List SL.HP) w' h=>LN N Y m hm.ok (by omega) x.A R' w' h)
 unfold yt at HP
 generalize l9 m x.A (-1) = S at *
 obtain ⟨f,m2⟩:=S
 dsimp only at HP ⊢
 clear H hm hN
 go_enter Tryz.func41,Tryz.ntmps41
 go_upto_region 1 with (fail)
 generalize w.heap.size = ba at *
 generalize w.alloc (.cells #[.string x.kind,.int .i64 x.A,.int .i64 x.B,.int .i64 x.C,.int .i64 x.D,.string x.S,v] 45) = wa at *
 have c0:=(la 15 h0 rfl).1 0
 have c1:=(la 15 h0 rfl).1 1
 go_wp2_with fail
 refine (HP.out _ _ h0).mono ?_
 rintro e w4 ⟨Y',hy,rfl,hx4,h4⟩
 go_wp2_with fail
 go_end0
 exact ⟨Y',hy,rfl,hxa.trans hx4,le 15 h4 rfl⟩
theorem OY (Y : YA) (m : ld) (N : Nat) (hm : ly N m) (hN : N + 2000 < 890000) (x : Act) (v gv : Value) (R : List SL.HP) (w : World) (H : own w (yL Y m R)) (k0 : ¬(x.kind.toList == [119,114,105,116,101]) = true) (k1 : ¬(x.kind.toList == [119,105,112,101]) = true) (k2 : ¬(x.kind.toList == [102,108,117,115,104]) = true) (k3 : ¬(x.kind.toList == [98,108,97,110,107]) = true) (k4 : (x.kind.toList == [115,110,97,112]) = true) :
  Calls Tryz.prog 41 #[.pointer (some ⟨Y.y,0,none⟩),gv,.agg #[.string x.kind,.int .i64 x.A,.int .i64 x.B,.int .i64 x.C,.int .i64 x.D,.string x.S,v]] w (Bf Y (Br m x.A).2 R w):=by
 have h0:=oW (lf H (.cells #[.string x.kind,.int .i64 x.A,.int .i64 x.B,.int .i64 x.C,.int .i64 x.D,.string x.S,v] 45))
 have hxa:=(zR w).alloc (.cells #[.string x.kind,.int .i64 x.A,.int .i64 x.B,.int .i64 x.C,.int .i64 x.D,.string x.S,v] 45)
 have HP:=zh (fun (R' : List SL.HP) w' h=>M9 N Y m hm.ok (by omega) x.A R' w' h)
 unfold yt at HP
 generalize Br m x.A = S at *
 obtain ⟨f,m2⟩:=S
 dsimp only at HP ⊢
 clear H hm hN
 go_enter Tryz.func41,Tryz.ntmps41
 go_upto_region 1 with (fail)
 generalize w.heap.size = ba at *
 generalize w.alloc (.cells #[.string x.kind,.int .i64 x.A,.int .i64 x.B,.int .i64 x.C,.int .i64 x.D,.string x.S,v] 45) = wa at *
 have c0:=(la 15 h0 rfl).1 0
 have c1:=(la 15 h0 rfl).1 1
 go_wp2_with fail
 refine (HP.out _ _ h0).mono ?_
 rintro e w4 ⟨Y',hy,rfl,hx4,h4⟩
 go_wp2_with fail
 go_end0
 exact ⟨Y',hy,rfl,hxa.trans hx4,le 15 h4 rfl⟩
theorem Mt (Y : YA) (m : ld) (N : Nat) (hm : ly N m) (hN : N + 2000 < 890000) (x : Act) (v gv : Value) (R : List SL.HP) (w : World) (H : own w (yL Y m R)) (k0 : ¬(x.kind.toList == [119,114,105,116,101]) = true) (k1 : ¬(x.kind.toList == [119,105,112,101]) = true) (k2 : ¬(x.kind.toList == [102,108,117,115,104]) = true) (k3 : ¬(x.kind.toList == [98,108,97,110,107]) = true) (k4 : ¬(x.kind.toList == [115,110,97,112]) = true) (k5 : (x.kind.toList == [115,116,97,114,116]) = true) :
  Calls Tryz.prog 41 #[.pointer (some ⟨Y.y,0,none⟩),gv,.agg #[.string x.kind,.int .i64 x.A,.int .i64 x.B,.int .i64 x.C,.int .i64 x.D,.string x.S,v]] w (Bf Y (AB m x.A x.B x.C x.D).2 R w):=by
 have h0:=oW (lf H (.cells #[.string x.kind,.int .i64 x.A,.int .i64 x.B,.int .i64 x.C,.int .i64 x.D,.string x.S,v] 45))
 have hxa:=(zR w).alloc (.cells #[.string x.kind,.int .i64 x.A,.int .i64 x.B,.int .i64 x.C,.int .i64 x.D,.string x.S,v] 45)
 have HP:=zh (fun (R' : List SL.HP) w' h=>L3 N Y m hm.ok (by omega) x.A x.B x.C x.D R' w' h)
 unfold yt at HP
 generalize AB m x.A x.B x.C x.D = S at *
 obtain ⟨f,m2⟩:=S
 dsimp only at HP ⊢
 clear H hm hN
 go_enter Tryz.func41,Tryz.ntmps41
 go_upto_region 1 with (fail)
 generalize w.heap.size = ba at *
 generalize w.alloc (.cells #[.string x.kind,.int .i64 x.A,.int .i64 x.B,.int .i64 x.C,.int .i64 x.D,.string x.S,v] 45) = wa at *
 have c0:=(la 15 h0 rfl).1 0
 have c1:=(la 15 h0 rfl).1 1
 have c2:=(la 15 h0 rfl).1 2
 have c3:=(la 15 h0 rfl).1 3
 have c4:=(la 15 h0 rfl).1 4
 go_wp2_with fail
 refine (HP.out _ _ h0).mono ?_
 rintro e w4 ⟨Y',hy,rfl,hx4,h4⟩
 go_wp2_with fail
 go_end0
 exact ⟨Y',hy,rfl,hxa.trans hx4,le 15 h4 rfl⟩
theorem MS (Y : YA) (m : ld) (N : Nat) (hm : ly N m) (hN : N + 2000 < 890000) (x : Act) (v gv : Value) (R : List SL.HP) (w : World) (H : own w (yL Y m R)) (k0 : ¬(x.kind.toList == [119,114,105,116,101]) = true) (k1 : ¬(x.kind.toList == [119,105,112,101]) = true) (k2 : ¬(x.kind.toList == [102,108,117,115,104]) = true) (k3 : ¬(x.kind.toList == [98,108,97,110,107]) = true) (k4 : ¬(x.kind.toList == [115,110,97,112]) = true) (k5 : ¬(x.kind.toList == [115,116,97,114,116]) = true) (k6 : (x.kind.toList == [112,105,118,111,116]) = true) :
  Calls Tryz.prog 41 #[.pointer (some ⟨Y.y,0,none⟩),gv,.agg #[.string x.kind,.int .i64 x.A,.int .i64 x.B,.int .i64 x.C,.int .i64 x.D,.string x.S,v]] w (Bf Y (Au m).2 R w):=by
 have h0:=oW (lf H (.cells #[.string x.kind,.int .i64 x.A,.int .i64 x.B,.int .i64 x.C,.int .i64 x.D,.string x.S,v] 45))
 have hxa:=(zR w).alloc (.cells #[.string x.kind,.int .i64 x.A,.int .i64 x.B,.int .i64 x.C,.int .i64 x.D,.string x.S,v] 45)
 have HP:=zh (fun (R' : List SL.HP) w' h=>Lm N Y m hm.ok (by omega) R' w' h)
 unfold yt at HP
 generalize Au m = S at *
 obtain ⟨f,m2⟩:=S
 dsimp only at HP ⊢
 clear H hm hN
 go_enter Tryz.func41,Tryz.ntmps41
 go_upto_region 1 with (fail)
 generalize w.heap.size = ba at *
 generalize w.alloc (.cells #[.string x.kind,.int .i64 x.A,.int .i64 x.B,.int .i64 x.C,.int .i64 x.D,.string x.S,v] 45) = wa at *
 have c0:=(la 15 h0 rfl).1 0
 go_wp2_with fail
 refine (HP.out _ _ h0).mono ?_
 rintro e w4 ⟨Y',hy,rfl,hx4,h4⟩
 go_wp2_with fail
 go_end0
 exact ⟨Y',hy,rfl,hxa.trans hx4,le 15 h4 rfl⟩
theorem Lz (Y : YA) (m : ld) (N : Nat) (hm : ly N m) (hN : N + 2000 < 890000) (x : Act) (v gv : Value) (R : List SL.HP) (w : World) (H : own w (yL Y m R)) (k0 : ¬(x.kind.toList == [119,114,105,116,101]) = true) (k1 : ¬(x.kind.toList == [119,105,112,101]) = true) (k2 : ¬(x.kind.toList == [102,108,117,115,104]) = true) (k3 : ¬(x.kind.toList == [98,108,97,110,107]) = true) (k4 : ¬(x.kind.toList == [115,110,97,112]) = true) (k5 : ¬(x.kind.toList == [115,116,97,114,116]) = true) (k6 : ¬(x.kind.toList == [112,105,118,111,116]) = true) (k7 : (x.kind.toList == [99,97,110,99,101,108]) = true) :
  Calls Tryz.prog 41 #[.pointer (some ⟨Y.y,0,none⟩),gv,.agg #[.string x.kind,.int .i64 x.A,.int .i64 x.B,.int .i64 x.C,.int .i64 x.D,.string x.S,v]] w (Bf Y (zP m).2 R w):=by
 have h0:=oW (lf H (.cells #[.string x.kind,.int .i64 x.A,.int .i64 x.B,.int .i64 x.C,.int .i64 x.D,.string x.S,v] 45))
 have hxa:=(zR w).alloc (.cells #[.string x.kind,.int .i64 x.A,.int .i64 x.B,.int .i64 x.C,.int .i64 x.D,.string x.S,v] 45)
 have HP:=zh (fun (R' : List SL.HP) w' h=>KO N Y m hm.ok (by omega) R' w' h)
 unfold yt at HP
 generalize zP m = S at *
 obtain ⟨f,m2⟩:=S
 dsimp only at HP ⊢
 clear H hm hN
 go_enter Tryz.func41,Tryz.ntmps41
 go_upto_region 1 with (fail)
 generalize w.heap.size = ba at *
 generalize w.alloc (.cells #[.string x.kind,.int .i64 x.A,.int .i64 x.B,.int .i64 x.C,.int .i64 x.D,.string x.S,v] 45) = wa at *
 have c0:=(la 15 h0 rfl).1 0
 go_wp2_with fail
 refine (HP.out _ _ h0).mono ?_
 rintro e w4 ⟨Y',hy,rfl,hx4,h4⟩
 go_wp2_with fail
 go_end0
 exact ⟨Y',hy,rfl,hxa.trans hx4,le 15 h4 rfl⟩
theorem NW (Y : YA) (m : ld) (N : Nat) (hm : ly N m) (hN : N + 2000 < 890000) (x : Act) (v gv : Value) (R : List SL.HP) (w : World) (H : own w (yL Y m R)) (k0 : ¬(x.kind.toList == [119,114,105,116,101]) = true) (k1 : ¬(x.kind.toList == [119,105,112,101]) = true) (k2 : ¬(x.kind.toList == [102,108,117,115,104]) = true) (k3 : ¬(x.kind.toList == [98,108,97,110,107]) = true) (k4 : ¬(x.kind.toList == [115,110,97,112]) = true) (k5 : ¬(x.kind.toList == [115,116,97,114,116]) = true) (k6 : ¬(x.kind.toList == [112,105,118,111,116]) = true) (k7 : ¬(x.kind.toList == [99,97,110,99,101,108]) = true) (k8 : (x.kind.toList == [112,97,117,115,101]) = true) :
  Calls Tryz.prog 41 #[.pointer (some ⟨Y.y,0,none⟩),gv,.agg #[.string x.kind,.int .i64 x.A,.int .i64 x.B,.int .i64 x.C,.int .i64 x.D,.string x.S,v]] w (Bf Y (zN m (decide (0 < x.A))).2 R w):=by
 have h0:=oW (lf H (.cells #[.string x.kind,.int .i64 x.A,.int .i64 x.B,.int .i64 x.C,.int .i64 x.D,.string x.S,v] 45))
 have hxa:=(zR w).alloc (.cells #[.string x.kind,.int .i64 x.A,.int .i64 x.B,.int .i64 x.C,.int .i64 x.D,.string x.S,v] 45)
 have HP:=zh (fun (R' : List SL.HP) w' h=>Ls Y m hm.ok.jok (decide (0 < x.A)) R' w' h)
 unfold yt at HP
 generalize zN m (decide (0 < x.A)) = S at *
 obtain ⟨f,m2⟩:=S
 dsimp only at HP ⊢
 clear H hm hN
 go_enter Tryz.func41,Tryz.ntmps41
 go_upto_region 1 with (fail)
 generalize w.heap.size = ba at *
 generalize w.alloc (.cells #[.string x.kind,.int .i64 x.A,.int .i64 x.B,.int .i64 x.C,.int .i64 x.D,.string x.S,v] 45) = wa at *
 have c0:=(la 15 h0 rfl).1 0
 have c1:=(la 15 h0 rfl).1 1
 go_wp2_with fail
 refine (HP.out _ _ h0).mono ?_
 rintro e w4 ⟨Y',hy,rfl,hx4,h4⟩
 go_wp2_with fail
 go_end0
 exact ⟨Y',hy,rfl,hxa.trans hx4,le 15 h4 rfl⟩
theorem N6 (Y : YA) (m : ld) (N : Nat) (hm : ly N m) (hN : N + 2000 < 890000) (x : Act) (v gv : Value) (R : List SL.HP) (w : World) (H : own w (yL Y m R)) (k0 : ¬(x.kind.toList == [119,114,105,116,101]) = true) (k1 : ¬(x.kind.toList == [119,105,112,101]) = true) (k2 : ¬(x.kind.toList == [102,108,117,115,104]) = true) (k3 : ¬(x.kind.toList == [98,108,97,110,107]) = true) (k4 : ¬(x.kind.toList == [115,110,97,112]) = true) (k5 : ¬(x.kind.toList == [115,116,97,114,116]) = true) (k6 : ¬(x.kind.toList == [112,105,118,111,116]) = true) (k7 : ¬(x.kind.toList == [99,97,110,99,101,108]) = true) (k8 : ¬(x.kind.toList == [112,97,117,115,101]) = true) (k9 : (x.kind.toList == [116,105,99,107]) = true) :
  Calls Tryz.prog 41 #[.pointer (some ⟨Y.y,0,none⟩),gv,.agg #[.string x.kind,.int .i64 x.A,.int .i64 x.B,.int .i64 x.C,.int .i64 x.D,.string x.S,v]] w (Bf Y (Az m x.A).2 R w):=by
 have h0:=oW (lf H (.cells #[.string x.kind,.int .i64 x.A,.int .i64 x.B,.int .i64 x.C,.int .i64 x.D,.string x.S,v] 45))
 have hxa:=(zR w).alloc (.cells #[.string x.kind,.int .i64 x.A,.int .i64 x.B,.int .i64 x.C,.int .i64 x.D,.string x.S,v] 45)
 have HP:=zh (fun (R' : List SL.HP) w' h=>Nm Y m hm.ok.jok x.A R' w' h)
 unfold yt at HP
 generalize Az m x.A = S at *
 obtain ⟨f,m2⟩:=S
 dsimp only at HP ⊢
 clear H hm hN
 go_enter Tryz.func41,Tryz.ntmps41
 go_upto_region 1 with (fail)
 generalize w.heap.size = ba at *
 generalize w.alloc (.cells #[.string x.kind,.int .i64 x.A,.int .i64 x.B,.int .i64 x.C,.int .i64 x.D,.string x.S,v] 45) = wa at *
 have c0:=(la 15 h0 rfl).1 0
 have c1:=(la 15 h0 rfl).1 1
 go_wp2_with fail
 refine (HP.out _ _ h0).mono ?_
 rintro e w4 ⟨Y',hy,rfl,hx4,h4⟩
 go_wp2_with fail
 go_end0
 exact ⟨Y',hy,rfl,hxa.trans hx4,le 15 h4 rfl⟩
theorem Ou (Y : YA) (m : ld) (N : Nat) (hm : ly N m) (hN : N + 2000 < 890000) (x : Act) (v gv : Value) (R : List SL.HP) (w : World) (H : own w (yL Y m R)) (k0 : ¬(x.kind.toList == [119,114,105,116,101]) = true) (k1 : ¬(x.kind.toList == [119,105,112,101]) = true) (k2 : ¬(x.kind.toList == [102,108,117,115,104]) = true) (k3 : ¬(x.kind.toList == [98,108,97,110,107]) = true) (k4 : ¬(x.kind.toList == [115,110,97,112]) = true) (k5 : ¬(x.kind.toList == [115,116,97,114,116]) = true) (k6 : ¬(x.kind.toList == [112,105,118,111,116]) = true) (k7 : ¬(x.kind.toList == [99,97,110,99,101,108]) = true) (k8 : ¬(x.kind.toList == [112,97,117,115,101]) = true) (k9 : ¬(x.kind.toList == [116,105,99,107]) = true) (k10 : (x.kind.toList == [102,97,105,108]) = true) :
  Calls Tryz.prog 41 #[.pointer (some ⟨Y.y,0,none⟩),gv,.agg #[.string x.kind,.int .i64 x.A,.int .i64 x.B,.int .i64 x.C,.int .i64 x.D,.string x.S,v]] w (Bf Y (armM m x.A x.B).2 R w):=by
 have h0:=oW (lf H (.cells #[.string x.kind,.int .i64 x.A,.int .i64 x.B,.int .i64 x.C,.int .i64 x.D,.string x.S,v] 45))
 have hxa:=(zR w).alloc (.cells #[.string x.kind,.int .i64 x.A,.int .i64 x.B,.int .i64 x.C,.int .i64 x.D,.string x.S,v] 45)
 have HP:=zh (fun (R' : List SL.HP) w' h=>MZ Y m x.A x.B R' w' h)
 unfold yt at HP
 generalize armM m x.A x.B = S at *
 obtain ⟨f,m2⟩:=S
 dsimp only at HP ⊢
 clear H hm hN
 go_enter Tryz.func41,Tryz.ntmps41
 go_upto_region 1 with (fail)
 generalize w.heap.size = ba at *
 generalize w.alloc (.cells #[.string x.kind,.int .i64 x.A,.int .i64 x.B,.int .i64 x.C,.int .i64 x.D,.string x.S,v] 45) = wa at *
 have c0:=(la 15 h0 rfl).1 0
 have c1:=(la 15 h0 rfl).1 1
 have c2:=(la 15 h0 rfl).1 2
 go_wp2_with fail
 refine (HP.out _ _ h0).mono ?_
 rintro e w4 ⟨Y',hy,rfl,hx4,h4⟩
 go_wp2_with fail
 go_end0
 exact ⟨Y',hy,rfl,hxa.trans hx4,le 15 h4 rfl⟩
theorem OZ (Y : YA) (m : ld) (N : Nat) (hm : ly N m) (hN : N + 2000 < 890000) (x : Act) (v gv : Value) (R : List SL.HP) (hT : ∀w' L,own w' (L++R) -> Ac w') (w : World) (H : own w (yL Y m R)) (k0 : ¬(x.kind.toList == [119,114,105,116,101]) = true) (k1 : ¬(x.kind.toList == [119,105,112,101]) = true) (k2 : ¬(x.kind.toList == [102,108,117,115,104]) = true) (k3 : ¬(x.kind.toList == [98,108,97,110,107]) = true) (k4 : ¬(x.kind.toList == [115,110,97,112]) = true) (k5 : ¬(x.kind.toList == [115,116,97,114,116]) = true) (k6 : ¬(x.kind.toList == [112,105,118,111,116]) = true) (k7 : ¬(x.kind.toList == [99,97,110,99,101,108]) = true) (k8 : ¬(x.kind.toList == [112,97,117,115,101]) = true) (k9 : ¬(x.kind.toList == [116,105,99,107]) = true) (k10 : ¬(x.kind.toList == [102,97,105,108]) = true) :
  Calls Tryz.prog 41 #[.pointer (some ⟨Y.y,0,none⟩),gv,.agg #[.string x.kind,.int .i64 x.A,.int .i64 x.B,.int .i64 x.C,.int .i64 x.D,.string x.S,v]] w (Bf Y (AD m).2 R w):=by
 have h0:=oW (lf H (.cells #[.string x.kind,.int .i64 x.A,.int .i64 x.B,.int .i64 x.C,.int .i64 x.D,.string x.S,v] 45))
 have hxa:=(zR w).alloc (.cells #[.string x.kind,.int .i64 x.A,.int .i64 x.B,.int .i64 x.C,.int .i64 x.D,.string x.S,v] 45)
 have HP:=zh (fun (P : SL.HP) w' h=>NK N Y m hm.ok (by omega) (hm.linkOk (by omega)) ([P]++R) (Iw hT [P]) w' h)
 unfold Mu at HP
 generalize AD m = S at *
 obtain ⟨⟨did,f⟩,m2⟩:=S
 dsimp only at HP ⊢
 clear hT
 clear H hm hN
 go_enter Tryz.func41,Tryz.ntmps41
 go_upto_region 1 with (fail)
 generalize w.heap.size = ba at *
 generalize w.alloc (.cells #[.string x.kind,.int .i64 x.A,.int .i64 x.B,.int .i64 x.C,.int .i64 x.D,.string x.S,v] 45) = wa at *
 have c0:=(la 15 h0 rfl).1 0
 go_wp2_with fail
 refine (HP.out _ _ h0).mono ?_
 rintro e w4 ⟨Y',hy,rfl,hx4,h4⟩
 go_wp2_with fail
 go_end0
 exact ⟨Y',hy,rfl,hxa.trans hx4,le 15 h4 rfl⟩
theorem My (Y : YA) (m : ld) (N : Nat) (hm : ly N m) (hN : N + 2000 < 890000) (x : Act) (v gv : Value) (R : List SL.HP) (gb : Nat) (vn vc : Value) (nv cv : Nat -> Value) (g : lM) (hgv : gv = .pointer (some ⟨gb,0,none⟩)) (hc : g.cr.length = g.now.length) (hn : g.now.length <= 1000) (B : Nat) (hB : LsOk g B) (hB2 : B <= 100000) (w : World) (H : own w (yL Y m (gL gb vn vc nv cv g++R))) (k0 : ¬(x.kind.toList == [119,114,105,116,101]) = true) (k1 : ¬(x.kind.toList == [119,105,112,101]) = true) (k2 : (x.kind.toList == [102,108,117,115,104]) = true) :
  Calls Tryz.prog 41 #[.pointer (some ⟨Y.y,0,none⟩),gv,.agg #[.string x.kind,.int .i64 x.A,.int .i64 x.B,.int .i64 x.C,.int .i64 x.D,.string x.S,v]] w (Ey Y gb vn vc (Bk m) (AV g) R w):=by
 have h0:=oW (lf H (.cells #[.string x.kind,.int .i64 x.A,.int .i64 x.B,.int .i64 x.C,.int .i64 x.D,.string x.S,v] 45))
 have hxa:=(zR w).alloc (.cells #[.string x.kind,.int .i64 x.A,.int .i64 x.B,.int .i64 x.C,.int .i64 x.D,.string x.S,v] 45)
 subst hgv
 have HP:=zh (fun (R' : List SL.HP) w' h=>Md N Y m hm.ok (by omega) R' w' h)
 have HG:=zh (fun (R' : List SL.HP) w' h=>J8 gb vn vc nv cv g hc hn hB hB2 R' w' h)
 generalize Bk m = m2 at *
 generalize AV g = g2 at *
 clear hc hn hB hB2
 clear H hm hN
 go_enter Tryz.func41,Tryz.ntmps41
 go_upto_region 1 with (fail)
 generalize w.heap.size = ba at *
 generalize w.alloc (.cells #[.string x.kind,.int .i64 x.A,.int .i64 x.B,.int .i64 x.C,.int .i64 x.D,.string x.S,v] 45) = wa at *
 have c0:=(la 15 h0 rfl).1 0
 go_wp2_with fail
 refine (HP.out _ _ h0).mono ?_
 rintro e w4 ⟨rfl,hx4,h4⟩
 go_wp2_with fail
 refine (HG.out _ _ (yg_g h4)).mono ?_
 rintro e w5 ⟨cv5,rfl,hx5,h5⟩
 go_wp2_with fail
 go_end0
 exact ⟨Y,nv,cv5,rfl,rfl,(hxa.trans hx4).trans hx5,le 15 (yg_y h5) rfl⟩
theorem MW (Y : YA) (m : ld) (N : Nat) (hm : ly N m) (hN : N + 2000 < 890000) (x : Act) (v gv : Value) (R : List SL.HP) (gb : Nat) (vn vc : Value) (nv cv : Nat -> Value) (g : lM) (hgv : gv = .pointer (some ⟨gb,0,none⟩)) (hc : g.cr.length = g.now.length) (hn : g.now.length <= 1000) (B : Nat) (hB : LsOk g B) (hB2 : B <= 100000) (hA : oG x.A) (hS : x.S.size <= 700) (hwr : (oI m x.A x.S).1≠1 -> 0 <= x.A /\ x.A + ((x.S.size / 16 : Nat) : Int) <= (g.now.length : Int) /\ x.S.size % 16 = 0) (hcd : 0 <= (oI m x.A x.S).1) (w : World) (H : own w (yL Y m (gL gb vn vc nv cv g++R))) (k0 : (x.kind.toList == [119,114,105,116,101]) = true) :
  Calls Tryz.prog 41 #[.pointer (some ⟨Y.y,0,none⟩),gv,.agg #[.string x.kind,.int .i64 x.A,.int .i64 x.B,.int .i64 x.C,.int .i64 x.D,.string x.S,v]] w (Ey Y gb vn vc (oI m x.A x.S).2 (if (oI m x.A x.S).1 = 1 then g else zj g x.A.toNat x.S (decide ((oI m x.A x.S).1 = 0))) R w):=by
 have h0:=oW (lf H (.cells #[.string x.kind,.int .i64 x.A,.int .i64 x.B,.int .i64 x.C,.int .i64 x.D,.string x.S,v] 45))
 have hxa:=(zR w).alloc (.cells #[.string x.kind,.int .i64 x.A,.int .i64 x.B,.int .i64 x.C,.int .i64 x.D,.string x.S,v] 45)
 subst hgv
 have HP:=zh (fun (R' : List SL.HP) w' h=>PP N Y m hm.ok (by omega) x.A hA x.S (by omega) R' w' h)
 have HG:=(fun (h1 : (oI m x.A x.S).1≠1)=>fun (R' : List SL.HP) w' h=>by have h2:=Ir gb vn vc nv cv g x.A.toNat x.S (decide ((oI m x.A x.S).1 = 0)) (hwr h1).2.2 (by omega) (by have:=hwr h1; omega) hc hn hB hB2 R' w' h; rw [Int.toNat_of_nonneg (hwr h1).1] at h2; exact h2)
 unfold yt at HP
 generalize oI m x.A x.S = S at *
 obtain ⟨f,m2⟩:=S
 dsimp only at HP HG hcd ⊢
 clear hc hn hB hB2 hwr hA hS hm hN
 generalize hg2 : (if f = 1 then g else zj g x.A.toNat x.S (decide (f = 0))) = g2
 have HIS:=zh (fun w=>NH f 1 w hcd)
 by_cases h1 : f = 1
 ·rw [zt h1] at hg2
  have HG2:=zh hg2
  subst h1
  rw [lu (by decide)] at HIS HP
  rw [zg rfl] at HIS
  clear hcd HG hg2
  clear H
  go_enter Tryz.func41,Tryz.ntmps41
  go_upto_region 1 with (fail)
  generalize w.heap.size = ba at *
  generalize w.alloc (.cells #[.string x.kind,.int .i64 x.A,.int .i64 x.B,.int .i64 x.C,.int .i64 x.D,.string x.S,v] 45) = wa at *
  have c0:=(la 15 h0 rfl).1 0
  have c1:=(la 15 h0 rfl).1 1
  have c5:=(la 15 h0 rfl).1 5
  go_wp2_with fail
  refine (HP.out _ _ h0).mono ?_
  rintro e w4 ⟨Y',hy,rfl,hx4,h4⟩
  have h5:=yg_g h4
  clear h0
  go_wp2_with fail
  refine (HIS.out _).mono ?_
  rintro e w5 ⟨rfl,rfl⟩
  go_wp2_with fail
  go_end0
  exact ⟨Y',nv,cv,hy,rfl,hxa.trans hx4,by rw [<- HG2.out]; exact le 15 h4 rfl⟩
 rw [zq h1] at hg2
 rw [zf h1] at HIS
 have HG:=HG h1
 rw [hg2] at HG
 have HGW:=zh HG
 clear HG
 by_cases hf : f = 0
 ·subst hf
  rw [lR] at HIS HP
  rw [zg rfl] at HGW
  clear hcd hg2 h1
  clear H
  go_enter Tryz.func41,Tryz.ntmps41
  go_upto_region 1 with (fail)
  generalize w.heap.size = ba at *
  generalize w.alloc (.cells #[.string x.kind,.int .i64 x.A,.int .i64 x.B,.int .i64 x.C,.int .i64 x.D,.string x.S,v] 45) = wa at *
  have c0:=(la 15 h0 rfl).1 0
  have c1:=(la 15 h0 rfl).1 1
  have c5:=(la 15 h0 rfl).1 5
  go_wp2_with fail
  refine (HP.out _ _ h0).mono ?_
  rintro e w4 ⟨Y',hy,rfl,hx4,h4⟩
  have h5:=yg_g h4
  clear h0
  go_wp2_with fail
  refine (HIS.out _).mono ?_
  rintro e w5 ⟨rfl,rfl⟩
  go_upto_region 6 with (fail)
  have h6:=lh h5
  refine wp_region_held_drew (S:=fun w'=>w'.cell? ⟨ba,1,none⟩ = some (.int .i64 x.A) /\ w'.cell? ⟨ba,5,none⟩ = some (.string x.S)) (by kernel_rfl) ⟨(la 15 (lh h4) rfl).1 1,(la 15 (lh h4) rfl).1 5⟩ (fun hHeld=>?_)
  refine tk 0 ?_
  refine tk 1 ?_
  refine tk 2 ?_
  refine tk 3 ?_
  refine tk 4 ?_
  refine tk 5 ?_
  refine tk 6 ?_
  try simp only [Act.put,tA,tB,tC,tD,tE,tF]
  refine rd 7 rfl fun K hK=>?_
  go_simp
  go_at_call 140
  refine (HGW.out _ _ h6).mono ?_
  rintro e w7 ⟨nv7,cv7,rfl,hx7,h7⟩
  have h8:=yg_y h7
  refine hK.out _ _ ⟨(la 15 h8 rfl).1 1,(la 15 h8 rfl).1 5⟩ (fun _=>?_)
  clear hK K h6
  try simp only [Act.put,tA,tB,tC,tD,tE,tF]
  refine wpAnyH_done (by kernel_rfl) ?_ _
  go_wp2_with fail
  go_end0
  exact ⟨Y',nv7,cv7,hy,rfl,(hxa.trans hx4).drew.trans hx7,le 15 h8 rfl⟩
 ·have hp : 0 < f:=by omega
  rw [lu hp] at HIS HP
  rw [zf hf] at HGW
  clear hcd hg2 h1 hp hf
  clear H
  go_enter Tryz.func41,Tryz.ntmps41
  go_upto_region 1 with (fail)
  generalize w.heap.size = ba at *
  generalize w.alloc (.cells #[.string x.kind,.int .i64 x.A,.int .i64 x.B,.int .i64 x.C,.int .i64 x.D,.string x.S,v] 45) = wa at *
  have c0:=(la 15 h0 rfl).1 0
  have c1:=(la 15 h0 rfl).1 1
  have c5:=(la 15 h0 rfl).1 5
  go_wp2_with fail
  refine (HP.out _ _ h0).mono ?_
  rintro e w4 ⟨Y',hy,rfl,hx4,h4⟩
  have h5:=yg_g h4
  clear h0
  go_wp2_with fail
  refine (HIS.out _).mono ?_
  rintro e w5 ⟨rfl,rfl⟩
  go_upto_region 6 with (fail)
  have h6:=lh h5
  refine wp_region_held_drew (S:=fun w'=>w'.cell? ⟨ba,1,none⟩ = some (.int .i64 x.A) /\ w'.cell? ⟨ba,5,none⟩ = some (.string x.S)) (by kernel_rfl) ⟨(la 15 (lh h4) rfl).1 1,(la 15 (lh h4) rfl).1 5⟩ (fun hHeld=>?_)
  refine tk 0 ?_
  refine tk 1 ?_
  refine tk 2 ?_
  refine tk 3 ?_
  refine tk 4 ?_
  refine tk 5 ?_
  refine tk 6 ?_
  try simp only [Act.put,tA,tB,tC,tD,tE,tF]
  refine rd 7 rfl fun K hK=>?_
  go_simp
  go_at_call 140
  refine (HGW.out _ _ h6).mono ?_
  rintro e w7 ⟨nv7,cv7,rfl,hx7,h7⟩
  have h8:=yg_y h7
  refine hK.out _ _ ⟨(la 15 h8 rfl).1 1,(la 15 h8 rfl).1 5⟩ (fun _=>?_)
  clear hK K h6
  try simp only [Act.put,tA,tB,tC,tD,tE,tF]
  refine wpAnyH_done (by kernel_rfl) ?_ _
  go_wp2_with fail
  go_end0
  exact ⟨Y',nv7,cv7,hy,rfl,(hxa.trans hx4).drew.trans hx7,le 15 h8 rfl⟩
theorem Ob (Y : YA) (m : ld) (N : Nat) (hm : ly N m) (hN : N + 2000 < 890000) (x : Act) (v gv : Value) (R : List SL.HP) (gb : Nat) (vn vc : Value) (nv cv : Nat -> Value) (g : lM) (hgv : gv = .pointer (some ⟨gb,0,none⟩)) (hc : g.cr.length = g.now.length) (hn : g.now.length <= 1000) (B : Nat) (hB : LsOk g B) (hB2 : B <= 100000) (hA : oG x.A) (hBi : oG x.B) (hwr : (oE m x.A x.B).1≠1 -> 0 <= x.A /\ x.A + ((x.B.toNat : Nat) : Int) <= (g.now.length : Int) /\ 0 <= x.B /\ x.B <= 200) (hcd : 0 <= (oE m x.A x.B).1) (w : World) (H : own w (yL Y m (gL gb vn vc nv cv g++R))) (k0 : ¬(x.kind.toList == [119,114,105,116,101]) = true) (k1 : (x.kind.toList == [119,105,112,101]) = true) :
  Calls Tryz.prog 41 #[.pointer (some ⟨Y.y,0,none⟩),gv,.agg #[.string x.kind,.int .i64 x.A,.int .i64 x.B,.int .i64 x.C,.int .i64 x.D,.string x.S,v]] w (Ey Y gb vn vc (oE m x.A x.B).2 (if (oE m x.A x.B).1 = 1 then g else zj g x.A.toNat (zs (16 * x.B.toNat)) (decide ((oE m x.A x.B).1 = 0))) R w):=by
 have h0:=oW (lf H (.cells #[.string x.kind,.int .i64 x.A,.int .i64 x.B,.int .i64 x.C,.int .i64 x.D,.string x.S,v] 45))
 have hxa:=(zR w).alloc (.cells #[.string x.kind,.int .i64 x.A,.int .i64 x.B,.int .i64 x.C,.int .i64 x.D,.string x.S,v] 45)
 subst hgv
 have HP:=zh (fun (R' : List SL.HP) w' h=>Nr N Y m hm.ok (by omega) x.A x.B hA hBi R' w' h)
 have HG:=(fun (h1 : (oE m x.A x.B).1≠1)=>fun (R' : List SL.HP) w' h=>by have h2:=Ir gb vn vc nv cv g x.A.toNat (zs (16 * x.B.toNat)) (decide ((oE m x.A x.B).1 = 0)) (by rw [y7]; omega) (by rw [y7]; have:=hwr h1; omega) (by rw [y7]; have:=hwr h1; omega) hc hn hB hB2 R' w' h; rw [Int.toNat_of_nonneg (hwr h1).1] at h2; exact h2)
 have HNO:=(fun (h1 : (oE m x.A x.B).1≠1)=>zh (fun (R' : List SL.HP) w' h=>by have h2:=CH (16 * x.B.toNat) (by have:=hwr h1; omega) R' w' h; rw [show ((16 * x.B.toNat : Nat) : Int) = 16 * x.B from by have:=hwr h1; omega] at h2; exact h2))
 have e1:=(fun (h1 : (oE m x.A x.B).1≠1)=>show IntKind.i64.wrap (16 * x.B) = 16 * x.B by have:=hwr h1; exact zi _ (by omega))
 have m1:=fun (h1 : (oE m x.A x.B).1≠1)=>(hwr h1).2.2
 unfold yt at HP
 generalize oE m x.A x.B = S at *
 obtain ⟨f,m2⟩:=S
 dsimp only at HP HG hcd HNO e1 m1 ⊢
 clear hc hn hB hB2 hwr hA hBi hm hN
 generalize hg2 : (if f = 1 then g else zj g x.A.toNat (zs (16 * x.B.toNat)) (decide (f = 0))) = g2
 have HIS:=zh (fun w=>NH f 1 w hcd)
 by_cases h1 : f = 1
 ·rw [zt h1] at hg2
  have HG2:=zh hg2
  subst h1
  rw [lu (by decide)] at HIS HP
  rw [zg rfl] at HIS
  clear hcd HG hg2 HNO e1 m1
  clear H
  go_enter Tryz.func41,Tryz.ntmps41
  go_upto_region 1 with (fail)
  generalize w.heap.size = ba at *
  generalize w.alloc (.cells #[.string x.kind,.int .i64 x.A,.int .i64 x.B,.int .i64 x.C,.int .i64 x.D,.string x.S,v] 45) = wa at *
  have c0:=(la 15 h0 rfl).1 0
  have c1:=(la 15 h0 rfl).1 1
  have c2:=(la 15 h0 rfl).1 2
  go_wp2_with fail
  refine (HP.out _ _ h0).mono ?_
  rintro e w4 ⟨Y',hy,rfl,hx4,h4⟩
  have h5:=yg_g h4
  clear h0
  go_wp2_with fail
  refine (HIS.out _).mono ?_
  rintro e w5 ⟨rfl,rfl⟩
  go_wp2_with fail
  go_end0
  exact ⟨Y',nv,cv,hy,rfl,hxa.trans hx4,by rw [<- HG2.out]; exact le 15 h4 rfl⟩
 rw [zq h1] at hg2
 rw [zf h1] at HIS
 have HG:=HG h1
 have HNW:=HNO h1
 have ew:=e1 h1
 have mw:=m1 h1
 clear HNO e1 m1
 rw [hg2] at HG
 have HGW:=zh HG
 clear HG
 by_cases hf : f = 0
 ·subst hf
  rw [lR] at HIS HP
  rw [zg rfl] at HGW
  clear hcd hg2 h1
  clear H
  go_enter Tryz.func41,Tryz.ntmps41
  go_upto_region 1 with (fail)
  generalize w.heap.size = ba at *
  generalize w.alloc (.cells #[.string x.kind,.int .i64 x.A,.int .i64 x.B,.int .i64 x.C,.int .i64 x.D,.string x.S,v] 45) = wa at *
  have c0:=(la 15 h0 rfl).1 0
  have c1:=(la 15 h0 rfl).1 1
  have c2:=(la 15 h0 rfl).1 2
  go_wp2_with fail
  refine (HP.out _ _ h0).mono ?_
  rintro e w4 ⟨Y',hy,rfl,hx4,h4⟩
  have h5:=yg_g h4
  clear h0
  go_wp2_with fail
  refine (HIS.out _).mono ?_
  rintro e w5 ⟨rfl,rfl⟩
  go_upto_region 10 with (fail)
  have h6:=lh h5
  refine wp_region_held_drew (S:=fun w'=>w'.cell? ⟨ba,1,none⟩ = some (.int .i64 x.A) /\ w'.cell? ⟨ba,2,none⟩ = some (.int .i64 x.B)) (by kernel_rfl) ⟨(la 15 (lh h4) rfl).1 1,(la 15 (lh h4) rfl).1 2⟩ (fun hHeld=>?_)
  refine tk 0 ?_
  refine tk 1 ?_
  refine tk 2 ?_
  refine tk 3 ?_
  refine tk 4 ?_
  refine tk 5 ?_
  try simp only [Act.put,tA,tB,tC,tD,tE,tF]
  refine tk 7 ?_
  refine tk 8 ?_
  try simp only [Act.put,tA,tB,tC,tD,tE,tF]
  refine rd 6 rfl fun K hK=>?_
  go_simp
  go_at_call 92
  refine (HNW.out _ _ h6).mono ?_
  rintro e w6 ⟨rfl,hx6,h6'⟩
  refine hK.out _ _ ⟨(la 15 (yg_y h6') rfl).1 1,(la 15 (yg_y h6') rfl).1 2⟩ (fun _=>?_)
  clear hK K h6
  try simp only [Act.put,tA,tB,tC,tD,tE,tF]
  refine rd 9 rfl fun K hK=>?_
  go_simp
  go_at_call 140
  refine (HGW.out _ _ h6').mono ?_
  rintro e w7 ⟨nv7,cv7,rfl,hx7,h7⟩
  have h8:=yg_y h7
  refine hK.out _ _ ⟨(la 15 h8 rfl).1 1,(la 15 h8 rfl).1 2⟩ (fun _=>?_)
  clear hK K h6'
  try simp only [Act.put,tA,tB,tC,tD,tE,tF]
  refine wpAnyH_done (by kernel_rfl) ?_ _
  go_wp2_with fail
  go_end0
  exact ⟨Y',nv7,cv7,hy,rfl,((hxa.trans hx4).drew.trans hx6).trans hx7,le 15 h8 rfl⟩
 ·have hp : 0 < f:=by omega
  rw [lu hp] at HIS HP
  rw [zf hf] at HGW
  clear hcd hg2 h1 hp hf
  clear H
  go_enter Tryz.func41,Tryz.ntmps41
  go_upto_region 1 with (fail)
  generalize w.heap.size = ba at *
  generalize w.alloc (.cells #[.string x.kind,.int .i64 x.A,.int .i64 x.B,.int .i64 x.C,.int .i64 x.D,.string x.S,v] 45) = wa at *
  have c0:=(la 15 h0 rfl).1 0
  have c1:=(la 15 h0 rfl).1 1
  have c2:=(la 15 h0 rfl).1 2
  go_wp2_with fail
  refine (HP.out _ _ h0).mono ?_
  rintro e w4 ⟨Y',hy,rfl,hx4,h4⟩
  have h5:=yg_g h4
  clear h0
  go_wp2_with fail
  refine (HIS.out _).mono ?_
  rintro e w5 ⟨rfl,rfl⟩
  go_upto_region 10 with (fail)
  have h6:=lh h5
  refine wp_region_held_drew (S:=fun w'=>w'.cell? ⟨ba,1,none⟩ = some (.int .i64 x.A) /\ w'.cell? ⟨ba,2,none⟩ = some (.int .i64 x.B)) (by kernel_rfl) ⟨(la 15 (lh h4) rfl).1 1,(la 15 (lh h4) rfl).1 2⟩ (fun hHeld=>?_)
  refine tk 0 ?_
  refine tk 1 ?_
  refine tk 2 ?_
  refine tk 3 ?_
  refine tk 4 ?_
  refine tk 5 ?_
  try simp only [Act.put,tA,tB,tC,tD,tE,tF]
  refine tk 7 ?_
  refine tk 8 ?_
  try simp only [Act.put,tA,tB,tC,tD,tE,tF]
  refine rd 6 rfl fun K hK=>?_
  go_simp
  go_at_call 92
  refine (HNW.out _ _ h6).mono ?_
  rintro e w6 ⟨rfl,hx6,h6'⟩
  refine hK.out _ _ ⟨(la 15 (yg_y h6') rfl).1 1,(la 15 (yg_y h6') rfl).1 2⟩ (fun _=>?_)
  clear hK K h6
  try simp only [Act.put,tA,tB,tC,tD,tE,tF]
  refine rd 9 rfl fun K hK=>?_
  go_simp
  go_at_call 140
  refine (HGW.out _ _ h6').mono ?_
  rintro e w7 ⟨nv7,cv7,rfl,hx7,h7⟩
  have h8:=yg_y h7
  refine hK.out _ _ ⟨(la 15 h8 rfl).1 1,(la 15 h8 rfl).1 2⟩ (fun _=>?_)
  clear hK K h6'
  try simp only [Act.put,tA,tB,tC,tD,tE,tF]
  refine wpAnyH_done (by kernel_rfl) ?_ _
  go_wp2_with fail
  go_end0
  exact ⟨Y',nv7,cv7,hy,rfl,((hxa.trans hx4).drew.trans hx6).trans hx7,le 15 h8 rfl⟩
theorem LsOk.mono {g : lM} {B B' : Nat} (h : LsOk g B) (hb : B <= B') : LsOk g B':=fun i hi=>by
 obtain ⟨a,b,c,d⟩:=h i hi
 exact ⟨a,by omega,c,by omega⟩
theorem MM {C : Int} {m : ld} {g : lM} {B N : Nat} (h : GI C m g) (hg : ly N m) (hN : N + 2000 < 890000) (hB : LsOk g B) (x : Act) (hS : x.S.size <= 700) : LsOk (didG m g x) (B + 1):=by
 have hn:=h.n
 have hc:=h.cr
 unfold didG
 by_cases k0 : (x.kind.toList == [119,114,105,116,101]) = true
 ·rw [zt k0]
  by_cases h1 : (oI m x.A x.S).1 = 1
  ·rw [zt h1]; exact hB.mono (by omega)
  ·rw [zq h1]
   have hr:=(CL h.t hg.ok (by omega) x.A x.S (by omega)).1.rng h1
   exact Ci (by omega) (by omega) hB
 rw [zq k0]
 by_cases k1 : (x.kind.toList == [119,105,112,101]) = true
 ·rw [zt k1]
  by_cases h1 : (oE m x.A x.B).1 = 1
  ·rw [zt h1]; exact hB.mono (by omega)
  ·rw [zq h1]
   by_cases hb : x.B <= 200
   ·have hr:=(Dn h.t hg.ok (by omega) x.A x.B hb).1.rng h1
    unfold zj
    rw [show (zs (16 * x.B.toNat)).size / 16 = x.B.toNat by rw [y7]; omega]
    exact Ci (by omega) (by omega) hB
   ·exact absurd (by rw [Cq hg.ok (by omega) hb]) h1
 rw [zq k1]
 by_cases k2 : (x.kind.toList == [102,108,117,115,104]) = true
 ·rw [zt k2]
  intro i hi
  obtain ⟨a,b,-,-⟩:=hB i hi
  show 0 < (lsAt g.now i).length /\ (lsAt g.now i).length <= B + 1 /\ 0 < (lsAt g.now i).length /\ (lsAt g.now i).length <= B + 1
  exact ⟨a,by omega,a,by omega⟩
 rw [zq k2]
 exact hB.mono (by omega)
theorem Nn {g : lM} {s : ByteArray} {B : Nat} (hB : LsOk g B) (h0 : 0 < B) : LsOk (sawM g s) B:=by
 intro i hi
 have hi' : i < g.now.length:=by simpa [sawM] using hi
 obtain ⟨-,-,c,d⟩:=hB i hi'
 have e : lsAt (sawM g s).now i = [lx s i]:=by
  unfold sawM lsAt
  dsimp only
  rw [List.getD_eq_getElem?_getD,List.getElem?_map,List.getElem?_range hi']
  rfl
 rw [e]
 exact ⟨Nat.one_pos,h0,c,d⟩
theorem KQ (n : Nat) : LsOk (yE n) 1:=by
 intro i hi
 have hi' : i < n:=by simpa [yE] using hi
 have e : lsAt (List.replicate n [zs 16]) i = [zs 16]:=by
  unfold lsAt
  rw [List.getD_eq_getElem?_getD,List.getElem?_replicate_of_lt hi']
  rfl
 show 0 < (lsAt (List.replicate n [zs 16]) i).length /\ (lsAt (List.replicate n [zs 16]) i).length <= 1 /\ 0 < (lsAt (List.replicate n [zs 16]) i).length /\ (lsAt (List.replicate n [zs 16]) i).length <= 1
 rw [e]
 exact ⟨Nat.one_pos,Nat.le_refl _,Nat.one_pos,Nat.le_refl _⟩
theorem yg_0 {Y : YA} {m : ld} {L R : List SL.HP} {w : World} (H : own w (L++yL Y m R)) : own w (yL Y m (L++R)):=by
 have h:=lp L (shL Y.bs Y.A m.F++yT Y m) (R:=R) (by simpa only [zp,List.cons_append,List.nil_append] using H)
 simpa only [zp,List.cons_append,List.nil_append] using h
theorem PK {C : Int} {N : Nat} (Y : YA) (m : ld) (hg : ly N m) (hN : N + 2000 < 890000) (x : Act) (hA : oG x.A) (hB : oG x.B) (hS : x.S.size <= 700) (v : Value) (gb : Nat) (vn vc : Value) (nv cv : Nat -> Value) (g : lM) (h : GI C m g) (hn : g.now.length <= 1000) (B : Nat) (hl : LsOk g B) (hB2 : B <= 100000) (R : List SL.HP) (hT : ∀w' L,own w' (L++R) -> Ac w') (w : World) (H : own w (yL Y m (gL gb vn vc nv cv g++R))) :
  Calls Tryz.prog 41 #[.pointer (some ⟨Y.y,0,none⟩),.pointer (some ⟨gb,0,none⟩),.agg #[.string x.kind,.int .i64 x.A,.int .i64 x.B,.int .i64 x.C,.int .i64 x.D,.string x.S,v]] w (Ey Y gb vn vc (didY m x) (didG m g x) R w):=by
 have hcn:=h.n
 unfold didY didG
 by_cases k0 : (x.kind.toList == [119,114,105,116,101]) = true
 ·rw [zt k0,zt k0]
  have W:=CL h.t hg.ok (by omega) x.A x.S (by omega)
  exact MW Y m N hg hN x v _ R gb vn vc nv cv g rfl h.cr hn B hl hB2 hA hS (fun h1=>⟨(W.1.rng h1).1,by have:=(W.1.rng h1).2; omega,W.2 h1⟩) (J2 _ _ _) w H k0
 rw [zq k0,zq k0]
 by_cases k1 : (x.kind.toList == [119,105,112,101]) = true
 ·rw [zt k1,zt k1]
  refine Ob Y m N hg hN x v _ R gb vn vc nv cv g rfl h.cr hn B hl hB2 hA hB (fun h1=>?_) (KH _ _ _) w H k0 k1
  by_cases hb : x.B <= 200
  ·have W:=Dn h.t hg.ok (by omega) x.A x.B hb
   exact ⟨(W.1.rng h1).1,by have:=(W.1.rng h1).2; omega,W.2 h1,hb⟩
  ·exact absurd (by rw [Cq hg.ok (by omega) hb]) h1
 rw [zq k1,zq k1]
 by_cases k2 : (x.kind.toList == [102,108,117,115,104]) = true
 ·rw [zt k2,zt k2]
  exact My Y m N hg hN x v _ R gb vn vc nv cv g rfl h.cr hn B hl hB2 w H k0 k1 k2
 rw [zq k2,zq k2]
 by_cases k3 : (x.kind.toList == [98,108,97,110,107]) = true
 ·rw [zt k3]
  exact (NP Y m N hg hN x v _ _ w H k0 k1 k2 k3).mono fun _ _ h=>h.g
 rw [zq k3]
 by_cases k4 : (x.kind.toList == [115,110,97,112]) = true
 ·rw [zt k4]
  exact (OY Y m N hg hN x v _ _ w H k0 k1 k2 k3 k4).mono fun _ _ h=>h.g
 rw [zq k4]
 by_cases k5 : (x.kind.toList == [115,116,97,114,116]) = true
 ·rw [zt k5]
  exact (Mt Y m N hg hN x v _ _ w H k0 k1 k2 k3 k4 k5).mono fun _ _ h=>h.g
 rw [zq k5]
 by_cases k6 : (x.kind.toList == [112,105,118,111,116]) = true
 ·rw [zt k6]
  exact (MS Y m N hg hN x v _ _ w H k0 k1 k2 k3 k4 k5 k6).mono fun _ _ h=>h.g
 rw [zq k6]
 by_cases k7 : (x.kind.toList == [99,97,110,99,101,108]) = true
 ·rw [zt k7]
  exact (Lz Y m N hg hN x v _ _ w H k0 k1 k2 k3 k4 k5 k6 k7).mono fun _ _ h=>h.g
 rw [zq k7]
 by_cases k8 : (x.kind.toList == [112,97,117,115,101]) = true
 ·rw [zt k8]
  exact (NW Y m N hg hN x v _ _ w H k0 k1 k2 k3 k4 k5 k6 k7 k8).mono fun _ _ h=>h.g
 rw [zq k8]
 by_cases k9 : (x.kind.toList == [116,105,99,107]) = true
 ·rw [zt k9]
  exact (N6 Y m N hg hN x v _ _ w H k0 k1 k2 k3 k4 k5 k6 k7 k8 k9).mono fun _ _ h=>h.g
 rw [zq k9]
 by_cases k10 : (x.kind.toList == [102,97,105,108]) = true
 ·rw [zt k10]
  exact (Ou Y m N hg hN x v _ _ w H k0 k1 k2 k3 k4 k5 k6 k7 k8 k9 k10).mono fun _ _ h=>h.g
 rw [zq k10]
 exact (OZ Y m N hg hN x v _ _ (Iw hT (gL gb vn vc nv cv g)) w H k0 k1 k2 k3 k4 k5 k6 k7 k8 k9 k10).mono fun _ _ h=>h.g
theorem Px (c p : Int) (h : ¬(1 <= c /\ c <= 32 /\ 0 <= p /\ p <= 40)) (w : World) :
  Calls Tryz.prog 40 #[.int .i64 c,.int .i64 p] w fun e w'=>e = .returned (.tuple #[.pointer none,.pointer none,.bool false]) /\ w = w':=by
 have hd : decide (c < 1) = true \/ (decide (c < 1) = false /\ decide (32 < c) = true) \/ (decide (c < 1) = false /\ decide (32 < c) = false /\ decide (p < 0) = true) \/ (decide (c < 1) = false /\ decide (32 < c) = false /\ decide (p < 0) = false /\ decide (40 < p) = true):=by
  simp only [decide_eq_true_eq,decide_eq_false_iff_not]
  omega
 clear h
 rcases hd with d0 | ⟨d0,d1⟩ | ⟨d0,d1,d2⟩ | ⟨d0,d1,d2,d3⟩
 all_goals
  go_enter Tryz.func40,Tryz.ntmps40
  go_wp2_with fail
  go_ret3
  exact ⟨rfl,rfl⟩
theorem Oa (c p : Int) (h : 1 <= c /\ c <= 32 /\ 0 <= p /\ p <= 40) (R : List SL.HP) (w : World) (H : own w R) :
  Calls Tryz.prog 40 #[.int .i64 c,.int .i64 p] w fun e w'=>∃(Y : YA) (gb : Nat) (vn vc : Value) (nv cv : Nat -> Value),e = .returned (.tuple #[.pointer (some ⟨Y.y,0,none⟩),.pointer (some ⟨gb,0,none⟩),.bool true]) /\ Ext w w' /\ own w' (yL Y (yN c p) (gL gb vn vc nv cv (yE (4 * c.toNat))++R)):=by
 obtain ⟨h1,h2,h3,h4⟩:=h
 have hb : ¬lL c p (-1):=by unfold lL; omega
 have HN:=zh (fun R w H=>OJ c p hb R w H)
 have HF:=zh (fun R w H=>by have h2:=NT (4 * c.toNat) (by omega) R w H; rw [show ((4 * c.toNat : Nat) : Int) = 4 * c from by omega] at h2; exact h2)
 have e1 : IntKind.i64.wrap (4 * c) = 4 * c:=zi _ (by omega)
 have d0 : decide (c < 1) = false:=zf (by omega)
 have d1 : decide (32 < c) = false:=zf (by omega)
 have d2 : decide (p < 0) = false:=zf (by omega)
 have d3 : decide (40 < p) = false:=zf (by omega)
 generalize yN c p = m0 at *
 clear hb
 go_enter Tryz.func40,Tryz.ntmps40
 go_wp2_with fail
 refine (HN.out _ _ H).mono ?_
 rintro e w2 ⟨Y,rfl,hx2,hw2⟩
 go_wp2_with fail
 refine (HF.out _ _ hw2).mono ?_
 rintro e w3 ⟨gb,vn,vc,nv,cv,rfl,hx3,hw3⟩
 go_wp2_with fail
 go_ret3
 exact ⟨Y,gb,vn,vc,nv,cv,rfl,hx2.trans hx3,yg_0 hw3⟩
theorem O9 {Y : YA} {m : ld} {L R : List SL.HP} {w : World} (H : own w (yL Y m (L++R))) : own w R:=No (shL Y.bs Y.A m.F++(yT Y m++L)) (by simpa only [zp] using H)
theorem QI {Y : YA} {m : ld} {L R : List SL.HP} {w : World} (H : own w (yL Y m (L++R))) : own w (L++yL Y m R):=by
 have h:=lp (shL Y.bs Y.A m.F++yT Y m) L (R:=R) (by simpa only [zp,List.cons_append,List.nil_append] using H)
 simpa only [zp,List.cons_append,List.nil_append] using h
theorem IX (c p : Int) (v : Value) (l : List Act) (w : World) (hv : Be w v l) (hT : Ac w) :
  Calls Tryz.prog 7 #[.int .i64 c,.int .i64 p,v] w fun e w'=>e = .returned (.bool true) /\ Below w.heap.size w w':=by
 obtain ⟨ao,bb,off,cap,rfl,hlen,hao,hat⟩:=hv.form
 have h0:=EI w
 have HAT:=zh hat
 have HV:=zh hv
 have HAO:=zh hao
 have HTR:=zh (fun w' L (h : own w' (L++[yq w]))=>hT.later L.length h (by rw [List.getElem?_append_right (Nat.le_refl _),Nat.sub_self]; rfl))
 have HLI:=zh (NI _ l 60 w hv)
 clear hat hv hao hT
 go_enter Tryz.func7,Tryz.ntmps7
 go_wp2_with fail
 refine HLI.out.mono ?_
 rintro e w' ⟨rfl,rfl⟩
 by_cases hL : Dj l 60 = true
 ·have hl2 : l.length <= 60 /\ ∀x∈l,x.S.size <= 700 /\ x.keep.length <= 300:=by
   simp only [Dj,Bo,Bool.and_eq_true,decide_eq_true_eq,List.all_eq_true] at hL
   exact ⟨by omega,fun x hx=>⟨by have:=(hL.2 x hx).1; omega,by have:=(hL.2 x hx).2; omega⟩⟩
  rw [hL]
  clear hL
  obtain ⟨hl60,hlx⟩:=hl2
  have HLX:=zh hlx
  clear hlx
  by_cases hb : 1 <= c /\ c <= 32 /\ 0 <= p /\ p <= 40
  ·have HM:=zh (Oa c p hb [yq w] w h0)
   have hhb : ¬lL c p (-1):=by unfold lL; omega
   have HG:=zh (And.intro (Gj hhb).1 (Oo hhb))
   have HFL:=zh (show (yE (4 * c.toNat)).now.length <= 128 by show (List.replicate _ _).length <= _; rw [List.length_replicate]; omega)
   have HL0:=zh (KQ (4 * c.toNat))
   have hc1 : 1 <= c:=hb.1
   have hc2 : c <= 32:=hb.2.1
   clear hb hhb
   generalize yN c p = m0 at *
   generalize yE (4 * c.toNat) = g0 at *
   go_wp2_with fail
   refine HM.out.mono ?_
   rintro e w2 ⟨Y0,gb,vn,vc,nv0,cv0,rfl,hx2,h2⟩
   clear HM
   go_wp2_with fail
   go_loopw [10] (fun kv wr=>∃(q : Nat) (Y : YA) (m : ld) (g : lM) (nv cv : Nat -> Value),q <= l.length /\ kv = .int .i64 q /\ Y.y = Y0.y /\ ly (10 + 1000 * q) m /\ GI c m g /\ g.now.length <= 128 /\ LsOk g (1 + q) /\ Ext w wr /\ own wr (yL Y m (gL gb vn vc nv cv g++[yq w]))) (fun kv _=>l.length - (intOf kv).toNat)
   case atStart=>exact ⟨0,Y0,m0,g0,nv0,cv0,by omega,rfl,rfl,HG.out.1,HG.out.2,HFL.out,HL0.out,hx2,h2⟩
   case round=>
    clear h2 hx2 HG HFL HL0
    obtain ⟨q,Y,m,g,nv,cv,hq,rfl,hyy,hgm,hgi,hn,hls,hxr,hown⟩:=hrel
    by_cases hlt : q < l.length
    ·obtain rfl:=HAO.out (by omega)
     obtain ⟨c0,c1,c2,c3,c4,c5,c6⟩:=(HAT.out q hlt).later 0 (O9 hown) rfl
     have ok:=HV.out.2 _ (Cf hlt)
     obtain ⟨hS7,hK3⟩:=HLX.out _ (Cf hlt)
     obtain ⟨ko,kc,hkv,hkl⟩:=JY ok.keep
     rw [hkv] at c6
     clear hkv hkl
     have HYY:=zh hyy
     generalize hx : l.getD q Bn = x at *
     by_cases hcr : (x.kind.toList == [99,114,97,115,104]) = true
     ·have HI:=zh (And.intro (hgm.mono (show 10 + 1000 * q <= 10 + 1000 * (q + 1) by omega)) (And.intro hgi (hls.mono (show 1 + q <= 1 + (q + 1) by omega))))
      clear hgm hgi hls hyy ok
      go_wp2_with fail
      go_roundw
      case rel=>exact ⟨q + 1,Y,m,g,nv,cv,by omega,by go_num,HYY.out,HI.out.1,HI.out.2.1,hn,HI.out.2.2,hxr,hown⟩
      case measure=>simp [intOf]; omega
     ·have HD:=zh (PK Y m hgm (by omega) x ok.A ok.B hS7 (.slice ko x.keep.length kc) gb vn vc nv cv g hgi (by omega) (1 + q) hls (by omega) [yq w] HTR.out wr hown)
      have hg2:=MC hgm (by omega) x ok.B hS7
      have hgi2:=MP hgi hgm (by omega) x hS7
      have hls2:=MM hgi hgm (by omega) hls x hS7
      have hn2 : (didG m g x).now.length <= 128:=by
       have a:=hgi2.n
       have b:=hgi.n
       omega
      rw [hyy] at HD
      clear hyy
      unfold Ey at HD
      generalize didY m x = M at *
      generalize didG m g x = G at *
      have hcl:=hgi2.t.cl0 hg2.ok
      have hsw:=hgi2.saw hg2.ok (by omega)
      have hal:=hgi2.all hg2.ok (by omega)
      have hr0:=(GT hgi2.t hg2.ok (by omega)).1
      have HSC:=zh (fun (Y : YA) (hY : Y.y = Y0.y) R w H=>by have h2:=DY (10 + 1000 * q + 1000) Y M hg2.ok (by omega) R w H; rw [hY] at h2; exact h2)
      have HRD:=zh (fun (Y : YA) (hY : Y.y = Y0.y) R w H=>by have h2:=M1 (10 + 1000 * q + 1000) Y M hg2.ok (by omega) 0 (c * 4) (by unfold oG; omega) (by unfold oG; omega) R w H; rw [hY] at h2; exact h2)
      rw [Int.mul_comm c 4] at HRD
      rw [hr0,lR] at HRD
      rw [hcl,Int.mul_comm c 4] at HSC
      generalize (getM M.F M.list 0 (4 * c)).1 = s at *
      have HSE:=zh (fun nv cv R w H=>Ov gb vn vc nv cv G s hal (by omega) hls2 (by omega) R w H)
      have HI:=zh (And.intro (hg2.mono (show 10 + 1000 * q + 1000 <= 10 + 1000 * (q + 1) by omega)) (And.intro hsw (Nn (s:=s) (hls2) (by omega))))
      have HN2:=zh (show (sawM G s).now.length <= 128 by simpa [sawM] using hn2)
      clear hgm hgi hls hown hg2 hgi2 hls2 hn2 hcl hsw hal hr0 ok
      go_wp2_with fail
      refine HD.out.mono ?_
      rintro e w5 ⟨Y',nv5,cv5,hy,rfl,hx5,h5⟩
      clear HD c0 c1 c2 c3 c4 c5 c6
      have hy' : Y'.y = Y0.y:=hy.trans HYY.out
      have HYW:=zh hy'
      clear hy hy'
      go_wp2_with fail
      refine (HSC.out _ HYW.out _ _ h5).mono ?_
      rintro e w6 ⟨rfl,hx6,h6⟩
      go_wp2_with fail
      refine (HRD.out _ HYW.out _ _ h6).mono ?_
      rintro e w7 ⟨rfl,hx7,h7⟩
      go_wp2_with fail
      refine (HSE.out _ _ _ _ (QI h7)).mono ?_
      rintro e w8 ⟨nv8,rfl,hx8,h8⟩
      go_wp2_with fail
      go_roundw
      case rel=>exact ⟨q + 1,Y',M,_,nv8,_,by omega,by go_num,HYW.out,HI.out.1,HI.out.2.1,HN2.out,HI.out.2.2,(((hxr.trans hx5).trans hx6).trans hx7).trans hx8,yg_0 h8⟩
      case measure=>simp [intOf]; omega
    ·obtain rfl : q = l.length:=by omega
     clear hgm hgi hls
     go_wp2_with fail
     go_ret
     exact ⟨rfl,Fs 0 (O9 hown) rfl hxr⟩
  ·have HM:=zh (Px c p hb w)
   have hd : decide (c < 1) = true \/ (decide (c < 1) = false /\ decide (32 < c) = true) \/ (decide (c < 1) = false /\ decide (32 < c) = false /\ decide (p < 0) = true) \/ (decide (c < 1) = false /\ decide (32 < c) = false /\ decide (p < 0) = false /\ decide (40 < p) = true):=by
    simp only [decide_eq_true_eq,decide_eq_false_iff_not]
    omega
   clear hb
   rcases hd with d0 | ⟨d0,d1⟩ | ⟨d0,d1,d2⟩ | ⟨d0,d1,d2,d3⟩
   all_goals
    go_wp2_with fail
    refine HM.out.mono ?_
    rintro e w' ⟨rfl,rfl⟩
    go_wp2_with fail
    go_ret
    exact ⟨rfl,Fs 0 h0 rfl (zR w)⟩
 ·rw [Bool.not_eq_true] at hL
  rw [hL]
  clear hL
  go_wp2_with fail
  go_ret
  exact ⟨rfl,Fs 0 h0 rfl (zR w)⟩
end Go.Proofs.YtbpblokfiajpjabGreatDoor
namespace Go.Proofs.YtbpblokfiajpjabGreatDoor
open Go.ChangeShapes Go.WideShapes Go.ChangeAt Go.RowKit
theorem Ot : Rows.laid_math_bits_deBruijn64tab (H:=Unit) = .agg (Lib.deBruijn64tab.map fun (n : Nat)=>.lit (.int .u8 (n : Int))):=by kernel_rfl
theorem Og {W : World} (h : laidMetH Tryz.prog [("math/bits.deBruijn64tab", Rows.laid_math_bits_deBruijn64tab)] W) : Ac W := by
 intro r hr
 rw [MakeChecks.laidMetH_plain _ _ _ (by kernel_rfl)] at h
 obtain ⟨ps,⟨g,t,cs,fuel,p,q,hg,ht,hv,hd,_,_⟩,_,_⟩:=h
 obtain rfl := Option.some.inj ((show Tryz.prog.globalNamed "math/bits.deBruijn64tab" = some 0 by kernel_rfl).symm.trans hg)
 obtain rfl:=Option.some.inj ((show (Tryz.prog.globals[0]?).map (·.type) = some 291 by kernel_rfl).symm.trans ht)
 obtain ⟨xs,m,_,ex,_,hl,hel⟩:=DataW.trod_array Tryz.underlying291 hd
 have c5 : Tryz.prog.cellsOf 5 = 1:=by kernel_rfl
 have hE:=hel r hr
 rw [c5,Nat.mul_one,List.getElem?_eq_getElem (by omega)] at hE
 obtain ⟨z,e1,e2,_⟩:=DataW.trod_int Tryz.underlying5 hE
 have hlen : Lib.deBruijn64tab.length = 64:=by decide
 rw [Ot] at ex
 have e3 : (xs.map (·.1)) = Lib.deBruijn64tab.map fun (n : Nat)=>.lit (.int .u8 (n : Int)):=(DataW.agg.inj (Prod.mk.inj ex).1).symm
 have e4 : (xs.map (·.1))[r]? = (Lib.deBruijn64tab.map fun (n : Nat)=>(DataW.lit (.int .u8 (n : Int)) : DataW Unit))[r]?:=by rw [e3]
 rw [List.getElem?_map,List.getElem?_map,List.getElem?_eq_getElem (by omega : r < xs.length),List.getElem?_eq_getElem (by omega : r < Lib.deBruijn64tab.length),e2] at e4
 have hz : z = ((Lib.deBruijn64tab.getD r 0 : Nat) : Int):=by
  simp only [Option.map_some,Option.some.injEq,DataW.lit.injEq,Lit.int.injEq,true_and] at e4
  rw [e4,List.getD,List.getElem?_eq_getElem (by omega : r < Lib.deBruijn64tab.length)]; rfl
 rw [World.var?_cell hg hv r,<- hz]
 have : cs.toList[r]? = some (.int .u8 z):=by
  have h0 : ((cs.toList.drop r).take 1)[0]? = some (.int .u8 z):=by rw [e1]; rfl
  simpa using h0
 simpa using this
end Go.Proofs.YtbpblokfiajpjabGreatDoor
namespace Go.Proofs.YtbpblokfiajpjabGreatDoor.topGuestDone
open Go.ChangeShapes Go.WideShapes Go.ChangeAt Go.RowKit
open Go.ChangeMaps (open_string shut_string)
set_option linter.unusedVariables false
theorem own : ownKnob Tryz.prog.godebug = none:=by kernel_rfl
theorem Pe : laidOutB Tryz.prog = true:=by kernel_rfl
theorem P0 (os : Os) (started : os.Started) (H : Type) (enc : TypeId×Value -> H) :
  ReturnsInHanded {} Tryz.checked os 7 .any (fun w args=>(Rows.topGuestSpec.pre enc Tryz.prog Tryz.f7 Rows.topGuestRow.domain false w args /\ laidMetH Tryz.prog Rows.topGuestRow.laid w) /\ sizedMet enc Tryz.prog Tryz.f7 (OpenSpec.ofChange Rows.topGuestSpec) false w args)
   (Rows.topGuestSpec.post enc Tryz.prog Tryz.f7 false true false false):=by
 refine returnsInHanded_of_change_and (C:=Tryz.checked) (X:=fun w _=>laidMetH Tryz.prog Rows.topGuestRow.laid w) (fun _ _ _ hh h=>h.of_heap hh) own started (by kernel_rfl) Tryz.func7
  (ChangeSpec.witness_shaped (enc:=enc) (C:=Tryz.checked) (os:=os) (X:=fun w _=>laidMetH Tryz.prog Rows.topGuestRow.laid w) false (World.laidAll Tryz.prog os Rows.topGuestRow.laid) #[.int .i64 0,.int .i64 0,.slice none 0 0] 8 (World.laidAll_os _ _ _)
   (World.shaped_of_ZipB (by kernel_rfl) (by kernel_rfl)) (by kernel_rfl) (by kernel_rfl) (by kernel_rfl)
   (by rw [MakeChecks.laidMetH_plain _ _ _ (by kernel_rfl)]; exact laidMet_laidAll _ (by kernel_rfl) (by kernel_rfl))) ?_
 intro W base args ds gs before hval0 hW hcnd _ hL _
 have hval : ∀(j : Nat) t v,Tryz.f7.params[j]? = some t -> args[j]? = some v -> Value.okWide Tryz.prog W .any base t v:=hval0
 have hW':=hW
 obtain ⟨p,q,hA0,hV,rfl,hfz,hnd⟩:=hW
 have hA : DataW.TrodAll enc Tryz.prog W 0 (fun _=>true) true Tryz.f7.params.toList args.toList ds p:=hA0
 rw [Tryz.params7] at hA hval
 obtain ⟨v0,vs0,d0,ds0,p0,q0,hargs,rfl,rfl,h0,r0⟩:=trodAll_cons hA
 obtain ⟨v1,vs1,d1,ds1,p1,q1,rfl,rfl,rfl,h1,r1⟩:=trodAll_cons r0
 obtain ⟨v2,vs2,d2,ds2,p2,q2,rfl,rfl,rfl,h2,r2⟩:=trodAll_cons r1
 obtain ⟨rfl,rfl,rfl⟩:=trodAll_nil r2
 obtain rfl : args = #[v0,v1,v2]:=by cases args; simp_all
 obtain ⟨rfl,rfl⟩:=trodVars_none hV
 obtain ⟨a0,rfl,rfl,rfl,k0⟩:=open_int Tryz.underlying3 (hval 0 3 v0 rfl rfl) h0
 obtain ⟨a1,rfl,rfl,rfl,k1⟩:=open_int Tryz.underlying3 (hval 1 3 v1 rfl rfl) h1
 obtain ⟨ao2,len2,cap2,rfl⟩:=okWide_slice Tryz.underlying25 (hval 2 25 v2 rfl rfl)
 have t2:=h2
 have lt2 : ∀x∈p2,x.block < W.heap.size:=by obtain ⟨m,hm⟩:=t2; exact DataW.trod_lt m _ _ _ hm
 obtain ⟨a2,k2⟩ : ∃l,Be W (.slice ao2 len2 cap2) l:=by
  obtain ⟨fuel,hf⟩:=h2
  exact MY hf
 clear hA0 hval0
 refine (IX a0 a1 _ a2 W k2 (Og hL)).mono fun e W' ⟨he,bel⟩=>?_
 subst he
 exact ⟨_,rfl,_,_,_,[],_,[],hW',trodAll_mk1 (shut_bool Tryz.underlying4 _),(trodAll_cons_mk (shut_int Tryz.underlying3 k0) (trodAll_cons_mk (shut_int Tryz.underlying3 k1) (trodAll_cons_mk (Below.trod Pe (by kernel_rfl) (of_decide_eq_true (by kernel_rfl)) t2 bel lt2) trodAll_mk0))),rfl,bel.frame _,fun h=>by cases h⟩
theorem andB {a b : Bool} (ha : a = true) (hb : b = true) : (a && b) = true:=by rw [ha,hb]; rfl
theorem QG : Rows.topGuestRow.wf (OpenSpec.ofChange Rows.topGuestSpec) = true:=by kernel_rfl
theorem Q3 : laidOutB Tryz.prog = true:=by kernel_rfl
theorem Q4 : mapsRowed Tryz.prog = true:=by kernel_rfl
theorem QS : Tryz.f7.params.all (Tryz.prog.readableRec ·) = true:=by kernel_rfl
theorem QQ : namedTie Tryz.prog Rows.topGuestRow.named Rows.topGuestSpec.vars = true:=by kernel_rfl
theorem QR : (Rows.topGuestRow.stops == []) = true:=by kernel_rfl
theorem QK : (Tryz.prog.stops == []) = true:=by kernel_rfl
theorem QF : (Rows.topGuestRow.knobs == []) = true:=by kernel_rfl
theorem QT : (Tryz.prog.stopKnobs == []) = true:=by kernel_rfl
theorem QX : (Rows.topGuestRow.inPlace == Tryz.prog.inPlace 7) = true:=by kernel_rfl
theorem Qh : (Rows.topGuestRow.unfollowed == Tryz.prog.unfollowed 7) = true:=by kernel_rfl
theorem P5 : (Rows.topGuestRow.recurses == Tryz.prog.recurses 7) = true:=by kernel_rfl
theorem Qw : (Rows.topGuestRow.named == Tryz.prog.varsNamed 7) = true:=by kernel_rfl
theorem Qo : (Rows.topGuestRow.maps == (Tryz.f7.params.toList++Rows.topGuestSpec.plain.varTypes Tryz.prog).any (Tryz.prog.mapsRec ·)) = true:=by kernel_rfl
theorem Qy : (Rows.topGuestRow.ifaces == (Tryz.f7.params.toList++Rows.topGuestSpec.plain.varTypes Tryz.prog).any (Tryz.prog.ifacesRec ·)) = true:=by kernel_rfl
theorem P7 : (Rows.topGuestRow.mapsOut == Tryz.prog.mapsAmong Tryz.f7.resultTypes.toList) = true:=by kernel_rfl
theorem PV : (Rows.topGuestRow.loops == (Tryz.f7.params.toList++Rows.topGuestSpec.plain.varTypes Tryz.prog).any (Tryz.prog.loopsFrom ·)) = true:=by kernel_rfl
theorem PT : (Rows.topGuestRow.wideKeys == (Tryz.f7.params.toList++Rows.topGuestSpec.plain.varTypes Tryz.prog++Tryz.f7.resultTypes.toList).any (Tryz.prog.wideKeysFrom ·)) = true:=by kernel_rfl
theorem Qk : Rows.topGuestSpec.vars.all (Tryz.prog.varReadable ·) = true:=by kernel_rfl
theorem Qv : Tryz.f7.resultTypes.all (fun t=>Tryz.prog.readableRec t && decide (t < Tryz.prog.types.size)) = true:=by kernel_rfl
theorem Qn : (Rows.topGuestRow.ifacesOut == Tryz.f7.resultTypes.toList.any (Tryz.prog.ifacesRec ·)) = true:=by kernel_rfl
theorem Qc : (Rows.topGuestRow.loopsOut == Tryz.f7.resultTypes.toList.any (Tryz.prog.loopsFrom ·)) = true:=by kernel_rfl
theorem PY : (Rows.topGuestRow.plainKeys == Tryz.prog.plainKeys) = true:=by kernel_rfl
theorem Qx : Rows.topGuestRow.shortTexts.isNone = true:=by kernel_rfl
theorem Qe : Tryz.prog.stopsHeard = true:=by kernel_rfl
theorem P8 : Tryz.prog.mayEnter = true:=by kernel_rfl
theorem Qm : (Rows.topGuestRow.lifted == Tryz.prog.liftsFinal) = true:=by kernel_rfl
theorem Qs : (Tryz.prog.make == some Rows.topGuestRow.make) = true:=by kernel_rfl
theorem Qp : (Rows.topGuestRow.kinds == (if Rows.topGuestRow.domain.isEmpty then [] else Tryz.f7.params.toList.map fun t=>match Tryz.prog.underlying t with | some (.int k)=>some k | _=>none)) = true:=by kernel_rfl
theorem Qb : (Rows.topGuestRow.pinned == Rows.topGuestRow.pinnedBy) = true:=by kernel_rfl
theorem Qd : (Rows.topGuestRow.veiled == (Tryz.f7.params.toList++Rows.topGuestSpec.plain.varTypes Tryz.prog++Tryz.f7.resultTypes.toList).any (Tryz.prog.veiledRec ·)) = true:=by kernel_rfl
theorem QD : Rows.topGuestRow.veiledFits Tryz.prog Tryz.f7.params.toList (Tryz.f7.params.toList++Rows.topGuestSpec.plain.varTypes Tryz.prog++Tryz.f7.resultTypes.toList) = true:=by kernel_rfl
theorem Qu : joinedFacts Tryz.prog 7 Tryz.f7 Rows.topGuestSpec Rows.topGuestRow = true:=by
 unfold joinedFacts
 exact (andB (andB (andB (andB (andB (andB (andB (andB (andB (andB (andB (andB (andB (andB (andB (andB (andB (andB (andB (andB (andB (andB (andB (andB (andB (andB (andB (andB (andB (andB (andB QG Q3) Q4) QS) QQ) QR) QK) QF) QT) QX) Qh) P5) Qw) Qo) Qy) P7) PV) PT) Qk) Qv) Qn) Qc) PY) Qx) Qe) P8) Qm) Qs) Qp) Qb) Qd) QD)
theorem PF : Tryz.prog.funcNamed Rows.topGuestRow.func = some 7:=by kernel_rfl
theorem over : Rows.topGuestRow.holds Tryz.pinned (OpenSpec.ofChange Rows.topGuestSpec):=
 OpenClaim.holds_of_wide 7 Tryz.f7 rfl rfl rfl rfl rfl rfl rfl ⟨rfl,rfl,rfl,rfl,rfl⟩ rfl rfl rfl rfl rfl PF Tryz.func7 Qu
  (of_decide_eq_true (by kernel_rfl)) (by unfold Func.isWrapper; first | (rw [zt (by decide +kernel)]; kernel_rfl) | (rw [zq (by decide +kernel)]; exact ⟨rfl,rfl⟩))
  (fun os started H enc _=>P0 os started H enc)
theorem proved : Rows.TopGuestCardSaid:=
 Claim7.holds_tied_plain_at .later [] _ _ _ _ over (fun _ h=>by cases h) (by kernel_rfl) (fun _ h=>by cases h) topGuest_row_tie rfl ⟨rfl,rfl⟩ (by kernel_rfl) rfl
  (fun f fn hf hfn=>by
   obtain rfl : f = 7 := Option.some.inj ((show Tryz.prog.funcNamed "stackyard/stackyardtop.TopGuest" = some 7 by kernel_rfl).symm.trans hf) |>.symm
   obtain rfl : fn = Tryz.f7:=(Option.some.inj (Tryz.func7.symm.trans hfn)).symm
   exact ⟨by kernel_rfl,fun j t ht=>by
    rw [Tryz.params7] at ht
    have hm : t∈[3,25]:=by
     have:=Array.mem_of_getElem? ht
     simp only [List.mem_toArray,List.mem_cons,List.mem_nil_iff,or_false] at this ⊢
     rcases this with h|h|h <;> simp [h]
    have hall : ([3,25].all fun u=>!Tryz.prog.wantsStandIn u) = true:=by kernel_rfl
    exact (show Tryz.prog.wantsStandIn t = false by simpa using List.all_eq_true.1 hall t hm)⟩)
  (by kernel_rfl)
#print axioms proved
end Go.Proofs.YtbpblokfiajpjabGreatDoor.topGuestDone
