/- Lemmas on which TopEnds stands: the texts Guest4 Guest5 TopGuestLaw YardE1 YardE2 YardE3. No conditions. -/
import Derived.Test.YtbpblokfiajpjabGreatDoorPka95ada05c4
set_option linter.all false
set_option maxRecDepth 1000000
set_option maxHeartbeats 32000000
namespace Go.Proofs.YtbpblokfiajpjabGreatDoor
open Go.RowKit Go.SL Go.Crc
attribute [local go_sem ↓] Go.wp_at_zero Go.wp_at_succ
def Bo (Y : YA) (m : ld) (R : List SL.HP) (w : World) (e : Ending) (w' : World) : Prop:=∃Y' : YA,Y'.y = Y.y /\ e = .returned (.tuple #[]) /\ Ext w w' /\ own w' (yL Y' m R)
def EW (Y : YA) (gb : Nat) (vn vc : Value) (m : ld) (g : lK) (R : List SL.HP) (w : World) (e : Ending) (w' : World) : Prop:=∃(Y' : YA) (nv cv : Nat -> Value),Y'.y = Y.y /\ e = .returned (.tuple #[]) /\ Ext w w' /\ own w' (yL Y' m (gL gb vn vc nv cv g++R))
theorem Bo.g {Y : YA} {gb : Nat} {vn vc : Value} {nv cv : Nat -> Value} {m : ld} {g : lK} {R : List SL.HP} {w w' : World} {e : Ending} (h : Bo Y m (gL gb vn vc nv cv g++R) w e w') : EW Y gb vn vc m g R w e w':=by
 obtain ⟨Y',hy,he,hx,h⟩:=h
 exact ⟨Y',nv,cv,hy,he,hx,h⟩
theorem yg_g {Y : YA} {m : ld} {L R : List SL.HP} {w : World} {P : SL.HP} (H : own w (yL Y m (P::(L++R)))) : own w (L++yL Y m (P::R)):=by
 have h:=lp (shL Y.bs Y.A m.F++(yT Y m++[P])) L (R:=R) (by simpa only [zp,List.cons_append,List.nil_append] using H)
 simpa only [zp,List.cons_append,List.nil_append] using h
theorem yg_y {Y : YA} {m : ld} {L R : List SL.HP} {w : World} {P : SL.HP} (H : own w (L++yL Y m (P::R))) : own w (yL Y m (P::(L++R))):=by
 have h:=lp L (shL Y.bs Y.A m.F++(yT Y m++[P])) (R:=R) (by simpa only [zp,List.cons_append,List.nil_append] using H)
 simpa only [zp,List.cons_append,List.nil_append] using h
theorem Ow (Y : YA) (m : ld) (N : Nat) (hm : lx N m) (hN : N + 2000 < 890000) (x : Act) (v gv : Value) (R : List SL.HP) (w : World) (H : own w (yL Y m R)) (k0 : ¬(x.kind.toList == [119,114,105,116,101]) = true) (k1 : ¬(x.kind.toList == [119,105,112,101]) = true) (k2 : ¬(x.kind.toList == [102,108,117,115,104]) = true) (k3 : (x.kind.toList == [98,108,97,110,107]) = true) :
  Calls Tryz.prog 41 #[.pointer (some ⟨Y.y,0,none⟩),gv,.agg #[.string x.kind,.int .i64 x.A,.int .i64 x.B,.int .i64 x.C,.int .i64 x.D,.string x.S,v]] w (Bo Y (l7 m x.A (-1)).2 R w):=by
 have h0:=oY (lf H (.cells #[.string x.kind,.int .i64 x.A,.int .i64 x.B,.int .i64 x.C,.int .i64 x.D,.string x.S,v] 45))
 have hxa:=(zR w).alloc (.cells #[.string x.kind,.int .i64 x.A,.int .i64 x.B,.int .i64 x.C,.int .i64 x.D,.string x.S,v] 45)
 have HP:=zh (fun (R' : List SL.HP) w' h=>Mg N Y m hm.ok (by omega) x.A R' w' h)
 unfold yj at HP
 generalize l7 m x.A (-1) = S at *
 obtain ⟨f,m2⟩:=S
 dsimp only at HP ⊢
 clear H hm hN
 go_enter Tryz.func41,Tryz.ntmps41
 go_upto_region 1 with (fail)
 generalize w.heap.size = ba at *
 generalize w.alloc (.cells #[.string x.kind,.int .i64 x.A,.int .i64 x.B,.int .i64 x.C,.int .i64 x.D,.string x.S,v] 45) = wa at *
 have c0:=(la 15 h0 rfl).1 0
 have c1:=(la 15 h0 rfl).1 1
 go_wp2_with fail
 refine (HP.out _ _ h0).mono ?_
 rintro e w4 ⟨Y',hy,rfl,hx4,h4⟩
 go_wp2_with fail
 go_end0
 exact ⟨Y',hy,rfl,hxa.trans hx4,le 15 h4 rfl⟩
theorem PG (Y : YA) (m : ld) (N : Nat) (hm : lx N m) (hN : N + 2000 < 890000) (x : Act) (v gv : Value) (R : List SL.HP) (w : World) (H : own w (yL Y m R)) (k0 : ¬(x.kind.toList == [119,114,105,116,101]) = true) (k1 : ¬(x.kind.toList == [119,105,112,101]) = true) (k2 : ¬(x.kind.toList == [102,108,117,115,104]) = true) (k3 : ¬(x.kind.toList == [98,108,97,110,107]) = true) (k4 : (x.kind.toList == [115,110,97,112]) = true) :
  Calls Tryz.prog 41 #[.pointer (some ⟨Y.y,0,none⟩),gv,.agg #[.string x.kind,.int .i64 x.A,.int .i64 x.B,.int .i64 x.C,.int .i64 x.D,.string x.S,v]] w (Bo Y (AS m x.A).2 R w):=by
 have h0:=oY (lf H (.cells #[.string x.kind,.int .i64 x.A,.int .i64 x.B,.int .i64 x.C,.int .i64 x.D,.string x.S,v] 45))
 have hxa:=(zR w).alloc (.cells #[.string x.kind,.int .i64 x.A,.int .i64 x.B,.int .i64 x.C,.int .i64 x.D,.string x.S,v] 45)
 have HP:=zh (fun (R' : List SL.HP) w' h=>N7 N Y m hm.ok (by omega) x.A R' w' h)
 unfold yj at HP
 generalize AS m x.A = S at *
 obtain ⟨f,m2⟩:=S
 dsimp only at HP ⊢
 clear H hm hN
 go_enter Tryz.func41,Tryz.ntmps41
 go_upto_region 1 with (fail)
 generalize w.heap.size = ba at *
 generalize w.alloc (.cells #[.string x.kind,.int .i64 x.A,.int .i64 x.B,.int .i64 x.C,.int .i64 x.D,.string x.S,v] 45) = wa at *
 have c0:=(la 15 h0 rfl).1 0
 have c1:=(la 15 h0 rfl).1 1
 go_wp2_with fail
 refine (HP.out _ _ h0).mono ?_
 rintro e w4 ⟨Y',hy,rfl,hx4,h4⟩
 go_wp2_with fail
 go_end0
 exact ⟨Y',hy,rfl,hxa.trans hx4,le 15 h4 rfl⟩
theorem Oh (Y : YA) (m : ld) (N : Nat) (hm : lx N m) (hN : N + 2000 < 890000) (x : Act) (v gv : Value) (R : List SL.HP) (w : World) (H : own w (yL Y m R)) (k0 : ¬(x.kind.toList == [119,114,105,116,101]) = true) (k1 : ¬(x.kind.toList == [119,105,112,101]) = true) (k2 : ¬(x.kind.toList == [102,108,117,115,104]) = true) (k3 : ¬(x.kind.toList == [98,108,97,110,107]) = true) (k4 : ¬(x.kind.toList == [115,110,97,112]) = true) (k5 : (x.kind.toList == [115,116,97,114,116]) = true) :
  Calls Tryz.prog 41 #[.pointer (some ⟨Y.y,0,none⟩),gv,.agg #[.string x.kind,.int .i64 x.A,.int .i64 x.B,.int .i64 x.C,.int .i64 x.D,.string x.S,v]] w (Bo Y (yv m x.A x.B x.C x.D).2 R w):=by
 have h0:=oY (lf H (.cells #[.string x.kind,.int .i64 x.A,.int .i64 x.B,.int .i64 x.C,.int .i64 x.D,.string x.S,v] 45))
 have hxa:=(zR w).alloc (.cells #[.string x.kind,.int .i64 x.A,.int .i64 x.B,.int .i64 x.C,.int .i64 x.D,.string x.S,v] 45)
 have HP:=zh (fun (R' : List SL.HP) w' h=>Gl N Y m hm.ok (by omega) x.A x.B x.C x.D R' w' h)
 unfold yj at HP
 generalize yv m x.A x.B x.C x.D = S at *
 obtain ⟨f,m2⟩:=S
 dsimp only at HP ⊢
 clear H hm hN
 go_enter Tryz.func41,Tryz.ntmps41
 go_upto_region 1 with (fail)
 generalize w.heap.size = ba at *
 generalize w.alloc (.cells #[.string x.kind,.int .i64 x.A,.int .i64 x.B,.int .i64 x.C,.int .i64 x.D,.string x.S,v] 45) = wa at *
 have c0:=(la 15 h0 rfl).1 0
 have c1:=(la 15 h0 rfl).1 1
 have c2:=(la 15 h0 rfl).1 2
 have c3:=(la 15 h0 rfl).1 3
 have c4:=(la 15 h0 rfl).1 4
 go_wp2_with fail
 refine (HP.out _ _ h0).mono ?_
 rintro e w4 ⟨Y',hy,rfl,hx4,h4⟩
 go_wp2_with fail
 go_end0
 exact ⟨Y',hy,rfl,hxa.trans hx4,le 15 h4 rfl⟩
theorem NU (Y : YA) (m : ld) (N : Nat) (hm : lx N m) (hN : N + 2000 < 890000) (x : Act) (v gv : Value) (R : List SL.HP) (w : World) (H : own w (yL Y m R)) (k0 : ¬(x.kind.toList == [119,114,105,116,101]) = true) (k1 : ¬(x.kind.toList == [119,105,112,101]) = true) (k2 : ¬(x.kind.toList == [102,108,117,115,104]) = true) (k3 : ¬(x.kind.toList == [98,108,97,110,107]) = true) (k4 : ¬(x.kind.toList == [115,110,97,112]) = true) (k5 : ¬(x.kind.toList == [115,116,97,114,116]) = true) (k6 : (x.kind.toList == [112,105,118,111,116]) = true) :
  Calls Tryz.prog 41 #[.pointer (some ⟨Y.y,0,none⟩),gv,.agg #[.string x.kind,.int .i64 x.A,.int .i64 x.B,.int .i64 x.C,.int .i64 x.D,.string x.S,v]] w (Bo Y (yD m).2 R w):=by
 have h0:=oY (lf H (.cells #[.string x.kind,.int .i64 x.A,.int .i64 x.B,.int .i64 x.C,.int .i64 x.D,.string x.S,v] 45))
 have hxa:=(zR w).alloc (.cells #[.string x.kind,.int .i64 x.A,.int .i64 x.B,.int .i64 x.C,.int .i64 x.D,.string x.S,v] 45)
 have HP:=zh (fun (R' : List SL.HP) w' h=>Gq N Y m hm.ok (by omega) R' w' h)
 unfold yj at HP
 generalize yD m = S at *
 obtain ⟨f,m2⟩:=S
 dsimp only at HP ⊢
 clear H hm hN
 go_enter Tryz.func41,Tryz.ntmps41
 go_upto_region 1 with (fail)
 generalize w.heap.size = ba at *
 generalize w.alloc (.cells #[.string x.kind,.int .i64 x.A,.int .i64 x.B,.int .i64 x.C,.int .i64 x.D,.string x.S,v] 45) = wa at *
 have c0:=(la 15 h0 rfl).1 0
 go_wp2_with fail
 refine (HP.out _ _ h0).mono ?_
 rintro e w4 ⟨Y',hy,rfl,hx4,h4⟩
 go_wp2_with fail
 go_end0
 exact ⟨Y',hy,rfl,hxa.trans hx4,le 15 h4 rfl⟩
theorem M2 (Y : YA) (m : ld) (N : Nat) (hm : lx N m) (hN : N + 2000 < 890000) (x : Act) (v gv : Value) (R : List SL.HP) (w : World) (H : own w (yL Y m R)) (k0 : ¬(x.kind.toList == [119,114,105,116,101]) = true) (k1 : ¬(x.kind.toList == [119,105,112,101]) = true) (k2 : ¬(x.kind.toList == [102,108,117,115,104]) = true) (k3 : ¬(x.kind.toList == [98,108,97,110,107]) = true) (k4 : ¬(x.kind.toList == [115,110,97,112]) = true) (k5 : ¬(x.kind.toList == [115,116,97,114,116]) = true) (k6 : ¬(x.kind.toList == [112,105,118,111,116]) = true) (k7 : (x.kind.toList == [99,97,110,99,101,108]) = true) :
  Calls Tryz.prog 41 #[.pointer (some ⟨Y.y,0,none⟩),gv,.agg #[.string x.kind,.int .i64 x.A,.int .i64 x.B,.int .i64 x.C,.int .i64 x.D,.string x.S,v]] w (Bo Y (yQ m).2 R w):=by
 have h0:=oY (lf H (.cells #[.string x.kind,.int .i64 x.A,.int .i64 x.B,.int .i64 x.C,.int .i64 x.D,.string x.S,v] 45))
 have hxa:=(zR w).alloc (.cells #[.string x.kind,.int .i64 x.A,.int .i64 x.B,.int .i64 x.C,.int .i64 x.D,.string x.S,v] 45)
 have HP:=zh (fun (R' : List SL.HP) w' h=>FE N Y m hm.ok (by omega) R' w' h)
 unfold yj at HP
 generalize yQ m = S at *
 obtain ⟨f,m2⟩:=S
 dsimp only at HP ⊢
 clear H hm hN
 go_enter Tryz.func41,Tryz.ntmps41
 go_upto_region 1 with (fail)
 generalize w.heap.size = ba at *
 generalize w.alloc (.cells #[.string x.kind,.int .i64 x.A,.int .i64 x.B,.int .i64 x.C,.int .i64 x.D,.string x.S,v] 45) = wa at *
 have c0:=(la 15 h0 rfl).1 0
 go_wp2_with fail
 refine (HP.out _ _ h0).mono ?_
 rintro e w4 ⟨Y',hy,rfl,hx4,h4⟩
 go_wp2_with fail
 go_end0
 exact ⟨Y',hy,rfl,hxa.trans hx4,le 15 h4 rfl⟩
theorem Ot (Y : YA) (m : ld) (N : Nat) (hm : lx N m) (hN : N + 2000 < 890000) (x : Act) (v gv : Value) (R : List SL.HP) (w : World) (H : own w (yL Y m R)) (k0 : ¬(x.kind.toList == [119,114,105,116,101]) = true) (k1 : ¬(x.kind.toList == [119,105,112,101]) = true) (k2 : ¬(x.kind.toList == [102,108,117,115,104]) = true) (k3 : ¬(x.kind.toList == [98,108,97,110,107]) = true) (k4 : ¬(x.kind.toList == [115,110,97,112]) = true) (k5 : ¬(x.kind.toList == [115,116,97,114,116]) = true) (k6 : ¬(x.kind.toList == [112,105,118,111,116]) = true) (k7 : ¬(x.kind.toList == [99,97,110,99,101,108]) = true) (k8 : (x.kind.toList == [112,97,117,115,101]) = true) :
  Calls Tryz.prog 41 #[.pointer (some ⟨Y.y,0,none⟩),gv,.agg #[.string x.kind,.int .i64 x.A,.int .i64 x.B,.int .i64 x.C,.int .i64 x.D,.string x.S,v]] w (Bo Y (zm m (decide (0 < x.A))).2 R w):=by
 have h0:=oY (lf H (.cells #[.string x.kind,.int .i64 x.A,.int .i64 x.B,.int .i64 x.C,.int .i64 x.D,.string x.S,v] 45))
 have hxa:=(zR w).alloc (.cells #[.string x.kind,.int .i64 x.A,.int .i64 x.B,.int .i64 x.C,.int .i64 x.D,.string x.S,v] 45)
 have HP:=zh (fun (R' : List SL.HP) w' h=>MB Y m hm.ok.jok (decide (0 < x.A)) R' w' h)
 unfold yj at HP
 generalize zm m (decide (0 < x.A)) = S at *
 obtain ⟨f,m2⟩:=S
 dsimp only at HP ⊢
 clear H hm hN
 go_enter Tryz.func41,Tryz.ntmps41
 go_upto_region 1 with (fail)
 generalize w.heap.size = ba at *
 generalize w.alloc (.cells #[.string x.kind,.int .i64 x.A,.int .i64 x.B,.int .i64 x.C,.int .i64 x.D,.string x.S,v] 45) = wa at *
 have c0:=(la 15 h0 rfl).1 0
 have c1:=(la 15 h0 rfl).1 1
 go_wp2_with fail
 refine (HP.out _ _ h0).mono ?_
 rintro e w4 ⟨Y',hy,rfl,hx4,h4⟩
 go_wp2_with fail
 go_end0
 exact ⟨Y',hy,rfl,hxa.trans hx4,le 15 h4 rfl⟩
theorem Px (Y : YA) (m : ld) (N : Nat) (hm : lx N m) (hN : N + 2000 < 890000) (x : Act) (v gv : Value) (R : List SL.HP) (w : World) (H : own w (yL Y m R)) (k0 : ¬(x.kind.toList == [119,114,105,116,101]) = true) (k1 : ¬(x.kind.toList == [119,105,112,101]) = true) (k2 : ¬(x.kind.toList == [102,108,117,115,104]) = true) (k3 : ¬(x.kind.toList == [98,108,97,110,107]) = true) (k4 : ¬(x.kind.toList == [115,110,97,112]) = true) (k5 : ¬(x.kind.toList == [115,116,97,114,116]) = true) (k6 : ¬(x.kind.toList == [112,105,118,111,116]) = true) (k7 : ¬(x.kind.toList == [99,97,110,99,101,108]) = true) (k8 : ¬(x.kind.toList == [112,97,117,115,101]) = true) (k9 : (x.kind.toList == [116,105,99,107]) = true) :
  Calls Tryz.prog 41 #[.pointer (some ⟨Y.y,0,none⟩),gv,.agg #[.string x.kind,.int .i64 x.A,.int .i64 x.B,.int .i64 x.C,.int .i64 x.D,.string x.S,v]] w (Bo Y (zX m x.A).2 R w):=by
 have h0:=oY (lf H (.cells #[.string x.kind,.int .i64 x.A,.int .i64 x.B,.int .i64 x.C,.int .i64 x.D,.string x.S,v] 45))
 have hxa:=(zR w).alloc (.cells #[.string x.kind,.int .i64 x.A,.int .i64 x.B,.int .i64 x.C,.int .i64 x.D,.string x.S,v] 45)
 have HP:=zh (fun (R' : List SL.HP) w' h=>OC Y m hm.ok.jok x.A R' w' h)
 unfold yj at HP
 generalize zX m x.A = S at *
 obtain ⟨f,m2⟩:=S
 dsimp only at HP ⊢
 clear H hm hN
 go_enter Tryz.func41,Tryz.ntmps41
 go_upto_region 1 with (fail)
 generalize w.heap.size = ba at *
 generalize w.alloc (.cells #[.string x.kind,.int .i64 x.A,.int .i64 x.B,.int .i64 x.C,.int .i64 x.D,.string x.S,v] 45) = wa at *
 have c0:=(la 15 h0 rfl).1 0
 have c1:=(la 15 h0 rfl).1 1
 go_wp2_with fail
 refine (HP.out _ _ h0).mono ?_
 rintro e w4 ⟨Y',hy,rfl,hx4,h4⟩
 go_wp2_with fail
 go_end0
 exact ⟨Y',hy,rfl,hxa.trans hx4,le 15 h4 rfl⟩
theorem O0 (Y : YA) (m : ld) (N : Nat) (hm : lx N m) (hN : N + 2000 < 890000) (x : Act) (v gv : Value) (R : List SL.HP) (w : World) (H : own w (yL Y m R)) (k0 : ¬(x.kind.toList == [119,114,105,116,101]) = true) (k1 : ¬(x.kind.toList == [119,105,112,101]) = true) (k2 : ¬(x.kind.toList == [102,108,117,115,104]) = true) (k3 : ¬(x.kind.toList == [98,108,97,110,107]) = true) (k4 : ¬(x.kind.toList == [115,110,97,112]) = true) (k5 : ¬(x.kind.toList == [115,116,97,114,116]) = true) (k6 : ¬(x.kind.toList == [112,105,118,111,116]) = true) (k7 : ¬(x.kind.toList == [99,97,110,99,101,108]) = true) (k8 : ¬(x.kind.toList == [112,97,117,115,101]) = true) (k9 : ¬(x.kind.toList == [116,105,99,107]) = true) (k10 : (x.kind.toList == [102,97,105,108]) = true) :
  Calls Tryz.prog 41 #[.pointer (some ⟨Y.y,0,none⟩),gv,.agg #[.string x.kind,.int .i64 x.A,.int .i64 x.B,.int .i64 x.C,.int .i64 x.D,.string x.S,v]] w (Bo Y (armM m x.A x.B).2 R w):=by
 have h0:=oY (lf H (.cells #[.string x.kind,.int .i64 x.A,.int .i64 x.B,.int .i64 x.C,.int .i64 x.D,.string x.S,v] 45))
 have hxa:=(zR w).alloc (.cells #[.string x.kind,.int .i64 x.A,.int .i64 x.B,.int .i64 x.C,.int .i64 x.D,.string x.S,v] 45)
 have HP:=zh (fun (R' : List SL.HP) w' h=>OA Y m x.A x.B R' w' h)
 unfold yj at HP
 generalize armM m x.A x.B = S at *
 obtain ⟨f,m2⟩:=S
 dsimp only at HP ⊢
 clear H hm hN
 go_enter Tryz.func41,Tryz.ntmps41
 go_upto_region 1 with (fail)
 generalize w.heap.size = ba at *
 generalize w.alloc (.cells #[.string x.kind,.int .i64 x.A,.int .i64 x.B,.int .i64 x.C,.int .i64 x.D,.string x.S,v] 45) = wa at *
 have c0:=(la 15 h0 rfl).1 0
 have c1:=(la 15 h0 rfl).1 1
 have c2:=(la 15 h0 rfl).1 2
 go_wp2_with fail
 refine (HP.out _ _ h0).mono ?_
 rintro e w4 ⟨Y',hy,rfl,hx4,h4⟩
 go_wp2_with fail
 go_end0
 exact ⟨Y',hy,rfl,hxa.trans hx4,le 15 h4 rfl⟩
theorem PK (Y : YA) (m : ld) (N : Nat) (hm : lx N m) (hN : N + 2000 < 890000) (x : Act) (v gv : Value) (R : List SL.HP) (hT : ∀w' L,own w' (L++R) -> Ak w') (w : World) (H : own w (yL Y m R)) (k0 : ¬(x.kind.toList == [119,114,105,116,101]) = true) (k1 : ¬(x.kind.toList == [119,105,112,101]) = true) (k2 : ¬(x.kind.toList == [102,108,117,115,104]) = true) (k3 : ¬(x.kind.toList == [98,108,97,110,107]) = true) (k4 : ¬(x.kind.toList == [115,110,97,112]) = true) (k5 : ¬(x.kind.toList == [115,116,97,114,116]) = true) (k6 : ¬(x.kind.toList == [112,105,118,111,116]) = true) (k7 : ¬(x.kind.toList == [99,97,110,99,101,108]) = true) (k8 : ¬(x.kind.toList == [112,97,117,115,101]) = true) (k9 : ¬(x.kind.toList == [116,105,99,107]) = true) (k10 : ¬(x.kind.toList == [102,97,105,108]) = true) :
  Calls Tryz.prog 41 #[.pointer (some ⟨Y.y,0,none⟩),gv,.agg #[.string x.kind,.int .i64 x.A,.int .i64 x.B,.int .i64 x.C,.int .i64 x.D,.string x.S,v]] w (Bo Y (lZ m).2 R w):=by
 have h0:=oY (lf H (.cells #[.string x.kind,.int .i64 x.A,.int .i64 x.B,.int .i64 x.C,.int .i64 x.D,.string x.S,v] 45))
 have hxa:=(zR w).alloc (.cells #[.string x.kind,.int .i64 x.A,.int .i64 x.B,.int .i64 x.C,.int .i64 x.D,.string x.S,v] 45)
 have HP:=zh (fun (P : SL.HP) w' h=>Ei N Y m hm.ok (by omega) (hm.linkOk (by omega)) ([P]++R) (BY hT [P]) w' h)
 unfold Gh at HP
 generalize lZ m = S at *
 obtain ⟨⟨did,f⟩,m2⟩:=S
 dsimp only at HP ⊢
 clear hT
 clear H hm hN
 go_enter Tryz.func41,Tryz.ntmps41
 go_upto_region 1 with (fail)
 generalize w.heap.size = ba at *
 generalize w.alloc (.cells #[.string x.kind,.int .i64 x.A,.int .i64 x.B,.int .i64 x.C,.int .i64 x.D,.string x.S,v] 45) = wa at *
 have c0:=(la 15 h0 rfl).1 0
 go_wp2_with fail
 refine (HP.out _ _ h0).mono ?_
 rintro e w4 ⟨Y',hy,rfl,hx4,h4⟩
 go_wp2_with fail
 go_end0
 exact ⟨Y',hy,rfl,hxa.trans hx4,le 15 h4 rfl⟩
theorem N5 (Y : YA) (m : ld) (N : Nat) (hm : lx N m) (hN : N + 2000 < 890000) (x : Act) (v gv : Value) (R : List SL.HP) (gb : Nat) (vn vc : Value) (nv cv : Nat -> Value) (g : lK) (hgv : gv = .pointer (some ⟨gb,0,none⟩)) (hc : g.cr.length = g.now.length) (hn : g.now.length <= 1000) (B : Nat) (hB : LsOk g B) (hB2 : B <= 100000) (w : World) (H : own w (yL Y m (gL gb vn vc nv cv g++R))) (k0 : ¬(x.kind.toList == [119,114,105,116,101]) = true) (k1 : ¬(x.kind.toList == [119,105,112,101]) = true) (k2 : (x.kind.toList == [102,108,117,115,104]) = true) :
  Calls Tryz.prog 41 #[.pointer (some ⟨Y.y,0,none⟩),gv,.agg #[.string x.kind,.int .i64 x.A,.int .i64 x.B,.int .i64 x.C,.int .i64 x.D,.string x.S,v]] w (EW Y gb vn vc (Bz m) (AV g) R w):=by
 have h0:=oY (lf H (.cells #[.string x.kind,.int .i64 x.A,.int .i64 x.B,.int .i64 x.C,.int .i64 x.D,.string x.S,v] 45))
 have hxa:=(zR w).alloc (.cells #[.string x.kind,.int .i64 x.A,.int .i64 x.B,.int .i64 x.C,.int .i64 x.D,.string x.S,v] 45)
 subst hgv
 have HP:=zh (fun (R' : List SL.HP) w' h=>Mf N Y m hm.ok (by omega) R' w' h)
 have HG:=zh (fun (R' : List SL.HP) w' h=>Ls gb vn vc nv cv g hc hn hB hB2 R' w' h)
 generalize Bz m = m2 at *
 generalize AV g = g2 at *
 clear hc hn hB hB2
 clear H hm hN
 go_enter Tryz.func41,Tryz.ntmps41
 go_upto_region 1 with (fail)
 generalize w.heap.size = ba at *
 generalize w.alloc (.cells #[.string x.kind,.int .i64 x.A,.int .i64 x.B,.int .i64 x.C,.int .i64 x.D,.string x.S,v] 45) = wa at *
 have c0:=(la 15 h0 rfl).1 0
 go_wp2_with fail
 refine (HP.out _ _ h0).mono ?_
 rintro e w4 ⟨rfl,hx4,h4⟩
 go_wp2_with fail
 refine (HG.out _ _ (yg_g h4)).mono ?_
 rintro e w5 ⟨cv5,rfl,hx5,h5⟩
 go_wp2_with fail
 go_end0
 exact ⟨Y,nv,cv5,rfl,rfl,(hxa.trans hx4).trans hx5,le 15 (yg_y h5) rfl⟩
theorem NX (Y : YA) (m : ld) (N : Nat) (hm : lx N m) (hN : N + 2000 < 890000) (x : Act) (v gv : Value) (R : List SL.HP) (gb : Nat) (vn vc : Value) (nv cv : Nat -> Value) (g : lK) (hgv : gv = .pointer (some ⟨gb,0,none⟩)) (hc : g.cr.length = g.now.length) (hn : g.now.length <= 1000) (B : Nat) (hB : LsOk g B) (hB2 : B <= 100000) (hA : oy x.A) (hS : x.S.size <= 700) (hwr : (oG m x.A x.S).1≠1 -> 0 <= x.A /\ x.A + ((x.S.size / 16 : Nat) : Int) <= (g.now.length : Int) /\ x.S.size % 16 = 0) (hcd : 0 <= (oG m x.A x.S).1) (w : World) (H : own w (yL Y m (gL gb vn vc nv cv g++R))) (k0 : (x.kind.toList == [119,114,105,116,101]) = true) :
  Calls Tryz.prog 41 #[.pointer (some ⟨Y.y,0,none⟩),gv,.agg #[.string x.kind,.int .i64 x.A,.int .i64 x.B,.int .i64 x.C,.int .i64 x.D,.string x.S,v]] w (EW Y gb vn vc (oG m x.A x.S).2 (if (oG m x.A x.S).1 = 1 then g else zx g x.A.toNat x.S (decide ((oG m x.A x.S).1 = 0))) R w):=by
 have h0:=oY (lf H (.cells #[.string x.kind,.int .i64 x.A,.int .i64 x.B,.int .i64 x.C,.int .i64 x.D,.string x.S,v] 45))
 have hxa:=(zR w).alloc (.cells #[.string x.kind,.int .i64 x.A,.int .i64 x.B,.int .i64 x.C,.int .i64 x.D,.string x.S,v] 45)
 subst hgv
 have HP:=zh (fun (R' : List SL.HP) w' h=>QU N Y m hm.ok (by omega) x.A hA x.S (by omega) R' w' h)
 have HG:=(fun (h1 : (oG m x.A x.S).1≠1)=>fun (R' : List SL.HP) w' h=>by have h2:=Jh gb vn vc nv cv g x.A.toNat x.S (decide ((oG m x.A x.S).1 = 0)) (hwr h1).2.2 (by omega) (by have:=hwr h1; omega) hc hn hB hB2 R' w' h; rw [Int.toNat_of_nonneg (hwr h1).1] at h2; exact h2)
 unfold yj at HP
 generalize oG m x.A x.S = S at *
 obtain ⟨f,m2⟩:=S
 dsimp only at HP HG hcd ⊢
 clear hc hn hB hB2 hwr hA hS hm hN
 generalize hg2 : (if f = 1 then g else zx g x.A.toNat x.S (decide (f = 0))) = g2
 have HIS:=zh (fun w=>JQ f 1 w hcd)
 by_cases h1 : f = 1
 ·rw [zt h1] at hg2
  have HG2:=zh hg2
  subst h1
  rw [lu (by decide)] at HIS HP
  rw [zg rfl] at HIS
  clear hcd HG hg2
  clear H
  go_enter Tryz.func41,Tryz.ntmps41
  go_upto_region 1 with (fail)
  generalize w.heap.size = ba at *
  generalize w.alloc (.cells #[.string x.kind,.int .i64 x.A,.int .i64 x.B,.int .i64 x.C,.int .i64 x.D,.string x.S,v] 45) = wa at *
  have c0:=(la 15 h0 rfl).1 0
  have c1:=(la 15 h0 rfl).1 1
  have c5:=(la 15 h0 rfl).1 5
  go_wp2_with fail
  refine (HP.out _ _ h0).mono ?_
  rintro e w4 ⟨Y',hy,rfl,hx4,h4⟩
  have h5:=yg_g h4
  clear h0
  go_wp2_with fail
  refine (HIS.out _).mono ?_
  rintro e w5 ⟨rfl,rfl⟩
  go_wp2_with fail
  go_end0
  exact ⟨Y',nv,cv,hy,rfl,hxa.trans hx4,by rw [<- HG2.out]; exact le 15 h4 rfl⟩
 rw [zq h1] at hg2
 rw [zf h1] at HIS
 have HG:=HG h1
 rw [hg2] at HG
 have HGW:=zh HG
 clear HG
 by_cases hf : f = 0
 ·subst hf
  rw [lL] at HIS HP
  rw [zg rfl] at HGW
  clear hcd hg2 h1
  clear H
  go_enter Tryz.func41,Tryz.ntmps41
  go_upto_region 1 with (fail)
  generalize w.heap.size = ba at *
  generalize w.alloc (.cells #[.string x.kind,.int .i64 x.A,.int .i64 x.B,.int .i64 x.C,.int .i64 x.D,.string x.S,v] 45) = wa at *
  have c0:=(la 15 h0 rfl).1 0
  have c1:=(la 15 h0 rfl).1 1
  have c5:=(la 15 h0 rfl).1 5
  go_wp2_with fail
  refine (HP.out _ _ h0).mono ?_
  rintro e w4 ⟨Y',hy,rfl,hx4,h4⟩
  have h5:=yg_g h4
  clear h0
  go_wp2_with fail
  refine (HIS.out _).mono ?_
  rintro e w5 ⟨rfl,rfl⟩
  go_upto_region 6 with (fail)
  have h6:=lj h5
  refine wp_region_held_drew (S:=fun w'=>w'.cell? ⟨ba,1,none⟩ = some (.int .i64 x.A) /\ w'.cell? ⟨ba,5,none⟩ = some (.string x.S)) (by kernel_rfl) ⟨(la 15 (lj h4) rfl).1 1,(la 15 (lj h4) rfl).1 5⟩ (fun hHeld=>?_)
  refine tk 0 ?_
  refine tk 1 ?_
  refine tk 2 ?_
  refine tk 3 ?_
  refine tk 4 ?_
  refine tk 5 ?_
  refine tk 6 ?_
  try simp only [Act.put,tA,tB,tC,tD,tE,tF]
  refine rd 7 rfl fun K hK=>?_
  go_simp
  go_at_call 140
  refine (HGW.out _ _ h6).mono ?_
  rintro e w7 ⟨nv7,cv7,rfl,hx7,h7⟩
  have h8:=yg_y h7
  refine hK.out _ _ ⟨(la 15 h8 rfl).1 1,(la 15 h8 rfl).1 5⟩ (fun _=>?_)
  clear hK K h6
  try simp only [Act.put,tA,tB,tC,tD,tE,tF]
  refine wpAnyH_done (by kernel_rfl) ?_ _
  go_wp2_with fail
  go_end0
  exact ⟨Y',nv7,cv7,hy,rfl,(hxa.trans hx4).drew.trans hx7,le 15 h8 rfl⟩
 ·have hp : 0 < f:=by omega
  rw [lu hp] at HIS HP
  rw [zf hf] at HGW
  clear hcd hg2 h1 hp hf
  clear H
  go_enter Tryz.func41,Tryz.ntmps41
  go_upto_region 1 with (fail)
  generalize w.heap.size = ba at *
  generalize w.alloc (.cells #[.string x.kind,.int .i64 x.A,.int .i64 x.B,.int .i64 x.C,.int .i64 x.D,.string x.S,v] 45) = wa at *
  have c0:=(la 15 h0 rfl).1 0
  have c1:=(la 15 h0 rfl).1 1
  have c5:=(la 15 h0 rfl).1 5
  go_wp2_with fail
  refine (HP.out _ _ h0).mono ?_
  rintro e w4 ⟨Y',hy,rfl,hx4,h4⟩
  have h5:=yg_g h4
  clear h0
  go_wp2_with fail
  refine (HIS.out _).mono ?_
  rintro e w5 ⟨rfl,rfl⟩
  go_upto_region 6 with (fail)
  have h6:=lj h5
  refine wp_region_held_drew (S:=fun w'=>w'.cell? ⟨ba,1,none⟩ = some (.int .i64 x.A) /\ w'.cell? ⟨ba,5,none⟩ = some (.string x.S)) (by kernel_rfl) ⟨(la 15 (lj h4) rfl).1 1,(la 15 (lj h4) rfl).1 5⟩ (fun hHeld=>?_)
  refine tk 0 ?_
  refine tk 1 ?_
  refine tk 2 ?_
  refine tk 3 ?_
  refine tk 4 ?_
  refine tk 5 ?_
  refine tk 6 ?_
  try simp only [Act.put,tA,tB,tC,tD,tE,tF]
  refine rd 7 rfl fun K hK=>?_
  go_simp
  go_at_call 140
  refine (HGW.out _ _ h6).mono ?_
  rintro e w7 ⟨nv7,cv7,rfl,hx7,h7⟩
  have h8:=yg_y h7
  refine hK.out _ _ ⟨(la 15 h8 rfl).1 1,(la 15 h8 rfl).1 5⟩ (fun _=>?_)
  clear hK K h6
  try simp only [Act.put,tA,tB,tC,tD,tE,tF]
  refine wpAnyH_done (by kernel_rfl) ?_ _
  go_wp2_with fail
  go_end0
  exact ⟨Y',nv7,cv7,hy,rfl,(hxa.trans hx4).drew.trans hx7,le 15 h8 rfl⟩
theorem Po (Y : YA) (m : ld) (N : Nat) (hm : lx N m) (hN : N + 2000 < 890000) (x : Act) (v gv : Value) (R : List SL.HP) (gb : Nat) (vn vc : Value) (nv cv : Nat -> Value) (g : lK) (hgv : gv = .pointer (some ⟨gb,0,none⟩)) (hc : g.cr.length = g.now.length) (hn : g.now.length <= 1000) (B : Nat) (hB : LsOk g B) (hB2 : B <= 100000) (hA : oy x.A) (hBi : oy x.B) (hwr : (oD m x.A x.B).1≠1 -> 0 <= x.A /\ x.A + ((x.B.toNat : Nat) : Int) <= (g.now.length : Int) /\ 0 <= x.B /\ x.B <= 200) (hcd : 0 <= (oD m x.A x.B).1) (w : World) (H : own w (yL Y m (gL gb vn vc nv cv g++R))) (k0 : ¬(x.kind.toList == [119,114,105,116,101]) = true) (k1 : (x.kind.toList == [119,105,112,101]) = true) :
  Calls Tryz.prog 41 #[.pointer (some ⟨Y.y,0,none⟩),gv,.agg #[.string x.kind,.int .i64 x.A,.int .i64 x.B,.int .i64 x.C,.int .i64 x.D,.string x.S,v]] w (EW Y gb vn vc (oD m x.A x.B).2 (if (oD m x.A x.B).1 = 1 then g else zx g x.A.toNat (zs (16 * x.B.toNat)) (decide ((oD m x.A x.B).1 = 0))) R w):=by
 have h0:=oY (lf H (.cells #[.string x.kind,.int .i64 x.A,.int .i64 x.B,.int .i64 x.C,.int .i64 x.D,.string x.S,v] 45))
 have hxa:=(zR w).alloc (.cells #[.string x.kind,.int .i64 x.A,.int .i64 x.B,.int .i64 x.C,.int .i64 x.D,.string x.S,v] 45)
 subst hgv
 have HP:=zh (fun (R' : List SL.HP) w' h=>Oy N Y m hm.ok (by omega) x.A x.B hA hBi R' w' h)
 have HG:=(fun (h1 : (oD m x.A x.B).1≠1)=>fun (R' : List SL.HP) w' h=>by have h2:=Jh gb vn vc nv cv g x.A.toNat (zs (16 * x.B.toNat)) (decide ((oD m x.A x.B).1 = 0)) (by rw [zl]; omega) (by rw [zl]; have:=hwr h1; omega) (by rw [zl]; have:=hwr h1; omega) hc hn hB hB2 R' w' h; rw [Int.toNat_of_nonneg (hwr h1).1] at h2; exact h2)
 have HNO:=(fun (h1 : (oD m x.A x.B).1≠1)=>zh (fun (R' : List SL.HP) w' h=>by have h2:=CX (16 * x.B.toNat) (by have:=hwr h1; omega) R' w' h; rw [show ((16 * x.B.toNat : Nat) : Int) = 16 * x.B from by have:=hwr h1; omega] at h2; exact h2))
 have e1:=(fun (h1 : (oD m x.A x.B).1≠1)=>show IntKind.i64.wrap (16 * x.B) = 16 * x.B by have:=hwr h1; exact zi _ (by omega))
 have m1:=fun (h1 : (oD m x.A x.B).1≠1)=>(hwr h1).2.2
 unfold yj at HP
 generalize oD m x.A x.B = S at *
 obtain ⟨f,m2⟩:=S
 dsimp only at HP HG hcd HNO e1 m1 ⊢
 clear hc hn hB hB2 hwr hA hBi hm hN
 generalize hg2 : (if f = 1 then g else zx g x.A.toNat (zs (16 * x.B.toNat)) (decide (f = 0))) = g2
 have HIS:=zh (fun w=>JQ f 1 w hcd)
 by_cases h1 : f = 1
 ·rw [zt h1] at hg2
  have HG2:=zh hg2
  subst h1
  rw [lu (by decide)] at HIS HP
  rw [zg rfl] at HIS
  clear hcd HG hg2 HNO e1 m1
  clear H
  go_enter Tryz.func41,Tryz.ntmps41
  go_upto_region 1 with (fail)
  generalize w.heap.size = ba at *
  generalize w.alloc (.cells #[.string x.kind,.int .i64 x.A,.int .i64 x.B,.int .i64 x.C,.int .i64 x.D,.string x.S,v] 45) = wa at *
  have c0:=(la 15 h0 rfl).1 0
  have c1:=(la 15 h0 rfl).1 1
  have c2:=(la 15 h0 rfl).1 2
  go_wp2_with fail
  refine (HP.out _ _ h0).mono ?_
  rintro e w4 ⟨Y',hy,rfl,hx4,h4⟩
  have h5:=yg_g h4
  clear h0
  go_wp2_with fail
  refine (HIS.out _).mono ?_
  rintro e w5 ⟨rfl,rfl⟩
  go_wp2_with fail
  go_end0
  exact ⟨Y',nv,cv,hy,rfl,hxa.trans hx4,by rw [<- HG2.out]; exact le 15 h4 rfl⟩
 rw [zq h1] at hg2
 rw [zf h1] at HIS
 have HG:=HG h1
 have HNW:=HNO h1
 have ew:=e1 h1
 have mw:=m1 h1
 clear HNO e1 m1
 rw [hg2] at HG
 have HGW:=zh HG
 clear HG
 by_cases hf : f = 0
 ·subst hf
  rw [lL] at HIS HP
  rw [zg rfl] at HGW
  clear hcd hg2 h1
  clear H
  go_enter Tryz.func41,Tryz.ntmps41
  go_upto_region 1 with (fail)
  generalize w.heap.size = ba at *
  generalize w.alloc (.cells #[.string x.kind,.int .i64 x.A,.int .i64 x.B,.int .i64 x.C,.int .i64 x.D,.string x.S,v] 45) = wa at *
  have c0:=(la 15 h0 rfl).1 0
  have c1:=(la 15 h0 rfl).1 1
  have c2:=(la 15 h0 rfl).1 2
  go_wp2_with fail
  refine (HP.out _ _ h0).mono ?_
  rintro e w4 ⟨Y',hy,rfl,hx4,h4⟩
  have h5:=yg_g h4
  clear h0
  go_wp2_with fail
  refine (HIS.out _).mono ?_
  rintro e w5 ⟨rfl,rfl⟩
  go_upto_region 10 with (fail)
  have h6:=lj h5
  refine wp_region_held_drew (S:=fun w'=>w'.cell? ⟨ba,1,none⟩ = some (.int .i64 x.A) /\ w'.cell? ⟨ba,2,none⟩ = some (.int .i64 x.B)) (by kernel_rfl) ⟨(la 15 (lj h4) rfl).1 1,(la 15 (lj h4) rfl).1 2⟩ (fun hHeld=>?_)
  refine tk 0 ?_
  refine tk 1 ?_
  refine tk 2 ?_
  refine tk 3 ?_
  refine tk 4 ?_
  refine tk 5 ?_
  try simp only [Act.put,tA,tB,tC,tD,tE,tF]
  refine tk 7 ?_
  refine tk 8 ?_
  try simp only [Act.put,tA,tB,tC,tD,tE,tF]
  refine rd 6 rfl fun K hK=>?_
  go_simp
  go_at_call 92
  refine (HNW.out _ _ h6).mono ?_
  rintro e w6 ⟨rfl,hx6,h6'⟩
  refine hK.out _ _ ⟨(la 15 (yg_y h6') rfl).1 1,(la 15 (yg_y h6') rfl).1 2⟩ (fun _=>?_)
  clear hK K h6
  try simp only [Act.put,tA,tB,tC,tD,tE,tF]
  refine rd 9 rfl fun K hK=>?_
  go_simp
  go_at_call 140
  refine (HGW.out _ _ h6').mono ?_
  rintro e w7 ⟨nv7,cv7,rfl,hx7,h7⟩
  have h8:=yg_y h7
  refine hK.out _ _ ⟨(la 15 h8 rfl).1 1,(la 15 h8 rfl).1 2⟩ (fun _=>?_)
  clear hK K h6'
  try simp only [Act.put,tA,tB,tC,tD,tE,tF]
  refine wpAnyH_done (by kernel_rfl) ?_ _
  go_wp2_with fail
  go_end0
  exact ⟨Y',nv7,cv7,hy,rfl,((hxa.trans hx4).drew.trans hx6).trans hx7,le 15 h8 rfl⟩
 ·have hp : 0 < f:=by omega
  rw [lu hp] at HIS HP
  rw [zf hf] at HGW
  clear hcd hg2 h1 hp hf
  clear H
  go_enter Tryz.func41,Tryz.ntmps41
  go_upto_region 1 with (fail)
  generalize w.heap.size = ba at *
  generalize w.alloc (.cells #[.string x.kind,.int .i64 x.A,.int .i64 x.B,.int .i64 x.C,.int .i64 x.D,.string x.S,v] 45) = wa at *
  have c0:=(la 15 h0 rfl).1 0
  have c1:=(la 15 h0 rfl).1 1
  have c2:=(la 15 h0 rfl).1 2
  go_wp2_with fail
  refine (HP.out _ _ h0).mono ?_
  rintro e w4 ⟨Y',hy,rfl,hx4,h4⟩
  have h5:=yg_g h4
  clear h0
  go_wp2_with fail
  refine (HIS.out _).mono ?_
  rintro e w5 ⟨rfl,rfl⟩
  go_upto_region 10 with (fail)
  have h6:=lj h5
  refine wp_region_held_drew (S:=fun w'=>w'.cell? ⟨ba,1,none⟩ = some (.int .i64 x.A) /\ w'.cell? ⟨ba,2,none⟩ = some (.int .i64 x.B)) (by kernel_rfl) ⟨(la 15 (lj h4) rfl).1 1,(la 15 (lj h4) rfl).1 2⟩ (fun hHeld=>?_)
  refine tk 0 ?_
  refine tk 1 ?_
  refine tk 2 ?_
  refine tk 3 ?_
  refine tk 4 ?_
  refine tk 5 ?_
  try simp only [Act.put,tA,tB,tC,tD,tE,tF]
  refine tk 7 ?_
  refine tk 8 ?_
  try simp only [Act.put,tA,tB,tC,tD,tE,tF]
  refine rd 6 rfl fun K hK=>?_
  go_simp
  go_at_call 92
  refine (HNW.out _ _ h6).mono ?_
  rintro e w6 ⟨rfl,hx6,h6'⟩
  refine hK.out _ _ ⟨(la 15 (yg_y h6') rfl).1 1,(la 15 (yg_y h6') rfl).1 2⟩ (fun _=>?_)
  clear hK K h6
  try simp only [Act.put,tA,tB,tC,tD,tE,tF]
  refine rd 9 rfl fun K hK=>?_
  go_simp
  go_at_call 140
  refine (HGW.out _ _ h6').mono ?_
  rintro e w7 ⟨nv7,cv7,rfl,hx7,h7⟩
  have h8:=yg_y h7
  refine hK.out _ _ ⟨(la 15 h8 rfl).1 1,(la 15 h8 rfl).1 2⟩ (fun _=>?_)
  clear hK K h6'
  try simp only [Act.put,tA,tB,tC,tD,tE,tF]
  refine wpAnyH_done (by kernel_rfl) ?_ _
  go_wp2_with fail
  go_end0
  exact ⟨Y',nv7,cv7,hy,rfl,((hxa.trans hx4).drew.trans hx6).trans hx7,le 15 h8 rfl⟩
theorem LsOk.mono {g : lK} {B B' : Nat} (h : LsOk g B) (hb : B <= B') : LsOk g B':=fun i hi=>by
 obtain ⟨a,b,c,d⟩:=h i hi
 exact ⟨a,by omega,c,by omega⟩
theorem OH {C : Int} {m : ld} {g : lK} {B N : Nat} (h : GI C m g) (hg : lx N m) (hN : N + 2000 < 890000) (hB : LsOk g B) (x : Act) (hS : x.S.size <= 700) : LsOk (didG m g x) (B + 1):=by
 have hn:=h.n
 have hc:=h.cr
 unfold didG
 by_cases k0 : (x.kind.toList == [119,114,105,116,101]) = true
 ·rw [zt k0]
  by_cases h1 : (oG m x.A x.S).1 = 1
  ·rw [zt h1]; exact hB.mono (by omega)
  ·rw [zq h1]
   have hr:=(CT h.t hg.ok (by omega) x.A x.S (by omega)).1.rng h1
   exact Cn (by omega) (by omega) hB
 rw [zq k0]
 by_cases k1 : (x.kind.toList == [119,105,112,101]) = true
 ·rw [zt k1]
  by_cases h1 : (oD m x.A x.B).1 = 1
  ·rw [zt h1]; exact hB.mono (by omega)
  ·rw [zq h1]
   by_cases hb : x.B <= 200
   ·have hr:=(DJ h.t hg.ok (by omega) x.A x.B hb).1.rng h1
    unfold zx
    rw [show (zs (16 * x.B.toNat)).size / 16 = x.B.toNat by rw [zl]; omega]
    exact Cn (by omega) (by omega) hB
   ·exact absurd (by rw [CJ hg.ok (by omega) hb]) h1
 rw [zq k1]
 by_cases k2 : (x.kind.toList == [102,108,117,115,104]) = true
 ·rw [zt k2]
  intro i hi
  obtain ⟨a,b,-,-⟩:=hB i hi
  show 0 < (lsAt g.now i).length /\ (lsAt g.now i).length <= B + 1 /\ 0 < (lsAt g.now i).length /\ (lsAt g.now i).length <= B + 1
  exact ⟨a,by omega,a,by omega⟩
 rw [zq k2]
 exact hB.mono (by omega)
theorem K3 (n : Nat) : LsOk (yM n) 1:=by
 intro i hi
 have hi' : i < n:=by simpa [yM] using hi
 have e : lsAt (List.replicate n [zs 16]) i = [zs 16]:=by
  unfold lsAt
  rw [List.getD_eq_getElem?_getD,List.getElem?_replicate_of_lt hi']
  rfl
 show 0 < (lsAt (List.replicate n [zs 16]) i).length /\ (lsAt (List.replicate n [zs 16]) i).length <= 1 /\ 0 < (lsAt (List.replicate n [zs 16]) i).length /\ (lsAt (List.replicate n [zs 16]) i).length <= 1
 rw [e]
 exact ⟨Nat.one_pos,Nat.le_refl _,Nat.one_pos,Nat.le_refl _⟩
theorem yg_0 {Y : YA} {m : ld} {L R : List SL.HP} {w : World} (H : own w (L++yL Y m R)) : own w (yL Y m (L++R)):=by
 have h:=lp L (shL Y.bs Y.A m.F++yT Y m) (R:=R) (by simpa only [zp,List.cons_append,List.nil_append] using H)
 simpa only [zp,List.cons_append,List.nil_append] using h
theorem Qm {C : Int} {N : Nat} (Y : YA) (m : ld) (hg : lx N m) (hN : N + 2000 < 890000) (x : Act) (hA : oy x.A) (hB : oy x.B) (hS : x.S.size <= 700) (v : Value) (gb : Nat) (vn vc : Value) (nv cv : Nat -> Value) (g : lK) (h : GI C m g) (hn : g.now.length <= 1000) (B : Nat) (hl : LsOk g B) (hB2 : B <= 100000) (R : List SL.HP) (hT : ∀w' L,own w' (L++R) -> Ak w') (w : World) (H : own w (yL Y m (gL gb vn vc nv cv g++R))) :
  Calls Tryz.prog 41 #[.pointer (some ⟨Y.y,0,none⟩),.pointer (some ⟨gb,0,none⟩),.agg #[.string x.kind,.int .i64 x.A,.int .i64 x.B,.int .i64 x.C,.int .i64 x.D,.string x.S,v]] w (EW Y gb vn vc (didY m x) (didG m g x) R w):=by
 have hcn:=h.n
 unfold didY didG
 by_cases k0 : (x.kind.toList == [119,114,105,116,101]) = true
 ·rw [zt k0,zt k0]
  have W:=CT h.t hg.ok (by omega) x.A x.S (by omega)
  exact NX Y m N hg hN x v _ R gb vn vc nv cv g rfl h.cr hn B hl hB2 hA hS (fun h1=>⟨(W.1.rng h1).1,by have:=(W.1.rng h1).2; omega,W.2 h1⟩) (KL _ _ _) w H k0
 rw [zq k0,zq k0]
 by_cases k1 : (x.kind.toList == [119,105,112,101]) = true
 ·rw [zt k1,zt k1]
  refine Po Y m N hg hN x v _ R gb vn vc nv cv g rfl h.cr hn B hl hB2 hA hB (fun h1=>?_) (KY _ _ _) w H k0 k1
  by_cases hb : x.B <= 200
  ·have W:=DJ h.t hg.ok (by omega) x.A x.B hb
   exact ⟨(W.1.rng h1).1,by have:=(W.1.rng h1).2; omega,W.2 h1,hb⟩
  ·exact absurd (by rw [CJ hg.ok (by omega) hb]) h1
 rw [zq k1,zq k1]
 by_cases k2 : (x.kind.toList == [102,108,117,115,104]) = true
 ·rw [zt k2,zt k2]
  exact N5 Y m N hg hN x v _ R gb vn vc nv cv g rfl h.cr hn B hl hB2 w H k0 k1 k2
 rw [zq k2,zq k2]
 by_cases k3 : (x.kind.toList == [98,108,97,110,107]) = true
 ·rw [zt k3]
  exact (Ow Y m N hg hN x v _ _ w H k0 k1 k2 k3).mono fun _ _ h=>h.g
 rw [zq k3]
 by_cases k4 : (x.kind.toList == [115,110,97,112]) = true
 ·rw [zt k4]
  exact (PG Y m N hg hN x v _ _ w H k0 k1 k2 k3 k4).mono fun _ _ h=>h.g
 rw [zq k4]
 by_cases k5 : (x.kind.toList == [115,116,97,114,116]) = true
 ·rw [zt k5]
  exact (Oh Y m N hg hN x v _ _ w H k0 k1 k2 k3 k4 k5).mono fun _ _ h=>h.g
 rw [zq k5]
 by_cases k6 : (x.kind.toList == [112,105,118,111,116]) = true
 ·rw [zt k6]
  exact (NU Y m N hg hN x v _ _ w H k0 k1 k2 k3 k4 k5 k6).mono fun _ _ h=>h.g
 rw [zq k6]
 by_cases k7 : (x.kind.toList == [99,97,110,99,101,108]) = true
 ·rw [zt k7]
  exact (M2 Y m N hg hN x v _ _ w H k0 k1 k2 k3 k4 k5 k6 k7).mono fun _ _ h=>h.g
 rw [zq k7]
 by_cases k8 : (x.kind.toList == [112,97,117,115,101]) = true
 ·rw [zt k8]
  exact (Ot Y m N hg hN x v _ _ w H k0 k1 k2 k3 k4 k5 k6 k7 k8).mono fun _ _ h=>h.g
 rw [zq k8]
 by_cases k9 : (x.kind.toList == [116,105,99,107]) = true
 ·rw [zt k9]
  exact (Px Y m N hg hN x v _ _ w H k0 k1 k2 k3 k4 k5 k6 k7 k8 k9).mono fun _ _ h=>h.g
 rw [zq k9]
 by_cases k10 : (x.kind.toList == [102,97,105,108]) = true
 ·rw [zt k10]
  exact (O0 Y m N hg hN x v _ _ w H k0 k1 k2 k3 k4 k5 k6 k7 k8 k9 k10).mono fun _ _ h=>h.g
 rw [zq k10]
 exact (PK Y m N hg hN x v _ _ (BY hT (gL gb vn vc nv cv g)) w H k0 k1 k2 k3 k4 k5 k6 k7 k8 k9 k10).mono fun _ _ h=>h.g
theorem QT (c p : Int) (h : ¬(1 <= c /\ c <= 32 /\ 0 <= p /\ p <= 40)) (w : World) :
  Calls Tryz.prog 40 #[.int .i64 c,.int .i64 p] w fun e w'=>e = .returned (.tuple #[.pointer none,.pointer none,.bool false]) /\ w = w':=by
 have hd : decide (c < 1) = true \/ (decide (c < 1) = false /\ decide (32 < c) = true) \/ (decide (c < 1) = false /\ decide (32 < c) = false /\ decide (p < 0) = true) \/ (decide (c < 1) = false /\ decide (32 < c) = false /\ decide (p < 0) = false /\ decide (40 < p) = true):=by
  simp only [decide_eq_true_eq,decide_eq_false_iff_not]
  omega
 clear h
 rcases hd with d0 | ⟨d0,d1⟩ | ⟨d0,d1,d2⟩ | ⟨d0,d1,d2,d3⟩
 all_goals
  go_enter Tryz.func40,Tryz.ntmps40
  go_wp2_with fail
  go_ret3
  exact ⟨rfl,rfl⟩
theorem O2 (c p : Int) (h : 1 <= c /\ c <= 32 /\ 0 <= p /\ p <= 40) (R : List SL.HP) (w : World) (H : own w R) :
  Calls Tryz.prog 40 #[.int .i64 c,.int .i64 p] w fun e w'=>∃(Y : YA) (gb : Nat) (vn vc : Value) (nv cv : Nat -> Value),e = .returned (.tuple #[.pointer (some ⟨Y.y,0,none⟩),.pointer (some ⟨gb,0,none⟩),.bool true]) /\ Ext w w' /\ own w' (yL Y (yR c p) (gL gb vn vc nv cv (yM (4 * c.toNat))++R)):=by
 obtain ⟨h1,h2,h3,h4⟩:=h
 have hb : ¬lH c p (-1):=by unfold lH; omega
 have HN:=zh (fun R w H=>PE c p hb R w H)
 have HF:=zh (fun R w H=>by have h2:=M7 (4 * c.toNat) (by omega) R w H; rw [show ((4 * c.toNat : Nat) : Int) = 4 * c from by omega] at h2; exact h2)
 have e1 : IntKind.i64.wrap (4 * c) = 4 * c:=zi _ (by omega)
 have d0 : decide (c < 1) = false:=zf (by omega)
 have d1 : decide (32 < c) = false:=zf (by omega)
 have d2 : decide (p < 0) = false:=zf (by omega)
 have d3 : decide (40 < p) = false:=zf (by omega)
 generalize yR c p = m0 at *
 clear hb
 go_enter Tryz.func40,Tryz.ntmps40
 go_wp2_with fail
 refine (HN.out _ _ H).mono ?_
 rintro e w2 ⟨Y,rfl,hx2,hw2⟩
 go_wp2_with fail
 refine (HF.out _ _ hw2).mono ?_
 rintro e w3 ⟨gb,vn,vc,nv,cv,rfl,hx3,hw3⟩
 go_wp2_with fail
 go_ret3
 exact ⟨Y,gb,vn,vc,nv,cv,rfl,hx2.trans hx3,yg_0 hw3⟩
theorem CF {Y : YA} {m : ld} {L R : List SL.HP} {w : World} (H : own w (yL Y m (L++R))) : own w R:=NG (shL Y.bs Y.A m.F++(yT Y m++L)) (by simpa only [zp] using H)
theorem L2 {Y : YA} {m : ld} {L R : List SL.HP} {w : World} (H : own w (yL Y m (L++R))) : own w (L++yL Y m R):=by
 have h:=lp (shL Y.bs Y.A m.F++yT Y m) L (R:=R) (by simpa only [zp,List.cons_append,List.nil_append] using H)
 simpa only [zp,List.cons_append,List.nil_append] using h
end Go.Proofs.YtbpblokfiajpjabGreatDoor
namespace Go.Proofs.YtbpblokfiajpjabGreatDoor
open Go.RowKit Go.SL Go.Crc
abbrev NfR (r : Int×DevM) : Prop:=r.2.fail = -1 /\ r.1≠7
theorem Ar {d : DevM} (h : d.fail = -1) (a : Int) (s : ByteArray) : NfR (d.write a s):=by
 unfold DevM.write
 split
 ·exact ⟨h,by simp⟩
 ·rw [zq (by omega)]
  exact ⟨by dsimp only; rw [zq (by omega)]; exact h,by simp⟩
theorem Io : ∀{l : List ByteArray} {d : DevM} {a : Int},d.fail = -1 -> NfR (d.puts a l):=by
 intro l
 induction l with
 | nil=>intro d a h; exact ⟨h,by show (0 : Int)≠7; decide⟩
 | cons s l ih=>
  intro d a h
  rw [DevM.puts]
  split
  ·exact Ar h a s
  ·exact ih (Ar h a s).1
abbrev NfI (r : Int×ImgM) : Prop:=r.2.d.fail = -1 /\ r.1≠7
section
variable {m : ImgM} (h : m.d.fail = -1)
include h
theorem LT (k : Nat) (e : Ent) : NfI (m.setE k e):=by
 have hw:=Ar h (1 + (k / 8 : Nat)) (lS (m.t.set k e) (k / 8 : Nat)).1
 unfold ImgM.setE
 dsimp only
 split
 ·exact hw
 ·exact ⟨hw.1,by simp⟩
theorem J7 (k : Int) : NfI (m.clear k):=by
 unfold ImgM.clear
 split
 ·split
  ·exact ⟨h,by simp⟩
  ·exact LT h _ _
 ·exact ⟨h,by simp⟩
theorem PC : m.flush.d.fail = -1:=h
theorem Qd (k fr : Int) (s : ByteArray) : NfI (m.wr k fr s):=by
 unfold ImgM.wr
 split
 ·exact ⟨h,by simp⟩
 ·split
  ·exact ⟨h,by simp⟩
  ·exact Io h
theorem LX (k : Int) (s : ByteArray) : NfI (m.fill k s):=by
 unfold ImgM.fill
 split
 ·exact ⟨h,by simp⟩
 ·split
  ·exact ⟨h,by simp⟩
  ·split
   ·exact ⟨h,by simp⟩
   ·unfold ImgM.fillAt
    have hp:=Io (a:=m.first m.freeP) (l:=lv s 4) h
    split
    ·exact hp
    ·exact LT (m:=({ m with d:=(m.d.puts (m.first m.freeP) (lv s 4)).2 } : ImgM).flush) hp.1 _ _
theorem QB (k : Int) : NfI (m.link k):=by
 have hw:=Ar (d:=m.d.flush) h 0 (lM m.c m.p k)
 unfold ImgM.link
 split
 ·exact ⟨h,by simp⟩
 ·split
  ·exact hw
  ·exact ⟨hw.1,by simp⟩
end
theorem IY {d : DevM} (h : d.fail = -1) (c p b : Int) : NfI (oa d c p b):=by
 have hp:=Io (a:=1) (l:=l4 (ly c)) h
 have hw:=Ar (d:=(d.puts 1 (l4 (ly c))).2.flush) hp.1 0 (lM c p b)
 unfold oa
 split
 ·exact ⟨h,by simp⟩
 ·split
  ·exact hp
  ·split
   ·exact hw
   ·exact ⟨hw.1,by simp⟩
def NfF (F : ShM) : Prop:=∀k i,F k = some i -> i.d.fail = -1
abbrev NfS (r : Int×ShM) : Prop:=NfF r.2 /\ r.1≠7
theorem NfF.put {F : ShM} (h : NfF F) (k : Nat) {i : ImgM} (hi : i.d.fail = -1) : NfF (put F k i):=fun j x hx=>by
 unfold Go.Proofs.YtbpblokfiajpjabGreatDoor.put at hx
 split at hx
 ·cases hx; exact hi
 ·exact h j x hx
theorem NfF.act {F : ShM} (h : NfF F) (k : Nat) {r : Int×ImgM} (hr : NfI r) : NfS (r.1,Go.Proofs.YtbpblokfiajpjabGreatDoor.put F k r.2):=⟨h.put k hr.1,hr.2⟩
theorem Ni {F : ShM} (h : NfF F) (l : List Int) (c fr : Nat) (s : ByteArray) : NfS (layM F l c fr s):=by
 unfold layM
 split
 ·exact ⟨h,by simp⟩
 ·rename_i m hm
  split
  ·exact h.act _ (Qd (h _ _ hm) _ _ _)
  ·exact h.act _ (LX (h _ _ hm) _ _)
theorem Nr {F : ShM} (h : NfF F) (l : List Int) (c : Nat) : NfS (zV F l c):=by
 unfold zV
 split
 ·exact ⟨h,by simp⟩
 ·rename_i m hm
  exact h.act _ (J7 (h _ _ hm) _)
theorem LE {act : ShM -> Nat -> Nat -> Int×ShM} (ha : ∀F k m,NfF F -> NfS (act F k m)) : ∀{q : Nat} {F : ShM} {fr k n : Nat},NfF F -> NfS (oV act q F fr k n):=by
 intro q
 induction q with
 | zero=>intro F fr k n h; exact ⟨h,by show (0 : Int)≠7; decide⟩
 | succ q ih=>
  intro F fr k n h
  rw [oV]
  split
  ·exact ⟨h,by simp⟩
  ·split
   ·exact ha _ _ _ h
   ·exact ih (ha _ _ _ h).1
theorem Jm (F : ShM) (l : List Int) (fr n : Int) : lN F l fr n≠7:=by
 rcases CS F l fr n with h | h | ⟨h,-⟩ <;> omega
theorem Sa {F : ShM} (h : NfF F) (l : List Int) (fr : Int) (s : ByteArray) : NfS (putM F l fr s):=by
 unfold putM
 split
 ·exact ⟨h,by simp⟩
 ·split
  ·exact ⟨h,Jm _ _ _ _⟩
  ·exact LE (fun F k m h=>Ni h _ _ _ _) h
theorem QX {F : ShM} (h : NfF F) (l : List Int) (fr n : Int) : NfS (yB F l fr n):=by
 unfold yB
 split
 ·exact ⟨h,Jm _ _ _ _⟩
 ·refine LE (fun F k m h=>?_) h
  unfold AC
  split
  ·exact Nr h _ _
  ·split
   ·exact Ni h _ _ _ _
   ·exact ⟨h,by simp⟩
theorem LY {F : ShM} (h : NfF F) (x : Nat) (c : Int) (s : ByteArray) : NfS (yd F x c s):=by
 unfold yd
 split
 ·exact ⟨h,by simp⟩
 ·rename_i m hm
  split
  ·exact h.act _ (J7 (h _ _ hm) _)
  ·split
   ·exact ⟨h,by simp⟩
   ·split
    ·exact h.act _ (Qd (h _ _ hm) _ _ _)
    ·exact h.act _ (LX (h _ _ hm) _ _)
theorem PS {F : ShM} (h : NfF F) (j : JobM) (c : Int) : NfF (oq F j c).2:=by
 unfold oq
 split
 ·exact h
 ·split
  ·exact h
  ·exact (LY h _ _ _).1
theorem NH {F : ShM} (h : NfF F) (k : Nat) : NfF (y9 F k):=by
 unfold y9
 split
 ·rename_i m hm
  exact h.put _ (PC (h _ _ hm))
 ·exact h
theorem Fm : ∀{l : List Int} {F : ShM},NfF F -> NfF (ox F l):=by
 intro l
 induction l with
 | nil=>intro F h; exact h
 | cons x l ih=>intro F h; exact ih (NH h _)
theorem Kk {F : ShM} (h : NfF F) (k : Nat) (c : Int) : NfS (yA F k c):=by
 unfold yA
 split
 ·rename_i m hm
  exact h.act _ (QB (h _ _ hm) _)
 ·exact ⟨h,by simp⟩
theorem IB {F : ShM} (h : NfF F) (j : JobM) : NfF (lh F j).2.1:=by
 unfold lh
 split
 ·exact h
 ·split
  ·exact h
  ·split <;> exact PS h _ _
theorem EL {F : ShM} (h : NfF F) (j : JobM) : NfF (li F j).2.1:=by
 unfold li
 split
 ·exact h
 ·split
  ·split <;> exact (Kk h _ _).1
  ·split
   ·exact h
   ·exact Fm h
structure NF (m : ld) : Prop where
 f : NfF m.F
 d : ∀k,(m.D k).fail = -1
 t : m.top.fail = -1
theorem Av {m : ld} (h : NF m) (d : l6) : NF (lm m d).2:=by
 have hw:=Ar h.t 0 d.s
 unfold lm
 split
 ·exact ⟨h.f,h.d,hw.1⟩
 ·exact ⟨h.f,h.d,hw.1⟩
theorem SF {m : ld} (h : NF m) (k : Nat) : (devOf m k).fail = -1:=by
 unfold devOf
 split
 ·rename_i i hi; exact h.f _ _ hi
 ·exact h.d k
theorem KI {m : ld} (h : NF m) (file back : Int) : NF (l7 m file back).2:=by
 have hc:=IY (SF h file.toNat) (clus m.F m.dk.root) (zA (clus m.F m.dk.root) (devOf m file.toNat)) back
 change NfI (o7 m file.toNat back) at hc
 unfold l7
 split
 ·exact h
 ·split
  ·exact h
  ·split
   ·refine ⟨fun k i hi=>?_,fun k=>?_,h.t⟩
    ·change cut m.F file.toNat k = some i at hi
     unfold cut at hi
     split at hi
     ·cases hi
     ·exact h.f k i hi
    ·show (setD m.D file.toNat _ k).fail = -1
     unfold setD
     split
     ·exact hc.1
     ·exact h.d k
   ·exact ⟨h.f.put _ hc.1,h.d,h.t⟩
theorem Ql {m : ld} (h : NF m) (file : Int) : NF (AS m file).2:=by
 have hb:=KI h file m.dk.root
 have hw:=Av hb (lw file)
 unfold AS
 split
 ·exact h
 ·split
  ·exact h
  ·split
   ·exact hb
   ·split
    ·exact hw
    ·exact ⟨hw.f,hw.d,hw.t⟩
theorem Kr {m : ld} (h : NF m) (kind file rate burst : Int) : NF (yv m kind file rate burst).2:=by
 have hw:=Av h ⟨m.dk.root,kind,file,rate,burst⟩
 unfold yv
 split
 ·exact h
 ·split
  ·exact h
  ·split
   ·exact h
   ·split
    ·exact h
    ·split
     ·exact hw
     ·exact ⟨hw.f,hw.d,hw.t⟩
theorem Ka {m : ld} (h : NF m) (j : JobM) (root : Int) (well : Bool) : NF (AN m j root well).2:=by
 have hw:=Av h (lw root)
 unfold AN
 split
 ·exact hw
 ·exact ⟨hw.f,hw.d,hw.t⟩
theorem Jr {m : ld} (h : NF m) : NF (yQ m).2:=by
 unfold yQ
 split
 ·exact h
 ·split
  ·exact h
  ·exact Ka h _ _ _
theorem Pw {m : ld} (h : NF m) : NF (yD m).2:=by
 unfold yD
 split
 ·exact h
 ·rename_i j hj
  have hs:=EL h.f j
  split
  ·exact h
  ·split
   ·exact h
   ·split
    ·exact ⟨hs,h.d,h.t⟩
    ·exact Ka (m:={ m with F:=(li m.F j).2.1,job:=some (li m.F j).2.2 }) ⟨hs,h.d,h.t⟩ _ _ _
theorem PN {m : ld} (h : NF m) (on : Bool) : NF (zm m on).2:=by
 unfold zm
 split
 ·exact h
 ·split
  ·exact h
  ·exact ⟨h.f,h.d,h.t⟩
theorem Qt {m : ld} (h : NF m) (n : Int) : NF (zX m n).2:=by
 unfold zX
 split
 ·exact h
 ·split
  ·exact h
  ·split
   ·exact h
   ·exact ⟨h.f,h.d,h.t⟩
theorem Ki {m : ld} (h : NF m) : NF (lZ m).2:=by
 unfold lZ
 split
 ·exact h
 ·rename_i j hj
  have hs:=IB h.f j
  have ht:=EL hs (lh m.F j).2.2
  dsimp only
  split
  ·exact h
  ·split
   ·split
    ·exact ⟨hs,h.d,h.t⟩
    ·exact Av (m:={ m with F:=(lh m.F j).2.1,job:=some (lh m.F j).2.2 }) ⟨hs,h.d,h.t⟩ _
   ·split
    ·exact ⟨hs,h.d,h.t⟩
    ·split
     ·exact Av (m:={ m with F:=(li (lh m.F j).2.1 (lh m.F j).2.2).2.1,job:=some (li (lh m.F j).2.1 (lh m.F j).2.2).2.2 }) ⟨ht,h.d,h.t⟩ _
     ·have hw:=Av (m:={ m with F:=(li (lh m.F j).2.1 (lh m.F j).2.2).2.1,job:=some (endM (li (lh m.F j).2.1 (lh m.F j).2.2).2.2 true),list:=(lk (li (lh m.F j).2.1 (lh m.F j).2.2).2.1 m.dk.root).1 }) ⟨ht,h.d,h.t⟩ (lw m.dk.root)
      exact ⟨hw.f,hw.d,hw.t⟩
theorem KC {m : ld} (h : NF m) (fr n : Int) : NF (yy m fr n):=by
 unfold yy
 split
 ·exact h
 ·split
  ·exact h
  ·exact ⟨h.f,h.d,h.t⟩
theorem NA {m : ld} (h : NF m) (fr : Int) (s : ByteArray) : NF (oG m fr s).2:=by
 unfold oG
 split
 ·exact h
 ·exact KC (m:={ m with F:=(putM m.F m.list fr s).2 }) ⟨(Sa h.f _ _ _).1,h.d,h.t⟩ _ _
theorem PY {m : ld} (h : NF m) (fr n : Int) : NF (oD m fr n).2:=by
 unfold oD
 split
 ·exact h
 ·exact KC (m:={ m with F:=(yB m.F m.list fr n).2 }) ⟨(QX h.f _ _ _).1,h.d,h.t⟩ _ _
theorem Sd {m : ld} (h : NF m) (x : Act) (hx : ¬(x.kind.toList == [102,97,105,108]) = true) : NF (didY m x):=by
 unfold didY
 split
 ·exact NA h _ _
 split
 ·exact PY h _ _
 split
 ·exact ⟨Fm h.f,h.d,h.t⟩
 split
 ·exact KI h _ _
 split
 ·exact Ql h _
 split
 ·exact Kr h _ _ _ _
 split
 ·exact Pw h
 split
 ·exact Jr h
 split
 ·exact PN h _
 split
 ·exact Qt h _
 exact Ki h
theorem SC (c p : Int) : NF (yR c p):=by
 refine Av (m:=yq c p) ⟨fun k i hi=>?_,fun k=>rfl,rfl⟩ _
 change put (fun _=>none) 0 (newI c p) k = some i at hi
 unfold put at hi
 split at hi
 ·cases hi
  exact (IY (d:=lW (newN c p)) rfl c p (-1)).1
 ·cases hi
end Go.Proofs.YtbpblokfiajpjabGreatDoor
namespace Go.Proofs.YtbpblokfiajpjabGreatDoor
open Go.RowKit Go.SL Go.Crc
theorem On : ∀{k x y : Nat},(∀i,i < k -> x.testBit i = y.testBit i) -> Ones.popc k x = Ones.popc k y:=by
 intro k
 induction k with
 | zero=>intro x y _; rfl
 | succ k ih=>
  intro x y h
  have hk:=h k (by omega)
  rw [Nat.testBit_eq_decide_div_mod_eq,Nat.testBit_eq_decide_div_mod_eq,decide_eq_decide] at hk
  rw [Ones.popc_end,Ones.popc_end,ih fun i hi=>h i (by omega)]
  omega
theorem PH : ∀{k x y c : Nat},c < k -> x.testBit c = true -> y.testBit c = false -> (∀i,i≠c -> y.testBit i = x.testBit i) -> Ones.popc k y + 1 = Ones.popc k x:=by
 intro k
 induction k with
 | zero=>intro x y c h; omega
 | succ k ih=>
  intro x y c hc h1 h2 h
  rw [Ones.popc_end,Ones.popc_end]
  by_cases e : c = k
  ·subst e
   rw [On (x:=y) (y:=x) fun i hi=>h i (by omega)]
   rw [Nat.testBit_eq_decide_div_mod_eq] at h1 h2
   have h1:=of_decide_eq_true h1
   have h2:=of_decide_eq_false h2
   omega
  ·have hk:=h k (fun e'=>e e'.symm)
   rw [Nat.testBit_eq_decide_div_mod_eq,Nat.testBit_eq_decide_div_mod_eq,decide_eq_decide] at hk
   have:=ih (by omega) h1 h2 h
   omega
theorem QQ {n x c : Nat} (hn : n <= 64) (hx : x < 2 ^ n) (hc : c < n) (h : x.testBit c = true) : cnt (ou n x (c : Int) false).2 + 1 = cnt x:=by
 rw [GV,GV]
 refine PH (show c < 64 by omega) h ?_ fun i hi=>?_
 ·rw [C7 hx,zt ⟨rfl,hc⟩]
 ·rw [C7 hx,zq (fun e=>hi e.1)]
theorem OS {n x : Nat} {fr : Int} (h : x≠0) : (zd n x fr).2 = true:=by
 unfold zd
 rw [zq h]
 split <;> rfl
theorem SO : cnt 0 = 0:=by
 rw [GV]
 have : ∀k,Ones.popc k 0 = 0:=by
  intro k
  induction k with
  | zero=>rfl
  | succ k ih=>rw [Ones.popc_end,ih]; simp
 exact this 64
theorem NS {N : Nat} {m : ld} (h : YOk N m) (nf : NF m) (d : l6) : (lm m d).1 = 0:=by
 obtain ⟨-,-,-,t⟩:=h.tp
 have hs : d.s.size = 16:=zv (xs:=[68,75,d.root,d.kind,d.file + 1,d.rate % 256,d.rate / 256,d.burst % 256,d.burst / 256]) (by simp)
 have hw : (m.top.write 0 d.s).1 = 0:=(Bj (d:=m.top) (a:=0) (by omega) (by omega) hs).resolve_right (Ar nf.t 0 d.s).2
 unfold lm
 rw [zq (by rw [hw]; simp)]
theorem Qv {F : ShM} {N : Nat} (hW : ShW N F) (nf : NfF F) {x : Nat} (hx : x < 5) {c : Int} (h1 : -1 <= c) (h4 : c <= 4) : (yA F x c).1 = 0:=by
 have hl:=Kk nf x c
 unfold yA at hl ⊢
 split
 ·rename_i m hm
  rw [hm] at hl
  have ho:=hW.ok x m hx hm
  have hh:=ho.head
  have hneed:=ho.need
  have hb : ¬lH m.c m.p c:=by unfold lH at hh ⊢; omega
  have hs : (lM m.c m.p c).size = 16:=zv (xs:=[83,89,m.c,m.p,c + 1]) (by simp)
  have hf : m.d.flush.fl.length = m.d.fl.length:=by simp [DevM.flush,ob]
  have hp : 0 <= m.p:=by unfold lH at hh; omega
  have hw:=Bj (d:=m.d.flush) (a:=0) (s:=lM m.c m.p c) (by omega) (by omega) hs
  have h7 : (m.link c).1≠7:=hl.2
  show (m.link c).1 = 0
  unfold ImgM.link at h7 ⊢
  rw [zq hb] at h7 ⊢
  split
  ·rename_i h0
   rw [zt h0] at h7
   exact hw.resolve_right h7
  ·rfl
 ·rfl
theorem Ol {F : ShM} {C : Int} {l : List Int} {N : Nat} (nf : NfF F) (hF : Fl F C l) (hW : ShW N F) {j : JobM} (hj : j.Ok) (hT : JobT F C l j) {c : Nat} (hc : (c : Int) < C) : (oq F j c).1≠7:=by
 have hl0 : l≠[]:=by have:=hj.pos; rw [hT.list] at this; intro e; rw [e] at this; exact this rfl
 obtain ⟨r1,-,-⟩:=CB hF hW hl0 hc
 unfold oq
 split
 ·simp
 ·rw [hT.list,zq (by rw [r1]; simp)]
  exact (LY nf _ _ _).2
structure Run (C : Int) (N : Nat) (kind : Int) (n : Nat) (m : ld) : Prop where
 t : YT C m
 g : lx N m
 nf : NF m
 j : ∃j,m.job = some j /\ j.kind = kind /\ cnt j.x = n /\ 4 * (n : Int) <= j.level /\ (j.st = 1 \/ j.st = 3)
theorem Run.job {C : Int} {N n : Nat} {kind : Int} {m : ld} (h : Run C N kind n m) : ∃j,m.job = some j /\ j.Ok /\ j.kind = kind /\ m.dk.kind = kind /\ cnt j.x = n /\ 4 * (n : Int) <= j.level /\ j.st = (if n = 0 then 3 else 1) /\ JobT m.F C m.list j:=by
 obtain ⟨j,hj,hk,hc,hl,hs⟩:=h.j
 have h4 : j.st < 4:=by omega
 have hT:=h.t.job j hj h4
 obtain ⟨-,-,hk',-⟩:=h.g.ok.job j hj h4
 refine ⟨j,hj,h.g.ok.jok j hj,hk,hk'.symm.trans hk,hc,hl,?_,hT⟩
 have r1:=hT.r1
 have r3:=hT.r3
 by_cases e : n = 0
 ·rw [zt e]
  rcases hs with h | h
  ·exact absurd (hc.trans e) (r1 h)
  ·exact h
 ·rw [zq e]
  rcases hs with h | h
  ·exact h
  ·exact absurd (hc.symm.trans (r3 h)) e
structure Done (C : Int) (N : Nat) (m : ld) : Prop where
 t : YT C m
 g : lx N m
 j : ∃j,m.job = some j /\ cnt j.x = 0 /\ j.st = 4
theorem FC {C : Int} {N : Nat} {m : ld} {j : JobM} (ht : YT C (lZ m).2) (hg : lx N (lZ m).2) (hj : m.job = some j) (h4 : ¬4 <= j.st) (h0 : (lh m.F j).1.2 = 0) (hk : m.dk.kind = 2) (hs : (lh m.F j).2.2.st = 3) (hc : cnt (lh m.F j).2.2.x = 0) (hl : (li (lh m.F j).2.1 (lh m.F j).2.2).1 = 0) (hx : (li (lh m.F j).2.1 (lh m.F j).2.2).2.2.x = (lh m.F j).2.2.x) :
  (lZ m).1.2 = 0 /\ Done C N (lZ m).2:=by
 obtain ⟨t,d',e⟩:=yh { m with F:=(li (lh m.F j).2.1 (lh m.F j).2.2).2.1,job:=some (endM (li (lh m.F j).2.1 (lh m.F j).2.2).2.2 true),list:=(lk (li (lh m.F j).2.1 (lh m.F j).2.2).2.1 m.dk.root).1 } (lw m.dk.root)
 have hy : lZ m = ((true,0),{ (lm { m with F:=(li (lh m.F j).2.1 (lh m.F j).2.2).2.1,job:=some (endM (li (lh m.F j).2.1 (lh m.F j).2.2).2.2 true),list:=(lk (li (lh m.F j).2.1 (lh m.F j).2.2).2.1 m.dk.root).1 } (lw m.dk.root)).2 with dk:=lw m.dk.root }):=by
  unfold lZ
  rw [hj]
  dsimp only
  rw [zq h4,zq (by rw [h0]; simp),zq (by rw [hk,hs]; simp),zq (by rw [hl]; simp)]
 refine ⟨by rw [hy],ht,hg,?_⟩
 rw [hy,e]
 exact ⟨_,rfl,by show cnt (li (lh m.F j).2.1 (lh m.F j).2.2).2.2.x = 0; rw [hx]; exact hc,rfl⟩
theorem D0 {C : Int} {N : Nat} {m : ld} {j : JobM} (hg : lx N { m with F:=(lh m.F j).2.1,job:=some (lh m.F j).2.2 }) (nf : NfF (lh m.F j).2.1) (h3 : (lh m.F j).2.2.st = 3) (hk : (lh m.F j).2.2.kind = 2) :
  (li (lh m.F j).2.1 (lh m.F j).2.2).1 = 0 /\ (li (lh m.F j).2.1 (lh m.F j).2.2).2.2.x = (lh m.F j).2.2.x:=by
 have hS:=(hg.ok.job _ rfl (by omega)).1
 have hjo:=hg.ok.jok _ rfl
 have h0:=hS.list _ (mem0 hjo.pos)
 have hW:=hg.ok.sh
 have hfile : -1 <= (lh m.F j).2.2.file /\ (lh m.F j).2.2.file <= 4:=by
  rcases hg.str _ rfl (by omega) hk with e | e
  ·rw [e]; decide
  ·obtain ⟨a,b,-⟩:=hg.ok.files _ (List.mem_of_mem_tail e)
   exact ⟨by omega,by omega⟩
 have hl:=Qv (x:=((lh m.F j).2.2.list.getD 0 0).toNat) hW nf (by have:=h0.1; have:=h0.2.1; omega) hfile.1 hfile.2
 unfold li
 rw [zq (by rw [h3]; simp),zt hk,zq (by rw [hl]; simp)]
 exact ⟨rfl,rfl⟩
theorem JX {C : Int} {N n : Nat} {kind : Int} {m : ld} (h : Run C N kind (n + 1) m) (hN : N + 20 < 900000) :
  ((lZ m).1.2 = 6 /\ ∃j,(lZ m).2.job = some j /\ j.st = 5) \/
  ((lZ m).1.2 = 0 /\ (0 < n \/ kind≠2 -> Run C (N + 10) kind n (lZ m).2) /\ (n = 0 -> kind = 2 -> Done C (N + 10) (lZ m).2)):=by
 obtain ⟨j,hj,hjo,hk,hdk,hc,hlev,hst,hT⟩:=h.job
 rw [zq (by omega)] at hst
 have hys:=(Bi h.t h.g hN).t
 have hyg:=BK h.g hN
 have hyn:=Ki h.nf
 obtain ⟨hS,hl,-,-,-⟩:=h.g.ok.job j hj (by omega)
 have hx0 : j.x≠0:=fun e=>by rw [e,SO] at hc; omega
 have hb : (lU j).2 = true:=OS hx0
 obtain ⟨b1,b2⟩:=LA hjo.n hjo.x (fr:=(j.at_ : Int)) hb
 change j.x.testBit (lU j).1 = true at b1
 change (lU j).1 < j.n at b2
 have hn:=hT.n
 obtain ⟨a1,-⟩:=IP h.t.fl h.g.ok.sh (by omega) hjo hT (c:=(lU j).1) (by omega)
 have a7:=Ol h.nf.f h.t.fl h.g.ok.sh hjo hT (c:=(lU j).1) (by omega)
 have hsp : lh m.F j = if (oq m.F j ((lU j).1 : Nat)).1≠0 then ((false,(oq m.F j ((lU j).1 : Nat)).1),(oq m.F j ((lU j).1 : Nat)).2,{ j with level:=j.level - 4,st:=5 }) else ((true,0),(oq m.F j ((lU j).1 : Nat)).2,jdid j):=by
  unfold lh
  rw [zq (by omega),zq (by rw [hb]; simp; omega)]
 by_cases h0 : (oq m.F j ((lU j).1 : Nat)).1 = 0
 ·refine .inr ?_
  rw [zq (by rw [h0]; simp)] at hsp
  have hcn : cnt (ou j.n j.x ((lU j).1 : Nat) false).2 = n:=by
   have:=QQ hjo.n hjo.x b2 b1
   omega
  have hjd : jdid j = if n = 0 then { j with level:=j.level - 4,x:=(ou j.n j.x ((lU j).1 : Nat) false).2,at_:=(lU j).1 + 1,st:=3 } else { j with level:=j.level - 4,x:=(ou j.n j.x ((lU j).1 : Nat) false).2,at_:=(lU j).1 + 1 }:=by
   unfold jdid yX
   dsimp only
   rw [hcn]
   by_cases e : n = 0
   ·rw [zt ⟨hst,e⟩,zt e]
   ·rw [zq (fun h=>e h.2),zq (by omega),zq e]
  have e1 : (lh m.F j).1.2 = 0:=by rw [hsp]
  have e2 : (lh m.F j).2.2 = jdid j:=by rw [hsp]
  have hjk : (jdid j).kind = kind:=by rw [hjd]; split <;> exact hk
  have hjx : cnt (jdid j).x = n:=by rw [hjd]; split <;> exact hcn
  have hjl : 4 * (n : Int) <= (jdid j).level:=by rw [hjd]; split <;> (show 4 * (n : Int) <= j.level - 4; omega)
  have hjs : (jdid j).st = if n = 0 then 3 else 1:=by
   rw [hjd]
   split
   ·rfl
   ·exact hst
  by_cases hcase : 0 < n \/ kind≠2
  ·have hy : lZ m = (((lh m.F j).1.1,0),{ m with F:=(lh m.F j).2.1,job:=some (lh m.F j).2.2 }):=by
    unfold lZ
    rw [hj]
    dsimp only
    rw [zq (by omega),zq (by rw [e1]; simp),zt]
    rw [hdk,e2,hjs]
    rcases hcase with h | h
    ·rw [zq (by omega)]; exact .inr (by decide)
    ·exact .inl h
   refine ⟨by rw [hy],fun _=>⟨hys,hyg,hyn,?_⟩,fun e e'=>?_⟩
   ·rw [hy,e2]
    refine ⟨_,rfl,hjk,hjx,hjl,?_⟩
    rw [hjs]
    split
    ·exact .inr rfl
    ·exact .inl rfl
   ·rcases hcase with h | h
    ·omega
    ·exact absurd e' h
  ·have hn0 : n = 0:=by omega
   have hk2 : kind = 2:=Decidable.byContradiction fun h=>hcase (.inr h)
   have hg1:=h.g.stepJ (by omega) hj (by omega)
   rw [zt hn0] at hjs
   obtain ⟨s1,s2⟩:=D0 (C:=C) hg1 (IB h.nf.f j) (by rw [e2]; exact hjs) (by rw [e2,hjk]; exact hk2)
   obtain ⟨d1,d2⟩:=FC hys hyg hj (by omega) e1 (hdk.trans hk2) (by rw [e2]; exact hjs) (by rw [e2,hjx]; exact hn0) s1 s2
   exact ⟨d1,fun h=>absurd h hcase,fun _ _=>d2⟩
 ·refine .inl ?_
  rw [zt h0] at hsp
  have h6 : (oq m.F j ((lU j).1 : Nat)).1 = 6:=by omega
  obtain ⟨t,d',e⟩:=yh { m with F:=(lh m.F j).2.1,job:=some (lh m.F j).2.2 } (lw m.dk.root)
  have e1 : (lh m.F j).1.2 = 6:=by rw [hsp]; exact h6
  have e2 : (lh m.F j).2.2.st = 5:=by rw [hsp]
  have hy : lZ m = ((false,6),(lm { m with F:=(lh m.F j).2.1,job:=some (lh m.F j).2.2 } (lw m.dk.root)).2):=by
   unfold lZ
   rw [hj]
   dsimp only
   rw [zq (by omega),zt (by rw [e1]; simp),zq (by rw [e2]; simp),e1]
  rw [hy,e]
  exact ⟨rfl,_,rfl,e2⟩
theorem Pq {C : Int} {N : Nat} {m : ld} (h : Run C N 2 0 m) (hN : N + 20 < 900000) : (lZ m).1.2 = 0 /\ Done C (N + 10) (lZ m).2:=by
 obtain ⟨j,hj,hjo,hk,hdk,hc,hlev,hst,hT⟩:=h.job
 rw [zt rfl] at hst
 have hys:=(Bi h.t h.g hN).t
 have hyg:=BK h.g hN
 have hx0 : j.x = 0:=by
  refine Decidable.byContradiction fun e=>?_
  obtain ⟨q,q1,q2,-⟩:=ER hjo.x e
  rw [Kn hc (by have:=hjo.n; omega)] at q2
  cases q2
 have hb : (lU j).2 = false:=by unfold lU zd; rw [zt hx0]
 have hsp : lh m.F j = ((false,0),m.F,j):=by
  unfold lh
  rw [zq (by omega),zt (.inl hb)]
 have hg1:=h.g.stepJ (by omega) hj (by omega)
 have e2 : (lh m.F j).2.2 = j:=by rw [hsp]
 obtain ⟨s1,s2⟩:=D0 (C:=C) hg1 (IB h.nf.f j) (by rw [e2]; exact hst) (by rw [e2]; exact hk)
 exact FC hys hyg hj (by omega) (by rw [hsp]) hdk (by rw [e2]; exact hst) (by rw [e2]; exact hc) s1 s2
theorem NB {C : Int} {N : Nat} {kind : Int} {m : ld} (h : Run C N kind 0 m) (hk2 : kind≠2) (hN : N + 20 < 900000) : (yD m).1 = 0 /\ Done C (N + 2) (yD m).2:=by
 obtain ⟨j,hj,hjo,hk,hdk,hc,hlev,hst,hT⟩:=h.job
 rw [zt rfl] at hst
 have hys:=(Cw h.t h.g (by omega)).t
 have hyg:=Fz h.g (by omega)
 obtain ⟨hS,hl,-,hf,-⟩:=h.g.ok.job j hj (by omega)
 have hch : Chn m.F C m.list:=by
  have:=h.g.ok.chn
  rwa [h.t.cl0 h.g.ok] at this
 obtain ⟨w1,-,-⟩:=If hch (Qf h.g.ok) (by have:=hjo.kind; omega) hT
 have hse : li m.F j = (0,ox m.F (lk m.F j.file).1,j):=by
  unfold li
  rw [zq (by omega),zq (by omega),zq (by rw [w1]; simp)]
 have nf2:=EL h.nf.f j
 rw [hse] at nf2
 have hwd : (lm { m with F:=ox m.F (lk m.F j.file).1,job:=some j } (lw m.dk.file)).1 = 0:=by
  obtain ⟨-,-,-,t⟩:=h.g.ok.tp
  have hs : (lw m.dk.file).s.size = 16:=zv (xs:=[68,75,(lw m.dk.file).root,(lw m.dk.file).kind,(lw m.dk.file).file + 1,(lw m.dk.file).rate % 256,(lw m.dk.file).rate / 256,(lw m.dk.file).burst % 256,(lw m.dk.file).burst / 256]) (by simp)
  have hw : (m.top.write 0 (lw m.dk.file).s).1 = 0:=(Bj (d:=m.top) (a:=0) (by omega) (by omega) hs).resolve_right (Ar h.nf.t 0 _).2
  unfold lm
  dsimp only
  rw [zq (by rw [hw]; simp)]
 obtain ⟨t,d',e⟩:=yh { m with F:=ox m.F (lk m.F j.file).1,job:=some j } (lw m.dk.file)
 have hy : yD m = (0,{ (lm { m with F:=ox m.F (lk m.F j.file).1,job:=some j } (lw m.dk.file)).2 with job:=some (endM j true),list:=(lk (ox m.F (lk m.F j.file).1) m.dk.file).1 }):=by
  unfold yD
  rw [hj]
  dsimp only
  rw [zq (by omega),zq (by omega),hse,zq (by simp)]
  unfold AN
  rw [zq (by rw [hwd]; simp)]
 refine ⟨by rw [hy],hys,hyg,?_⟩
 rw [hy]
 exact ⟨_,rfl,hc,rfl⟩
theorem QR {F : ShM} {root kind file rate burst : Int} (h : (newM F root kind file rate burst).1 = none) : (newM F root kind file rate burst).2≠0:=by
 revert h
 unfold newM
 split
 ·rename_i h0; intro _; exact h0
 ·split
  ·intro _; simp
  ·split
   ·intro _; simp
   ·split
    ·split
     ·intro _; simp
     ·split
      ·intro _; simp
      ·intro h; cases h
    ·split
     ·intro h; cases h
     ·split
      ·split
       ·intro _; simp
       ·intro h; cases h
      ·intro _; simp
theorem Pf {F : ShM} {root kind file rate burst : Int} {j : JobM} (h : (newM F root kind file rate burst).1 = some j) : j.level = burst:=by
 unfold newM at h
 split at h
 ·cases h
 ·split at h
  ·cases h
  ·split at h
   ·cases h
   ·split at h
    ·split at h
     ·cases h
     ·split at h
      ·cases h
      ·cases h; rfl
    ·split at h
     ·cases h; rfl
     ·split at h
      ·split at h
       ·cases h
       ·cases h; rfl
      ·cases h
theorem NO {C : Int} {N : Nat} {m : ld} (h : YT C m) (hg : lx N m) (nf : NF m) (hN : N + 20 < 900000) (kind file : Int) (h0 : (yv m kind file 0 1000).1 = 0) :
  ∃n,n <= 64 /\ Run C (N + 1) kind n (yv m kind file 0 1000).2:=by
 have hys:=(Ct h hg.ok kind file 0 1000).t
 have hyg:=C2 hg (by omega) kind file 0 1000
 have hyn:=Kr nf kind file 0 1000
 revert h0 hys hyg hyn
 unfold yv
 split
 ·intro h0; exact absurd h0 (by simp)
 ·split
  ·intro h0; exact absurd h0 (by simp)
  ·split
   ·rename_i hd; intro h0; exact absurd h0 hd
   ·split
    ·rename_i f hf
     have:=QR (F:=m.F) (root:=m.dk.root) (kind:=kind) (file:=file) (rate:=0) (burst:=1000) (by rw [hf])
     rw [hf] at this
     intro h0
     exact absurd h0 this
    ·rename_i j f hf
     rw [zq (by rw [NS hg.ok nf]; simp)]
     intro h0 hys hyg hyn
     have hi:=LI (F:=m.F) (root:=m.dk.root) (kind:=kind) (file:=file) (rate:=0) (burst:=1000) (j:=j) (by rw [hf])
     have hlv:=Pf (F:=m.F) (root:=m.dk.root) (kind:=kind) (file:=file) (rate:=0) (burst:=1000) (j:=j) (by rw [hf])
     obtain ⟨-,-,hk,-,-,hst,-⟩:=hi
     have hp : (o8 j false).2 = yX { j with st:=1 }:=by
      unfold o8
      rw [zq (by simp),zt hst]
     obtain ⟨s,e,-,-,h13,-⟩:=DO { j with st:=1 }
     refine ⟨cnt j.x,JY _,hys,hyg,hyn,_,rfl,?_,?_,?_,?_⟩
     all_goals rw [hp,e]
     ·exact hk
     ·show 4 * ((cnt j.x : Nat) : Int) <= j.level
      have:=JY j.x
      omega
     ·rcases h13 (.inl rfl) with h | h
      ·exact .inl h.1
      ·exact .inr h.1
theorem Run.mono {C : Int} {N N' n : Nat} {kind : Int} {m : ld} (h : Run C N kind n m) (hN : N <= N') : Run C N' kind n m:=⟨h.t,h.g.mono hN,h.nf,h.j⟩
theorem Done.mono {C : Int} {N N' : Nat} {m : ld} (h : Done C N m) (hN : N <= N') : Done C N' m:=⟨h.t,h.g.mono hN,h.j⟩
theorem Gd {C : Int} {N n : Nat} {kind : Int} {m : ld} (h : Run C N kind n m) : ∃f : Int,BT m = .agg #[.int .i64 kind,.int .i64 f,.int .i64 (if n = 0 then 3 else 1),.int .i64 (n : Int)]:=by
 obtain ⟨j,hj,-,hk,-,hc,-,hs,-⟩:=h.job
 refine ⟨j.file,?_⟩
 unfold BT
 rw [hj]
 dsimp only
 unfold A9
 rw [hk,hs,hc]
theorem Ep {C : Int} {N : Nat} {m : ld} (h : Done C N m) : ∃k f : Int,BT m = .agg #[.int .i64 k,.int .i64 f,.int .i64 4,.int .i64 0]:=by
 obtain ⟨j,hj,hc,hs⟩:=h.j
 refine ⟨j.kind,j.file,?_⟩
 unfold BT
 rw [hj]
 dsimp only
 unfold A9
 rw [hc,hs]
 rfl
theorem P0 {m : ld} (h : ∃j,m.job = some j /\ j.st = 5) : ∃k f n : Int,BT m = .agg #[.int .i64 k,.int .i64 f,.int .i64 5,.int .i64 n]:=by
 obtain ⟨j,hj,hs⟩:=h
 refine ⟨j.kind,j.file,(cnt j.x : Nat),?_⟩
 unfold BT
 rw [hj]
 dsimp only
 unfold A9
 rw [hs]
theorem GI.cancel {C : Int} {N : Nat} {m : ld} {g : lK} (h : GI C m g) (hg : lx N m) : GI C (yQ m).2 g:=h.still (D1 h.t hg.ok)
theorem GI.start {C : Int} {N : Nat} {m : ld} {g : lK} (h : GI C m g) (hg : lx N m) (kind file rate burst : Int) : GI C (yv m kind file rate burst).2 g:=h.still (Ct h.t hg.ok _ _ _ _)
theorem GI.step {C : Int} {N : Nat} {m : ld} {g : lK} (h : GI C m g) (hg : lx N m) (hN : N + 20 < 900000) : GI C (lZ m).2 g:=h.still (Bi h.t hg hN)
theorem GI.pivot {C : Int} {N : Nat} {m : ld} {g : lK} (h : GI C m g) (hg : lx N m) (hN : N + 20 < 900000) : GI C (yD m).2 g:=h.still (Cw h.t hg (by omega))
def St (C : Int) (N : Nat) (kind : Int) (n0 n : Nat) (m : ld) : Prop:=(Run C N kind n m /\ (n = 0 -> kind≠2 \/ n0 = 0)) \/ (n = 0 /\ 0 < n0 /\ kind = 2 /\ Done C N m)
theorem St.good {C : Int} {N n0 n : Nat} {kind : Int} {m : ld} (h : St C N kind n0 n m) : lx N m:=h.elim (fun h=>h.1.g) fun h=>h.2.2.2.g
theorem St.run {C : Int} {N n0 n : Nat} {kind : Int} {m : ld} (h : St C N kind n0 (n + 1) m) : Run C N kind (n + 1) m:=h.elim (fun h=>h.1) fun h=>absurd h.1 (by omega)
theorem St.next {C : Int} {N n0 n : Nat} {kind : Int} {m : ld} (h : St C N kind n0 (n + 1) m) (hn : n + 1 <= n0) (hN : N + 20 < 900000) (h6 : (lZ m).1.2≠6) : (lZ m).1.2 = 0 /\ St C (N + 10) kind n0 n (lZ m).2:=by
 rcases JX h.run hN with ⟨h,-⟩ | ⟨h0,h1,h2⟩
 ·exact absurd h h6
 ·refine ⟨h0,?_⟩
  by_cases hc : 0 < n \/ kind≠2
  ·refine .inl ⟨h1 hc,fun e=>?_⟩
   rcases hc with h | h
   ·omega
   ·exact .inl h
  ·exact .inr ⟨by omega,by omega,Decidable.byContradiction fun h=>hc (.inr h),h2 (by omega) (Decidable.byContradiction fun h=>hc (.inr h))⟩
end Go.Proofs.YtbpblokfiajpjabGreatDoor
