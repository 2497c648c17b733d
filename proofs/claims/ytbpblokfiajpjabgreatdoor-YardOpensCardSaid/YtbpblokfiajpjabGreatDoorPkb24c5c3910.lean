/- Lemmas on which YardOpens stands: the texts RYard3 RYard2 RYard4 RYard14 Yard15 RYard15 RYard5 RYard6 RYard7. No conditions. -/
import Derived.Test.YtbpblokfiajpjabGreatDoorPk57201ff3d8
import Derived.Test.YtbpblokfiajpjabGreatDoorProg
set_option linter.all false
set_option maxRecDepth 1000000
set_option maxHeartbeats 32000000
namespace Go.Proofs.YtbpblokfiajpjabGreatDoor
open Go.RowKit Go.SL Go.Crc
attribute [local go_sem ↓] Go.wp_at_zero Go.wp_at_succ
theorem KS (Y : RA) (m : lf) (R : List SL.HP) {k : Nat} (hk : k < 5) : (ryL Y m R)[1 + k]? = some (ox Y.A m.F k):=Jw hk
theorem Lb (Y : RA) (m : lf) (R : List SL.HP) {k : Nat} (hk : k < 5) : (ryL Y m R)[7 + k]? = some (oA Y.A m.F m.D k):=by
 match k,hk with
 | 0,_=>rfl
 | 1,_=>rfl
 | 2,_=>rfl
 | 3,_=>rfl
 | 4,_=>rfl
theorem Il {Y : RA} {m : lf} {R : List SL.HP} {w : World} {k : Nat} (hk : k < 5) (h : m.F k = none) (H : own w (ryL Y m R)) : own w (lo (Y.A k).2 (m.D k)::(ryL Y m R).set (7 + k) emp):=by
 have h1:=C9 (7 + k) H (Lb Y m R hk)
 have hp : oA Y.A m.F m.D k = lo (Y.A k).2 (m.D k):=by unfold oA; rw [h]
 rwa [hp] at h1
theorem Om (Y : RA) (m : lf) (R : List SL.HP) {k : Nat} (hk : k < 5) (h : m.F k = none) (d : DevM) : ((ryL Y m R).set (7 + k) emp).set (7 + k) (lo (Y.A k).2 d) = ryL Y { m with D:=setD m.D k d } R:=by
 have hs : ∀j,j≠k -> oA Y.A m.F (setD m.D k d) j = oA Y.A m.F m.D j:=fun j hj=>by unfold oA setD; rw [if_neg hj]
 have hk' : oA Y.A m.F (setD m.D k d) k = lo (Y.A k).2 d:=by unfold oA setD; rw [h,if_pos rfl]
 rw [List.set_set]
 match k,hk with
 | 0,_=>show _ = rshL _ _ _++(ryT _ _++R); unfold ryT; dsimp only; rw [hk',hs 1 (by decide),hs 2 (by decide),hs 3 (by decide),hs 4 (by decide)]; rfl
 | 1,_=>show _ = rshL _ _ _++(ryT _ _++R); unfold ryT; dsimp only; rw [hk',hs 0 (by decide),hs 2 (by decide),hs 3 (by decide),hs 4 (by decide)]; rfl
 | 2,_=>show _ = rshL _ _ _++(ryT _ _++R); unfold ryT; dsimp only; rw [hk',hs 0 (by decide),hs 1 (by decide),hs 3 (by decide),hs 4 (by decide)]; rfl
 | 3,_=>show _ = rshL _ _ _++(ryT _ _++R); unfold ryT; dsimp only; rw [hk',hs 0 (by decide),hs 1 (by decide),hs 2 (by decide),hs 4 (by decide)]; rfl
 | 4,_=>show _ = rshL _ _ _++(ryT _ _++R); unfold ryT; dsimp only; rw [hk',hs 0 (by decide),hs 1 (by decide),hs 2 (by decide),hs 3 (by decide)]; rfl
theorem IN {Y : RA} {m : lf} {R : List SL.HP} {w : World} {k : Nat} (hk : k < 5) (h : m.F k = none) {d : DevM} (H : own w (lo (Y.A k).2 d::(ryL Y m R).set (7 + k) emp)) : own w (ryL Y { m with D:=setD m.D k d } R):=by
 have hlt : 7 + k < (ryL Y m R).length:=by
  show _ < (rshL _ _ _++(ryT _ _++R)).length
  unfold ryT rshL
  simp
  omega
 have h1:=yk (7 + k) H (by rw [List.getElem?_set_self hlt])
 rwa [Om Y m R hk h] at h1
theorem I3 {Y : RA} {m : lf} {R : List SL.HP} {w : World} {k : Nat} (hk : k < 5) (H : own w (ryL Y m R)) : own w (lo (Y.A k).2 (devOf m k)::((ryL Y m R).set (1 + k) emp).set (7 + k) emp):=by
 cases h : m.F k with
 | none=>
  have h1:=Il hk h H
  have hd : devOf m k = m.D k:=by unfold devOf; rw [h]
  have hs : (ryL Y m R).set (1 + k) emp = ryL Y m R:=by
   have hp : (ryL Y m R)[1 + k]? = some emp:=by rw [KS Y m R hk]; unfold ox; rw [h]
   obtain ⟨hlt,he⟩:=List.getElem?_eq_some_iff.1 hp
   have:=List.set_getElem_self hlt
   rwa [he] at this
  rw [hd,hs]
  exact h1
 | some i=>
  have h1:=C9 (1 + k) H (KS Y m R hk)
  have hp : ox Y.A m.F k = star [lX (Y.A k).1 (Y.A k).2 i,lo (Y.A k).2 i.d]:=by unfold ox; rw [h]
  have hd : devOf m k = i.d:=by unfold devOf; rw [h]
  rw [hp] at h1
  have h2:=le (Dn h1)
  have hs : ((ryL Y m R).set (1 + k) emp).set (7 + k) emp = (ryL Y m R).set (1 + k) emp:=by
   have hp : ((ryL Y m R).set (1 + k) emp)[7 + k]? = some emp:=by rw [List.getElem?_set_ne (by omega),Lb Y m R hk]; unfold oA; rw [h]
   obtain ⟨hlt,he⟩:=List.getElem?_eq_some_iff.1 hp
   have:=List.set_getElem_self hlt
   rwa [he] at this
  rw [hd,hs]
  exact h2
theorem oQ {A : Nat -> Nat×Nat} {F : ShM} {k j : Nat} (h : j≠k) : yi A (cut F k) j = yi A F j:=by unfold yi cut; rw [if_neg h]
theorem oN {A : Nat -> Nat×Nat} {F : ShM} {k j : Nat} (h : j≠k) : ox A (cut F k) j = ox A F j:=by unfold ox cut; rw [if_neg h]
theorem oO {A : Nat -> Nat×Nat} {F : ShM} {D : Nat -> DevM} {d : DevM} {k j : Nat} (h : j≠k) : oA A (cut F k) (setD D k d) j = oA A F D j:=by unfold oA cut setD; rw [if_neg h,if_neg h]
theorem Cc {A : Nat -> Nat×Nat} {F : ShM} {k : Nat} : ox A (cut F k) k = emp:=by unfold ox cut; rw [if_pos rfl]
theorem Cm {A : Nat -> Nat×Nat} {F : ShM} {k : Nat} : yi A (cut F k) k = .pointer none:=by unfold yi cut; rw [if_pos rfl]
theorem Ck {A : Nat -> Nat×Nat} {F : ShM} {D : Nat -> DevM} {d : DevM} {k : Nat} : oA A (cut F k) (setD D k d) k = lo (A k).2 d:=by unfold oA cut setD; rw [if_pos rfl,if_pos rfl]
theorem On (Y : RA) (m : lf) (R : List SL.HP) {k : Nat} (hk : k < 5) (d : DevM) :
  ((((ryL Y m R).set (1 + k) emp).set (7 + k) emp).set 0 (pts Y.bs (.cells ((oK Y.A m.F).setIfInBounds k (.pointer none)) 114 (0,0)))).set (7 + k) (lo (Y.A k).2 d) = ryL Y { m with F:=cut m.F k,D:=setD m.D k d } R:=by
 match k,hk with
 | 0,_=>show _ = rshL _ _ _++(ryT _ _++R); unfold ryT rshL oK; dsimp only; rw [Cc,Cm,Ck,oN (j:=1) (by decide),oN (j:=2) (by decide),oN (j:=3) (by decide),oN (j:=4) (by decide),oQ (j:=1) (by decide),oQ (j:=2) (by decide),oQ (j:=3) (by decide),oQ (j:=4) (by decide),oO (j:=1) (by decide),oO (j:=2) (by decide),oO (j:=3) (by decide),oO (j:=4) (by decide)]; rfl
 | 1,_=>show _ = rshL _ _ _++(ryT _ _++R); unfold ryT rshL oK; dsimp only; rw [Cc,Cm,Ck,oN (j:=0) (by decide),oN (j:=2) (by decide),oN (j:=3) (by decide),oN (j:=4) (by decide),oQ (j:=0) (by decide),oQ (j:=2) (by decide),oQ (j:=3) (by decide),oQ (j:=4) (by decide),oO (j:=0) (by decide),oO (j:=2) (by decide),oO (j:=3) (by decide),oO (j:=4) (by decide)]; rfl
 | 2,_=>show _ = rshL _ _ _++(ryT _ _++R); unfold ryT rshL oK; dsimp only; rw [Cc,Cm,Ck,oN (j:=1) (by decide),oN (j:=0) (by decide),oN (j:=3) (by decide),oN (j:=4) (by decide),oQ (j:=1) (by decide),oQ (j:=0) (by decide),oQ (j:=3) (by decide),oQ (j:=4) (by decide),oO (j:=1) (by decide),oO (j:=0) (by decide),oO (j:=3) (by decide),oO (j:=4) (by decide)]; rfl
 | 3,_=>show _ = rshL _ _ _++(ryT _ _++R); unfold ryT rshL oK; dsimp only; rw [Cc,Cm,Ck,oN (j:=1) (by decide),oN (j:=2) (by decide),oN (j:=0) (by decide),oN (j:=4) (by decide),oQ (j:=1) (by decide),oQ (j:=2) (by decide),oQ (j:=0) (by decide),oQ (j:=4) (by decide),oO (j:=1) (by decide),oO (j:=2) (by decide),oO (j:=0) (by decide),oO (j:=4) (by decide)]; rfl
 | 4,_=>show _ = rshL _ _ _++(ryT _ _++R); unfold ryT rshL oK; dsimp only; rw [Cc,Cm,Ck,oN (j:=1) (by decide),oN (j:=2) (by decide),oN (j:=3) (by decide),oN (j:=0) (by decide),oQ (j:=1) (by decide),oQ (j:=2) (by decide),oQ (j:=3) (by decide),oQ (j:=0) (by decide),oO (j:=1) (by decide),oO (j:=2) (by decide),oO (j:=3) (by decide),oO (j:=0) (by decide)]; rfl
theorem SN (Y : RA) (m : lf) (R : List SL.HP) {k : Nat} (hk : k < 5) : 7 + k < (ryL Y m R).length:=by
 show _ < (rshL _ _ _++(ryT _ _++R)).length
 unfold ryT rshL
 simp
 omega
theorem PC {Y : RA} {m : lf} {R : List SL.HP} {w : World} {k : Nat} (hk : k < 5) {d : DevM} (H : own w (lo (Y.A k).2 d::((ryL Y m R).set (1 + k) emp).set (7 + k) emp)) : own (w.setCell ⟨Y.bs,k,none⟩ (.pointer none)) (ryL Y { m with F:=cut m.F k,D:=setD m.D k d } R):=by
 have h0 : (((ryL Y m R).set (1 + k) emp).set (7 + k) emp)[0]? = some (pts Y.bs (.cells (oK Y.A m.F) 114 (0,0))):=by
  rw [List.getElem?_set_ne (by omega),List.getElem?_set_ne (by omega)]; rfl
 have h2:=lg (i:=k) (v:=.pointer none) 1 H (by rw [List.getElem?_cons_succ]; exact h0)
 rw [List.set_cons_succ] at h2
 have hlt:=SN Y m R hk
 have h3:=yk (7 + k) h2 (by rw [List.getElem?_set_ne (by omega),List.getElem?_set_self (by simpa using hlt)])
 rwa [On Y m R hk] at h3
theorem oE {A : Nat -> Nat×Nat} {F : ShM} {k j : Nat} {i : ImgM} {a : Nat×Nat} (h : j≠k) : yi (Bl A k a) (put F k i) j = yi A F j:=by unfold yi put Bl; rw [if_neg h,if_neg h]
theorem oD {A : Nat -> Nat×Nat} {F : ShM} {k j : Nat} {i : ImgM} {a : Nat×Nat} (h : j≠k) : ox (Bl A k a) (put F k i) j = ox A F j:=by unfold ox put Bl; rw [if_neg h,if_neg h]
theorem oF {A : Nat -> Nat×Nat} {F : ShM} {D : Nat -> DevM} {k j : Nat} {i : ImgM} {a : Nat×Nat} (h : j≠k) : oA (Bl A k a) (put F k i) D j = oA A F D j:=by unfold oA put Bl; rw [if_neg h,if_neg h]
theorem BM {A : Nat -> Nat×Nat} {F : ShM} {k : Nat} {i : ImgM} {a : Nat×Nat} : yi (Bl A k a) (put F k i) k = .pointer (some ⟨a.1,0,none⟩):=by unfold yi put Bl; rw [if_pos rfl,if_pos rfl]
theorem BR {A : Nat -> Nat×Nat} {F : ShM} {k : Nat} {i : ImgM} {a : Nat×Nat} : ox (Bl A k a) (put F k i) k = star [lX a.1 a.2 i,lo a.2 i.d]:=by unfold ox put Bl; rw [if_pos rfl,if_pos rfl]
theorem BY {A : Nat -> Nat×Nat} {F : ShM} {D : Nat -> DevM} {k : Nat} {i : ImgM} {a : Nat×Nat} : oA (Bl A k a) (put F k i) D k = emp:=by unfold oA put; rw [if_pos rfl]
def RA.stA (Y : RA) (k bi : Nat) : RA:={ Y with A:=Bl Y.A k (bi,(Y.A k).2) }
theorem Ey (Y : RA) (k bi : Nat) (m : lf) : ryC (Y.stA k bi) m = ryC Y m:=by
 have h : ∀j,((Y.stA k bi).A j).2 = (Y.A j).2:=fun j=>by
  show (Bl Y.A k (bi,(Y.A k).2) j).2 = _
  unfold Bl
  by_cases e : j = k
  ·rw [if_pos e,e]
  ·rw [if_neg e]
 unfold ryC
 rw [h,h,h,h,h]
 rfl
theorem Oo (Y : RA) (m : lf) (R : List SL.HP) {k : Nat} (hk : k < 5) (i : ImgM) (bi : Nat) :
  ((((ryL Y m R).set (1 + k) emp).set (7 + k) emp).set 0 (pts Y.bs (.cells ((oK Y.A m.F).setIfInBounds k (.pointer (some ⟨bi,0,none⟩))) 114 (0,0)))).set (1 + k) (star [lX bi (Y.A k).2 i,lo (Y.A k).2 i.d]) = ryL (Y.stA k bi) { m with F:=put m.F k i } R:=by
 have hA : (Y.stA k bi).A = Bl Y.A k (bi,(Y.A k).2):=rfl
 match k,hk with
 | 0,_=>show _ = rshL _ _ _++(ryT _ _++R); unfold ryT rshL oK; dsimp only; rw [Ey,hA,BR,BM,BY,oD (j:=1) (by decide),oD (j:=2) (by decide),oD (j:=3) (by decide),oD (j:=4) (by decide),oE (j:=1) (by decide),oE (j:=2) (by decide),oE (j:=3) (by decide),oE (j:=4) (by decide),oF (j:=1) (by decide),oF (j:=2) (by decide),oF (j:=3) (by decide),oF (j:=4) (by decide)]; rfl
 | 1,_=>show _ = rshL _ _ _++(ryT _ _++R); unfold ryT rshL oK; dsimp only; rw [Ey,hA,BR,BM,BY,oD (j:=0) (by decide),oD (j:=2) (by decide),oD (j:=3) (by decide),oD (j:=4) (by decide),oE (j:=0) (by decide),oE (j:=2) (by decide),oE (j:=3) (by decide),oE (j:=4) (by decide),oF (j:=0) (by decide),oF (j:=2) (by decide),oF (j:=3) (by decide),oF (j:=4) (by decide)]; rfl
 | 2,_=>show _ = rshL _ _ _++(ryT _ _++R); unfold ryT rshL oK; dsimp only; rw [Ey,hA,BR,BM,BY,oD (j:=0) (by decide),oD (j:=1) (by decide),oD (j:=3) (by decide),oD (j:=4) (by decide),oE (j:=0) (by decide),oE (j:=1) (by decide),oE (j:=3) (by decide),oE (j:=4) (by decide),oF (j:=0) (by decide),oF (j:=1) (by decide),oF (j:=3) (by decide),oF (j:=4) (by decide)]; rfl
 | 3,_=>show _ = rshL _ _ _++(ryT _ _++R); unfold ryT rshL oK; dsimp only; rw [Ey,hA,BR,BM,BY,oD (j:=0) (by decide),oD (j:=1) (by decide),oD (j:=2) (by decide),oD (j:=4) (by decide),oE (j:=0) (by decide),oE (j:=1) (by decide),oE (j:=2) (by decide),oE (j:=4) (by decide),oF (j:=0) (by decide),oF (j:=1) (by decide),oF (j:=2) (by decide),oF (j:=4) (by decide)]; rfl
 | 4,_=>show _ = rshL _ _ _++(ryT _ _++R); unfold ryT rshL oK; dsimp only; rw [Ey,hA,BR,BM,BY,oD (j:=0) (by decide),oD (j:=1) (by decide),oD (j:=2) (by decide),oD (j:=3) (by decide),oE (j:=0) (by decide),oE (j:=1) (by decide),oE (j:=2) (by decide),oE (j:=3) (by decide),oF (j:=0) (by decide),oF (j:=1) (by decide),oF (j:=2) (by decide),oF (j:=3) (by decide)]; rfl
theorem P7 {Y : RA} {m : lf} {R : List SL.HP} {w : World} {k : Nat} (hk : k < 5) {i : ImgM} {bi : Nat} (H : own w (lX bi (Y.A k).2 i::lo (Y.A k).2 i.d::((ryL Y m R).set (1 + k) emp).set (7 + k) emp)) :
  own (w.setCell ⟨Y.bs,k,none⟩ (.pointer (some ⟨bi,0,none⟩))) (ryL (Y.stA k bi) { m with F:=put m.F k i } R):=by
 have h1 : own w (star [lX bi (Y.A k).2 i,lo (Y.A k).2 i.d]::((ryL Y m R).set (1 + k) emp).set (7 + k) emp):=yB [lX bi (Y.A k).2 i,lo (Y.A k).2 i.d] H
 have h0 : (((ryL Y m R).set (1 + k) emp).set (7 + k) emp)[0]? = some (pts Y.bs (.cells (oK Y.A m.F) 114 (0,0))):=by
  rw [List.getElem?_set_ne (by omega),List.getElem?_set_ne (by omega)]; rfl
 have h2:=lg (i:=k) (v:=.pointer (some ⟨bi,0,none⟩)) 1 h1 (by rw [List.getElem?_cons_succ]; exact h0)
 rw [List.set_cons_succ] at h2
 have hlt:=SN Y m R hk
 have h3:=yk (1 + k) h2 (by rw [List.getElem?_set_ne (by omega),List.getElem?_set_ne (by omega),List.getElem?_set_self (by omega)])
 rwa [Oo Y m R hk] at h3
theorem JS {Y : RA} {m : lf} {R : List SL.HP} {w : World} (o : Obj) (H : own w (ryL Y m R)) : own (w.alloc o) (ryL Y m (pts w.heap.size o::R)):=by
 have h:=lu (rshL Y.bs Y.A m.F++ryT Y m) (R:=R) (by rw [zp]; exact li H o)
 rwa [zp] at h
theorem zu {Y : RA} {m : lf} {P : SL.HP} {R : List SL.HP} {w : World} (H : own w (ryL Y m (P::R))) : own w (ryL Y m R):=lh 15 H rfl
theorem JQ {Y : RA} {m : lf} {R : List SL.HP} {w : World} (H : own w (ryL Y m R)) : own w (lo Y.tp m.top::(ryL Y m R).eraseIdx 12):=lt 12 H rfl
theorem JL {Y : RA} {m : lf} {R : List SL.HP} {w0 w : World} {d : DevM} (H0 : own w0 (ryL Y m R)) (H : own w (lo Y.tp d::(ryL Y m R).eraseIdx 12)) : own w (ryL Y { m with top:=d } R):=oh H0 12 rfl H
theorem DW {Y : RA} {m : lf} {P : SL.HP} {R : List SL.HP} {w : World} (H : own w (P::ryL Y m R)) : own w (ryL Y m (P::R)):=by
 have h:=lu (rshL Y.bs Y.A m.F++ryT Y m) (R:=R) (by rw [zp]; exact H)
 rwa [zp] at h
theorem An {Y : RA} {m : lf} {j : JobM} (h : m.job = some j) {R : List SL.HP} {w : World} (H : own w (ryL Y m R)) : w.cell? ⟨Y.y,13,none⟩ = some (.pointer (some ⟨Y.bj,0,none⟩)):=by
 have:=EN H
 rw [h] at this
 exact this
def yY (Y : RA) (S : Int×lf) (R : List SL.HP) (w : World) (e : Ending) (w' : World) : Prop:=
 ∃Y' : RA,Y'.y = Y.y /\ e = .returned (.int .i64 S.1) /\ Ext w w' /\ own w' (ryL Y' S.2 R)
theorem ES (r : Int) (R : List SL.HP) (w : World) (H : own w R) :
  Calls Tryz.prog 102 #[.int .i64 r] w fun e w'=>e = .returned (lC r).v /\ Ext w w' /\ own w' R:=by
 have ha:=li H (.cells #[.int .i64 0,.int .i64 0,.int .i64 0,.int .i64 0,.int .i64 0] 24)
 have hxa:=(Ext.refl w).alloc (.cells #[.int .i64 0,.int .i64 0,.int .i64 0,.int .i64 0,.int .i64 0] 24)
 go_enter Tryz.func102,Tryz.ntmps102
 go_upto_region 1 with (fail)
 generalize w.heap.size = g at *
 generalize w.alloc (.cells #[.int .i64 0,.int .i64 0,.int .i64 0,.int .i64 0,.int .i64 0] 24) = w1 at *
 obtain ⟨cg,fg⟩:=ld 0 ha rfl
 go_wp2_with fail
 have h5:=lg (i:=4) (v:=.int .i64 0) 0 (lg (i:=3) (v:=.int .i64 0) 0 (lg (i:=2) (v:=.int .i64 (-1)) 0 (lg (i:=1) (v:=.int .i64 0) 0 (lg (i:=0) (v:=.int .i64 r) 0 ha rfl) rfl) rfl) rfl) rfl
 obtain ⟨c3,-⟩:=ld 0 h5 rfl
 refine bodyPost_ret (GI rfl _ _ g r 0 (-1) 0 0 rfl (c3 0) (c3 1) (c3 2) (c3 3) (c3 4)) rfl ?_
 exact ⟨rfl,((((hxa.setCell _ _).setCell _ _).setCell _ _).setCell _ _).setCell _ _,le h5⟩
theorem AM (Y : RA) (m : lf) (R : List SL.HP) (w : World) (H : own w (ryL Y m R)) :
  Calls Tryz.prog 209 #[.pointer (some ⟨Y.y,0,none⟩)] w fun e w'=>e = .returned (.bool (yX m)) /\ w = w':=by
 have cj:=EN H
 unfold yX
 cases hj : m.job with
 | none=>
  rw [hj] at cj
  change w.cell? ⟨Y.y,13,none⟩ = some (.pointer none) at cj
  clear H hj
  generalize Y.y = y at *
  go_enter Tryz.func209,Tryz.ntmps209
  go_wp2_with fail
  go_ret
  exact ⟨rfl,rfl⟩
 | some j=>
  rw [hj] at cj
  change w.cell? ⟨Y.y,13,none⟩ = some (.pointer (some ⟨Y.bj,0,none⟩)) at cj
  have HG:=zh (QT Y.bs Y.bj Y.vj j _ w (lq (rshL Y.bs Y.A m.F) [lA Y.bs Y.bj Y.vj j] (Ax hj H)))
  clear H hj
  generalize Y.y = y at *
  generalize Y.bj = bj at *
  go_enter Tryz.func209,Tryz.ntmps209
  go_wp2_with fail
  refine HG.out.mono ?_
  rintro e w' ⟨rfl,rfl⟩
  go_wp2_with fail
  go_ret
  exact ⟨by simp,rfl⟩
theorem BD (Y : RA) (m : lf) (ht : m.top.Ok) (hw : m.top.writes < 999000) (hp : m.top.pend.length < 999000) (d : lK) (hf : d.f = 0) (R : List SL.HP) (w : World) (H : own w (ryL Y m R)) :
  Calls Tryz.prog 131 #[.pointer (some ⟨Y.y,0,none⟩),d.v] w fun e w'=>e = .returned (.int .i64 (lw m d).1) /\ Ext w w' /\ own w' (ryL Y (lw m d).2 R):=by
 obtain ⟨r,k,f,a,b⟩:=d
 have hb:=JS (.cells #[.int .i64 r,.int .i64 k,.int .i64 f,.int .i64 a,.int .i64 b] 24) H
 have hxb:=(Ext.refl w).alloc (.cells #[.int .i64 r,.int .i64 k,.int .i64 f,.int .i64 a,.int .i64 b] 24)
 have hno : ¬yr r k f a b:=fun h=>by
  have h1 : yd r k f a b = 0:=hf
  rw [DL h] at h1
  exact absurd h1 (by decide)
 have HD:=zh (fun (R : List SL.HP) w' h=>Fn r k f a b hno R w' h)
 generalize hres : lw m ⟨r,k,f,a,b⟩ = res
 unfold lw at hres
 unfold lK.v o6
 have hs : (lK.mk r k f a b).s.size <= 9223372036854775807:=by
  show (Aa r k f a b).size <= _
  unfold Aa
  rw [AT (by simp)]
  decide
 have HS : Hid (Aa r k f a b = (lK.mk r k f a b).s):=zh rfl
 rw [HS.out] at HD
 generalize (lK.mk r k f a b).s = s at *
 have HW:=zh (fun (R : List SL.HP) w' h=>B7 Y.tp m.top ht 0 s hs (by omega) (by omega) R w' h)
 have hok:=DevM.write_ok ht 0 s (by omega) (by omega)
 have hcode : 0 <= (m.top.write 0 s).1:=og _ _ _
 have HP : Hid (∀w0 w' R d,own w0 (ryL Y m R) -> own w' (lo Y.tp d::(ryL Y m R).eraseIdx 12) -> own w' (ryL Y { m with top:=d } R)):=zh fun w0 w' R d h0 h=>JL h0 h
 unfold o6 at HD
 generalize m.top.write 0 s = S at *
 obtain ⟨c,t⟩:=S
 dsimp only at hcode hok HW hres
 have HRES:=zh hres
 clear hres
 clear H hf HS ht hw hp hs hno
 go_enter Tryz.func131,Tryz.ntmps131
 go_upto_region 1 with (fail)
 generalize w.heap.size = g at *
 generalize w.alloc (.cells #[.int .i64 r,.int .i64 k,.int .i64 f,.int .i64 a,.int .i64 b] 24) = w1 at *
 have hz:=lj hb
 have hxz:=hxb.drew
 clear hb hxb
 go_region_held3 (fun w'=>w'.cell? ⟨Y.y,5,none⟩ = some (.pointer (some ⟨Y.tp,0,none⟩)) /\ w'.cell? ⟨g,0,none⟩ = some (.int .i64 r) /\ w'.cell? ⟨g,1,none⟩ = some (.int .i64 k) /\ w'.cell? ⟨g,2,none⟩ = some (.int .i64 f) /\ w'.cell? ⟨g,3,none⟩ = some (.int .i64 a) /\ w'.cell? ⟨g,4,none⟩ = some (.int .i64 b)) (first | exact ⟨JW hz,(ld 15 hz rfl).1 0,(ld 15 hz rfl).1 1,(ld 15 hz rfl).1 2,(ld 15 hz rfl).1 3,(ld 15 hz rfl).1 4⟩ | exact ⟨JW h4,(ld 15 h4 rfl).1 0,(ld 15 h4 rfl).1 1,(ld 15 h4 rfl).1 2,(ld 15 h4 rfl).1 3,(ld 15 h4 rfl).1 4⟩) (first | (go_at_call 204; refine (HD.out _ _ hz).mono ?_; rintro e w2 ⟨rfl,hx2,hz'⟩; have hxz:=hxz.trans hx2; have hz:=hz') | (go_at_call 163; refine (HW.out _ _ (JQ hz)).mono ?_; rintro e w3 ⟨rfl,hx3,h3⟩; have h4:=HP.out _ _ _ t hz h3))
 all_goals
  have hx4:=hxz.trans hx3
  clear hz hxz hx3 h3
  by_cases hc : c = 0
  ·subst hc
   rw [if_neg (by decide)] at HRES
   have ct:=JW h4
   go_wp2_with fail
   refine (Ea Y.tp t hok _ w3 (JQ h4)).mono ?_
   rintro e w4 ⟨rfl,hx5,h5⟩
   have h6 : own w4 (ryL Y { m with top:=t.flush } (pts g (.cells #[.int .i64 r,.int .i64 k,.int .i64 f,.int .i64 a,.int .i64 b] 24 (0,0))::R)):=oh h4 12 rfl h5
   have cd:=(ld 15 h6 rfl).1
   have d0:=cd 0
   have d1:=cd 1
   have d2:=cd 2
   have d3:=cd 3
   have d4:=cd 4
   have fy:=AI h6
   have e7:=zC h6
   have e8:=CA h6
   have e9:=CD h6
   have e10:=Ek h6
   have e11:=Db h6
   clear ct cd
   have h7:=lg (i:=11) (v:=.int .i64 b) 6 (lg (i:=10) (v:=.int .i64 a) 6 (lg (i:=9) (v:=.int .i64 f) 6 (lg (i:=8) (v:=.int .i64 k) 6 (lg (i:=7) (v:=.int .i64 r) 6 h6 rfl) rfl) rfl) rfl) rfl
   have h8 : own _ (ryL Y { m with top:=t.flush,dk:=⟨r,k,f,a,b⟩ } (pts g (.cells #[.int .i64 r,.int .i64 k,.int .i64 f,.int .i64 a,.int .i64 b] 24 (0,0))::R)):=h7
   clear h7 h6 h5 h4
   go_wp2_with fail
   go_ret
   rw [<- HRES.out]
   exact ⟨rfl,(((((((hx4.trans hx5).setCell _ _).setCell _ _).setCell _ _).setCell _ _).setCell _ _)),zu h8⟩
  ·rw [if_pos hc] at HRES
   have hc1 : 0 < c:=by omega
   clear hc
   go_wp2_with fail
   go_ret
   rw [<- HRES.out]
   exact ⟨rfl,hx4,zu h4⟩
theorem Pi (Y : RA) (m : lf) {k : Nat} (hk : k < 5) : (ryC Y m)[k]? = some (.pointer (some ⟨(Y.A k).2,0,none⟩)):=by
 match k,hk with
 | 0,_=>rfl
 | 1,_=>rfl
 | 2,_=>rfl
 | 3,_=>rfl
 | 4,_=>rfl
theorem Je (N : Nat) (Y : RA) (m : lf) (hm : YOk N m) (hN : N < 900000) (file back : Int) (R : List SL.HP) (w : World) (H : own w (ryL Y m R)) :
  Calls Tryz.prog 109 #[.pointer (some ⟨Y.y,0,none⟩),.int .i64 file,.int .i64 back] w (yY Y (oC m file back) R w):=by
 have HB:=zh (AM Y m R w H)
 have hl5:=hm.list5
 generalize hres : oC m file back = res
 unfold oC at hres
 by_cases hb : file < 0 \/ 5 <= file
 ·rw [if_pos hb] at hres
  subst hres
  by_cases q1 : file < 0
  ·go_enter Tryz.func109,Tryz.ntmps109
   go_wp2_with fail
   go_ret
   exact ⟨Y,rfl,rfl,Ext.refl w,H⟩
  ·have q2 : 5 <= file:=by omega
   clear hb
   go_enter Tryz.func109,Tryz.ntmps109
   go_wp2_with fail
   go_ret
   exact ⟨Y,rfl,rfl,Ext.refl w,H⟩
 ·rw [if_neg hb] at hres
  obtain ⟨k,rfl⟩ : ∃k : Nat,file = (k : Int):=⟨file.toNat,by omega⟩
  have hk : k < 5:=by omega
  have q1 : ¬((k : Int) < 0):=by omega
  have q2 : ¬(5 <= (k : Int)):=by omega
  have q3 : (0 : Int) <= (k : Int):=by omega
  have q4 : (k : Int) < 5:=by omega
  clear hb
  rw [zn] at hres
  have HRES:=zh hres
  have cl:=Aw H
  have cf:=CD H
  obtain ⟨ao,lb,off,cap,hY,hlc,hcap,hao,hat⟩:=(BF H).form
  rw [hY] at cl
  have HAO:=zh hao
  have HAT:=zh hat
  have HUS : Hid (CZ m (k : Int) = (decide ((k : Int)∈m.list) || (yX m && decide (m.dk.file = (k : Int))))):=zh rfl
  obtain ⟨r,mr,hxr,hr,hFr⟩:=lT hm.root
  have hcl : clus m.F m.dk.root = mr.c:=by rw [hxr]; exact yo hFr
  obtain ⟨dok,dw,dp⟩:=hm.devOf hk
  have hcr:=zB (hm.sh.sh hN) hm.root
  rw [hcl] at hcr
  have hcn : ((mr.c.toNat : Nat) : Int) = mr.c:=by omega
  have hro:=fun w'=>AO mr.c.toNat (by omega) w'
  rw [hcn] at hro
  have hnl : (devOf m k).fl.length <= 1000000:=by have:=dok.n; omega
  have hrn : lr mr.c.toNat <= 1000000:=by unfold lr; omega
  have hpl : zN mr.c (devOf m k) = Int.tdiv (((devOf m k).fl.length : Int) - 1 - (lr mr.c.toNat : Nat)) 4:=rfl
  have hbl : yS m k back = oI (devOf m k) mr.c (zN mr.c (devOf m k)) back:=by unfold yS; rw [hcl]
  rw [hbl] at HRES
  have HCR:=zh (fun R' w' (h : own w' (ryL Y m R'))=>OO (Y.A k).2 (devOf m k) dok (by omega) (by omega) mr.c (zN mr.c (devOf m k)) back _ w' (I3 hk h))
  have hcode:=ET (devOf m k) mr.c (zN mr.c (devOf m k)) back
  have HDV:=zh (fun w' R' (h : own w' (ryL Y m R'))=>As (I3 hk h))
  have HC : ∀w' R',own w' (ryL Y m R') -> w'.cell? ⟨Y.y,6,none⟩ = some (.pointer (some ⟨Y.bs,0,none⟩)) /\ w'.cell? ⟨Y.y,7,none⟩ = some (.int .i64 (r : Int)) /\ w'.cell? ⟨Y.bs,r,none⟩ = some (.pointer (some ⟨(Y.A r).1,0,none⟩)):=fun w' R' h=>⟨Br h,by rw [<- hxr]; exact zC h,by rw [yl h hr,oS hFr]⟩
  have r0 : (0 : Int) <= (r : Int):=by omega
  have r5 : (r : Int) < 5:=by omega
  have HC:=zh HC
  unfold lM at HCR
  generalize hpv : zN mr.c (devOf m k) = pl at *
  generalize oI (devOf m k) mr.c pl back = S at *
  generalize hus : CZ m (k : Int) = us at *
  clear hres hao hat hbl hcn hm hcl dok dw dp hY
  have H0:=zh H
  generalize hbz : yX m = bz at *
  generalize hdf : m.dk.file = df at *
  generalize hll : m.list = l at *
  go_enter Tryz.func109,Tryz.ntmps109
  go_wp2_with fail
  refine HB.out.mono ?_
  rintro e w0 ⟨rfl,rfl⟩
  have HS0 : Hid (us = ((bz && decide (df = (k : Int))) || decide ((k : Int)∈l.drop 0))):=zh (by rw [HUS.out,Bool.or_comm]; rfl)
  clear HUS HB
  have hlc2:=hlc
  generalize hn : (devOf m k).fl.length = n at *
  generalize hrn' : lr mr.c.toNat = rn at *
  have n0 : (0 : Int) <= (n : Int):=by omega
  have n1 : (n : Int) <= 1000000:=by omega
  have m0 : (0 : Int) <= (rn : Int):=by omega
  have m1 : (rn : Int) <= 1000000:=by omega
  have HRO:=zh hro
  have e1 : IntKind.i64.wrap ((n : Int) - 1) = (n : Int) - 1:=IntWalk.i64_in _ (by omega)
  have e2 : IntKind.i64.wrap ((n : Int) - 1 - (rn : Int)) = (n : Int) - 1 - (rn : Int):=IntWalk.i64_in _ (by omega)
  have e3 : IntKind.i64.wrap (((n : Int) - 1 - (rn : Int)).tdiv 4) = ((n : Int) - 1 - (rn : Int)).tdiv 4:=IntWalk.i64_in _ (by
   have h4 : (((n : Int) - 1 - (rn : Int)).tdiv 4).natAbs = ((n : Int) - 1 - (rn : Int)).natAbs / 4:=Int.natAbs_tdiv _ _
   omega)
  have HPL:=zh hpl
  clear hro hpl hpv hn hrn'
  have hdd : (df == (k : Int)) = true /\ decide (df = (k : Int)) = true \/ (df == (k : Int)) = false /\ decide (df = (k : Int)) = false:=by
   by_cases hdk : df = (k : Int)
   ·exact Or.inl ⟨by rw [hdk]; simp,decide_eq_true hdk⟩
   ·exact Or.inr ⟨by rw [beq_eq_false_iff_ne]; exact hdk,decide_eq_false hdk⟩
  cases bz
  case' true=>
   rcases hdd with ⟨d1,hdd⟩ | ⟨d1,hdd⟩
   all_goals rw [hdd] at HS0
  all_goals
   clear hdd
   go_wp2_with fail
   go_loop [8,9] (fun u i=>∃(q : Nat) (b : Bool),q <= l.length /\ u = .bool b /\ i = .int .i64 q /\ us = (b || decide ((k : Int)∈l.drop q))) (fun u i=>l.length - (intOf i).toNat)
   case atStart=>exact ⟨0,_,Nat.zero_le _,rfl,rfl,HS0.out⟩
   case round=>
    clear HS0
    obtain ⟨q,b,hq,rfl,rfl,hgo⟩:=hrel
    by_cases hlt : q < l.length
    ·obtain rfl:=HAO.out (by omega)
     have j1 : (0 : Int) <= (q : Int):=by omega
     have j2 : (q : Int) < (l.length : Int):=by omega
     cases b with
     | true=>
      have HGO : Hid (us = true):=zh (by rw [hgo]; rfl)
      clear hgo
      go_wp2_with fail
      go_round
      case rel=>exact ⟨q + 1,true,by omega,rfl,by go_num,by rw [HGO.out]; rfl⟩
      case measure=>simp [intOf]; omega
     | false=>
      have c1:=HAT.out q hlt
      rw [zJ 0 hlt] at hgo
      generalize l.getD q 0 = x at *
      by_cases hx : x = (k : Int)
      ·have d0 : (x == (k : Int)) = true:=by rw [hx]; simp
       have HGO : Hid (us = true):=zh (by rw [hgo,hx]; simp)
       clear hgo hx
       go_wp2_with fail
       go_round
       case rel=>exact ⟨q + 1,true,by omega,rfl,by go_num,by rw [HGO.out]; rfl⟩
       case measure=>simp [intOf]; omega
      ·have d0 : (x == (k : Int)) = false:=by rw [beq_eq_false_iff_ne]; exact hx
       have HGO : Hid (us = (false || decide ((k : Int)∈l.drop (q + 1)))):=zh (by rw [hgo]; simp [List.mem_cons,Ne.symm hx])
       clear hgo hx
       go_wp2_with fail
       go_round
       case rel=>exact ⟨q + 1,false,by omega,rfl,by go_num,HGO.out⟩
       case measure=>simp [intOf]; omega
    ·obtain rfl : l.length = q:=by omega
     rw [List.drop_of_length_le (Nat.le_refl _)] at hgo
     replace hgo : us = b:=by rw [hgo]; simp
     subst hgo
     clear hq hlt
     cases us with
     | true=>
      rw [if_pos rfl] at HRES
      go_wp2_with fail
      go_ret
      rw [<- HRES.out]
      exact ⟨Y,rfl,rfl,Ext.refl _,H0.out⟩
     | false=>
      rw [if_neg (by decide)] at HRES
      have H:=H0.out
      obtain ⟨z6,z7,zr⟩:=HC.out w R H
      obtain ⟨-,-,-,x1,-,-,-,-,-⟩:=AJ hr hFr H
      go_upto_region 11 with (fail)
      go_quiet (fail)
      have h1:=lm nq H
      have hx1:=(Ext.refl w).drewN nq
      clear z6 z7 zr x1 H
      go_upto_region 12 with (fail)
      generalize w.drewN nq = w1 at *
      obtain ⟨vf,va,vw,ho⟩:=HDV.out _ _ h1
      obtain ⟨fao,fg,fcap,rfl,fr1,fr2,-⟩:=lk 1 ho rfl
      have dv:=Es h1 hk
      have df:=(ld 0 ho rfl).1 0
      refine wp_region_held_drew (S:=fun w'=>w'.cell? ⟨Y.y,k,none⟩ = some (.pointer (some ⟨(Y.A k).2,0,none⟩)) /\ w'.cell? ⟨(Y.A k).2,0,none⟩ = some (.slice fao n fcap)) (by kernel_rfl) ⟨dv,df⟩ (fun hHeld=>?_)
      refine tk 0 ?_
      refine tk 1 ?_
      refine tk 2 ?_
      refine tk 3 ?_
      refine tk 4 ?_
      refine tk 5 ?_
      refine tk 6 ?_
      refine tk 7 ?_
      refine tk 8 ?_
      refine tk 9 ?_
      refine tk 10 ?_
      refine tk 11 ?_
      refine tk 12 ?_
      refine tk 13 ?_
      try simp only [Act.put,tA,tB,tC,tD,tE,tF]
      refine wpAnyH_ready (rs:=[14,18]) (by kernel_rfl) (by simp) ?_
      refine AllReadyH.cons rfl (fun K hK=>?_) (AllReadyH.cons rfl (fun K hK=>?_) AllReadyH.nil)
      all_goals
       try
        go_simp
        go_at_call 161
        refine (HRO.out _).mono ?_
        rintro e w2 ⟨rfl,rfl⟩
        go_simp
        refine hK.out _ _ ⟨dv,df⟩ (fun _=>?_)
        clear hK K
        try simp only [Act.put,tA,tB,tC,tD,tE,tF]
        refine tk 15 ?_
        refine tk 16 ?_
        refine tk 17 ?_
        try simp only [Act.put,tA,tB,tC,tD,tE,tF]
        rw [<- HPL.out]
        refine rd 18 rfl fun K hK=>?_
       have h3:=lj (JS (.cells #[.int .i64 0,.int .i64 0,.int .i64 0] 103) h1)
       have hx3:=(hx1.alloc (.cells #[.int .i64 0,.int .i64 0,.int .i64 0] 103)).drew
       have ho3:=lj (li ho (.cells #[.int .i64 0,.int .i64 0,.int .i64 0] 103))
       go_simp
       refine hK.out _ _ ⟨Es h3 hk,(ld 1 ho3 rfl).1 0⟩ (fun _=>?_)
       clear hK K dv df
       try simp only [Act.put,tA,tB,tC,tD,tE,tF]
       generalize w1.heap.size = g at *
       generalize (w1.alloc (.cells #[.int .i64 0,.int .i64 0,.int .i64 0] 103)).drew = w3 at *
       have dv:=Es h3 hk
       have df:=(ld 1 ho3 rfl).1 0
       try
        refine rd 14 rfl fun K hK=>?_
        go_simp
        go_at_call 161
        refine (HRO.out _).mono ?_
        rintro e w2 ⟨rfl,rfl⟩
        go_simp
        refine hK.out _ _ ⟨dv,df⟩ (fun _=>?_)
        clear hK K
        try simp only [Act.put,tA,tB,tC,tD,tE,tF]
        refine tk 15 ?_
        refine tk 16 ?_
        refine tk 17 ?_
        try simp only [Act.put,tA,tB,tC,tD,tE,tF]
        rw [<- HPL.out]
       refine rd 19 rfl fun K hK=>?_
       clear dv df
       have c0:=(ld 15 h3 rfl).1 0
       have c1:=(ld 15 h3 rfl).1 1
       have c2:=(ld 15 h3 rfl).1 2
       have f3:=(ld 15 h3 rfl).2
       have h4:=lg (i:=2) (v:=.int .i64 back) 15 (lg (i:=1) (v:=.int .i64 pl) 15 (lg (i:=0) (v:=.int .i64 mr.c) 15 h3 rfl) rfl) rfl
       have h5 : own _ (ryL Y m (pts g (.cells #[.int .i64 mr.c,.int .i64 pl,.int .i64 back] 103 (0,0))::R)):=h4
       have ho5:=(ld 1 (lg (i:=2) (v:=.int .i64 back) 0 (lg (i:=1) (v:=.int .i64 pl) 0 (lg (i:=0) (v:=.int .i64 mr.c) 0 ho3 rfl) rfl) rfl) rfl).1 0
       have hx5:=((hx3.setCell (⟨g,0,none⟩ : Addr) (.int .i64 mr.c)).setCell (⟨g,1,none⟩ : Addr) (.int .i64 pl)).setCell (⟨g,2,none⟩ : Addr) (.int .i64 back)
       have dv:=Es h5 hk
       go_simp
       refine hK.out _ _ ⟨dv,ho5⟩ (fun _=>?_)
       clear hK K c0 c1 c2 f3 h4 h3 hx3 ho3 ho5 dv ho h1 hx1
       try simp only [Act.put,tA,tB,tC,tD,tE,tF]
       refine wpAnyH_done (by kernel_rfl) ?_ _
       generalize ((w3.setCell ⟨g,0,none⟩ (.int .i64 mr.c)).setCell ⟨g,1,none⟩ (.int .i64 pl)).setCell ⟨g,2,none⟩ (.int .i64 back) = w5 at *
       have dv:=Es h5 hk
       have g0:=(ld 15 h5 rfl).1 0
       have g1:=(ld 15 h5 rfl).1 1
       have g2:=(ld 15 h5 rfl).1 2
       have hz:=lj h5
       have hxz:=hx5.drew
       go_upto_region 13 with (fail)
       refine wp_region_held_drew (S:=fun w'=>w'.cell? ⟨Y.y,k,none⟩ = some (.pointer (some ⟨(Y.A k).2,0,none⟩)) /\ w'.cell? ⟨g,0,none⟩ = some (.int .i64 mr.c) /\ w'.cell? ⟨g,1,none⟩ = some (.int .i64 pl) /\ w'.cell? ⟨g,2,none⟩ = some (.int .i64 back)) (by kernel_rfl) ⟨dv,g0,g1,g2⟩ (fun hHeld=>?_)
       refine tk 0 ?_
       refine tk 1 ?_
       refine tk 2 ?_
       refine tk 3 ?_
       refine tk 4 ?_
       refine tk 5 ?_
       refine tk 6 ?_
       try simp only [Act.put,tA,tB,tC,tD,tE,tF]
       refine rd 7 rfl fun K hK=>?_
       go_simp
       go_at_call 63
       refine (HCR.out _ _ hz).mono ?_
       rintro e w10 hpost
       have h6 : (((ryL Y m (pts g (.cells #[.int .i64 mr.c,.int .i64 pl,.int .i64 back] 103 (0,0))::R)).set (1 + k) emp).set (7 + k) emp)[6]? = some (pts Y.y (.cells (ryC Y m) 171 (0,0))):=by rw [List.getElem?_set_ne (by omega),List.getElem?_set_ne (by omega)]; rfl
       have h0 : (((ryL Y m (pts g (.cells #[.int .i64 mr.c,.int .i64 pl,.int .i64 back] 103 (0,0))::R)).set (1 + k) emp).set (7 + k) emp)[0]? = some (pts Y.bs (.cells (oK Y.A m.F) 114 (0,0))):=by rw [List.getElem?_set_ne (by omega),List.getElem?_set_ne (by omega)]; rfl
       have h15 : (((ryL Y m (pts g (.cells #[.int .i64 mr.c,.int .i64 pl,.int .i64 back] 103 (0,0))::R)).set (1 + k) emp).set (7 + k) emp)[15]? = some (pts g (.cells #[.int .i64 mr.c,.int .i64 pl,.int .i64 back] 103 (0,0))):=by rw [List.getElem?_set_ne (by omega),List.getElem?_set_ne (by omega)]; rfl
       rcases hpost with ⟨hc,rfl,hx10,h10⟩ | ⟨hc,bi,rfl,hx10,h10⟩
       ·skip
        have z1 : w10.cell? ⟨Y.y,k,none⟩ = some (.pointer (some ⟨(Y.A k).2,0,none⟩)):=by rw [(ld 7 h10 h6).1 k]; exact Pi Y m hk
        have z2:=(ld 16 h10 h15).1
        go_simp
        refine hK.out _ _ ⟨z1,z2 0,z2 1,z2 2⟩ (fun _=>?_)
        clear hK K z1 z2 dv g0 g1 g2
        try simp only [Act.put,tA,tB,tC,tD,tE,tF]
        refine tk 8 ?_
        refine tk 9 ?_
        refine tk 10 ?_
        refine tk 11 ?_
        refine tk 12 ?_
        try simp only [Act.put,tA,tB,tC,tD,tE,tF]
        refine wpAnyH_done (by kernel_rfl) ?_ _
        rw [if_pos hc] at HRES
        have cb : w10.cell? ⟨Y.y,6,none⟩ = some (.pointer (some ⟨Y.bs,0,none⟩)):=(ld 7 h10 h6).1 6
        have fs : w10.frozen? ⟨Y.bs,k,none⟩ = false:=(ld 1 h10 h0).2 k
        have cs : ∃v,w10.cell? ⟨Y.bs,k,none⟩ = some v:=by
         rw [(ld 1 h10 h0).1 k]
         unfold oK
         exact ⟨_,Array.getElem?_eq_getElem (by simp; omega)⟩
        obtain ⟨vs,cs⟩:=cs
        have h11:=PC (Y:=Y) hk h10
        have hx11:=(hxz.trans hx10).setCell (⟨Y.bs,k,none⟩ : Addr) (.pointer none)
        clear h0 h6 h15 h10 hz hxz hx10
        go_wp2_with fail
        go_ret
        rw [<- HRES.out]
        subst hll
        exact ⟨Y,rfl,rfl,hx11,zu h11⟩
       ·skip
        have z1 : w10.cell? ⟨Y.y,k,none⟩ = some (.pointer (some ⟨(Y.A k).2,0,none⟩)):=by rw [(ld 8 h10 h6).1 k]; exact Pi Y m hk
        have z2:=(ld 17 h10 h15).1
        go_simp
        refine hK.out _ _ ⟨z1,z2 0,z2 1,z2 2⟩ (fun _=>?_)
        clear hK K z1 z2 dv g0 g1 g2
        try simp only [Act.put,tA,tB,tC,tD,tE,tF]
        refine tk 8 ?_
        refine tk 9 ?_
        refine tk 10 ?_
        refine tk 11 ?_
        refine tk 12 ?_
        try simp only [Act.put,tA,tB,tC,tD,tE,tF]
        refine wpAnyH_done (by kernel_rfl) ?_ _
        rw [if_neg (by rw [hc]; decide)] at HRES
        have cb : w10.cell? ⟨Y.y,6,none⟩ = some (.pointer (some ⟨Y.bs,0,none⟩)):=(ld 8 h10 h6).1 6
        have fs : w10.frozen? ⟨Y.bs,k,none⟩ = false:=(ld 2 h10 h0).2 k
        have cs : ∃v,w10.cell? ⟨Y.bs,k,none⟩ = some v:=by
         rw [(ld 2 h10 h0).1 k]
         unfold oK
         exact ⟨_,Array.getElem?_eq_getElem (by simp; omega)⟩
        obtain ⟨vs,cs⟩:=cs
        have h11:=P7 (Y:=Y) hk h10
        have hx11:=(hxz.trans hx10).setCell (⟨Y.bs,k,none⟩ : Addr) (.pointer (some ⟨bi,0,none⟩))
        clear h0 h6 h15 h10 hz hxz hx10
        go_wp2_with fail
        go_ret
        rw [<- HRES.out]
        subst hll
        exact ⟨Y.stA k bi,rfl,rfl,hx11,zu h11⟩
def DO (A : Nat -> Nat×Nat) (q k : Nat) : Value:=if k < q then .pointer (some ⟨(A k).2,0,none⟩) else .pointer none
def rnC (bs : Nat) (A : Nat -> Nat×Nat) (q : Nat) (t : Value) (dk : lK) (v : Value) : Array Value:=#[DO A q 0,DO A q 1,DO A q 2,DO A q 3,DO A q 4,t,.pointer (some ⟨bs,0,none⟩),.int .i64 dk.root,.int .i64 dk.kind,.int .i64 dk.file,.int .i64 dk.rate,.int .i64 dk.burst,v,.pointer none]
def yU (A : Nat -> Nat×Nat) (F : ShM) (D : Nat -> DevM) (q k : Nat) : HP:=if k < q then oA A F D k else emp
def rnT (y bs : Nat) (A : Nat -> Nat×Nat) (F : ShM) (D : Nat -> DevM) (q : Nat) (t : Value) (dk : lK) (v : Value) : List SL.HP:=[pts y (.cells (rnC bs A q t dk v) 171 (0,0)),yU A F D q 0,yU A F D q 1,yU A F D q 2,yU A F D q 3,yU A F D q 4]
abbrev rnL (y bs : Nat) (A : Nat -> Nat×Nat) (F : ShM) (D : Nat -> DevM) (q : Nat) (t : Value) (dk : lK) (v : Value) (R : List SL.HP) : List SL.HP:=rshL bs A F++(rnT y bs A F D q t dk v++R)
theorem Ve {y bs q k : Nat} {A : Nat -> Nat×Nat} {F : ShM} {D : Nat -> DevM} {t v : Value} {dk : lK} {R : List SL.HP} {w : World} (hk : k < 5) (hq : k < q) (hF : F k = none) (H : own w (rnL y bs A F D q t dk v R)) :
  own w (lo (A k).2 (D k)::(rnL y bs A F D q t dk v R).set (7 + k) emp):=by
 have e : yU A F D q k = lo (A k).2 (D k):=by unfold yU oA; rw [if_pos hq,hF]
 have hg : (rnL y bs A F D q t dk v R)[7 + k]? = some (yU A F D q k):=by
  match k,hk with
  | 0,_=>rfl
  | 1,_=>rfl
  | 2,_=>rfl
  | 3,_=>rfl
  | 4,_=>rfl
 have h1:=C9 (7 + k) H hg
 rwa [e] at h1
theorem U5 {y bs q k : Nat} {A : Nat -> Nat×Nat} {F : ShM} {D : Nat -> DevM} {t v : Value} {dk : lK} {R : List SL.HP} {w : World} (hk : k < 5) (hq : k < q) (hF : F k = none) (H : own w (lo (A k).2 (D k)::(rnL y bs A F D q t dk v R).set (7 + k) emp)) :
  own w (rnL y bs A F D q t dk v R):=by
 have e : yU A F D q k = lo (A k).2 (D k):=by unfold yU oA; rw [if_pos hq,hF]
 rw [<- e] at H
 match k,hk with
 | 0,_=>exact yk 7 H rfl
 | 1,_=>exact yk 8 H rfl
 | 2,_=>exact yk 9 H rfl
 | 3,_=>exact yk 10 H rfl
 | 4,_=>exact yk 11 H rfl
theorem PY {A : Nat -> Nat×Nat} {F : ShM} {D : Nat -> DevM} {q k j : Nat} {a : Nat×Nat} {i : ImgM} : yU (setA A k a) (put F k i) D q j = if j = k then emp else yU A F D q j:=by
 unfold yU
 by_cases e : j = k
 ·subst e
  rw [if_pos rfl]
  split
  ·unfold oA; rw [zq]
  ·rfl
 ·rw [if_neg e]
  unfold oA
  rw [AB F i e,B8 A a e]
theorem QC {A : Nat -> Nat×Nat} {q k j bi : Nat} : DO (setA A k (bi,(A k).2)) q j = DO A q j:=by
 unfold DO
 by_cases e : j = k
 ·subst e; rw [C6]
 ·rw [B8 A _ e]
theorem Wk {y bs q k bi : Nat} {A : Nat -> Nat×Nat} {F : ShM} {D : Nat -> DevM} {t v : Value} {dk : lK} {i : ImgM} {R : List SL.HP} {w : World} (hk : k < 5) (hF : F k = none)
  (H : own w (lX bi (A k).2 i::lo (A k).2 i.d::(rnL y bs A F D q t dk v R).set (7 + k) emp)) :
  own (w.setCell ⟨bs,k,none⟩ (.pointer (some ⟨bi,0,none⟩))) (rnL y bs (setA A k (bi,(A k).2)) (put F k i) D q t dk v R):=by
 have h1:=Vl (R:=(rnT y bs A F D q t dk v++R).set (1 + k) emp) hk hF (b:=bs) (A:=A) (w:=w) (bi:=bi) (bd:=(A k).2) (m:=i) (by
  match k,hk with
  | 0,_=>exact H
  | 1,_=>exact H
  | 2,_=>exact H
  | 3,_=>exact H
  | 4,_=>exact H)
 have e : (rnT y bs A F D q t dk v++R).set (1 + k) emp = rnT y bs (setA A k (bi,(A k).2)) (put F k i) D q t dk v++R:=by
  unfold rnT rnC
  simp only [PY,QC]
  match k,hk with
  | 0,_=>rfl
  | 1,_=>rfl
  | 2,_=>rfl
  | 3,_=>rfl
  | 4,_=>rfl
 rw [e] at h1
 exact h1
theorem Vz {y bs tp : Nat} {A : Nat -> Nat×Nat} {F : ShM} {D : Nat -> DevM} {v : Value} {dk : lK} {top : DevM} {l : List Int} {R : List SL.HP} {w : World} (H : own w (rnL y bs A F D 5 (.pointer (some ⟨tp,0,none⟩)) dk v (lo tp top::row 3 1 v l.length (ln l)::R))) :
  own w (ryL ⟨y,bs,tp,A,v,0,undef⟩ ⟨F,D,top,dk,l,none⟩ R):=
 lu ((ryL ⟨y,bs,tp,A,v,0,undef⟩ ⟨F,D,top,dk,l,none⟩ R).take 14) (zk H)
theorem C7 {y bs q : Nat} {A : Nat -> Nat×Nat} {F : ShM} {D : Nat -> DevM} {t v : Value} {dk : lK} {R : List SL.HP} {w : World} (H : own w (rnL y bs A F D q t dk v R)) : (∀i,w.cell? ⟨y,i,none⟩ = (rnC bs A q t dk v)[i]?) /\ ∀i,w.frozen? ⟨y,i,none⟩ = false:=ld 6 H rfl
theorem Ig {y bs q : Nat} {A : Nat -> Nat×Nat} {F : ShM} {D : Nat -> DevM} {t v : Value} {dk : lK} {P : SL.HP} {R : List SL.HP} {w : World} (H : own w (P::rnL y bs A F D q t dk v R)) : own w (rnL y bs A F D q t dk v (P::R)):=by
 have h:=lu (rshL bs A F++rnT y bs A F D q t dk v) (R:=R) (by rw [zp]; exact H)
 rwa [zp] at h
theorem Sl {y bs q k : Nat} {A : Nat -> Nat×Nat} {F : ShM} {D : Nat -> DevM} {t v : Value} {dk : lK} {R : List SL.HP} {w : World} (hk : k < 5) (H : own w ((rnL y bs A F D q t dk v R).set (7 + k) emp)) : (∀i,w.cell? ⟨y,i,none⟩ = (rnC bs A q t dk v)[i]?) /\ ∀i,w.frozen? ⟨y,i,none⟩ = false:=
 ld 6 H (by rw [List.getElem?_set_ne (by omega)]; rfl)
theorem Tq {y bs q k : Nat} {A : Nat -> Nat×Nat} {F : ShM} {D : Nat -> DevM} {t v : Value} {dk : lK} {R : List SL.HP} {w : World} (hk : k < 5) (hF : F k = none) (H : own w ((rnL y bs A F D q t dk v R).set (7 + k) emp)) : w.cell? ⟨bs,k,none⟩ = some (.pointer none) /\ w.frozen? ⟨bs,k,none⟩ = false:=by
 obtain ⟨h1,h2⟩:=ld (arr:=oK A F) (T:=114) 0 H (by rw [List.getElem?_set_ne (by omega)]; rfl)
 refine ⟨?_,h2 k⟩
 rw [h1,<- Ci (A:=A) hF]
 have h : k = 0 \/ k = 1 \/ k = 2 \/ k = 3 \/ k = 4:=by omega
 rcases h with rfl | rfl | rfl | rfl | rfl
 all_goals rfl
theorem Vf {y bs q : Nat} {A : Nat -> Nat×Nat} {F : ShM} {D : Nat -> DevM} {t v : Value} {dk : lK} {R : List SL.HP} {w : World} (d : lK) (H : own w (rnL y bs A F D q t dk v R)) :
  own (((((w.setCell ⟨y,7,none⟩ (.int .i64 d.root)).setCell ⟨y,8,none⟩ (.int .i64 d.kind)).setCell ⟨y,9,none⟩ (.int .i64 d.file)).setCell ⟨y,10,none⟩ (.int .i64 d.rate)).setCell ⟨y,11,none⟩ (.int .i64 d.burst)) (rnL y bs A F D q t d v R):=
 lg (i:=11) (v:=.int .i64 d.burst) 6 (lg (i:=10) (v:=.int .i64 d.rate) 6 (lg (i:=9) (v:=.int .i64 d.file) 6 (lg (i:=8) (v:=.int .i64 d.kind) 6 (lg (i:=7) (v:=.int .i64 d.root) 6 H rfl) rfl) rfl) rfl) rfl
def newN (c p : Int) : Nat:=(yR c p).toNat
def newI (c p : Int) : ImgM:=(oI (ow (newN c p)) c p (-1)).2
def Bd (c p : Int) : lf:=⟨put (fun _=>none) 0 (newI c p),fun _=>ow (newN c p),ow 1,lC 0,[0],none⟩
def Gj (c p : Int) : lf:=(lw (Bd c p) (lC 0)).2
theorem Vd {c p b : Int} (h : ¬lG c p b) : 1 <= yR c p /\ yR c p <= 165:=by
 unfold lG at h
 unfold yR lr
 omega
theorem KT {c p b : Int} (h : ¬lG c p b) : (newN c p : Int) = yR c p /\ newN c p <= 165 /\ 1 <= newN c p:=by
 have:=Vd h
 unfold newN
 omega
theorem TE {c p : Int} (h : ¬lG c p (-1)) : (oI (ow (newN c p)) c p (-1)).1 = 0:=by
 obtain ⟨h1,h2,h3⟩:=KT h
 refine (MF (Cx (by omega)) (show (ow (newN c p)).fail < 0 by show (-1 : Int) < 0; decide) (by show (0 : Nat) < _; decide) (by show (0 : Int) < _; decide) ?_).1
 rintro (h4 | h4)
 ·exact h h4
 ·have : (ow (newN c p)).fl.length = newN c p:=by simp [ow]
  omega
theorem Tj (c p : Int) : (lw (Bd c p) (lC 0)).1 = 0:=by
 have h : ((Bd c p).top.write 0 (lC 0).s).1 = 0:=by
  refine (Gx (d:=ow 1) (by show (-1 : Int) < 0; decide) (by decide) (by show (0 : Int) < ((ow 1).fl.length : Nat); decide) ?_).1
  show (Aa 0 0 (-1) 0 0).size = 16
  unfold Aa
  rw [AT (by simp)]
 unfold lw
 rw [if_neg (by rw [h]; exact fun h=>h rfl)]
theorem T0 (c p : Int) (h : ¬lG c p (-1)) (R : List SL.HP) (w : World) (H : own w R) :
  Calls Tryz.prog 31 #[.int .i64 c,.int .i64 p] w fun e w'=>∃Y : YA,e = .returned (.tuple #[.pointer (some ⟨Y.y,0,none⟩),.nilIface]) /\ Ext w w' /\ own w' (yL Y (Gj c p) R):=by
 have hb:=li H (.cells #[.int .i64 c,.int .i64 p,.int .i64 (-1)] 103)
 have hxb:=(Ext.refl w).alloc (.cells #[.int .i64 c,.int .i64 p,.int .i64 (-1)] 103)
 have HC:=zh (fun (R : List SL.HP) (w : World) (H : own w R)=>AK c p (-1) R w H)
 have HNE:=zh (fun (R : List SL.HP) (w : World) (H : own w R)=>NF c p (-1) h R w H)
 unfold lM yP at HC
 unfold lM at HNE
 rw [if_neg h,l9] at HC
 obtain ⟨hn1,hn2,hn3⟩:=KT h
 have hcr:=TE h
 have hnw:=Tj c p
 have hM : Gj c p = (lw (Bd c p) (lC 0)).2:=rfl
 have hM0 : Bd c p = ⟨put (fun _=>none) 0 (newI c p),fun _=>ow (newN c p),ow 1,lC 0,[0],none⟩:=rfl
 have hI : newI c p = (oI (ow (newN c p)) c p (-1)).2:=rfl
 have HCR:=zh (fun (bd : Nat) (R : List SL.HP) (w : World) (H : own w (ll bd (ow (newN c p))::R))=>(Kt bd (ow (newN c p)) (Cx (by omega)) (by show (0 : Nat) < _; decide) (by show (0 : Int) < _; decide) c p (-1) R w H).mono fun e w' h=>(h.resolve_left fun h=>h.1 hcr).2)
 unfold lM at HCR
 rw [<- hI] at HCR
 have HND:=zh (fun (R : List SL.HP) (w : World) (H : own w R)=>Fi (newN c p) R w (by unfold CT; exact decide_eq_true (by omega)) H)
 rw [hn1] at HND
 rw [hM]
 generalize newI c p = i0 at *
 generalize Bd c p = M0 at *
 generalize newN c p = n at *
 generalize yR c p = ni at *
 have HNW:=zh hnw
 have HM0:=zh hM0
 clear h H hn1 hn2 hn3 hcr hI hM hnw hM0
 go_enter Tryz.func31,Tryz.ntmps31
 go_upto_region 2 with (fail)
 generalize w.heap.size = g at *
 generalize w.alloc (.cells #[.int .i64 c,.int .i64 p,.int .i64 (-1)] 103) = w1 at *
 obtain ⟨cg,fg⟩:=ld 0 hb rfl
 have d0:=cg 0
 have d1:=cg 1
 have d2:=cg 2
 clear cg
 go_wp2_with fail
 refine (HC.out _ w1 hb).mono ?_
 rintro e w2 ⟨rfl,hx2,h2⟩
 clear d0 d1 d2 fg
 go_upto_region 5 with (fail)
 have h3:=SQ (fun _=>(0,0,0)) h2
 have hx3:=(hxb.trans hx2).alloc (.cells #[.pointer none,.pointer none,.pointer none,.pointer none,.pointer none] 111)
 go_wp2_with fail
 generalize w2.heap.size = bs at *
 generalize w2.alloc (.cells #[.pointer none,.pointer none,.pointer none,.pointer none,.pointer none] 111) = w3 at *
 refine (Ct 0 _ w3 h3).mono ?_
 rintro e w4 ⟨rfl,hx4,h4⟩
 unfold lC lK.v o6
 dsimp only
 have h5:=li h4 (.cells #[.int .i64 0] 3)
 have hx5:=(hx3.trans hx4).alloc (.cells #[.int .i64 0] 3)
 have h6 : own _ (row 3 1 (.slice (some ⟨w4.heap.size,0,none⟩) 1 1) 1 [.int .i64 0]::(shL bs (fun _=>(0,0,0)) (fun _=>none)++(pts g (.cells #[.int .i64 c,.int .i64 p,.int .i64 (-1)] 103 (0,0))::R))):=yJ (cap:=1) (n:=1) (sz:=1) 0 h5 rfl (Nat.le_refl _) (by decide) rfl rfl
 have h7:=li h6 (.cells #[.pointer none,.pointer none,.pointer none,.pointer none,.pointer none,.pointer none,.pointer (some ⟨bs,0,none⟩),.int .i64 0,.int .i64 0,.int .i64 (-1),.int .i64 0,.int .i64 0,.slice (some ⟨w4.heap.size,0,none⟩) 1 1,.pointer none] 165)
 have hx7:=hx5.alloc (.cells #[.pointer none,.pointer none,.pointer none,.pointer none,.pointer none,.pointer none,.pointer (some ⟨bs,0,none⟩),.int .i64 0,.int .i64 0,.int .i64 (-1),.int .i64 0,.int .i64 0,.slice (some ⟨w4.heap.size,0,none⟩) 1 1,.pointer none] 165)
 have h8:=lu (_::shL bs (fun _=>(0,0,0)) (fun _=>none)) (BZ h7)
 have h9:=UU (dk:=lC 0) (fun _=>ow n) h8
 clear h2 h3 h4 h5 h6 h7 h8 hx2 hx3 hx4 hx5 hb hxb
 go_wp2_with fail
 rw [show (w4.alloc (.cells #[.int .i64 0] 3)).heap.size = w4.heap.size + 1 by simp] at h9
 generalize w4.heap.size + 1 = y at *
 generalize w4.heap.size = sl at *
 generalize ((w4.alloc (.cells #[.int .i64 0] 3)).alloc (.cells #[.pointer none,.pointer none,.pointer none,.pointer none,.pointer none,.pointer none,.pointer (some ⟨bs,0,none⟩),.int .i64 0,.int .i64 0,.int .i64 (-1),.int .i64 0,.int .i64 0,.slice (some ⟨sl,0,none⟩) 1 1,.pointer none] 165)) = w7 at *
 go_loopw [23] (fun kv wr=>∃(q : Nat) (A : Nat -> Nat×Nat×Nat),q <= 5 /\ kv = .int .i64 q /\ Ext w wr /\ own wr (nL y bs A (fun _=>none) (fun _=>ow n) q (.pointer none) (lC 0) (.slice (some ⟨sl,0,none⟩) 1 1) (row 3 1 (.slice (some ⟨sl,0,none⟩) 1 1) 1 [.int .i64 0]::pts g (.cells #[.int .i64 c,.int .i64 p,.int .i64 (-1)] 103 (0,0))::R))) (fun kv _=>6 - (intOf kv).toNat)
 case atStart=>exact ⟨0,_,by omega,rfl,hx7,h9⟩
 case round=>
  clear h9 hx7
  obtain ⟨q,A,hq,rfl,hxr,hown⟩:=hrel
  by_cases hlt : q < 5
  ·have g1 : (q : Int) < 5:=by omega
   have g2 : (0 : Int) <= (q : Int):=by omega
   go_upto_region 9 with (fail)
   have hz:=lj hown
   have hxz:=hxr.drew
   refine wp_region_held_drew (S:=fun w'=>w'.cell? ⟨g,0,none⟩ = some (.int .i64 c) /\ w'.cell? ⟨g,1,none⟩ = some (.int .i64 p) /\ w'.cell? ⟨g,2,none⟩ = some (.int .i64 (-1))) (by kernel_rfl) (⟨(ld 13 hz rfl).1 0,(ld 13 hz rfl).1 1,(ld 13 hz rfl).1 2⟩) (fun hHeld=>?_)
   refine tk 0 ?_
   refine tk 1 ?_
   refine tk 2 ?_
   try simp only [Act.put,tA,tB,tC,tD,tE,tF]
   refine tk 8 ?_
   refine tk 9 ?_
   try simp only [Act.put,tA,tB,tC,tD,tE,tF]
   refine rd 3 rfl fun K hK=>?_
   go_simp
   go_at_call 127
   refine (HNE.out _ _ hz).mono ?_
   rintro e w2 ⟨rfl,hx2,h2⟩
   go_simp
   refine hK.out _ _ ⟨(ld 13 h2 rfl).1 0,(ld 13 h2 rfl).1 1,(ld 13 h2 rfl).1 2⟩ (fun _=>?_)
   clear hK K
   try simp only [Act.put,tA,tB,tC,tD,tE,tF]
   refine rd 4 rfl fun K hK=>?_
   go_simp
   go_at_call 61
   refine (HND.out _ _ h2).mono ?_
   rintro e w3 ⟨cb,rfl,hx3,h3⟩
   go_simp
   have hn3:=Ep h3
   refine hK.out _ _ ⟨(ld 14 hn3 rfl).1 0,(ld 14 hn3 rfl).1 1,(ld 14 hn3 rfl).1 2⟩ (fun _=>?_)
   clear hK K
   try simp only [Act.put,tA,tB,tC,tD,tE,tF]
   refine tk 5 ?_
   refine tk 6 ?_
   refine tk 7 ?_
   try simp only [Act.put,tA,tB,tC,tD,tE,tF]
   refine tk 10 ?_
   try simp only [Act.put,tA,tB,tC,tD,tE,tF]
   have cy:=Lq hlt hn3
   have fy:=(Bi hn3).2 q
   have h4:=UT (D:=fun _=>ow n) (F:=fun _=>none) (q:=q) hlt rfl h3
   refine rd 11 rfl fun K hK=>?_
   go_simp
   refine hK.out _ _ ⟨(ld 13 h4 rfl).1 0,(ld 13 h4 rfl).1 1,(ld 13 h4 rfl).1 2⟩ (fun _=>?_)
   clear hK K
   try simp only [Act.put,tA,tB,tC,tD,tE,tF]
   refine tk 12 ?_
   try simp only [Act.put,tA,tB,tC,tD,tE,tF]
   refine wpAnyH_done (by kernel_rfl) ?_ _
   go_wp2_with fail
   go_roundw
   case rel=>exact ⟨q + 1,_,by omega,by go_num,(((hxz.trans hx2).trans hx3).setCell _ _),h4⟩
   case measure=>simp [intOf]; omega
  ·obtain rfl : q = 5:=by omega
   go_wp2_with fail
   refine (Fi 1 _ wr (by decide) hown).mono ?_
   rintro e w2 ⟨tp,rfl,hx2,h2⟩
   have hn:=Ep h2
   have ct:=(Bi hn).1 5
   have fy:=(Bi hn).2 5
   have h3:=lg (i:=5) (v:=.pointer (some ⟨tp,0,none⟩)) 6 hn rfl
   have h4 : own (w2.setCell ⟨y,5,none⟩ (.pointer (some ⟨tp,0,none⟩))) (yL ⟨y,bs,tp,A,.slice (some ⟨sl,0,none⟩) 1 1,0,0,0,undef⟩ ⟨fun _=>none,fun _=>ow n,ow 1,lC 0,[0],none⟩ (pts g (.cells #[.int .i64 c,.int .i64 p,.int .i64 (-1)] 103 (0,0))::R)):=S4 h3
   have hx4:=(hxr.trans hx2).setCell (⟨y,5,none⟩ : Addr) (.pointer (some ⟨tp,0,none⟩))
   clear h2 hn h3 hxr hx2 hown
   go_upto_region 16 with (fail)
   clear ct fy
   generalize w2.setCell ⟨y,5,none⟩ (.pointer (some ⟨tp,0,none⟩)) = w3 at *
   have hz:=lj h4
   have hxz:=hx4.drew
   have hk0 : (0 : Nat) < 5:=by decide
   refine wp_region_held_drew (S:=fun w'=>w'.cell? ⟨y,6,none⟩ = some (.pointer (some ⟨bs,0,none⟩)) /\ w'.cell? ⟨y,0,none⟩ = some (.pointer (some ⟨(A 0).2.1,0,none⟩)) /\ w'.cell? ⟨g,0,none⟩ = some (.int .i64 c) /\ w'.cell? ⟨g,1,none⟩ = some (.int .i64 p) /\ w'.cell? ⟨g,2,none⟩ = some (.int .i64 (-1))) (by kernel_rfl) (⟨y_bs hz,DG hz hk0,(ld 15 hz rfl).1 0,(ld 15 hz rfl).1 1,(ld 15 hz rfl).1 2⟩) (fun hHeld=>?_)
   refine tk 0 ?_
   refine tk 1 ?_
   refine tk 2 ?_
   refine tk 3 ?_
   refine tk 4 ?_
   refine tk 5 ?_
   refine tk 6 ?_
   refine tk 7 ?_
   refine tk 8 ?_
   refine tk 9 ?_
   try simp only [Act.put,tA,tB,tC,tD,tE,tF]
   refine tk 14 ?_
   try simp only [Act.put,tA,tB,tC,tD,tE,tF]
   refine rd 10 rfl fun K hK=>?_
   go_simp
   go_at_call 62
   refine (HCR.out _ _ _ (DB hk0 rfl hz)).mono ?_
   rintro e w5 ⟨bi,bh,rfl,hx5,h5⟩
   go_simp
   refine hK.out _ _ ⟨(ld 8 h5 rfl).1 6,(ld 8 h5 rfl).1 0,(ld 17 h5 rfl).1 0,(ld 17 h5 rfl).1 1,(ld 17 h5 rfl).1 2⟩ (fun _=>?_)
   clear hK K
   try simp only [Act.put,tA,tB,tC,tD,tE,tF]
   refine tk 11 ?_
   refine tk 12 ?_
   refine tk 13 ?_
   try simp only [Act.put,tA,tB,tC,tD,tE,tF]
   refine tk 15 ?_
   try simp only [Act.put,tA,tB,tC,tD,tE,tF]
   have cs : w5.cell? ⟨bs,0,none⟩ = some (.pointer none):=(ld 2 h5 rfl).1 0
   have fs : w5.frozen? ⟨bs,0,none⟩ = false:=(ld 2 h5 rfl).2 0
   have h6:=Lr (Y:=⟨y,bs,tp,A,.slice (some ⟨sl,0,none⟩) 1 1,0,0,0,undef⟩) (m:=⟨fun _=>none,fun _=>ow n,ow 1,lC 0,[0],none⟩) hk0 rfl h5
   have hx6:=(hxz.trans hx5).setCell (⟨bs,0,none⟩ : Addr) (.pointer (some ⟨bi,0,none⟩))
   refine rd 16 rfl fun K hK=>?_
   go_simp
   refine hK.out _ _ ⟨y_bs h6,DG h6 hk0,(ld 15 h6 rfl).1 0,(ld 15 h6 rfl).1 1,(ld 15 h6 rfl).1 2⟩ (fun _=>?_)
   clear hK K cs fs
   try simp only [Act.put,tA,tB,tC,tD,tE,tF]
   refine tk 17 ?_
   try simp only [Act.put,tA,tB,tC,tD,tE,tF]
   refine wpAnyH_done (by kernel_rfl) ?_ _
   generalize w5.setCell ⟨bs,0,none⟩ (.pointer (some ⟨bi,0,none⟩)) = w6 at *
   change own w6 (yL (YA.stA ⟨y,bs,tp,A,.slice (some ⟨sl,0,none⟩) 1 1,0,0,0,undef⟩ 0 bi bh) ⟨put (fun _=>none) 0 i0,fun _=>ow n,ow 1,lC 0,[0],none⟩ _) at h6
   rw [<- HM0.out] at h6
   have c7 : w6.cell? ⟨y,7,none⟩ = some (.int .i64 0):=by have:=yI h6; rw [HM0.out] at this; exact this
   have c8 : w6.cell? ⟨y,8,none⟩ = some (.int .i64 0):=by have:=Cj h6; rw [HM0.out] at this; exact this
   have c9 : w6.cell? ⟨y,9,none⟩ = some (.int .i64 (-1)):=by have:=Cd h6; rw [HM0.out] at this; exact this
   have c10 : w6.cell? ⟨y,10,none⟩ = some (.int .i64 0):=by have:=Ex h6; rw [HM0.out] at this; exact this
   have c11 : w6.cell? ⟨y,11,none⟩ = some (.int .i64 0):=by have:=Dm h6; rw [HM0.out] at this; exact this
   have hw:=fun R' w' h=>Bs (YA.stA ⟨y,bs,tp,A,.slice (some ⟨sl,0,none⟩) 1 1,0,0,0,undef⟩ 0 bi bh) M0 (by rw [HM0.out]; exact Cx (by decide)) (by rw [HM0.out]; show (0 : Int) < _; decide) (by rw [HM0.out]; show (0 : Nat) < _; decide) (lC 0) (BN (by decide) (by decide)) R' w' h
   rw [HNW.out,l9] at hw
   have HWR:=zh hw
   clear hw h4 hz h5
   go_wp2_with fail
   refine (HWR.out _ w6 h6).mono ?_
   rintro e w8 ⟨rfl,hx8,h8⟩
   go_wp2_with fail
   go_ret2
   exact ⟨_,rfl,hx6.trans hx8,Bc h8⟩

theorem Uj (Y : RA) (m : lf) (F' : ShM) {j : JobM} (j' : JobM) (h : m.job = some j) (hn : ∀k,k < 5 -> (F' k = none↔m.F k = none)) : (ryT Y { m with F:=F',job:=some j' }).take 8 = (ryT Y m).take 8:=by
 have hf : ∀k,k < 5 -> oA Y.A F' m.D k = oA Y.A m.F m.D k:=fun k hk=>by
  unfold oA
  cases e : m.F k with
  | none=>rw [(hn k hk).2 e]
  | some i=>
   cases e' : F' k with
   | none=>exact absurd ((hn k hk).1 e') (by rw [e]; exact fun h=>by cases h)
   | some i'=>rfl
 have hc : ryC Y { m with F:=F',job:=some j' } = ryC Y m:=by
  unfold ryC
  dsimp only
  rw [h]
  rfl
 unfold ryT
 dsimp only
 rw [hc,hf 0 (by decide),hf 1 (by decide),hf 2 (by decide),hf 3 (by decide),hf 4 (by decide)]
 rfl
theorem Am {Y : RA} {m : lf} {F' : ShM} {j j' : JobM} {R : List SL.HP} {w : World} (h : m.job = some j) (hl : j'.list = j.list) (hn : ∀k,k < 5 -> (F' k = none↔m.F k = none))
  (H : own w (rshL Y.bs Y.A F'++(lA Y.bs Y.bj Y.vj j'::(row 3 1 Y.vj j.list.length (ln j.list)::((ryT Y m).take 8++R))))) : own w (ryL Y { m with F:=F',job:=some j' } R):=by
 refine Mw (m:={ m with F:=F',job:=some j' }) (j:=j') rfl ?_
 rw [hl,Uj Y m F' j' h hn]
 exact H
theorem Fh {Y : RA} {m : lf} {v : Value} {l : List Int} {R : List SL.HP} {w : World} (H : own w (ryL Y m (row 3 1 v l.length (ln l)::R))) : own (w.setCell ⟨Y.y,12,none⟩ v) (ryL { Y with v:=v } { m with list:=l } R):=by
 have h1:=lg (i:=12) (v:=v) 6 H rfl
 have h2:=lh 13 h1 rfl
 have h3:=lt 14 h2 rfl
 exact lu (((ryL { Y with v:=v } { m with list:=l } R)).take 13) h3
theorem Oh (Y : RA) (m : lf) (on : Bool) (R : List SL.HP) (w : World) (H : own w (ryL Y m R)) :
  Calls Tryz.prog 116 #[.pointer (some ⟨Y.y,0,none⟩),.bool on] w (yY Y (zH m on) R w):=by
 have HB:=zh (AM Y m R w H)
 generalize hres : zH m on = res
 unfold zH at hres
 unfold yX at HB
 cases hj : m.job with
 | none=>
  rw [hj] at HB hres
  dsimp only at HB hres
  subst hres
  clear hj
  go_enter Tryz.func116,Tryz.ntmps116
  go_wp2_with fail
  refine HB.out.mono ?_
  rintro e w' ⟨rfl,rfl⟩
  go_wp2_with fail
  go_ret
  exact ⟨Y,rfl,rfl,Ext.refl _,H⟩
 | some j=>
  rw [hj] at HB hres
  dsimp only at HB hres
  by_cases h4 : 4 <= j.st
  ·rw [if_pos h4] at hres
   subst hres
   rw [decide_eq_false (by omega)] at HB
   clear hj h4
   go_enter Tryz.func116,Tryz.ntmps116
   go_wp2_with fail
   refine HB.out.mono ?_
   rintro e w' ⟨rfl,rfl⟩
   go_wp2_with fail
   go_ret
   exact ⟨Y,rfl,rfl,Ext.refl _,H⟩
  ·rw [if_neg h4] at hres
   rw [decide_eq_true (by omega)] at HB
   have cj:=An hj H
   have HP:=zh (I1 Y.bs Y.bj Y.vj j on _ w (lq (rshL Y.bs Y.A m.F) [lA Y.bs Y.bj Y.vj j] (Ax hj H)))
   have HJ:=zh hj
   have HRES:=zh hres
   clear hj h4 hres
   go_enter Tryz.func116,Tryz.ntmps116
   go_wp2_with fail
   refine HB.out.mono ?_
   rintro e w' ⟨rfl,rfl⟩
   go_wp2_with fail
   refine HP.out.mono ?_
   rintro e w2 ⟨rfl,hx2,h2⟩
   go_wp2_with fail
   go_ret
   rw [<- HRES.out]
   exact ⟨Y,rfl,rfl,hx2,Am HJ.out (DC j on) (fun _ _=>Iff.rfl) (lq [lA Y.bs Y.bj Y.vj (yG j on).2] (rshL Y.bs Y.A m.F) h2)⟩
theorem QG (Y : RA) (m : lf) (hm : ∀j,m.job = some j -> j.Ok) (n : Int) (R : List SL.HP) (w : World) (H : own w (ryL Y m R)) :
  Calls Tryz.prog 118 #[.pointer (some ⟨Y.y,0,none⟩),.int .i64 n] w (yY Y (Ag m n) R w):=by
 have HB:=zh (AM Y m R w H)
 generalize hres : Ag m n = res
 unfold Ag at hres
 unfold yX at HB
 by_cases hb : n < 0 \/ 100000 < n
 ·rw [if_pos hb] at hres
  subst hres
  by_cases q1 : n < 0
  ·go_enter Tryz.func118,Tryz.ntmps118
   go_wp2_with fail
   go_ret
   exact ⟨Y,rfl,rfl,Ext.refl w,H⟩
  ·have q2 : 100000 < n:=by omega
   clear hb
   go_enter Tryz.func118,Tryz.ntmps118
   go_wp2_with fail
   go_ret
   exact ⟨Y,rfl,rfl,Ext.refl w,H⟩
 rw [if_neg hb] at hres
 have hn : 0 <= n /\ n <= 100000:=by omega
 have q1 : ¬n < 0:=by omega
 have q2 : ¬100000 < n:=by omega
 clear hb
 cases hj : m.job with
 | none=>
  rw [hj] at HB hres
  dsimp only at HB hres
  subst hres
  clear hj
  go_enter Tryz.func118,Tryz.ntmps118
  go_wp2_with fail
  refine HB.out.mono ?_
  rintro e w' ⟨rfl,rfl⟩
  go_wp2_with fail
  go_ret
  exact ⟨Y,rfl,rfl,Ext.refl _,H⟩
 | some j=>
  rw [hj] at HB hres
  dsimp only at HB hres
  by_cases h4 : 4 <= j.st
  ·rw [if_pos h4] at hres
   subst hres
   rw [decide_eq_false (by omega)] at HB
   clear hj h4
   go_enter Tryz.func118,Tryz.ntmps118
   go_wp2_with fail
   refine HB.out.mono ?_
   rintro e w' ⟨rfl,rfl⟩
   go_wp2_with fail
   go_ret
   exact ⟨Y,rfl,rfl,Ext.refl _,H⟩
  ·rw [if_neg h4] at hres
   rw [decide_eq_true (by omega)] at HB
   have cj:=An hj H
   have HP:=zh (Sq (hm j hj) hn.1 hn.2 6 w (Ax hj H) rfl)
   have HJ:=zh hj
   have HRES:=zh hres
   clear hj h4 hm hres hn
   go_enter Tryz.func118,Tryz.ntmps118
   go_wp2_with fail
   refine HB.out.mono ?_
   rintro e w' ⟨rfl,rfl⟩
   go_wp2_with fail
   refine HP.out.mono ?_
   rintro e w2 ⟨rfl,hx2,h2⟩
   go_wp2_with fail
   go_ret
   rw [<- HRES.out]
   exact ⟨Y,rfl,rfl,hx2,Am HJ.out (IH j n) (fun _ _=>Iff.rfl) h2⟩
theorem KF (Y : RA) (m : lf) (N : Nat) (hW : ShW N m.F) (hN : N < 900000) (ht : m.top.Ok) (hw : m.top.writes < 999000) (hp : m.top.pend.length < 999000) (j : JobM) (hj : m.job = some j) (root : Int) (hr : 0 <= root /\ root < 5) (well : Bool) (R : List SL.HP) (w : World) (H : own w (ryL Y m R)) :
  Calls Tryz.prog 210 #[.pointer (some ⟨Y.y,0,none⟩),.int .i64 root,.int .i64 (if well then 4 else 5)] w (yY Y (BJ m j root well) R w):=by
 have HN:=zh (fun R' w' h=>ES root R' w' h)
 have HW:=zh (fun R' w' h=>BD Y m ht hw hp (lC root) (BN hr.1 hr.2) R' w' h)
 generalize hres : BJ m j root well = res
 unfold BJ at hres
 have hcode : 0 <= (lw m (lC root)).1:=by
  unfold lw
  split
  ·exact og _ _ _
  ·exact Int.le_refl 0
 have hF : (lw m (lC root)).2.F = m.F:=by unfold lw; split <;> rfl
 have hJ : (lw m (lC root)).2.job = m.job:=by unfold lw; split <;> rfl
 have HWK:=zh (fun Y' R' w' h=>DX Y.bs Y' m.F (hW.sh hN) root R' w' h)
 unfold zA at HWK
 rw [hj] at hJ
 unfold lK.v o6 at HW HN
 generalize lw m (lC root) = S at *
 obtain ⟨c,m2⟩:=S
 dsimp only [lC] at hcode hF hJ HW HN hres ⊢
 have HRES:=zh hres
 have HJ:=zh hJ
 clear hres
 generalize (ls m.F root).1 = l at *
 generalize (ls m.F root).2 = wc at *
 have hwe : endM j well = { j with st:=if well then 4 else 5 }:=rfl
 rw [hwe] at HRES
 generalize (if well then (4 : Int) else 5) = st at *
 clear hW ht hw hp hr hj hwe
 go_enter Tryz.func210,Tryz.ntmps210
 go_wp2_with fail
 refine (HN.out _ _ H).mono ?_
 rintro e w1 ⟨rfl,hx1,h1⟩
 go_wp2_with fail
 refine (HW.out _ w1 h1).mono ?_
 rintro e w2 ⟨rfl,hx2,h2⟩
 clear H h1
 by_cases hc : c = 0
 ·subst hc
  rw [if_neg (by decide)] at HRES
  have cj:=An hJ h2
  have h3:=Ax HJ.out h2
  have cs:=lp 6 h3 rfl 74 (by decide)
  have fs:=oU 6 h3 rfl 74
  have h4 : own _ (ryL Y { m2 with job:=some { j with st:=st } } R):=Am (F':=m2.F) HJ.out rfl (fun _ _=>Iff.rfl) (yV (i:=74) (a:=.int .i64 st) 6 h3 rfl (B6 Y.bs Y.vj j st))
  have hx4:=(hx1.trans hx2).setCell ⟨Y.bj,74,none⟩ (.int .i64 st)
  clear h3 h2 hx1 hx2
  go_upto_region 5 with (fail)
  generalize w2.setCell ⟨Y.bj,74,none⟩ (.int .i64 st) = w3 at *
  clear cj cs fs
  have cb:=Br h4
  have h5' : own w3 (rshL Y.bs Y.A m.F++(ryT Y { m2 with job:=some { j with st:=st } }++R)):=by rw [<- hF]; exact h4
  go_wp2_with fail
  refine (HWK.out _ _ _ h5').mono ?_
  rintro e w6 ⟨v,rfl,hx6,h6⟩
  obtain ⟨vo,vb,vof,vcap,rfl,-,-,-,-⟩:=(lY 0 h6 rfl).form
  rw [<- hF] at h6
  have h7:=DW (Y:=Y) (m:={ m2 with job:=some { j with st:=st } }) h6
  have cl:=Aw h7
  have fl:=AI h7 12
  have h8:=Fh h7
  have hx8:=(hx4.trans hx6).setCell ⟨Y.y,12,none⟩ (.slice vo l.length vcap)
  clear h4 h5' h6 h7 cb
  go_wp2_with fail
  go_ret
  rw [<- HRES.out]
  exact ⟨{ Y with v:=.slice vo l.length vcap },rfl,rfl,hx8,h8⟩
 ·rw [if_pos hc] at HRES
  have hc1 : 0 < c:=by omega
  clear hc
  go_wp2_with fail
  go_ret
  rw [<- HRES.out]
  exact ⟨Y,rfl,rfl,hx1.trans hx2,h2⟩
theorem M9 (N : Nat) (Y : RA) (m : lf) (hm : YOk N m) (hN : N < 900000) (R : List SL.HP) (w : World) (H : own w (ryL Y m R)) :
  Calls Tryz.prog 114 #[.pointer (some ⟨Y.y,0,none⟩)] w (yY Y (zG m) R w):=by
 have HB:=zh (AM Y m R w H)
 generalize hres : zG m = res
 unfold zG at hres
 unfold yX at HB
 cases hj : m.job with
 | none=>
  rw [hj] at HB hres
  dsimp only at HB hres
  subst hres
  clear hj
  go_enter Tryz.func114,Tryz.ntmps114
  go_wp2_with fail
  refine HB.out.mono ?_
  rintro e w' ⟨rfl,rfl⟩
  go_wp2_with fail
  go_ret
  exact ⟨Y,rfl,rfl,Ext.refl _,H⟩
 | some j=>
  rw [hj] at HB hres
  dsimp only at HB hres
  by_cases h4 : 4 <= j.st
  ·rw [if_pos h4] at hres
   subst hres
   rw [decide_eq_false (by omega)] at HB
   clear hj h4
   go_enter Tryz.func114,Tryz.ntmps114
   go_wp2_with fail
   refine HB.out.mono ?_
   rintro e w' ⟨rfl,rfl⟩
   go_wp2_with fail
   go_ret
   exact ⟨Y,rfl,rfl,Ext.refl _,H⟩
  ·rw [if_neg h4] at hres
   rw [decide_eq_true (by omega)] at HB
   have cr:=zC H
   have hr:=hm.root5
   have htw:=hm.tp.2.1
   have htp:=hm.tp.2.2.1
   have HO:=zh (fun R' w' h=>KF Y m N hm.sh hN hm.tp.1 (by omega) (by omega) j hj m.dk.root hr false R' w' h)
   have HRES:=zh hres
   clear hj h4 hm hres hr htw htp
   go_enter Tryz.func114,Tryz.ntmps114
   go_wp2_with fail
   refine HB.out.mono ?_
   rintro e w' ⟨rfl,rfl⟩
   go_wp2_with fail
   refine (HO.out _ _ H).mono ?_
   rintro e w3 ⟨Y',hy,rfl,hx3,h3⟩
   go_wp2_with fail
   go_ret
   rw [<- HRES.out]
   exact ⟨Y',hy,rfl,hx3,h3⟩
theorem Ou (N : Nat) (Y : RA) (m : lf) (hm : YOk N m) (hN : N < 890000) (R : List SL.HP) (w : World) (H : own w (ryL Y m R)) :
  Calls Tryz.prog 113 #[.pointer (some ⟨Y.y,0,none⟩)] w (yY Y (Ai m) R w):=by
 have HB:=zh (AM Y m R w H)
 generalize hres : Ai m = res
 unfold Ai at hres
 unfold yX at HB
 cases hj : m.job with
 | none=>
  rw [hj] at HB hres
  dsimp only at HB hres
  subst hres
  clear hj
  go_enter Tryz.func113,Tryz.ntmps113
  go_wp2_with fail
  refine HB.out.mono ?_
  rintro e w' ⟨rfl,rfl⟩
  go_wp2_with fail
  go_ret
  exact ⟨Y,rfl,rfl,Ext.refl _,H⟩
 | some j=>
  rw [hj] at HB hres
  dsimp only at HB hres
  by_cases h4 : 4 <= j.st
  ·rw [if_pos h4] at hres
   subst hres
   rw [decide_eq_false (by omega)] at HB
   clear hj h4
   go_enter Tryz.func113,Tryz.ntmps113
   go_wp2_with fail
   refine HB.out.mono ?_
   rintro e w' ⟨rfl,rfl⟩
   go_wp2_with fail
   go_ret
   exact ⟨Y,rfl,rfl,Ext.refl _,H⟩
  ·rw [if_neg h4] at hres
   rw [decide_eq_true (by omega)] at HB
   obtain ⟨hS,hl,hk,hf,hr⟩:=hm.job j hj (by omega)
   have ck:=CA H
   have cj:=An hj H
   by_cases h2 : m.dk.kind = 2
   ·rw [if_pos h2] at hres
    subst hres
    have d2 : (m.dk.kind == 2) = true:=by rw [h2]; rfl
    clear hj h4 h2 hk
    go_enter Tryz.func113,Tryz.ntmps113
    go_wp2_with fail
    refine HB.out.mono ?_
    rintro e w' ⟨rfl,rfl⟩
    go_wp2_with fail
    go_ret
    exact ⟨Y,rfl,rfl,Ext.refl _,H⟩
   ·rw [if_neg h2] at hres
    have d2 : (m.dk.kind == 2) = false:=by rw [beq_eq_false_iff_ne]; exact h2
    have hkj : j.kind≠2:=by rw [hk]; exact h2
    have hff:=hS.file hkj
    have hv : ∀w' L,own w' (L++(row 3 1 Y.vj j.list.length (ln j.list)::((ryT Y m).take 8++R))) -> lR w' Y.vj j.list:=fun w' L h=>lY 0 (lq L [row 3 1 Y.vj j.list.length (ln j.list)] h) rfl
    have HSE:=zh (GS Y.bs Y.A m.F N hm.sh (by omega) Y.bj Y.vj j (hm.jok j hj) hS (row 3 1 Y.vj j.list.length (ln j.list)::((ryT Y m).take 8++R)) w hv (Ax hj H))
    have hcode:=Bh m.F j
    have HPUT:=zh (fun w' h=>Am (w:=w') (Y:=Y) (m:=m) (R:=R) (F':=(lz m.F j).2.1) (j':=(lz m.F j).2.2) hj (BQ m.F j).1 (fun k hk=>BW hk) h)
    have hff5 : 0 <= m.dk.file /\ m.dk.file < 5:=by rw [<- hf]; exact ⟨hff.1,hff.2.1⟩
    have htw:=hm.tp.2.1
    have htp:=hm.tp.2.2.1
    have HO:=zh (fun R' w' h=>KF Y { m with F:=(lz m.F j).2.1,job:=some (lz m.F j).2.2 } (N + 1) (BA hm.sh (by omega) (hm.jok j hj) hS) (by omega) hm.tp.1 (by dsimp only; omega) (by dsimp only; omega) (lz m.F j).2.2 rfl m.dk.file hff5 true R' w' h)
    generalize lz m.F j = S at *
    obtain ⟨c,F2,j2⟩:=S
    dsimp only at hres HSE hcode HPUT HO
    have HRES:=zh hres
    clear hj h4 h2 hk hres hv hff hkj hS hl hr htw htp hm hff5 hf
    go_enter Tryz.func113,Tryz.ntmps113
    go_wp2_with fail
    refine HB.out.mono ?_
    rintro e w' ⟨rfl,rfl⟩
    go_wp2_with fail
    refine HSE.out.mono ?_
    rintro e w2 ⟨rfl,hx2,h2⟩
    have h3:=HPUT.out _ h2
    by_cases hc : c = 0
    ·subst hc
     rw [if_neg (by decide)] at HRES
     have cf:=CD h3
     clear h2 cj ck
     go_wp2_with fail
     refine (HO.out _ _ h3).mono ?_
     rintro e w5 ⟨Y',hy,rfl,hx5,h5⟩
     go_wp2_with fail
     go_ret
     rw [<- HRES.out]
     exact ⟨Y',hy,rfl,hx2.trans hx5,h5⟩
    ·rw [if_pos hc] at HRES
     have hc1 : 0 < c:=by omega
     clear hc
     go_wp2_with fail
     go_ret
     rw [<- HRES.out]
     exact ⟨Y,rfl,rfl,hx2,h3⟩
def AN (Y : RA) (m : lf) (R : List SL.HP) (k : Nat) : List SL.HP:=match m.F k with
 | some i=>lX (Y.A k).1 (Y.A k).2 i::(ryL Y m R).eraseIdx (1 + k)
 | none=>(ryL Y m R).set (7 + k) emp
theorem II {Y : RA} {m : lf} {R : List SL.HP} {w : World} {k : Nat} (hk : k < 5) (H : own w (ryL Y m R)) : own w (lo (Y.A k).2 (devOf m k)::AN Y m R k):=by
 unfold devOf AN
 cases e : m.F k with
 | none=>exact Il hk e H
 | some i=>exact BZ (Ay hk e H)
theorem PT (Y : RA) (m : lf) {k : Nat} {i : ImgM} (h : m.F k = some i) (d : DevM) : ryT Y { m with F:=put m.F k { i with d:=d } } = ryT Y m:=by
 have hf : ∀j,oA Y.A (put m.F k { i with d:=d }) m.D j = oA Y.A m.F m.D j:=fun j=>by
  unfold oA put
  by_cases e : j = k
  ·subst e; rw [if_pos rfl,h]
  ·rw [if_neg e]
 unfold ryT
 dsimp only
 rw [hf,hf,hf,hf,hf]
 rfl
theorem Pr {Y : RA} {m : lf} {R : List SL.HP} {w0 w : World} {k : Nat} (hk : k < 5) {d : DevM} (H0 : own w0 (ryL Y m R)) (H : own w (lo (Y.A k).2 d::AN Y m R k)) : own w (ryL Y (Bx m k d) R):=by
 unfold Bx
 unfold AN at H
 cases e : m.F k with
 | none=>rw [e] at H; exact IN hk e H
 | some i=>
  rw [e] at H
  have h1:=BZ H
  have h2:=Dg (m':={ i with d:=d }) hk e H0 h1
  show own w (rshL Y.bs Y.A (put m.F k { i with d:=d })++(ryT Y { m with F:=put m.F k { i with d:=d } }++R))
  rw [PT Y m e d]
  exact h2
theorem MV {b : Nat} {d : DevM} {n : Int} {R : List SL.HP} {w : World} (H : own w (lo b d::R)) :
  (∃v,w.cell? ⟨b,3,none⟩ = some v) /\ w.frozen? ⟨b,3,none⟩ = false /\ own (w.setCell ⟨b,3,none⟩ (.int .i64 n)) (lo b { d with fail:=n }::R):=by
 obtain ⟨vf,va,vw,h⟩:=As H
 exact ⟨⟨_,(ld 0 h rfl).1 3⟩,(ld 0 h rfl).2 3,yK (m:={ d with fail:=n }) (lg (i:=3) (v:=.int .i64 n) 0 h rfl)⟩
theorem TV (Y : RA) (m : lf) (file n : Int) (R : List SL.HP) (w : World) (H : own w (ryL Y m R)) :
  Calls Tryz.prog 120 #[.pointer (some ⟨Y.y,0,none⟩),.int .i64 file,.int .i64 n] w (yY Y (armM m file n) R w):=by
 generalize hres : armM m file n = res
 by_cases hf : file < -1
 ·have hr : res = (1,m):=by rw [<- hres]; unfold armM; rw [if_pos (.inl hf)]
  clear hres
  subst hr
  go_enter Tryz.func120,Tryz.ntmps120
  go_wp2_with fail
  go_ret
  exact ⟨Y,rfl,rfl,Ext.refl w,H⟩
 ·by_cases hf5 : 5 <= file
  ·have hr : res = (1,m):=by rw [<- hres]; unfold armM; rw [if_pos (.inr (.inl hf5))]
   clear hres
   subst hr
   go_enter Tryz.func120,Tryz.ntmps120
   go_wp2_with fail
   go_ret
   exact ⟨Y,rfl,rfl,Ext.refl w,H⟩
  ·by_cases hn : n < 0
   ·have hr : res = (1,m):=by rw [<- hres]; unfold armM; rw [if_pos (.inr (.inr hn))]
    clear hres
    subst hr
    go_enter Tryz.func120,Tryz.ntmps120
    go_wp2_with fail
    go_ret
    exact ⟨Y,rfl,rfl,Ext.refl w,H⟩
   ·by_cases h1 : file = -1
    ·subst h1
     have hr : res = (0,{ m with top:={ m.top with fail:=n } }):=by rw [<- hres]; unfold armM; rw [if_neg (by omega),if_pos rfl]
     clear hres
     subst hr
     have ct:=JW H
     obtain ⟨⟨v0,c0⟩,f0,h2⟩:=MV (n:=n) (JQ H)
     have h3:=JL H h2
     clear hf hf5
     go_enter Tryz.func120,Tryz.ntmps120
     go_wp2_with fail
     go_ret
     exact ⟨Y,rfl,rfl,(Ext.refl w).setCell _ _,h3⟩
    ·obtain ⟨k,rfl⟩ : ∃k : Nat,file = (k : Int):=⟨file.toNat,by omega⟩
     have hk : k < 5:=by omega
     have i0 : (0 : Int) <= (k : Int):=by omega
     have i1 : (k : Int) < 5:=by omega
     have d1 : ((k : Int) == -1) = false:=by rw [beq_eq_false_iff_ne]; exact h1
     rw [MK m k n (by omega)] at hres
     subst hres
     have ct:=Es H hk
     obtain ⟨⟨v0,c0⟩,f0,h2⟩:=MV (n:=n) (II hk H)
     have h3:=Pr hk H h2
     clear h1
     go_enter Tryz.func120,Tryz.ntmps120
     go_wp2_with fail
     go_ret
     exact ⟨Y,rfl,rfl,(Ext.refl w).setCell _ _,h3⟩
theorem MP (Y : RA) (m : lf) (R : List SL.HP) (w : World) (H : own w (ryL Y m R)) :
  Calls Tryz.prog 122 #[.pointer (some ⟨Y.y,0,none⟩)] w fun e w'=>e = .returned (Fx m) /\ Ext w w' /\ own w' (ryL Y m R):=by
 have hb:=JS (.cells #[.int .i64 0,.int .i64 0,.int .i64 0,.int .i64 0] 47) H
 have hxb:=(Ext.refl w).alloc (.cells #[.int .i64 0,.int .i64 0,.int .i64 0,.int .i64 0] 47)
 unfold Fx
 cases hj : m.job with
 | none=>
  have cj:=EN hb
  rw [hj] at cj
  change World.cell? _ ⟨Y.y,13,none⟩ = some (.pointer none) at cj
  dsimp only
  clear hj
  go_enter Tryz.func122,Tryz.ntmps122
  go_upto_region 1 with (fail)
  generalize w.heap.size = g at *
  generalize w.alloc (.cells #[.int .i64 0,.int .i64 0,.int .i64 0,.int .i64 0] 47) = w1 at *
  obtain ⟨cg,fg⟩:=ld 15 hb rfl
  go_wp2_with fail
  have h5:=lg (i:=3) (v:=.int .i64 0) 15 (lg (i:=2) (v:=.int .i64 0) 15 (lg (i:=1) (v:=.int .i64 (-1)) 15 (lg (i:=0) (v:=.int .i64 0) 15 hb rfl) rfl) rfl) rfl
  obtain ⟨c3,-⟩:=ld 15 h5 rfl
  refine bodyPost_ret (Av rfl _ _ g 0 (-1) 0 0 rfl (c3 0) (c3 1) (c3 2) (c3 3)) rfl ?_
  exact ⟨rfl,(((hxb.setCell _ _).setCell _ _).setCell _ _).setCell _ _,lh 15 h5 rfl⟩
 | some j=>
  have cj:=An hj hb
  have HST:=zh (fun R' w' (h : own w' (ryL Y m R'))=>Np Y.bs Y.bj Y.vj j _ w' (lq (rshL Y.bs Y.A m.F) [lA Y.bs Y.bj Y.vj j] (Ax hj h)))
  have HCL:=zh (fun R' w' h=>Mw (Y:=Y) (m:=m) (R:=R') (w:=w') hj h)
  dsimp only
  unfold CB at HST ⊢
  generalize (cnt j.x : Nat) = q at *
  clear hj
  go_enter Tryz.func122,Tryz.ntmps122
  go_upto_region 1 with (fail)
  generalize w.heap.size = g at *
  generalize w.alloc (.cells #[.int .i64 0,.int .i64 0,.int .i64 0,.int .i64 0] 47) = w1 at *
  go_wp2_with fail
  refine (HST.out _ _ hb).mono ?_
  rintro e w2 ⟨rfl,hx2,h2⟩
  have h3:=HCL.out _ _ (lq [lA Y.bs Y.bj Y.vj j] (rshL Y.bs Y.A m.F) h2)
  obtain ⟨cg,fg⟩:=ld 15 h3 rfl
  have g0:=cg 0
  have g1:=cg 1
  have g2:=cg 2
  have g3:=cg 3
  clear cj
  go_wp2_with fail
  have h5:=lg (i:=3) (v:=.int .i64 (q : Int)) 15 (lg (i:=2) (v:=.int .i64 j.st) 15 (lg (i:=1) (v:=.int .i64 j.file) 15 (lg (i:=0) (v:=.int .i64 j.kind) 15 h3 rfl) rfl) rfl) rfl
  obtain ⟨c3,-⟩:=ld 15 h5 rfl
  refine bodyPost_ret (Av rfl _ _ g j.kind j.file j.st (q : Int) rfl (c3 0) (c3 1) (c3 2) (c3 3)) rfl ?_
  exact ⟨rfl,((((hxb.trans hx2).setCell _ _).setCell _ _).setCell _ _).setCell _ _,lh 15 h5 rfl⟩
theorem WF (Y : RA) (m : lf) (F' : ShM) (hn : ∀k,k < 5 -> (F' k = none↔m.F k = none)) : ryT Y { m with F:=F' } = ryT Y m:=by
 have hf : ∀k,k < 5 -> oA Y.A F' m.D k = oA Y.A m.F m.D k:=fun k hk=>by
  unfold oA
  cases e : m.F k with
  | none=>rw [(hn k hk).2 e]
  | some i=>
   cases e' : F' k with
   | none=>exact absurd ((hn k hk).1 e') (by rw [e]; exact fun h=>by cases h)
   | some i'=>rfl
 unfold ryT
 dsimp only
 rw [hf 0 (by decide),hf 1 (by decide),hf 2 (by decide),hf 3 (by decide),hf 4 (by decide)]
 rfl
theorem ry_F {Y : RA} {m : lf} {F' : ShM} {R : List SL.HP} {w : World} (hn : ∀k,k < 5 -> (F' k = none↔m.F k = none)) (H : own w (rshL Y.bs Y.A F'++(ryT Y m++R))) : own w (ryL Y { m with F:=F' } R):=by
 show own w (rshL Y.bs Y.A F'++(ryT Y { m with F:=F' }++R))
 rw [WF Y m F' hn]
 exact H
theorem QZ {Y : RA} {m : lf} {R : List SL.HP} : ∀w' L,own w' (L++(ryT Y m++R)) -> lR w' Y.v m.list:=fun w' L h=>lY 7 (lq L (ryT Y m) h) rfl
def cntq (a q : Nat) : Nat:=if q = 0 then 0 else (a + q - 1) / 4 - a / 4 + 1
theorem NP (j : JobM) (a q : Nat) : zy (ob j ((a / 4 : Nat) : Int) (cntq a q)) (((a + q) / 4 : Nat) : Int) = ob j ((a / 4 : Nat) : Int) (cntq a (q + 1)):=by
 have h1 : cntq a (q + 1) = (a + q) / 4 - a / 4 + 1:=by unfold cntq; rw [if_neg (by omega)]; rfl
 by_cases h0 : q = 0
 ·subst h0
  have e : cntq a 0 = 0:=rfl
  rw [h1,e,show (a + 0) / 4 - a / 4 + 1 = 0 + 1 by omega,Dw]
  simp
 ·have h2 : cntq a q = (a + q - 1) / 4 - a / 4 + 1:=by unfold cntq; rw [if_neg h0]
  by_cases h3 : (a + q) / 4 = (a + q - 1) / 4
  ·rw [h1,h2,h3,Dw,show ((a / 4 : Nat) : Int) + (((a + q - 1) / 4 - a / 4 : Nat) : Int) = (((a + q - 1) / 4 : Nat) : Int) by omega,NX]
  ·rw [h1,h2,show (a + q) / 4 - a / 4 + 1 = ((a + q - 1) / 4 - a / 4 + 1) + 1 by omega,Dw ((a + q - 1) / 4 - a / 4 + 1) j]
   congr 1
   omega
theorem NY (m : lf) {j : JobM} (hj : m.job = some j) (a b : Nat) : yz m (a : Int) (b : Int) = { m with job:=some (ob j ((a / 4 : Nat) : Int) (cntq a b)) }:=by
 by_cases hb : b = 0
 ·subst hb
  unfold yz
  rw [hj]
  dsimp only
  rw [if_pos (show ((0 : Nat) : Int) = 0 from rfl)]
  show m = { m with job:=some j }
  rw [<- hj]
 ·rw [Kr m hj a b hb]
  unfold cntq
  rw [if_neg hb]
theorem Nm (m : lf) (hj : m.job = none) (a b : Int) : yz m a b = m:=by unfold yz; rw [hj]
theorem NN (N : Nat) (Y : RA) (m : lf) (hm : YOk N m) (hN : N + 1000 < 900000) (fr : Int) (hfr : lN fr) (s : ByteArray) (hs : s.size <= 3200) (wp : Bool) (S : Int×ShM) (hst : lI 1000 m.F S.2) (R : List SL.HP)
  (HP : ∀w',own w' (rshL Y.bs Y.A m.F++(ryT Y m++R)) -> Calls Tryz.prog 206 #[.pointer (some ⟨Y.bs,0,none⟩),Y.v,.int .i64 fr,.string s,.bool wp] w' fun e w''=>e = .returned (.int .i64 S.1) /\ Ext w' w'' /\ own w'' (rshL Y.bs Y.A S.2++(ryT Y m++R)))
  (w : World) (H : own w (ryL Y m R)) :
  Calls Tryz.prog 103 #[.pointer (some ⟨Y.y,0,none⟩),.int .i64 fr,.string s,.bool wp] w (yY Y (if s.size % 16≠0 \/ lW m.F m.list fr ((s.size / 16 : Nat) : Int)≠0 then (1,m) else (S.1,yz { m with F:=S.2 } fr ((s.size / 16 : Nat) : Int))) R w):=by
 have td:=Fu s.size
 have tm:=Fz s.size
 generalize hres : (if s.size % 16≠0 \/ lW m.F m.list fr ((s.size / 16 : Nat) : Int)≠0 then (1,m) else (S.1,yz { m with F:=S.2 } fr ((s.size / 16 : Nat) : Int))) = res
 have hs2 : (s.size : Int) <= 3200:=by omega
 by_cases h16 : s.size % 16 = 0
 ·have d16 : decide ((0 : Int) < (s.size : Int) % 16) = false:=decide_eq_false (by omega)
  have hwy:=Fm hm fr ((s.size / 16 : Nat) : Int)
  have hcr:=zB (hm.sh.sh (by omega)) hm.root
  have HWI:=zh (fun w' (h : own w' (ryL Y m R))=>DA Y.bs Y.A m.F (hm.sh.sh (by omega)) Y.v m.list hm.files hm.list5 fr ((s.size / 16 : Nat) : Int) hfr ⟨by omega,by omega⟩ (ryT Y m++R) w' (QZ w' _ h) h)
  have z6:=Br H
  have z12:=Aw H
  by_cases hc : 0 <= fr /\ 0 <= ((s.size / 16 : Nat) : Int) /\ fr <= clus m.F m.dk.root * 4 /\ ((s.size / 16 : Nat) : Int) <= clus m.F m.dk.root * 4 - fr
  ·rw [if_pos hc] at hwy
   rw [if_neg (by rw [hwy,h16]; rintro (h | h) <;> exact h rfl)] at hres
   rw [hwy] at HWI
   obtain ⟨a,rfl⟩ : ∃a : Nat,fr = (a : Int):=⟨fr.toNat,by omega⟩
   have hab : a + s.size / 16 <= 200:=by omega
   have HP:=zh HP
   have HF:=zh (yokF hm hst)
   have HJ:=zh hm.jok
   have HS:=zh (fun (m' : lf) w' (h : own w' (ryL Y m' R))=>(⟨Br h,Aw h⟩ : w'.cell? ⟨Y.y,6,none⟩ = some (.pointer (some ⟨Y.bs,0,none⟩)) /\ w'.cell? ⟨Y.y,12,none⟩ = some Y.v))
   obtain ⟨c,F2⟩:=S
   dsimp only at HP HF hres
   have HRES:=zh hres
   have HB : Hid (s.size / 16 <= 200):=zh (by omega)
   have a0 : (0 : Int) <= (a : Int):=by omega
   have a1 : (a : Int) <= 200:=by omega
   clear hm hfr hres hc hwy hst hcr h16
   go_enter Tryz.func103,Tryz.ntmps103
   go_upto_region 2 with (fail)
   go_quiet ((go_at_call 205; exact Calls.quiet_of (HWI.out _ (by first | exact H | exact lj H | exact lm _ H))))
   have h1:=lm nq H
   have hx1:=(Ext.refl w).drewN nq
   clear z6 z12 HWI
   go_upto_region 4 with (fail)
   generalize w.drewN nq = w1 at *
   have hz:=lj h1
   have hxz:=hx1.drew
   have hg : (fun w' : World=>w'.cell? ⟨Y.y,6,none⟩ = some (.pointer (some ⟨Y.bs,0,none⟩)) /\ w'.cell? ⟨Y.y,12,none⟩ = some Y.v) w1.drew:=HS.out _ _ hz
   clear h1 hx1
   go_region_held3 (fun w'=>w'.cell? ⟨Y.y,6,none⟩ = some (.pointer (some ⟨Y.bs,0,none⟩)) /\ w'.cell? ⟨Y.y,12,none⟩ = some Y.v) (exact hg) ((go_at_call 206; refine (HP.out _ hz).mono ?_; rintro e w5 ⟨rfl,hx5,hz'⟩; have hxz:=hxz.trans hx5; have hz:=ry_F HF.out hz'; have hg:=HS.out _ _ hz))
   all_goals
    clear hg
    have H5:=zh hz
    have X5:=zh hxz
    clear hz hxz hx5 hz'
    cases hj : m.job with
    | none=>
     have hd : yz { m with F:=F2 } (a : Int) ((s.size / 16 : Nat) : Int) = { m with F:=F2 }:=Nm { m with F:=F2 } hj _ _
     rw [hd] at HRES
     have cj:=EN H5.out
     rw [show ({ m with F:=F2 } : lf).job = m.job from rfl,hj] at cj
     change World.cell? _ ⟨Y.y,13,none⟩ = some (.pointer none) at cj
     clear hj hd
     go_wp2_with fail
     go_loopw [11] (fun kv wr=>kv = .int .i64 (a : Int) /\ Ext w wr /\ own wr (ryL Y { m with F:=F2 } R) /\ wr.cell? ⟨Y.y,13,none⟩ = some (.pointer none)) (fun _ _=>0)
     case atStart=>exact ⟨rfl,X5.out,H5.out,cj⟩
     case round=>
      clear cj
      obtain ⟨rfl,hxr,hown,cj⟩:=hrel
      go_wp2_with fail
      go_ret
      rw [<- HRES.out]
      exact ⟨Y,rfl,rfl,hxr,hown⟩
    | some j=>
     have hd:=NY { m with F:=F2 } hj a (s.size / 16)
     rw [hd] at HRES
     have h0 : own w5 (ryL Y { m with F:=F2,job:=some (ob j ((a / 4 : Nat) : Int) (cntq a 0)) } R):=by
      have e : ({ m with F:=F2,job:=some (ob j ((a / 4 : Nat) : Int) (cntq a 0)) } : lf) = { m with F:=F2 }:=by
       show ({ m with F:=F2,job:=some j } : lf) = { m with F:=F2 }
       rw [<- hj]
      rw [e]; exact H5.out
     have H0:=zh h0
     have HOK:=zh (HJ.out j hj)
     clear hj hd h0 HJ H5
     generalize hbb : s.size / 16 = b at *
     have hbi : (s.size : Int) / 16 = (b : Int):=by omega
     clear hbb
     go_wp2_with fail
     go_loopw [11] (fun kv wr=>∃q : Nat,q <= b /\ kv = .int .i64 ((a + q : Nat) : Int) /\ Ext w wr /\ own wr (ryL Y { m with F:=F2,job:=some (ob j ((a / 4 : Nat) : Int) (cntq a q)) } R)) (fun kv _=>a + b - (intOf kv).toNat)
     case atStart=>exact ⟨0,Nat.zero_le _,rfl,X5.out,H0.out⟩
     case round=>
      clear H0
      obtain ⟨q,hq,rfl,hxr,hown⟩:=hrel
      have cj:=An (m:={ m with F:=F2,job:=some (ob j ((a / 4 : Nat) : Int) (cntq a q)) }) rfl hown
      have hb200:=HB.out
      by_cases hlt : q < b
      ·have HD:=zh (Of Y.bs Y.bj Y.vj (ob j ((a / 4 : Nat) : Int) (cntq a q)) (G1 (cntq a q) HOK.out _) (((a + q) / 4 : Nat) : Int) _ wr (lq (rshL Y.bs Y.A F2) [lA Y.bs Y.bj Y.vj (ob j ((a / 4 : Nat) : Int) (cntq a q))] (Ax (m:={ m with F:=F2,job:=some (ob j ((a / 4 : Nat) : Int) (cntq a q)) }) rfl hown)))
       have HN : Hid (zy (ob j ((a / 4 : Nat) : Int) (cntq a q)) (((a + q) / 4 : Nat) : Int) = ob j ((a / 4 : Nat) : Int) (cntq a (q + 1))):=zh (NP j a q)
       have HSM : Hid ((ob j ((a / 4 : Nat) : Int) (cntq a (q + 1))).list = (ob j ((a / 4 : Nat) : Int) (cntq a q)).list):=zh ((Ca _ j _).1.trans (Ca _ j _).1.symm)
       have tq:=PQ (a + q)
       have j1 : ((a + q : Nat) : Int) < (a : Int) + (b : Int):=by omega
       have j2 : (0 : Int) <= ((a + q : Nat) : Int):=by omega
       have j3 : ((a + q : Nat) : Int) <= 400:=by omega
       have j6 : (0 : Int) <= (((a + q) / 4 : Nat) : Int):=by omega
       have j7 : (((a + q) / 4 : Nat) : Int) <= 400:=by omega
       have j4 : (0 : Int) <= (b : Int):=by omega
       have j5 : (b : Int) <= 200:=by omega
       generalize hqq : (((a + q) / 4 : Nat) : Int) = qq at *
       generalize hkk : ((a + q : Nat) : Int) = kk at *
       have HKK:=zh hkk
       clear hqq hkk
       go_wp2_with fail
       refine HD.out.mono ?_
       rintro e w6 ⟨rfl,hx6,h6⟩
       rw [HN.out] at h6
       have h7 : own w6 (ryL Y { m with F:=F2,job:=some (ob j ((a / 4 : Nat) : Int) (cntq a (q + 1))) } R):=Am (m:={ m with F:=F2,job:=some (ob j ((a / 4 : Nat) : Int) (cntq a q)) }) rfl HSM.out (fun _ _=>Iff.rfl) (lq [lA Y.bs Y.bj Y.vj (ob j ((a / 4 : Nat) : Int) (cntq a (q + 1)))] (rshL Y.bs Y.A F2) h6)
       go_wp2_with fail
       go_roundw
       case rel=>exact ⟨q + 1,by omega,congrArg (Value.int .i64) (by have:=HKK.out; omega),hxr.trans hx6,h7⟩
       case measure=>
        have:=HKK.out
        show a + b - (kk + 1).toNat < a + b - kk.toNat
        omega
      ·obtain rfl : q = b:=by omega
       have j1 : ¬((a + q : Nat) : Int) < (a : Int) + (q : Int):=by omega
       have j4 : (0 : Int) <= (q : Int):=by omega
       have j5 : (q : Int) <= 200:=by omega
       go_wp2_with fail
       go_ret
       rw [<- HRES.out]
       exact ⟨Y,rfl,rfl,hxr,hown⟩
  ·rw [if_neg hc] at hwy
   rw [if_pos (.inr (by rw [hwy]; decide))] at hres
   rw [hwy] at HWI
   subst hres
   clear hm hfr hc hwy hcr h16
   go_enter Tryz.func103,Tryz.ntmps103
   go_upto_region 2 with (fail)
   go_quiet ((go_at_call 205; exact Calls.quiet_of (HWI.out _ (by first | exact H | exact lj H | exact lm _ H))))
   go_wp2_with fail
   go_ret
   exact ⟨Y,rfl,rfl,(Ext.refl w).drewN _,lm _ H⟩
 ·have d16 : decide ((0 : Int) < (s.size : Int) % 16) = true:=decide_eq_true (by omega)
  rw [if_pos (.inl h16)] at hres
  subst hres
  clear hm hfr h16 hst HP
  go_enter Tryz.func103,Tryz.ntmps103
  go_upto_region 2 with (fail)
  go_quiet (fail)
  go_wp2_with fail
  go_ret
  exact ⟨Y,rfl,rfl,(Ext.refl w).drewN _,lm _ H⟩
end Go.Proofs.YtbpblokfiajpjabGreatDoor
