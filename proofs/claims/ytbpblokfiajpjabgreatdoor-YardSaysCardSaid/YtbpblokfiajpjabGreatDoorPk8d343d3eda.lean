/- Lemmas on which YardSays stands: the texts RYard3 RYard2 RYard5 RYard6 RYard7 RYard8 RYard4 RYard9 RYard10. No conditions. -/
import Derived.Test.YtbpblokfiajpjabGreatDoorPk254b17bc92
set_option linter.all false
set_option maxRecDepth 1000000
set_option maxHeartbeats 32000000
namespace Go.Proofs.YtbpblokfiajpjabGreatDoor
open Go.RowKit Go.SL Go.Crc
attribute [local go_sem ↓] Go.wp_at_zero Go.wp_at_succ
theorem Ls (Y : RA) (m : lf) (R : List SL.HP) {k : Nat} (hk : k < 5) : (ryL Y m R)[1 + k]? = some (ox Y.A m.F k):=Kb hk
theorem LL (Y : RA) (m : lf) (R : List SL.HP) {k : Nat} (hk : k < 5) : (ryL Y m R)[7 + k]? = some (oz Y.A m.F m.D k):=by
 match k,hk with
 | 0,_=>rfl
 | 1,_=>rfl
 | 2,_=>rfl
 | 3,_=>rfl
 | 4,_=>rfl
theorem IP {Y : RA} {m : lf} {R : List SL.HP} {w : World} {k : Nat} (hk : k < 5) (h : m.F k = none) (H : own w (ryL Y m R)) : own w (ln (Y.A k).2 (m.D k)::(ryL Y m R).set (7 + k) emp):=by
 have h1:=Dy (7 + k) H (LL Y m R hk)
 have hp : oz Y.A m.F m.D k = ln (Y.A k).2 (m.D k):=by unfold oz; rw [h]
 rwa [hp] at h1
theorem O5 (Y : RA) (m : lf) (R : List SL.HP) {k : Nat} (hk : k < 5) (h : m.F k = none) (d : DevM) : ((ryL Y m R).set (7 + k) emp).set (7 + k) (ln (Y.A k).2 d) = ryL Y { m with D:=setD m.D k d } R:=by
 have hs : ∀j,j≠k -> oz Y.A m.F (setD m.D k d) j = oz Y.A m.F m.D j:=fun j hj=>by unfold oz setD; rw [zq hj]
 have hk' : oz Y.A m.F (setD m.D k d) k = ln (Y.A k).2 d:=by unfold oz setD; rw [h,zt rfl]
 rw [List.set_set]
 match k,hk with
 | 0,_=>show _ = rshL _ _ _++(ryT _ _++R); unfold ryT; dsimp only; rw [hk',hs 1 (by decide),hs 2 (by decide),hs 3 (by decide),hs 4 (by decide)]; rfl
 | 1,_=>show _ = rshL _ _ _++(ryT _ _++R); unfold ryT; dsimp only; rw [hk',hs 0 (by decide),hs 2 (by decide),hs 3 (by decide),hs 4 (by decide)]; rfl
 | 2,_=>show _ = rshL _ _ _++(ryT _ _++R); unfold ryT; dsimp only; rw [hk',hs 0 (by decide),hs 1 (by decide),hs 3 (by decide),hs 4 (by decide)]; rfl
 | 3,_=>show _ = rshL _ _ _++(ryT _ _++R); unfold ryT; dsimp only; rw [hk',hs 0 (by decide),hs 1 (by decide),hs 2 (by decide),hs 4 (by decide)]; rfl
 | 4,_=>show _ = rshL _ _ _++(ryT _ _++R); unfold ryT; dsimp only; rw [hk',hs 0 (by decide),hs 1 (by decide),hs 2 (by decide),hs 3 (by decide)]; rfl
theorem JE {Y : RA} {m : lf} {R : List SL.HP} {w : World} {k : Nat} (hk : k < 5) (h : m.F k = none) {d : DevM} (H : own w (ln (Y.A k).2 d::(ryL Y m R).set (7 + k) emp)) : own w (ryL Y { m with D:=setD m.D k d } R):=by
 have hlt : 7 + k < (ryL Y m R).length:=by
  show _ < (rshL _ _ _++(ryT _ _++R)).length
  unfold ryT rshL
  simp
  omega
 have h1:=oK (7 + k) H (by rw [List.getElem?_set_self hlt])
 rwa [O5 Y m R hk h] at h1
theorem JH {Y : RA} {m : lf} {R : List SL.HP} {w : World} {k : Nat} (hk : k < 5) (H : own w (ryL Y m R)) : own w (ln (Y.A k).2 (devOf m k)::((ryL Y m R).set (1 + k) emp).set (7 + k) emp):=by
 cases h : m.F k with
 | none=>
  have h1:=IP hk h H
  have hd : devOf m k = m.D k:=by unfold devOf; rw [h]
  have hs : (ryL Y m R).set (1 + k) emp = ryL Y m R:=by
   have hp : (ryL Y m R)[1 + k]? = some emp:=by rw [Ls Y m R hk]; unfold ox; rw [h]
   obtain ⟨hlt,he⟩:=zS.1 hp
   have:=List.set_getElem_self hlt
   rwa [he] at this
  rw [hd,hs]
  exact h1
 | some i=>
  have h1:=Dy (1 + k) H (Ls Y m R hk)
  have hp : ox Y.A m.F k = star [lX (Y.A k).1 (Y.A k).2 i,ln (Y.A k).2 i.d]:=by unfold ox; rw [h]
  have hd : devOf m k = i.d:=by unfold devOf; rw [h]
  rw [hp] at h1
  have h2:=le (DF h1)
  have hs : ((ryL Y m R).set (1 + k) emp).set (7 + k) emp = (ryL Y m R).set (1 + k) emp:=by
   have hp : ((ryL Y m R).set (1 + k) emp)[7 + k]? = some emp:=by rw [List.getElem?_set_ne (by omega),LL Y m R hk]; unfold oz; rw [h]
   obtain ⟨hlt,he⟩:=zS.1 hp
   have:=List.set_getElem_self hlt
   rwa [he] at this
  rw [hd,hs]
  exact h2
theorem oO {A : Nat -> Nat×Nat} {F : ShM} {k j : Nat} (h : j≠k) : o5 A (cut F k) j = o5 A F j:=by unfold o5 cut; rw [zq h]
theorem oP {A : Nat -> Nat×Nat} {F : ShM} {k j : Nat} (h : j≠k) : ox A (cut F k) j = ox A F j:=by unfold ox cut; rw [zq h]
theorem oN {A : Nat -> Nat×Nat} {F : ShM} {D : Nat -> DevM} {d : DevM} {k j : Nat} (h : j≠k) : oz A (cut F k) (setD D k d) j = oz A F D j:=by unfold oz cut setD; rw [zq h,zq h]
theorem Cx {A : Nat -> Nat×Nat} {F : ShM} {k : Nat} : ox A (cut F k) k = emp:=by unfold ox cut; rw [zt rfl]
theorem CH {A : Nat -> Nat×Nat} {F : ShM} {k : Nat} : o5 A (cut F k) k = .pointer none:=by unfold o5 cut; rw [zt rfl]
theorem CE {A : Nat -> Nat×Nat} {F : ShM} {D : Nat -> DevM} {d : DevM} {k : Nat} : oz A (cut F k) (setD D k d) k = ln (A k).2 d:=by unfold oz cut setD; rw [zt rfl,zt rfl]
theorem Oj (Y : RA) (m : lf) (R : List SL.HP) {k : Nat} (hk : k < 5) (d : DevM) :
  ((((ryL Y m R).set (1 + k) emp).set (7 + k) emp).set 0 (pts Y.bs (.cells ((oI Y.A m.F).setIfInBounds k (.pointer none)) 114 (0,0)))).set (7 + k) (ln (Y.A k).2 d) = ryL Y { m with F:=cut m.F k,D:=setD m.D k d } R:=by
 match k,hk with
 | 0,_=>show _ = rshL _ _ _++(ryT _ _++R); unfold ryT rshL oI; dsimp only; rw [Cx,CH,CE,oP (j:=1) (by decide),oP (j:=2) (by decide),oP (j:=3) (by decide),oP (j:=4) (by decide),oO (j:=1) (by decide),oO (j:=2) (by decide),oO (j:=3) (by decide),oO (j:=4) (by decide),oN (j:=1) (by decide),oN (j:=2) (by decide),oN (j:=3) (by decide),oN (j:=4) (by decide)]; rfl
 | 1,_=>show _ = rshL _ _ _++(ryT _ _++R); unfold ryT rshL oI; dsimp only; rw [Cx,CH,CE,oP (j:=0) (by decide),oP (j:=2) (by decide),oP (j:=3) (by decide),oP (j:=4) (by decide),oO (j:=0) (by decide),oO (j:=2) (by decide),oO (j:=3) (by decide),oO (j:=4) (by decide),oN (j:=0) (by decide),oN (j:=2) (by decide),oN (j:=3) (by decide),oN (j:=4) (by decide)]; rfl
 | 2,_=>show _ = rshL _ _ _++(ryT _ _++R); unfold ryT rshL oI; dsimp only; rw [Cx,CH,CE,oP (j:=1) (by decide),oP (j:=0) (by decide),oP (j:=3) (by decide),oP (j:=4) (by decide),oO (j:=1) (by decide),oO (j:=0) (by decide),oO (j:=3) (by decide),oO (j:=4) (by decide),oN (j:=1) (by decide),oN (j:=0) (by decide),oN (j:=3) (by decide),oN (j:=4) (by decide)]; rfl
 | 3,_=>show _ = rshL _ _ _++(ryT _ _++R); unfold ryT rshL oI; dsimp only; rw [Cx,CH,CE,oP (j:=1) (by decide),oP (j:=2) (by decide),oP (j:=0) (by decide),oP (j:=4) (by decide),oO (j:=1) (by decide),oO (j:=2) (by decide),oO (j:=0) (by decide),oO (j:=4) (by decide),oN (j:=1) (by decide),oN (j:=2) (by decide),oN (j:=0) (by decide),oN (j:=4) (by decide)]; rfl
 | 4,_=>show _ = rshL _ _ _++(ryT _ _++R); unfold ryT rshL oI; dsimp only; rw [Cx,CH,CE,oP (j:=1) (by decide),oP (j:=2) (by decide),oP (j:=3) (by decide),oP (j:=0) (by decide),oO (j:=1) (by decide),oO (j:=2) (by decide),oO (j:=3) (by decide),oO (j:=0) (by decide),oN (j:=1) (by decide),oN (j:=2) (by decide),oN (j:=3) (by decide),oN (j:=0) (by decide)]; rfl
theorem TX (Y : RA) (m : lf) (R : List SL.HP) {k : Nat} (hk : k < 5) : 7 + k < (ryL Y m R).length:=by
 show _ < (rshL _ _ _++(ryT _ _++R)).length
 unfold ryT rshL
 simp
 omega
theorem Sj {Y : RA} {m : lf} {R : List SL.HP} {w : World} {k : Nat} (hk : k < 5) {d : DevM} (H : own w (ln (Y.A k).2 d::((ryL Y m R).set (1 + k) emp).set (7 + k) emp)) : own (w.setCell ⟨Y.bs,k,none⟩ (.pointer none)) (ryL Y { m with F:=cut m.F k,D:=setD m.D k d } R):=by
 have h0 : (((ryL Y m R).set (1 + k) emp).set (7 + k) emp)[0]? = some (pts Y.bs (.cells (oI Y.A m.F) 114 (0,0))):=by
  rw [List.getElem?_set_ne (by omega),List.getElem?_set_ne (by omega)]; rfl
 have h2:=lg (i:=k) (v:=.pointer none) 1 H (by rw [List.getElem?_cons_succ]; exact h0)
 rw [List.set_cons_succ] at h2
 have hlt:=TX Y m R hk
 have h3:=oK (7 + k) h2 (by rw [List.getElem?_set_ne (by omega),List.getElem?_set_self (by simpa using hlt)])
 rwa [Oj Y m R hk] at h3
theorem oF {A : Nat -> Nat×Nat} {F : ShM} {k j : Nat} {i : ImgM} {a : Nat×Nat} (h : j≠k) : o5 (y7 A k a) (put F k i) j = o5 A F j:=by unfold o5 put y7; rw [zq h,zq h]
theorem oE {A : Nat -> Nat×Nat} {F : ShM} {k j : Nat} {i : ImgM} {a : Nat×Nat} (h : j≠k) : ox (y7 A k a) (put F k i) j = ox A F j:=by unfold ox put y7; rw [zq h,zq h]
theorem oC {A : Nat -> Nat×Nat} {F : ShM} {D : Nat -> DevM} {k j : Nat} {i : ImgM} {a : Nat×Nat} (h : j≠k) : oz (y7 A k a) (put F k i) D j = oz A F D j:=by unfold oz put y7; rw [zq h,zq h]
theorem Ce {A : Nat -> Nat×Nat} {F : ShM} {k : Nat} {i : ImgM} {a : Nat×Nat} : o5 (y7 A k a) (put F k i) k = .pointer (some ⟨a.1,0,none⟩):=by unfold o5 put y7; rw [zt rfl,zt rfl]
theorem Cc {A : Nat -> Nat×Nat} {F : ShM} {k : Nat} {i : ImgM} {a : Nat×Nat} : ox (y7 A k a) (put F k i) k = star [lX a.1 a.2 i,ln a.2 i.d]:=by unfold ox put y7; rw [zt rfl,zt rfl]
theorem Ck {A : Nat -> Nat×Nat} {F : ShM} {D : Nat -> DevM} {k : Nat} {i : ImgM} {a : Nat×Nat} : oz (y7 A k a) (put F k i) D k = emp:=by unfold oz put; rw [zt rfl]
def RA.stA (Y : RA) (k bi : Nat) : RA:={ Y with A:=y7 Y.A k (bi,(Y.A k).2) }
theorem EO (Y : RA) (k bi : Nat) (m : lf) : ryC (Y.stA k bi) m = ryC Y m:=by
 have h : ∀j,((Y.stA k bi).A j).2 = (Y.A j).2:=fun j=>by
  show (y7 Y.A k (bi,(Y.A k).2) j).2 = _
  unfold y7
  by_cases e : j = k
  ·rw [zt e,e]
  ·rw [zq e]
 unfold ryC
 rw [h,h,h,h,h]
 rfl
theorem Oq (Y : RA) (m : lf) (R : List SL.HP) {k : Nat} (hk : k < 5) (i : ImgM) (bi : Nat) :
  ((((ryL Y m R).set (1 + k) emp).set (7 + k) emp).set 0 (pts Y.bs (.cells ((oI Y.A m.F).setIfInBounds k (.pointer (some ⟨bi,0,none⟩))) 114 (0,0)))).set (1 + k) (star [lX bi (Y.A k).2 i,ln (Y.A k).2 i.d]) = ryL (Y.stA k bi) { m with F:=put m.F k i } R:=by
 have hA : (Y.stA k bi).A = y7 Y.A k (bi,(Y.A k).2):=rfl
 match k,hk with
 | 0,_=>show _ = rshL _ _ _++(ryT _ _++R); unfold ryT rshL oI; dsimp only; rw [EO,hA,Cc,Ce,Ck,oE (j:=1) (by decide),oE (j:=2) (by decide),oE (j:=3) (by decide),oE (j:=4) (by decide),oF (j:=1) (by decide),oF (j:=2) (by decide),oF (j:=3) (by decide),oF (j:=4) (by decide),oC (j:=1) (by decide),oC (j:=2) (by decide),oC (j:=3) (by decide),oC (j:=4) (by decide)]; rfl
 | 1,_=>show _ = rshL _ _ _++(ryT _ _++R); unfold ryT rshL oI; dsimp only; rw [EO,hA,Cc,Ce,Ck,oE (j:=0) (by decide),oE (j:=2) (by decide),oE (j:=3) (by decide),oE (j:=4) (by decide),oF (j:=0) (by decide),oF (j:=2) (by decide),oF (j:=3) (by decide),oF (j:=4) (by decide),oC (j:=0) (by decide),oC (j:=2) (by decide),oC (j:=3) (by decide),oC (j:=4) (by decide)]; rfl
 | 2,_=>show _ = rshL _ _ _++(ryT _ _++R); unfold ryT rshL oI; dsimp only; rw [EO,hA,Cc,Ce,Ck,oE (j:=0) (by decide),oE (j:=1) (by decide),oE (j:=3) (by decide),oE (j:=4) (by decide),oF (j:=0) (by decide),oF (j:=1) (by decide),oF (j:=3) (by decide),oF (j:=4) (by decide),oC (j:=0) (by decide),oC (j:=1) (by decide),oC (j:=3) (by decide),oC (j:=4) (by decide)]; rfl
 | 3,_=>show _ = rshL _ _ _++(ryT _ _++R); unfold ryT rshL oI; dsimp only; rw [EO,hA,Cc,Ce,Ck,oE (j:=0) (by decide),oE (j:=1) (by decide),oE (j:=2) (by decide),oE (j:=4) (by decide),oF (j:=0) (by decide),oF (j:=1) (by decide),oF (j:=2) (by decide),oF (j:=4) (by decide),oC (j:=0) (by decide),oC (j:=1) (by decide),oC (j:=2) (by decide),oC (j:=4) (by decide)]; rfl
 | 4,_=>show _ = rshL _ _ _++(ryT _ _++R); unfold ryT rshL oI; dsimp only; rw [EO,hA,Cc,Ce,Ck,oE (j:=0) (by decide),oE (j:=1) (by decide),oE (j:=2) (by decide),oE (j:=3) (by decide),oF (j:=0) (by decide),oF (j:=1) (by decide),oF (j:=2) (by decide),oF (j:=3) (by decide),oC (j:=0) (by decide),oC (j:=1) (by decide),oC (j:=2) (by decide),oC (j:=3) (by decide)]; rfl
theorem QB {Y : RA} {m : lf} {R : List SL.HP} {w : World} {k : Nat} (hk : k < 5) {i : ImgM} {bi : Nat} (H : own w (lX bi (Y.A k).2 i::ln (Y.A k).2 i.d::((ryL Y m R).set (1 + k) emp).set (7 + k) emp)) :
  own (w.setCell ⟨Y.bs,k,none⟩ (.pointer (some ⟨bi,0,none⟩))) (ryL (Y.stA k bi) { m with F:=put m.F k i } R):=by
 have h1 : own w (star [lX bi (Y.A k).2 i,ln (Y.A k).2 i.d]::((ryL Y m R).set (1 + k) emp).set (7 + k) emp):=yK [lX bi (Y.A k).2 i,ln (Y.A k).2 i.d] H
 have h0 : (((ryL Y m R).set (1 + k) emp).set (7 + k) emp)[0]? = some (pts Y.bs (.cells (oI Y.A m.F) 114 (0,0))):=by
  rw [List.getElem?_set_ne (by omega),List.getElem?_set_ne (by omega)]; rfl
 have h2:=lg (i:=k) (v:=.pointer (some ⟨bi,0,none⟩)) 1 h1 (by rw [List.getElem?_cons_succ]; exact h0)
 rw [List.set_cons_succ] at h2
 have hlt:=TX Y m R hk
 have h3:=oK (1 + k) h2 (by rw [List.getElem?_set_ne (by omega),List.getElem?_set_ne (by omega),List.getElem?_set_self (by omega)])
 rwa [Oq Y m R hk] at h3
theorem IG {Y : RA} {m : lf} {R : List SL.HP} {w : World} (o : Obj) (H : own w (ryL Y m R)) : own (w.alloc o) (ryL Y m (pts w.heap.size o::R)):=by
 have h:=lr (rshL Y.bs Y.A m.F++ryT Y m) (R:=R) (by rw [zp]; exact li H o)
 rwa [zp] at h
theorem zB {Y : RA} {m : lf} {P : SL.HP} {R : List SL.HP} {w : World} (H : own w (ryL Y m (P::R))) : own w (ryL Y m R):=lh 15 H rfl
theorem F9 {Y : RA} {m : lf} {R : List SL.HP} {w : World} (H : own w (ryL Y m R)) : own w (ln Y.tp m.top::(ryL Y m R).eraseIdx 12):=lu 12 H rfl
theorem KZ {Y : RA} {m : lf} {R : List SL.HP} {w0 w : World} {d : DevM} (H0 : own w0 (ryL Y m R)) (H : own w (ln Y.tp d::(ryL Y m R).eraseIdx 12)) : own w (ryL Y { m with top:=d } R):=oo H0 12 rfl H
theorem Eb {Y : RA} {m : lf} {P : SL.HP} {R : List SL.HP} {w : World} (H : own w (P::ryL Y m R)) : own w (ryL Y m (P::R)):=by
 have h:=lr (rshL Y.bs Y.A m.F++ryT Y m) (R:=R) (by rw [zp]; exact H)
 rwa [zp] at h
theorem AI {Y : RA} {m : lf} {j : JobM} (h : m.job = some j) {R : List SL.HP} {w : World} (H : own w (ryL Y m R)) : w.cell? ⟨Y.y,13,none⟩ = some (.pointer (some ⟨Y.bj,0,none⟩)):=by
 have:=EP H
 rw [h] at this
 exact this
def za (Y : RA) (S : Int×lf) (R : List SL.HP) (w : World) (e : Ending) (w' : World) : Prop:=
 ∃Y' : RA,Y'.y = Y.y /\ e = .returned (.int .i64 S.1) /\ Ext w w' /\ own w' (ryL Y' S.2 R)
theorem Dq (r : Int) (R : List SL.HP) (w : World) (H : own w R) :
  Calls Tryz.prog 102 #[.int .i64 r] w fun e w'=>e = .returned (lz r).v /\ Ext w w' /\ own w' R:=by
 have ha:=li H (.cells #[.int .i64 0,.int .i64 0,.int .i64 0,.int .i64 0,.int .i64 0] 24)
 have hxa:=(zR w).alloc (.cells #[.int .i64 0,.int .i64 0,.int .i64 0,.int .i64 0,.int .i64 0] 24)
 go_enter Tryz.func102,Tryz.ntmps102
 go_upto_region 1 with (fail)
 generalize w.heap.size = g at *
 generalize w.alloc (.cells #[.int .i64 0,.int .i64 0,.int .i64 0,.int .i64 0,.int .i64 0] 24) = w1 at *
 obtain ⟨cg,fg⟩:=ld 0 ha rfl
 go_wp2_with fail
 have h5:=lg (i:=4) (v:=.int .i64 0) 0 (lg (i:=3) (v:=.int .i64 0) 0 (lg (i:=2) (v:=.int .i64 (-1)) 0 (lg (i:=1) (v:=.int .i64 0) 0 (lg (i:=0) (v:=.int .i64 r) 0 ha rfl) rfl) rfl) rfl) rfl
 obtain ⟨c3,-⟩:=ld 0 h5 rfl
 refine bodyPost_ret (G9 rfl _ _ g r 0 (-1) 0 0 rfl (c3 0) (c3 1) (c3 2) (c3 3) (c3 4)) rfl ?_
 exact ⟨rfl,((((hxa.setCell _ _).setCell _ _).setCell _ _).setCell _ _).setCell _ _,le h5⟩
theorem Bh (Y : RA) (m : lf) (R : List SL.HP) (w : World) (H : own w (ryL Y m R)) :
  Calls Tryz.prog 209 #[.pointer (some ⟨Y.y,0,none⟩)] w fun e w'=>e = .returned (.bool (y8 m)) /\ w = w':=by
 have cj:=EP H
 unfold y8
 cases hj : m.job with
 | none=>
  rw [hj] at cj
  change w.cell? ⟨Y.y,13,none⟩ = some (.pointer none) at cj
  clear H hj
  generalize Y.y = y at *
  go_enter Tryz.func209,Tryz.ntmps209
  go_wp2_with fail
  go_ret
  exact ⟨rfl,rfl⟩
 | some j=>
  rw [hj] at cj
  change w.cell? ⟨Y.y,13,none⟩ = some (.pointer (some ⟨Y.bj,0,none⟩)) at cj
  have HG:=zh (QK Y.bs Y.bj Y.vj j _ w (lp (rshL Y.bs Y.A m.F) [lB Y.bs Y.bj Y.vj j] (AS hj H)))
  clear H hj
  generalize Y.y = y at *
  generalize Y.bj = bj at *
  go_enter Tryz.func209,Tryz.ntmps209
  go_wp2_with fail
  refine HG.out.mono ?_
  rintro e w' ⟨rfl,rfl⟩
  go_wp2_with fail
  go_ret
  exact ⟨by simp,rfl⟩
theorem Bo (Y : RA) (m : lf) (ht : m.top.Ok) (hw : m.top.writes < 999000) (hp : m.top.pend.length < 999000) (d : lI) (hf : d.f = 0) (R : List SL.HP) (w : World) (H : own w (ryL Y m R)) :
  Calls Tryz.prog 131 #[.pointer (some ⟨Y.y,0,none⟩),d.v] w fun e w'=>e = .returned (.int .i64 (lw m d).1) /\ Ext w w' /\ own w' (ryL Y (lw m d).2 R):=by
 obtain ⟨r,k,f,a,b⟩:=d
 have hb:=IG (.cells #[.int .i64 r,.int .i64 k,.int .i64 f,.int .i64 a,.int .i64 b] 24) H
 have hxb:=(zR w).alloc (.cells #[.int .i64 r,.int .i64 k,.int .i64 f,.int .i64 a,.int .i64 b] 24)
 have hno : ¬yx r k f a b:=fun h=>by
  have h1 : yg r k f a b = 0:=hf
  rw [D7 h] at h1
  exact absurd h1 (by decide)
 have HD:=zh (fun (R : List SL.HP) w' h=>F7 r k f a b hno R w' h)
 generalize hres : lw m ⟨r,k,f,a,b⟩ = res
 unfold lw at hres
 unfold lI.v o8
 have hs : (lI.mk r k f a b).s.size <= 9223372036854775807:=by
  show (Aq r k f a b).size <= _
  unfold Aq
  rw [Bi (by simp)]
  decide
 have HS : Hid (Aq r k f a b = (lI.mk r k f a b).s):=zh rfl
 rw [HS.out] at HD
 generalize (lI.mk r k f a b).s = s at *
 have HW:=zh (fun (R : List SL.HP) w' h=>Ct Y.tp m.top ht 0 s hs (by omega) (by omega) R w' h)
 have hok:=DevM.write_ok ht 0 s (by omega) (by omega)
 have hcode : 0 <= (m.top.write 0 s).1:=ol _ _ _
 have HP : Hid (∀w0 w' R d,own w0 (ryL Y m R) -> own w' (ln Y.tp d::(ryL Y m R).eraseIdx 12) -> own w' (ryL Y { m with top:=d } R)):=zh fun w0 w' R d h0 h=>KZ h0 h
 unfold o8 at HD
 generalize m.top.write 0 s = S at *
 obtain ⟨c,t⟩:=S
 dsimp only at hcode hok HW hres
 have HRES:=zh hres
 clear hres
 clear H hf HS ht hw hp hs hno
 go_enter Tryz.func131,Tryz.ntmps131
 go_upto_region 1 with (fail)
 generalize w.heap.size = g at *
 generalize w.alloc (.cells #[.int .i64 r,.int .i64 k,.int .i64 f,.int .i64 a,.int .i64 b] 24) = w1 at *
 have hz:=lj hb
 have hxz:=hxb.drew
 clear hb hxb
 go_region_held3 (fun w'=>w'.cell? ⟨Y.y,5,none⟩ = some (.pointer (some ⟨Y.tp,0,none⟩)) /\ w'.cell? ⟨g,0,none⟩ = some (.int .i64 r) /\ w'.cell? ⟨g,1,none⟩ = some (.int .i64 k) /\ w'.cell? ⟨g,2,none⟩ = some (.int .i64 f) /\ w'.cell? ⟨g,3,none⟩ = some (.int .i64 a) /\ w'.cell? ⟨g,4,none⟩ = some (.int .i64 b)) (first | exact ⟨Db hz,(ld 15 hz rfl).1 0,(ld 15 hz rfl).1 1,(ld 15 hz rfl).1 2,(ld 15 hz rfl).1 3,(ld 15 hz rfl).1 4⟩ | exact ⟨Db h4,(ld 15 h4 rfl).1 0,(ld 15 h4 rfl).1 1,(ld 15 h4 rfl).1 2,(ld 15 h4 rfl).1 3,(ld 15 h4 rfl).1 4⟩) (first | (go_at_call 204; refine (HD.out _ _ hz).mono ?_; rintro e w2 ⟨rfl,hx2,hz'⟩; have hxz:=hxz.trans hx2; have hz:=hz') | (go_at_call 163; refine (HW.out _ _ (F9 hz)).mono ?_; rintro e w3 ⟨rfl,hx3,h3⟩; have h4:=HP.out _ _ _ t hz h3))
 all_goals
  have hx4:=hxz.trans hx3
  clear hz hxz hx3 h3
  by_cases hc : c = 0
  ·subst hc
   rw [zq (by decide)] at HRES
   have ct:=Db h4
   go_wp2_with fail
   refine (Ew Y.tp t hok _ w3 (F9 h4)).mono ?_
   rintro e w4 ⟨rfl,hx5,h5⟩
   have h6 : own w4 (ryL Y { m with top:=t.flush } (pts g (.cells #[.int .i64 r,.int .i64 k,.int .i64 f,.int .i64 a,.int .i64 b] 24 (0,0))::R)):=oo h4 12 rfl h5
   have cd:=(ld 15 h6 rfl).1
   have d0:=cd 0
   have d1:=cd 1
   have d2:=cd 2
   have d3:=cd 3
   have d4:=cd 4
   have fy:=A5 h6
   have e7:=zC h6
   have e8:=Co h6
   have e9:=Cr h6
   have e10:=Dz h6
   have e11:=CR h6
   clear ct cd
   have h7:=lg (i:=11) (v:=.int .i64 b) 6 (lg (i:=10) (v:=.int .i64 a) 6 (lg (i:=9) (v:=.int .i64 f) 6 (lg (i:=8) (v:=.int .i64 k) 6 (lg (i:=7) (v:=.int .i64 r) 6 h6 rfl) rfl) rfl) rfl) rfl
   have h8 : own _ (ryL Y { m with top:=t.flush,dk:=⟨r,k,f,a,b⟩ } (pts g (.cells #[.int .i64 r,.int .i64 k,.int .i64 f,.int .i64 a,.int .i64 b] 24 (0,0))::R)):=h7
   clear h7 h6 h5 h4
   go_wp2_with fail
   go_ret
   rw [<- HRES.out]
   exact ⟨rfl,(((((((hx4.trans hx5).setCell _ _).setCell _ _).setCell _ _).setCell _ _).setCell _ _)),zB h8⟩
  ·rw [zt hc] at HRES
   have hc1 : 0 < c:=by omega
   clear hc
   go_wp2_with fail
   go_ret
   rw [<- HRES.out]
   exact ⟨rfl,hx4,zB h4⟩
theorem Uy (Y : RA) (m : lf) (F' : ShM) {j : JobM} (j' : JobM) (h : m.job = some j) (hn : ∀k,k < 5 -> (F' k = none↔m.F k = none)) : (ryT Y { m with F:=F',job:=some j' }).take 8 = (ryT Y m).take 8:=by
 have hf : ∀k,k < 5 -> oz Y.A F' m.D k = oz Y.A m.F m.D k:=fun k hk=>by
  unfold oz
  cases e : m.F k with
  | none=>rw [(hn k hk).2 e]
  | some i=>
   cases e' : F' k with
   | none=>exact absurd ((hn k hk).1 e') (by rw [e]; exact fun h=>by cases h)
   | some i'=>rfl
 have hc : ryC Y { m with F:=F',job:=some j' } = ryC Y m:=by
  unfold ryC
  dsimp only
  rw [h]
  rfl
 unfold ryT
 dsimp only
 rw [hc,hf 0 (by decide),hf 1 (by decide),hf 2 (by decide),hf 3 (by decide),hf 4 (by decide)]
 rfl
theorem AH {Y : RA} {m : lf} {F' : ShM} {j j' : JobM} {R : List SL.HP} {w : World} (h : m.job = some j) (hl : j'.list = j.list) (hn : ∀k,k < 5 -> (F' k = none↔m.F k = none))
  (H : own w (rshL Y.bs Y.A F'++(lB Y.bs Y.bj Y.vj j'::(row 3 1 Y.vj j.list.length (lo j.list)::((ryT Y m).take 8++R))))) : own w (ryL Y { m with F:=F',job:=some j' } R):=by
 refine NA (m:={ m with F:=F',job:=some j' }) (j:=j') rfl ?_
 rw [hl,Uy Y m F' j' h hn]
 exact H
theorem FL {Y : RA} {m : lf} {v : Value} {l : List Int} {R : List SL.HP} {w : World} (H : own w (ryL Y m (row 3 1 v l.length (lo l)::R))) : own (w.setCell ⟨Y.y,12,none⟩ v) (ryL { Y with v:=v } { m with list:=l } R):=by
 have h1:=lg (i:=12) (v:=v) 6 H rfl
 have h2:=lh 13 h1 rfl
 have h3:=lu 14 h2 rfl
 exact lr (((ryL { Y with v:=v } { m with list:=l } R)).take 13) h3
theorem OE (Y : RA) (m : lf) (on : Bool) (R : List SL.HP) (w : World) (H : own w (ryL Y m R)) :
  Calls Tryz.prog 116 #[.pointer (some ⟨Y.y,0,none⟩),.bool on] w (za Y (zW m on) R w):=by
 have HB:=zh (Bh Y m R w H)
 generalize hres : zW m on = res
 unfold zW at hres
 unfold y8 at HB
 cases hj : m.job with
 | none=>
  rw [hj] at HB hres
  dsimp only at HB hres
  subst hres
  clear hj
  go_enter Tryz.func116,Tryz.ntmps116
  go_wp2_with fail
  refine HB.out.mono ?_
  rintro e w' ⟨rfl,rfl⟩
  go_wp2_with fail
  go_ret
  exact ⟨Y,rfl,rfl,zR _,H⟩
 | some j=>
  rw [hj] at HB hres
  dsimp only at HB hres
  by_cases h4 : 4 <= j.st
  ·rw [zt h4] at hres
   subst hres
   rw [zf (by omega)] at HB
   clear hj h4
   go_enter Tryz.func116,Tryz.ntmps116
   go_wp2_with fail
   refine HB.out.mono ?_
   rintro e w' ⟨rfl,rfl⟩
   go_wp2_with fail
   go_ret
   exact ⟨Y,rfl,rfl,zR _,H⟩
  ·rw [zq h4] at hres
   rw [zg (by omega)] at HB
   have cj:=AI hj H
   have HP:=zh (Jl Y.bs Y.bj Y.vj j on _ w (lp (rshL Y.bs Y.A m.F) [lB Y.bs Y.bj Y.vj j] (AS hj H)))
   have HJ:=zh hj
   have HRES:=zh hres
   clear hj h4 hres
   go_enter Tryz.func116,Tryz.ntmps116
   go_wp2_with fail
   refine HB.out.mono ?_
   rintro e w' ⟨rfl,rfl⟩
   go_wp2_with fail
   refine HP.out.mono ?_
   rintro e w2 ⟨rfl,hx2,h2⟩
   go_wp2_with fail
   go_ret
   rw [<- HRES.out]
   exact ⟨Y,rfl,rfl,hx2,AH HJ.out (D1 j on) (fun _ _=>Iff.rfl) (lp [lB Y.bs Y.bj Y.vj (yU j on).2] (rshL Y.bs Y.A m.F) h2)⟩
theorem Qx (Y : RA) (m : lf) (hm : ∀j,m.job = some j -> j.Ok) (n : Int) (R : List SL.HP) (w : World) (H : own w (ryL Y m R)) :
  Calls Tryz.prog 118 #[.pointer (some ⟨Y.y,0,none⟩),.int .i64 n] w (za Y (Az m n) R w):=by
 have HB:=zh (Bh Y m R w H)
 generalize hres : Az m n = res
 unfold Az at hres
 unfold y8 at HB
 by_cases hb : n < 0 \/ 100000 < n
 ·rw [zt hb] at hres
  subst hres
  by_cases q1 : n < 0
  ·go_enter Tryz.func118,Tryz.ntmps118
   go_wp2_with fail
   go_ret
   exact ⟨Y,rfl,rfl,zR w,H⟩
  ·have q2 : 100000 < n:=by omega
   clear hb
   go_enter Tryz.func118,Tryz.ntmps118
   go_wp2_with fail
   go_ret
   exact ⟨Y,rfl,rfl,zR w,H⟩
 rw [zq hb] at hres
 have hn : 0 <= n /\ n <= 100000:=by omega
 have q1 : ¬n < 0:=by omega
 have q2 : ¬100000 < n:=by omega
 clear hb
 cases hj : m.job with
 | none=>
  rw [hj] at HB hres
  dsimp only at HB hres
  subst hres
  clear hj
  go_enter Tryz.func118,Tryz.ntmps118
  go_wp2_with fail
  refine HB.out.mono ?_
  rintro e w' ⟨rfl,rfl⟩
  go_wp2_with fail
  go_ret
  exact ⟨Y,rfl,rfl,zR _,H⟩
 | some j=>
  rw [hj] at HB hres
  dsimp only at HB hres
  by_cases h4 : 4 <= j.st
  ·rw [zt h4] at hres
   subst hres
   rw [zf (by omega)] at HB
   clear hj h4
   go_enter Tryz.func118,Tryz.ntmps118
   go_wp2_with fail
   refine HB.out.mono ?_
   rintro e w' ⟨rfl,rfl⟩
   go_wp2_with fail
   go_ret
   exact ⟨Y,rfl,rfl,zR _,H⟩
  ·rw [zq h4] at hres
   rw [zg (by omega)] at HB
   have cj:=AI hj H
   have HP:=zh (T9 (hm j hj) hn.1 hn.2 6 w (AS hj H) rfl)
   have HJ:=zh hj
   have HRES:=zh hres
   clear hj h4 hm hres hn
   go_enter Tryz.func118,Tryz.ntmps118
   go_wp2_with fail
   refine HB.out.mono ?_
   rintro e w' ⟨rfl,rfl⟩
   go_wp2_with fail
   refine HP.out.mono ?_
   rintro e w2 ⟨rfl,hx2,h2⟩
   go_wp2_with fail
   go_ret
   rw [<- HRES.out]
   exact ⟨Y,rfl,rfl,hx2,AH HJ.out (Jz j n) (fun _ _=>Iff.rfl) h2⟩
theorem Kv (Y : RA) (m : lf) (N : Nat) (hW : ShW N m.F) (hN : N < 900000) (ht : m.top.Ok) (hw : m.top.writes < 999000) (hp : m.top.pend.length < 999000) (j : JobM) (hj : m.job = some j) (root : Int) (hr : 0 <= root /\ root < 5) (well : Bool) (R : List SL.HP) (w : World) (H : own w (ryL Y m R)) :
  Calls Tryz.prog 210 #[.pointer (some ⟨Y.y,0,none⟩),.int .i64 root,.int .i64 (if well then 4 else 5)] w (za Y (B4 m j root well) R w):=by
 have HN:=zh (fun R' w' h=>Dq root R' w' h)
 have HW:=zh (fun R' w' h=>Bo Y m ht hw hp (lz root) (BQ hr.1 hr.2) R' w' h)
 generalize hres : B4 m j root well = res
 unfold B4 at hres
 have hcode : 0 <= (lw m (lz root)).1:=by
  unfold lw
  split
  ·exact ol _ _ _
  ·exact Int.le_refl 0
 have hF : (lw m (lz root)).2.F = m.F:=by unfold lw; split <;> rfl
 have hJ : (lw m (lz root)).2.job = m.job:=by unfold lw; split <;> rfl
 have HWK:=zh (fun Y' R' w' h=>Ea Y.bs Y' m.F (hW.sh hN) root R' w' h)
 unfold zO at HWK
 rw [hj] at hJ
 unfold lI.v o8 at HW HN
 generalize lw m (lz root) = S at *
 obtain ⟨c,m2⟩:=S
 dsimp only [lz] at hcode hF hJ HW HN hres ⊢
 have HRES:=zh hres
 have HJ:=zh hJ
 clear hres
 generalize (lt m.F root).1 = l at *
 generalize (lt m.F root).2 = wc at *
 have hwe : endM j well = { j with st:=if well then 4 else 5 }:=rfl
 rw [hwe] at HRES
 generalize (if well then (4 : Int) else 5) = st at *
 clear hW ht hw hp hr hj hwe
 go_enter Tryz.func210,Tryz.ntmps210
 go_wp2_with fail
 refine (HN.out _ _ H).mono ?_
 rintro e w1 ⟨rfl,hx1,h1⟩
 go_wp2_with fail
 refine (HW.out _ w1 h1).mono ?_
 rintro e w2 ⟨rfl,hx2,h2⟩
 clear H h1
 by_cases hc : c = 0
 ·subst hc
  rw [zq (by decide)] at HRES
  have cj:=AI hJ h2
  have h3:=AS HJ.out h2
  have cs:=lq 6 h3 rfl 74 (by decide)
  have fs:=oV 6 h3 rfl 74
  have h4 : own _ (ryL Y { m2 with job:=some { j with st:=st } } R):=AH (F':=m2.F) HJ.out rfl (fun _ _=>Iff.rfl) (yZ (i:=74) (a:=.int .i64 st) 6 h3 rfl (Cv Y.bs Y.vj j st))
  have hx4:=(hx1.trans hx2).setCell ⟨Y.bj,74,none⟩ (.int .i64 st)
  clear h3 h2 hx1 hx2
  go_upto_region 5 with (fail)
  generalize w2.setCell ⟨Y.bj,74,none⟩ (.int .i64 st) = w3 at *
  clear cj cs fs
  have cb:=BE h4
  have h5' : own w3 (rshL Y.bs Y.A m.F++(ryT Y { m2 with job:=some { j with st:=st } }++R)):=by rw [<- hF]; exact h4
  go_wp2_with fail
  refine (HWK.out _ _ _ h5').mono ?_
  rintro e w6 ⟨v,rfl,hx6,h6⟩
  obtain ⟨vo,vb,vof,vcap,rfl,-,-,-,-⟩:=(l9 0 h6 rfl).form
  rw [<- hF] at h6
  have h7:=Eb (Y:=Y) (m:={ m2 with job:=some { j with st:=st } }) h6
  have cl:=AR h7
  have fl:=A5 h7 12
  have h8:=FL h7
  have hx8:=(hx4.trans hx6).setCell ⟨Y.y,12,none⟩ (.slice vo l.length vcap)
  clear h4 h5' h6 h7 cb
  go_wp2_with fail
  go_ret
  rw [<- HRES.out]
  exact ⟨{ Y with v:=.slice vo l.length vcap },rfl,rfl,hx8,h8⟩
 ·rw [zt hc] at HRES
  have hc1 : 0 < c:=by omega
  clear hc
  go_wp2_with fail
  go_ret
  rw [<- HRES.out]
  exact ⟨Y,rfl,rfl,hx1.trans hx2,h2⟩
theorem MV (N : Nat) (Y : RA) (m : lf) (hm : YOk N m) (hN : N < 900000) (R : List SL.HP) (w : World) (H : own w (ryL Y m R)) :
  Calls Tryz.prog 114 #[.pointer (some ⟨Y.y,0,none⟩)] w (za Y (zT m) R w):=by
 have HB:=zh (Bh Y m R w H)
 generalize hres : zT m = res
 unfold zT at hres
 unfold y8 at HB
 cases hj : m.job with
 | none=>
  rw [hj] at HB hres
  dsimp only at HB hres
  subst hres
  clear hj
  go_enter Tryz.func114,Tryz.ntmps114
  go_wp2_with fail
  refine HB.out.mono ?_
  rintro e w' ⟨rfl,rfl⟩
  go_wp2_with fail
  go_ret
  exact ⟨Y,rfl,rfl,zR _,H⟩
 | some j=>
  rw [hj] at HB hres
  dsimp only at HB hres
  by_cases h4 : 4 <= j.st
  ·rw [zt h4] at hres
   subst hres
   rw [zf (by omega)] at HB
   clear hj h4
   go_enter Tryz.func114,Tryz.ntmps114
   go_wp2_with fail
   refine HB.out.mono ?_
   rintro e w' ⟨rfl,rfl⟩
   go_wp2_with fail
   go_ret
   exact ⟨Y,rfl,rfl,zR _,H⟩
  ·rw [zq h4] at hres
   rw [zg (by omega)] at HB
   have cr:=zC H
   have hr:=hm.root5
   have htw:=hm.tp.2.1
   have htp:=hm.tp.2.2.1
   have HO:=zh (fun R' w' h=>Kv Y m N hm.sh hN hm.tp.1 (by omega) (by omega) j hj m.dk.root hr false R' w' h)
   have HRES:=zh hres
   clear hj h4 hm hres hr htw htp
   go_enter Tryz.func114,Tryz.ntmps114
   go_wp2_with fail
   refine HB.out.mono ?_
   rintro e w' ⟨rfl,rfl⟩
   go_wp2_with fail
   refine (HO.out _ _ H).mono ?_
   rintro e w3 ⟨Y',hy,rfl,hx3,h3⟩
   go_wp2_with fail
   go_ret
   rw [<- HRES.out]
   exact ⟨Y',hy,rfl,hx3,h3⟩
theorem Oi (N : Nat) (Y : RA) (m : lf) (hm : YOk N m) (hN : N < 890000) (R : List SL.HP) (w : World) (H : own w (ryL Y m R)) :
  Calls Tryz.prog 113 #[.pointer (some ⟨Y.y,0,none⟩)] w (za Y (AD m) R w):=by
 have HB:=zh (Bh Y m R w H)
 generalize hres : AD m = res
 unfold AD at hres
 unfold y8 at HB
 cases hj : m.job with
 | none=>
  rw [hj] at HB hres
  dsimp only at HB hres
  subst hres
  clear hj
  go_enter Tryz.func113,Tryz.ntmps113
  go_wp2_with fail
  refine HB.out.mono ?_
  rintro e w' ⟨rfl,rfl⟩
  go_wp2_with fail
  go_ret
  exact ⟨Y,rfl,rfl,zR _,H⟩
 | some j=>
  rw [hj] at HB hres
  dsimp only at HB hres
  by_cases h4 : 4 <= j.st
  ·rw [zt h4] at hres
   subst hres
   rw [zf (by omega)] at HB
   clear hj h4
   go_enter Tryz.func113,Tryz.ntmps113
   go_wp2_with fail
   refine HB.out.mono ?_
   rintro e w' ⟨rfl,rfl⟩
   go_wp2_with fail
   go_ret
   exact ⟨Y,rfl,rfl,zR _,H⟩
  ·rw [zq h4] at hres
   rw [zg (by omega)] at HB
   obtain ⟨hS,hl,hk,hf,hr⟩:=hm.job j hj (by omega)
   have ck:=Co H
   have cj:=AI hj H
   by_cases h2 : m.dk.kind = 2
   ·rw [zt h2] at hres
    subst hres
    have d2 : (m.dk.kind == 2) = true:=by rw [h2]; rfl
    clear hj h4 h2 hk
    go_enter Tryz.func113,Tryz.ntmps113
    go_wp2_with fail
    refine HB.out.mono ?_
    rintro e w' ⟨rfl,rfl⟩
    go_wp2_with fail
    go_ret
    exact ⟨Y,rfl,rfl,zR _,H⟩
   ·rw [zq h2] at hres
    have d2 : (m.dk.kind == 2) = false:=by rw [zb]; exact h2
    have hkj : j.kind≠2:=by rw [hk]; exact h2
    have hff:=hS.file hkj
    have hv : ∀w' L,own w' (L++(row 3 1 Y.vj j.list.length (lo j.list)::((ryT Y m).take 8++R))) -> lS w' Y.vj j.list:=fun w' L h=>l9 0 (lp L [row 3 1 Y.vj j.list.length (lo j.list)] h) rfl
    have HSE:=zh (Iz Y.bs Y.A m.F N hm.sh (by omega) Y.bj Y.vj j (hm.jok j hj) hS (row 3 1 Y.vj j.list.length (lo j.list)::((ryT Y m).take 8++R)) w hv (AS hj H))
    have hcode:=Bu m.F j
    have HPUT:=zh (fun w' h=>AH (w:=w') (Y:=Y) (m:=m) (R:=R) (F':=(lA m.F j).2.1) (j':=(lA m.F j).2.2) hj (Cj m.F j).1 (fun k hk=>Cl hk) h)
    have hff5 : 0 <= m.dk.file /\ m.dk.file < 5:=by rw [<- hf]; exact ⟨hff.1,hff.2.1⟩
    have htw:=hm.tp.2.1
    have htp:=hm.tp.2.2.1
    have HO:=zh (fun R' w' h=>Kv Y { m with F:=(lA m.F j).2.1,job:=some (lA m.F j).2.2 } (N + 1) (BW hm.sh (by omega) (hm.jok j hj) hS) (by omega) hm.tp.1 (by dsimp only; omega) (by dsimp only; omega) (lA m.F j).2.2 rfl m.dk.file hff5 true R' w' h)
    generalize lA m.F j = S at *
    obtain ⟨c,F2,j2⟩:=S
    dsimp only at hres HSE hcode HPUT HO
    have HRES:=zh hres
    clear hj h4 h2 hk hres hv hff hkj hS hl hr htw htp hm hff5 hf
    go_enter Tryz.func113,Tryz.ntmps113
    go_wp2_with fail
    refine HB.out.mono ?_
    rintro e w' ⟨rfl,rfl⟩
    go_wp2_with fail
    refine HSE.out.mono ?_
    rintro e w2 ⟨rfl,hx2,h2⟩
    have h3:=HPUT.out _ h2
    by_cases hc : c = 0
    ·subst hc
     rw [zq (by decide)] at HRES
     have cf:=Cr h3
     clear h2 cj ck
     go_wp2_with fail
     refine (HO.out _ _ h3).mono ?_
     rintro e w5 ⟨Y',hy,rfl,hx5,h5⟩
     go_wp2_with fail
     go_ret
     rw [<- HRES.out]
     exact ⟨Y',hy,rfl,hx2.trans hx5,h5⟩
    ·rw [zt hc] at HRES
     have hc1 : 0 < c:=by omega
     clear hc
     go_wp2_with fail
     go_ret
     rw [<- HRES.out]
     exact ⟨Y,rfl,rfl,hx2,h3⟩
def zN (Y : RA) (m : lf) (R : List SL.HP) (k : Nat) : List SL.HP:=match m.F k with
 | some i=>lX (Y.A k).1 (Y.A k).2 i::(ryL Y m R).eraseIdx (1 + k)
 | none=>(ryL Y m R).set (7 + k) emp
theorem FE {Y : RA} {m : lf} {R : List SL.HP} {w : World} {k : Nat} (hk : k < 5) (H : own w (ryL Y m R)) : own w (ln (Y.A k).2 (devOf m k)::zN Y m R k):=by
 unfold devOf zN
 cases e : m.F k with
 | none=>exact IP hk e H
 | some i=>exact B1 (AZ hk e H)
theorem QZ (Y : RA) (m : lf) {k : Nat} {i : ImgM} (h : m.F k = some i) (d : DevM) : ryT Y { m with F:=put m.F k { i with d:=d } } = ryT Y m:=by
 have hf : ∀j,oz Y.A (put m.F k { i with d:=d }) m.D j = oz Y.A m.F m.D j:=fun j=>by
  unfold oz put
  by_cases e : j = k
  ·subst e; rw [zt rfl,h]
  ·rw [zq e]
 unfold ryT
 dsimp only
 rw [hf,hf,hf,hf,hf]
 rfl
theorem QO {Y : RA} {m : lf} {R : List SL.HP} {w0 w : World} {k : Nat} (hk : k < 5) {d : DevM} (H0 : own w0 (ryL Y m R)) (H : own w (ln (Y.A k).2 d::zN Y m R k)) : own w (ryL Y (BT m k d) R):=by
 unfold BT
 unfold zN at H
 cases e : m.F k with
 | none=>rw [e] at H; exact JE hk e H
 | some i=>
  rw [e] at H
  have h1:=B1 H
  have h2:=Ds (m':={ i with d:=d }) hk e H0 h1
  show own w (rshL Y.bs Y.A (put m.F k { i with d:=d })++(ryT Y { m with F:=put m.F k { i with d:=d } }++R))
  rw [QZ Y m e d]
  exact h2
theorem N8 {b : Nat} {d : DevM} {n : Int} {R : List SL.HP} {w : World} (H : own w (ln b d::R)) :
  (∃v,w.cell? ⟨b,3,none⟩ = some v) /\ w.frozen? ⟨b,3,none⟩ = false /\ own (w.setCell ⟨b,3,none⟩ (.int .i64 n)) (ln b { d with fail:=n }::R):=by
 obtain ⟨vf,va,vw,h⟩:=AL H
 exact ⟨⟨_,(ld 0 h rfl).1 3⟩,(ld 0 h rfl).2 3,yA (m:={ d with fail:=n }) (lg (i:=3) (v:=.int .i64 n) 0 h rfl)⟩
theorem SH (Y : RA) (m : lf) (file n : Int) (R : List SL.HP) (w : World) (H : own w (ryL Y m R)) :
  Calls Tryz.prog 120 #[.pointer (some ⟨Y.y,0,none⟩),.int .i64 file,.int .i64 n] w (za Y (armM m file n) R w):=by
 generalize hres : armM m file n = res
 by_cases hf : file < -1
 ·have hr : res = (1,m):=by rw [<- hres]; unfold armM; rw [zt (.inl hf)]
  clear hres
  subst hr
  go_enter Tryz.func120,Tryz.ntmps120
  go_wp2_with fail
  go_ret
  exact ⟨Y,rfl,rfl,zR w,H⟩
 ·by_cases hf5 : 5 <= file
  ·have hr : res = (1,m):=by rw [<- hres]; unfold armM; rw [zt (.inr (.inl hf5))]
   clear hres
   subst hr
   go_enter Tryz.func120,Tryz.ntmps120
   go_wp2_with fail
   go_ret
   exact ⟨Y,rfl,rfl,zR w,H⟩
  ·by_cases hn : n < 0
   ·have hr : res = (1,m):=by rw [<- hres]; unfold armM; rw [zt (.inr (.inr hn))]
    clear hres
    subst hr
    go_enter Tryz.func120,Tryz.ntmps120
    go_wp2_with fail
    go_ret
    exact ⟨Y,rfl,rfl,zR w,H⟩
   ·by_cases h1 : file = -1
    ·subst h1
     have hr : res = (0,{ m with top:={ m.top with fail:=n } }):=by rw [<- hres]; unfold armM; rw [zq (by omega),zt rfl]
     clear hres
     subst hr
     have ct:=Db H
     obtain ⟨⟨v0,c0⟩,f0,h2⟩:=N8 (n:=n) (F9 H)
     have h3:=KZ H h2
     clear hf hf5
     go_enter Tryz.func120,Tryz.ntmps120
     go_wp2_with fail
     go_ret
     exact ⟨Y,rfl,rfl,(zR w).setCell _ _,h3⟩
    ·obtain ⟨k,rfl⟩ : ∃k : Nat,file = (k : Int):=⟨file.toNat,by omega⟩
     have hk : k < 5:=by omega
     have i0 : (0 : Int) <= (k : Int):=by omega
     have i1 : (k : Int) < 5:=by omega
     have d1 : ((k : Int) == -1) = false:=by rw [zb]; exact h1
     rw [NI m k n (by omega)] at hres
     subst hres
     have ct:=D5 H hk
     obtain ⟨⟨v0,c0⟩,f0,h2⟩:=N8 (n:=n) (FE hk H)
     have h3:=QO hk H h2
     clear h1
     go_enter Tryz.func120,Tryz.ntmps120
     go_wp2_with fail
     go_ret
     exact ⟨Y,rfl,rfl,(zR w).setCell _ _,h3⟩
theorem MS (Y : RA) (m : lf) (R : List SL.HP) (w : World) (H : own w (ryL Y m R)) :
  Calls Tryz.prog 122 #[.pointer (some ⟨Y.y,0,none⟩)] w fun e w'=>e = .returned (F4 m) /\ Ext w w' /\ own w' (ryL Y m R):=by
 have hb:=IG (.cells #[.int .i64 0,.int .i64 0,.int .i64 0,.int .i64 0] 47) H
 have hxb:=(zR w).alloc (.cells #[.int .i64 0,.int .i64 0,.int .i64 0,.int .i64 0] 47)
 unfold F4
 cases hj : m.job with
 | none=>
  have cj:=EP hb
  rw [hj] at cj
  change World.cell? _ ⟨Y.y,13,none⟩ = some (.pointer none) at cj
  dsimp only
  clear hj
  go_enter Tryz.func122,Tryz.ntmps122
  go_upto_region 1 with (fail)
  generalize w.heap.size = g at *
  generalize w.alloc (.cells #[.int .i64 0,.int .i64 0,.int .i64 0,.int .i64 0] 47) = w1 at *
  obtain ⟨cg,fg⟩:=ld 15 hb rfl
  go_wp2_with fail
  have h5:=lg (i:=3) (v:=.int .i64 0) 15 (lg (i:=2) (v:=.int .i64 0) 15 (lg (i:=1) (v:=.int .i64 (-1)) 15 (lg (i:=0) (v:=.int .i64 0) 15 hb rfl) rfl) rfl) rfl
  obtain ⟨c3,-⟩:=ld 15 h5 rfl
  refine bodyPost_ret (AQ rfl _ _ g 0 (-1) 0 0 rfl (c3 0) (c3 1) (c3 2) (c3 3)) rfl ?_
  exact ⟨rfl,(((hxb.setCell _ _).setCell _ _).setCell _ _).setCell _ _,lh 15 h5 rfl⟩
 | some j=>
  have cj:=AI hj hb
  have HST:=zh (fun R' w' (h : own w' (ryL Y m R'))=>M6 Y.bs Y.bj Y.vj j _ w' (lp (rshL Y.bs Y.A m.F) [lB Y.bs Y.bj Y.vj j] (AS hj h)))
  have HCL:=zh (fun R' w' h=>NA (Y:=Y) (m:=m) (R:=R') (w:=w') hj h)
  dsimp only
  unfold C0 at HST ⊢
  generalize (cnt j.x : Nat) = q at *
  clear hj
  go_enter Tryz.func122,Tryz.ntmps122
  go_upto_region 1 with (fail)
  generalize w.heap.size = g at *
  generalize w.alloc (.cells #[.int .i64 0,.int .i64 0,.int .i64 0,.int .i64 0] 47) = w1 at *
  go_wp2_with fail
  refine (HST.out _ _ hb).mono ?_
  rintro e w2 ⟨rfl,hx2,h2⟩
  have h3:=HCL.out _ _ (lp [lB Y.bs Y.bj Y.vj j] (rshL Y.bs Y.A m.F) h2)
  obtain ⟨cg,fg⟩:=ld 15 h3 rfl
  have g0:=cg 0
  have g1:=cg 1
  have g2:=cg 2
  have g3:=cg 3
  clear cj
  go_wp2_with fail
  have h5:=lg (i:=3) (v:=.int .i64 (q : Int)) 15 (lg (i:=2) (v:=.int .i64 j.st) 15 (lg (i:=1) (v:=.int .i64 j.file) 15 (lg (i:=0) (v:=.int .i64 j.kind) 15 h3 rfl) rfl) rfl) rfl
  obtain ⟨c3,-⟩:=ld 15 h5 rfl
  refine bodyPost_ret (AQ rfl _ _ g j.kind j.file j.st (q : Int) rfl (c3 0) (c3 1) (c3 2) (c3 3)) rfl ?_
  exact ⟨rfl,((((hxb.trans hx2).setCell _ _).setCell _ _).setCell _ _).setCell _ _,lh 15 h5 rfl⟩
theorem Xc (Y : RA) (m : lf) (F' : ShM) (hn : ∀k,k < 5 -> (F' k = none↔m.F k = none)) : ryT Y { m with F:=F' } = ryT Y m:=by
 have hf : ∀k,k < 5 -> oz Y.A F' m.D k = oz Y.A m.F m.D k:=fun k hk=>by
  unfold oz
  cases e : m.F k with
  | none=>rw [(hn k hk).2 e]
  | some i=>
   cases e' : F' k with
   | none=>exact absurd ((hn k hk).1 e') (by rw [e]; exact fun h=>by cases h)
   | some i'=>rfl
 unfold ryT
 dsimp only
 rw [hf 0 (by decide),hf 1 (by decide),hf 2 (by decide),hf 3 (by decide),hf 4 (by decide)]
 rfl
theorem ry_F {Y : RA} {m : lf} {F' : ShM} {R : List SL.HP} {w : World} (hn : ∀k,k < 5 -> (F' k = none↔m.F k = none)) (H : own w (rshL Y.bs Y.A F'++(ryT Y m++R))) : own w (ryL Y { m with F:=F' } R):=by
 show own w (rshL Y.bs Y.A F'++(ryT Y { m with F:=F' }++R))
 rw [Xc Y m F' hn]
 exact H
theorem QH {Y : RA} {m : lf} {R : List SL.HP} : ∀w' L,own w' (L++(ryT Y m++R)) -> lS w' Y.v m.list:=fun w' L h=>l9 7 (lp L (ryT Y m) h) rfl
def cntq (a q : Nat) : Nat:=if q = 0 then 0 else (a + q - 1) / 4 - a / 4 + 1
theorem OZ (j : JobM) (a q : Nat) : zL (oe j ((a / 4 : Nat) : Int) (cntq a q)) (((a + q) / 4 : Nat) : Int) = oe j ((a / 4 : Nat) : Int) (cntq a (q + 1)):=by
 have h1 : cntq a (q + 1) = (a + q) / 4 - a / 4 + 1:=by unfold cntq; rw [zq (by omega)]; rfl
 by_cases h0 : q = 0
 ·subst h0
  have e : cntq a 0 = 0:=rfl
  rw [h1,e,show (a + 0) / 4 - a / 4 + 1 = 0 + 1 by omega,DZ]
  simp
 ·have h2 : cntq a q = (a + q - 1) / 4 - a / 4 + 1:=by unfold cntq; rw [zq h0]
  by_cases h3 : (a + q) / 4 = (a + q - 1) / 4
  ·rw [h1,h2,h3,DZ,show ((a / 4 : Nat) : Int) + (((a + q - 1) / 4 - a / 4 : Nat) : Int) = (((a + q - 1) / 4 : Nat) : Int) by omega,OU]
  ·rw [h1,h2,show (a + q) / 4 - a / 4 + 1 = ((a + q - 1) / 4 - a / 4 + 1) + 1 by omega,DZ ((a + q - 1) / 4 - a / 4 + 1) j]
   congr 1
   omega
theorem OY (m : lf) {j : JobM} (hj : m.job = some j) (a b : Nat) : yN m (a : Int) (b : Int) = { m with job:=some (oe j ((a / 4 : Nat) : Int) (cntq a b)) }:=by
 by_cases hb : b = 0
 ·subst hb
  unfold yN
  rw [hj]
  dsimp only
  rw [zt (show ((0 : Nat) : Int) = 0 from rfl)]
  show m = { m with job:=some j }
  rw [<- hj]
 ·rw [KO m hj a b hb]
  unfold cntq
  rw [zq hb]
theorem Oc (m : lf) (hj : m.job = none) (a b : Int) : yN m a b = m:=by unfold yN; rw [hj]
theorem NV (N : Nat) (Y : RA) (m : lf) (hm : YOk N m) (hN : N + 1000 < 900000) (fr : Int) (hfr : lR fr) (s : ByteArray) (hs : s.size <= 3200) (wp : Bool) (S : Int×ShM) (hst : lL 1000 m.F S.2) (R : List SL.HP)
  (HP : ∀w',own w' (rshL Y.bs Y.A m.F++(ryT Y m++R)) -> Calls Tryz.prog 206 #[.pointer (some ⟨Y.bs,0,none⟩),Y.v,.int .i64 fr,.string s,.bool wp] w' fun e w''=>e = .returned (.int .i64 S.1) /\ Ext w' w'' /\ own w'' (rshL Y.bs Y.A S.2++(ryT Y m++R)))
  (w : World) (H : own w (ryL Y m R)) :
  Calls Tryz.prog 103 #[.pointer (some ⟨Y.y,0,none⟩),.int .i64 fr,.string s,.bool wp] w (za Y (if s.size % 16≠0 \/ lV m.F m.list fr ((s.size / 16 : Nat) : Int)≠0 then (1,m) else (S.1,yN { m with F:=S.2 } fr ((s.size / 16 : Nat) : Int))) R w):=by
 have td:=FT s.size
 have tm:=F8 s.size
 generalize hres : (if s.size % 16≠0 \/ lV m.F m.list fr ((s.size / 16 : Nat) : Int)≠0 then (1,m) else (S.1,yN { m with F:=S.2 } fr ((s.size / 16 : Nat) : Int))) = res
 have hs2 : (s.size : Int) <= 3200:=by omega
 by_cases h16 : s.size % 16 = 0
 ·have d16 : decide ((0 : Int) < (s.size : Int) % 16) = false:=zf (by omega)
  have hwy:=FG hm fr ((s.size / 16 : Nat) : Int)
  have hcr:=zI (hm.sh.sh (by omega)) hm.root
  have HWI:=zh (fun w' (h : own w' (ryL Y m R))=>DS Y.bs Y.A m.F (hm.sh.sh (by omega)) Y.v m.list hm.files hm.list5 fr ((s.size / 16 : Nat) : Int) hfr ⟨by omega,by omega⟩ (ryT Y m++R) w' (QH w' _ h) h)
  have z6:=BE H
  have z12:=AR H
  by_cases hc : 0 <= fr /\ 0 <= ((s.size / 16 : Nat) : Int) /\ fr <= clus m.F m.dk.root * 4 /\ ((s.size / 16 : Nat) : Int) <= clus m.F m.dk.root * 4 - fr
  ·rw [zt hc] at hwy
   rw [zq (by rw [hwy,h16]; rintro (h | h) <;> exact h rfl)] at hres
   rw [hwy] at HWI
   obtain ⟨a,rfl⟩ : ∃a : Nat,fr = (a : Int):=⟨fr.toNat,by omega⟩
   have hab : a + s.size / 16 <= 200:=by omega
   have HP:=zh HP
   have HF:=zh (yokF hm hst)
   have HJ:=zh hm.jok
   have HS:=zh (fun (m' : lf) w' (h : own w' (ryL Y m' R))=>(⟨BE h,AR h⟩ : w'.cell? ⟨Y.y,6,none⟩ = some (.pointer (some ⟨Y.bs,0,none⟩)) /\ w'.cell? ⟨Y.y,12,none⟩ = some Y.v))
   obtain ⟨c,F2⟩:=S
   dsimp only at HP HF hres
   have HRES:=zh hres
   have HB : Hid (s.size / 16 <= 200):=zh (by omega)
   have a0 : (0 : Int) <= (a : Int):=by omega
   have a1 : (a : Int) <= 200:=by omega
   clear hm hfr hres hc hwy hst hcr h16
   go_enter Tryz.func103,Tryz.ntmps103
   go_upto_region 2 with (fail)
   go_quiet ((go_at_call 205; exact Calls.quiet_of (HWI.out _ (by first | exact H | exact lj H | exact ll _ H))))
   have h1:=ll nq H
   have hx1:=(zR w).drewN nq
   clear z6 z12 HWI
   go_upto_region 4 with (fail)
   generalize w.drewN nq = w1 at *
   have hz:=lj h1
   have hxz:=hx1.drew
   have hg : (fun w' : World=>w'.cell? ⟨Y.y,6,none⟩ = some (.pointer (some ⟨Y.bs,0,none⟩)) /\ w'.cell? ⟨Y.y,12,none⟩ = some Y.v) w1.drew:=HS.out _ _ hz
   clear h1 hx1
   go_region_held3 (fun w'=>w'.cell? ⟨Y.y,6,none⟩ = some (.pointer (some ⟨Y.bs,0,none⟩)) /\ w'.cell? ⟨Y.y,12,none⟩ = some Y.v) (exact hg) ((go_at_call 206; refine (HP.out _ hz).mono ?_; rintro e w5 ⟨rfl,hx5,hz'⟩; have hxz:=hxz.trans hx5; have hz:=ry_F HF.out hz'; have hg:=HS.out _ _ hz))
   all_goals
    clear hg
    have H5:=zh hz
    have X5:=zh hxz
    clear hz hxz hx5 hz'
    cases hj : m.job with
    | none=>
     have hd : yN { m with F:=F2 } (a : Int) ((s.size / 16 : Nat) : Int) = { m with F:=F2 }:=Oc { m with F:=F2 } hj _ _
     rw [hd] at HRES
     have cj:=EP H5.out
     rw [show ({ m with F:=F2 } : lf).job = m.job from rfl,hj] at cj
     change World.cell? _ ⟨Y.y,13,none⟩ = some (.pointer none) at cj
     clear hj hd
     go_wp2_with fail
     go_loopw [11] (fun kv wr=>kv = .int .i64 (a : Int) /\ Ext w wr /\ own wr (ryL Y { m with F:=F2 } R) /\ wr.cell? ⟨Y.y,13,none⟩ = some (.pointer none)) (fun _ _=>0)
     case atStart=>exact ⟨rfl,X5.out,H5.out,cj⟩
     case round=>
      clear cj
      obtain ⟨rfl,hxr,hown,cj⟩:=hrel
      go_wp2_with fail
      go_ret
      rw [<- HRES.out]
      exact ⟨Y,rfl,rfl,hxr,hown⟩
    | some j=>
     have hd:=OY { m with F:=F2 } hj a (s.size / 16)
     rw [hd] at HRES
     have h0 : own w5 (ryL Y { m with F:=F2,job:=some (oe j ((a / 4 : Nat) : Int) (cntq a 0)) } R):=by
      have e : ({ m with F:=F2,job:=some (oe j ((a / 4 : Nat) : Int) (cntq a 0)) } : lf) = { m with F:=F2 }:=by
       show ({ m with F:=F2,job:=some j } : lf) = { m with F:=F2 }
       rw [<- hj]
      rw [e]; exact H5.out
     have H0:=zh h0
     have HOK:=zh (HJ.out j hj)
     clear hj hd h0 HJ H5
     generalize hbb : s.size / 16 = b at *
     have hbi : (s.size : Int) / 16 = (b : Int):=by omega
     clear hbb
     go_wp2_with fail
     go_loopw [11] (fun kv wr=>∃q : Nat,q <= b /\ kv = .int .i64 ((a + q : Nat) : Int) /\ Ext w wr /\ own wr (ryL Y { m with F:=F2,job:=some (oe j ((a / 4 : Nat) : Int) (cntq a q)) } R)) (fun kv _=>a + b - (intOf kv).toNat)
     case atStart=>exact ⟨0,Nat.zero_le _,rfl,X5.out,H0.out⟩
     case round=>
      clear H0
      obtain ⟨q,hq,rfl,hxr,hown⟩:=hrel
      have cj:=AI (m:={ m with F:=F2,job:=some (oe j ((a / 4 : Nat) : Int) (cntq a q)) }) rfl hown
      have hb200:=HB.out
      by_cases hlt : q < b
      ·have HD:=zh (OF Y.bs Y.bj Y.vj (oe j ((a / 4 : Nat) : Int) (cntq a q)) (IN (cntq a q) HOK.out _) (((a + q) / 4 : Nat) : Int) _ wr (lp (rshL Y.bs Y.A F2) [lB Y.bs Y.bj Y.vj (oe j ((a / 4 : Nat) : Int) (cntq a q))] (AS (m:={ m with F:=F2,job:=some (oe j ((a / 4 : Nat) : Int) (cntq a q)) }) rfl hown)))
       have HN : Hid (zL (oe j ((a / 4 : Nat) : Int) (cntq a q)) (((a + q) / 4 : Nat) : Int) = oe j ((a / 4 : Nat) : Int) (cntq a (q + 1))):=zh (OZ j a q)
       have HSM : Hid ((oe j ((a / 4 : Nat) : Int) (cntq a (q + 1))).list = (oe j ((a / 4 : Nat) : Int) (cntq a q)).list):=zh ((Cz _ j _).1.trans (Cz _ j _).1.symm)
       have tq:=Qs (a + q)
       have j1 : ((a + q : Nat) : Int) < (a : Int) + (b : Int):=by omega
       have j2 : (0 : Int) <= ((a + q : Nat) : Int):=by omega
       have j3 : ((a + q : Nat) : Int) <= 400:=by omega
       have j6 : (0 : Int) <= (((a + q) / 4 : Nat) : Int):=by omega
       have j7 : (((a + q) / 4 : Nat) : Int) <= 400:=by omega
       have j4 : (0 : Int) <= (b : Int):=by omega
       have j5 : (b : Int) <= 200:=by omega
       generalize hqq : (((a + q) / 4 : Nat) : Int) = qq at *
       generalize hkk : ((a + q : Nat) : Int) = kk at *
       have HKK:=zh hkk
       clear hqq hkk
       go_wp2_with fail
       refine HD.out.mono ?_
       rintro e w6 ⟨rfl,hx6,h6⟩
       rw [HN.out] at h6
       have h7 : own w6 (ryL Y { m with F:=F2,job:=some (oe j ((a / 4 : Nat) : Int) (cntq a (q + 1))) } R):=AH (m:={ m with F:=F2,job:=some (oe j ((a / 4 : Nat) : Int) (cntq a q)) }) rfl HSM.out (fun _ _=>Iff.rfl) (lp [lB Y.bs Y.bj Y.vj (oe j ((a / 4 : Nat) : Int) (cntq a (q + 1)))] (rshL Y.bs Y.A F2) h6)
       go_wp2_with fail
       go_roundw
       case rel=>exact ⟨q + 1,by omega,congrArg (Value.int .i64) (by have:=HKK.out; omega),hxr.trans hx6,h7⟩
       case measure=>
        have:=HKK.out
        show a + b - (kk + 1).toNat < a + b - kk.toNat
        omega
      ·obtain rfl : q = b:=by omega
       have j1 : ¬((a + q : Nat) : Int) < (a : Int) + (q : Int):=by omega
       have j4 : (0 : Int) <= (q : Int):=by omega
       have j5 : (q : Int) <= 200:=by omega
       go_wp2_with fail
       go_ret
       rw [<- HRES.out]
       exact ⟨Y,rfl,rfl,hxr,hown⟩
  ·rw [zq hc] at hwy
   rw [zt (.inr (by rw [hwy]; decide))] at hres
   rw [hwy] at HWI
   subst hres
   clear hm hfr hc hwy hcr h16
   go_enter Tryz.func103,Tryz.ntmps103
   go_upto_region 2 with (fail)
   go_quiet ((go_at_call 205; exact Calls.quiet_of (HWI.out _ (by first | exact H | exact lj H | exact ll _ H))))
   go_wp2_with fail
   go_ret
   exact ⟨Y,rfl,rfl,(zR w).drewN _,ll _ H⟩
 ·have d16 : decide ((0 : Int) < (s.size : Int) % 16) = true:=zg (by omega)
  rw [zt (.inl h16)] at hres
  subst hres
  clear hm hfr h16 hst HP
  go_enter Tryz.func103,Tryz.ntmps103
  go_upto_region 2 with (fail)
  go_quiet (fail)
  go_wp2_with fail
  go_ret
  exact ⟨Y,rfl,rfl,(zR w).drewN _,ll _ H⟩
theorem UH (N : Nat) (Y : RA) (m : lf) (hm : YOk N m) (hN : N + 1000 < 900000) (fr : Int) (hfr : lR fr) (s : ByteArray) (hs : s.size <= 3200) (R : List SL.HP) (w : World) (H : own w (ryL Y m R)) :
  Calls Tryz.prog 103 #[.pointer (some ⟨Y.y,0,none⟩),.int .i64 fr,.string s,.bool false] w (za Y (zQ m fr s) R w):=
 NV N Y m hm hN fr hfr s hs false (putM m.F m.list fr s) (Fz hm.sh (FC hm) (by omega) fr s hs) R
  (fun w' h=>U5 Y.bs Y.A m.F N hm.sh (by omega) Y.v m.list hm.files hm.list5 fr hfr s hs (ryT Y m++R) w' QH h) w H
theorem Qg (N : Nat) (Y : RA) (m : lf) (hm : YOk N m) (hN : N + 1000 < 900000) (fr : Int) (hfr : lR fr) (nn : Nat) (hnn : nn <= 200) (s : ByteArray) (hsz : s.size = 16 * nn) (R : List SL.HP) (w : World) (H : own w (ryL Y m R)) :
  Calls Tryz.prog 103 #[.pointer (some ⟨Y.y,0,none⟩),.int .i64 fr,.string s,.bool true] w (za Y (Aa m fr (nn : Int)) R w):=by
 have h:=NV N Y m hm hN fr hfr s (by omega) true (zM m.F m.list fr (nn : Int)) (Ev hm.sh (FC hm) (by omega) fr (nn : Int) (by omega)) R
  (fun w' h=>TB Y.bs Y.A m.F N hm.sh (by omega) Y.v m.list hm.files hm.list5 fr hfr nn hnn s hsz (ryT Y m++R) w' QH h) w H
 have e1 : s.size / 16 = nn:=by omega
 have e2 : s.size % 16 = 0:=by omega
 rw [e1,e2] at h
 have e3 : (if (0 : Nat)≠0 \/ lV m.F m.list fr (nn : Int)≠0 then ((1 : Int),m) else ((zM m.F m.list fr (nn : Int)).1,yN { m with F:=(zM m.F m.list fr (nn : Int)).2 } fr (nn : Int))) = Aa m fr (nn : Int):=by
  unfold Aa
  by_cases hw : lV m.F m.list fr (nn : Int)≠0
  ·rw [zt (.inr hw),zt hw]
  ·rw [zq (by rintro (h | h); exact h rfl; exact hw h),zq hw]
 rw [e3] at h
 exact h
theorem Pf (N : Nat) (Y : RA) (m : lf) (hm : YOk N m) (hN : N < 900000) (R : List SL.HP) (w : World) (H : own w (ryL Y m R)) :
  Calls Tryz.prog 107 #[.pointer (some ⟨Y.y,0,none⟩)] w fun e w'=>e = .returned (.tuple #[]) /\ Ext w w' /\ own w' (ryL Y (Ar m) R):=by
 obtain ⟨ao,lb,off,cap,hY,hlc,hcap,hao,-⟩:=(BY H).form
 have HAO:=zh hao
 have HL:=zh hm.files
 have hl5:=hm.list5
 have HYV:=zh hY
 have HW:=zh hm.sh
 have H0:=zh H
 unfold Ar
 clear hao hY hm H
 generalize hll : m.list = l at *
 have HLL:=zh hll
 clear hll
 go_enter Tryz.func107,Tryz.ntmps107
 go_wp2_with fail
 go_loopw [2] (fun iv wr=>∃(q : Nat) (F' : ShM),q <= l.length /\ iv = .int .i64 q /\ oL m.F F' /\ ShW N F' /\ yh F' (l.drop q) = yh m.F l /\ Ext w wr /\ own wr (ryL Y { m with F:=F' } R)) (fun iv _=>l.length - (intOf iv).toNat)
 case atStart=>exact ⟨0,m.F,Nat.zero_le _,rfl,oL.refl _,HW.out,rfl,zR w,H0.out⟩
 case round=>
  clear H0
  obtain ⟨q,F',hq,rfl,hsm,hW,hgo,hxr,hown⟩:=hrel
  have z12:=AR hown
  rw [HYV.out] at z12
  by_cases hlt : q < l.length
  ·obtain rfl:=HAO.out (by omega)
   have j1 : (0 : Int) <= (q : Int):=by omega
   have j2 : (q : Int) < (l.length : Int):=by omega
   have hv:=BY hown
   rw [HYV.out] at hv
   have c1:=oq (l:=m.list) hv (by rw [HLL.out]; exact hlt)
   rw [HLL.out] at c1
   rw [zY 0 hlt,yh] at hgo
   have hfx:=HL.out (l.getD q 0) (by simp [hlt])
   obtain ⟨x,mx,hx,hx5,-⟩:=lT hfx
   obtain ⟨mi,hmi⟩ : ∃mi,F' x = some mi:=by
    have h2:=hsm.file.2 hfx
    rw [hx] at h2
    obtain ⟨-,-,mi,h3⟩:=h2
    exact ⟨mi,by rw [zn] at h3; exact h3⟩
   have HX:=zh hx
   rw [hx] at c1 hgo
   rw [zn] at hgo
   have hfi : AV F' x = put F' x mi.flush:=by unfold AV; rw [hmi]
   have hsm2:=hsm.trans (FH F' x)
   have hW2:=GP hW hx5
   rw [hfi] at hgo hsm2 hW2
   have i1 : (0 : Int) <= (x : Int):=by omega
   have i2 : (x : Int) < 5:=by omega
   have z6:=BE hown
   have cs:=yo hown hx5
   rw [oT hmi] at cs
   have HFL:=zh (fun w' h=>Jm (b:=Y.bs) (A:=Y.A) hx5 hmi (hW.sh hN) (ryT Y { m with F:=F' }++R) w' h)
   have HGO:=zh hgo
   have HS2:=zh hsm2
   have HW2:=zh hW2
   have HP:=zh (fun w' h=>ry_F (Y:=Y) (m:={ m with F:=F' }) (F':=put F' x mi.flush) (R:=R) (w:=w') (fun k hk=>(oL.put (m':=mi.flush) hmi rfl rfl).none hk) h)
   have hz:=lj hown
   clear hgo hsm2 hW2 hfi hfx hx hmi hsm hW hv
   go_upto_region 3 with (fail)
   refine wp_region_held_drew (S:=fun w'=>w'.cell? ⟨Y.y,6,none⟩ = some (.pointer (some ⟨Y.bs,0,none⟩)) /\ w'.cell? ⟨Y.y,12,none⟩ = some (.slice (some ⟨lb,off,none⟩) l.length cap) /\ w'.cell? ⟨lb,off + q,none⟩ = some (.int .i64 (x : Int)) /\ w'.cell? ⟨Y.bs,x,none⟩ = some (.pointer (some ⟨(Y.A x).1,0,none⟩))) (by kernel_rfl) ⟨z6,z12,c1,cs⟩ (fun hHeld=>?_)
   refine tk 0 ?_
   refine tk 1 ?_
   refine tk 2 ?_
   refine tk 3 ?_
   refine tk 4 ?_
   refine tk 5 ?_
   refine tk 6 ?_
   refine tk 7 ?_
   refine tk 8 ?_
   refine tk 9 ?_
   refine tk 10 ?_
   refine tk 11 ?_
   refine tk 12 ?_
   refine tk 13 ?_
   try simp only [Act.put,tA,tB,tC,tD,tE,tF]
   refine rd 14 rfl fun K hK=>?_
   go_simp
   go_at_call 176
   refine (HFL.out _ hz).mono ?_
   rintro e w3 ⟨rfl,hx3,h3⟩
   have h4:=HP.out _ h3
   have y6:=BE h4
   have y12:=AR h4
   rw [HYV.out] at y12
   have hv:=BY h4
   rw [HYV.out] at hv
   have y1:=oq (l:=m.list) hv (by rw [HLL.out]; exact hlt)
   rw [HLL.out,HX.out] at y1
   have ys:=yo h4 hx5
   rw [oT (m:=mi.flush) (zK F' x mi.flush)] at ys
   go_simp
   refine hK.out _ _ ⟨y6,y12,y1,ys⟩ (fun _=>?_)
   clear hK K y6 y12 y1 ys hv
   try simp only [Act.put,tA,tB,tC,tD,tE,tF]
   refine wpAnyH_done (by kernel_rfl) ?_ _
   go_wp2_with fail
   go_roundw
   case rel=>exact ⟨q + 1,put F' x mi.flush,by omega,by go_num,HS2.out,HW2.out,HGO.out,hxr.drew.trans hx3,h4⟩
   case measure=>simp [intOf]; omega
  ·obtain rfl : l.length = q:=by omega
   rw [List.drop_of_length_le (Nat.le_refl _)] at hgo
   replace hgo : F' = yh m.F l:=hgo
   subst hgo
   go_wp2_with fail
   go_end0
   have e:=HLL.out
   subst e
   exact ⟨rfl,hxr,hown⟩
theorem Py (Y : RA) (m : lf) {k : Nat} (hk : k < 5) : (ryC Y m)[k]? = some (.pointer (some ⟨(Y.A k).2,0,none⟩)):=by
 match k,hk with
 | 0,_=>rfl
 | 1,_=>rfl
 | 2,_=>rfl
 | 3,_=>rfl
 | 4,_=>rfl
theorem Jn (N : Nat) (Y : RA) (m : lf) (hm : YOk N m) (hN : N < 900000) (file back : Int) (R : List SL.HP) (w : World) (H : own w (ryL Y m R)) :
  Calls Tryz.prog 109 #[.pointer (some ⟨Y.y,0,none⟩),.int .i64 file,.int .i64 back] w (za Y (oB m file back) R w):=by
 have HB:=zh (Bh Y m R w H)
 have hl5:=hm.list5
 generalize hres : oB m file back = res
 unfold oB at hres
 by_cases hb : file < 0 \/ 5 <= file
 ·rw [zt hb] at hres
  subst hres
  by_cases q1 : file < 0
  ·go_enter Tryz.func109,Tryz.ntmps109
   go_wp2_with fail
   go_ret
   exact ⟨Y,rfl,rfl,zR w,H⟩
  ·have q2 : 5 <= file:=by omega
   clear hb
   go_enter Tryz.func109,Tryz.ntmps109
   go_wp2_with fail
   go_ret
   exact ⟨Y,rfl,rfl,zR w,H⟩
 ·rw [zq hb] at hres
  obtain ⟨k,rfl⟩ : ∃k : Nat,file = (k : Int):=⟨file.toNat,by omega⟩
  have hk : k < 5:=by omega
  have q1 : ¬((k : Int) < 0):=by omega
  have q2 : ¬(5 <= (k : Int)):=by omega
  have q3 : (0 : Int) <= (k : Int):=by omega
  have q4 : (k : Int) < 5:=by omega
  clear hb
  rw [zn] at hres
  have HRES:=zh hres
  have cl:=AR H
  have cf:=Cr H
  obtain ⟨ao,lb,off,cap,hY,hlc,hcap,hao,hat⟩:=(BY H).form
  rw [hY] at cl
  have HAO:=zh hao
  have HAT:=zh hat
  have HUS : Hid (Dk m (k : Int) = (decide ((k : Int)∈m.list) || (y8 m && decide (m.dk.file = (k : Int))))):=zh rfl
  obtain ⟨r,mr,hxr,hr,hFr⟩:=lT hm.root
  have hcl : clus m.F m.dk.root = mr.c:=by rw [hxr]; exact yr hFr
  obtain ⟨dok,dw,dp⟩:=hm.devOf hk
  have hcr:=zI (hm.sh.sh hN) hm.root
  rw [hcl] at hcr
  have hcn : ((mr.c.toNat : Nat) : Int) = mr.c:=by omega
  have hro:=fun w'=>Bf mr.c.toNat (by omega) w'
  rw [hcn] at hro
  have hnl : (devOf m k).fl.length <= 1000000:=by have:=dok.n; omega
  have hrn : ls mr.c.toNat <= 1000000:=by unfold ls; omega
  have hpl : Ae mr.c (devOf m k) = Int.tdiv (((devOf m k).fl.length : Int) - 1 - (ls mr.c.toNat : Nat)) 4:=rfl
  have hbl : yY m k back = oD (devOf m k) mr.c (Ae mr.c (devOf m k)) back:=by unfold yY; rw [hcl]
  rw [hbl] at HRES
  have HCR:=zh (fun R' w' (h : own w' (ryL Y m R'))=>Jb (Y.A k).2 (devOf m k) dok (by omega) (by omega) mr.c (Ae mr.c (devOf m k)) back _ w' (JH hk h))
  have hcode:=EQ (devOf m k) mr.c (Ae mr.c (devOf m k)) back
  have HDV:=zh (fun w' R' (h : own w' (ryL Y m R'))=>AL (JH hk h))
  have HC : ∀w' R',own w' (ryL Y m R') -> w'.cell? ⟨Y.y,6,none⟩ = some (.pointer (some ⟨Y.bs,0,none⟩)) /\ w'.cell? ⟨Y.y,7,none⟩ = some (.int .i64 (r : Int)) /\ w'.cell? ⟨Y.bs,r,none⟩ = some (.pointer (some ⟨(Y.A r).1,0,none⟩)):=fun w' R' h=>⟨BE h,by rw [<- hxr]; exact zC h,by rw [yo h hr,oT hFr]⟩
  have r0 : (0 : Int) <= (r : Int):=by omega
  have r5 : (r : Int) < 5:=by omega
  have HC:=zh HC
  unfold lM at HCR
  generalize hpv : Ae mr.c (devOf m k) = pl at *
  generalize oD (devOf m k) mr.c pl back = S at *
  generalize hus : Dk m (k : Int) = us at *
  clear hres hao hat hbl hcn hm hcl dok dw dp hY
  have H0:=zh H
  generalize hbz : y8 m = bz at *
  generalize hdf : m.dk.file = df at *
  generalize hll : m.list = l at *
  go_enter Tryz.func109,Tryz.ntmps109
  go_wp2_with fail
  refine HB.out.mono ?_
  rintro e w0 ⟨rfl,rfl⟩
  have HS0 : Hid (us = ((bz && decide (df = (k : Int))) || decide ((k : Int)∈l.drop 0))):=zh (by rw [HUS.out,Bool.or_comm]; rfl)
  clear HUS HB
  have hlc2:=hlc
  generalize hn : (devOf m k).fl.length = n at *
  generalize hrn' : ls mr.c.toNat = rn at *
  have n0 : (0 : Int) <= (n : Int):=by omega
  have n1 : (n : Int) <= 1000000:=by omega
  have m0 : (0 : Int) <= (rn : Int):=by omega
  have m1 : (rn : Int) <= 1000000:=by omega
  have HRO:=zh hro
  have e1 : IntKind.i64.wrap ((n : Int) - 1) = (n : Int) - 1:=zi _ (by omega)
  have e2 : IntKind.i64.wrap ((n : Int) - 1 - (rn : Int)) = (n : Int) - 1 - (rn : Int):=zi _ (by omega)
  have e3 : IntKind.i64.wrap (((n : Int) - 1 - (rn : Int)).tdiv 4) = ((n : Int) - 1 - (rn : Int)).tdiv 4:=zi _ (by
   have h4 : (((n : Int) - 1 - (rn : Int)).tdiv 4).natAbs = ((n : Int) - 1 - (rn : Int)).natAbs / 4:=Int.natAbs_tdiv _ _
   omega)
  have HPL:=zh hpl
  clear hro hpl hpv hn hrn'
  have hdd : (df == (k : Int)) = true /\ decide (df = (k : Int)) = true \/ (df == (k : Int)) = false /\ decide (df = (k : Int)) = false:=by
   by_cases hdk : df = (k : Int)
   ·exact Or.inl ⟨by rw [hdk]; simp,zg hdk⟩
   ·exact Or.inr ⟨by rw [zb]; exact hdk,zf hdk⟩
  cases bz
  case' true=>
   rcases hdd with ⟨d1,hdd⟩ | ⟨d1,hdd⟩
   all_goals rw [hdd] at HS0
  all_goals
   clear hdd
   go_wp2_with fail
   go_loop [8,9] (fun u i=>∃(q : Nat) (b : Bool),q <= l.length /\ u = .bool b /\ i = .int .i64 q /\ us = (b || decide ((k : Int)∈l.drop q))) (fun u i=>l.length - (intOf i).toNat)
   case atStart=>exact ⟨0,_,Nat.zero_le _,rfl,rfl,HS0.out⟩
   case round=>
    clear HS0
    obtain ⟨q,b,hq,rfl,rfl,hgo⟩:=hrel
    by_cases hlt : q < l.length
    ·obtain rfl:=HAO.out (by omega)
     have j1 : (0 : Int) <= (q : Int):=by omega
     have j2 : (q : Int) < (l.length : Int):=by omega
     cases b with
     | true=>
      have HGO : Hid (us = true):=zh (by rw [hgo]; rfl)
      clear hgo
      go_wp2_with fail
      go_round
      case rel=>exact ⟨q + 1,true,by omega,rfl,by go_num,by rw [HGO.out]; rfl⟩
      case measure=>simp [intOf]; omega
     | false=>
      have c1:=HAT.out q hlt
      rw [zY 0 hlt] at hgo
      generalize l.getD q 0 = x at *
      by_cases hx : x = (k : Int)
      ·have d0 : (x == (k : Int)) = true:=by rw [hx]; simp
       have HGO : Hid (us = true):=zh (by rw [hgo,hx]; simp)
       clear hgo hx
       go_wp2_with fail
       go_round
       case rel=>exact ⟨q + 1,true,by omega,rfl,by go_num,by rw [HGO.out]; rfl⟩
       case measure=>simp [intOf]; omega
      ·have d0 : (x == (k : Int)) = false:=by rw [zb]; exact hx
       have HGO : Hid (us = (false || decide ((k : Int)∈l.drop (q + 1)))):=zh (by rw [hgo]; simp [List.mem_cons,Ne.symm hx])
       clear hgo hx
       go_wp2_with fail
       go_round
       case rel=>exact ⟨q + 1,false,by omega,rfl,by go_num,HGO.out⟩
       case measure=>simp [intOf]; omega
    ·obtain rfl : l.length = q:=by omega
     rw [List.drop_of_length_le (Nat.le_refl _)] at hgo
     replace hgo : us = b:=by rw [hgo]; simp
     subst hgo
     clear hq hlt
     cases us with
     | true=>
      rw [zt rfl] at HRES
      go_wp2_with fail
      go_ret
      rw [<- HRES.out]
      exact ⟨Y,rfl,rfl,zR _,H0.out⟩
     | false=>
      rw [zq (by decide)] at HRES
      have H:=H0.out
      obtain ⟨z6,z7,zr⟩:=HC.out w R H
      obtain ⟨-,-,-,x1,-,-,-,-,-⟩:=A7 hr hFr H
      go_upto_region 11 with (fail)
      go_quiet (fail)
      have h1:=ll nq H
      have hx1:=(zR w).drewN nq
      clear z6 z7 zr x1 H
      go_upto_region 12 with (fail)
      generalize w.drewN nq = w1 at *
      obtain ⟨vf,va,vw,ho⟩:=HDV.out _ _ h1
      obtain ⟨fao,fg,fcap,rfl,fr1,fr2,-⟩:=lk 1 ho rfl
      have dv:=D5 h1 hk
      have df:=(ld 0 ho rfl).1 0
      refine wp_region_held_drew (S:=fun w'=>w'.cell? ⟨Y.y,k,none⟩ = some (.pointer (some ⟨(Y.A k).2,0,none⟩)) /\ w'.cell? ⟨(Y.A k).2,0,none⟩ = some (.slice fao n fcap)) (by kernel_rfl) ⟨dv,df⟩ (fun hHeld=>?_)
      refine tk 0 ?_
      refine tk 1 ?_
      refine tk 2 ?_
      refine tk 3 ?_
      refine tk 4 ?_
      refine tk 5 ?_
      refine tk 6 ?_
      refine tk 7 ?_
      refine tk 8 ?_
      refine tk 9 ?_
      refine tk 10 ?_
      refine tk 11 ?_
      refine tk 12 ?_
      refine tk 13 ?_
      try simp only [Act.put,tA,tB,tC,tD,tE,tF]
      refine wpAnyH_ready (rs:=[14,18]) (by kernel_rfl) (by simp) ?_
      refine AllReadyH.cons rfl (fun K hK=>?_) (AllReadyH.cons rfl (fun K hK=>?_) AllReadyH.nil)
      all_goals
       try
        go_simp
        go_at_call 161
        refine (HRO.out _).mono ?_
        rintro e w2 ⟨rfl,rfl⟩
        go_simp
        refine hK.out _ _ ⟨dv,df⟩ (fun _=>?_)
        clear hK K
        try simp only [Act.put,tA,tB,tC,tD,tE,tF]
        refine tk 15 ?_
        refine tk 16 ?_
        refine tk 17 ?_
        try simp only [Act.put,tA,tB,tC,tD,tE,tF]
        rw [<- HPL.out]
        refine rd 18 rfl fun K hK=>?_
       have h3:=lj (IG (.cells #[.int .i64 0,.int .i64 0,.int .i64 0] 103) h1)
       have hx3:=(hx1.alloc (.cells #[.int .i64 0,.int .i64 0,.int .i64 0] 103)).drew
       have ho3:=lj (li ho (.cells #[.int .i64 0,.int .i64 0,.int .i64 0] 103))
       go_simp
       refine hK.out _ _ ⟨D5 h3 hk,(ld 1 ho3 rfl).1 0⟩ (fun _=>?_)
       clear hK K dv df
       try simp only [Act.put,tA,tB,tC,tD,tE,tF]
       generalize w1.heap.size = g at *
       generalize (w1.alloc (.cells #[.int .i64 0,.int .i64 0,.int .i64 0] 103)).drew = w3 at *
       have dv:=D5 h3 hk
       have df:=(ld 1 ho3 rfl).1 0
       try
        refine rd 14 rfl fun K hK=>?_
        go_simp
        go_at_call 161
        refine (HRO.out _).mono ?_
        rintro e w2 ⟨rfl,rfl⟩
        go_simp
        refine hK.out _ _ ⟨dv,df⟩ (fun _=>?_)
        clear hK K
        try simp only [Act.put,tA,tB,tC,tD,tE,tF]
        refine tk 15 ?_
        refine tk 16 ?_
        refine tk 17 ?_
        try simp only [Act.put,tA,tB,tC,tD,tE,tF]
        rw [<- HPL.out]
       refine rd 19 rfl fun K hK=>?_
       clear dv df
       have c0:=(ld 15 h3 rfl).1 0
       have c1:=(ld 15 h3 rfl).1 1
       have c2:=(ld 15 h3 rfl).1 2
       have f3:=(ld 15 h3 rfl).2
       have h4:=lg (i:=2) (v:=.int .i64 back) 15 (lg (i:=1) (v:=.int .i64 pl) 15 (lg (i:=0) (v:=.int .i64 mr.c) 15 h3 rfl) rfl) rfl
       have h5 : own _ (ryL Y m (pts g (.cells #[.int .i64 mr.c,.int .i64 pl,.int .i64 back] 103 (0,0))::R)):=h4
       have ho5:=(ld 1 (lg (i:=2) (v:=.int .i64 back) 0 (lg (i:=1) (v:=.int .i64 pl) 0 (lg (i:=0) (v:=.int .i64 mr.c) 0 ho3 rfl) rfl) rfl) rfl).1 0
       have hx5:=((hx3.setCell (⟨g,0,none⟩ : Addr) (.int .i64 mr.c)).setCell (⟨g,1,none⟩ : Addr) (.int .i64 pl)).setCell (⟨g,2,none⟩ : Addr) (.int .i64 back)
       have dv:=D5 h5 hk
       go_simp
       refine hK.out _ _ ⟨dv,ho5⟩ (fun _=>?_)
       clear hK K c0 c1 c2 f3 h4 h3 hx3 ho3 ho5 dv ho h1 hx1
       try simp only [Act.put,tA,tB,tC,tD,tE,tF]
       refine wpAnyH_done (by kernel_rfl) ?_ _
       generalize ((w3.setCell ⟨g,0,none⟩ (.int .i64 mr.c)).setCell ⟨g,1,none⟩ (.int .i64 pl)).setCell ⟨g,2,none⟩ (.int .i64 back) = w5 at *
       have dv:=D5 h5 hk
       have g0:=(ld 15 h5 rfl).1 0
       have g1:=(ld 15 h5 rfl).1 1
       have g2:=(ld 15 h5 rfl).1 2
       have hz:=lj h5
       have hxz:=hx5.drew
       go_upto_region 13 with (fail)
       refine wp_region_held_drew (S:=fun w'=>w'.cell? ⟨Y.y,k,none⟩ = some (.pointer (some ⟨(Y.A k).2,0,none⟩)) /\ w'.cell? ⟨g,0,none⟩ = some (.int .i64 mr.c) /\ w'.cell? ⟨g,1,none⟩ = some (.int .i64 pl) /\ w'.cell? ⟨g,2,none⟩ = some (.int .i64 back)) (by kernel_rfl) ⟨dv,g0,g1,g2⟩ (fun hHeld=>?_)
       refine tk 0 ?_
       refine tk 1 ?_
       refine tk 2 ?_
       refine tk 3 ?_
       refine tk 4 ?_
       refine tk 5 ?_
       refine tk 6 ?_
       try simp only [Act.put,tA,tB,tC,tD,tE,tF]
       refine rd 7 rfl fun K hK=>?_
       go_simp
       go_at_call 63
       refine (HCR.out _ _ hz).mono ?_
       rintro e w10 hpost
       have h6 : (((ryL Y m (pts g (.cells #[.int .i64 mr.c,.int .i64 pl,.int .i64 back] 103 (0,0))::R)).set (1 + k) emp).set (7 + k) emp)[6]? = some (pts Y.y (.cells (ryC Y m) 171 (0,0))):=by rw [List.getElem?_set_ne (by omega),List.getElem?_set_ne (by omega)]; rfl
       have h0 : (((ryL Y m (pts g (.cells #[.int .i64 mr.c,.int .i64 pl,.int .i64 back] 103 (0,0))::R)).set (1 + k) emp).set (7 + k) emp)[0]? = some (pts Y.bs (.cells (oI Y.A m.F) 114 (0,0))):=by rw [List.getElem?_set_ne (by omega),List.getElem?_set_ne (by omega)]; rfl
       have h15 : (((ryL Y m (pts g (.cells #[.int .i64 mr.c,.int .i64 pl,.int .i64 back] 103 (0,0))::R)).set (1 + k) emp).set (7 + k) emp)[15]? = some (pts g (.cells #[.int .i64 mr.c,.int .i64 pl,.int .i64 back] 103 (0,0))):=by rw [List.getElem?_set_ne (by omega),List.getElem?_set_ne (by omega)]; rfl
       rcases hpost with ⟨hc,rfl,hx10,h10⟩ | ⟨hc,bi,rfl,hx10,h10⟩
       ·skip
        have z1 : w10.cell? ⟨Y.y,k,none⟩ = some (.pointer (some ⟨(Y.A k).2,0,none⟩)):=by rw [(ld 7 h10 h6).1 k]; exact Py Y m hk
        have z2:=(ld 16 h10 h15).1
        go_simp
        refine hK.out _ _ ⟨z1,z2 0,z2 1,z2 2⟩ (fun _=>?_)
        clear hK K z1 z2 dv g0 g1 g2
        try simp only [Act.put,tA,tB,tC,tD,tE,tF]
        refine tk 8 ?_
        refine tk 9 ?_
        refine tk 10 ?_
        refine tk 11 ?_
        refine tk 12 ?_
        try simp only [Act.put,tA,tB,tC,tD,tE,tF]
        refine wpAnyH_done (by kernel_rfl) ?_ _
        rw [zt hc] at HRES
        have cb : w10.cell? ⟨Y.y,6,none⟩ = some (.pointer (some ⟨Y.bs,0,none⟩)):=(ld 7 h10 h6).1 6
        have fs : w10.frozen? ⟨Y.bs,k,none⟩ = false:=(ld 1 h10 h0).2 k
        have cs : ∃v,w10.cell? ⟨Y.bs,k,none⟩ = some v:=by
         rw [(ld 1 h10 h0).1 k]
         unfold oI
         exact ⟨_,Array.getElem?_eq_getElem (by simp; omega)⟩
        obtain ⟨vs,cs⟩:=cs
        have h11:=Sj (Y:=Y) hk h10
        have hx11:=(hxz.trans hx10).setCell (⟨Y.bs,k,none⟩ : Addr) (.pointer none)
        clear h0 h6 h15 h10 hz hxz hx10
        go_wp2_with fail
        go_ret
        rw [<- HRES.out]
        subst hll
        exact ⟨Y,rfl,rfl,hx11,zB h11⟩
       ·skip
        have z1 : w10.cell? ⟨Y.y,k,none⟩ = some (.pointer (some ⟨(Y.A k).2,0,none⟩)):=by rw [(ld 8 h10 h6).1 k]; exact Py Y m hk
        have z2:=(ld 17 h10 h15).1
        go_simp
        refine hK.out _ _ ⟨z1,z2 0,z2 1,z2 2⟩ (fun _=>?_)
        clear hK K z1 z2 dv g0 g1 g2
        try simp only [Act.put,tA,tB,tC,tD,tE,tF]
        refine tk 8 ?_
        refine tk 9 ?_
        refine tk 10 ?_
        refine tk 11 ?_
        refine tk 12 ?_
        try simp only [Act.put,tA,tB,tC,tD,tE,tF]
        refine wpAnyH_done (by kernel_rfl) ?_ _
        rw [zq (by rw [hc]; decide)] at HRES
        have cb : w10.cell? ⟨Y.y,6,none⟩ = some (.pointer (some ⟨Y.bs,0,none⟩)):=(ld 8 h10 h6).1 6
        have fs : w10.frozen? ⟨Y.bs,k,none⟩ = false:=(ld 2 h10 h0).2 k
        have cs : ∃v,w10.cell? ⟨Y.bs,k,none⟩ = some v:=by
         rw [(ld 2 h10 h0).1 k]
         unfold oI
         exact ⟨_,Array.getElem?_eq_getElem (by simp; omega)⟩
        obtain ⟨vs,cs⟩:=cs
        have h11:=QB (Y:=Y) hk h10
        have hx11:=(hxz.trans hx10).setCell (⟨Y.bs,k,none⟩ : Addr) (.pointer (some ⟨bi,0,none⟩))
        clear h0 h6 h15 h10 hz hxz hx10
        go_wp2_with fail
        go_ret
        rw [<- HRES.out]
        subst hll
        exact ⟨Y.stA k bi,rfl,rfl,hx11,zB h11⟩
theorem QV (N : Nat) (Y : RA) (m : lf) (hm : YOk N m) (hN : N < 900000) (file : Int) (R : List SL.HP) (w : World) (H : own w (ryL Y m R)) :
  Calls Tryz.prog 111 #[.pointer (some ⟨Y.y,0,none⟩),.int .i64 file] w (za Y (Bt m file) R w):=by
 have HB:=zh (Bh Y m R w H)
 generalize hres : Bt m file = res
 unfold Bt at hres
 cases hb : y8 m with
 | true=>
  rw [zt hb] at hres
  subst hres
  rw [hb] at HB
  clear hb
  go_enter Tryz.func111,Tryz.ntmps111
  go_wp2_with fail
  refine HB.out.mono ?_
  rintro e w' ⟨rfl,rfl⟩
  go_wp2_with fail
  go_ret
  exact ⟨Y,rfl,rfl,zR _,H⟩
 | false=>
  rw [zq (by rw [hb]; decide)] at hres
  rw [hb] at HB
  obtain ⟨ao,lb,off,cap,hY,hlc,hcap,hao,-⟩:=(BY H).form
  have cl:=AR H
  rw [hY] at cl
  have hl5:=hm.list5
  by_cases h4 : m.list.length = 4
  ·rw [zt h4] at hres
   subst hres
   rw [h4] at cl
   clear hb h4
   go_enter Tryz.func111,Tryz.ntmps111
   go_wp2_with fail
   refine HB.out.mono ?_
   rintro e w' ⟨rfl,rfl⟩
   go_wp2_with fail
   go_ret
   exact ⟨Y,rfl,rfl,zR _,H⟩
  ·rw [zq h4] at hres
   have d4 : ((m.list.length : Int) == 4) = false:=by rw [zb]; omega
   have cr:=zC H
   have HBL:=zh (Jn N Y m hm hN file m.dk.root R w H)
   have hcode:=DW m file m.dk.root
   have htop:=KM m file m.dk.root
   have hlist:=Jv m file m.dk.root
   have hrg:=@Il m file m.dk.root
   have htw:=hm.tp.2.1
   have htp:=hm.tp.2.2.1
   have hto:=hm.tp.1
   generalize oB m file m.dk.root = B at *
   obtain ⟨c,m1⟩:=B
   dsimp only at hcode htop hlist hrg hres
   have HRES:=zh hres
   have HRG:=zh hrg
   clear hb h4 hres hrg hm
   go_enter Tryz.func111,Tryz.ntmps111
   go_wp2_with fail
   refine HB.out.mono ?_
   rintro e w' ⟨rfl,rfl⟩
   go_wp2_with fail
   refine HBL.out.mono ?_
   rintro e w2 ⟨Y2,hy2,rfl,hx2,h2⟩
   dsimp only at h2
   clear cl cr d4
   by_cases hc : c = 0
   ·have hrg:=HRG.out hc
    subst hc
    rw [zq (by decide)] at HRES
    have HN:=zh (fun R' w' h=>Dq file R' w' h)
    have HW:=zh (fun w' h=>Bo Y2 m1 (by rw [htop]; exact hto) (by rw [htop]; omega) (by rw [htop]; omega) (lz file) (BQ hrg.1 hrg.2) R w' h)
    rw [hy2] at HW
    have hwc:=Ag m1 (lz file)
    have hwl:=Jc m1 (lz file)
    generalize lw m1 (lz file) = W at *
    obtain ⟨wc,m2⟩:=W
    dsimp only at hwc hwl HW HRES
    dsimp only
    clear HRG hrg htw htp hto
    go_wp2_with fail
    refine (HN.out _ _ h2).mono ?_
    rintro e w3 ⟨rfl,hx3,h3⟩
    go_wp2_with fail
    refine (HW.out _ h3).mono ?_
    rintro e w4 ⟨rfl,hx4,h4⟩
    by_cases hwz : wc = 0
    ·subst hwz
     rw [zq (by decide)] at HRES
     have hll : m2.list = m.list:=hwl.trans hlist
     have hv:=BY h4
     obtain ⟨ao2,lb2,off2,cap2,hY2,-,-,hao2,-⟩:=hv.form
     have ha:=li h4 (.cells #[.int .i64 file] 3)
     have hxa:=(((hx2.trans hx3).trans hx4)).alloc (.cells #[.int .i64 file] 3)
     have hb : own _ (row 3 1 (.slice (some ⟨w4.heap.size,0,none⟩) 1 1) 1 [.int .i64 file]::ryL Y2 m2 R):=yD (cap:=1) (n:=1) (sz:=1) 0 ha rfl (Nat.le_refl _) (by decide) rfl rfl
     have hvb:=BY (Eb hb)
     rw [hY2,hll] at hvb
     rw [hll] at hao2
     have cl:=AR (Eb hb)
     rw [hY2,hy2,hll] at cl
     have hm5 : 1 + m.list.length <= maxLen:=by simp only [maxLen]; omega
     have HNW:=zh (Iv hvb)
     have HAO2:=zh hao2
     clear hvb hao2 h2 h3 ha
     go_wp2_with (first | (at_builtin; refine lD rfl _ _ 95 rfl 0 3 Tryz.underlying95 Cb rfl (by decide) rfl hb rfl ao2 m.list.length cap2 (lo m.list) rfl (by simp [lo]) HNW.out (fun h=>by by_cases h0 : 0 < m.list.length; exact absurd (HAO2.out h0) (by rw [h]; simp); omega) (JS _) hm5 (by omega) ?_))
     intro v' w5 h5 hx5
     have hlen : (file::m.list).length = 1 + m.list.length:=by rw [List.length_cons]; omega
     have h6 : own w5 (ryL Y2 m2 (row 3 1 v' (file::m.list).length (lo (file::m.list))::R)):=by
      have:=Eb h5
      rw [hlen]
      exact this
     obtain ⟨vo,vb,vof,vcap,rfl,-,-,-,-⟩:=(l9 15 h6 rfl).form
     clear cl
     have cl:=AR h6
     have fl:=A5 h6 12
     have h7:=FL h6
     rw [hy2] at cl fl
     have hx7:=(hxa.trans hx5).setCell (⟨Y.y,12,none⟩ : Addr) (.slice vo (file::m.list).length vcap)
     clear h5 h6 hb hlen
     go_wp2_with fail
     go_ret
     rw [<- HRES.out]
     exact ⟨{ Y2 with v:=.slice vo (file::m.list).length vcap },hy2,rfl,hx7,by rw [<- hy2]; exact h7⟩
    ·rw [zt hwz] at HRES
     have hpos : 0 < wc:=by omega
     clear hwz
     go_wp2_with fail
     go_ret
     rw [<- HRES.out]
     exact ⟨Y2,hy2,rfl,(hx2.trans hx3).trans hx4,h4⟩
   ·rw [zt hc] at HRES
    dsimp only
    have hpos : 0 < c:=by omega
    clear hc
    go_wp2_with fail
    go_ret
    rw [<- HRES.out]
    exact ⟨Y2,hy2,rfl,hx2,h2⟩
theorem GY {Y : RA} {m : lf} {j : JobM} {bj : Nat} {v : Value} {R : List SL.HP} {w : World}
  (H : own w (ryL Y m (lB Y.bs bj v j::(row 3 1 v j.list.length (lo j.list)::R)))) :
  own (w.setCell ⟨Y.y,13,none⟩ (.pointer (some ⟨bj,0,none⟩))) (ryL { Y with bj:=bj,vj:=v } { m with job:=some j } R):=by
 have h1:=lg (i:=13) (v:=.pointer (some ⟨bj,0,none⟩)) 6 H rfl
 have h2:=lh 14 h1 rfl
 have h3 : own (w.setCell ⟨Y.y,13,none⟩ (.pointer (some ⟨bj,0,none⟩))) ((ryL { Y with bj:=bj,vj:=v } { m with job:=some j } R).take 14++([lB Y.bs bj v j,row 3 1 v j.list.length (lo j.list)]++R)):=h2
 have h4:=lp _ [lB Y.bs bj v j,row 3 1 v j.list.length (lo j.list)] h3
 have h5:=yK [lB Y.bs bj v j,row 3 1 v j.list.length (lo j.list)] h4
 exact lr ((ryL { Y with bj:=bj,vj:=v } { m with job:=some j } R).take 14) h5
theorem OD (N : Nat) (Y : RA) (m : lf) (hm : YOk N m) (hN : N < 900000) (kind file rate burst : Int) (R : List SL.HP) (w : World) (H : own w (ryL Y m R)) :
  Calls Tryz.prog 112 #[.pointer (some ⟨Y.y,0,none⟩),.int .i64 kind,.int .i64 file,.int .i64 rate,.int .i64 burst] w (za Y (AC m kind file rate burst) R w):=by
 have HB:=zh (Bh Y m R w H)
 generalize hres : AC m kind file rate burst = res
 unfold AC at hres
 cases hb : y8 m with
 | true=>
  rw [zt hb] at hres
  subst hres
  rw [hb] at HB
  clear hb
  go_enter Tryz.func112,Tryz.ntmps112
  go_wp2_with fail
  refine HB.out.mono ?_
  rintro e w' ⟨rfl,rfl⟩
  go_wp2_with fail
  go_ret
  exact ⟨Y,rfl,rfl,zR _,H⟩
 | false=>
  rw [zq (by rw [hb]; decide)] at hres
  rw [hb] at HB
  have cr:=zC H
  have h1:=IG (.cells #[.int .i64 m.dk.root,.int .i64 kind,.int .i64 file,.int .i64 rate,.int .i64 burst] 24) H
  have hx1:=(zR w).alloc (.cells #[.int .i64 m.dk.root,.int .i64 kind,.int .i64 file,.int .i64 rate,.int .i64 burst] 24)
  have HRES:=zh hres
  have HM:=zh hm
  clear hb hres hm
  by_cases hk : kind = 0
  ·have d0 : (kind == 0) = true:=by rw [hk]; rfl
   rw [zt hk] at HRES
   clear hk cr
   go_enter Tryz.func112,Tryz.ntmps112
   go_wp2_with fail
   refine HB.out.mono ?_
   rintro e w' ⟨rfl,rfl⟩
   go_wp2_with fail
   go_ret
   rw [<- HRES.out]
   exact ⟨Y,rfl,rfl,zR _,H⟩
  ·have d0 : (kind == 0) = false:=by rw [zb]; exact hk
   rw [zq hk] at HRES
   have HCD:=zh (fun R' w' h=>G6 m.dk.root kind file rate burst R' w' h)
   have hdc:=Gi m.dk.root kind file rate burst
   have HK:=zh hk
   have c0:=(ld 15 h1 rfl).1 0
   have c1:=(ld 15 h1 rfl).1 1
   have c2:=(ld 15 h1 rfl).1 2
   have c3:=(ld 15 h1 rfl).1 3
   have c4:=(ld 15 h1 rfl).1 4
   unfold o8 at HCD
   have HDF : Hid ((lI.mk m.dk.root kind file rate burst).f = yg m.dk.root kind file rate burst):=zh rfl
   generalize hdf : yg m.dk.root kind file rate burst = df at *
   clear hk hdf c0 c1 c2 c3 c4
   go_enter Tryz.func112,Tryz.ntmps112
   go_wp2_with fail
   refine HB.out.mono ?_
   rintro e w' ⟨rfl,rfl⟩
   go_upto_region 7 with (fail)
   generalize w.heap.size = g at *
   generalize w.alloc (.cells #[.int .i64 m.dk.root,.int .i64 kind,.int .i64 file,.int .i64 rate,.int .i64 burst] 24) = w1 at *
   clear cr
   have c0:=(ld 15 h1 rfl).1 0
   have c1:=(ld 15 h1 rfl).1 1
   have c2:=(ld 15 h1 rfl).1 2
   have c3:=(ld 15 h1 rfl).1 3
   have c4:=(ld 15 h1 rfl).1 4
   go_wp2_with fail
   refine (HCD.out _ _ h1).mono ?_
   rintro e w2 ⟨rfl,hx2,h2⟩
   clear c0 c1 c2 c3 c4
   by_cases hd : df = 0
   ·subst hd
    rw [zq (by decide)] at HRES
    have hm:=HM.out
    have hl5 : (lt m.F m.dk.root).1.length <= 5:=Bl
    have hsh:=hm.sh.sh hN
    have HNW:=zh (fun R' w' h=>N4 Y.bs Y.A m.F hsh m.dk.root kind file rate burst hl5 R' w' h)
    have hnc:=Ef m.F m.dk.root kind file rate burst
    have hgood : ∀j,(newM m.F m.dk.root kind file rate burst).1 = some j -> j.Ok /\ JobS m.F j:=fun j h=>Ft hsh hl5 h
    have hnz:=@I3 m.F m.dk.root kind file rate burst
    generalize newM m.F m.dk.root kind file rate burst = NJ at *
    obtain ⟨oj,nf⟩:=NJ
    dsimp only at HRES hnc hgood hnz
    have HGOOD:=zh hgood
    have NZ:=zh hnz
    have hz:=lj h2
    have hxz:=(hx1.trans hx2).drew
    have s6:=BE hz
    have s0:=(ld 15 hz rfl).1 0
    have s1:=(ld 15 hz rfl).1 1
    have s2:=(ld 15 hz rfl).1 2
    have s3:=(ld 15 hz rfl).1 3
    have s4:=(ld 15 hz rfl).1 4
    clear hgood hnz hm hl5 hsh h1 hx1 h2 hx2
    go_upto_region 10 with (fail)
    refine wp_region_held_drew (S:=fun w'=>w'.cell? ⟨Y.y,6,none⟩ = some (.pointer (some ⟨Y.bs,0,none⟩)) /\ w'.cell? ⟨g,0,none⟩ = some (.int .i64 m.dk.root) /\ w'.cell? ⟨g,1,none⟩ = some (.int .i64 kind) /\ w'.cell? ⟨g,2,none⟩ = some (.int .i64 file) /\ w'.cell? ⟨g,3,none⟩ = some (.int .i64 rate) /\ w'.cell? ⟨g,4,none⟩ = some (.int .i64 burst)) (by kernel_rfl) ⟨s6,s0,s1,s2,s3,s4⟩ (fun hHeld=>?_)
    refine tk 0 ?_
    refine tk 1 ?_
    refine tk 2 ?_
    refine tk 3 ?_
    refine tk 4 ?_
    try simp only [Act.put,tA,tB,tC,tD,tE,tF]
    refine rd 5 rfl fun K hK=>?_
    clear s6 s0 s1 s2 s3 s4
    go_simp
    go_at_call 16
    refine (HNW.out _ _ hz).mono ?_
    cases oj with
    | none=>
     rintro e w3 ⟨rfl,hx3,h3'⟩
     have h3 : own w3 (ryL Y m (pts g (.cells #[.int .i64 m.dk.root,.int .i64 kind,.int .i64 file,.int .i64 rate,.int .i64 burst] 24 (0,0))::R)):=h3'
     have s6:=BE h3
     have s0:=(ld 15 h3 rfl).1
     go_simp
     refine hK.out _ _ ⟨s6,s0 0,s0 1,s0 2,s0 3,s0 4⟩ (fun _=>?_)
     clear hK K s6 s0
     try simp only [Act.put,tA,tB,tC,tD,tE,tF]
     refine tk 6 ?_
     refine tk 7 ?_
     refine tk 8 ?_
     refine tk 9 ?_
     refine tk 10 ?_
     try simp only [Act.put,tA,tB,tC,tD,tE,tF]
     refine wpAnyH_done (by kernel_rfl) ?_ _
     have hnz : nf≠0:=NZ.out rfl
     dsimp only at HRES
     have hpos : 0 < nf:=by omega
     go_wp2_with fail
     go_ret
     rw [<- HRES.out]
     exact ⟨Y,rfl,rfl,hxz.trans hx3,zB h3⟩
    | some j=>
     rintro e w3 ⟨bj,v,rfl,hx3,h3'⟩
     have h3 : own w3 (ryL Y m (lB Y.bs bj v j::(row 3 1 v j.list.length (lo j.list)::(pts g (.cells #[.int .i64 m.dk.root,.int .i64 kind,.int .i64 file,.int .i64 rate,.int .i64 burst] 24 (0,0))::R)))):=by
      have:=PM (rshL Y.bs Y.A m.F) (lB Y.bs bj v j::[row 3 1 v j.list.length (lo j.list)]) (ryT Y m) (R:=pts g (.cells #[.int .i64 m.dk.root,.int .i64 kind,.int .i64 file,.int .i64 rate,.int .i64 burst] 24 (0,0))::R) h3'
      exact this
     have s6:=BE h3
     have s0:=(ld 17 h3 rfl).1
     go_simp
     refine hK.out _ _ ⟨s6,s0 0,s0 1,s0 2,s0 3,s0 4⟩ (fun _=>?_)
     clear hK K s6 h3'
     try simp only [Act.put,tA,tB,tC,tD,tE,tF]
     refine tk 6 ?_
     refine tk 7 ?_
     refine tk 8 ?_
     refine tk 9 ?_
     refine tk 10 ?_
     try simp only [Act.put,tA,tB,tC,tD,tE,tF]
     refine wpAnyH_done (by kernel_rfl) ?_ _
     have c0:=s0 0
     have c1:=s0 1
     have c2:=s0 2
     have c3:=s0 3
     have c4:=s0 4
     clear s0
     obtain ⟨hjo,hjs⟩:=HGOOD.out j rfl
     have hto:=HM.out.tp.1
     have htw:=HM.out.tp.2.1
     have htp:=HM.out.tp.2.2.1
     have HW:=zh (fun R' w' h=>Bo Y m hto (by omega) (by omega) ⟨m.dk.root,kind,file,rate,burst⟩ HDF.out R' w' h)
     have hwc:=Ag m ⟨m.dk.root,kind,file,rate,burst⟩
     dsimp only at HRES
     unfold lI.v o8 at HW
     generalize lw m ⟨m.dk.root,kind,file,rate,burst⟩ = W at *
     obtain ⟨wc,m2⟩:=W
     dsimp only at hwc HW HRES
     have hx4:=hxz.trans hx3
     clear hz hxz hx3 hto htw htp
     go_wp2_with fail
     refine (HW.out _ _ h3).mono ?_
     rintro e w4 ⟨rfl,hx5,h4⟩
     clear c0 c1 c2 c3 c4 h3
     by_cases hwz : wc = 0
     ·subst hwz
      rw [zq (by decide)] at HRES
      have cj:=EP h4
      have fj:=A5 h4 13
      have h5:=GY h4
      have hx6:=(hx4.trans hx5).setCell (⟨Y.y,13,none⟩ : Addr) (.pointer (some ⟨bj,0,none⟩))
      have HPU:=zh (fun w' (h : own w' (ryL { Y with bj:=bj,vj:=v } { m2 with job:=some j } (pts g (.cells #[.int .i64 m.dk.root,.int .i64 kind,.int .i64 file,.int .i64 rate,.int .i64 burst] 24 (0,0))::R)))=>Jl Y.bs bj v j false _ w' (lp (rshL Y.bs Y.A m2.F) [lB Y.bs bj v j] (AS (Y:={ Y with bj:=bj,vj:=v }) (m:={ m2 with job:=some j }) (j:=j) rfl h)))
      have hpl:=D1 j false
      have HPT:=zh (fun w' h=>AH (Y:={ Y with bj:=bj,vj:=v }) (m:={ m2 with job:=some j }) (F':=m2.F) (j:=j) (j':=(yU j false).2) (R:=pts g (.cells #[.int .i64 m.dk.root,.int .i64 kind,.int .i64 file,.int .i64 rate,.int .i64 burst] 24 (0,0))::R) (w:=w') rfl hpl (fun _ _=>Iff.rfl) h)
      have H5:=zh h5
      clear h4 h5
      generalize yU j false = PJ at *
      obtain ⟨pc,j2⟩:=PJ
      dsimp only at HPU HPT HRES hpl
      go_wp2_with fail
      refine (HPU.out _ H5.out).mono ?_
      rintro e w6 ⟨rfl,hx7,h6⟩
      have h7:=HPT.out _ (lp [lB Y.bs bj v j2] (rshL Y.bs Y.A m2.F) h6)
      go_wp2_with fail
      go_ret
      rw [<- HRES.out]
      exact ⟨{ Y with bj:=bj,vj:=v },rfl,rfl,hx6.trans hx7,zB h7⟩
     ·rw [zt hwz] at HRES
      have hpos : 0 < wc:=by omega
      clear hwz
      go_wp2_with fail
      go_ret
      rw [<- HRES.out]
      exact ⟨Y,rfl,rfl,hx4.trans hx5,lh 15 (lh 16 (lh 17 h4 rfl) rfl) rfl⟩
   ·rw [zt hd] at HRES
    have hpos : 0 < df:=by omega
    clear hd
    go_wp2_with fail
    go_ret
    rw [<- HRES.out]
    exact ⟨Y,rfl,rfl,hx1.trans hx2,zB h2⟩
end Go.Proofs.YtbpblokfiajpjabGreatDoor
