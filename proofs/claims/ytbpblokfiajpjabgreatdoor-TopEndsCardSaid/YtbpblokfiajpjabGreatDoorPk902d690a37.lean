/- Lemmas on which TopEnds stands: the texts Yard6 Yard7 Yard8 YardP2 Yard9 Jobs13 Jobs13a Jobs13b Jobs13c Jobs14 Jobs15. No conditions. -/
import Derived.Test.YtbpblokfiajpjabGreatDoorPk4007bcbf9c
set_option linter.all false
set_option maxRecDepth 1000000
set_option maxHeartbeats 32000000
namespace Go.Proofs.YtbpblokfiajpjabGreatDoor
open Go.RowKit Go.SL Go.Crc
attribute [local go_sem ↓] Go.wp_at_zero Go.wp_at_succ
theorem MX {F : ShM} {x : Nat} {y : Int} {k : Nat} : (yA F x y).2 k = none↔F k = none:=by
 unfold yA
 cases e : F x with
 | none=>exact Iff.rfl
 | some i=>
  dsimp only
  unfold put
  by_cases h : k = x
  ·subst h; rw [zt rfl,e]; simp
  ·rw [zq h]
theorem Et {F : ShM} {j : JobM} {k : Nat} (hk : k < 5) : (li F j).2.1 k = none↔F k = none:=by
 unfold li
 split
 ·exact Iff.rfl
 ·split
  ·split <;> exact MX
  ·split
   ·exact Iff.rfl
   ·exact zU.none hk
theorem El {F : ShM} {j : JobM} (hf : lq F j.file) (hk : j.kind≠2) (h : (li F j).1 = 0) : lT F (li F j).2.1 /\ (lk F j.file).2 = 0 /\ (lk (li F j).2.1 j.file).2 = 0:=by
 unfold li at h ⊢
 by_cases h3 : j.st≠3
 ·rw [zt h3] at h; exact absurd h (by show ¬((9 : Int) = 0); decide)
 ·rw [zq h3,zq hk] at h ⊢
  by_cases hw : (lk F j.file).2≠0
  ·rw [zt hw] at h; exact absurd h hw
  ·rw [zq hw]
   have hw0 : (lk F j.file).2 = 0:=Decidable.not_not.1 hw
   have hs : lT F (ox F (lk F j.file).1):=zU
   exact ⟨hs,hw0,by rw [Jf hs hf (l:=(lk F j.file).1) (by rw [<- hw0])]⟩
theorem Gq (N : Nat) (Y : YA) (m : ld) (hm : YOk N m) (hN : N < 890000) (R : List SL.HP) (w : World) (H : own w (yL Y m R)) :
  Calls Tryz.prog 50 #[.pointer (some ⟨Y.y,0,none⟩)] w (yj Y (yD m) R w):=by
 have HB:=zh (zH Y m R w H)
 generalize hres : yD m = res
 unfold yD at hres
 unfold yY at HB
 cases hj : m.job with
 | none=>
  rw [hj] at HB hres
  dsimp only at HB hres
  subst hres
  clear hj
  go_enter Tryz.func50,Tryz.ntmps50
  go_wp2_with fail
  refine HB.out.mono ?_
  rintro e w' ⟨rfl,rfl⟩
  go_wp2_with fail
  go_ret
  exact ⟨Y,rfl,rfl,zR _,H⟩
 | some j=>
  rw [hj] at HB hres
  dsimp only at HB hres
  by_cases h4 : 4 <= j.st
  ·rw [zt h4] at hres
   subst hres
   rw [zf (by omega)] at HB
   clear hj h4
   go_enter Tryz.func50,Tryz.ntmps50
   go_wp2_with fail
   refine HB.out.mono ?_
   rintro e w' ⟨rfl,rfl⟩
   go_wp2_with fail
   go_ret
   exact ⟨Y,rfl,rfl,zR _,H⟩
  ·rw [zq h4] at hres
   rw [zg (by omega)] at HB
   obtain ⟨hS,hl,hk,hf,hr⟩:=hm.job j hj (by omega)
   have ck:=EC H
   have cj:=yO hj H
   by_cases h2 : m.dk.kind = 2
   ·rw [zt h2] at hres
    subst hres
    have d2 : (m.dk.kind == 2) = true:=by rw [h2]; rfl
    clear hj h4 h2 hk
    go_enter Tryz.func50,Tryz.ntmps50
    go_wp2_with fail
    refine HB.out.mono ?_
    rintro e w' ⟨rfl,rfl⟩
    go_wp2_with fail
    go_ret
    exact ⟨Y,rfl,rfl,zR _,H⟩
   ·rw [zq h2] at hres
    have d2 : (m.dk.kind == 2) = false:=by rw [zb]; exact h2
    have hkj : j.kind≠2:=by rw [hk]; exact h2
    have hff:=hS.file hkj
    have hv : ∀w' L,own w' (L++(row 3 1 Y.vj j.list.length (lr j.list)::((yT Y m).take 8++R))) -> lV w' Y.vj j.list:=fun w' L h=>oM 0 (lp L [row 3 1 Y.vj j.list.length (lr j.list)] h) rfl
    have HSE:=zh (Fo Y.bs Y.A m.F N hm.sh (by omega) Y.bj Y.bt Y.bb Y.vj j (hm.jok j hj) hS (row 3 1 Y.vj j.list.length (lr j.list)::((yT Y m).take 8++R)) w hv (zW hj H))
    have hcode:=Ex m.F j
    have HPUT:=zh (fun w' h=>zw (w:=w') (Y:=Y) (m:=m) (R:=R) (F':=(li m.F j).2.1) (j':=(li m.F j).2.2) hj (Cv m.F j).1 (fun k hk=>Et hk) h)
    have hff5 : 0 <= m.dk.file /\ m.dk.file < 5:=by rw [<- hf]; exact ⟨hff.1,hff.2.1⟩
    have htw:=hm.tp.2.1
    have htp:=hm.tp.2.2.1
    have HO:=zh (fun (hc : (li m.F j).1 = 0) R' w' h=>I1 Y { m with F:=(li m.F j).2.1,job:=some (li m.F j).2.2 } (N + 1) (AE hm.sh (by omega) (hm.jok j hj) hS) (by omega) hm.tp.1 (by dsimp only; omega) (by dsimp only; omega) (li m.F j).2.2 rfl m.dk.file hff5 (by rw [<- hf]; exact (El hff hkj hc).2.2) true R' w' h)
    have HN:=zh (fun R' w' h=>BA m.dk.file R' w' h)
    generalize li m.F j = S at *
    obtain ⟨c,F2,j2⟩:=S
    dsimp only at hres HSE hcode HPUT HO
    have HRES:=zh hres
    clear hj h4 h2 hk hres hv hff hkj hS hl hr htw htp hm hff5 hf
    go_enter Tryz.func50,Tryz.ntmps50
    go_wp2_with fail
    refine HB.out.mono ?_
    rintro e w' ⟨rfl,rfl⟩
    go_wp2_with fail
    refine HSE.out.mono ?_
    rintro e w2 ⟨rfl,hx2,h2⟩
    have h3:=HPUT.out _ h2
    by_cases hc : c = 0
    ·have HO2:=zh (HO.out hc)
     clear HO
     subst hc
     rw [zq (by decide)] at HRES
     rw [lL]
     have cf:=EP h3
     clear h2 cj ck
     go_wp2_with fail
     refine (HN.out _ _ h3).mono ?_
     rintro e w4 ⟨rfl,hx4,h4⟩
     clear cf
     go_wp2_with fail
     refine (HO2.out _ _ h4).mono ?_
     rintro e w5 ⟨Y',hy,rfl,hx5,h5⟩
     go_wp2_with fail
     go_ret
     rw [<- HRES.out]
     exact ⟨Y',hy,rfl,(hx2.trans hx4).trans hx5,h5⟩
    ·rw [zt hc] at HRES
     rw [lu (e:=c) (by omega)]
     go_wp2_with fail
     go_ret
     rw [<- HRES.out]
     exact ⟨Y,rfl,by rw [lu (e:=c) (by omega)]; rfl,hx2,h3⟩
def De (m : ld) (k : Nat) (d : DevM) : ld:=match m.F k with
 | some i=>{ m with F:=put m.F k { i with d:=d } }
 | none=>{ m with D:=setD m.D k d }
def JK (Y : YA) (m : ld) (R : List SL.HP) (k : Nat) : List SL.HP:=match m.F k with
 | some i=>lE (Y.A k).1 (Y.A k).2.1 (Y.A k).2.2 i::(yL Y m R).eraseIdx (1 + k)
 | none=>(yL Y m R).set (7 + k) emp
theorem Iz {w : World} {P Q : SL.HP} {R : List SL.HP} (H : own w (P::Q::R)) : own w (Q::P::R):=lp [P] [Q] H
theorem MI {Y : YA} {m : ld} {R : List SL.HP} {w : World} {k : Nat} (hk : k < 5) (H : own w (yL Y m R)) : own w (lt (Y.A k).2.1 (devOf m k)::JK Y m R k):=by
 unfold devOf JK
 cases e : m.F k with
 | none=>exact BI hk e H
 | some i=>exact Iz (zk hk e H)
theorem OG (Y : YA) (m : ld) {k : Nat} {i : ImgM} (h : m.F k = some i) (d : DevM) : yT Y { m with F:=put m.F k { i with d:=d } } = yT Y m:=by
 have hf : ∀j,ov Y.A (put m.F k { i with d:=d }) m.D j = ov Y.A m.F m.D j:=fun j=>by
  unfold ov put
  by_cases e : j = k
  ·subst e; rw [zt rfl,h]
  ·rw [zq e]
 unfold yT
 dsimp only
 rw [hf,hf,hf,hf,hf]
 rfl
theorem I9 {Y : YA} {m : ld} {R : List SL.HP} {w0 w : World} {k : Nat} (hk : k < 5) {d : DevM} (H0 : own w0 (yL Y m R)) (H : own w (lt (Y.A k).2.1 d::JK Y m R k)) : own w (yL Y (De m k d) R):=by
 unfold De
 unfold JK at H
 cases e : m.F k with
 | none=>rw [e] at H; exact Ig hk e H
 | some i=>
  rw [e] at H
  have h1:=Iz H
  have h2:=BZ (m':={ i with d:=d }) hk e H0 h1
  show own w (shL Y.bs Y.A (put m.F k { i with d:=d })++(yT Y { m with F:=put m.F k { i with d:=d } }++R))
  rw [OG Y m e d]
  exact h2
theorem PB (m : ld) (k : Nat) (n : Int) (hn : ¬((k : Int) < -1 \/ 5 <= (k : Int) \/ n < 0)) : armM m (k : Int) n = (0,De m k { devOf m k with fail:=n }):=by
 unfold armM De devOf
 rw [zq hn,zq (by omega),zn]
 cases m.F k <;> rfl
theorem OA (Y : YA) (m : ld) (file n : Int) (R : List SL.HP) (w : World) (H : own w (yL Y m R)) :
  Calls Tryz.prog 119 #[.pointer (some ⟨Y.y,0,none⟩),.int .i64 file,.int .i64 n] w (yj Y (armM m file n) R w):=by
 generalize hres : armM m file n = res
 by_cases hf : file < -1
 ·have hr : res = (1,m):=by rw [<- hres]; unfold armM; rw [zt (.inl hf)]
  clear hres
  subst hr
  go_enter Tryz.func119,Tryz.ntmps119
  go_wp2_with fail
  go_ret
  exact ⟨Y,rfl,rfl,zR w,H⟩
 ·by_cases hf5 : 5 <= file
  ·have hr : res = (1,m):=by rw [<- hres]; unfold armM; rw [zt (.inr (.inl hf5))]
   clear hres
   subst hr
   go_enter Tryz.func119,Tryz.ntmps119
   go_wp2_with fail
   go_ret
   exact ⟨Y,rfl,rfl,zR w,H⟩
  ·by_cases h1 : file = -1
   ·subst h1
    have ct:=y_tp H
    have HF:=zh (Ku Y.tp m.top n _ w (MQ H))
    by_cases hn : n < 0
    ·have hr : res = (1,m):=by rw [<- hres]; unfold armM; rw [zt (.inr (.inr hn))]
     clear hres
     subst hr
     rw [zt hn,zt hn] at HF
     clear hf hf5
     go_enter Tryz.func119,Tryz.ntmps119
     go_wp2_with fail
     refine HF.out.mono ?_
     rintro e w2 ⟨rfl,hx2,h2⟩
     go_wp2_with fail
     go_ret
     exact ⟨Y,rfl,rfl,hx2,ot H 12 rfl h2⟩
    ·have hr : res = (0,{ m with top:={ m.top with fail:=n } }):=by rw [<- hres]; unfold armM; rw [zq (by omega),zt rfl]
     clear hres
     subst hr
     rw [zq hn,zq hn] at HF
     clear hf hf5 hn
     go_enter Tryz.func119,Tryz.ntmps119
     go_wp2_with fail
     refine HF.out.mono ?_
     rintro e w2 ⟨rfl,hx2,h2⟩
     go_wp2_with fail
     go_ret
     exact ⟨Y,rfl,rfl,hx2,I8 H h2⟩
   ·obtain ⟨k,rfl⟩ : ∃k : Nat,file = (k : Int):=⟨file.toNat,by omega⟩
    have hk : k < 5:=by omega
    have i0 : (0 : Int) <= (k : Int):=by omega
    have i1 : (k : Int) < 5:=by omega
    have d1 : ((k : Int) == -1) = false:=by rw [zb]; exact h1
    have ct:=GD H hk
    have HF:=zh (Ku (Y.A k).2.1 (devOf m k) n _ w (MI hk H))
    by_cases hn : n < 0
    ·have hr : res = (1,m):=by rw [<- hres]; unfold armM; rw [zt (.inr (.inr hn))]
     clear hres
     subst hr
     rw [zt hn,zt hn] at HF
     have hsm : De m k (devOf m k) = m:=by
      unfold De devOf
      cases e : m.F k with
      | none=>rw [show setD m.D k (m.D k) = m.D from funext fun j=>by unfold setD; split <;> simp_all]
      | some i=>dsimp only; rw [FM e]
     have HS:=zh hsm
     clear hsm h1
     go_enter Tryz.func119,Tryz.ntmps119
     go_wp2_with fail
     refine HF.out.mono ?_
     rintro e w2 ⟨rfl,hx2,h2⟩
     have h3:=I9 hk H h2
     rw [HS.out] at h3
     go_wp2_with fail
     go_ret
     exact ⟨Y,rfl,rfl,hx2,h3⟩
    ·rw [PB m k n (by omega)] at hres
     subst hres
     rw [zq hn,zq hn] at HF
     clear hn h1
     go_enter Tryz.func119,Tryz.ntmps119
     go_wp2_with fail
     refine HF.out.mono ?_
     rintro e w2 ⟨rfl,hx2,h2⟩
     go_wp2_with fail
     go_ret
     exact ⟨Y,rfl,rfl,hx2,I9 hk H h2⟩
theorem zB (Y : YA) (m : ld) (hm : ∀j,m.job = some j -> j.Ok) (R : List SL.HP) (w : World) (H : own w (yL Y m R)) :
  Calls Tryz.prog 47 #[.pointer (some ⟨Y.y,0,none⟩)] w fun e w'=>e = .returned (BT m) /\ Ext w w' /\ own w' (yL Y m R):=by
 have hb:=Fa (.cells #[.int .i64 0,.int .i64 0,.int .i64 0,.int .i64 0] 47) H
 have hxb:=(zR w).alloc (.cells #[.int .i64 0,.int .i64 0,.int .i64 0,.int .i64 0] 47)
 unfold BT
 cases hj : m.job with
 | none=>
  have cj:=Gt hb
  rw [hj] at cj
  change World.cell? _ ⟨Y.y,13,none⟩ = some (.pointer none) at cj
  dsimp only
  clear hj
  go_enter Tryz.func47,Tryz.ntmps47
  go_upto_region 1 with (fail)
  generalize w.heap.size = g at *
  generalize w.alloc (.cells #[.int .i64 0,.int .i64 0,.int .i64 0,.int .i64 0] 47) = w1 at *
  obtain ⟨cg,fg⟩:=la 15 hb rfl
  go_wp2_with fail
  have h5:=ln (i:=3) (v:=.int .i64 0) 15 (ln (i:=2) (v:=.int .i64 0) 15 (ln (i:=1) (v:=.int .i64 (-1)) 15 (ln (i:=0) (v:=.int .i64 0) 15 hb rfl) rfl) rfl) rfl
  obtain ⟨c3,-⟩:=la 15 h5 rfl
  refine bodyPost_ret (Bw rfl _ _ g 0 (-1) 0 0 rfl (c3 0) (c3 1) (c3 2) (c3 3)) rfl ?_
  exact ⟨rfl,(((hxb.setCell _ _).setCell _ _).setCell _ _).setCell _ _,le 15 h5 rfl⟩
 | some j=>
  have cj:=yO hj hb
  have HST:=zh (fun R' w' (h : own w' (yL Y m R'))=>FI Y.bs Y.bj Y.bt Y.bb Y.vj j (hm j hj) _ w' (lp (shL Y.bs Y.A m.F) (jobL Y.bs Y.bj Y.bt Y.bb Y.vj j) (zW hj h)))
  have HCL:=zh (fun R' w' h=>Fc (Y:=Y) (m:=m) (R:=R') (w:=w') hj h)
  dsimp only
  unfold A9 at HST ⊢
  generalize (cnt j.x : Nat) = q at *
  clear hj
  go_enter Tryz.func47,Tryz.ntmps47
  go_upto_region 1 with (fail)
  generalize w.heap.size = g at *
  generalize w.alloc (.cells #[.int .i64 0,.int .i64 0,.int .i64 0,.int .i64 0] 47) = w1 at *
  go_wp2_with fail
  refine (HST.out _ _ hb).mono ?_
  rintro e w2 ⟨rfl,hx2,h2⟩
  have h3:=HCL.out _ _ (lp (jobL Y.bs Y.bj Y.bt Y.bb Y.vj j) (shL Y.bs Y.A m.F) h2)
  obtain ⟨cg,fg⟩:=la 15 h3 rfl
  have g0:=cg 0
  have g1:=cg 1
  have g2:=cg 2
  have g3:=cg 3
  clear cj
  go_wp2_with fail
  have h5:=ln (i:=3) (v:=.int .i64 (q : Int)) 15 (ln (i:=2) (v:=.int .i64 j.st) 15 (ln (i:=1) (v:=.int .i64 j.file) 15 (ln (i:=0) (v:=.int .i64 j.kind) 15 h3 rfl) rfl) rfl) rfl
  obtain ⟨c3,-⟩:=la 15 h5 rfl
  refine bodyPost_ret (Bw rfl _ _ g j.kind j.file j.st (q : Int) rfl (c3 0) (c3 1) (c3 2) (c3 3)) rfl ?_
  exact ⟨rfl,((((hxb.trans hx2).setCell _ _).setCell _ _).setCell _ _).setCell _ _,le 15 h5 rfl⟩
def oG (m : ld) (fr : Int) (s : ByteArray) : Int×ld:=
 if s.size % 16≠0 \/ lN m.F m.list fr ((s.size / 16 : Nat) : Int)≠0 then (1,m)
 else ((putM m.F m.list fr s).1,yy { m with F:=(putM m.F m.list fr s).2 } fr ((s.size / 16 : Nat) : Int))
def oD (m : ld) (fr n : Int) : Int×ld:=
 if lN m.F m.list fr n≠0 then (1,m)
 else ((yB m.F m.list fr n).1,yy { m with F:=(yB m.F m.list fr n).2 } fr n)
theorem YOk.head {N : Nat} {m : ld} (h : YOk N m) : ∃s,m.list = m.dk.root::s:=by
 obtain ⟨s,hs⟩:=Ej h.root (by rw [h.walk])
 rw [h.walk] at hs
 exact ⟨s,hs⟩
theorem YOk.files {N : Nat} {m : ld} (h : YOk N m) : ∀x∈m.list,lq m.F x:=by
 have:=yG m.F m.dk.root
 rw [h.walk] at this
 exact this
theorem Fr {N : Nat} {m : ld} (h : YOk N m) (fr n : Int) : lN m.F m.list fr n = if 0 <= fr /\ 0 <= n /\ fr <= clus m.F m.dk.root * 4 /\ n <= clus m.F m.dk.root * 4 - fr then 0 else 1:=by
 obtain ⟨s,hs⟩:=h.head
 unfold lN
 rw [hs]
 simp only [List.length_cons,List.getD_cons_zero]
 rw [zq (by omega)]
 by_cases hc : 0 <= fr /\ 0 <= n /\ fr <= clus m.F m.dk.root * 4 /\ n <= clus m.F m.dk.root * 4 - fr
 ·rw [zt hc,zq (by omega)]
 ·rw [zq hc,zt (by omega)]
theorem yT_F (Y : YA) (m : ld) (F' : ShM) (hn : ∀k,k < 5 -> (F' k = none↔m.F k = none)) : yT Y { m with F:=F' } = yT Y m:=by
 have hf : ∀k,k < 5 -> ov Y.A F' m.D k = ov Y.A m.F m.D k:=fun k hk=>by
  unfold ov
  cases e : m.F k with
  | none=>rw [(hn k hk).2 e]
  | some i=>
   cases e' : F' k with
   | none=>exact absurd ((hn k hk).1 e') (by rw [e]; exact fun h=>by cases h)
   | some i'=>rfl
 unfold yT
 dsimp only
 rw [hf 0 (by decide),hf 1 (by decide),hf 2 (by decide),hf 3 (by decide),hf 4 (by decide)]
 rfl
theorem y_F {Y : YA} {m : ld} {F' : ShM} {R : List SL.HP} {w : World} (hn : ∀k,k < 5 -> (F' k = none↔m.F k = none)) (H : own w (shL Y.bs Y.A F'++(yT Y m++R))) : own w (yL Y { m with F:=F' } R):=by
 show own w (shL Y.bs Y.A F'++(yT Y { m with F:=F' }++R))
 rw [yT_F Y m F' hn]
 exact H
theorem y_hv {Y : YA} {m : ld} {R : List SL.HP} : ∀w' L,own w' (L++(yT Y m++R)) -> lV w' Y.v m.list:=fun w' L h=>oM 7 (lp L (yT Y m) h) rfl
theorem Bc (N : Nat) (Y : YA) (m : ld) (hm : YOk N m) (hN : N < 900000) (R : List SL.HP) (w : World) (H : own w (yL Y m R)) :
  Calls Tryz.prog 43 #[.pointer (some ⟨Y.y,0,none⟩)] w fun e w'=>e = .returned (.int .i64 (clus m.F m.dk.root * 4)) /\ Ext w w' /\ own w' (yL Y m R):=by
 obtain ⟨r,mr,hxr,hr,hFr⟩:=og hm.root
 have hcl : clus m.F m.dk.root = mr.c:=by rw [hxr]; exact y8 hFr
 have hcr:=yH (hm.sh.sh hN) hm.root
 rw [hcl] at hcr ⊢
 have HH:=zh (fun R' w' h=>zF (b:=Y.bs) (A:=Y.A) hr hFr R' w' h)
 have HS:=zh (fun w' (h : own w' (yL Y m R))=>(⟨y_bs h,by rw [<- hxr]; exact yW h,by rw [l9 h hr,lO hFr]⟩ : w'.cell? ⟨Y.y,6,none⟩ = some (.pointer (some ⟨Y.bs,0,none⟩)) /\ w'.cell? ⟨Y.y,7,none⟩ = some (.int .i64 (r : Int)) /\ w'.cell? ⟨Y.bs,r,none⟩ = some (.pointer (some ⟨(Y.A r).1,0,none⟩))))
 have r0 : (0 : Int) <= (r : Int):=by omega
 have r5 : (r : Int) < 5:=by omega
 have c1 : (1 : Int) <= mr.c:=hcr.1
 have c2 : mr.c <= 32:=hcr.2
 have f0:=Bv mr.c mr.p mr.b
 have e1 : IntKind.i64.wrap (mr.c * 4) = mr.c * 4:=zi _ (by omega)
 unfold oF at HH
 have hz:=lj H
 have hxz:=(zR w).drew
 clear hcl hxr hcr hm
 go_enter Tryz.func43,Tryz.ntmps43
 go_upto_region 1 with (fail)
 go_region_held3 (fun w'=>w'.cell? ⟨Y.y,6,none⟩ = some (.pointer (some ⟨Y.bs,0,none⟩)) /\ w'.cell? ⟨Y.y,7,none⟩ = some (.int .i64 (r : Int)) /\ w'.cell? ⟨Y.bs,r,none⟩ = some (.pointer (some ⟨(Y.A r).1,0,none⟩))) (exact HS.out _ hz) ((go_at_call 71; refine (HH.out _ _ hz).mono ?_; rintro e w5 ⟨rfl,hx5,hz'⟩; have hxz:=hxz.trans hx5; have hz:=hz'))
 all_goals
  go_wp2_with fail
  go_ret
  exact ⟨rfl,hxz,hz⟩
def DT (c4 fr n : Int) : Bool:=decide (0 <= fr /\ 0 <= n /\ fr <= c4 /\ n <= c4 - fr)
theorem Fp (N : Nat) (Y : YA) (m : ld) (hm : YOk N m) (hN : N < 900000) (fr n : Int) (R : List SL.HP) (w : World) (H : own w (yL Y m R)) :
  Calls Tryz.prog 193 #[.pointer (some ⟨Y.y,0,none⟩),.int .i64 fr,.int .i64 n] w fun e w'=>e = .returned (.bool (DT (clus m.F m.dk.root * 4) fr n)) /\ Ext w w' /\ own w' (yL Y m R):=by
 have HSE:=zh (Bc N Y m hm hN R w H)
 have hcr:=yH (hm.sh.sh hN) hm.root
 have hc0 : 0 <= clus m.F m.dk.root * 4:=by omega
 have hc1 : clus m.F m.dk.root * 4 <= 128:=by omega
 clear hcr
 generalize clus m.F m.dk.root * 4 = c4 at *
 generalize hw : DT c4 fr n = wb at *
 unfold DT at hw
 by_cases q1 : 0 <= fr
 ·by_cases q2 : 0 <= n
  ·by_cases q3 : fr <= c4
   ·by_cases q4 : n <= c4 - fr
    ·have HW : Hid (wb = true):=zh (by rw [<- hw]; exact zg ⟨q1,q2,q3,q4⟩)
     clear hw hm
     have e1 : IntKind.i64.wrap (c4 - fr) = c4 - fr:=zi _ (by omega)
     go_enter Tryz.func193,Tryz.ntmps193
     go_wp2_with fail
     refine HSE.out.mono ?_
     rintro e w2 ⟨rfl,hx2,h2⟩
     go_wp2_with fail
     go_ret
     exact ⟨by rw [HW.out]; rfl,hx2,h2⟩
    ·have HW : Hid (wb = false):=zh (by rw [<- hw]; exact zf fun h=>q4 h.2.2.2)
     have d4 : decide (n <= c4 - fr) = false:=zf q4
     clear hw hm
     have e1 : IntKind.i64.wrap (c4 - fr) = c4 - fr:=zi _ (by omega)
     go_enter Tryz.func193,Tryz.ntmps193
     go_wp2_with fail
     refine HSE.out.mono ?_
     rintro e w2 ⟨rfl,hx2,h2⟩
     go_wp2_with fail
     go_ret
     exact ⟨by rw [HW.out]; rfl,hx2,h2⟩
   ·have HW : Hid (wb = false):=zh (by rw [<- hw]; exact zf fun h=>q3 h.2.2.1)
    clear hw hm
    go_enter Tryz.func193,Tryz.ntmps193
    go_wp2_with fail
    refine HSE.out.mono ?_
    rintro e w2 ⟨rfl,hx2,h2⟩
    go_wp2_with fail
    go_ret
    exact ⟨by rw [HW.out]; rfl,hx2,h2⟩
  ·have HW : Hid (wb = false):=zh (by rw [<- hw]; exact zf fun h=>q2 h.2.1)
   clear hw hm
   go_enter Tryz.func193,Tryz.ntmps193
   go_wp2_with fail
   refine HSE.out.mono ?_
   rintro e w2 ⟨rfl,hx2,h2⟩
   go_wp2_with fail
   go_ret
   exact ⟨by rw [HW.out]; rfl,hx2,h2⟩
 ·have HW : Hid (wb = false):=zh (by rw [<- hw]; exact zf fun h=>q1 h.1)
  clear hw hm
  go_enter Tryz.func193,Tryz.ntmps193
  go_wp2_with fail
  refine HSE.out.mono ?_
  rintro e w2 ⟨rfl,hx2,h2⟩
  go_wp2_with fail
  go_ret
  exact ⟨by rw [HW.out]; rfl,hx2,h2⟩
theorem K9 : ∀(n : Nat) (j : JobM) (c : Int),lQ j c (n + 1) = yu (lQ j c n) (c + n):=by
 intro n
 induction n with
 | zero=>intro j c; rw [lQ,lQ,lQ]; simp
 | succ n ih=>
  intro j c
  rw [lQ,ih,lQ]
  congr 1
  push_cast
  omega
theorem IF : ∀(n : Nat) {j : JobM} (_ : j.Ok) (c : Int),(lQ j c n).Ok:=by
 intro n
 induction n with
 | zero=>intro j h c; exact h
 | succ n ih=>intro j h c; rw [lQ]; exact ih (EF h c) _
theorem CR : ∀(n : Nat) (j : JobM) (c : Int),oO j (lQ j c n):=by
 intro n
 induction n with
 | zero=>intro j c; exact oO.refl j
 | succ n ih=>
  intro j c
  rw [lQ]
  obtain ⟨a1,a2,a3,a4,a5⟩:=ih (yu j c) (c + 1)
  obtain ⟨b1,b2,b3,b4,b5⟩:=Ln j c
  exact ⟨a1.trans b1,a2.trans b2,a3.trans b3,a4.trans b4,a5.trans b5⟩
theorem Qa (a : Nat) : (a : Int).tdiv 4 = ((a / 4 : Nat) : Int):=rfl
theorem MY (m : ld) {j : JobM} (hj : m.job = some j) (a b : Nat) (hb : b≠0) : yy m (a : Int) (b : Int) = { m with job:=some (lQ j ((a / 4 : Nat) : Int) ((a + b - 1) / 4 - a / 4 + 1)) }:=by
 unfold yy
 rw [hj]
 dsimp only
 rw [zq (by omega)]
 have h1 : (a : Int) / 4 = ((a / 4 : Nat) : Int):=by omega
 have h2 : (((a : Int) + (b : Int) - 1) / 4 - (a : Int) / 4 + 1).toNat = (a + b - 1) / 4 - a / 4 + 1:=by omega
 rw [h1] at *
 rw [h2]
theorem G3 (Y : YA) (m : ld) (hm : ∀j,m.job = some j -> j.Ok) (a b : Nat) (hab : a + b <= 200) (R : List SL.HP) (w : World) (H : own w (yL Y m R)) :
  Calls Tryz.prog 195 #[.pointer (some ⟨Y.y,0,none⟩),.int .i64 (a : Int),.int .i64 (b : Int)] w fun e w'=>e = .returned (.tuple #[]) /\ Ext w w' /\ own w' (yL Y (yy m (a : Int) (b : Int)) R):=by
 cases hj : m.job with
 | none=>
  have cj:=Gt H
  rw [hj] at cj
  change w.cell? ⟨Y.y,13,none⟩ = some (.pointer none) at cj
  have hd : yy m (a : Int) (b : Int) = m:=by unfold yy; rw [hj]
  rw [hd]
  clear hj hd
  go_enter Tryz.func195,Tryz.ntmps195
  go_wp2_with fail
  refine bodyPost_ret (results_none rfl _ _ _) rfl ?_
  exact ⟨rfl,zR w,H⟩
 | some j=>
  have cj:=yO hj H
  by_cases hb : b = 0
  ·have hd : yy m (a : Int) (b : Int) = m:=by unfold yy; rw [hj]; dsimp only; rw [zt (by omega)]
   rw [hd]
   clear hd hj
   subst hb
   go_enter Tryz.func195,Tryz.ntmps195
   go_wp2_with fail
   refine bodyPost_ret (results_none rfl _ _ _) rfl ?_
   exact ⟨rfl,zR w,H⟩
  ·rw [MY m hj a b hb]
   have b1 : ((b : Int) == 0) = false:=by rw [zb]; omega
   have t1:=Qa a
   have t2 : ((a : Int) + (b : Int) - 1).tdiv 4 = (((a + b - 1) / 4 : Nat) : Int):=by rw [show (a : Int) + (b : Int) - 1 = ((a + b - 1 : Nat) : Int) by omega]; exact Qa _
   have h0 : own w (yL Y { m with job:=some (lQ j ((a / 4 : Nat) : Int) 0) } R):=by
    have e : ({ m with job:=some (lQ j ((a / 4 : Nat) : Int) 0) } : ld) = m:=by rw [show lQ j ((a / 4 : Nat) : Int) 0 = j from rfl,<- hj]
    rw [e]; exact H
   have H0:=zh h0
   have hok:=hm j hj
   have HOK:=zh hok
   have hle : a / 4 <= (a + b - 1) / 4:=by omega
   have hlt5 : (a + b - 1) / 4 < 50:=by omega
   clear hj hm hok h0 H
   generalize hp : a / 4 = p at *
   generalize hq : (a + b - 1) / 4 = z at *
   have a0 : (0 : Int) <= (a : Int):=by omega
   have a1 : (a : Int) <= 200:=by omega
   have b0 : (0 : Int) <= (b : Int):=by omega
   have b2 : (b : Int) <= 200:=by omega
   clear hp hq hb
   go_enter Tryz.func195,Tryz.ntmps195
   go_wp2_with fail
   go_loopw [6] (fun cv wr=>∃q : Nat,q <= z - p + 1 /\ cv = .int .i64 ((p + q : Nat) : Int) /\ Ext w wr /\ own wr (yL Y { m with job:=some (lQ j (p : Int) q) } R)) (fun cv _=>z + 1 - (intOf cv).toNat)
   case atStart=>exact ⟨0,Nat.zero_le _,rfl,zR w,H0.out⟩
   case round=>
    clear cj H0
    obtain ⟨q,hq,rfl,hxr,hown⟩:=hrel
    have cj:=yO (m:={ m with job:=some (lQ j (p : Int) q) }) rfl hown
    by_cases hlt : q < z - p + 1
    ·have j1 : ((p + q : Nat) : Int) <= (z : Int):=by omega
     have j0 : (0 : Int) <= ((p + q : Nat) : Int):=by omega
     have j2 : ((p + q : Nat) : Int) <= 50:=by omega
     have HD:=zh (Mv Y.bs Y.bj Y.bt Y.bb Y.vj (lQ j (p : Int) q) (IF q HOK.out (p : Int)) ((p + q : Nat) : Int) _ wr (lp (shL Y.bs Y.A m.F) (jobL Y.bs Y.bj Y.bt Y.bb Y.vj (lQ j (p : Int) q)) (zW (m:={ m with job:=some (lQ j (p : Int) q) }) rfl hown)))
     have HN : Hid (yu (lQ j (p : Int) q) ((p + q : Nat) : Int) = lQ j (p : Int) (q + 1)):=zh (by rw [K9]; push_cast; rfl)
     have HSM : Hid ((lQ j (p : Int) (q + 1)).list = (lQ j (p : Int) q).list):=zh ((CR (q + 1) j p).1.trans (CR q j p).1.symm)
     generalize hcc : ((p + q : Nat) : Int) = cc at *
     have HCE:=zh hcc
     clear hcc
     go_wp2_with fail
     refine HD.out.mono ?_
     rintro e w3 ⟨rfl,hx3,h3⟩
     rw [HN.out] at h3
     have h4 : own w3 (yL Y { m with job:=some (lQ j (p : Int) (q + 1)) } R):=zw (m:={ m with job:=some (lQ j (p : Int) q) }) rfl HSM.out (fun _ _=>Iff.rfl) (lp (jobL Y.bs Y.bj Y.bt Y.bb Y.vj (lQ j (p : Int) (q + 1))) (shL Y.bs Y.A m.F) h3)
     go_wp2_with fail
     go_roundw
     case rel=>exact ⟨q + 1,by omega,congrArg (Value.int .i64) (by have:=HCE.out; omega),hxr.trans hx3,h4⟩
     case measure=>
      have:=HCE.out
      show z + 1 - (cc + 1).toNat < z + 1 - cc.toNat
      omega
    ·obtain rfl : q = z - p + 1:=by omega
     have j1 : ¬((p + (z - p + 1) : Nat) : Int) <= (z : Int):=by omega
     go_wp2_with fail
     go_end0
     exact ⟨rfl,hxr,hown⟩
theorem EO (N : Nat) (Y : YA) (m : ld) (hm : YOk N m) (hN : N < 900000) (fr n : Int) (hfr : oy fr) (hn : oy n) (R : List SL.HP) (w : World) (H : own w (yL Y m R)) :
  Calls Tryz.prog 42 #[.pointer (some ⟨Y.y,0,none⟩),.int .i64 fr,.int .i64 n] w fun e w'=>e = .returned (.tuple #[.string (getM m.F m.list fr n).1,errV (getM m.F m.list fr n).2]) /\ Ext w w' /\ own w' (yL Y m R):=by
 have HG:=zh (fun w' h=>QK Y.bs Y.A m.F (hm.sh.sh hN) Y.v m.list hm.files hm.list5 fr n hfr hn (yT Y m++R) w' y_hv h)
 have HS:=zh (fun w' (h : own w' (yL Y m R))=>(⟨y_bs h,AK h⟩ : w'.cell? ⟨Y.y,6,none⟩ = some (.pointer (some ⟨Y.bs,0,none⟩)) /\ w'.cell? ⟨Y.y,12,none⟩ = some Y.v))
 have hz:=lj H
 have hxz:=(zR w).drew
 generalize getM m.F m.list fr n = S at *
 obtain ⟨s,c⟩:=S
 dsimp only at HG ⊢
 clear hm hfr hn
 go_enter Tryz.func42,Tryz.ntmps42
 go_upto_region 1 with (fail)
 go_region_held3 (fun w'=>w'.cell? ⟨Y.y,6,none⟩ = some (.pointer (some ⟨Y.bs,0,none⟩)) /\ w'.cell? ⟨Y.y,12,none⟩ = some Y.v) (exact HS.out _ hz) ((go_at_call 142; refine (HG.out _ hz).mono ?_; rintro e w5 ⟨rfl,hx5,hz'⟩; have hxz:=hxz.trans hx5; have hz:=hz'))
 all_goals
  go_wp2_with fail
  go_ret2
  exact ⟨rfl,hxz,hz⟩
theorem yokF {N : Nat} {m : ld} (hm : YOk N m) {F' : ShM} {n : Nat} (s : lC n m.F F') : ∀k,k < 5 -> (F' k = none↔m.F k = none):=fun k hk=>s.same.none hk
theorem EU {N : Nat} {m : ld} (hm : YOk N m) : topI m.list < 5:=by
 obtain ⟨s,hs⟩:=hm.head
 obtain ⟨k,i,hx,hk,-⟩:=og hm.root
 unfold topI
 rw [hs,List.getD_cons_zero,hx]
 omega
theorem Oy (N : Nat) (Y : YA) (m : ld) (hm : YOk N m) (hN : N + 1000 < 900000) (fr n : Int) (hfr : oy fr) (hn : oy n) (R : List SL.HP) (w : World) (H : own w (yL Y m R)) :
  Calls Tryz.prog 104 #[.pointer (some ⟨Y.y,0,none⟩),.int .i64 fr,.int .i64 n] w (yj Y (oD m fr n) R w):=by
 have HWI:=zh (Fp N Y m hm (by omega) fr n R w H)
 generalize hres : oD m fr n = res
 unfold oD at hres
 have hwy:=Fr hm fr n
 have hcr:=yH (hm.sh.sh (by omega)) hm.root
 by_cases hc : 0 <= fr /\ 0 <= n /\ fr <= clus m.F m.dk.root * 4 /\ n <= clus m.F m.dk.root * 4 - fr
 ·rw [zt hc] at hwy
  rw [zq (by rw [hwy]; exact fun h=>h rfl)] at hres
  have hb : DT (clus m.F m.dk.root * 4) fr n = true:=zg hc
  rw [hb] at HWI
  obtain ⟨a,rfl⟩ : ∃a : Nat,fr = (a : Int):=⟨fr.toNat,by omega⟩
  obtain ⟨b,rfl⟩ : ∃b : Nat,n = (b : Int):=⟨n.toNat,by omega⟩
  have hab : a + b <= 200:=by omega
  have hst:=DG hm.sh (EU hm) (by omega) (a : Int) (b : Int) (by omega)
  have HP:=zh (fun w' h=>N6 Y.bs Y.A m.F N hm.sh (by omega) Y.v m.list hm.files hm.list5 (a : Int) (b : Int) hfr hn (yT Y m++R) w' y_hv h)
  have hcode : 0 <= (yB m.F m.list (a : Int) (b : Int)).1:=GO m.F m.list (a : Int) (b : Int)
  have HF:=zh (yokF hm hst)
  have HJ:=zh hm.jok
  have HS:=zh (fun (m' : ld) w' (h : own w' (yL Y m' R))=>(⟨y_bs h,AK h⟩ : w'.cell? ⟨Y.y,6,none⟩ = some (.pointer (some ⟨Y.bs,0,none⟩)) /\ w'.cell? ⟨Y.y,12,none⟩ = some Y.v))
  generalize yB m.F m.list (a : Int) (b : Int) = S at *
  obtain ⟨c,F2⟩:=S
  dsimp only at HP HF hres hcode
  have HRES:=zh hres
  have HD:=zh (fun w' h=>G3 Y { m with F:=F2 } HJ.out a b hab R w' h)
  clear hm hfr hn hres hc hwy hb hst hcr
  go_enter Tryz.func104,Tryz.ntmps104
  go_wp2_with fail
  refine HWI.out.mono ?_
  rintro e w2 ⟨rfl,hx2,h2⟩
  have hz:=lj h2
  have hxz:=hx2.drew
  go_upto_region 3 with (fail)
  clear h2 hx2
  have hg : (fun w' : World=>w'.cell? ⟨Y.y,6,none⟩ = some (.pointer (some ⟨Y.bs,0,none⟩)) /\ w'.cell? ⟨Y.y,12,none⟩ = some Y.v) w2.drew:=HS.out _ _ hz
  go_region_held3 (fun w'=>w'.cell? ⟨Y.y,6,none⟩ = some (.pointer (some ⟨Y.bs,0,none⟩)) /\ w'.cell? ⟨Y.y,12,none⟩ = some Y.v) (exact hg) ((go_at_call 207; refine (HP.out _ hz).mono ?_; rintro e w5 ⟨rfl,hx5,hz'⟩; have hxz:=hxz.trans hx5; have hz:=y_F HF.out hz'; have hg:=HS.out _ _ hz))
  all_goals
   clear hg
   go_wp2_with fail
   refine (HD.out _ hz).mono ?_
   rintro e w6 ⟨rfl,hx6,h6⟩
   go_wp2_with fail
   go_ret
   rw [<- HRES.out]
   exact ⟨Y,rfl,rfl,hxz.trans hx6,h6⟩
 ·rw [zq hc] at hwy
  rw [zt (by rw [hwy]; decide)] at hres
  have hb : DT (clus m.F m.dk.root * 4) fr n = false:=zf hc
  rw [hb] at HWI
  subst hres
  clear hm hfr hn hc hwy hb hcr
  go_enter Tryz.func104,Tryz.ntmps104
  go_wp2_with fail
  refine HWI.out.mono ?_
  rintro e w2 ⟨rfl,hx2,h2⟩
  go_wp2_with fail
  go_ret
  exact ⟨Y,rfl,rfl,hx2,h2⟩
theorem QU (N : Nat) (Y : YA) (m : ld) (hm : YOk N m) (hN : N + 1000 < 900000) (fr : Int) (hfr : oy fr) (s : ByteArray) (hs : s.size <= 3200) (R : List SL.HP) (w : World) (H : own w (yL Y m R)) :
  Calls Tryz.prog 91 #[.pointer (some ⟨Y.y,0,none⟩),.int .i64 fr,.string s] w (yj Y (oG m fr s) R w):=by
 have td:=LP s.size
 have tm:=LH s.size
 have HWI:=zh (Fp N Y m hm (by omega) fr ((s.size / 16 : Nat) : Int) R w H)
 generalize hres : oG m fr s = res
 unfold oG at hres
 have hwy:=Fr hm fr ((s.size / 16 : Nat) : Int)
 have hcr:=yH (hm.sh.sh (by omega)) hm.root
 by_cases h16 : s.size % 16 = 0
 ·have d16 : decide ((0 : Int) < (s.size : Int) % 16) = false:=zf (by omega)
  by_cases hc : 0 <= fr /\ 0 <= ((s.size / 16 : Nat) : Int) /\ fr <= clus m.F m.dk.root * 4 /\ ((s.size / 16 : Nat) : Int) <= clus m.F m.dk.root * 4 - fr
  ·rw [zt hc] at hwy
   rw [zq (by rw [hwy,h16]; rintro (h | h) <;> exact h rfl)] at hres
   have hb : DT (clus m.F m.dk.root * 4) fr ((s.size / 16 : Nat) : Int) = true:=zg hc
   rw [hb] at HWI
   obtain ⟨a,rfl⟩ : ∃a : Nat,fr = (a : Int):=⟨fr.toNat,by omega⟩
   have hab : a + s.size / 16 <= 200:=by omega
   have hst:=En hm.sh (EU hm) (by omega) (a : Int) s hs
   have HP:=zh (fun w' h=>PM Y.bs Y.A m.F N hm.sh (by omega) Y.v m.list hm.files hm.list5 (a : Int) hfr s hs (yT Y m++R) w' y_hv h)
   have HF:=zh (yokF hm hst)
   have HJ:=zh hm.jok
   have HS:=zh (fun (m' : ld) w' (h : own w' (yL Y m' R))=>(⟨y_bs h,AK h⟩ : w'.cell? ⟨Y.y,6,none⟩ = some (.pointer (some ⟨Y.bs,0,none⟩)) /\ w'.cell? ⟨Y.y,12,none⟩ = some Y.v))
   generalize putM m.F m.list (a : Int) s = S at *
   obtain ⟨c,F2⟩:=S
   dsimp only at HP HF hres
   have HRES:=zh hres
   have HD:=zh (fun w' h=>G3 Y { m with F:=F2 } HJ.out a (s.size / 16) hab R w' h)
   clear hm hfr hs hres hc hwy hb hst hcr h16
   go_enter Tryz.func91,Tryz.ntmps91
   go_wp2_with fail
   refine HWI.out.mono ?_
   rintro e w2 ⟨rfl,hx2,h2⟩
   have hz:=lj h2
   have hxz:=hx2.drew
   go_upto_region 3 with (fail)
   clear h2 hx2
   have hg : (fun w' : World=>w'.cell? ⟨Y.y,6,none⟩ = some (.pointer (some ⟨Y.bs,0,none⟩)) /\ w'.cell? ⟨Y.y,12,none⟩ = some Y.v) w2.drew:=HS.out _ _ hz
   go_region_held3 (fun w'=>w'.cell? ⟨Y.y,6,none⟩ = some (.pointer (some ⟨Y.bs,0,none⟩)) /\ w'.cell? ⟨Y.y,12,none⟩ = some Y.v) (exact hg) ((go_at_call 194; refine (HP.out _ hz).mono ?_; rintro e w5 ⟨rfl,hx5,hz'⟩; have hxz:=hxz.trans hx5; have hz:=y_F HF.out hz'; have hg:=HS.out _ _ hz))
   all_goals
    clear hg
    go_wp2_with fail
    refine (HD.out _ hz).mono ?_
    rintro e w6 ⟨rfl,hx6,h6⟩
    go_wp2_with fail
    go_ret
    rw [<- HRES.out]
    exact ⟨Y,rfl,rfl,hxz.trans hx6,h6⟩
  ·rw [zq hc] at hwy
   rw [zt (.inr (by rw [hwy]; decide))] at hres
   have hb : DT (clus m.F m.dk.root * 4) fr ((s.size / 16 : Nat) : Int) = false:=zf hc
   rw [hb] at HWI
   subst hres
   have hs2 : (s.size : Int) <= 3200:=by omega
   clear hm hfr hc hwy hb hcr h16
   go_enter Tryz.func91,Tryz.ntmps91
   go_wp2_with fail
   refine HWI.out.mono ?_
   rintro e w2 ⟨rfl,hx2,h2⟩
   go_wp2_with fail
   go_ret
   exact ⟨Y,rfl,rfl,hx2,h2⟩
 ·have d16 : decide ((0 : Int) < (s.size : Int) % 16) = true:=zg (by omega)
  rw [zt (.inl h16)] at hres
  subst hres
  clear hm hfr hs hwy hcr h16 HWI
  go_enter Tryz.func91,Tryz.ntmps91
  go_wp2_with fail
  go_ret
  exact ⟨Y,rfl,rfl,zR w,H⟩
theorem Mf (N : Nat) (Y : YA) (m : ld) (hm : YOk N m) (hN : N < 900000) (R : List SL.HP) (w : World) (H : own w (yL Y m R)) :
  Calls Tryz.prog 106 #[.pointer (some ⟨Y.y,0,none⟩)] w fun e w'=>e = .returned (.tuple #[]) /\ Ext w w' /\ own w' (yL Y (Bz m) R):=by
 have cl:=AK H
 obtain ⟨ao,lb,off,cap,hY,hlc,hcap,hao,-⟩:=(C9 H).form
 rw [hY] at cl
 have HAO:=zh hao
 have HL:=zh hm.files
 have hl5:=hm.list5
 have HYV:=zh hY
 have HW:=zh hm.sh
 have H0:=zh H
 unfold Bz
 clear hao hY hm H
 generalize hll : m.list = l at *
 have HLL:=zh hll
 clear hll
 go_enter Tryz.func106,Tryz.ntmps106
 go_wp2_with fail
 go_loopw [9] (fun iv wr=>∃(q : Nat) (F' : ShM),q <= l.length /\ iv = .int .i64 q /\ lT m.F F' /\ ShW N F' /\ ox F' (l.drop q) = ox m.F l /\ Ext w wr /\ own wr (yL Y { m with F:=F' } R)) (fun iv _=>l.length - (intOf iv).toNat)
 case atStart=>exact ⟨0,m.F,Nat.zero_le _,rfl,lT.refl _,HW.out,rfl,zR w,H0.out⟩
 case round=>
  clear H0 cl
  obtain ⟨q,F',hq,rfl,hsm,hW,hgo,hxr,hown⟩:=hrel
  by_cases hlt : q < l.length
  ·obtain rfl:=HAO.out (by omega)
   have j1 : (0 : Int) <= (q : Int):=by omega
   have j2 : (q : Int) < (l.length : Int):=by omega
   have hv:=C9 hown
   rw [HYV.out] at hv
   have c1:=ym (l:=m.list) hv (by rw [HLL.out]; exact hlt)
   rw [HLL.out] at c1
   rw [BW 0 hlt,ox] at hgo
   have hfx:=HL.out (l.getD q 0) (by simp [hlt])
   obtain ⟨x,mx,hx,hx5,-⟩:=og hfx
   obtain ⟨mi,hmi⟩ : ∃mi,F' x = some mi:=by
    have h2:=hsm.file.2 hfx
    rw [hx] at h2
    obtain ⟨-,-,mi,h3⟩:=h2
    exact ⟨mi,by rw [zn] at h3; exact h3⟩
   rw [hx] at c1 hgo
   rw [zn] at hgo
   have hfi : y9 F' x = put F' x mi.flush:=by unfold y9; rw [hmi]
   have hsm2:=hsm.trans (Fe F' x)
   have hW2:=DF hW hx5
   rw [hfi] at hgo hsm2 hW2
   have i1 : (0 : Int) <= (x : Int):=by omega
   have i2 : (x : Int) < 5:=by omega
   have cb:=y_bs hown
   have cs:=l9 hown hx5
   rw [lO hmi] at cs
   have HFL:=zh (Ii hx5 hmi (hW.sh hN) (yT Y { m with F:=F' }++R) wr hown)
   have HGO:=zh hgo
   have HS2:=zh hsm2
   have HW2:=zh hW2
   have HP:=zh (fun w' h=>y_F (Y:=Y) (m:={ m with F:=F' }) (F':=put F' x mi.flush) (R:=R) (w:=w') (fun k hk=>(lT.put (m':=mi.flush) hmi rfl rfl).none hk) h)
   clear hgo hsm2 hW2 hfi hfx hx hmi hsm hW hv
   go_wp2_with fail
   refine HFL.out.mono ?_
   rintro e w3 ⟨rfl,hx3,h3⟩
   go_wp2_with fail
   go_roundw
   case rel=>exact ⟨q + 1,put F' x mi.flush,by omega,by go_num,HS2.out,HW2.out,HGO.out,hxr.trans hx3,HP.out _ h3⟩
   case measure=>simp [intOf]; omega
  ·obtain rfl : l.length = q:=by omega
   rw [List.drop_of_length_le (Nat.le_refl _)] at hgo
   replace hgo : F' = ox m.F l:=hgo
   subst hgo
   go_wp2_with fail
   go_end0
   have e:=HLL.out
   subst e
   exact ⟨rfl,hxr,hown⟩
end Go.Proofs.YtbpblokfiajpjabGreatDoor
namespace Go.Proofs.YtbpblokfiajpjabGreatDoor
open Go.RowKit Go.SL Go.Crc
structure lx (N : Nat) (m : ld) : Prop where
 ok : YOk N m
 str : ∀j,m.job = some j -> j.st < 4 -> j.kind = 2 -> j.file = -1 \/ j.file∈m.list.tail
theorem YOk.mono {N M : Nat} {m : ld} (h : YOk N m) (hNM : N <= M) : YOk M m:=
 ⟨h.sh.mono hNM,fun k hk e=>by obtain ⟨a,b,c⟩:=h.dv k hk e; exact ⟨a,by omega,by omega⟩,by obtain ⟨a,b,c,d⟩:=h.tp; exact ⟨a,by omega,by omega,d⟩,h.walk,h.root,h.jok,h.job⟩
theorem lx.mono {N M : Nat} {m : ld} (h : lx N m) (hNM : N <= M) : lx M m:=⟨h.ok.mono hNM,h.str⟩
theorem B7 {N : Nat} {m : ld} (h : YOk N m) (hN : N < 900000) (d : l6) : (lm m d).2.top.Ok /\ (lm m d).2.top.writes <= (N + 1 : Nat) /\ (lm m d).2.top.pend.length <= N + 1 /\ 1 <= (lm m d).2.top.fl.length:=by
 obtain ⟨a,b,c,e⟩:=h.tp
 have h1:=DevM.write_ok a 0 d.s (by omega) (by omega)
 obtain ⟨h2,h3,h4⟩:=oU m.top 0 d.s
 unfold lm
 split
 ·exact ⟨h1,by dsimp only; omega,by dsimp only; omega,by dsimp only; omega⟩
 ·refine ⟨DevM.flush_ok h1,?_,?_,?_⟩
  ·simp only [DevM.flush]; omega
  ·simp [DevM.flush]
  ·simp only [DevM.flush,ob]; omega
theorem lx.jobs {N : Nat} {m : ld} (h : lx N m) {j j' : JobM} (hj : m.job = some j) (hok : j'.Ok) (hs : oO j j') (hst : j'.st < 4 -> j.st < 4) : lx N { m with job:=some j' }:=by
 refine ⟨⟨h.ok.sh,h.ok.dv,h.ok.tp,h.ok.walk,h.ok.root,fun k hk=>by cases hk; exact hok,fun k hk h4=>?_⟩,fun k hk h4 h2=>?_⟩
 ·cases hk
  obtain ⟨h1,h2,h3,h5,h6⟩:=h.ok.job j hj (hst h4)
  exact ⟨h1.same hs,hs.1.trans h2,hs.2.1.trans h3,hs.2.2.1.trans h5,hs.2.2.2.1.trans h6⟩
 ·cases hk
  have:=h.str j hj (hst h4) (by rw [<- hs.2.1]; exact h2)
  rw [hs.2.2.1]
  exact this
theorem Kc {N : Nat} {m : ld} (h : lx N m) (on : Bool) : lx N (zm m on).2:=by
 unfold zm
 cases hj : m.job with
 | none=>exact h
 | some j=>
  dsimp only
  split
  ·exact h
  ·exact h.jobs hj (IK (h.ok.jok j hj) on) (Fn j on) (fun _=>by omega)
theorem K7 {N : Nat} {m : ld} (h : lx N m) (n : Int) : lx N (zX m n).2:=by
 unfold zX
 split
 ·exact h
 ·cases hj : m.job with
  | none=>exact h
  | some j=>
   dsimp only
   split
   ·exact h
   ·exact h.jobs hj (NM (h.ok.jok j hj) n) (Lr j n) (fun _=>by omega)
theorem lx.shelf {N M : Nat} {m : ld} (h : lx N m) (hNM : N <= M) {F' : ShM} (hs : lT m.F F') (hW : ShW M F') : lx M { m with F:=F' }:=by
 have hM:=h.mono hNM
 refine ⟨⟨hW,fun k hk e=>?_,hM.ok.tp,?_,?_,h.ok.jok,fun j hj h4=>?_⟩,h.str⟩
 ·exact hM.ok.dv k hk ((hs.none hk).1 e)
 ·exact Jf hs h.ok.root h.ok.walk
 ·exact hs.file.2 h.ok.root
 ·obtain ⟨h1,h2⟩:=h.ok.job j hj h4
  exact ⟨h1.files fun x hx=>hs.file.2 hx,h2⟩
theorem No (n : Nat) : ∀(j : JobM) (c : Int),(lQ j c n).st < 4 -> j.st < 4:=by
 induction n with
 | zero=>intro j c h; exact h
 | succ n ih=>
  intro j c h
  rw [lQ] at h
  have h1:=ih _ _ h
  unfold yu at h1
  split at h1
  ·rename_i h2; exact h2.1
  ·exact h1
theorem ED {N : Nat} {m : ld} (h : lx N m) (a b : Int) : lx N (yy m a b):=by
 unfold yy
 cases hj : m.job with
 | none=>exact h
 | some j=>
  dsimp only
  split
  ·exact h
  ·exact h.jobs hj (IF _ (h.ok.jok j hj) _) (CR _ j _) (No _ j _)
theorem J0 {N : Nat} {m : ld} (h : lx N m) (hN : N + 1000 < 900000) (fr : Int) (s : ByteArray) (hs : s.size <= 3200) : lx (N + 1000) (oG m fr s).2:=by
 have hst:=En h.ok.sh (EU h.ok) (by omega) fr s hs
 unfold oG
 split
 ·exact h.mono (by omega)
 ·exact ED (h.shelf (by omega) hst.same (h.ok.sh.step hst)) _ _
theorem KR {N : Nat} {m : ld} (h : lx N m) (hN : N + 1000 < 900000) (fr n : Int) (hn : n <= 200) : lx (N + 1000) (oD m fr n).2:=by
 have hst:=DG h.ok.sh (EU h.ok) (by omega) fr n hn
 unfold oD
 split
 ·exact h.mono (by omega)
 ·exact ED (h.shelf (by omega) hst.same (h.ok.sh.step hst)) _ _
theorem Kj {N : Nat} {m : ld} (h : lx N m) : lx N (Bz m):=
 h.shelf (Nat.le_refl N) zU (Ew h.ok.sh h.ok.files)
theorem Ip {d : DevM} (h : d.Ok) {n : Int} (h0 : 0 <= n) (h1 : n <= 9223372036854775807) : ({ d with fail:=n } : DevM).Ok:=⟨h.n,h.fl,h.p,h.pend,⟨by dsimp only; omega,h1⟩,h.writes⟩
theorem Om {N : Nat} {m : ld} (h : lx N m) (file n : Int) (hn : oy n) : lx N (armM m file n).2:=by
 unfold armM
 split
 ·exact h
 ·rename_i hb
  have h0 : 0 <= n:=by omega
  have h1 : n <= 9223372036854775807:=hn.2
  split
  ·obtain ⟨a,b,c,e⟩:=h.ok.tp
   exact ⟨⟨h.ok.sh,h.ok.dv,⟨Ip a h0 h1,b,c,e⟩,h.ok.walk,h.ok.root,h.ok.jok,h.ok.job⟩,h.str⟩
  ·cases e : m.F file.toNat with
   | none=>
    refine ⟨⟨h.ok.sh,fun k hk e2=>?_,h.ok.tp,h.ok.walk,h.ok.root,h.ok.jok,h.ok.job⟩,h.str⟩
    dsimp only at e2 ⊢
    unfold setD
    by_cases hk2 : k = file.toNat
    ·rw [zt hk2]
     obtain ⟨a,b,c⟩:=h.ok.dv file.toNat (by omega) e
     exact ⟨Ip a h0 h1,b,c⟩
    ·rw [zq hk2]
     exact h.ok.dv k hk e2
   | some i=>
    have hi:=h.ok.sh.ok file.toNat i (by omega) e
    refine h.shelf (Nat.le_refl N) (lT.put e rfl rfl) ⟨fun k x hk hx=>?_,fun k x hk hx=>?_,fun k x hk hx=>?_⟩
    all_goals
     unfold put at hx
     by_cases hk2 : k = file.toNat
     ·rw [zt hk2] at hx
      cases hx
      first | exact { hi with d:=Ip hi.d h0 h1 } | exact h.ok.sh.wr file.toNat i (by omega) e | exact h.ok.sh.pend file.toNat i (by omega) e
     ·rw [zq hk2] at hx
      first | exact h.ok.sh.ok k x hk hx | exact h.ok.sh.wr k x hk hx | exact h.ok.sh.pend k x hk hx
theorem BO {m : ld} {d : l6} (h : (lm m d).1≠0) : (lm m d).2 = { m with top:=(lm m d).2.top }:=by
 revert h
 unfold lm
 split
 ·exact fun _=>rfl
 ·exact fun h=>absurd rfl h
theorem Bb {m : ld} {d : l6} (h : (lm m d).1 = 0) : (lm m d).2 = { m with top:=(lm m d).2.top,dk:=d }:=by
 revert h
 unfold lm
 split
 ·rename_i h; exact fun h2=>absurd h2 h
 ·exact fun _=>rfl
theorem lx.desk {N : Nat} {m : ld} (h : lx N m) {t : DevM} (ht : t.Ok /\ t.writes <= (N + 1 : Nat) /\ t.pend.length <= N + 1 /\ 1 <= t.fl.length) : lx (N + 1) { m with top:=t }:=
 have h1:=h.mono (Nat.le_succ N)
 ⟨⟨h1.ok.sh,h1.ok.dv,ht,h.ok.walk,h.ok.root,h.ok.jok,h.ok.job⟩,h.str⟩
theorem lx.bare {N : Nat} {m : ld} (h : lx N m) {t : DevM} (ht : t.Ok /\ t.writes <= (N + 1 : Nat) /\ t.pend.length <= N + 1 /\ 1 <= t.fl.length) {root : Int} (hr : lq m.F root) {l : List Int} (hw : lk m.F root = (l,0)) {oj : Option JobM} (ho : ∀j,oj = some j -> j.Ok /\ ¬j.st < 4) :
  lx (N + 1) { m with top:=t,dk:=lw root,job:=oj,list:=l }:=
 have h1:=h.mono (Nat.le_succ N)
 ⟨⟨h1.ok.sh,h1.ok.dv,ht,hw,hr,fun j hj=>(ho j hj).1,fun j hj h4=>absurd h4 (ho j hj).2⟩,fun j hj h4=>absurd h4 (ho j hj).2⟩
theorem Dm (j : JobM) (b : Bool) : ¬(endM j b).st < 4:=by cases b <;> simp [endM]
theorem Ie {N : Nat} {m : ld} (h : lx N m) (hN : N < 900000) {j : JobM} (hj : m.job = some j) {root : Int} (hr : lq m.F root) (hw : (lk m.F root).2 = 0) (well : Bool) : lx (N + 1) (AN m j root well).2:=by
 have ht:=B7 h.ok hN (lw root)
 unfold AN
 by_cases hc : (lm m (lw root)).1≠0
 ·rw [zt hc,BO hc]
  exact h.desk ht
 ·rw [zq hc]
  have hc0 : (lm m (lw root)).1 = 0:=Decidable.not_not.1 hc
  have hy:=Bb hc0
  generalize (lm m (lw root)).2 = M at *
  rw [hy]
  exact h.bare ht hr (l:=(lk m.F root).1) (by rw [<- hw]) (oj:=some (endM j well)) (fun k hk=>by cases hk; exact ⟨LS (h.ok.jok j hj) well,Dm j well⟩)
theorem D4 {N : Nat} {m : ld} (h : lx N m) (hN : N < 900000) : lx (N + 1) (yQ m).2:=by
 unfold yQ
 cases hj : m.job with
 | none=>exact h.mono (Nat.le_succ N)
 | some j=>
  dsimp only
  split
  ·exact h.mono (Nat.le_succ N)
  ·exact Ie h hN hj h.ok.root (by rw [h.ok.walk]) false
theorem DX {F : ShM} {j : JobM} (hk : j.kind≠2) : lT F (li F j).2.1 /\ (li F j).2.2 = j:=by
 unfold li
 split
 ·exact ⟨lT.refl F,rfl⟩
 ·split
  ·exact ⟨lT.refl F,rfl⟩
  ·exact ⟨zU,rfl⟩
theorem Fz {N : Nat} {m : ld} (h : lx N m) (hN : N + 1 < 900000) : lx (N + 2) (yD m).2:=by
 unfold yD
 cases hj : m.job with
 | none=>exact h.mono (by omega)
 | some j=>
  dsimp only
  split
  ·exact h.mono (by omega)
  ·rename_i h4
   obtain ⟨hS,hl,hk,hf,hr⟩:=h.ok.job j hj (by omega)
   split
   ·exact h.mono (by omega)
   ·rename_i h2
    have hkj : j.kind≠2:=by rw [hk]; exact h2
    obtain ⟨hs,hjj⟩:=DX (F:=m.F) hkj
    have hW:=AE h.ok.sh (by omega) (h.ok.jok j hj) hS
    have hg : lx (N + 1) { m with F:=(li m.F j).2.1,job:=some (li m.F j).2.2 }:=by
     have:=h.shelf (Nat.le_succ N) hs hW
     rw [hjj]
     rw [show ({ m with F:=(li m.F j).2.1,job:=some j } : ld) = { m with F:=(li m.F j).2.1 } by rw [<- hj]]
     exact this
    split
    ·exact hg.mono (by omega)
    ·rename_i hc
     have hc0 : (li m.F j).1 = 0:=Decidable.not_not.1 hc
     have hff:=hS.file hkj
     rw [hf] at hff
     have hwk:=(El (hS.file hkj) hkj hc0).2.2
     rw [hf] at hwk
     exact Ie hg (by omega) rfl (hs.file.2 hff) hwk true
end Go.Proofs.YtbpblokfiajpjabGreatDoor
namespace Go.Proofs.YtbpblokfiajpjabGreatDoor
open Go.RowKit Go.SL Go.Crc
attribute [local go_sem ↓] Go.wp_at_zero Go.wp_at_succ
theorem Md (m : ld) (f b : Int) : (l7 m f b).2.top = m.top:=by
 unfold l7
 split
 ·rfl
 ·split
  ·rfl
  ·split <;> rfl
theorem KU (m : ld) (f b : Int) : (l7 m f b).2.list = m.list:=by
 unfold l7
 split
 ·rfl
 ·split
  ·rfl
  ·split <;> rfl
theorem KH {m : ld} {f b : Int} (h : (l7 m f b).1 = 0) : 0 <= f /\ f < 5:=by
 unfold l7 at h
 by_cases hb : f < 0 \/ 5 <= f
 ·rw [zt hb] at h; exact absurd h (by show ¬((1 : Int) = 0); decide)
 ·omega
theorem Lg (m : ld) (f b : Int) : 0 <= (l7 m f b).1:=by
 unfold l7
 split
 ·show (0 : Int) <= 1; decide
 ·split
  ·show (0 : Int) <= 5; decide
  ·split
   ·exact Ea _ _ _ _
   ·exact Int.le_refl 0
theorem Lf (m : ld) (d : l6) : (lm m d).2.list = m.list:=by unfold lm; split <;> rfl
theorem BM (m : ld) (d : l6) : 0 <= (lm m d).1:=by
 unfold lm
 split
 ·exact ow _ _ _
 ·exact Int.le_refl 0
theorem PF (l : List Int) : ∀u∈lr l,u.oneCell' = true:=fun u hu=>by
 unfold lr at hu
 obtain ⟨x,-,rfl⟩:=List.mem_map.1 hu
 rfl
theorem OD {w : World} {l : List Int} {ao : Option Addr} {cap : Nat} (h : lV w (.slice ao l.length cap) l) : ∀ad,ao = some ad -> ∀j u,(lr l)[j]? = some u -> w.cell? (ad.add j) = some u:=by
 intro ad had j u hu
 have hj : j < l.length:=by
  have:=(zS.1 hu).1
  simpa [lr] using this
 obtain ⟨ao',b,off,cap',hv,-,-,h4,h5⟩:=h.form
 simp only [Value.slice.injEq] at hv
 obtain ⟨rfl,-,-⟩:=hv
 have h6:=h4 (by omega)
 rw [had] at h6
 simp only [Option.some.injEq] at h6
 subst h6
 have h7:=h5 j hj
 have h8 : u = .int .i64 (l.getD j 0):=by
  unfold lr at hu
  rw [List.getElem?_map,List.getElem?_eq_getElem hj] at hu
  simp only [Option.map_some,Option.some.injEq] at hu
  rw [<- hu,List.getD_eq_getElem?_getD,List.getElem?_eq_getElem hj]
  rfl
 rw [h8,show (⟨b,off,none⟩ : Addr).add j = ⟨b,off + j,none⟩ by simp [Addr.add]]
 exact h7
theorem N7 (N : Nat) (Y : YA) (m : ld) (hm : YOk N m) (hN : N < 900000) (file : Int) (R : List SL.HP) (w : World) (H : own w (yL Y m R)) :
  Calls Tryz.prog 110 #[.pointer (some ⟨Y.y,0,none⟩),.int .i64 file] w (yj Y (AS m file) R w):=by
 have HB:=zh (zH Y m R w H)
 generalize hres : AS m file = res
 unfold AS at hres
 cases hb : yY m with
 | true=>
  rw [zt hb] at hres
  subst hres
  rw [hb] at HB
  clear hb
  go_enter Tryz.func110,Tryz.ntmps110
  go_wp2_with fail
  refine HB.out.mono ?_
  rintro e w' ⟨rfl,rfl⟩
  go_wp2_with fail
  go_ret
  exact ⟨Y,rfl,rfl,zR _,H⟩
 | false=>
  rw [zq (by rw [hb]; decide)] at hres
  rw [hb] at HB
  obtain ⟨ao,lb,off,cap,hY,hlc,hcap,hao,-⟩:=(C9 H).form
  have cl:=AK H
  rw [hY] at cl
  have hl5:=hm.list5
  by_cases h4 : m.list.length = 4
  ·rw [zt h4] at hres
   subst hres
   rw [h4] at cl
   clear hb h4
   go_enter Tryz.func110,Tryz.ntmps110
   go_wp2_with fail
   refine HB.out.mono ?_
   rintro e w' ⟨rfl,rfl⟩
   go_wp2_with fail
   go_ret
   exact ⟨Y,rfl,rfl,zR _,H⟩
  ·rw [zq h4] at hres
   have d4 : ((m.list.length : Int) == 4) = false:=by rw [zb]; omega
   have cr:=yW H
   have HBL:=zh (G1 N Y m hm hN file m.dk.root R w H)
   have hcode:=Lg m file m.dk.root
   have htop:=Md m file m.dk.root
   have hlist:=KU m file m.dk.root
   have hrg:=@KH m file m.dk.root
   have htw:=hm.tp.2.1
   have htp:=hm.tp.2.2.1
   have hto:=hm.tp.1
   generalize l7 m file m.dk.root = B at *
   obtain ⟨c,m1⟩:=B
   dsimp only at hcode htop hlist hrg hres
   have HRES:=zh hres
   have HRG:=zh hrg
   clear hb h4 hres hrg hm
   go_enter Tryz.func110,Tryz.ntmps110
   go_wp2_with fail
   refine HB.out.mono ?_
   rintro e w' ⟨rfl,rfl⟩
   go_wp2_with fail
   refine HBL.out.mono ?_
   rintro e w2 ⟨Y2,hy2,rfl,hx2,h2⟩
   dsimp only at h2
   clear cl cr d4
   by_cases hc : c = 0
   ·have hrg:=HRG.out hc
    subst hc
    rw [zq (by decide)] at HRES
    have HN:=zh (fun R' w' h=>BA file R' w' h)
    have HW:=zh (fun w' h=>zN Y2 m1 (by rw [htop]; exact hto) (by rw [htop]; omega) (by rw [htop]; omega) (lw file) (C8 hrg.1 hrg.2) R w' h)
    rw [hy2] at HW
    have hwc:=BM m1 (lw file)
    have hwl:=Lf m1 (lw file)
    generalize lm m1 (lw file) = W at *
    obtain ⟨wc,m2⟩:=W
    dsimp only at hwc hwl HW HRES
    dsimp only
    rw [lL]
    clear HRG hrg htw htp hto
    go_wp2_with fail
    refine (HN.out _ _ h2).mono ?_
    rintro e w3 ⟨rfl,hx3,h3⟩
    go_wp2_with fail
    refine (HW.out _ h3).mono ?_
    rintro e w4 ⟨rfl,hx4,h4⟩
    by_cases hwz : wc = 0
    ·subst hwz
     rw [zq (by decide)] at HRES
     rw [lL]
     have hll : m2.list = m.list:=hwl.trans hlist
     have hv:=C9 h4
     obtain ⟨ao2,lb2,off2,cap2,hY2,-,-,hao2,-⟩:=hv.form
     have ha:=lf h4 (.cells #[.int .i64 file] 3)
     have hxa:=(((hx2.trans hx3).trans hx4)).alloc (.cells #[.int .i64 file] 3)
     have hb : own _ (row 3 1 (.slice (some ⟨w4.heap.size,0,none⟩) 1 1) 1 [.int .i64 file]::yL Y2 m2 R):=yt (cap:=1) (n:=1) (sz:=1) 0 ha rfl (Nat.le_refl _) (by decide) rfl rfl
     have hvb:=C9 (oY hb)
     rw [hY2,hll] at hvb
     rw [hll] at hao2
     have cl:=AK (oY hb)
     rw [hY2,hy2,hll] at cl
     have hm5 : 1 + m.list.length <= maxLen:=by simp only [maxLen]; omega
     have HNW:=zh (OD hvb)
     have HAO2:=zh hao2
     clear hvb hao2 h2 h3 ha
     go_wp2_with (first | (at_builtin; refine yb rfl _ _ 95 rfl 0 3 Tryz.underlying95 Ky rfl (by decide) rfl hb rfl ao2 m.list.length cap2 (lr m.list) rfl (by simp [lr]) HNW.out (fun h=>by by_cases h0 : 0 < m.list.length; exact absurd (HAO2.out h0) (by rw [h]; simp); omega) (PF _) hm5 (by omega) ?_))
     intro v' w5 h5 hx5
     have hlen : (file::m.list).length = 1 + m.list.length:=by rw [List.length_cons]; omega
     have h6 : own w5 (yL Y2 m2 (row 3 1 v' (file::m.list).length (lr (file::m.list))::R)):=by
      have:=oY h5
      rw [hlen]
      exact this
     obtain ⟨vo,vb,vof,vcap,rfl,-,-,-,-⟩:=(oM 15 h6 rfl).form
     clear cl
     have cl:=AK h6
     have fl:=Di h6 12
     have h7:=DD h6
     rw [hy2] at cl fl
     have hx7:=(hxa.trans hx5).setCell (⟨Y.y,12,none⟩ : Addr) (.slice vo (file::m.list).length vcap)
     clear h5 h6 hb hlen
     go_wp2_with fail
     go_ret
     rw [<- HRES.out]
     exact ⟨{ Y2 with v:=.slice vo (file::m.list).length vcap },hy2,rfl,hx7,by rw [<- hy2]; exact h7⟩
    ·rw [zt hwz] at HRES
     rw [lu (e:=wc) (by omega)]
     go_wp2_with fail
     go_ret
     rw [<- HRES.out]
     exact ⟨Y2,hy2,by rw [lu (e:=wc) (by omega)]; rfl,(hx2.trans hx3).trans hx4,h4⟩
   ·rw [zt hc] at HRES
    dsimp only
    rw [lu (e:=c) (by omega)]
    go_wp2_with fail
    go_ret
    rw [<- HRES.out]
    exact ⟨Y2,hy2,by rw [lu (e:=c) (by omega)]; rfl,hx2,h2⟩
def oW (bs : Nat) (A : Nat -> Nat×Nat×Nat) (F : ShM) (res : Option JobM×Int) (R : List SL.HP) (w : World) (e : Ending) (w' : World) : Prop:=
 match res with
 | (none,f)=>e = .returned (.tuple #[.pointer none,errV f]) /\ Ext w w' /\ own w' (shL bs A F++R)
 | (some j,_)=>∃bj bt bb v,e = .returned (.tuple #[.pointer (some ⟨bj,0,none⟩),.nilIface]) /\ Ext w w' /\ own w' (shL bs A F++(jobL bs bj bt bb v j++(row 3 1 v j.list.length (lr j.list)::R)))
theorem oW.no {bs : Nat} {A : Nat -> Nat×Nat×Nat} {F : ShM} {f : Int} {R : List SL.HP} {w : World} {e : Ending} {w' : World} (h1 : e = .returned (.tuple #[.pointer none,errV f])) (h2 : Ext w w') (h3 : own w' (shL bs A F++R)) : oW bs A F (none,f) R w e w':=⟨h1,h2,h3⟩
theorem oW.yes {bs : Nat} {A : Nat -> Nat×Nat×Nat} {F : ShM} {j : JobM} {R : List SL.HP} {w : World} {e : Ending} {w' : World} (bj bt bb : Nat) (v : Value) (h1 : e = .returned (.tuple #[.pointer (some ⟨bj,0,none⟩),.nilIface])) (h2 : Ext w w') (h3 : own w' (shL bs A F++(jobL bs bj bt bb v j++(row 3 1 v j.list.length (lr j.list)::R)))) : oW bs A F (some j,0) R w e w':=⟨bj,bt,bb,v,h1,h2,h3⟩
theorem CL {F : ShM} {j : JobM} (h : (yP F j).Ok) (q : Nat) : ({ j with x:=oE F j q } : JobM).Ok:={ h with x:=Gf F j h.n q }
theorem CK {j : JobM} (h : j.st = 2) : yX j = j:=by unfold yX; rw [h]; rfl
theorem EX {bs : Nat} {A : Nat -> Nat×Nat×Nat} {F : ShM} {bj bt bb : Nat} {v : Value} {j : JobM} {q : Nat} {L : List SL.HP} {w : World} (H : own w ((shL bs A F++(jobL bs bj bt bb v { j with x:=oE F j q }++L)).set 7 (BR bt j.n (ou j.n (oE F j q) (q : Int) (oH F { j with x:=oE F j q } (q : Int))).2))) :
  own w (shL bs A F++(jobL bs bj bt bb v { j with x:=oE F j (q + 1) }++L)):=H
theorem QE (bs : Nat) (A : Nat -> Nat×Nat×Nat) (F : ShM) (hF : ShOk F) (root kind file rate burst : Int) (hl5 : (lk F root).1.length <= 5) (hz : ¬(lk F root).2≠0) (h0 : ¬(lk F root).1.length = 0) (ho : ¬AB rate burst = false) (hk1 : kind = 1) (R : List SL.HP) (w : World) (H : own w (shL bs A F++R)) :
  Calls Tryz.prog 15 #[.pointer (some ⟨bs,0,none⟩),.agg #[.int .i64 root,.int .i64 kind,.int .i64 file,.int .i64 rate,.int .i64 burst]] w (oW bs A F (newM F root kind file rate burst) R w):=by
 have HK1:=zh hk1
 clear hk1
 have ha:=lf H (.cells #[.int .i64 root,.int .i64 kind,.int .i64 file,.int .i64 rate,.int .i64 burst] 24)
 have hxa:=(zR w).alloc (.cells #[.int .i64 root,.int .i64 kind,.int .i64 file,.int .i64 rate,.int .i64 burst] 24)
 have hb : own _ (shL bs A F++(_::R)):=lD (shL bs A F) ha
 have hwk:=fun R' w' h=>Bx bs A F hF root R' w' h
 have hfl:=yG F root
 have hwc : 0 <= (lk F root).2:=Aa
 have HWK:=zh hwk
 unfold AW at HWK
 generalize hres : newM F root kind file rate burst = res
 unfold newM at hres
 rw [zq hz] at hres
 have hz0 : (lk F root).2 = 0:=by omega
 rw [hz0,show errV 0 = .nilIface from rfl] at HWK
 rw [zq h0] at hres
 rw [zq ho] at hres
 have HRES:=zh hres
 clear hres
 have hroot:=D9 h0
 obtain ⟨k,m,hxk,hk,hFk⟩:=og hroot
 have hcl:=yH hF hroot
 have hcm : clus F root = m.c:=by rw [hxk]; exact y8 hFk
 have HB:=zh (fun R' w' h=>Da rate burst R' w' (by simpa using ho) h)
 have HH:=zh (fun R' w' h=>zF (b:=bs) (A:=A) hk hFk R' w' h)
 have HN:=zh (fun R' w' h=>KM (clus F root).toNat (by omega) R' w' h)
 have hcn : (((clus F root).toNat : Nat) : Int) = m.c:=by omega
 simp only [hcn] at HN
 have HCN:=zh hcn
 clear hcn
 have HF:=zh hF
 have HFL:=zh hfl
 have i1 : (0 : Int) <= (k : Int):=by omega
 have i2 : (k : Int) < 5:=by omega
 subst hxk
 have hok : ∀deep,kind = 1 \/ kind = 2 \/ kind = 3 -> deep <= (lk F (k : Int)).1.length -> (yP F (jNew F k kind file rate burst (lk F (k : Int)).1 deep)).Ok:=fun deep hkk hd=>Dg hF hroot hl5 h0 (by simpa using ho) hkk hd
 have HOK:=zh hok
 clear hok
 generalize hL : (lk F (k : Int)).1 = l at *
 have l0 : ((l.length : Int) == 0) = false:=by rw [zb]; omega
 go_enter Tryz.func15,Tryz.ntmps15
 go_upto_region 1 with (fail)
 generalize w.heap.size = g at *
 generalize w.alloc (.cells #[.int .i64 (k : Int),.int .i64 kind,.int .i64 file,.int .i64 rate,.int .i64 burst] 24) = w1 at *
 have c0:=(la 6 hb rfl).1 0
 go_wp2_with fail
 refine (HWK.out _ _ hb).mono ?_
 rintro e w2 ⟨v,rfl,hx2,h2⟩
 obtain ⟨ao,lb,off,cap,rfl,-,-,-,-⟩:=(oM 0 h2 rfl).form
 have d3:=(la 7 h2 rfl).1 3
 have d4:=(la 7 h2 rfl).1 4
 clear c0
 go_wp2_with fail
 refine (HB.out _ _ h2).mono ?_
 rintro e w3 ⟨rfl,hx3,h3⟩
 generalize w2.heap.size = bb at *
 have h3s:=lp [yS bb rate burst burst,row 3 1 (.slice ao l.length cap) l.length (lr l)] (shL bs A F) h3
 clear d3 d4
 have d0:=(la 8 h3s rfl).1 0
 have g1:=l9 h3s hk
 rw [lO hFk] at g1
 go_upto_region 9 with (fail)
 go_still_tail 6,(by kernel_rfl)
 change wpList _ _ _ _ _ w3.drew
 go_wp2_with fail
 refine (HH.out _ _ (lj h3s)).mono ?_
 rintro e w4 ⟨rfl,hx4,h4⟩
 unfold oF
 have hf0:=Bv m.c m.p m.b
 clear d0 g1
 go_wp2_with fail
 refine (HN.out _ _ h4).mono ?_
 rintro e w5 ⟨bt,rfl,hx5,h5⟩
 have d1:=(la 9 h5 rfl).1 1
 have d2:=(la 9 h5 rfl).1 2
 go_upto_region 14 with (fail)
 have h6:=lf h5 (.cells #[.pointer (some ⟨bs,0,none⟩),.int .i64 kind,.int .i64 file,.slice ao l.length cap,.int .i64 0,.pointer (some ⟨bt,0,none⟩),.int .i64 0,.int .i64 2,.pointer (some ⟨bb,0,none⟩)] 137)
 have hx6:=(hx5.alloc (.cells #[.pointer (some ⟨bs,0,none⟩),.int .i64 kind,.int .i64 file,.slice ao l.length cap,.int .i64 0,.pointer (some ⟨bt,0,none⟩),.int .i64 0,.int .i64 2,.pointer (some ⟨bb,0,none⟩)] 137))
 generalize w5.heap.size = bj at *
 generalize w5.alloc (.cells #[.pointer (some ⟨bs,0,none⟩),.int .i64 kind,.int .i64 file,.slice ao l.length cap,.int .i64 0,.pointer (some ⟨bt,0,none⟩),.int .i64 0,.int .i64 2,.pointer (some ⟨bb,0,none⟩)] 137) = w6 at *
 clear d1 d2
 have d1:=(la 10 h6 rfl).1 1
 have d2:=(la 10 h6 rfl).1 2
 have f4:=(la 0 h6 rfl).2 4
 have hrow:=oM 9 h6 rfl
 have HPL:=zh (Jw _ l file hl5 w6 hrow)
 have hX:=(((hxa.trans hx2).trans hx3).drew.trans hx4).trans hx6
 have HX:=zh hX
 have H6:=zh h6
 have HBAD : ∀n,own (w6.drewN n) (shL bs A F++R):=fun n=>lI n (lg (lg (le 8 (le 9 (le 10 h6 rfl) rfl) rfl)))
 have hpr:=CV l file
 have HP:=zh hL
 clear hL
 generalize yl l file = pl at *
 clear hrow hX hx2 hx3 hx4 hx5 hx6 hxa h2 h3 h3s h4 h5 hb ha H HWK HB HN HH hwk
 go_wp2_with fail
 refine HPL.out.mono ?_
 rintro e w7 ⟨rfl,rfl⟩
 have gs:=@l9 bs A F _ w6 (lp [_,_] (shL bs A F) h6)
 have H7:=zh h6
 clear h6 hF hl5 h0 hz hz0 hwc HPL hcl hcm
 have hk1:=HK1.out
 clear HK1
 subst hk1
 have hres:=HRES.out
 rw [zt rfl] at hres
 by_cases hfi : E8 F file = false
 ·rw [zt hfi] at hres
  subst hres
  have hnf : ¬lq F file:=fun h=>absurd (BF.2 h) (by rw [hfi]; decide)
  clear hfi HRES
  by_cases hf0 : file < 0
  ·have df : decide (file < 0) = true:=zg hf0
   go_upto_region 17 with (fail)
   go_quiet (fail)
   go_wp2_with fail
   go_ret2
   exact oW.no rfl (HX.out.drewN _) (HBAD _)
  ·have df : decide (file < 0) = false:=zf hf0
   by_cases hf5 : 5 <= file
   ·have dg : decide (5 <= file) = true:=zg hf5
    go_upto_region 17 with (fail)
    go_quiet (fail)
    go_wp2_with fail
    go_ret2
    exact oW.no rfl (HX.out.drewN _) (HBAD _)
   ·have dg : decide (5 <= file) = false:=zf hf5
    obtain ⟨q,rfl⟩ : ∃q : Nat,file = (q : Int):=⟨file.toNat,by omega⟩
    have q1 : (0 : Int) <= (q : Int):=by omega
    have q2 : (q : Int) < 5:=by omega
    have hFq : F q = none:=by
     cases e : F q with
     | none=>rfl
     | some x=>exact (hnf ⟨by omega,by omega,x,by rw [zn]; exact e⟩).elim
    have gq:=gs (k:=q) (by omega)
    rw [Gz hFq] at gq
    clear gs hnf
    go_upto_region 17 with (fail)
    go_quiet (fail)
    go_wp2_with fail
    go_ret2
    exact oW.no rfl (HX.out.drewN _) (HBAD _)
 ·rw [zq hfi] at hres
  obtain ⟨hq0,hq5',m2,hFq'⟩:=(BF.1 (by simpa using hfi) : lq F file)
  obtain ⟨q,rfl⟩ : ∃q : Nat,file = (q : Int):=⟨file.toNat,by omega⟩
  have hq5 : q < 5:=by omega
  have hFq : F q = some m2:=by rw [zn] at hFq'; exact hFq'
  have df : decide ((q : Int) < 0) = false:=zf (by omega)
  have dg : decide (5 <= (q : Int)) = false:=zf (by omega)
  have q1 : (0 : Int) <= (q : Int):=by omega
  have q2 : (q : Int) < 5:=by omega
  have gq:=gs (k:=q) hq5
  rw [lO hFq] at gq
  have hbk : bkOf F (q : Int) = m2.b:=by unfold bkOf; rw [zn,hFq]
  have hcl2 : clus F (q : Int) = m2.c:=y8 hFq
  have hclk : clus F (k : Int) = m.c:=y8 hFk
  rw [hbk,hcl2,hclk] at hres
  have HH2:=zh (fun R' w' h=>zF (b:=bs) (A:=A) hq5 hFq R' w' h)
  have HRES2:=zh hres
  clear gs hfi hq0 hq5' hFq' hbk hcl2 hclk HRES hres
  go_upto_region 17 with (fail)
  go_quiet (fail)
  have h8 : own (w6.drewN nq) _:=lI nq H7.out
  have hx8:=zh (HX.out.drewN nq)
  have HB8:=zh (HBAD nq)
  have e1:=(la 10 h8 rfl).1 2
  clear d1 d2 gq HBAD HX
  generalize w6.drewN nq = w8 at *
  have gq : w8.cell? ⟨bs,q,none⟩ = some (.pointer (some ⟨(A q).1,0,none⟩)):=by have:=l9 (lp [_,_] (shL bs A F) h8) hq5; rw [lO hFq] at this; exact this
  by_cases hp0 : 0 <= pl
  ·rw [zt (.inl hp0)] at HRES2
   have dp : decide (0 <= pl) = true:=zg hp0
   clear hp0
   go_upto_region 19 with (fail)
   go_quiet (fail)
   go_wp2_with fail
   go_ret2
   rw [<- HRES2.out]
   exact oW.no rfl (hx8.out.drewN _) (lI _ HB8.out)
  ·have dp : decide (0 <= pl) = false:=zf hp0
   have HP0:=zh hp0
   clear hp0
   have hx9:=zh hx8.out.drew
   have h9:=lp [_,_] (shL bs A F) (lj h8)
   have hgq:=fun (w' : World) (L : List SL.HP) (h : own w' (shL bs A F++L))=>l9 h hq5
   rw [lO hFq] at hgq
   have HGQ:=zh hgq
   clear hx8 HB8 e1 gq hgq
   have f2:=Lz m2.c m2.p m2.b
   have f0:=Bv m2.c m2.p m2.b
   unfold oF at HH2
   go_upto_region 19 with (fail)
   refine wp_region_held_drew (S:=(fun w'=>w'.cell? ⟨g,2,none⟩ = some (.int .i64 (q : Int)) /\ w'.cell? ⟨bs,q,none⟩ = some (.pointer (some ⟨(A q).1,0,none⟩)))) (by kernel_rfl) ⟨(la 10 h9 rfl).1 2,HGQ.out _ _ h9⟩ (fun hHeld=>?_)
   refine tk 0 ?_
   refine tk 1 ?_
   refine tk 2 ?_
   refine tk 3 ?_
   refine tk 4 ?_
   refine tk 5 ?_
   refine tk 6 ?_
   refine tk 7 ?_
   refine tk 8 ?_
   try simp only [Act.put,tA,tB,tC,tD,tE,tF]
   refine rd 9 rfl fun K hK=>?_
   go_simp
   go_at_call 71
   refine (HH2.out _ _ h9).mono ?_
   rintro e wa ⟨rfl,hxa,ha⟩
   go_simp
   refine hK.out _ _ ⟨(la 10 ha rfl).1 2,HGQ.out _ _ ha⟩ (fun _=>?_)
   clear hK K h9
   try simp only [Act.put,tA,tB,tC,tD,tE,tF]
   by_cases hbb : m2.b = -1
   ·have db : (m2.b != -1) = false:=by rw [hbb]; rfl
    have HBB:=zh hbb
    clear hbb
    refine tk 10 ?_
    refine tk 11 ?_
    refine tk 12 ?_
    refine tk 13 ?_
    refine tk 14 ?_
    refine tk 15 ?_
    refine tk 16 ?_
    refine tk 17 ?_
    refine tk 18 ?_
    refine tk 19 ?_
    try simp only [Act.put,tA,tB,tC,tD,tE,tF]
    refine tk 22 ?_
    try simp only [Act.put,tA,tB,tC,tD,tE,tF]
    refine rd 20 rfl fun K hK=>?_
    go_simp
    go_at_call 71
    refine (HH2.out _ _ ha).mono ?_
    rintro e wb ⟨rfl,hxb,hb⟩
    go_simp
    refine hK.out _ _ ⟨(la 10 hb rfl).1 2,HGQ.out _ _ hb⟩ (fun _=>?_)
    clear hK K ha
    try simp only [Act.put,tA,tB,tC,tD,tE,tF]
    by_cases hcc : m2.c = m.c
    ·have HCC:=zh hcc
     rw [zq (by rintro (h | h | h); exact HP0.out h; exact h HBB.out; exact h HCC.out)] at HRES2
     have dc : (m2.c != m.c) = false:=by rw [hcc]; simp
     clear hcc
     refine tk 21 ?_
     try simp only [Act.put,tA,tB,tC,tD,tE,tF]
     refine tk 23 ?_
     refine tk 24 ?_
     try simp only [Act.put,tA,tB,tC,tD,tE,tF]
     refine wpAnyH_done (by kernel_rfl) ?_ _
     have f4:=(la 6 hb rfl).2 4
     have c4:=(la 6 hb rfl).1 4
     have h10:=ln (i:=4) (v:=.int .i64 (l.length : Nat)) 6 hb rfl
     have hxt:=((hx9.out.trans hxa).trans hxb).setCell (⟨bj,4,none⟩ : Addr) (.int .i64 (l.length : Nat))
     clear hb f0 f2
     go_wp2_with fail
     have hjok:=zh (HOK.out _ (by simp) (by omega) : (yP F (jNew F (k : Int) 1 (q : Int) rate burst l 0)).Ok)
     have hx12:=zh hxt
     have hv12 : ∀w' L,own w' (L++(row 3 1 (.slice ao l.length cap) l.length (lr l)::(pts g (.cells #[.int .i64 (k : Int),.int .i64 1,.int .i64 (q : Int),.int .i64 rate,.int .i64 burst] 24 (0,0))::R))) -> lV w' (.slice ao l.length cap) (jNew F (k : Int) 1 (q : Int) rate burst l 0).list:=fun w' L h=>oM 0 (lp L [row 3 1 (.slice ao l.length cap) l.length (lr l)] h) rfl
     have HV12:=zh hv12
     have hnn : ((jNew F (k : Int) 1 (q : Int) rate burst l 0).n : Int) = m.c:=HCN.out
     have HJ0 : Hid (({ (jNew F (k : Int) 1 (q : Int) rate burst l 0) with x:=oE F (jNew F (k : Int) 1 (q : Int) rate burst l 0) 0 } : JobM) = (jNew F (k : Int) 1 (q : Int) rate burst l 0)):=zh rfl
     clear hxt hv12
     go_loopw [154] (fun iv wr=>∃z : Nat,z <= (jNew F (k : Int) 1 (q : Int) rate burst l 0).n /\ iv = .int .i64 z /\ Ext w wr /\ own wr (shL bs A F++(jobL bs bj bt bb (.slice ao l.length cap) { (jNew F (k : Int) 1 (q : Int) rate burst l 0) with x:=oE F (jNew F (k : Int) 1 (q : Int) rate burst l 0) z }++(row 3 1 (.slice ao l.length cap) l.length (lr l)::(pts g (.cells #[.int .i64 (k : Int),.int .i64 1,.int .i64 (q : Int),.int .i64 rate,.int .i64 burst] 24 (0,0))::R))))) (fun iv _=>(jNew F (k : Int) 1 (q : Int) rate burst l 0).n - (intOf iv).toNat)
     case atStart=>exact ⟨0,Nat.zero_le _,rfl,hx12.out,by rw [HJ0.out]; exact h10⟩
     case round=>
      obtain ⟨z,hq,rfl,hxr,hown⟩:=hrel
      by_cases hlt : z < (jNew F (k : Int) 1 (q : Int) rate burst l 0).n
      ·have j1 : (0 : Int) <= (z : Int):=by omega
       have j2 : (z : Int) < m.c:=by omega
       have j3 : (z : Int) < 64:=by have:=hjok.out.n; have : (jNew F (k : Int) 1 (q : Int) rate burst l 0).n <= 64:=this; omega
       go_wp2_with fail
       refine (Bg bs A F HF.out bj bt bb _ _ (CL hjok.out z) HFL.out (z : Int) _ wr HV12.out hown).mono ?_
       rintro e w12 ⟨rfl,nn,rfl⟩
       have hp:=Bu bt (jNew F (k : Int) 1 (q : Int) rate burst l 0).n _ hjok.out.n (CL hjok.out z).x (z : Int) (oH F { (jNew F (k : Int) 1 (q : Int) rate burst l 0) with x:=oE F (jNew F (k : Int) 1 (q : Int) rate burst l 0) z } (z : Int)) 7 _ (lI nn hown) rfl
       have HPT:=zh hp
       clear hp
       generalize hwv : oH F { (jNew F (k : Int) 1 (q : Int) rate burst l 0) with x:=oE F (jNew F (k : Int) 1 (q : Int) rate burst l 0) z } (z : Int) = wv at *
       go_wp2_with fail
       refine HPT.out.mono ?_
       rintro e w13 ⟨rfl,hx13,h13⟩
       go_wp2_with fail
       go_roundw
       case rel=>exact ⟨z + 1,by omega,by go_num,(hxr.drewN nn).trans hx13,EX (by rw [hwv]; exact h13)⟩
       case measure=>simp [intOf]; omega
      ·obtain rfl : z = (jNew F (k : Int) 1 (q : Int) rate burst l 0).n:=by omega
       have j2 : ¬(((jNew F (k : Int) 1 (q : Int) rate burst l 0).n : Int) < m.c):=by omega
       have dj : decide (((jNew F (k : Int) 1 (q : Int) rate burst l 0).n : Int) < m.c) = false:=zf j2
       go_wp2_with fail
       refine (Al bs bj bt bb _ _ hjok.out _ wr (lp (shL bs A F) (jobL bs bj bt bb (.slice ao l.length cap) (yP F (jNew F (k : Int) 1 (q : Int) rate burst l 0))) hown)).mono ?_
       rintro e w12 ⟨rfl,hx12',h12⟩
       rw [CK rfl] at h12
       go_wp2_with fail
       go_ret2
       rw [<- HRES2.out]
       exact oW.yes bj bt bb (.slice ao l.length cap) rfl (hxr.trans hx12') (le 10 (lp (jobL bs bj bt bb (.slice ao l.length cap) (yP F (jNew F (k : Int) 1 (q : Int) rate burst l 0))) (shL bs A F) h12) rfl)
    ·rw [zt (.inr (.inr hcc))] at HRES2
     have dc : (m2.c != m.c) = true:=bne_iff_ne.2 hcc
     refine tk 21 ?_
     try simp only [Act.put,tA,tB,tC,tD,tE,tF]
     refine tk 23 ?_
     refine tk 24 ?_
     try simp only [Act.put,tA,tB,tC,tD,tE,tF]
     refine wpAnyH_done (by kernel_rfl) ?_ _
     go_wp2_with fail
     go_ret2
     rw [<- HRES2.out]
     exact oW.no rfl ((hx9.out.trans hxa).trans hxb) (le 6 (le 7 (le 8 (le 9 (le 10 hb rfl) rfl) rfl) rfl) rfl)
   ·rw [zt (.inr (.inl hbb))] at HRES2
    have db : (m2.b != -1) = true:=bne_iff_ne.2 hbb
    refine tk 10 ?_
    refine tk 11 ?_
    refine tk 12 ?_
    refine tk 13 ?_
    try simp only [Act.put,tA,tB,tC,tD,tE,tF]
    refine sk 14 ?_
    refine sk 15 ?_
    refine sk 16 ?_
    refine sk 17 ?_
    refine sk 18 ?_
    refine sk 19 ?_
    refine sk 20 ?_
    refine sk 21 ?_
    refine sk 22 ?_
    refine sk 23 ?_
    try simp only [Act.put,tA,tB,tC,tD,tE,tF]
    refine tk 24 ?_
    try simp only [Act.put,tA,tB,tC,tD,tE,tF]
    refine wpAnyH_done (by kernel_rfl) ?_ _
    go_wp2_with fail
    go_ret2
    rw [<- HRES2.out]
    exact oW.no rfl (hx9.out.trans hxa) (le 6 (le 7 (le 8 (le 9 (le 10 ha rfl) rfl) rfl) rfl) rfl)
theorem Pr (bs : Nat) (A : Nat -> Nat×Nat×Nat) (F : ShM) (hF : ShOk F) (root kind file rate burst : Int) (hl5 : (lk F root).1.length <= 5) (hz : ¬(lk F root).2≠0) (h0 : ¬(lk F root).1.length = 0) (ho : ¬AB rate burst = false) (hk1 : ¬kind = 1) (R : List SL.HP) (w : World) (H : own w (shL bs A F++R)) :
  Calls Tryz.prog 15 #[.pointer (some ⟨bs,0,none⟩),.agg #[.int .i64 root,.int .i64 kind,.int .i64 file,.int .i64 rate,.int .i64 burst]] w (oW bs A F (newM F root kind file rate burst) R w):=by
 have HK1:=zh hk1
 clear hk1
 have ha:=lf H (.cells #[.int .i64 root,.int .i64 kind,.int .i64 file,.int .i64 rate,.int .i64 burst] 24)
 have hxa:=(zR w).alloc (.cells #[.int .i64 root,.int .i64 kind,.int .i64 file,.int .i64 rate,.int .i64 burst] 24)
 have hb : own _ (shL bs A F++(_::R)):=lD (shL bs A F) ha
 have hwk:=fun R' w' h=>Bx bs A F hF root R' w' h
 have hfl:=yG F root
 have hwc : 0 <= (lk F root).2:=Aa
 have HWK:=zh hwk
 unfold AW at HWK
 generalize hres : newM F root kind file rate burst = res
 unfold newM at hres
 rw [zq hz] at hres
 have hz0 : (lk F root).2 = 0:=by omega
 rw [hz0,show errV 0 = .nilIface from rfl] at HWK
 rw [zq h0] at hres
 rw [zq ho] at hres
 have HRES:=zh hres
 clear hres
 have hroot:=D9 h0
 obtain ⟨k,m,hxk,hk,hFk⟩:=og hroot
 have hcl:=yH hF hroot
 have hcm : clus F root = m.c:=by rw [hxk]; exact y8 hFk
 have HB:=zh (fun R' w' h=>Da rate burst R' w' (by simpa using ho) h)
 have HH:=zh (fun R' w' h=>zF (b:=bs) (A:=A) hk hFk R' w' h)
 have HN:=zh (fun R' w' h=>KM (clus F root).toNat (by omega) R' w' h)
 have hcn : (((clus F root).toNat : Nat) : Int) = m.c:=by omega
 simp only [hcn] at HN
 have HCN:=zh hcn
 clear hcn
 have HF:=zh hF
 have HFL:=zh hfl
 have i1 : (0 : Int) <= (k : Int):=by omega
 have i2 : (k : Int) < 5:=by omega
 subst hxk
 have hok : ∀deep,kind = 1 \/ kind = 2 \/ kind = 3 -> deep <= (lk F (k : Int)).1.length -> (yP F (jNew F k kind file rate burst (lk F (k : Int)).1 deep)).Ok:=fun deep hkk hd=>Dg hF hroot hl5 h0 (by simpa using ho) hkk hd
 have HOK:=zh hok
 clear hok
 generalize hL : (lk F (k : Int)).1 = l at *
 have l0 : ((l.length : Int) == 0) = false:=by rw [zb]; omega
 go_enter Tryz.func15,Tryz.ntmps15
 go_upto_region 1 with (fail)
 generalize w.heap.size = g at *
 generalize w.alloc (.cells #[.int .i64 (k : Int),.int .i64 kind,.int .i64 file,.int .i64 rate,.int .i64 burst] 24) = w1 at *
 have c0:=(la 6 hb rfl).1 0
 go_wp2_with fail
 refine (HWK.out _ _ hb).mono ?_
 rintro e w2 ⟨v,rfl,hx2,h2⟩
 obtain ⟨ao,lb,off,cap,rfl,-,-,-,-⟩:=(oM 0 h2 rfl).form
 have d3:=(la 7 h2 rfl).1 3
 have d4:=(la 7 h2 rfl).1 4
 clear c0
 go_wp2_with fail
 refine (HB.out _ _ h2).mono ?_
 rintro e w3 ⟨rfl,hx3,h3⟩
 generalize w2.heap.size = bb at *
 have h3s:=lp [yS bb rate burst burst,row 3 1 (.slice ao l.length cap) l.length (lr l)] (shL bs A F) h3
 clear d3 d4
 have d0:=(la 8 h3s rfl).1 0
 have g1:=l9 h3s hk
 rw [lO hFk] at g1
 go_upto_region 9 with (fail)
 go_still_tail 6,(by kernel_rfl)
 change wpList _ _ _ _ _ w3.drew
 go_wp2_with fail
 refine (HH.out _ _ (lj h3s)).mono ?_
 rintro e w4 ⟨rfl,hx4,h4⟩
 unfold oF
 have hf0:=Bv m.c m.p m.b
 clear d0 g1
 go_wp2_with fail
 refine (HN.out _ _ h4).mono ?_
 rintro e w5 ⟨bt,rfl,hx5,h5⟩
 have d1:=(la 9 h5 rfl).1 1
 have d2:=(la 9 h5 rfl).1 2
 go_upto_region 14 with (fail)
 have h6:=lf h5 (.cells #[.pointer (some ⟨bs,0,none⟩),.int .i64 kind,.int .i64 file,.slice ao l.length cap,.int .i64 0,.pointer (some ⟨bt,0,none⟩),.int .i64 0,.int .i64 2,.pointer (some ⟨bb,0,none⟩)] 137)
 have hx6:=(hx5.alloc (.cells #[.pointer (some ⟨bs,0,none⟩),.int .i64 kind,.int .i64 file,.slice ao l.length cap,.int .i64 0,.pointer (some ⟨bt,0,none⟩),.int .i64 0,.int .i64 2,.pointer (some ⟨bb,0,none⟩)] 137))
 generalize w5.heap.size = bj at *
 generalize w5.alloc (.cells #[.pointer (some ⟨bs,0,none⟩),.int .i64 kind,.int .i64 file,.slice ao l.length cap,.int .i64 0,.pointer (some ⟨bt,0,none⟩),.int .i64 0,.int .i64 2,.pointer (some ⟨bb,0,none⟩)] 137) = w6 at *
 clear d1 d2
 have d1:=(la 10 h6 rfl).1 1
 have d2:=(la 10 h6 rfl).1 2
 have f4:=(la 0 h6 rfl).2 4
 have hrow:=oM 9 h6 rfl
 have HPL:=zh (Jw _ l file hl5 w6 hrow)
 have hX:=(((hxa.trans hx2).trans hx3).drew.trans hx4).trans hx6
 have HX:=zh hX
 have H6:=zh h6
 have HBAD : ∀n,own (w6.drewN n) (shL bs A F++R):=fun n=>lI n (lg (lg (le 8 (le 9 (le 10 h6 rfl) rfl) rfl)))
 have hpr:=CV l file
 have HP:=zh hL
 clear hL
 generalize yl l file = pl at *
 clear hrow hX hx2 hx3 hx4 hx5 hx6 hxa h2 h3 h3s h4 h5 hb ha H HWK HB HN HH hwk
 go_wp2_with fail
 refine HPL.out.mono ?_
 rintro e w7 ⟨rfl,rfl⟩
 have gs:=@l9 bs A F _ w6 (lp [_,_] (shL bs A F) h6)
 have H7:=zh h6
 clear h6 hF hl5 h0 hz hz0 hwc HPL hcl hcm
 have hk1:=HK1.out
 clear HK1
 have hres:=HRES.out
 rw [zq hk1] at hres
 have e1 : (kind == 1) = false:=by rw [zb]; exact hk1
 have h9:=lp [_,_] (shL bs A F) H7.out
 have f4:=(la 6 h9 rfl).2 4
 have c4:=(la 6 h9 rfl).1 4
 have HB0 : own w6 (shL bs A F++R):=lg (lg (le 8 (le 9 (le 10 H7.out rfl) rfl) rfl))
 by_cases hk2 : kind = 2 /\ file = -1
 ·rw [zt hk2] at hres
  obtain ⟨rfl,rfl⟩:=hk2
  have HRES2:=zh hres
  have h10:=ln (i:=4) (v:=.int .i64 (l.length : Nat)) 6 h9 rfl
  have hxt:=HX.out.setCell (⟨bj,4,none⟩ : Addr) (.int .i64 (l.length : Nat))
  clear hres HRES hk1 e1 h9 HB0 HBAD
  go_wp2_with fail
  have hjok:=zh (HOK.out _ (by simp) (by omega) : (yP F (jNew F (k : Int) 2 (-1) rate burst l l.length)).Ok)
  have hx12:=zh hxt
  have hv12 : ∀w' L,own w' (L++(row 3 1 (.slice ao l.length cap) l.length (lr l)::(pts g (.cells #[.int .i64 (k : Int),.int .i64 2,.int .i64 (-1),.int .i64 rate,.int .i64 burst] 24 (0,0))::R))) -> lV w' (.slice ao l.length cap) (jNew F (k : Int) 2 (-1) rate burst l l.length).list:=fun w' L h=>oM 0 (lp L [row 3 1 (.slice ao l.length cap) l.length (lr l)] h) rfl
  have HV12:=zh hv12
  have hnn : ((jNew F (k : Int) 2 (-1) rate burst l l.length).n : Int) = m.c:=HCN.out
  clear hxt hv12
  go_loopw [154] (fun iv wr=>∃q : Nat,q <= (jNew F (k : Int) 2 (-1) rate burst l l.length).n /\ iv = .int .i64 q /\ Ext w wr /\ own wr (shL bs A F++(jobL bs bj bt bb (.slice ao l.length cap) { (jNew F (k : Int) 2 (-1) rate burst l l.length) with x:=oE F (jNew F (k : Int) 2 (-1) rate burst l l.length) q }++(row 3 1 (.slice ao l.length cap) l.length (lr l)::(pts g (.cells #[.int .i64 (k : Int),.int .i64 2,.int .i64 (-1),.int .i64 rate,.int .i64 burst] 24 (0,0))::R))))) (fun iv _=>(jNew F (k : Int) 2 (-1) rate burst l l.length).n - (intOf iv).toNat)
  case atStart=>exact ⟨0,Nat.zero_le _,rfl,hx12.out,h10⟩
  case round=>
   obtain ⟨q,hq,rfl,hxr,hown⟩:=hrel
   by_cases hlt : q < (jNew F (k : Int) 2 (-1) rate burst l l.length).n
   ·have j1 : (0 : Int) <= (q : Int):=by omega
    have j2 : (q : Int) < m.c:=by omega
    have j3 : (q : Int) < 64:=by have:=hjok.out.n; have : (jNew F (k : Int) 2 (-1) rate burst l l.length).n <= 64:=this; omega
    go_wp2_with fail
    refine (Bg bs A F HF.out bj bt bb _ _ (CL hjok.out q) HFL.out (q : Int) _ wr HV12.out hown).mono ?_
    rintro e w12 ⟨rfl,nn,rfl⟩
    have hp:=Bu bt (jNew F (k : Int) 2 (-1) rate burst l l.length).n _ hjok.out.n (CL hjok.out q).x (q : Int) (oH F { (jNew F (k : Int) 2 (-1) rate burst l l.length) with x:=oE F (jNew F (k : Int) 2 (-1) rate burst l l.length) q } (q : Int)) 7 _ (lI nn hown) rfl
    have HPT:=zh hp
    clear hp
    generalize hwv : oH F { (jNew F (k : Int) 2 (-1) rate burst l l.length) with x:=oE F (jNew F (k : Int) 2 (-1) rate burst l l.length) q } (q : Int) = wv at *
    go_wp2_with fail
    refine HPT.out.mono ?_
    rintro e w13 ⟨rfl,hx13,h13⟩
    go_wp2_with fail
    go_roundw
    case rel=>exact ⟨q + 1,by omega,by go_num,(hxr.drewN nn).trans hx13,EX (by rw [hwv]; exact h13)⟩
    case measure=>simp [intOf]; omega
   ·obtain rfl : q = (jNew F (k : Int) 2 (-1) rate burst l l.length).n:=by omega
    have j2 : ¬(((jNew F (k : Int) 2 (-1) rate burst l l.length).n : Int) < m.c):=by omega
    have dj : decide (((jNew F (k : Int) 2 (-1) rate burst l l.length).n : Int) < m.c) = false:=zf j2
    go_wp2_with fail
    refine (Al bs bj bt bb _ _ hjok.out _ wr (lp (shL bs A F) (jobL bs bj bt bb (.slice ao l.length cap) (yP F (jNew F (k : Int) 2 (-1) rate burst l l.length))) hown)).mono ?_
    rintro e w12 ⟨rfl,hx12',h12⟩
    rw [CK rfl] at h12
    go_wp2_with fail
    go_ret2
    rw [<- HRES2.out]
    exact oW.yes bj bt bb (.slice ao l.length cap) rfl (hxr.trans hx12') (le 10 (lp (jobL bs bj bt bb (.slice ao l.length cap) (yP F (jNew F (k : Int) 2 (-1) rate burst l l.length))) (shL bs A F) h12) rfl)
 ·rw [zq hk2] at hres
  by_cases hk3 : kind = 2 \/ kind = 3
  ·rw [zt hk3] at hres
   by_cases hpl : pl < 1
   ·rw [zt hpl] at hres
    subst hres
    rcases hk3 with rfl | rfl
    ·have hf1 : (file == -1) = false:=by rw [zb]; omega
     clear hk1 hk2 HRES
     go_wp2_with fail
     go_ret2
     exact oW.no rfl HX.out HB0
    ·clear hk1 hk2 HRES
     go_wp2_with fail
     go_ret2
     exact oW.no rfl HX.out HB0
   ·rw [zq hpl] at hres
    obtain ⟨p,rfl⟩ : ∃p : Nat,pl = (p : Int):=⟨pl.toNat,by omega⟩
    rw [zn] at hres
    have HRES2:=zh hres
    have hp1 : ¬((p : Int) < 1):=hpl
    have h10:=ln (i:=4) (v:=.int .i64 (p : Nat)) 6 h9 rfl
    have hxt:=HX.out.setCell (⟨bj,4,none⟩ : Addr) (.int .i64 (p : Nat))
    clear hres HRES h9 HB0 HBAD
    rcases hk3 with rfl | rfl
    ·have hf1 : (file == -1) = false:=by rw [zb]; omega
     clear hk1 hk2 e1
     go_wp2_with fail
     have hjok:=zh (HOK.out _ (by simp) (by omega) : (yP F (jNew F (k : Int) 2 file rate burst l p)).Ok)
     have hx12:=zh hxt
     have hv12 : ∀w' L,own w' (L++(row 3 1 (.slice ao l.length cap) l.length (lr l)::(pts g (.cells #[.int .i64 (k : Int),.int .i64 2,.int .i64 file,.int .i64 rate,.int .i64 burst] 24 (0,0))::R))) -> lV w' (.slice ao l.length cap) (jNew F (k : Int) 2 file rate burst l p).list:=fun w' L h=>oM 0 (lp L [row 3 1 (.slice ao l.length cap) l.length (lr l)] h) rfl
     have HV12:=zh hv12
     have hnn : ((jNew F (k : Int) 2 file rate burst l p).n : Int) = m.c:=HCN.out
     clear hxt hv12
     go_loopw [154] (fun iv wr=>∃q : Nat,q <= (jNew F (k : Int) 2 file rate burst l p).n /\ iv = .int .i64 q /\ Ext w wr /\ own wr (shL bs A F++(jobL bs bj bt bb (.slice ao l.length cap) { (jNew F (k : Int) 2 file rate burst l p) with x:=oE F (jNew F (k : Int) 2 file rate burst l p) q }++(row 3 1 (.slice ao l.length cap) l.length (lr l)::(pts g (.cells #[.int .i64 (k : Int),.int .i64 2,.int .i64 file,.int .i64 rate,.int .i64 burst] 24 (0,0))::R))))) (fun iv _=>(jNew F (k : Int) 2 file rate burst l p).n - (intOf iv).toNat)
     case atStart=>exact ⟨0,Nat.zero_le _,rfl,hx12.out,h10⟩
     case round=>
      obtain ⟨q,hq,rfl,hxr,hown⟩:=hrel
      by_cases hlt : q < (jNew F (k : Int) 2 file rate burst l p).n
      ·have j1 : (0 : Int) <= (q : Int):=by omega
       have j2 : (q : Int) < m.c:=by omega
       have j3 : (q : Int) < 64:=by have:=hjok.out.n; have : (jNew F (k : Int) 2 file rate burst l p).n <= 64:=this; omega
       go_wp2_with fail
       refine (Bg bs A F HF.out bj bt bb _ _ (CL hjok.out q) HFL.out (q : Int) _ wr HV12.out hown).mono ?_
       rintro e w12 ⟨rfl,nn,rfl⟩
       have hp:=Bu bt (jNew F (k : Int) 2 file rate burst l p).n _ hjok.out.n (CL hjok.out q).x (q : Int) (oH F { (jNew F (k : Int) 2 file rate burst l p) with x:=oE F (jNew F (k : Int) 2 file rate burst l p) q } (q : Int)) 7 _ (lI nn hown) rfl
       have HPT:=zh hp
       clear hp
       generalize hwv : oH F { (jNew F (k : Int) 2 file rate burst l p) with x:=oE F (jNew F (k : Int) 2 file rate burst l p) q } (q : Int) = wv at *
       go_wp2_with fail
       refine HPT.out.mono ?_
       rintro e w13 ⟨rfl,hx13,h13⟩
       go_wp2_with fail
       go_roundw
       case rel=>exact ⟨q + 1,by omega,by go_num,(hxr.drewN nn).trans hx13,EX (by rw [hwv]; exact h13)⟩
       case measure=>simp [intOf]; omega
      ·obtain rfl : q = (jNew F (k : Int) 2 file rate burst l p).n:=by omega
       have j2 : ¬(((jNew F (k : Int) 2 file rate burst l p).n : Int) < m.c):=by omega
       have dj : decide (((jNew F (k : Int) 2 file rate burst l p).n : Int) < m.c) = false:=zf j2
       go_wp2_with fail
       refine (Al bs bj bt bb _ _ hjok.out _ wr (lp (shL bs A F) (jobL bs bj bt bb (.slice ao l.length cap) (yP F (jNew F (k : Int) 2 file rate burst l p))) hown)).mono ?_
       rintro e w12 ⟨rfl,hx12',h12⟩
       rw [CK rfl] at h12
       go_wp2_with fail
       go_ret2
       rw [<- HRES2.out]
       exact oW.yes bj bt bb (.slice ao l.length cap) rfl (hxr.trans hx12') (le 10 (lp (jobL bs bj bt bb (.slice ao l.length cap) (yP F (jNew F (k : Int) 2 file rate burst l p))) (shL bs A F) h12) rfl)
    ·clear hk1 hk2 e1
     go_wp2_with fail
     have hjok:=zh (HOK.out _ (by simp) (by omega) : (yP F (jNew F (k : Int) 3 file rate burst l p)).Ok)
     have hx12:=zh hxt
     have hv12 : ∀w' L,own w' (L++(row 3 1 (.slice ao l.length cap) l.length (lr l)::(pts g (.cells #[.int .i64 (k : Int),.int .i64 3,.int .i64 file,.int .i64 rate,.int .i64 burst] 24 (0,0))::R))) -> lV w' (.slice ao l.length cap) (jNew F (k : Int) 3 file rate burst l p).list:=fun w' L h=>oM 0 (lp L [row 3 1 (.slice ao l.length cap) l.length (lr l)] h) rfl
     have HV12:=zh hv12
     have hnn : ((jNew F (k : Int) 3 file rate burst l p).n : Int) = m.c:=HCN.out
     clear hxt hv12
     go_loopw [154] (fun iv wr=>∃q : Nat,q <= (jNew F (k : Int) 3 file rate burst l p).n /\ iv = .int .i64 q /\ Ext w wr /\ own wr (shL bs A F++(jobL bs bj bt bb (.slice ao l.length cap) { (jNew F (k : Int) 3 file rate burst l p) with x:=oE F (jNew F (k : Int) 3 file rate burst l p) q }++(row 3 1 (.slice ao l.length cap) l.length (lr l)::(pts g (.cells #[.int .i64 (k : Int),.int .i64 3,.int .i64 file,.int .i64 rate,.int .i64 burst] 24 (0,0))::R))))) (fun iv _=>(jNew F (k : Int) 3 file rate burst l p).n - (intOf iv).toNat)
     case atStart=>exact ⟨0,Nat.zero_le _,rfl,hx12.out,h10⟩
     case round=>
      obtain ⟨q,hq,rfl,hxr,hown⟩:=hrel
      by_cases hlt : q < (jNew F (k : Int) 3 file rate burst l p).n
      ·have j1 : (0 : Int) <= (q : Int):=by omega
       have j2 : (q : Int) < m.c:=by omega
       have j3 : (q : Int) < 64:=by have:=hjok.out.n; have : (jNew F (k : Int) 3 file rate burst l p).n <= 64:=this; omega
       go_wp2_with fail
       refine (Bg bs A F HF.out bj bt bb _ _ (CL hjok.out q) HFL.out (q : Int) _ wr HV12.out hown).mono ?_
       rintro e w12 ⟨rfl,nn,rfl⟩
       have hp:=Bu bt (jNew F (k : Int) 3 file rate burst l p).n _ hjok.out.n (CL hjok.out q).x (q : Int) (oH F { (jNew F (k : Int) 3 file rate burst l p) with x:=oE F (jNew F (k : Int) 3 file rate burst l p) q } (q : Int)) 7 _ (lI nn hown) rfl
       have HPT:=zh hp
       clear hp
       generalize hwv : oH F { (jNew F (k : Int) 3 file rate burst l p) with x:=oE F (jNew F (k : Int) 3 file rate burst l p) q } (q : Int) = wv at *
       go_wp2_with fail
       refine HPT.out.mono ?_
       rintro e w13 ⟨rfl,hx13,h13⟩
       go_wp2_with fail
       go_roundw
       case rel=>exact ⟨q + 1,by omega,by go_num,(hxr.drewN nn).trans hx13,EX (by rw [hwv]; exact h13)⟩
       case measure=>simp [intOf]; omega
      ·obtain rfl : q = (jNew F (k : Int) 3 file rate burst l p).n:=by omega
       have j2 : ¬(((jNew F (k : Int) 3 file rate burst l p).n : Int) < m.c):=by omega
       have dj : decide (((jNew F (k : Int) 3 file rate burst l p).n : Int) < m.c) = false:=zf j2
       go_wp2_with fail
       refine (Al bs bj bt bb _ _ hjok.out _ wr (lp (shL bs A F) (jobL bs bj bt bb (.slice ao l.length cap) (yP F (jNew F (k : Int) 3 file rate burst l p))) hown)).mono ?_
       rintro e w12 ⟨rfl,hx12',h12⟩
       rw [CK rfl] at h12
       go_wp2_with fail
       go_ret2
       rw [<- HRES2.out]
       exact oW.yes bj bt bb (.slice ao l.length cap) rfl (hxr.trans hx12') (le 10 (lp (jobL bs bj bt bb (.slice ao l.length cap) (yP F (jNew F (k : Int) 3 file rate burst l p))) (shL bs A F) h12) rfl)
  ·rw [zq hk3] at hres
   subst hres
   have e2 : (kind == 2) = false:=by rw [zb]; omega
   have e3 : (kind == 3) = false:=by rw [zb]; omega
   clear hk1 hk2 hk3 HRES
   go_wp2_with fail
   go_ret2
   exact oW.no rfl HX.out HB0
theorem Pj (bs : Nat) (A : Nat -> Nat×Nat×Nat) (F : ShM) (hF : ShOk F) (root kind file rate burst : Int) (hl5 : (lk F root).1.length <= 5) (R : List SL.HP) (w : World) (H : own w (shL bs A F++R)) :
  Calls Tryz.prog 15 #[.pointer (some ⟨bs,0,none⟩),.agg #[.int .i64 root,.int .i64 kind,.int .i64 file,.int .i64 rate,.int .i64 burst]] w (oW bs A F (newM F root kind file rate burst) R w):=by
 by_cases hgood : ¬(lk F root).2≠0 /\ ¬(lk F root).1.length = 0 /\ ¬AB rate burst = false
 ·by_cases hk1 : kind = 1
  ·exact QE bs A F hF root kind file rate burst hl5 hgood.1 hgood.2.1 hgood.2.2 hk1 R w H
  ·exact Pr bs A F hF root kind file rate burst hl5 hgood.1 hgood.2.1 hgood.2.2 hk1 R w H
 have ha:=lf H (.cells #[.int .i64 root,.int .i64 kind,.int .i64 file,.int .i64 rate,.int .i64 burst] 24)
 have hxa:=(zR w).alloc (.cells #[.int .i64 root,.int .i64 kind,.int .i64 file,.int .i64 rate,.int .i64 burst] 24)
 have hb : own _ (shL bs A F++(_::R)):=lD (shL bs A F) ha
 have hwk:=fun R' w' h=>Bx bs A F hF root R' w' h
 have hfl:=yG F root
 have hwc : 0 <= (lk F root).2:=Aa
 have HWK:=zh hwk
 unfold AW at HWK
 have HGD:=zh hgood
 clear hgood
 generalize hres : newM F root kind file rate burst = res
 unfold newM at hres
 by_cases hz : (lk F root).2≠0
 ·rw [zt hz] at hres
  subst hres
  have hp : 0 < (lk F root).2:=by omega
  show Calls _ _ _ _ (fun e w'=>e = .returned (.tuple #[.pointer none,errV (lk F root).2]) /\ Ext w w' /\ own w' (shL bs A F++R))
  rw [lu hp] at HWK ⊢
  generalize lk F root = S at *
  obtain ⟨l,wc⟩:=S
  dsimp only at hwc HWK ⊢
  clear hz hwk hfl ha
  go_enter Tryz.func15,Tryz.ntmps15
  go_upto_region 1 with (fail)
  generalize w.heap.size = g at *
  generalize w.alloc (.cells #[.int .i64 root,.int .i64 kind,.int .i64 file,.int .i64 rate,.int .i64 burst] 24) = w1 at *
  have c0:=(la 6 hb rfl).1 0
  go_wp2_with fail
  refine (HWK.out _ _ hb).mono ?_
  rintro e w2 ⟨v,rfl,hx2,h2⟩
  go_wp2_with fail
  go_ret2
  exact ⟨rfl,hxa.trans hx2,le 6 (lg h2) rfl⟩
 ·rw [zq hz] at hres
  have hz0 : (lk F root).2 = 0:=by omega
  rw [hz0,show errV 0 = .nilIface from rfl] at HWK
  by_cases h0 : (lk F root).1.length = 0
  ·rw [zt h0] at hres
   subst hres
   show Calls _ _ _ _ (fun e w'=>e = .returned (.tuple #[.pointer none,errV 4]) /\ Ext w w' /\ own w' (shL bs A F++R))
   have hl0 : (lk F root).1 = []:=List.length_eq_zero_iff.1 h0
   rw [hl0] at HWK
   clear hz hwk hfl ha h0 hl0 hz0 hwc
   go_enter Tryz.func15,Tryz.ntmps15
   go_upto_region 1 with (fail)
   generalize w.heap.size = g at *
   generalize w.alloc (.cells #[.int .i64 root,.int .i64 kind,.int .i64 file,.int .i64 rate,.int .i64 burst] 24) = w1 at *
   have c0:=(la 6 hb rfl).1 0
   go_wp2_with fail
   refine (HWK.out _ _ hb).mono ?_
   rintro e w2 ⟨v,rfl,hx2,h2⟩
   obtain ⟨ao,lb,off,cap,rfl,-,-,-,-⟩:=(oM 0 h2 rfl).form
   go_wp2_with fail
   go_ret2
   exact ⟨rfl,hxa.trans hx2,le 6 (lg h2) rfl⟩
  ·rw [zq h0] at hres
   by_cases ho : AB rate burst = false
   ·rw [zt ho] at hres
    subst hres
    show Calls _ _ _ _ (fun e w'=>e = .returned (.tuple #[.pointer none,errV 1]) /\ Ext w w' /\ own w' (shL bs A F++R))
    have HB:=zh (fun w'=>JG rate burst w' ho)
    rw [show errV 1 = .iface 128 (.int .i64 1) from rfl] at HB ⊢
    generalize (lk F root).1 = l at *
    have l0 : ((l.length : Int) == 0) = false:=by rw [zb]; omega
    clear hz hwk hfl ha h0 hz0 hwc ho
    go_enter Tryz.func15,Tryz.ntmps15
    go_upto_region 1 with (fail)
    generalize w.heap.size = g at *
    generalize w.alloc (.cells #[.int .i64 root,.int .i64 kind,.int .i64 file,.int .i64 rate,.int .i64 burst] 24) = w1 at *
    have c0:=(la 6 hb rfl).1 0
    go_wp2_with fail
    refine (HWK.out _ _ hb).mono ?_
    rintro e w2 ⟨v,rfl,hx2,h2⟩
    obtain ⟨ao,lb,off,cap,rfl,-,-,-,-⟩:=(oM 0 h2 rfl).form
    have d3:=(la 7 h2 rfl).1 3
    have d4:=(la 7 h2 rfl).1 4
    clear c0
    go_wp2_with fail
    refine (HB.out _).mono ?_
    rintro e w' ⟨rfl,rfl⟩
    go_wp2_with fail
    go_ret2
    exact ⟨rfl,hxa.trans hx2,le 6 (lg h2) rfl⟩
   ·exact absurd ⟨hz,h0,ho⟩ HGD.out
def Dw (bs : Nat) (A : Nat -> Nat×Nat) (F : ShM) (res : Option JobM×Int) (R : List SL.HP) (w : World) (e : Ending) (w' : World) : Prop:=
 match res with
 | (none,f)=>e = .returned (.tuple #[.pointer none,.int .i64 f]) /\ Ext w w' /\ own w' (rshL bs A F++R)
 | (some j,_)=>∃br v,e = .returned (.tuple #[.pointer (some ⟨br,0,none⟩),.int .i64 0]) /\ Ext w w' /\ own w' (rshL bs A F++(P7 bs br v j::(row 3 1 v j.list.length (lr j.list)::R)))
theorem Dw.no {bs : Nat} {A : Nat -> Nat×Nat} {F : ShM} {f : Int} {R : List SL.HP} {w : World} {e : Ending} {w' : World} (h1 : e = .returned (.tuple #[.pointer none,.int .i64 f])) (h2 : Ext w w') (h3 : own w' (rshL bs A F++R)) : Dw bs A F (none,f) R w e w':=⟨h1,h2,h3⟩
theorem Dw.yes {bs : Nat} {A : Nat -> Nat×Nat} {F : ShM} {j : JobM} {R : List SL.HP} {w : World} {e : Ending} {w' : World} (br : Nat) (v : Value) (h1 : e = .returned (.tuple #[.pointer (some ⟨br,0,none⟩),.int .i64 0])) (h2 : Ext w w') (h3 : own w' (rshL bs A F++(P7 bs br v j::(row 3 1 v j.list.length (lr j.list)::R)))) : Dw bs A F (some j,0) R w e w':=⟨br,v,h1,h2,h3⟩

end Go.Proofs.YtbpblokfiajpjabGreatDoor
