/- Lemmas on which YardSays stands: the texts RYard11 Yard20 Yard21 Yard14 Yard16 Yard17. No conditions. -/
import Derived.Test.YtbpblokfiajpjabGreatDoorPk8d343d3eda
set_option linter.all false
set_option maxRecDepth 1000000
set_option maxHeartbeats 32000000
namespace Go.Proofs.YtbpblokfiajpjabGreatDoor
open Go.RowKit Go.SL Go.Crc
attribute [local go_sem ↓] Go.wp_at_zero Go.wp_at_succ
def Lt (Y : RA) (S : (Bool×Int)×lf) (R : List SL.HP) (w : World) (e : Ending) (w' : World) : Prop:=
 ∃Y' : RA,Y'.y = Y.y /\ e = .returned (.tuple #[.bool S.1.1,.int .i64 S.1.2]) /\ Ext w w' /\ own w' (ryL Y' S.2 R)
theorem TT {F : ShM} {j : JobM} (h : j.st < 4) : (lZ F j).1.2≠0 -> ¬(lZ F j).2.2.st < 4 -> (lZ F j).2.2.st = 5:=by
 unfold lZ
 split
 ·exact fun _ h2=>absurd h h2
 ·split
  ·exact fun h1 _=>absurd rfl h1
  ·split
   ·exact fun _ _=>rfl
   ·exact fun h1 _=>absurd rfl h1
theorem KT (N : Nat) (Y : RA) (m : lf) (hm : YOk N m) (hN : N + 100 < 890000) (hlk : NY m) (R : List SL.HP) (w : World) (H : own w (ryL Y m R)) :
  Calls Tryz.prog 121 #[.pointer (some ⟨Y.y,0,none⟩)] w (Lt Y (zE m) R w):=by
 have HB:=zh (Bh Y m R w H)
 generalize hres : zE m = res
 unfold zE at hres
 unfold y8 at HB
 cases hj : m.job with
 | none=>
  rw [hj] at HB hres
  dsimp only at HB hres
  subst hres
  clear hj hlk
  go_enter Tryz.func121,Tryz.ntmps121
  go_wp2_with fail
  refine HB.out.mono ?_
  rintro e w' ⟨rfl,rfl⟩
  go_wp2_with fail
  go_ret2
  exact ⟨Y,rfl,rfl,zR _,H⟩
 | some j=>
  rw [hj] at HB hres
  dsimp only at HB hres
  by_cases h4 : 4 <= j.st
  ·rw [zt h4] at hres
   subst hres
   rw [zf (by omega)] at HB
   clear hj h4 hlk
   go_enter Tryz.func121,Tryz.ntmps121
   go_wp2_with fail
   refine HB.out.mono ?_
   rintro e w' ⟨rfl,rfl⟩
   go_wp2_with fail
   go_ret2
   exact ⟨Y,rfl,rfl,zR _,H⟩
  ·rw [zq h4] at hres
   rw [zg (by omega)] at HB
   obtain ⟨hS,hl,hk,hf,hr⟩:=hm.job j hj (by omega)
   have hjo:=hm.jok j hj
   have hsh:=hm.sh.sh (by omega)
   have cj:=AI hj H
   have hv : ∀w' L,own w' (L++(row 3 1 Y.vj j.list.length (lo j.list)::((ryT Y m).take 8++R))) -> lS w' Y.vj j.list:=fun w' L h=>l9 0 (lp L [row 3 1 Y.vj j.list.length (lo j.list)] h) rfl
   have HST:=zh (Qa Y.bs Y.A m.F hsh Y.bj Y.vj j hjo hS (row 3 1 Y.vj j.list.length (lo j.list)::((ryT Y m).take 8++R)) w hv (AS hj H))
   have hcode:=Gj m.F j
   have hst:=Ez hsh hjo hS
   have hsm:=C7 m.F j
   have hok2:=J8 (F:=m.F) hjo
   have hS2:=(hS.step hst).same hsm
   have hW2:=hm.sh.step hst
   have hlk2:=hlk j hj (by omega)
   have HPUT:=zh (fun w' h=>AH (w:=w') (Y:=Y) (m:=m) (R:=R) (F':=(lZ m.F j).2.1) (j':=(lZ m.F j).2.2) hj hsm.1 (fun k hk=>hst.same.none hk) h)
   have hr5:=hm.root5
   have hto:=hm.tp.1
   have htw:=hm.tp.2.1
   have htp:=hm.tp.2.2.1
   have hlist:=hsm.1
   have herr:=TT (F:=m.F) (j:=j) (by omega)
   generalize lZ m.F j = SP at *
   obtain ⟨⟨did,c⟩,F1,j1⟩:=SP
   dsimp only at HST hcode hok2 hS2 hW2 hlk2 HPUT hres hlist herr
   have HN:=zh (fun R' w' h=>Dq m.dk.root R' w' h)
   have HRES:=zh hres
   have HOK:=zh hok2
   have HS2:=zh hS2
   have HW2:=zh hW2
   have HLK:=zh hlk2
   have HLI:=zh hlist
   have HERR:=zh herr
   clear herr
   clear hres hm hlk hlk2 hS hl hk hf hr hjo hsh hv hst hsm hok2 hS2 hW2 hlist h4 hj
   go_enter Tryz.func121,Tryz.ntmps121
   go_wp2_with fail
   refine HB.out.mono ?_
   rintro e w' ⟨rfl,rfl⟩
   go_wp2_with fail
   refine HST.out.mono ?_
   rintro e w2 ⟨rfl,hx2,h2'⟩
   have h2:=HPUT.out _ h2'
   clear cj h2' HST HPUT HB
   have cj:=AI (m:={ m with F:=F1,job:=some j1 }) rfl h2
   have cr:=zC h2
   by_cases hc : c = 0
   ·subst hc
    rw [zq (by decide)] at HRES
    have ck:=Co h2
    by_cases hk2 : m.dk.kind = 2
    ·have d2 : (m.dk.kind != 2) = false:=by rw [hk2]; rfl
     have ci : w2.cell? ⟨Y.bj,74,none⟩ = some (.int .i64 j1.st):=lq 6 (AS (m:={ m with F:=F1,job:=some j1 }) rfl h2) rfl 74 (by decide)
     have HLK:=zh (HLK.out hk2)
     have HK2:=zh hk2
     clear hk2
     by_cases h3 : j1.st = 3
     ·have d3 : (j1.st != 3) = false:=by rw [h3]; rfl
      rw [zq (by rintro (h | h); exact h HK2.out; exact h h3)] at HRES
      clear h3
      have hv : ∀w' L,own w' (L++(row 3 1 Y.vj j1.list.length (lo j1.list)::((ryT Y { m with F:=F1,job:=some j1 }).take 8++R))) -> lS w' Y.vj j1.list:=fun w' L h=>l9 0 (lp L [row 3 1 Y.vj j1.list.length (lo j1.list)] h) rfl
      have HSE:=zh (fun w' h=>Iz Y.bs Y.A F1 (N + 5) HW2.out (by omega) Y.bj Y.vj j1 HOK.out HS2.out (row 3 1 Y.vj j1.list.length (lo j1.list)::((ryT Y { m with F:=F1,job:=some j1 }).take 8++R)) w' hv h)
      have hsc:=Bu F1 j1
      have HPUT:=zh (fun w' h=>AH (w:=w') (Y:=Y) (m:={ m with F:=F1,job:=some j1 }) (R:=R) (F':=(lA F1 j1).2.1) (j:=j1) (j':=(lA F1 j1).2.2) rfl (Cj F1 j1).1 (fun k hk=>Cl hk) h)
      have HSH:=zh ((BW (N:=N + 5) HW2.out (by omega) HOK.out HS2.out).sh (by omega))
      generalize lA F1 j1 = SE at *
      obtain ⟨sc,F2,j2⟩:=SE
      dsimp only at HSE hsc HPUT HSH HLK HRES
      clear hv HW2 HS2
      go_wp2_with fail
      refine (HSE.out _ (AS (m:={ m with F:=F1,job:=some j1 }) rfl h2)).mono ?_
      rintro e w4 ⟨rfl,hx4,h4'⟩
      have h4 : own w4 (ryL Y { m with F:=F2,job:=some j2 } R):=HPUT.out _ h4'
      clear cj ck ci cr h4'
      have cr:=zC h4
      have hx5:=hx2.trans hx4
      by_cases hsz : sc = 0
      ·have HLK2:=zh (HLK.out hsz)
       clear HLK
       subst hsz
       rw [zq (by decide)] at HRES
       have HWK:=zh (fun R' w' h=>Ea Y.bs Y.A F2 HSH.out m.dk.root R' w' h)
       unfold zO at HWK
       rw [HLK2.out] at HWK
       generalize (lt F2 m.dk.root).1 = l at *
       clear HLK2 cr
       have HS:=zh (fun (m' : lf) w' R' (h : own w' (ryL Y m' R'))=>(⟨BE h,zC h⟩ : w'.cell? ⟨Y.y,6,none⟩ = some (.pointer (some ⟨Y.bs,0,none⟩)) /\ w'.cell? ⟨Y.y,7,none⟩ = some (.int .i64 m'.dk.root)))
       have h5:=lj h4
       have hx5:=hx5.drew
       have hg:=HS.out _ _ _ h5
       go_upto_region 15 with (fail)
       refine wp_region_held_drew (S:=fun w'=>w'.cell? ⟨Y.y,6,none⟩ = some (.pointer (some ⟨Y.bs,0,none⟩)) /\ w'.cell? ⟨Y.y,7,none⟩ = some (.int .i64 m.dk.root)) (by kernel_rfl) hg (fun hHeld=>?_)
       refine tk 0 ?_
       refine tk 1 ?_
       refine tk 2 ?_
       refine tk 3 ?_
       refine tk 4 ?_
       refine tk 5 ?_
       refine tk 6 ?_
       refine tk 7 ?_
       refine tk 8 ?_
       refine tk 9 ?_
       try simp only [Act.put,tA,tB,tC,tD,tE,tF]
       refine rd 10 rfl fun K hK=>?_
       go_simp
       go_at_call 77
       refine (HWK.out _ _ h5).mono ?_
       rintro e w6 ⟨v,rfl,hx6,h6⟩
       obtain ⟨vo,vb,vof,vcap,rfl,-,-,-,-⟩:=(l9 0 h6 rfl).form
       have h7:=Eb (Y:=Y) (m:={ m with F:=F2,job:=some j2 }) h6
       go_simp
       refine hK.out _ _ (HS.out { m with F:=F2,job:=some j2 } _ _ h7) (fun _=>?_)
       clear hK K h4 h5 h6 hg
       try simp only [Act.put,tA,tB,tC,tD,tE,tF]
       refine tk 11 ?_
       refine tk 12 ?_
       refine tk 13 ?_
       refine tk 14 ?_
       refine tk 15 ?_
       try simp only [Act.put,tA,tB,tC,tD,tE,tF]
       refine rd 16 rfl fun K hK=>?_
       have cl:=AR h7
       have fl:=A5 h7 12
       have h8:=FL h7
       have hx8:=(hx5.trans hx6).setCell (⟨Y.y,12,none⟩ : Addr) (.slice vo l.length vcap)
       have z6:=BE h8
       have z7:=zC h8
       go_simp
       refine hK.out _ _ ⟨z6,z7⟩ (fun _=>?_)
       clear hK K h7 cl fl z6 z7
       try simp only [Act.put,tA,tB,tC,tD,tE,tF]
       refine wpAnyH_done (by kernel_rfl) ?_ _
       generalize w6.setCell ⟨Y.y,12,none⟩ (.slice vo l.length vcap) = w8 at *
       have cj:=AI (m:={ m with F:=F2,job:=some j2,list:=l }) (j:=j2) rfl h8
       have h8o:=AS (Y:={ Y with v:=.slice vo l.length vcap }) (m:={ m with F:=F2,job:=some j2,list:=l }) (j:=j2) rfl h8
       have ci:=lq 6 h8o rfl 74 (by decide)
       have fi:=oV 6 h8o rfl 74
       have h9':=yZ (i:=74) (a:=.int .i64 4) 6 h8o rfl (Cv Y.bs Y.vj j2 4)
       have h9 : own _ (ryL { Y with v:=.slice vo l.length vcap } { m with F:=F2,job:=some (endM j2 true),list:=l } R):=AH (Y:={ Y with v:=.slice vo l.length vcap }) (m:={ m with F:=F2,job:=some j2,list:=l }) (j:=j2) (j':=endM j2 true) rfl (show (endM j2 true).list = j2.list from rfl) (fun _ _=>Iff.rfl) h9'
       have hx9:=hx8.setCell (⟨Y.bj,74,none⟩ : Addr) (.int .i64 4)
       go_upto_region 17 with (fail)
       generalize w8.setCell ⟨Y.bj,74,none⟩ (.int .i64 4) = w9 at *
       clear cj ci fi h8 h8o h9'
       have cr:=zC h9
       have HW:=zh (fun R' w' h=>Bo { Y with v:=.slice vo l.length vcap } { m with F:=F2,job:=some (endM j2 true),list:=l } hto (by dsimp only; omega) (by dsimp only; omega) (lz m.dk.root) (BQ hr5.1 hr5.2) R' w' h)
       have hwc:=Ag { m with F:=F2,job:=some (endM j2 true),list:=l } (lz m.dk.root)
       have hwd:=LY { m with F:=F2,job:=some (endM j2 true),list:=l } (lz m.dk.root)
       have hwn:=Ix { m with F:=F2,job:=some (endM j2 true),list:=l } (lz m.dk.root)
       generalize lw { m with F:=F2,job:=some (endM j2 true),list:=l } (lz m.dk.root) = W at *
       obtain ⟨wc,m2⟩:=W
       dsimp only at HW hwc hwd hwn HRES
       have HWD:=zh hwd
       have HWN:=zh hwn
       have hx10:=hx9
       clear hwd hwn hx8 hx9
       go_wp2_with fail
       refine (HN.out _ _ h9).mono ?_
       rintro e w10 ⟨rfl,hx11,h10⟩
       go_wp2_with fail
       refine (HW.out _ _ h10).mono ?_
       rintro e w11 ⟨rfl,hx12,h11⟩
       have hx13:=(hx10.trans hx11).trans hx12
       clear cr h9 h10 hx10 hx11 hx12
       have hdk : m2.dk.root = m.dk.root:=by
        by_cases hwz : wc = 0
        ·rw [HWD.out hwz]; rfl
        ·rw [HWN.out hwz]
       have cr:=zC h11
       rw [hdk] at cr
       have HN2:=zh (fun R' w' h=>Dq m.dk.root R' w' h)
       unfold lI.v o8 lz at HN2
       clear HWD HWN hdk
       go_wp2_with fail
       refine (HN2.out _ _ h11).mono ?_
       rintro e w12 ⟨rfl,hx14,h12⟩
       clear cr h11
       have fy:=A5 h12
       have e7:=zC h12
       have e8:=Co h12
       have e9:=Cr h12
       have e10:=Dz h12
       have e11:=CR h12
       have h13:=lg (i:=11) (v:=.int .i64 0) 6 (lg (i:=10) (v:=.int .i64 0) 6 (lg (i:=9) (v:=.int .i64 (-1)) 6 (lg (i:=8) (v:=.int .i64 0) 6 (lg (i:=7) (v:=.int .i64 m.dk.root) 6 h12 rfl) rfl) rfl) rfl) rfl
       have h14 : own _ (ryL { Y with v:=.slice vo l.length vcap } { m2 with dk:=lz m.dk.root } R):=h13
       have hx15:=((((((hx13.trans hx14).setCell (⟨Y.y,7,none⟩ : Addr) (.int .i64 m.dk.root)).setCell (⟨Y.y,8,none⟩ : Addr) (.int .i64 0)).setCell (⟨Y.y,9,none⟩ : Addr) (.int .i64 (-1))).setCell (⟨Y.y,10,none⟩ : Addr) (.int .i64 0)).setCell (⟨Y.y,11,none⟩ : Addr) (.int .i64 0))
       clear h12 h13
       go_wp2_with fail
       go_ret2
       rw [<- HRES.out]
       exact ⟨{ Y with v:=.slice vo l.length vcap },rfl,rfl,hx15,h14⟩
      ·rw [zt hsz] at HRES
       have hpos : 0 < sc:=by omega
       clear hsz
       have HW:=zh (fun R' w' h=>Bo Y { m with F:=F2,job:=some j2 } hto (by dsimp only; omega) (by dsimp only; omega) (lz m.dk.root) (BQ hr5.1 hr5.2) R' w' h)
       generalize lw { m with F:=F2,job:=some j2 } (lz m.dk.root) = W at *
       obtain ⟨wc,m2⟩:=W
       dsimp only at HW HRES
       go_wp2_with fail
       refine (HN.out _ _ h4).mono ?_
       rintro e w6 ⟨rfl,hx6,h6⟩
       go_wp2_with fail
       refine (HW.out _ _ h6).mono ?_
       rintro e w7 ⟨rfl,hx7,h7⟩
       go_wp2_with fail
       go_ret2
       rw [<- HRES.out]
       exact ⟨Y,rfl,rfl,(hx5.trans hx6).trans hx7,h7⟩
     ·have d3 : (j1.st != 3) = true:=bne_iff_ne.2 h3
      rw [zt (.inr h3)] at HRES
      clear h3
      go_wp2_with fail
      go_ret2
      rw [<- HRES.out]
      exact ⟨Y,rfl,rfl,hx2,h2⟩
    ·have d2 : (m.dk.kind != 2) = true:=bne_iff_ne.2 hk2
     rw [zt (.inl hk2)] at HRES
     clear hk2
     go_wp2_with fail
     go_ret2
     rw [<- HRES.out]
     exact ⟨Y,rfl,rfl,hx2,h2⟩
   ·rw [zt hc] at HRES
    have hpos : 0 < c:=by omega
    have hc0 : c≠0:=hc
    clear hc
    have ci : w2.cell? ⟨Y.bj,74,none⟩ = some (.int .i64 j1.st):=lq 6 (AS (m:={ m with F:=F1,job:=some j1 }) rfl h2) rfl 74 (by decide)
    by_cases h1 : j1.st < 4
    ·rw [zt h1] at HRES
     have d5 : (j1.st == 5) = false:=by rw [zb]; omega
     clear h1
     go_wp2_with fail
     go_ret2
     rw [<- HRES.out]
     exact ⟨Y,rfl,rfl,hx2,h2⟩
    ·rw [zq h1] at HRES
     have d5 : (j1.st == 5) = true:=by rw [HERR.out hc0 (by omega)]; rfl
     clear h1
     have HW:=zh (fun R' w' h=>Bo Y { m with F:=F1,job:=some j1 } hto (by dsimp only; omega) (by dsimp only; omega) (lz m.dk.root) (BQ hr5.1 hr5.2) R' w' h)
     generalize lw { m with F:=F1,job:=some j1 } (lz m.dk.root) = W at *
     obtain ⟨wc,m2⟩:=W
     dsimp only at HW HRES
     go_wp2_with fail
     refine (HN.out _ _ h2).mono ?_
     rintro e w3 ⟨rfl,hx3,h3⟩
     go_wp2_with fail
     refine (HW.out _ _ h3).mono ?_
     rintro e w4 ⟨rfl,hx4,h4⟩
     go_wp2_with fail
     go_ret2
     rw [<- HRES.out]
     exact ⟨Y,rfl,rfl,(hx2.trans hx3).trans hx4,h4⟩
def AB (Y : YA) (Y2 : RA) (m : lf) (R : List SL.HP) (w : World) (e : Ending) (w' : World) : Prop:=
 ∃(Y' : YA) (Y2' : RA),Y'.y = Y.y /\ Y2'.y = Y2.y /\ e = .returned (.bool true) /\ Ext w w' /\ own w' (yL Y' m (ryL Y2' m R))
theorem A8 {Y : YA} {Y2 : RA} {m m2 : lf} {R : List SL.HP} {w : World} (o : Obj) (H : own w (yL Y m (ryL Y2 m2 R))) : own (w.alloc o) (yL Y m (ryL Y2 m2 (pts w.heap.size o::R))):=by
 have:=V3 o (show own w ((shL Y.bs Y.A m.F++yT Y m++rshL Y2.bs Y2.A m2.F++ryT Y2 m2)++R) by simpa only [zp] using H)
 simpa only [zp] using this
theorem yw_r {Y : YA} {Y2 : RA} {m m2 : lf} {R : List SL.HP} {w : World} (H : own w (yL Y m (ryL Y2 m2 R))) : own w (ryL Y2 m2 (yL Y m R)):=PI (shL Y.bs Y.A m.F) (yT Y m) (rshL Y2.bs Y2.A m2.F) (ryT Y2 m2) H
theorem yw_b {Y : YA} {Y2 : RA} {m m2 : lf} {R : List SL.HP} {w : World} (H : own w (ryL Y2 m2 (yL Y m R))) : own w (yL Y m (ryL Y2 m2 R)):=PI (rshL Y2.bs Y2.A m2.F) (ryT Y2 m2) (shL Y.bs Y.A m.F) (yT Y m) H
theorem Ob (Y : RA) (m : lf) {R : List SL.HP} (hT : ∀w' L,own w' (L++R) -> yR w') : ∀w' L,own w' (L++ryL Y m R) -> yR w':=fun w' L h=>
 hT w' (L++(rshL Y.bs Y.A m.F++ryT Y m)) (by simpa only [zp] using h)
theorem NQ (m : lf) (fr : Int) (s : ByteArray) : 0 <= (zQ m fr s).1:=by
 unfold zQ
 split
 ·simp
 ·exact TK _ _ _ _
theorem OT (m : lf) (fr n : Int) : 0 <= (Aa m fr n).1:=by
 unfold Aa
 split
 ·simp
 ·exact Ky _ _ _ _
theorem Mp (F : ShM) (l : List Int) (fr n : Int) : 0 <= (getM F l fr n).2:=by
 unfold getM
 split
 ·simp
 ·exact zJ _ _ _ _
theorem Qb (m : lf) (f : Int) : 0 <= (Bt m f).1:=by
 unfold Bt
 split
 ·simp
 ·split
  ·simp
  ·split
   ·exact DW _ _ _
   ·split
    ·exact Ag _ _
    ·simp
theorem Jy (j : JobM) (on : Bool) : 0 <= (yU j on).1:=by unfold yU; split <;> split <;> simp
theorem OK (m : lf) (a b c d : Int) : 0 <= (AC m a b c d).1:=by
 unfold AC
 split
 ·simp
 ·split
  ·simp
  ·split
   ·exact Gi _ _ _ _ _
   ·have:=Ef m.F m.dk.root a b c d
    split
    ·rename_i h; rw [h] at this; exact this
    ·split
     ·exact Ag _ _
     ·exact Jy _ _
theorem Kr (m : lf) (j : JobM) (r : Int) (b : Bool) : 0 <= (B4 m j r b).1:=by
 unfold B4
 split
 ·exact Ag _ _
 ·simp
theorem OM (m : lf) : 0 <= (AD m).1:=by
 unfold AD
 split
 ·simp
 ·split
  ·simp
  ·split
   ·simp
   ·split
    ·exact Bu _ _
    ·exact Kr _ _ _ _
theorem Nl (m : lf) : 0 <= (zT m).1:=by
 unfold zT
 split
 ·simp
 ·split
  ·simp
  ·exact Kr _ _ _ _
theorem M8 (m : lf) (b : Bool) : 0 <= (zW m b).1:=by
 unfold zW
 split
 ·simp
 ·split
  ·simp
  ·exact Jy _ _
theorem OP (m : lf) (n : Int) : 0 <= (Az m n).1:=by
 unfold Az
 split
 ·simp
 ·split
  ·simp
  ·split <;> simp
theorem TC (m : lf) (f n : Int) : 0 <= (armM m f n).1:=by
 unfold armM
 split
 ·simp
 ·split
  ·simp
  ·split <;> simp
theorem JC (m : lf) : 0 <= (zE m).1.2:=by
 unfold zE
 split
 ·simp
 ·split
  ·simp
  ·dsimp only
   split
   ·exact Gj _ _
   ·split
    ·simp
    ·split
     ·exact Bu _ _
     ·simp
theorem S8 {N : Nat} {m : lf} (h : YOk N m) (fr : Int) {n : Int} (hn : n < 0 \/ 200 < n) : Aa m fr n = (1,m):=by
 unfold Aa
 rw [zt]
 obtain ⟨s,hs⟩:=h.head
 obtain ⟨k,i,hk,hk5,hi⟩:=lT h.root
 have hc:=(h.sh.ok k i hk5 hi).head
 have hcl : clus m.F m.dk.root = i.c:=by rw [hk]; exact yr hi
 unfold lF at hc
 unfold lV
 rw [hs]
 simp only [List.length_cons,List.getD_cons_zero]
 rw [zq (by omega),hcl,zt (by omega)]
 decide
theorem QD (N : Nat) (Y : YA) (m : lf) (hm : YOk N m) (hN : N < 900000) (file : Int) (R : List SL.HP) (w : World) (H : own w (yL Y m R)) :
  Calls Tryz.prog 108 #[.pointer (some ⟨Y.y,0,none⟩),.int .i64 file] w (zH Y (oB m file (-1)) R w):=by
 have HB:=zh (Kl N Y m hm hN file (-1) R w H)
 clear hm hN H
 go_enter Tryz.func108,Tryz.ntmps108
 go_wp2_with fail
 refine HB.out.mono ?_
 rintro e w2 ⟨Y',hy,rfl,hx,h2⟩
 go_wp2_with fail
 go_ret
 exact ⟨Y',hy,rfl,hx,h2⟩
theorem Mg (N : Nat) (Y : RA) (m : lf) (hm : YOk N m) (hN : N < 900000) (fr n : Int) (hfr : lR fr) (hn : lR n) (R : List SL.HP) (w : World) (H : own w (ryL Y m R)) :
  Calls Tryz.prog 105 #[.pointer (some ⟨Y.bs,0,none⟩),Y.v,.int .i64 fr,.int .i64 n] w fun e w'=>e = .returned (.tuple #[.string (getM m.F m.list fr n).1,.int .i64 (getM m.F m.list fr n).2]) /\ Ext w w' /\ own w' (ryL Y m R):=by
 have h5 : m.list.length <= 5:=by
  have:=Bl (F:=m.F) (root:=m.dk.root)
  rwa [hm.walk] at this
 exact UB Y.bs Y.A m.F (hm.sh.sh hN) Y.v m.list hm.files h5 fr n hfr hn (ryT Y m++R) w (fun w' L h=>l9 (L.length + 7) h (by rw [List.getElem?_append_right (by omega),show L.length + 7 - L.length = 7 by omega]; rfl)) H
theorem M5 (Y : YA) (Y2 : RA) (m : lf) (N : Nat) (hm : lJ N m) (hN : N + 2000 < 890000) (x : Act) (hA : lR x.A) (hB : lR x.B) (hS : x.S.size <= 700) (ko : Option Addr) (kn kc : Nat) (R : List SL.HP) (hT : ∀w' L,own w' (L++R) -> yR w') (w : World) (H : own w (yL Y m (ryL Y2 m R)))  (k0 : (x.kind.toList == [119,114,105,116,101]) = true) :
  Calls Tryz.prog 29 #[.pointer (some ⟨Y.y,0,none⟩),.pointer (some ⟨Y2.y,0,none⟩),.agg #[.string x.kind,.int .i64 x.A,.int .i64 x.B,.int .i64 x.C,.int .i64 x.D,.string x.S,.slice ko kn kc]] w (AB Y Y2 (zQ m x.A x.S).2 R w):=by
 have h0:=A8 (.cells #[.string x.kind,.int .i64 x.A,.int .i64 x.B,.int .i64 x.C,.int .i64 x.D,.string x.S,.slice ko kn kc] 45) H
 have hxa:=(zR w).alloc (.cells #[.string x.kind,.int .i64 x.A,.int .i64 x.B,.int .i64 x.C,.int .i64 x.D,.string x.S,.slice ko kn kc] 45)
 have hcode : 0 <= (zQ m x.A x.S).1:=NQ _ _ _
 have HP:=zh (fun (R' : List SL.HP) w' h=>PV N Y m hm.ok (by omega) x.A hA x.S (by omega) R' w' h)
 have HR:=zh (fun (R' : List SL.HP) w' h=>UH N Y2 m hm.ok (by omega) x.A hA x.S (by omega) R' w' h)
 unfold zH at HP
 unfold za at HR
 generalize zQ m x.A x.S = S at *
 obtain ⟨f,m2⟩:=S
 dsimp only at hcode HP HR ⊢
 clear H hm hN hT hA hB hS
 go_enter Tryz.func29,Tryz.ntmps29
 go_upto_region 1 with (fail)
 generalize w.heap.size = ba at *
 generalize w.alloc (.cells #[.string x.kind,.int .i64 x.A,.int .i64 x.B,.int .i64 x.C,.int .i64 x.D,.string x.S,.slice ko kn kc] 45) = wa at *
 have c0:=(ld 30 h0 rfl).1 0
 have c1:=(ld 30 h0 rfl).1 1
 have c5:=(ld 30 h0 rfl).1 5
 go_upto_region 3 with (fail)
 have hd:=lj h0
 go_region_held3 (fun w'=>w'.cell? ⟨ba,1,none⟩ = some (.int .i64 x.A) /\ w'.cell? ⟨ba,5,none⟩ = some (.string x.S)) (first | exact ⟨(ld 30 hd rfl).1 1,(ld 30 hd rfl).1 5⟩ | exact ⟨(ld 30 h4 rfl).1 1,(ld 30 h4 rfl).1 5⟩ | exact ⟨(ld 30 h5 rfl).1 1,(ld 30 h5 rfl).1 5⟩) (first | (go_at_call 91; refine (HP.out _ _ hd).mono ?_; rintro e w4 ⟨Y',hy,rfl,hx4,h4⟩) | (go_at_call 103; refine (HR.out _ _ (yw_r h4)).mono ?_; rintro e w5 ⟨Y2',hy2,rfl,hx5,h5'⟩; have h5:=yw_b h5') | (go_at_call 17; refine (zd f f _ hcode).mono ?_; rintro e w' ⟨rfl,rfl⟩))
 go_wp2_with fail
 go_ret
 exact ⟨Y',Y2',hy,hy2,by simp,(hxa.drew.trans hx4).trans hx5,lh 30 h5 rfl⟩
theorem Ln (Y : YA) (Y2 : RA) (m : lf) (N : Nat) (hm : lJ N m) (hN : N + 2000 < 890000) (x : Act) (hA : lR x.A) (hB : lR x.B) (hS : x.S.size <= 700) (ko : Option Addr) (kn kc : Nat) (R : List SL.HP) (hT : ∀w' L,own w' (L++R) -> yR w') (w : World) (H : own w (yL Y m (ryL Y2 m R))) (k0 : ¬(x.kind.toList == [119,114,105,116,101]) = true) (k1 : (x.kind.toList == [119,105,112,101]) = true) (hb : x.B < 0 \/ 200 < x.B) :
  Calls Tryz.prog 29 #[.pointer (some ⟨Y.y,0,none⟩),.pointer (some ⟨Y2.y,0,none⟩),.agg #[.string x.kind,.int .i64 x.A,.int .i64 x.B,.int .i64 x.C,.int .i64 x.D,.string x.S,.slice ko kn kc]] w (AB Y Y2 m R w):=by
 have h0:=A8 (.cells #[.string x.kind,.int .i64 x.A,.int .i64 x.B,.int .i64 x.C,.int .i64 x.D,.string x.S,.slice ko kn kc] 45) H
 have hxa:=(zR w).alloc (.cells #[.string x.kind,.int .i64 x.A,.int .i64 x.B,.int .i64 x.C,.int .i64 x.D,.string x.S,.slice ko kn kc] 45)
 have HP:=zh (fun (R' : List SL.HP) w' h=>Mm N Y m hm.ok (by omega) x.A x.B hA hB R' w' h)
 unfold zH at HP
 rw [S8 hm.ok x.A hb] at HP
 dsimp only at HP
 have d1 : decide (x.B < 0) = true \/ (decide (x.B < 0) = false /\ decide (200 < x.B) = true):=by
  by_cases h : x.B < 0
  ·exact .inl (zg h)
  ·exact .inr ⟨zf h,zg (by omega)⟩
 clear H hm hN hT hA hB hS hb
 go_enter Tryz.func29,Tryz.ntmps29
 go_upto_region 1 with (fail)
 generalize w.heap.size = ba at *
 generalize w.alloc (.cells #[.string x.kind,.int .i64 x.A,.int .i64 x.B,.int .i64 x.C,.int .i64 x.D,.string x.S,.slice ko kn kc] 45) = wa at *
 have c0:=(ld 30 h0 rfl).1 0
 have c1:=(ld 30 h0 rfl).1 1
 have c2:=(ld 30 h0 rfl).1 2
 rcases d1 with d1 | ⟨d1,d2⟩
 all_goals
  go_wp2_with fail
  refine (HP.out _ _ h0).mono ?_
  rintro e w4 ⟨Y',hy,rfl,hx4,h4⟩
  clear c0 c1 c2
  go_wp2_with fail
  refine (zd 1 1 _ (by decide)).mono ?_
  rintro e w' ⟨rfl,rfl⟩
  go_wp2_with fail
  go_ret
  exact ⟨Y',Y2,hy,rfl,by simp,hxa.trans hx4,lh 30 h4 rfl⟩
theorem KV (Y : YA) (Y2 : RA) (m : lf) (N : Nat) (hm : lJ N m) (hN : N + 2000 < 890000) (x : Act) (hA : lR x.A) (hB : lR x.B) (hS : x.S.size <= 700) (ko : Option Addr) (kn kc : Nat) (R : List SL.HP) (hT : ∀w' L,own w' (L++R) -> yR w') (w : World) (H : own w (yL Y m (ryL Y2 m R))) (k0 : ¬(x.kind.toList == [119,114,105,116,101]) = true) (k1 : (x.kind.toList == [119,105,112,101]) = true) (hb : ¬(x.B < 0 \/ 200 < x.B)) :
  Calls Tryz.prog 29 #[.pointer (some ⟨Y.y,0,none⟩),.pointer (some ⟨Y2.y,0,none⟩),.agg #[.string x.kind,.int .i64 x.A,.int .i64 x.B,.int .i64 x.C,.int .i64 x.D,.string x.S,.slice ko kn kc]] w (AB Y Y2 (Aa m x.A x.B).2 R w):=by
 have h0:=A8 (.cells #[.string x.kind,.int .i64 x.A,.int .i64 x.B,.int .i64 x.C,.int .i64 x.D,.string x.S,.slice ko kn kc] 45) H
 have hxa:=(zR w).alloc (.cells #[.string x.kind,.int .i64 x.A,.int .i64 x.B,.int .i64 x.C,.int .i64 x.D,.string x.S,.slice ko kn kc] 45)
 obtain ⟨z,hz⟩:=ze (show 0 <= x.B by omega)
 have hz2 : z <= 200:=by omega
 have hcode : 0 <= (Aa m x.A x.B).1:=OT _ _ _
 have HP:=zh (fun (R' : List SL.HP) w' h=>Mm N Y m hm.ok (by omega) x.A x.B hA hB R' w' h)
 have HR:=zh (fun (R' : List SL.HP) w' h=>Qg N Y2 m hm.ok (by omega) x.A hA z hz2 (zs (16 * z)) (EF _) R' w' h)
 have HZ:=zh (fun (R' : List SL.HP) w' h=>Bm (16 * z) (by omega) R' w' h)
 have e1 : IntKind.i64.wrap (16 * x.B) = ((16 * z : Nat) : Int):=by rw [zi _ (by omega)]; omega
 rw [<- hz] at HR
 unfold zH at HP
 unfold za at HR
 generalize zs (16 * z) = zz at *
 generalize Aa m x.A x.B = S at *
 obtain ⟨f,m2⟩:=S
 dsimp only at hcode HP HR ⊢
 have d1 : decide (x.B < 0) = false:=zf (by omega)
 have d2 : decide (200 < x.B) = false:=zf (by omega)
 have m1 : (0 : Int) <= x.B:=by omega
 have m3 : x.B <= 200:=by omega
 clear H hm hN hT hA hB hS hb hz hz2
 go_enter Tryz.func29,Tryz.ntmps29
 go_upto_region 1 with (fail)
 generalize w.heap.size = ba at *
 generalize w.alloc (.cells #[.string x.kind,.int .i64 x.A,.int .i64 x.B,.int .i64 x.C,.int .i64 x.D,.string x.S,.slice ko kn kc] 45) = wa at *
 have c0:=(ld 30 h0 rfl).1 0
 have c1:=(ld 30 h0 rfl).1 1
 have c2:=(ld 30 h0 rfl).1 2
 go_upto_region 7 with (fail)
 have hd:=lj h0
 go_region_held3 (fun w'=>w'.cell? ⟨ba,1,none⟩ = some (.int .i64 x.A) /\ w'.cell? ⟨ba,2,none⟩ = some (.int .i64 x.B)) (first | exact ⟨(ld 30 hd rfl).1 1,(ld 30 hd rfl).1 2⟩ | exact ⟨(ld 30 h4 rfl).1 1,(ld 30 h4 rfl).1 2⟩ | exact ⟨(ld 30 h9 rfl).1 1,(ld 30 h9 rfl).1 2⟩ | exact ⟨(ld 30 h5 rfl).1 1,(ld 30 h5 rfl).1 2⟩) (first | (go_at_call 104; refine (HP.out _ _ hd).mono ?_; rintro e w4 ⟨Y',hy,rfl,hx4,h4⟩) | (go_at_call 92; refine (HZ.out _ _ h4).mono ?_; rintro e w9 ⟨rfl,hx9,h9⟩) | (go_at_call 103; refine (HR.out _ _ (yw_r h9)).mono ?_; rintro e w5 ⟨Y2',hy2,rfl,hx5,h5'⟩; have h5:=yw_b h5') | (go_at_call 17; refine (zd f f _ hcode).mono ?_; rintro e w' ⟨rfl,rfl⟩))
 go_wp2_with fail
 go_ret
 exact ⟨Y',Y2',hy,hy2,by simp,((hxa.drew.trans hx4).trans hx9).trans hx5,lh 30 h5 rfl⟩
theorem Oo (Y : YA) (Y2 : RA) (m : lf) (N : Nat) (hm : lJ N m) (hN : N + 2000 < 890000) (x : Act) (hA : lR x.A) (hB : lR x.B) (hS : x.S.size <= 700) (ko : Option Addr) (kn kc : Nat) (R : List SL.HP) (hT : ∀w' L,own w' (L++R) -> yR w') (w : World) (H : own w (yL Y m (ryL Y2 m R))) (k0 : ¬(x.kind.toList == [119,114,105,116,101]) = true) (k1 : ¬(x.kind.toList == [119,105,112,101]) = true) (k2 : (x.kind.toList == [114,101,97,100]) = true) :
  Calls Tryz.prog 29 #[.pointer (some ⟨Y.y,0,none⟩),.pointer (some ⟨Y2.y,0,none⟩),.agg #[.string x.kind,.int .i64 x.A,.int .i64 x.B,.int .i64 x.C,.int .i64 x.D,.string x.S,.slice ko kn kc]] w (AB Y Y2 m R w):=by
 have h0:=A8 (.cells #[.string x.kind,.int .i64 x.A,.int .i64 x.B,.int .i64 x.C,.int .i64 x.D,.string x.S,.slice ko kn kc] 45) H
 have hxa:=(zR w).alloc (.cells #[.string x.kind,.int .i64 x.A,.int .i64 x.B,.int .i64 x.C,.int .i64 x.D,.string x.S,.slice ko kn kc] 45)
 have hcode : 0 <= (getM m.F m.list x.A x.B).2:=Mp _ _ _ _
 have HP:=zh (fun (R' : List SL.HP) w' h=>Ii N Y m hm.ok (by omega) x.A x.B hA hB R' w' h)
 have HR:=zh (fun (R' : List SL.HP) (w' : World) (h : own w' (ryL Y2 m R'))=>Mg N Y2 m hm.ok (by omega) x.A x.B hA hB R' w' h)
 generalize getM m.F m.list x.A x.B = S at *
 obtain ⟨t,f⟩:=S
 dsimp only at hcode HP HR
 clear H hm hN hT hA hB hS
 go_enter Tryz.func29,Tryz.ntmps29
 go_upto_region 1 with (fail)
 generalize w.heap.size = ba at *
 generalize w.alloc (.cells #[.string x.kind,.int .i64 x.A,.int .i64 x.B,.int .i64 x.C,.int .i64 x.D,.string x.S,.slice ko kn kc] 45) = wa at *
 have c0:=(ld 30 h0 rfl).1 0
 have c1:=(ld 30 h0 rfl).1 1
 have c2:=(ld 30 h0 rfl).1 2
 go_wp2_with fail
 refine (HP.out _ _ h0).mono ?_
 rintro e w4 ⟨rfl,hx4,h4⟩
 clear c0 c1 c2
 go_upto_region 10 with (fail)
 have hd:=lj h4
 obtain ⟨rao,rlb,roff,rcap,hrv,-,-,-,-⟩:=(BY (yw_r hd)).form
 rw [hrv] at HR
 have HRV:=zh hrv
 clear hrv
 go_region_held3 (fun w'=>w'.cell? ⟨ba,1,none⟩ = some (.int .i64 x.A) /\ w'.cell? ⟨ba,2,none⟩ = some (.int .i64 x.B) /\ w'.cell? ⟨Y2.y,6,none⟩ = some (.pointer (some ⟨Y2.bs,0,none⟩)) /\ w'.cell? ⟨Y2.y,12,none⟩ = some (.slice rao m.list.length rcap)) (first | exact ⟨(ld 30 hd rfl).1 1,(ld 30 hd rfl).1 2,BE (yw_r hd),by rw [<- HRV.out]; exact AR (yw_r hd)⟩ | exact ⟨(ld 30 h5 rfl).1 1,(ld 30 h5 rfl).1 2,BE (yw_r h5),by rw [<- HRV.out]; exact AR (yw_r h5)⟩) (first | (go_at_call 105; refine (HR.out _ _ (yw_r hd)).mono ?_; rintro e w5 ⟨rfl,hx5,h5'⟩; have h5:=yw_b h5'))
 go_wp2_with fail
 refine (zd f f _ hcode).mono ?_
 rintro e w' ⟨rfl,rfl⟩
 go_wp2_with fail
 go_ret
 exact ⟨Y,Y2,rfl,rfl,by simp,((hxa.trans hx4).drew.trans hx5),lh 30 h5 rfl⟩
theorem Np (Y : YA) (Y2 : RA) (m : lf) (N : Nat) (hm : lJ N m) (hN : N + 2000 < 890000) (x : Act) (hA : lR x.A) (hB : lR x.B) (hS : x.S.size <= 700) (ko : Option Addr) (kn kc : Nat) (R : List SL.HP) (hT : ∀w' L,own w' (L++R) -> yR w') (w : World) (H : own w (yL Y m (ryL Y2 m R))) (k0 : ¬(x.kind.toList == [119,114,105,116,101]) = true) (k1 : ¬(x.kind.toList == [119,105,112,101]) = true) (k2 : ¬(x.kind.toList == [114,101,97,100]) = true) (k3 : (x.kind.toList == [102,108,117,115,104]) = true) :
  Calls Tryz.prog 29 #[.pointer (some ⟨Y.y,0,none⟩),.pointer (some ⟨Y2.y,0,none⟩),.agg #[.string x.kind,.int .i64 x.A,.int .i64 x.B,.int .i64 x.C,.int .i64 x.D,.string x.S,.slice ko kn kc]] w (AB Y Y2 (zE (Ar m)).2 R w):=by
 have h0:=A8 (.cells #[.string x.kind,.int .i64 x.A,.int .i64 x.B,.int .i64 x.C,.int .i64 x.D,.string x.S,.slice ko kn kc] 45) H
 have hxa:=(zR w).alloc (.cells #[.string x.kind,.int .i64 x.A,.int .i64 x.B,.int .i64 x.C,.int .i64 x.D,.string x.S,.slice ko kn kc] 45)
 have hg:=Fe hm
 have hcode : 0 <= (zE (Ar m)).1.2:=JC _
 have HP:=zh (fun (R' : List SL.HP) w' h=>Qw N Y m hm.ok (by omega) R' w' h)
 have HR:=zh (fun (R' : List SL.HP) w' h=>Pf N Y2 m hm.ok (by omega) R' w' h)
 have HP2:=zh (fun (P : SL.HP) w' h=>LE N Y (Ar m) hg.ok (by omega) (hg.linkOk (by omega)) (ryL Y2 (Ar m) ([P]++R)) (Ob Y2 (Ar m) (Lw hT [P])) w' h)
 have HR2:=zh (fun (R' : List SL.HP) w' h=>KT N Y2 (Ar m) hg.ok (by omega) (hg.linkOk (by omega)) R' w' h)
 unfold No at HP2
 unfold Lt at HR2
 generalize Ar m = m1 at *
 generalize zE m1 = S at *
 obtain ⟨⟨did,f⟩,m2⟩:=S
 dsimp only at hcode HP2 HR2 ⊢
 clear H hm hN hT hA hB hS hg
 go_enter Tryz.func29,Tryz.ntmps29
 go_upto_region 1 with (fail)
 generalize w.heap.size = ba at *
 generalize w.alloc (.cells #[.string x.kind,.int .i64 x.A,.int .i64 x.B,.int .i64 x.C,.int .i64 x.D,.string x.S,.slice ko kn kc] 45) = wa at *
 have c0:=(ld 30 h0 rfl).1 0
 go_wp2_with fail
 refine (HP.out _ _ h0).mono ?_
 rintro e w4 ⟨rfl,hx4,h4⟩
 go_wp2_with fail
 refine (HR.out _ _ (yw_r h4)).mono ?_
 rintro e w5 ⟨rfl,hx5,h5'⟩
 have h5:=yw_b h5'
 go_wp2_with fail
 refine (HP2.out _ _ h5).mono ?_
 rintro e w6 ⟨Y',hy,rfl,hx6,h6⟩
 go_wp2_with fail
 refine (HR2.out _ _ (yw_r h6)).mono ?_
 rintro e w7 ⟨Y2',hy2,rfl,hx7,h7'⟩
 have h7:=yw_b h7'
 cases did
 all_goals
  go_wp2_with fail
  refine (zd f f _ hcode).mono ?_
  rintro e w' ⟨rfl,rfl⟩
  go_wp2_with fail
  go_ret
  exact ⟨Y',Y2',hy,hy2,by simp,(((hxa.trans hx4).trans hx5).trans hx6).trans hx7,lh 30 h7 rfl⟩
theorem NF (Y : YA) (Y2 : RA) (m : lf) (N : Nat) (hm : lJ N m) (hN : N + 2000 < 890000) (x : Act) (hA : lR x.A) (hB : lR x.B) (hS : x.S.size <= 700) (ko : Option Addr) (kn kc : Nat) (R : List SL.HP) (hT : ∀w' L,own w' (L++R) -> yR w') (w : World) (H : own w (yL Y m (ryL Y2 m R))) (k0 : ¬(x.kind.toList == [119,114,105,116,101]) = true) (k1 : ¬(x.kind.toList == [119,105,112,101]) = true) (k2 : ¬(x.kind.toList == [114,101,97,100]) = true) (k3 : ¬(x.kind.toList == [102,108,117,115,104]) = true) (k4 : (x.kind.toList == [98,108,97,110,107]) = true) :
  Calls Tryz.prog 29 #[.pointer (some ⟨Y.y,0,none⟩),.pointer (some ⟨Y2.y,0,none⟩),.agg #[.string x.kind,.int .i64 x.A,.int .i64 x.B,.int .i64 x.C,.int .i64 x.D,.string x.S,.slice ko kn kc]] w (AB Y Y2 (oB m x.A (-1)).2 R w):=by
 have h0:=A8 (.cells #[.string x.kind,.int .i64 x.A,.int .i64 x.B,.int .i64 x.C,.int .i64 x.D,.string x.S,.slice ko kn kc] 45) H
 have hxa:=(zR w).alloc (.cells #[.string x.kind,.int .i64 x.A,.int .i64 x.B,.int .i64 x.C,.int .i64 x.D,.string x.S,.slice ko kn kc] 45)
 have hcode : 0 <= (oB m x.A (-1)).1:=DW _ _ _
 have HP:=zh (fun (R' : List SL.HP) w' h=>QD N Y m hm.ok (by omega) x.A R' w' h)
 have HR:=zh (fun (R' : List SL.HP) w' h=>Jn N Y2 m hm.ok (by omega) x.A (-1) R' w' h)
 unfold zH at HP
 unfold za at HR
 generalize oB m x.A (-1) = S at *
 obtain ⟨f,m2⟩:=S
 dsimp only at hcode HP HR ⊢
 clear H hm hN hT hA hB hS
 go_enter Tryz.func29,Tryz.ntmps29
 go_upto_region 1 with (fail)
 generalize w.heap.size = ba at *
 generalize w.alloc (.cells #[.string x.kind,.int .i64 x.A,.int .i64 x.B,.int .i64 x.C,.int .i64 x.D,.string x.S,.slice ko kn kc] 45) = wa at *
 have c0:=(ld 30 h0 rfl).1 0
 have c1:=(ld 30 h0 rfl).1 1
 go_upto_region 16 with (fail)
 have hd:=lj h0
 go_region_held3 (fun w'=>w'.cell? ⟨ba,1,none⟩ = some (.int .i64 x.A)) (first | exact (ld 30 hd rfl).1 1 | exact (ld 30 h4 rfl).1 1 | exact (ld 30 h5 rfl).1 1) (first | (go_at_call 108; refine (HP.out _ _ hd).mono ?_; rintro e w4 ⟨Y',hy,rfl,hx4,h4⟩) | (go_at_call 109; refine (HR.out _ _ (yw_r h4)).mono ?_; rintro e w5 ⟨Y2',hy2,rfl,hx5,h5'⟩; have h5:=yw_b h5') | (go_at_call 17; refine (zd f f _ hcode).mono ?_; rintro e w' ⟨rfl,rfl⟩))
 go_wp2_with fail
 go_ret
 exact ⟨Y',Y2',hy,hy2,by simp,(hxa.drew.trans hx4).trans hx5,lh 30 h5 rfl⟩
theorem Pc (Y : YA) (Y2 : RA) (m : lf) (N : Nat) (hm : lJ N m) (hN : N + 2000 < 890000) (x : Act) (hA : lR x.A) (hB : lR x.B) (hS : x.S.size <= 700) (ko : Option Addr) (kn kc : Nat) (R : List SL.HP) (hT : ∀w' L,own w' (L++R) -> yR w') (w : World) (H : own w (yL Y m (ryL Y2 m R))) (k0 : ¬(x.kind.toList == [119,114,105,116,101]) = true) (k1 : ¬(x.kind.toList == [119,105,112,101]) = true) (k2 : ¬(x.kind.toList == [114,101,97,100]) = true) (k3 : ¬(x.kind.toList == [102,108,117,115,104]) = true) (k4 : ¬(x.kind.toList == [98,108,97,110,107]) = true) (k5 : (x.kind.toList == [115,110,97,112]) = true) :
  Calls Tryz.prog 29 #[.pointer (some ⟨Y.y,0,none⟩),.pointer (some ⟨Y2.y,0,none⟩),.agg #[.string x.kind,.int .i64 x.A,.int .i64 x.B,.int .i64 x.C,.int .i64 x.D,.string x.S,.slice ko kn kc]] w (AB Y Y2 (Bt m x.A).2 R w):=by
 have h0:=A8 (.cells #[.string x.kind,.int .i64 x.A,.int .i64 x.B,.int .i64 x.C,.int .i64 x.D,.string x.S,.slice ko kn kc] 45) H
 have hxa:=(zR w).alloc (.cells #[.string x.kind,.int .i64 x.A,.int .i64 x.B,.int .i64 x.C,.int .i64 x.D,.string x.S,.slice ko kn kc] 45)
 have hcode : 0 <= (Bt m x.A).1:=Qb _ _
 have HP:=zh (fun (R' : List SL.HP) w' h=>Ua N Y m hm.ok (by omega) x.A R' w' h)
 have HR:=zh (fun (R' : List SL.HP) w' h=>QV N Y2 m hm.ok (by omega) x.A R' w' h)
 unfold zH at HP
 unfold za at HR
 generalize Bt m x.A = S at *
 obtain ⟨f,m2⟩:=S
 dsimp only at hcode HP HR ⊢
 clear H hm hN hT hA hB hS
 go_enter Tryz.func29,Tryz.ntmps29
 go_upto_region 1 with (fail)
 generalize w.heap.size = ba at *
 generalize w.alloc (.cells #[.string x.kind,.int .i64 x.A,.int .i64 x.B,.int .i64 x.C,.int .i64 x.D,.string x.S,.slice ko kn kc] 45) = wa at *
 have c0:=(ld 30 h0 rfl).1 0
 have c1:=(ld 30 h0 rfl).1 1
 go_upto_region 18 with (fail)
 have hd:=lj h0
 go_region_held3 (fun w'=>w'.cell? ⟨ba,1,none⟩ = some (.int .i64 x.A)) (first | exact (ld 30 hd rfl).1 1 | exact (ld 30 h4 rfl).1 1 | exact (ld 30 h5 rfl).1 1) (first | (go_at_call 110; refine (HP.out _ _ hd).mono ?_; rintro e w4 ⟨Y',hy,rfl,hx4,h4⟩) | (go_at_call 111; refine (HR.out _ _ (yw_r h4)).mono ?_; rintro e w5 ⟨Y2',hy2,rfl,hx5,h5'⟩; have h5:=yw_b h5') | (go_at_call 17; refine (zd f f _ hcode).mono ?_; rintro e w' ⟨rfl,rfl⟩))
 go_wp2_with fail
 go_ret
 exact ⟨Y',Y2',hy,hy2,by simp,(hxa.drew.trans hx4).trans hx5,lh 30 h5 rfl⟩
theorem NB (Y : YA) (Y2 : RA) (m : lf) (N : Nat) (hm : lJ N m) (hN : N + 2000 < 890000) (x : Act) (hA : lR x.A) (hB : lR x.B) (hS : x.S.size <= 700) (ko : Option Addr) (kn kc : Nat) (R : List SL.HP) (hT : ∀w' L,own w' (L++R) -> yR w') (w : World) (H : own w (yL Y m (ryL Y2 m R))) (k0 : ¬(x.kind.toList == [119,114,105,116,101]) = true) (k1 : ¬(x.kind.toList == [119,105,112,101]) = true) (k2 : ¬(x.kind.toList == [114,101,97,100]) = true) (k3 : ¬(x.kind.toList == [102,108,117,115,104]) = true) (k4 : ¬(x.kind.toList == [98,108,97,110,107]) = true) (k5 : ¬(x.kind.toList == [115,110,97,112]) = true) (k6 : (x.kind.toList == [115,116,97,114,116]) = true) :
  Calls Tryz.prog 29 #[.pointer (some ⟨Y.y,0,none⟩),.pointer (some ⟨Y2.y,0,none⟩),.agg #[.string x.kind,.int .i64 x.A,.int .i64 x.B,.int .i64 x.C,.int .i64 x.D,.string x.S,.slice ko kn kc]] w (AB Y Y2 (AC m x.A x.B x.C x.D).2 R w):=by
 have h0:=A8 (.cells #[.string x.kind,.int .i64 x.A,.int .i64 x.B,.int .i64 x.C,.int .i64 x.D,.string x.S,.slice ko kn kc] 45) H
 have hxa:=(zR w).alloc (.cells #[.string x.kind,.int .i64 x.A,.int .i64 x.B,.int .i64 x.C,.int .i64 x.D,.string x.S,.slice ko kn kc] 45)
 have hcode : 0 <= (AC m x.A x.B x.C x.D).1:=OK _ _ _ _ _
 have HP:=zh (fun (R' : List SL.HP) w' h=>Qk N Y m hm.ok (by omega) x.A x.B x.C x.D R' w' h)
 have HR:=zh (fun (R' : List SL.HP) w' h=>OD N Y2 m hm.ok (by omega) x.A x.B x.C x.D R' w' h)
 unfold zH at HP
 unfold za at HR
 generalize AC m x.A x.B x.C x.D = S at *
 obtain ⟨f,m2⟩:=S
 dsimp only at hcode HP HR ⊢
 clear H hm hN hT hA hB hS
 go_enter Tryz.func29,Tryz.ntmps29
 go_upto_region 1 with (fail)
 generalize w.heap.size = ba at *
 generalize w.alloc (.cells #[.string x.kind,.int .i64 x.A,.int .i64 x.B,.int .i64 x.C,.int .i64 x.D,.string x.S,.slice ko kn kc] 45) = wa at *
 have c0:=(ld 30 h0 rfl).1 0
 have c1:=(ld 30 h0 rfl).1 1
 have c2:=(ld 30 h0 rfl).1 2
 have c3:=(ld 30 h0 rfl).1 3
 have c4:=(ld 30 h0 rfl).1 4
 go_upto_region 20 with (fail)
 have hd:=lj h0
 go_region_held3 (fun w'=>w'.cell? ⟨ba,1,none⟩ = some (.int .i64 x.A) /\ w'.cell? ⟨ba,2,none⟩ = some (.int .i64 x.B) /\ w'.cell? ⟨ba,3,none⟩ = some (.int .i64 x.C) /\ w'.cell? ⟨ba,4,none⟩ = some (.int .i64 x.D)) (first | exact ⟨(ld 30 hd rfl).1 1,(ld 30 hd rfl).1 2,(ld 30 hd rfl).1 3,(ld 30 hd rfl).1 4⟩ | exact ⟨(ld 30 h4 rfl).1 1,(ld 30 h4 rfl).1 2,(ld 30 h4 rfl).1 3,(ld 30 h4 rfl).1 4⟩ | exact ⟨(ld 30 h5 rfl).1 1,(ld 30 h5 rfl).1 2,(ld 30 h5 rfl).1 3,(ld 30 h5 rfl).1 4⟩) (first | (go_at_call 46; refine (HP.out _ _ hd).mono ?_; rintro e w4 ⟨Y',hy,rfl,hx4,h4⟩) | (go_at_call 112; refine (HR.out _ _ (yw_r h4)).mono ?_; rintro e w5 ⟨Y2',hy2,rfl,hx5,h5'⟩; have h5:=yw_b h5') | (go_at_call 17; refine (zd f f _ hcode).mono ?_; rintro e w' ⟨rfl,rfl⟩))
 go_wp2_with fail
 go_ret
 exact ⟨Y',Y2',hy,hy2,by simp,(hxa.drew.trans hx4).trans hx5,lh 30 h5 rfl⟩
theorem Nb (Y : YA) (Y2 : RA) (m : lf) (N : Nat) (hm : lJ N m) (hN : N + 2000 < 890000) (x : Act) (hA : lR x.A) (hB : lR x.B) (hS : x.S.size <= 700) (ko : Option Addr) (kn kc : Nat) (R : List SL.HP) (hT : ∀w' L,own w' (L++R) -> yR w') (w : World) (H : own w (yL Y m (ryL Y2 m R))) (k0 : ¬(x.kind.toList == [119,114,105,116,101]) = true) (k1 : ¬(x.kind.toList == [119,105,112,101]) = true) (k2 : ¬(x.kind.toList == [114,101,97,100]) = true) (k3 : ¬(x.kind.toList == [102,108,117,115,104]) = true) (k4 : ¬(x.kind.toList == [98,108,97,110,107]) = true) (k5 : ¬(x.kind.toList == [115,110,97,112]) = true) (k6 : ¬(x.kind.toList == [115,116,97,114,116]) = true) (k7 : (x.kind.toList == [112,105,118,111,116]) = true) :
  Calls Tryz.prog 29 #[.pointer (some ⟨Y.y,0,none⟩),.pointer (some ⟨Y2.y,0,none⟩),.agg #[.string x.kind,.int .i64 x.A,.int .i64 x.B,.int .i64 x.C,.int .i64 x.D,.string x.S,.slice ko kn kc]] w (AB Y Y2 (AD m).2 R w):=by
 have h0:=A8 (.cells #[.string x.kind,.int .i64 x.A,.int .i64 x.B,.int .i64 x.C,.int .i64 x.D,.string x.S,.slice ko kn kc] 45) H
 have hxa:=(zR w).alloc (.cells #[.string x.kind,.int .i64 x.A,.int .i64 x.B,.int .i64 x.C,.int .i64 x.D,.string x.S,.slice ko kn kc] 45)
 have hcode : 0 <= (AD m).1:=OM _
 have HP:=zh (fun (R' : List SL.HP) w' h=>Qy N Y m hm.ok (by omega) R' w' h)
 have HR:=zh (fun (R' : List SL.HP) w' h=>Oi N Y2 m hm.ok (by omega) R' w' h)
 unfold zH at HP
 unfold za at HR
 generalize AD m = S at *
 obtain ⟨f,m2⟩:=S
 dsimp only at hcode HP HR ⊢
 clear H hm hN hT hA hB hS
 go_enter Tryz.func29,Tryz.ntmps29
 go_upto_region 1 with (fail)
 generalize w.heap.size = ba at *
 generalize w.alloc (.cells #[.string x.kind,.int .i64 x.A,.int .i64 x.B,.int .i64 x.C,.int .i64 x.D,.string x.S,.slice ko kn kc] 45) = wa at *
 have c0:=(ld 30 h0 rfl).1 0
 go_wp2_with fail
 refine (HP.out _ _ h0).mono ?_
 rintro e w4 ⟨Y',hy,rfl,hx4,h4⟩
 go_wp2_with fail
 refine (HR.out _ _ (yw_r h4)).mono ?_
 rintro e w5 ⟨Y2',hy2,rfl,hx5,h5'⟩
 have h5:=yw_b h5'
 go_wp2_with fail
 refine (zd f f _ hcode).mono ?_
 rintro e w' ⟨rfl,rfl⟩
 go_wp2_with fail
 go_ret
 exact ⟨Y',Y2',hy,hy2,by simp,(hxa.trans hx4).trans hx5,lh 30 h5 rfl⟩
theorem Mt (Y : YA) (Y2 : RA) (m : lf) (N : Nat) (hm : lJ N m) (hN : N + 2000 < 890000) (x : Act) (hA : lR x.A) (hB : lR x.B) (hS : x.S.size <= 700) (ko : Option Addr) (kn kc : Nat) (R : List SL.HP) (hT : ∀w' L,own w' (L++R) -> yR w') (w : World) (H : own w (yL Y m (ryL Y2 m R))) (k0 : ¬(x.kind.toList == [119,114,105,116,101]) = true) (k1 : ¬(x.kind.toList == [119,105,112,101]) = true) (k2 : ¬(x.kind.toList == [114,101,97,100]) = true) (k3 : ¬(x.kind.toList == [102,108,117,115,104]) = true) (k4 : ¬(x.kind.toList == [98,108,97,110,107]) = true) (k5 : ¬(x.kind.toList == [115,110,97,112]) = true) (k6 : ¬(x.kind.toList == [115,116,97,114,116]) = true) (k7 : ¬(x.kind.toList == [112,105,118,111,116]) = true) (k8 : (x.kind.toList == [99,97,110,99,101,108]) = true) :
  Calls Tryz.prog 29 #[.pointer (some ⟨Y.y,0,none⟩),.pointer (some ⟨Y2.y,0,none⟩),.agg #[.string x.kind,.int .i64 x.A,.int .i64 x.B,.int .i64 x.C,.int .i64 x.D,.string x.S,.slice ko kn kc]] w (AB Y Y2 (zT m).2 R w):=by
 have h0:=A8 (.cells #[.string x.kind,.int .i64 x.A,.int .i64 x.B,.int .i64 x.C,.int .i64 x.D,.string x.S,.slice ko kn kc] 45) H
 have hxa:=(zR w).alloc (.cells #[.string x.kind,.int .i64 x.A,.int .i64 x.B,.int .i64 x.C,.int .i64 x.D,.string x.S,.slice ko kn kc] 45)
 have hcode : 0 <= (zT m).1:=Nl _
 have HP:=zh (fun (R' : List SL.HP) w' h=>Oy N Y m hm.ok (by omega) R' w' h)
 have HR:=zh (fun (R' : List SL.HP) w' h=>MV N Y2 m hm.ok (by omega) R' w' h)
 unfold zH at HP
 unfold za at HR
 generalize zT m = S at *
 obtain ⟨f,m2⟩:=S
 dsimp only at hcode HP HR ⊢
 clear H hm hN hT hA hB hS
 go_enter Tryz.func29,Tryz.ntmps29
 go_upto_region 1 with (fail)
 generalize w.heap.size = ba at *
 generalize w.alloc (.cells #[.string x.kind,.int .i64 x.A,.int .i64 x.B,.int .i64 x.C,.int .i64 x.D,.string x.S,.slice ko kn kc] 45) = wa at *
 have c0:=(ld 30 h0 rfl).1 0
 go_wp2_with fail
 refine (HP.out _ _ h0).mono ?_
 rintro e w4 ⟨Y',hy,rfl,hx4,h4⟩
 go_wp2_with fail
 refine (HR.out _ _ (yw_r h4)).mono ?_
 rintro e w5 ⟨Y2',hy2,rfl,hx5,h5'⟩
 have h5:=yw_b h5'
 go_wp2_with fail
 refine (zd f f _ hcode).mono ?_
 rintro e w' ⟨rfl,rfl⟩
 go_wp2_with fail
 go_ret
 exact ⟨Y',Y2',hy,hy2,by simp,(hxa.trans hx4).trans hx5,lh 30 h5 rfl⟩
theorem MO (Y : YA) (Y2 : RA) (m : lf) (N : Nat) (hm : lJ N m) (hN : N + 2000 < 890000) (x : Act) (hA : lR x.A) (hB : lR x.B) (hS : x.S.size <= 700) (ko : Option Addr) (kn kc : Nat) (R : List SL.HP) (hT : ∀w' L,own w' (L++R) -> yR w') (w : World) (H : own w (yL Y m (ryL Y2 m R))) (k0 : ¬(x.kind.toList == [119,114,105,116,101]) = true) (k1 : ¬(x.kind.toList == [119,105,112,101]) = true) (k2 : ¬(x.kind.toList == [114,101,97,100]) = true) (k3 : ¬(x.kind.toList == [102,108,117,115,104]) = true) (k4 : ¬(x.kind.toList == [98,108,97,110,107]) = true) (k5 : ¬(x.kind.toList == [115,110,97,112]) = true) (k6 : ¬(x.kind.toList == [115,116,97,114,116]) = true) (k7 : ¬(x.kind.toList == [112,105,118,111,116]) = true) (k8 : ¬(x.kind.toList == [99,97,110,99,101,108]) = true) (k9 : (x.kind.toList == [112,97,117,115,101]) = true) :
  Calls Tryz.prog 29 #[.pointer (some ⟨Y.y,0,none⟩),.pointer (some ⟨Y2.y,0,none⟩),.agg #[.string x.kind,.int .i64 x.A,.int .i64 x.B,.int .i64 x.C,.int .i64 x.D,.string x.S,.slice ko kn kc]] w (AB Y Y2 (zW m (decide (0 < x.A))).2 R w):=by
 have h0:=A8 (.cells #[.string x.kind,.int .i64 x.A,.int .i64 x.B,.int .i64 x.C,.int .i64 x.D,.string x.S,.slice ko kn kc] 45) H
 have hxa:=(zR w).alloc (.cells #[.string x.kind,.int .i64 x.A,.int .i64 x.B,.int .i64 x.C,.int .i64 x.D,.string x.S,.slice ko kn kc] 45)
 have hcode : 0 <= (zW m (decide (0 < x.A))).1:=M8 _ _
 have HP:=zh (fun (R' : List SL.HP) w' h=>Sc Y m hm.ok.jok (decide (0 < x.A)) R' w' h)
 have HR:=zh (fun (R' : List SL.HP) w' h=>OE Y2 m (decide (0 < x.A)) R' w' h)
 unfold zH at HP
 unfold za at HR
 generalize zW m (decide (0 < x.A)) = S at *
 obtain ⟨f,m2⟩:=S
 dsimp only at hcode HP HR ⊢
 clear H hm hN hT hA hB hS
 go_enter Tryz.func29,Tryz.ntmps29
 go_upto_region 1 with (fail)
 generalize w.heap.size = ba at *
 generalize w.alloc (.cells #[.string x.kind,.int .i64 x.A,.int .i64 x.B,.int .i64 x.C,.int .i64 x.D,.string x.S,.slice ko kn kc] 45) = wa at *
 have c0:=(ld 30 h0 rfl).1 0
 have c1:=(ld 30 h0 rfl).1 1
 go_upto_region 26 with (fail)
 have hd:=lj h0
 go_region_held3 (fun w'=>w'.cell? ⟨ba,1,none⟩ = some (.int .i64 x.A)) (first | exact (ld 30 hd rfl).1 1 | exact (ld 30 h4 rfl).1 1 | exact (ld 30 h5 rfl).1 1) (first | (go_at_call 115; refine (HP.out _ _ hd).mono ?_; rintro e w4 ⟨Y',hy,rfl,hx4,h4⟩) | (go_at_call 116; refine (HR.out _ _ (yw_r h4)).mono ?_; rintro e w5 ⟨Y2',hy2,rfl,hx5,h5'⟩; have h5:=yw_b h5') | (go_at_call 17; refine (zd f f _ hcode).mono ?_; rintro e w' ⟨rfl,rfl⟩))
 go_wp2_with fail
 go_ret
 exact ⟨Y',Y2',hy,hy2,by simp,(hxa.drew.trans hx4).trans hx5,lh 30 h5 rfl⟩
theorem O6 (Y : YA) (Y2 : RA) (m : lf) (N : Nat) (hm : lJ N m) (hN : N + 2000 < 890000) (x : Act) (hA : lR x.A) (hB : lR x.B) (hS : x.S.size <= 700) (ko : Option Addr) (kn kc : Nat) (R : List SL.HP) (hT : ∀w' L,own w' (L++R) -> yR w') (w : World) (H : own w (yL Y m (ryL Y2 m R))) (k0 : ¬(x.kind.toList == [119,114,105,116,101]) = true) (k1 : ¬(x.kind.toList == [119,105,112,101]) = true) (k2 : ¬(x.kind.toList == [114,101,97,100]) = true) (k3 : ¬(x.kind.toList == [102,108,117,115,104]) = true) (k4 : ¬(x.kind.toList == [98,108,97,110,107]) = true) (k5 : ¬(x.kind.toList == [115,110,97,112]) = true) (k6 : ¬(x.kind.toList == [115,116,97,114,116]) = true) (k7 : ¬(x.kind.toList == [112,105,118,111,116]) = true) (k8 : ¬(x.kind.toList == [99,97,110,99,101,108]) = true) (k9 : ¬(x.kind.toList == [112,97,117,115,101]) = true) (k10 : (x.kind.toList == [116,105,99,107]) = true) :
  Calls Tryz.prog 29 #[.pointer (some ⟨Y.y,0,none⟩),.pointer (some ⟨Y2.y,0,none⟩),.agg #[.string x.kind,.int .i64 x.A,.int .i64 x.B,.int .i64 x.C,.int .i64 x.D,.string x.S,.slice ko kn kc]] w (AB Y Y2 (Az m x.A).2 R w):=by
 have h0:=A8 (.cells #[.string x.kind,.int .i64 x.A,.int .i64 x.B,.int .i64 x.C,.int .i64 x.D,.string x.S,.slice ko kn kc] 45) H
 have hxa:=(zR w).alloc (.cells #[.string x.kind,.int .i64 x.A,.int .i64 x.B,.int .i64 x.C,.int .i64 x.D,.string x.S,.slice ko kn kc] 45)
 have hcode : 0 <= (Az m x.A).1:=OP _ _
 have HP:=zh (fun (R' : List SL.HP) w' h=>SU Y m hm.ok.jok x.A R' w' h)
 have HR:=zh (fun (R' : List SL.HP) w' h=>Qx Y2 m hm.ok.jok x.A R' w' h)
 unfold zH at HP
 unfold za at HR
 generalize Az m x.A = S at *
 obtain ⟨f,m2⟩:=S
 dsimp only at hcode HP HR ⊢
 clear H hm hN hT hA hB hS
 go_enter Tryz.func29,Tryz.ntmps29
 go_upto_region 1 with (fail)
 generalize w.heap.size = ba at *
 generalize w.alloc (.cells #[.string x.kind,.int .i64 x.A,.int .i64 x.B,.int .i64 x.C,.int .i64 x.D,.string x.S,.slice ko kn kc] 45) = wa at *
 have c0:=(ld 30 h0 rfl).1 0
 have c1:=(ld 30 h0 rfl).1 1
 go_upto_region 28 with (fail)
 have hd:=lj h0
 go_region_held3 (fun w'=>w'.cell? ⟨ba,1,none⟩ = some (.int .i64 x.A)) (first | exact (ld 30 hd rfl).1 1 | exact (ld 30 h4 rfl).1 1 | exact (ld 30 h5 rfl).1 1) (first | (go_at_call 117; refine (HP.out _ _ hd).mono ?_; rintro e w4 ⟨Y',hy,rfl,hx4,h4⟩) | (go_at_call 118; refine (HR.out _ _ (yw_r h4)).mono ?_; rintro e w5 ⟨Y2',hy2,rfl,hx5,h5'⟩; have h5:=yw_b h5') | (go_at_call 17; refine (zd f f _ hcode).mono ?_; rintro e w' ⟨rfl,rfl⟩))
 go_wp2_with fail
 go_ret
 exact ⟨Y',Y2',hy,hy2,by simp,(hxa.drew.trans hx4).trans hx5,lh 30 h5 rfl⟩
theorem Pb (Y : YA) (Y2 : RA) (m : lf) (N : Nat) (hm : lJ N m) (hN : N + 2000 < 890000) (x : Act) (hA : lR x.A) (hB : lR x.B) (hS : x.S.size <= 700) (ko : Option Addr) (kn kc : Nat) (R : List SL.HP) (hT : ∀w' L,own w' (L++R) -> yR w') (w : World) (H : own w (yL Y m (ryL Y2 m R))) (k0 : ¬(x.kind.toList == [119,114,105,116,101]) = true) (k1 : ¬(x.kind.toList == [119,105,112,101]) = true) (k2 : ¬(x.kind.toList == [114,101,97,100]) = true) (k3 : ¬(x.kind.toList == [102,108,117,115,104]) = true) (k4 : ¬(x.kind.toList == [98,108,97,110,107]) = true) (k5 : ¬(x.kind.toList == [115,110,97,112]) = true) (k6 : ¬(x.kind.toList == [115,116,97,114,116]) = true) (k7 : ¬(x.kind.toList == [112,105,118,111,116]) = true) (k8 : ¬(x.kind.toList == [99,97,110,99,101,108]) = true) (k9 : ¬(x.kind.toList == [112,97,117,115,101]) = true) (k10 : ¬(x.kind.toList == [116,105,99,107]) = true) (k11 : (x.kind.toList == [102,97,105,108]) = true) :
  Calls Tryz.prog 29 #[.pointer (some ⟨Y.y,0,none⟩),.pointer (some ⟨Y2.y,0,none⟩),.agg #[.string x.kind,.int .i64 x.A,.int .i64 x.B,.int .i64 x.C,.int .i64 x.D,.string x.S,.slice ko kn kc]] w (AB Y Y2 (armM m x.A x.B).2 R w):=by
 have h0:=A8 (.cells #[.string x.kind,.int .i64 x.A,.int .i64 x.B,.int .i64 x.C,.int .i64 x.D,.string x.S,.slice ko kn kc] 45) H
 have hxa:=(zR w).alloc (.cells #[.string x.kind,.int .i64 x.A,.int .i64 x.B,.int .i64 x.C,.int .i64 x.D,.string x.S,.slice ko kn kc] 45)
 have hcode : 0 <= (armM m x.A x.B).1:=TC _ _ _
 have HP:=zh (fun (R' : List SL.HP) w' h=>SY Y m x.A x.B R' w' h)
 have HR:=zh (fun (R' : List SL.HP) w' h=>SH Y2 m x.A x.B R' w' h)
 unfold zH at HP
 unfold za at HR
 generalize armM m x.A x.B = S at *
 obtain ⟨f,m2⟩:=S
 dsimp only at hcode HP HR ⊢
 clear H hm hN hT hA hB hS
 go_enter Tryz.func29,Tryz.ntmps29
 go_upto_region 1 with (fail)
 generalize w.heap.size = ba at *
 generalize w.alloc (.cells #[.string x.kind,.int .i64 x.A,.int .i64 x.B,.int .i64 x.C,.int .i64 x.D,.string x.S,.slice ko kn kc] 45) = wa at *
 have c0:=(ld 30 h0 rfl).1 0
 have c1:=(ld 30 h0 rfl).1 1
 have c2:=(ld 30 h0 rfl).1 2
 go_upto_region 30 with (fail)
 have hd:=lj h0
 go_region_held3 (fun w'=>w'.cell? ⟨ba,1,none⟩ = some (.int .i64 x.A) /\ w'.cell? ⟨ba,2,none⟩ = some (.int .i64 x.B)) (first | exact ⟨(ld 30 hd rfl).1 1,(ld 30 hd rfl).1 2⟩ | exact ⟨(ld 30 h4 rfl).1 1,(ld 30 h4 rfl).1 2⟩ | exact ⟨(ld 30 h5 rfl).1 1,(ld 30 h5 rfl).1 2⟩) (first | (go_at_call 119; refine (HP.out _ _ hd).mono ?_; rintro e w4 ⟨Y',hy,rfl,hx4,h4⟩) | (go_at_call 120; refine (HR.out _ _ (yw_r h4)).mono ?_; rintro e w5 ⟨Y2',hy2,rfl,hx5,h5'⟩; have h5:=yw_b h5') | (go_at_call 17; refine (zd f f _ hcode).mono ?_; rintro e w' ⟨rfl,rfl⟩))
 go_wp2_with fail
 go_ret
 exact ⟨Y',Y2',hy,hy2,by simp,(hxa.drew.trans hx4).trans hx5,lh 30 h5 rfl⟩
theorem OH (Y : YA) (Y2 : RA) (m : lf) (N : Nat) (hm : lJ N m) (hN : N + 2000 < 890000) (x : Act) (hA : lR x.A) (hB : lR x.B) (hS : x.S.size <= 700) (ko : Option Addr) (kn kc : Nat) (R : List SL.HP) (hT : ∀w' L,own w' (L++R) -> yR w') (w : World) (H : own w (yL Y m (ryL Y2 m R))) (k0 : ¬(x.kind.toList == [119,114,105,116,101]) = true) (k1 : ¬(x.kind.toList == [119,105,112,101]) = true) (k2 : ¬(x.kind.toList == [114,101,97,100]) = true) (k3 : ¬(x.kind.toList == [102,108,117,115,104]) = true) (k4 : ¬(x.kind.toList == [98,108,97,110,107]) = true) (k5 : ¬(x.kind.toList == [115,110,97,112]) = true) (k6 : ¬(x.kind.toList == [115,116,97,114,116]) = true) (k7 : ¬(x.kind.toList == [112,105,118,111,116]) = true) (k8 : ¬(x.kind.toList == [99,97,110,99,101,108]) = true) (k9 : ¬(x.kind.toList == [112,97,117,115,101]) = true) (k10 : ¬(x.kind.toList == [116,105,99,107]) = true) (k11 : ¬(x.kind.toList == [102,97,105,108]) = true) :
  Calls Tryz.prog 29 #[.pointer (some ⟨Y.y,0,none⟩),.pointer (some ⟨Y2.y,0,none⟩),.agg #[.string x.kind,.int .i64 x.A,.int .i64 x.B,.int .i64 x.C,.int .i64 x.D,.string x.S,.slice ko kn kc]] w (AB Y Y2 (zE m).2 R w):=by
 have h0:=A8 (.cells #[.string x.kind,.int .i64 x.A,.int .i64 x.B,.int .i64 x.C,.int .i64 x.D,.string x.S,.slice ko kn kc] 45) H
 have hxa:=(zR w).alloc (.cells #[.string x.kind,.int .i64 x.A,.int .i64 x.B,.int .i64 x.C,.int .i64 x.D,.string x.S,.slice ko kn kc] 45)
 have hcode : 0 <= (zE m).1.2:=JC _
 have HP:=zh (fun (P : SL.HP) w' h=>LE N Y m hm.ok (by omega) (hm.linkOk (by omega)) (ryL Y2 m ([P]++R)) (Ob Y2 m (Lw hT [P])) w' h)
 have HR:=zh (fun (R' : List SL.HP) w' h=>KT N Y2 m hm.ok (by omega) (hm.linkOk (by omega)) R' w' h)
 unfold No at HP
 unfold Lt at HR
 generalize zE m = S at *
 obtain ⟨⟨did,f⟩,m2⟩:=S
 dsimp only at hcode HP HR ⊢
 clear H hm hN hT hA hB hS
 go_enter Tryz.func29,Tryz.ntmps29
 go_upto_region 1 with (fail)
 generalize w.heap.size = ba at *
 generalize w.alloc (.cells #[.string x.kind,.int .i64 x.A,.int .i64 x.B,.int .i64 x.C,.int .i64 x.D,.string x.S,.slice ko kn kc] 45) = wa at *
 have c0:=(ld 30 h0 rfl).1 0
 go_wp2_with fail
 refine (HP.out _ _ h0).mono ?_
 rintro e w4 ⟨Y',hy,rfl,hx4,h4⟩
 go_wp2_with fail
 refine (HR.out _ _ (yw_r h4)).mono ?_
 rintro e w5 ⟨Y2',hy2,rfl,hx5,h5'⟩
 have h5:=yw_b h5'
 cases did
 all_goals
  go_wp2_with fail
  refine (zd f f _ hcode).mono ?_
  rintro e w' ⟨rfl,rfl⟩
  go_wp2_with fail
  go_ret
  exact ⟨Y',Y2',hy,hy2,by simp,(hxa.trans hx4).trans hx5,lh 30 h5 rfl⟩
def GS (m : lf) (x : Act) : lf:=
 if (x.kind.toList == [119,114,105,116,101]) = true then (zQ m x.A x.S).2
 else if (x.kind.toList == [119,105,112,101]) = true then (if x.B < 0 \/ 200 < x.B then m else (Aa m x.A x.B).2)
 else if (x.kind.toList == [114,101,97,100]) = true then m
 else if (x.kind.toList == [102,108,117,115,104]) = true then (zE (Ar m)).2
 else if (x.kind.toList == [98,108,97,110,107]) = true then (oB m x.A (-1)).2
 else if (x.kind.toList == [115,110,97,112]) = true then (Bt m x.A).2
 else if (x.kind.toList == [115,116,97,114,116]) = true then (AC m x.A x.B x.C x.D).2
 else if (x.kind.toList == [112,105,118,111,116]) = true then (AD m).2
 else if (x.kind.toList == [99,97,110,99,101,108]) = true then (zT m).2
 else if (x.kind.toList == [112,97,117,115,101]) = true then (zW m (decide (0 < x.A))).2
 else if (x.kind.toList == [116,105,99,107]) = true then (Az m x.A).2
 else if (x.kind.toList == [102,97,105,108]) = true then (armM m x.A x.B).2
 else (zE m).2
theorem Sa (Y : YA) (Y2 : RA) (m : lf) (N : Nat) (hm : lJ N m) (hN : N + 2000 < 890000) (x : Act) (hA : lR x.A) (hB : lR x.B) (hS : x.S.size <= 700) (ko : Option Addr) (kn kc : Nat) (R : List SL.HP) (hT : ∀w' L,own w' (L++R) -> yR w') (w : World) (H : own w (yL Y m (ryL Y2 m R))) :
  Calls Tryz.prog 29 #[.pointer (some ⟨Y.y,0,none⟩),.pointer (some ⟨Y2.y,0,none⟩),.agg #[.string x.kind,.int .i64 x.A,.int .i64 x.B,.int .i64 x.C,.int .i64 x.D,.string x.S,.slice ko kn kc]] w (AB Y Y2 (GS m x) R w):=by
 unfold GS
 by_cases k0 : (x.kind.toList == [119,114,105,116,101]) = true
 ·rw [zt k0]
  exact M5 Y Y2 m N hm hN x hA hB hS ko kn kc R hT w H k0
 rw [zq k0]
 by_cases k1 : (x.kind.toList == [119,105,112,101]) = true
 ·rw [zt k1]
  by_cases hb : x.B < 0 \/ 200 < x.B
  ·rw [zt hb]; exact Ln Y Y2 m N hm hN x hA hB hS ko kn kc R hT w H k0 k1 hb
  ·rw [zq hb]; exact KV Y Y2 m N hm hN x hA hB hS ko kn kc R hT w H k0 k1 hb
 rw [zq k1]
 by_cases k2 : (x.kind.toList == [114,101,97,100]) = true
 ·rw [zt k2]
  exact Oo Y Y2 m N hm hN x hA hB hS ko kn kc R hT w H k0 k1 k2
 rw [zq k2]
 by_cases k3 : (x.kind.toList == [102,108,117,115,104]) = true
 ·rw [zt k3]
  exact Np Y Y2 m N hm hN x hA hB hS ko kn kc R hT w H k0 k1 k2 k3
 rw [zq k3]
 by_cases k4 : (x.kind.toList == [98,108,97,110,107]) = true
 ·rw [zt k4]
  exact NF Y Y2 m N hm hN x hA hB hS ko kn kc R hT w H k0 k1 k2 k3 k4
 rw [zq k4]
 by_cases k5 : (x.kind.toList == [115,110,97,112]) = true
 ·rw [zt k5]
  exact Pc Y Y2 m N hm hN x hA hB hS ko kn kc R hT w H k0 k1 k2 k3 k4 k5
 rw [zq k5]
 by_cases k6 : (x.kind.toList == [115,116,97,114,116]) = true
 ·rw [zt k6]
  exact NB Y Y2 m N hm hN x hA hB hS ko kn kc R hT w H k0 k1 k2 k3 k4 k5 k6
 rw [zq k6]
 by_cases k7 : (x.kind.toList == [112,105,118,111,116]) = true
 ·rw [zt k7]
  exact Nb Y Y2 m N hm hN x hA hB hS ko kn kc R hT w H k0 k1 k2 k3 k4 k5 k6 k7
 rw [zq k7]
 by_cases k8 : (x.kind.toList == [99,97,110,99,101,108]) = true
 ·rw [zt k8]
  exact Mt Y Y2 m N hm hN x hA hB hS ko kn kc R hT w H k0 k1 k2 k3 k4 k5 k6 k7 k8
 rw [zq k8]
 by_cases k9 : (x.kind.toList == [112,97,117,115,101]) = true
 ·rw [zt k9]
  exact MO Y Y2 m N hm hN x hA hB hS ko kn kc R hT w H k0 k1 k2 k3 k4 k5 k6 k7 k8 k9
 rw [zq k9]
 by_cases k10 : (x.kind.toList == [116,105,99,107]) = true
 ·rw [zt k10]
  exact O6 Y Y2 m N hm hN x hA hB hS ko kn kc R hT w H k0 k1 k2 k3 k4 k5 k6 k7 k8 k9 k10
 rw [zq k10]
 by_cases k11 : (x.kind.toList == [102,97,105,108]) = true
 ·rw [zt k11]
  exact Pb Y Y2 m N hm hN x hA hB hS ko kn kc R hT w H k0 k1 k2 k3 k4 k5 k6 k7 k8 k9 k10 k11
 rw [zq k11]
 exact OH Y Y2 m N hm hN x hA hB hS ko kn kc R hT w H k0 k1 k2 k3 k4 k5 k6 k7 k8 k9 k10 k11
def Br (A : Nat -> Nat×Nat×Nat) (q k : Nat) : Value:=if k < q then .pointer (some ⟨(A k).2.1,0,none⟩) else .pointer none
def nC (bs : Nat) (A : Nat -> Nat×Nat×Nat) (q : Nat) (t : Value) (dk : lI) (v : Value) : Array Value:=#[Br A q 0,Br A q 1,Br A q 2,Br A q 3,Br A q 4,t,.pointer (some ⟨bs,0,none⟩),.int .i64 dk.root,.int .i64 dk.kind,.int .i64 dk.file,.int .i64 dk.rate,.int .i64 dk.burst,v,.pointer none]
def zZ (A : Nat -> Nat×Nat×Nat) (F : ShM) (D : Nat -> DevM) (q k : Nat) : HP:=if k < q then oM A F D k else emp
def nT (y bs : Nat) (A : Nat -> Nat×Nat×Nat) (F : ShM) (D : Nat -> DevM) (q : Nat) (t : Value) (dk : lI) (v : Value) : List SL.HP:=[pts y (.cells (nC bs A q t dk v) 165 (0,0)),zZ A F D q 0,zZ A F D q 1,zZ A F D q 2,zZ A F D q 3,zZ A F D q 4]
abbrev nL (y bs : Nat) (A : Nat -> Nat×Nat×Nat) (F : ShM) (D : Nat -> DevM) (q : Nat) (t : Value) (dk : lI) (v : Value) (R : List SL.HP) : List SL.HP:=shL bs A F++(nT y bs A F D q t dk v++R)
theorem Vu {y bs : Nat} {A : Nat -> Nat×Nat×Nat} {F : ShM} (D : Nat -> DevM) {t v : Value} {dk : lI} {R : List SL.HP} {w : World}
  (H : own w (pts y (.cells #[.pointer none,.pointer none,.pointer none,.pointer none,.pointer none,t,.pointer (some ⟨bs,0,none⟩),.int .i64 dk.root,.int .i64 dk.kind,.int .i64 dk.file,.int .i64 dk.rate,.int .i64 dk.burst,v,.pointer none] 165 (0,0))::(shL bs A F++R))) : own w (nL y bs A F D 0 t dk v R):=by
 have h1:=yy (yy (yy (yy (yy H))))
 have h2:=lp [emp,emp,emp,emp,emp] [_] h1
 exact lp (nT y bs A F D 0 t dk v) (shL bs A F) h2
theorem VY {bs q : Nat} {A : Nat -> Nat×Nat×Nat} {F : ShM} {a : Nat×Nat×Nat} (hF : F q = none) : shL bs (stA A q a) F = shL bs A F:=by
 have hP : ∀k,oJ (stA A q a) F k = oJ A F k:=fun k=>by
  unfold oJ stA
  by_cases e : k = q
  ·subst e; rw [hF]
  ·rw [zq e]
 have hV : ∀k,yB (stA A q a) F k = yB A F k:=fun k=>by
  unfold yB stA
  by_cases e : k = q
  ·subst e; rw [hF]
  ·rw [zq e]
 unfold shL yj
 rw [hP,hP,hP,hP,hP,hV,hV,hV,hV,hV]
theorem UP {A : Nat -> Nat×Nat×Nat} {q k : Nat} {a : Nat×Nat×Nat} : Br (stA A q a) (q + 1) k = if k = q then .pointer (some ⟨a.2.1,0,none⟩) else Br A q k:=by
 unfold Br stA
 by_cases e : k = q
 ·subst e; rw [zt rfl,zt rfl,zt (by omega)]
 ·rw [zq e,zq e]
  by_cases h : k < q
  ·rw [zt h,zt (by omega)]
  ·rw [zq h,zq (by omega)]
theorem UK {A : Nat -> Nat×Nat×Nat} {F : ShM} {D : Nat -> DevM} {q k : Nat} {a : Nat×Nat×Nat} (hF : F q = none) : zZ (stA A q a) F D (q + 1) k = if k = q then lm a.2.1 (D q) else zZ A F D q k:=by
 unfold zZ oM stA
 by_cases e : k = q
 ·subst e; rw [zt (by omega),hF,zt rfl,zt rfl]
 ·rw [zq e,zq e]
  by_cases h : k < q
  ·rw [zt h,zt (by omega)]
  ·rw [zq h,zq (by omega)]
theorem Fa {A : Nat -> Nat×Nat×Nat} {F : ShM} {D : Nat -> DevM} {q : Nat} : zZ A F D q q = emp:=zq (by omega)
theorem Vt {y bs q c : Nat} {A : Nat -> Nat×Nat×Nat} {F : ShM} {D : Nat -> DevM} {t v : Value} {dk : lI} {R : List SL.HP} {w : World} (hq : q < 5) (hF : F q = none) (H : own w (lm c (D q)::nL y bs A F D q t dk v R)) :
  own (w.setCell ⟨y,q,none⟩ (.pointer (some ⟨c,0,none⟩))) (nL y bs (stA A q (0,c,0)) F D (q + 1) t dk v R):=by
 have h1:=lg (i:=q) (v:=.pointer (some ⟨c,0,none⟩)) 7 H rfl
 show own _ (shL bs (stA A q (0,c,0)) F++(nT y bs (stA A q (0,c,0)) F D (q + 1) t dk v++R))
 unfold nT nC
 rw [VY hF]
 simp only [UP,UK hF]
 match q,hq with
 | 0,_=>exact oK 7 h1 (by show some (zZ A F D 0 0) = _; rw [Fa])
 | 1,_=>exact oK 8 h1 (by show some (zZ A F D 1 1) = _; rw [Fa])
 | 2,_=>exact oK 9 h1 (by show some (zZ A F D 2 2) = _; rw [Fa])
 | 3,_=>exact oK 10 h1 (by show some (zZ A F D 3 3) = _; rw [Fa])
 | 4,_=>exact oK 11 h1 (by show some (zZ A F D 4 4) = _; rw [Fa])
theorem Wh {y bs q k : Nat} {A : Nat -> Nat×Nat×Nat} {F : ShM} {D : Nat -> DevM} {t v : Value} {dk : lI} {R : List SL.HP} {w : World} (hk : k < 5) (hq : k < q) (hF : F k = none) (H : own w (nL y bs A F D q t dk v R)) :
  own w (lm (A k).2.1 (D k)::(nL y bs A F D q t dk v R).set (7 + k) emp):=by
 have e : zZ A F D q k = lm (A k).2.1 (D k):=by unfold zZ oM; rw [zt hq,hF]
 have hg : (nL y bs A F D q t dk v R)[7 + k]? = some (zZ A F D q k):=by
  match k,hk with
  | 0,_=>rfl
  | 1,_=>rfl
  | 2,_=>rfl
  | 3,_=>rfl
  | 4,_=>rfl
 have h1:=Dy (7 + k) H hg
 rwa [e] at h1
theorem WR {y bs q k : Nat} {A : Nat -> Nat×Nat×Nat} {F : ShM} {D : Nat -> DevM} {t v : Value} {dk : lI} {R : List SL.HP} {w : World} (hk : k < 5) (hq : k < q) (hF : F k = none) (H : own w (lm (A k).2.1 (D k)::(nL y bs A F D q t dk v R).set (7 + k) emp)) :
  own w (nL y bs A F D q t dk v R):=by
 have e : zZ A F D q k = lm (A k).2.1 (D k):=by unfold zZ oM; rw [zt hq,hF]
 rw [<- e] at H
 match k,hk with
 | 0,_=>exact oK 7 H rfl
 | 1,_=>exact oK 8 H rfl
 | 2,_=>exact oK 9 H rfl
 | 3,_=>exact oK 10 H rfl
 | 4,_=>exact oK 11 H rfl
theorem TY {A : Nat -> Nat×Nat×Nat} {F : ShM} {D : Nat -> DevM} {q k j : Nat} {a : Nat×Nat×Nat} {i : ImgM} : zZ (setA A k a) (put F k i) D q j = if j = k then emp else zZ A F D q j:=by
 unfold zZ
 by_cases e : j = k
 ·subst e
  rw [zt rfl]
  split
  ·unfold oM; rw [zK]
  ·rfl
 ·rw [zq e]
  unfold oM
  rw [AX F i e,Cn A a e]
theorem Tc {A : Nat -> Nat×Nat×Nat} {q k j bi bh : Nat} : Br (setA A k (bi,(A k).2.1,bh)) q j = Br A q j:=by
 unfold Br
 by_cases e : j = k
 ·subst e; rw [DE]
 ·rw [Cn A _ e]
theorem Xa {y bs q k bi bh : Nat} {A : Nat -> Nat×Nat×Nat} {F : ShM} {D : Nat -> DevM} {t v : Value} {dk : lI} {i : ImgM} {R : List SL.HP} {w : World} (hk : k < 5) (hF : F k = none)
  (H : own w (lP bi (A k).2.1 bh i::lm (A k).2.1 i.d::(nL y bs A F D q t dk v R).set (7 + k) emp)) :
  own (w.setCell ⟨bs,k,none⟩ (.pointer (some ⟨bi,0,none⟩))) (nL y bs (setA A k (bi,(A k).2.1,bh)) (put F k i) D q t dk v R):=by
 have h1:=WA (R:=(nT y bs A F D q t dk v++R).set (1 + k) emp) hk hF (b:=bs) (A:=A) (w:=w) (bi:=bi) (bd:=(A k).2.1) (bh:=bh) (m:=i) (by
  match k,hk with
  | 0,_=>exact H
  | 1,_=>exact H
  | 2,_=>exact H
  | 3,_=>exact H
  | 4,_=>exact H)
 have e : (nT y bs A F D q t dk v++R).set (1 + k) emp = nT y bs (setA A k (bi,(A k).2.1,bh)) (put F k i) D q t dk v++R:=by
  unfold nT nC
  simp only [TY,Tc]
  match k,hk with
  | 0,_=>rfl
  | 1,_=>rfl
  | 2,_=>rfl
  | 3,_=>rfl
  | 4,_=>rfl
 rw [e] at h1
 exact h1
theorem S0 {y bs tp : Nat} {A : Nat -> Nat×Nat×Nat} {F : ShM} {D : Nat -> DevM} {v : Value} {dk : lI} {top : DevM} {l : List Int} {R : List SL.HP} {w : World} (H : own w (nL y bs A F D 5 (.pointer (some ⟨tp,0,none⟩)) dk v (lm tp top::row 3 1 v l.length (lo l)::R))) :
  own w (yL ⟨y,bs,tp,A,v,0,0,0,undef⟩ ⟨F,D,top,dk,l,none⟩ R):=
 lr ((yL ⟨y,bs,tp,A,v,0,0,0,undef⟩ ⟨F,D,top,dk,l,none⟩ R).take 14) (yy H)
theorem Bz {y bs q : Nat} {A : Nat -> Nat×Nat×Nat} {F : ShM} {D : Nat -> DevM} {t v : Value} {dk : lI} {R : List SL.HP} {w : World} (H : own w (nL y bs A F D q t dk v R)) : (∀i,w.cell? ⟨y,i,none⟩ = (nC bs A q t dk v)[i]?) /\ ∀i,w.frozen? ⟨y,i,none⟩ = false:=ld 6 H rfl
theorem Ta {y bs q k : Nat} {A : Nat -> Nat×Nat×Nat} {F : ShM} {D : Nat -> DevM} {t v : Value} {dk : lI} {R : List SL.HP} {w : World} (hk : k < 5) (H : own w (nL y bs A F D q t dk v R)) : w.cell? ⟨y,k,none⟩ = some (Br A q k):=by
 rw [(Bz H).1]
 have h : k = 0 \/ k = 1 \/ k = 2 \/ k = 3 \/ k = 4:=by omega
 rcases h with rfl | rfl | rfl | rfl | rfl
 all_goals rfl
theorem Kx {y bs q k c : Nat} {A : Nat -> Nat×Nat×Nat} {F : ShM} {D : Nat -> DevM} {t v : Value} {dk : lI} {R : List SL.HP} {w : World} (hk : k < 5) (hq : k < q) (hc : (A k).2.1 = c) (H : own w (nL y bs A F D q t dk v R)) : w.cell? ⟨y,k,none⟩ = some (.pointer (some ⟨c,0,none⟩)):=by
 rw [Ta hk H]; unfold Br; rw [zt hq,hc]
theorem Mq {y bs k : Nat} {A : Nat -> Nat×Nat×Nat} {F : ShM} {D : Nat -> DevM} {t v : Value} {dk : lI} {R : List SL.HP} {w : World} (hk : k < 5) (H : own w (nL y bs A F D k t dk v R)) : w.cell? ⟨y,k,none⟩ = some (.pointer none):=by
 rw [Ta hk H]; unfold Br; rw [zq (by omega)]
theorem n_bs {y bs q : Nat} {A : Nat -> Nat×Nat×Nat} {F : ShM} {D : Nat -> DevM} {t v : Value} {dk : lI} {R : List SL.HP} {w : World} (H : own w (nL y bs A F D q t dk v R)) : w.cell? ⟨y,6,none⟩ = some (.pointer (some ⟨bs,0,none⟩)):=(Bz H).1 6
theorem EU {y bs q : Nat} {A : Nat -> Nat×Nat×Nat} {F : ShM} {D : Nat -> DevM} {t v : Value} {dk : lI} {P : SL.HP} {R : List SL.HP} {w : World} (H : own w (P::nL y bs A F D q t dk v R)) : own w (nL y bs A F D q t dk v (P::R)):=by
 have h:=lr (shL bs A F++nT y bs A F D q t dk v) (R:=R) (by rw [zp]; exact H)
 rwa [zp] at h
def Ei (m : lf) : lf:=
 if m.dk.kind = 0 then m else if m.dk.kind = 2 /\ bkOf m.F m.dk.root = m.dk.file then { m with dk:=lz m.dk.root }
 else match newM m.F m.dk.root m.dk.kind m.dk.file m.dk.rate m.dk.burst with
  | (none,_)=>{ m with dk:=lz m.dk.root }
  | (some j,_)=>{ m with job:=some j }
theorem Vr {F : ShM} {k : Nat} {i : ImgM} (h : F k = some i) : bkOf F (k : Int) = i.b:=by unfold bkOf; rw [zn,h]
theorem Gp {Y : YA} {m : lf} {R : List SL.HP} {w : World} (d : lI) (H : own w (yL Y m R)) :
  own (((((w.setCell ⟨Y.y,7,none⟩ (.int .i64 d.root)).setCell ⟨Y.y,8,none⟩ (.int .i64 d.kind)).setCell ⟨Y.y,9,none⟩ (.int .i64 d.file)).setCell ⟨Y.y,10,none⟩ (.int .i64 d.rate)).setCell ⟨Y.y,11,none⟩ (.int .i64 d.burst)) (yL Y { m with dk:=d } R):=
 lg (i:=11) (v:=.int .i64 d.burst) 6 (lg (i:=10) (v:=.int .i64 d.rate) 6 (lg (i:=9) (v:=.int .i64 d.file) 6 (lg (i:=8) (v:=.int .i64 d.kind) 6 (lg (i:=7) (v:=.int .i64 d.root) 6 H rfl) rfl) rfl) rfl) rfl
theorem K5 {Y : YA} {m : lf} {j : JobM} {bj bt bb : Nat} {v : Value} {R : List SL.HP} {w : World} (H : own w (shL Y.bs Y.A m.F++(jobL Y.bs bj bt bb v j++(row 3 1 v j.list.length (lo j.list)::(yT Y m++R))))) :
  own w (yL Y m (jobL Y.bs bj bt bb v j++(row 3 1 v j.list.length (lo j.list)::R))):=by
 have h1:=T5 (shL Y.bs Y.A m.F) (jobL Y.bs bj bt bb v j++[row 3 1 v j.list.length (lo j.list)]) (yT Y m) (R:=R) (by simpa only [zp,List.singleton_append] using H)
 simpa only [zp,List.singleton_append] using h1
theorem So (N : Nat) (Y : YA) (m : lf) (hW : ShW N m.F) (hN : N < 900000) (hr : ly m.F m.dk.root) (R : List SL.HP) (w : World) (H : own w (yL Y m R)) :
  Calls Tryz.prog 98 #[.pointer (some ⟨Y.y,0,none⟩)] w fun e w'=>∃Y' : YA,Y'.y = Y.y /\ e = .returned (.tuple #[]) /\ Ext w w' /\ own w' (yL Y' (Ei m) R):=by
 have ck:=Cw H
 generalize hres : Ei m = res
 unfold Ei at hres
 by_cases h0 : m.dk.kind = 0
 ·rw [zt h0] at hres
  subst hres
  have t0 : (m.dk.kind == 0) = true:=by simp [h0]
  generalize m.dk.kind = kd at *
  clear h0
  go_enter Tryz.func98,Tryz.ntmps98
  go_wp2_with fail
  refine bodyPost_ret (results_none rfl _ _ _) rfl ?_
  exact ⟨Y,rfl,rfl,zR w,H⟩
 ·rw [zq h0] at hres
  have t0 : (m.dk.kind == 0) = false:=by simp [h0]
  have cb:=y_bs H
  have cr:=yS H
  have cf:=CF H
  obtain ⟨k,i,hk,hk5,hFk⟩:=lT hr
  have hroot:=oA (R:=yT Y m++R) H hk5
  rw [od hFk] at hroot
  rw [hk,Vr hFk] at hres
  have HNO:=zh (fun R' w' h=>CN m.dk.root R' w' h)
  have HH:=zh (fun (R' : List SL.HP) (w : World) (H : own w (shL Y.bs Y.A m.F++R'))=>Bc hk5 hFk R' w H)
  unfold lM at HH
  have f2:=Ld i.c i.p i.b
  rw [hk] at cr HNO
  unfold lz lI.v o8 at HNO
  dsimp only at HNO
  have g1 : (0 : Int) <= (k : Int):=by omega
  have g2 : (k : Int) < 5:=by omega
  have HN:=zh (fun (R : List SL.HP) (w : World) (H : own w (shL Y.bs Y.A m.F++R))=>MQ Y.bs Y.A m.F (hW.sh hN) (k : Int) m.dk.kind m.dk.file m.dk.rate m.dk.burst Bl R w H)
  have HDK : Hid (m.dk.root = (k : Int)):=zh hk
  have hnz:=I3 (F:=m.F) (root:=(k : Int)) (kind:=m.dk.kind) (file:=m.dk.file) (rate:=m.dk.rate) (burst:=m.dk.burst)
  have hnc:=Ef m.F (k : Int) m.dk.kind m.dk.file m.dk.rate m.dk.burst
  generalize newM m.F (k : Int) m.dk.kind m.dk.file m.dk.rate m.dk.burst = NR at *
  have HS:=zh (fun (w' : World) (R' : List SL.HP) (h : own w' (yL Y m R'))=>show w'.cell? ⟨Y.y,6,none⟩ = some (.pointer (some ⟨Y.bs,0,none⟩)) /\ w'.cell? ⟨Y.y,7,none⟩ = some (.int .i64 (k : Int)) /\ w'.cell? ⟨Y.y,8,none⟩ = some (.int .i64 m.dk.kind) /\ w'.cell? ⟨Y.y,9,none⟩ = some (.int .i64 m.dk.file) /\ w'.cell? ⟨Y.y,10,none⟩ = some (.int .i64 m.dk.rate) /\ w'.cell? ⟨Y.y,11,none⟩ = some (.int .i64 m.dk.burst) /\ w'.cell? ⟨Y.bs,k,none⟩ = some (.pointer (some ⟨(Y.A k).1,0,none⟩)) from ⟨y_bs h,by rw [yS h,HDK.out],Cw h,CF h,Fd h,DJ h,by rw [oA (R:=yT Y m++R') h hk5,od hFk]⟩)
  by_cases h2 : m.dk.kind = 2
  ·have t2 : (m.dk.kind == 2) = true:=by simp [h2]
   by_cases hb : i.b = m.dk.file
   ·have tb : (i.b == m.dk.file) = true:=by simp [hb]
    rw [zt ⟨h2,hb⟩] at hres
    have HRES:=zh hres
    clear hres HN hnz hnc h2 hb hFk hr h0 cb cf hroot hW
    go_enter Tryz.func98,Tryz.ntmps98
    go_upto_region 1 with (fail)
    have hz:=lj H
    have hxz:=(zR w).drew
    refine wp_region_held_drew (S:=fun w'=>w'.cell? ⟨Y.y,6,none⟩ = some (.pointer (some ⟨Y.bs,0,none⟩)) /\ w'.cell? ⟨Y.y,7,none⟩ = some (.int .i64 (k : Int)) /\ w'.cell? ⟨Y.y,8,none⟩ = some (.int .i64 m.dk.kind) /\ w'.cell? ⟨Y.y,9,none⟩ = some (.int .i64 m.dk.file) /\ w'.cell? ⟨Y.y,10,none⟩ = some (.int .i64 m.dk.rate) /\ w'.cell? ⟨Y.y,11,none⟩ = some (.int .i64 m.dk.burst) /\ w'.cell? ⟨Y.bs,k,none⟩ = some (.pointer (some ⟨(Y.A k).1,0,none⟩))) (by kernel_rfl) (HS.out _ _ hz) (fun hHeld=>?_)
    refine tk 0 ?_
    refine tk 1 ?_
    refine tk 2 ?_
    refine tk 3 ?_
    refine tk 4 ?_
    refine tk 5 ?_
    refine tk 6 ?_
    refine tk 7 ?_
    refine tk 8 ?_
    refine tk 9 ?_
    refine tk 10 ?_
    refine tk 11 ?_
    refine tk 12 ?_
    refine tk 13 ?_
    refine tk 14 ?_
    refine tk 15 ?_
    refine tk 16 ?_
    refine tk 17 ?_
    refine tk 18 ?_
    try simp only [Act.put,tA,tB,tC,tD,tE,tF]
    refine tk 21 ?_
    refine tk 22 ?_
    refine tk 23 ?_
    refine tk 24 ?_
    refine tk 25 ?_
    try simp only [Act.put,tA,tB,tC,tD,tE,tF]
    refine rd 19 rfl fun K hK=>?_
    go_simp
    go_at_call 71
    refine (HH.out _ _ hz).mono ?_
    rintro e w5 ⟨rfl,hx5,h5⟩
    go_simp
    refine hK.out _ _ (HS.out _ _ h5) (fun _=>?_)
    clear hK K
    try simp only [Act.put,tA,tB,tC,tD,tE,tF]
    refine tk 20 ?_
    try simp only [Act.put,tA,tB,tC,tD,tE,tF]
    refine tk 26 ?_
    refine tk 27 ?_
    try simp only [Act.put,tA,tB,tC,tD,tE,tF]
    refine wpAnyH_done (by kernel_rfl) ?_ _
    have hx7:=hxz.trans hx5
    have cr:=yS h5
    go_wp2_with fail
    refine (HNO.out _ _ h5).mono ?_
    rintro e w8 ⟨rfl,hx8,h8⟩
    have fy:=Cd h8
    have e7:=yS h8
    have e8:=Cw h8
    have e9:=CF h8
    have e10:=Fd h8
    have e11:=DJ h8
    have h9:=Gp (lz (k : Int)) h8
    clear cr
    go_wp2_with fail
    refine bodyPost_ret (results_none rfl _ _ _) rfl ?_
    rw [<- HRES.out]
    exact ⟨Y,rfl,rfl,((((((hx7.trans hx8).setCell _ _).setCell _ _).setCell _ _).setCell _ _).setCell _ _),h9⟩
   ·have tb : (i.b == m.dk.file) = false:=by simp [hb]
    rw [zq (fun h=>hb h.2)] at hres
    clear hb hFk hr hroot hW cb cf h0 h2
    go_enter Tryz.func98,Tryz.ntmps98
    go_upto_region 1 with (fail)
    have hz:=lj H
    have hxz:=(zR w).drew
    refine wp_region_held_drew (S:=fun w'=>w'.cell? ⟨Y.y,6,none⟩ = some (.pointer (some ⟨Y.bs,0,none⟩)) /\ w'.cell? ⟨Y.y,7,none⟩ = some (.int .i64 (k : Int)) /\ w'.cell? ⟨Y.y,8,none⟩ = some (.int .i64 m.dk.kind) /\ w'.cell? ⟨Y.y,9,none⟩ = some (.int .i64 m.dk.file) /\ w'.cell? ⟨Y.y,10,none⟩ = some (.int .i64 m.dk.rate) /\ w'.cell? ⟨Y.y,11,none⟩ = some (.int .i64 m.dk.burst) /\ w'.cell? ⟨Y.bs,k,none⟩ = some (.pointer (some ⟨(Y.A k).1,0,none⟩))) (by kernel_rfl) (HS.out _ _ hz) (fun hHeld=>?_)
    refine tk 0 ?_
    refine tk 1 ?_
    refine tk 2 ?_
    refine tk 3 ?_
    refine tk 4 ?_
    refine tk 5 ?_
    refine tk 6 ?_
    refine tk 7 ?_
    refine tk 8 ?_
    refine tk 9 ?_
    refine tk 10 ?_
    refine tk 11 ?_
    refine tk 12 ?_
    refine tk 13 ?_
    refine tk 14 ?_
    refine tk 15 ?_
    refine tk 16 ?_
    refine tk 17 ?_
    refine tk 18 ?_
    try simp only [Act.put,tA,tB,tC,tD,tE,tF]
    refine tk 21 ?_
    refine tk 22 ?_
    refine tk 23 ?_
    refine tk 24 ?_
    refine tk 25 ?_
    try simp only [Act.put,tA,tB,tC,tD,tE,tF]
    refine rd 19 rfl fun K hK=>?_
    go_simp
    go_at_call 71
    refine (HH.out _ _ hz).mono ?_
    rintro e w5 ⟨rfl,hx5,h5⟩
    go_simp
    refine hK.out _ _ (HS.out _ _ h5) (fun _=>?_)
    clear hK K
    try simp only [Act.put,tA,tB,tC,tD,tE,tF]
    refine tk 20 ?_
    try simp only [Act.put,tA,tB,tC,tD,tE,tF]
    refine tk 26 ?_
    refine tk 27 ?_
    try simp only [Act.put,tA,tB,tC,tD,tE,tF]
    refine wpAnyH_done (by kernel_rfl) ?_ _
    have hx7':=hxz.trans hx5
    clear f2 tb t2 HH hz hxz hHeld
    go_upto_region 3 with (fail)
    have hm3:=lj h5
    have hx3:=(hx7').drew
    cases hNR : NR with
    | mk oj f=>
     rw [hNR] at HN hres hnz hnc
     cases oj with
     | none=>
      have hf : 0 < f:=by have:=hnz rfl; dsimp only at this hnc; omega
      have HN1:=zh (fun (R : List SL.HP) (w : World) (H : own w (shL Y.bs Y.A m.F++R))=>(HN.out R w H).mono fun e w' h=>show e = .returned (.tuple #[.pointer none,errV f]) /\ Ext w w' /\ own w' (shL Y.bs Y.A m.F++R) from h)
      rw [lx hf] at HN1
      have HRES:=zh hres
      clear hres HN
      go_region_held3 (fun w'=>w'.cell? ⟨Y.y,6,none⟩ = some (.pointer (some ⟨Y.bs,0,none⟩)) /\ w'.cell? ⟨Y.y,7,none⟩ = some (.int .i64 (k : Int)) /\ w'.cell? ⟨Y.y,8,none⟩ = some (.int .i64 m.dk.kind) /\ w'.cell? ⟨Y.y,9,none⟩ = some (.int .i64 m.dk.file) /\ w'.cell? ⟨Y.y,10,none⟩ = some (.int .i64 m.dk.rate) /\ w'.cell? ⟨Y.y,11,none⟩ = some (.int .i64 m.dk.burst) /\ w'.cell? ⟨Y.bs,k,none⟩ = some (.pointer (some ⟨(Y.A k).1,0,none⟩))) (first | exact HS.out _ _ hm3 | exact HS.out _ _ h6) (first | (go_at_call 15; refine (HN1.out _ _ hm3).mono ?_; rintro e w6 ⟨rfl,hx6,h6⟩))
      have hx7:=hx3.trans hx6
      have cr:=yS h6
      go_wp2_with fail
      refine (HNO.out _ _ h6).mono ?_
      rintro e w8 ⟨rfl,hx8,h8⟩
      have fy:=Cd h8
      have e7:=yS h8
      have e8:=Cw h8
      have e9:=CF h8
      have e10:=Fd h8
      have e11:=DJ h8
      have h9:=Gp (lz (k : Int)) h8
      clear cr
      go_wp2_with fail
      refine bodyPost_ret (results_none rfl _ _ _) rfl ?_
      rw [<- HRES.out]
      exact ⟨Y,rfl,rfl,((((((hx7.trans hx8).setCell _ _).setCell _ _).setCell _ _).setCell _ _).setCell _ _),h9⟩
     | some j=>
      have HN1:=zh (fun (R : List SL.HP) (w : World) (H : own w (shL Y.bs Y.A m.F++R))=>(HN.out R w H).mono fun e w' h=>show ∃bj bt bb v,e = .returned (.tuple #[.pointer (some ⟨bj,0,none⟩),.nilIface]) /\ Ext w w' /\ own w' (shL Y.bs Y.A m.F++(jobL Y.bs bj bt bb v j++(row 3 1 v j.list.length (lo j.list)::R))) from h)
      have HRES:=zh hres
      clear hres HN
      go_region_held3 (fun w'=>w'.cell? ⟨Y.y,6,none⟩ = some (.pointer (some ⟨Y.bs,0,none⟩)) /\ w'.cell? ⟨Y.y,7,none⟩ = some (.int .i64 (k : Int)) /\ w'.cell? ⟨Y.y,8,none⟩ = some (.int .i64 m.dk.kind) /\ w'.cell? ⟨Y.y,9,none⟩ = some (.int .i64 m.dk.file) /\ w'.cell? ⟨Y.y,10,none⟩ = some (.int .i64 m.dk.rate) /\ w'.cell? ⟨Y.y,11,none⟩ = some (.int .i64 m.dk.burst) /\ w'.cell? ⟨Y.bs,k,none⟩ = some (.pointer (some ⟨(Y.A k).1,0,none⟩))) (first | exact HS.out _ _ hm3 | exact HS.out _ _ h6) (first | (go_at_call 15; refine (HN1.out _ _ hm3).mono ?_; rintro e w6 ⟨bj,bt,bb,v,rfl,hx6,h6'⟩; have h6:=K5 h6'))
      have hx7:=hx3.trans hx6
      have cj:=Gr h6
      have fj:=Cd h6 13
      have h9:=IU h6
      go_wp2_with fail
      go_end0
      rw [<- HRES.out]
      exact ⟨{ Y with bj:=bj,bt:=bt,bb:=bb,vj:=v },rfl,rfl,hx7.setCell _ _,h9⟩
  ·have t2 : (m.dk.kind == 2) = false:=by simp [h2]
   rw [zq (fun h=>h2 h.1)] at hres
   go_enter Tryz.func98,Tryz.ntmps98
   go_upto_region 1 with (fail)
   have hz:=lj H
   have hxz:=(zR w).drew
   refine wp_region_held_drew (S:=fun w'=>w'.cell? ⟨Y.y,6,none⟩ = some (.pointer (some ⟨Y.bs,0,none⟩)) /\ w'.cell? ⟨Y.y,7,none⟩ = some (.int .i64 (k : Int)) /\ w'.cell? ⟨Y.y,8,none⟩ = some (.int .i64 m.dk.kind) /\ w'.cell? ⟨Y.y,9,none⟩ = some (.int .i64 m.dk.file) /\ w'.cell? ⟨Y.y,10,none⟩ = some (.int .i64 m.dk.rate) /\ w'.cell? ⟨Y.y,11,none⟩ = some (.int .i64 m.dk.burst) /\ w'.cell? ⟨Y.bs,k,none⟩ = some (.pointer (some ⟨(Y.A k).1,0,none⟩))) (by kernel_rfl) (HS.out _ _ hz) (fun hHeld=>?_)
   refine tk 0 ?_
   refine tk 1 ?_
   refine tk 2 ?_
   refine tk 3 ?_
   refine tk 4 ?_
   refine tk 5 ?_
   refine tk 6 ?_
   try simp only [Act.put,tA,tB,tC,tD,tE,tF]
   refine sk 7 ?_
   refine sk 8 ?_
   refine sk 9 ?_
   refine sk 10 ?_
   refine sk 11 ?_
   refine sk 12 ?_
   refine sk 13 ?_
   refine sk 14 ?_
   refine sk 15 ?_
   refine sk 16 ?_
   refine sk 17 ?_
   refine sk 18 ?_
   refine sk 19 ?_
   refine sk 20 ?_
   refine sk 21 ?_
   refine sk 22 ?_
   refine sk 23 ?_
   refine sk 24 ?_
   refine sk 25 ?_
   refine sk 26 ?_
   try simp only [Act.put,tA,tB,tC,tD,tE,tF]
   refine tk 27 ?_
   try simp only [Act.put,tA,tB,tC,tD,tE,tF]
   refine wpAnyH_done (by kernel_rfl) ?_ _
   go_upto_region 3 with (fail)
   have hm3:=lj hz
   have hx3:=(hxz).drew
   cases hNR : NR with
   | mk oj f=>
    rw [hNR] at HN hres hnz hnc
    cases oj with
    | none=>
     have hf : 0 < f:=by have:=hnz rfl; dsimp only at this hnc; omega
     have HN1:=zh (fun (R : List SL.HP) (w : World) (H : own w (shL Y.bs Y.A m.F++R))=>(HN.out R w H).mono fun e w' h=>show e = .returned (.tuple #[.pointer none,errV f]) /\ Ext w w' /\ own w' (shL Y.bs Y.A m.F++R) from h)
     rw [lx hf] at HN1
     have HRES:=zh hres
     clear hres HN
     go_region_held3 (fun w'=>w'.cell? ⟨Y.y,6,none⟩ = some (.pointer (some ⟨Y.bs,0,none⟩)) /\ w'.cell? ⟨Y.y,7,none⟩ = some (.int .i64 (k : Int)) /\ w'.cell? ⟨Y.y,8,none⟩ = some (.int .i64 m.dk.kind) /\ w'.cell? ⟨Y.y,9,none⟩ = some (.int .i64 m.dk.file) /\ w'.cell? ⟨Y.y,10,none⟩ = some (.int .i64 m.dk.rate) /\ w'.cell? ⟨Y.y,11,none⟩ = some (.int .i64 m.dk.burst) /\ w'.cell? ⟨Y.bs,k,none⟩ = some (.pointer (some ⟨(Y.A k).1,0,none⟩))) (first | exact HS.out _ _ hm3 | exact HS.out _ _ h6) (first | (go_at_call 15; refine (HN1.out _ _ hm3).mono ?_; rintro e w6 ⟨rfl,hx6,h6⟩))
     have hx7:=hx3.trans hx6
     have cr:=yS h6
     go_wp2_with fail
     refine (HNO.out _ _ h6).mono ?_
     rintro e w8 ⟨rfl,hx8,h8⟩
     have fy:=Cd h8
     have e7:=yS h8
     have e8:=Cw h8
     have e9:=CF h8
     have e10:=Fd h8
     have e11:=DJ h8
     have h9:=Gp (lz (k : Int)) h8
     clear cr
     go_wp2_with fail
     refine bodyPost_ret (results_none rfl _ _ _) rfl ?_
     rw [<- HRES.out]
     exact ⟨Y,rfl,rfl,((((((hx7.trans hx8).setCell _ _).setCell _ _).setCell _ _).setCell _ _).setCell _ _),h9⟩
    | some j=>
     have HN1:=zh (fun (R : List SL.HP) (w : World) (H : own w (shL Y.bs Y.A m.F++R))=>(HN.out R w H).mono fun e w' h=>show ∃bj bt bb v,e = .returned (.tuple #[.pointer (some ⟨bj,0,none⟩),.nilIface]) /\ Ext w w' /\ own w' (shL Y.bs Y.A m.F++(jobL Y.bs bj bt bb v j++(row 3 1 v j.list.length (lo j.list)::R))) from h)
     have HRES:=zh hres
     clear hres HN
     go_region_held3 (fun w'=>w'.cell? ⟨Y.y,6,none⟩ = some (.pointer (some ⟨Y.bs,0,none⟩)) /\ w'.cell? ⟨Y.y,7,none⟩ = some (.int .i64 (k : Int)) /\ w'.cell? ⟨Y.y,8,none⟩ = some (.int .i64 m.dk.kind) /\ w'.cell? ⟨Y.y,9,none⟩ = some (.int .i64 m.dk.file) /\ w'.cell? ⟨Y.y,10,none⟩ = some (.int .i64 m.dk.rate) /\ w'.cell? ⟨Y.y,11,none⟩ = some (.int .i64 m.dk.burst) /\ w'.cell? ⟨Y.bs,k,none⟩ = some (.pointer (some ⟨(Y.A k).1,0,none⟩))) (first | exact HS.out _ _ hm3 | exact HS.out _ _ h6) (first | (go_at_call 15; refine (HN1.out _ _ hm3).mono ?_; rintro e w6 ⟨bj,bt,bb,v,rfl,hx6,h6'⟩; have h6:=K5 h6'))
     have hx7:=hx3.trans hx6
     have cj:=Gr h6
     have fj:=Cd h6 13
     have h9:=IU h6
     go_wp2_with fail
     go_end0
     rw [<- HRES.out]
     exact ⟨{ Y with bj:=bj,bt:=bt,bb:=bb,vj:=v },rfl,rfl,hx7.setCell _ _,h9⟩
def opF (D : Nat -> DevM) (q : Nat) : ShM:=fun k=>if k < q then (if (Aj (D k)).1 = 0 then some (Aj (D k)).2 else none) else none
def dkOf (s : ByteArray) : lI:=⟨(ou s).1.1,(ou s).1.2.1,(ou s).1.2.2.1,(ou s).1.2.2.2.1,(ou s).1.2.2.2.2⟩
def yk (D : Nat -> DevM) (top : DevM) : lf:=⟨opF D 5,D,top,dkOf (top.seen 0),(lt (opF D 5) (dkOf (top.seen 0)).root).1,none⟩
def zw (D : Nat -> DevM) (top : DevM) : Int×lf:=
  if (ou (top.seen 0)).2≠0 then ((ou (top.seen 0)).2,yk D top)
  else if (lt (opF D 5) (dkOf (top.seen 0)).root).2≠0 then ((lt (opF D 5) (dkOf (top.seen 0)).root).2,yk D top)
  else (0,Ei (yk D top))
theorem Kp (d : DevM) : 0 <= (Aj d).1:=by
  unfold Aj C6
  split
  · exact Ep _
  · split
    · simp
    · exact DI _ _ _ _
theorem Lc {s : ByteArray} (h : (ou s).2 = 0) : (dkOf s).f = 0:=by
  unfold dkOf lI.f
  dsimp only
  unfold ou at h ⊢
  by_cases h1 : zA s≠0
  · rw [zt h1] at h; exact absurd h h1
  · rw [zq h1] at h ⊢
    by_cases h2 : zj s
    · rw [zt h2] at h; exact absurd h (by simp)
    · rw [zq h2]
      exact Decidable.byContradiction fun hn=>h2 (.inl hn)
theorem Lr {F : ShM} {r : Int} (h0 : 0 <= r) (h : (lt F r).2 = 0) : ly F r:=by
  unfold lt at h
  rw [show (6 : Nat) = 5 + 1 from rfl,oW,zq (by omega)] at h
  split at h
  · exact absurd h (by simp)
  · rename_i h1
    split at h
    · exact absurd h (by simp)
    · rename_i m hm
      exact ⟨by omega,by omega,m,hm⟩
theorem By (D : Nat -> DevM) (q : Nat) : opF D q q = none:=zq (by omega)
theorem TU {D : Nat -> DevM} {q : Nat} (h : (Aj (D q)).1≠0) : opF D (q + 1) = opF D q:=funext fun k=>by
  unfold opF
  by_cases e : k = q
  · subst e; rw [zt (by omega),zq h,zq (by omega)]
  · by_cases h2 : k < q
    · rw [zt h2,zt (by omega)]
    · rw [zq h2,zq (by omega)]
theorem Pt {D : Nat -> DevM} {q : Nat} (h : (Aj (D q)).1 = 0) : opF D (q + 1) = put (opF D q) q (Aj (D q)).2:=funext fun k=>by
  by_cases e : k = q
  · subst e; rw [zK]; unfold opF; rw [zt (by omega),zt h]
  · rw [AX _ _ e]
    unfold opF
    by_cases h2 : k < q
    · rw [zt h2,zt (by omega)]
    · rw [zq h2,zq (by omega)]
theorem JN {D : Nat -> DevM} {q k : Nat} {i : ImgM} (h : opF D q k = some i) : k < q /\ (Aj (D k)).1 = 0 /\ i = (Aj (D k)).2:=by
  unfold opF at h
  split at h
  · rename_i h1
    split at h
    · rename_i h2; exact ⟨h1,h2,(Option.some.inj h).symm⟩
    · cases h
  · cases h
theorem La {D : Nat -> DevM} {N : Nat} (h : ∀k,k < 5 -> (D k).Ok /\ (D k).writes <= N /\ (D k).pend.length <= N) : ShW N (opF D 5):=
  ⟨fun k i hk hi=>by obtain ⟨-,h0,rfl⟩:=JN hi; exact Vj (h k hk).1 h0,
   fun k i hk hi=>by obtain ⟨-,h0,rfl⟩:=JN hi; rw [IV]; exact (h k hk).2.1,
   fun k i hk hi=>by obtain ⟨-,h0,rfl⟩:=JN hi; rw [IV]; exact (h k hk).2.2⟩
def Uq (w : World) (v : Value) (B : Nat -> Nat) : Prop:=∃b off cap,v = .slice (some ⟨b,off,none⟩) 5 cap /\ ∀k,k < 5 -> w.cell? ⟨b,off + k,none⟩ = some (.pointer (some ⟨B k,0,none⟩))
def Nh (S : Int×lf) (R : List SL.HP) (w : World) (e : Ending) (w' : World) : Prop:=
  (S.1≠0 /\ e = .returned (.tuple #[.pointer none,errV S.1]) /\ Ext w w' /\ own w' R) \/
  (S.1 = 0 /\ ∃Y : YA,e = .returned (.tuple #[.pointer (some ⟨Y.y,0,none⟩),.nilIface]) /\ Ext w w' /\ own w' (yL Y S.2 R))
theorem V1 (B : Nat -> Nat) (D : Nat -> DevM) (X : List SL.HP) {k : Nat} (hk : k < 5) : (devL B D 5++X)[4 - k]? = some (lm (B k) (D k)):=by
  have h : k = 0 \/ k = 1 \/ k = 2 \/ k = 3 \/ k = 4:=by omega
  rcases h with rfl | rfl | rfl | rfl | rfl
  all_goals rfl
theorem Tf {α : Type} : ∀{l : List α} {k : Nat} {x : α},l[k]? = some x -> (x::l.eraseIdx k).Perm l:=by
  intro l
  induction l with
  | nil=>intro k x h; simp at h
  | cons y l ih=>
    intro k x h
    cases k with
    | zero=>simp at h; subst h; exact List.Perm.refl _
    | succ k=>
      simp only [List.getElem?_cons_succ] at h
      exact (List.Perm.swap y x _).trans ((ih h).cons y)
theorem LV (B : Nat -> Nat) (D : Nat -> DevM) (X : List SL.HP) {k : Nat} (hk : k < 5) : (lm (B k) (D k)::(devL B D 5++X).eraseIdx (4 - k)).Perm (devL B D 5++X):=Tf (V1 B D X hk)
theorem PQ {w : World} {l : List SL.HP} {B : Nat -> Nat} {D : Nat -> DevM} {X : List SL.HP} {k : Nat} (hk : k < 5) (H : own w (l++(devL B D 5++X))) : own w (lm (B k) (D k)::(l++(devL B D 5++X).eraseIdx (4 - k))):=
  JQ (((LV B D X hk).symm.append_left l).trans List.perm_middle) H
theorem T4 {w : World} {l : List SL.HP} {B : Nat -> Nat} {D : Nat -> DevM} {X : List SL.HP} {k : Nat} (hk : k < 5) (H : own w (lm (B k) (D k)::(l++(devL B D 5++X).eraseIdx (4 - k)))) : own w (l++(devL B D 5++X)):=
  JQ (List.perm_middle.symm.trans ((LV B D X hk).append_left l)) H
theorem W5 {y bs tp q k : Nat} {A : Nat -> Nat×Nat×Nat} {F : ShM} {D' : Nat -> DevM} {t v : Value} {dk : lI} {top : DevM} {B : Nat -> Nat} {D : Nat -> DevM} {X : List SL.HP} {w : World} (hk : k < 5) (H : own w (nL y bs A F D' q t dk v (lm tp top::(devL B D 5++X)))) :
    own w (lm (B k) (D k)::nL y bs A F D' q t dk v (lm tp top::(devL B D 5++X).eraseIdx (4 - k))):=by
  have h:=PQ (l:=shL bs A F++(nT y bs A F D' q t dk v++[lm tp top])) hk (by simpa only [zp,List.singleton_append] using H)
  simpa only [zp,List.singleton_append] using h
theorem n_in {y bs tp q k : Nat} {A : Nat -> Nat×Nat×Nat} {F : ShM} {D' : Nat -> DevM} {t v : Value} {dk : lI} {top : DevM} {B : Nat -> Nat} {D : Nat -> DevM} {X : List SL.HP} {P : SL.HP} {w : World} (hk : k < 5) (H : own w (P::lm (B k) (D k)::nL y bs A F D' q t dk v (lm tp top::(devL B D 5++X).eraseIdx (4 - k)))) :
    own w (P::nL y bs A F D' q t dk v (lm tp top::(devL B D 5++X))):=by
  have h:=T4 (l:=P::(shL bs A F++(nT y bs A F D' q t dk v++[lm tp top]))) (B:=B) (D:=D) (X:=X) hk (by simpa only [zp,List.singleton_append,List.cons_append,List.nil_append] using B1 H)
  simpa only [zp,List.singleton_append,List.cons_append,List.nil_append] using h
theorem Nk {y bs q k : Nat} {A : Nat -> Nat×Nat×Nat} {F : ShM} {D : Nat -> DevM} {t v : Value} {dk : lI} {R : List SL.HP} {w : World} (hk : k < 5) (H : own w ((nL y bs A F D q t dk v R).set (7 + k) emp)) : (∀i,w.cell? ⟨y,i,none⟩ = (nC bs A q t dk v)[i]?) /\ ∀i,w.frozen? ⟨y,i,none⟩ = false:=
  ld 6 H (by rw [List.getElem?_set_ne (by omega)]; rfl)
theorem U9 {y bs q k : Nat} {A : Nat -> Nat×Nat×Nat} {F : ShM} {D : Nat -> DevM} {t v : Value} {dk : lI} {R : List SL.HP} {w : World} (hk : k < 5) (hF : F k = none) (H : own w ((nL y bs A F D q t dk v R).set (7 + k) emp)) : w.cell? ⟨bs,k,none⟩ = some (.pointer none) /\ w.frozen? ⟨bs,k,none⟩ = false:=by
  obtain ⟨h1,h2⟩:=ld (arr:=yj A F) (T:=111) 0 H (by rw [List.getElem?_set_ne (by omega)]; rfl)
  refine ⟨?_,h2 k⟩
  rw [h1,<- Dl (A:=A) hF]
  have h : k = 0 \/ k = 1 \/ k = 2 \/ k = 3 \/ k = 4:=by omega
  rcases h with rfl | rfl | rfl | rfl | rfl
  all_goals rfl
theorem Xd (bs : Nat) (A : Nat -> Nat×Nat×Nat) (q : Nat) (t : Value) (dk : lI) (v : Value) {k : Nat} (hk : k < 5) : (nC bs A q t dk v)[k]? = some (Br A q k):=by
  have h : k = 0 \/ k = 1 \/ k = 2 \/ k = 3 \/ k = 4:=by omega
  rcases h with rfl | rfl | rfl | rfl | rfl
  all_goals rfl
theorem Ws {y bs q : Nat} {A : Nat -> Nat×Nat×Nat} {F : ShM} {D : Nat -> DevM} {t v : Value} {dk : lI} {R : List SL.HP} {w : World} (d : lI) (H : own w (nL y bs A F D q t dk v R)) :
    own (((((w.setCell ⟨y,7,none⟩ (.int .i64 d.root)).setCell ⟨y,8,none⟩ (.int .i64 d.kind)).setCell ⟨y,9,none⟩ (.int .i64 d.file)).setCell ⟨y,10,none⟩ (.int .i64 d.rate)).setCell ⟨y,11,none⟩ (.int .i64 d.burst)) (nL y bs A F D q t d v R):=
  lg (i:=11) (v:=.int .i64 d.burst) 6 (lg (i:=10) (v:=.int .i64 d.rate) 6 (lg (i:=9) (v:=.int .i64 d.file) 6 (lg (i:=8) (v:=.int .i64 d.kind) 6 (lg (i:=7) (v:=.int .i64 d.root) 6 H rfl) rfl) rfl) rfl) rfl
end Go.Proofs.YtbpblokfiajpjabGreatDoor
