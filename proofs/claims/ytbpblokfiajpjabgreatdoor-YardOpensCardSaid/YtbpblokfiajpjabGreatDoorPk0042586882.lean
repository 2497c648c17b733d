/- Lemmas on which YardOpens stands: the texts RYard8 RYard9 RYard10 RYard17 RYard18 Yard25 Yard26 YardP2. No conditions. -/
import Derived.Test.YtbpblokfiajpjabGreatDoorPkb24c5c3910
import Derived.Test.YtbpblokfiajpjabGreatDoorProg
set_option linter.all false
set_option maxRecDepth 1000000
set_option maxHeartbeats 32000000
namespace Go.Proofs.YtbpblokfiajpjabGreatDoor
open Go.RowKit Go.SL Go.Crc
attribute [local go_sem ↓] Go.wp_at_zero Go.wp_at_succ
theorem Uo (N : Nat) (Y : RA) (m : lf) (hm : YOk N m) (hN : N + 1000 < 900000) (fr : Int) (hfr : lN fr) (s : ByteArray) (hs : s.size <= 3200) (R : List SL.HP) (w : World) (H : own w (ryL Y m R)) :
  Calls Tryz.prog 103 #[.pointer (some ⟨Y.y,0,none⟩),.int .i64 fr,.string s,.bool false] w (yY Y (zF m fr s) R w):=
 NN N Y m hm hN fr hfr s hs false (putM m.F m.list fr s) (Fd hm.sh (EZ hm) (by omega) fr s hs) R
  (fun w' h=>Uu Y.bs Y.A m.F N hm.sh (by omega) Y.v m.list hm.files hm.list5 fr hfr s hs (ryT Y m++R) w' QZ h) w H
theorem Pu (N : Nat) (Y : RA) (m : lf) (hm : YOk N m) (hN : N + 1000 < 900000) (fr : Int) (hfr : lN fr) (nn : Nat) (hnn : nn <= 200) (s : ByteArray) (hsz : s.size = 16 * nn) (R : List SL.HP) (w : World) (H : own w (ryL Y m R)) :
  Calls Tryz.prog 103 #[.pointer (some ⟨Y.y,0,none⟩),.int .i64 fr,.string s,.bool true] w (yY Y (zL m fr (nn : Int)) R w):=by
 have h:=NN N Y m hm hN fr hfr s (by omega) true (zt m.F m.list fr (nn : Int)) (D8 hm.sh (EZ hm) (by omega) fr (nn : Int) (by omega)) R
  (fun w' h=>TQ Y.bs Y.A m.F N hm.sh (by omega) Y.v m.list hm.files hm.list5 fr hfr nn hnn s hsz (ryT Y m++R) w' QZ h) w H
 have e1 : s.size / 16 = nn:=by omega
 have e2 : s.size % 16 = 0:=by omega
 rw [e1,e2] at h
 have e3 : (if (0 : Nat)≠0 \/ lW m.F m.list fr (nn : Int)≠0 then ((1 : Int),m) else ((zt m.F m.list fr (nn : Int)).1,yz { m with F:=(zt m.F m.list fr (nn : Int)).2 } fr (nn : Int))) = zL m fr (nn : Int):=by
  unfold zL
  by_cases hw : lW m.F m.list fr (nn : Int)≠0
  ·rw [if_pos (.inr hw),if_pos hw]
  ·rw [if_neg (by rintro (h | h); exact h rfl; exact hw h),if_neg hw]
 rw [e3] at h
 exact h
theorem OM (N : Nat) (Y : RA) (m : lf) (hm : YOk N m) (hN : N < 900000) (R : List SL.HP) (w : World) (H : own w (ryL Y m R)) :
  Calls Tryz.prog 107 #[.pointer (some ⟨Y.y,0,none⟩)] w fun e w'=>e = .returned (.tuple #[]) /\ Ext w w' /\ own w' (ryL Y (z8 m) R):=by
 obtain ⟨ao,lb,off,cap,hY,hlc,hcap,hao,-⟩:=(BF H).form
 have HAO:=zh hao
 have HL:=zh hm.files
 have hl5:=hm.list5
 have HYV:=zh hY
 have HW:=zh hm.sh
 have H0:=zh H
 unfold z8
 clear hao hY hm H
 generalize hll : m.list = l at *
 have HLL:=zh hll
 clear hll
 go_enter Tryz.func107,Tryz.ntmps107
 go_wp2_with fail
 go_loopw [2] (fun iv wr=>∃(q : Nat) (F' : ShM),q <= l.length /\ iv = .int .i64 q /\ oH m.F F' /\ ShW N F' /\ ye F' (l.drop q) = ye m.F l /\ Ext w wr /\ own wr (ryL Y { m with F:=F' } R)) (fun iv _=>l.length - (intOf iv).toNat)
 case atStart=>exact ⟨0,m.F,Nat.zero_le _,rfl,oH.refl _,HW.out,rfl,Ext.refl w,H0.out⟩
 case round=>
  clear H0
  obtain ⟨q,F',hq,rfl,hsm,hW,hgo,hxr,hown⟩:=hrel
  have z12:=Aw hown
  rw [HYV.out] at z12
  by_cases hlt : q < l.length
  ·obtain rfl:=HAO.out (by omega)
   have j1 : (0 : Int) <= (q : Int):=by omega
   have j2 : (q : Int) < (l.length : Int):=by omega
   have hv:=BF hown
   rw [HYV.out] at hv
   have c1:=oo (l:=m.list) hv (by rw [HLL.out]; exact hlt)
   rw [HLL.out] at c1
   rw [zJ 0 hlt,ye] at hgo
   have hfx:=HL.out (l.getD q 0) (by simp [hlt])
   obtain ⟨x,mx,hx,hx5,-⟩:=lT hfx
   obtain ⟨mi,hmi⟩ : ∃mi,F' x = some mi:=by
    have h2:=hsm.file.2 hfx
    rw [hx] at h2
    obtain ⟨-,-,mi,h3⟩:=h2
    exact ⟨mi,by rw [zn] at h3; exact h3⟩
   have HX:=zh hx
   rw [hx] at c1 hgo
   rw [zn] at hgo
   have hfi : AD F' x = put F' x mi.flush:=by unfold AD; rw [hmi]
   have hsm2:=hsm.trans (Fk F' x)
   have hW2:=GA hW hx5
   rw [hfi] at hgo hsm2 hW2
   have i1 : (0 : Int) <= (x : Int):=by omega
   have i2 : (x : Int) < 5:=by omega
   have z6:=Br hown
   have cs:=yl hown hx5
   rw [oS hmi] at cs
   have HFL:=zh (fun w' h=>Jh (b:=Y.bs) (A:=Y.A) hx5 hmi (hW.sh hN) (ryT Y { m with F:=F' }++R) w' h)
   have HGO:=zh hgo
   have HS2:=zh hsm2
   have HW2:=zh hW2
   have HP:=zh (fun w' h=>ry_F (Y:=Y) (m:={ m with F:=F' }) (F':=put F' x mi.flush) (R:=R) (w:=w') (fun k hk=>(oH.put (m':=mi.flush) hmi rfl rfl).none hk) h)
   have hz:=lj hown
   clear hgo hsm2 hW2 hfi hfx hx hmi hsm hW hv
   go_upto_region 3 with (fail)
   refine wp_region_held_drew (S:=fun w'=>w'.cell? ⟨Y.y,6,none⟩ = some (.pointer (some ⟨Y.bs,0,none⟩)) /\ w'.cell? ⟨Y.y,12,none⟩ = some (.slice (some ⟨lb,off,none⟩) l.length cap) /\ w'.cell? ⟨lb,off + q,none⟩ = some (.int .i64 (x : Int)) /\ w'.cell? ⟨Y.bs,x,none⟩ = some (.pointer (some ⟨(Y.A x).1,0,none⟩))) (by kernel_rfl) ⟨z6,z12,c1,cs⟩ (fun hHeld=>?_)
   refine tk 0 ?_
   refine tk 1 ?_
   refine tk 2 ?_
   refine tk 3 ?_
   refine tk 4 ?_
   refine tk 5 ?_
   refine tk 6 ?_
   refine tk 7 ?_
   refine tk 8 ?_
   refine tk 9 ?_
   refine tk 10 ?_
   refine tk 11 ?_
   refine tk 12 ?_
   refine tk 13 ?_
   try simp only [Act.put,tA,tB,tC,tD,tE,tF]
   refine rd 14 rfl fun K hK=>?_
   go_simp
   go_at_call 176
   refine (HFL.out _ hz).mono ?_
   rintro e w3 ⟨rfl,hx3,h3⟩
   have h4:=HP.out _ h3
   have y6:=Br h4
   have y12:=Aw h4
   rw [HYV.out] at y12
   have hv:=BF h4
   rw [HYV.out] at hv
   have y1:=oo (l:=m.list) hv (by rw [HLL.out]; exact hlt)
   rw [HLL.out,HX.out] at y1
   have ys:=yl h4 hx5
   rw [oS (m:=mi.flush) (zq F' x mi.flush)] at ys
   go_simp
   refine hK.out _ _ ⟨y6,y12,y1,ys⟩ (fun _=>?_)
   clear hK K y6 y12 y1 ys hv
   try simp only [Act.put,tA,tB,tC,tD,tE,tF]
   refine wpAnyH_done (by kernel_rfl) ?_ _
   go_wp2_with fail
   go_roundw
   case rel=>exact ⟨q + 1,put F' x mi.flush,by omega,by go_num,HS2.out,HW2.out,HGO.out,hxr.drew.trans hx3,h4⟩
   case measure=>simp [intOf]; omega
  ·obtain rfl : l.length = q:=by omega
   rw [List.drop_of_length_le (Nat.le_refl _)] at hgo
   replace hgo : F' = ye m.F l:=hgo
   subst hgo
   go_wp2_with fail
   go_end0
   have e:=HLL.out
   subst e
   exact ⟨rfl,hxr,hown⟩
theorem QM (N : Nat) (Y : RA) (m : lf) (hm : YOk N m) (hN : N < 900000) (file : Int) (R : List SL.HP) (w : World) (H : own w (ryL Y m R)) :
  Calls Tryz.prog 111 #[.pointer (some ⟨Y.y,0,none⟩),.int .i64 file] w (yY Y (Ba m file) R w):=by
 have HB:=zh (AM Y m R w H)
 generalize hres : Ba m file = res
 unfold Ba at hres
 cases hb : yX m with
 | true=>
  rw [if_pos hb] at hres
  subst hres
  rw [hb] at HB
  clear hb
  go_enter Tryz.func111,Tryz.ntmps111
  go_wp2_with fail
  refine HB.out.mono ?_
  rintro e w' ⟨rfl,rfl⟩
  go_wp2_with fail
  go_ret
  exact ⟨Y,rfl,rfl,Ext.refl _,H⟩
 | false=>
  rw [if_neg (by rw [hb]; decide)] at hres
  rw [hb] at HB
  obtain ⟨ao,lb,off,cap,hY,hlc,hcap,hao,-⟩:=(BF H).form
  have cl:=Aw H
  rw [hY] at cl
  have hl5:=hm.list5
  by_cases h4 : m.list.length = 4
  ·rw [if_pos h4] at hres
   subst hres
   rw [h4] at cl
   clear hb h4
   go_enter Tryz.func111,Tryz.ntmps111
   go_wp2_with fail
   refine HB.out.mono ?_
   rintro e w' ⟨rfl,rfl⟩
   go_wp2_with fail
   go_ret
   exact ⟨Y,rfl,rfl,Ext.refl _,H⟩
  ·rw [if_neg h4] at hres
   have d4 : ((m.list.length : Int) == 4) = false:=by rw [beq_eq_false_iff_ne]; omega
   have cr:=zC H
   have HBL:=zh (Je N Y m hm hN file m.dk.root R w H)
   have hcode:=Dr m file m.dk.root
   have htop:=Kw m file m.dk.root
   have hlist:=IQ m file m.dk.root
   have hrg:=@Io m file m.dk.root
   have htw:=hm.tp.2.1
   have htp:=hm.tp.2.2.1
   have hto:=hm.tp.1
   generalize oC m file m.dk.root = B at *
   obtain ⟨c,m1⟩:=B
   dsimp only at hcode htop hlist hrg hres
   have HRES:=zh hres
   have HRG:=zh hrg
   clear hb h4 hres hrg hm
   go_enter Tryz.func111,Tryz.ntmps111
   go_wp2_with fail
   refine HB.out.mono ?_
   rintro e w' ⟨rfl,rfl⟩
   go_wp2_with fail
   refine HBL.out.mono ?_
   rintro e w2 ⟨Y2,hy2,rfl,hx2,h2⟩
   dsimp only at h2
   clear cl cr d4
   by_cases hc : c = 0
   ·have hrg:=HRG.out hc
    subst hc
    rw [if_neg (by decide)] at HRES
    have HN:=zh (fun R' w' h=>ES file R' w' h)
    have HW:=zh (fun w' h=>BD Y2 m1 (by rw [htop]; exact hto) (by rw [htop]; omega) (by rw [htop]; omega) (lC file) (BN hrg.1 hrg.2) R w' h)
    rw [hy2] at HW
    have hwc:=zR m1 (lC file)
    have hwl:=Jc m1 (lC file)
    generalize lw m1 (lC file) = W at *
    obtain ⟨wc,m2⟩:=W
    dsimp only at hwc hwl HW HRES
    dsimp only
    clear HRG hrg htw htp hto
    go_wp2_with fail
    refine (HN.out _ _ h2).mono ?_
    rintro e w3 ⟨rfl,hx3,h3⟩
    go_wp2_with fail
    refine (HW.out _ h3).mono ?_
    rintro e w4 ⟨rfl,hx4,h4⟩
    by_cases hwz : wc = 0
    ·subst hwz
     rw [if_neg (by decide)] at HRES
     have hll : m2.list = m.list:=hwl.trans hlist
     have hv:=BF h4
     obtain ⟨ao2,lb2,off2,cap2,hY2,-,-,hao2,-⟩:=hv.form
     have ha:=li h4 (.cells #[.int .i64 file] 3)
     have hxa:=(((hx2.trans hx3).trans hx4)).alloc (.cells #[.int .i64 file] 3)
     have hb : own _ (row 3 1 (.slice (some ⟨w4.heap.size,0,none⟩) 1 1) 1 [.int .i64 file]::ryL Y2 m2 R):=yJ (cap:=1) (n:=1) (sz:=1) 0 ha rfl (Nat.le_refl _) (by decide) rfl rfl
     have hvb:=BF (DW hb)
     rw [hY2,hll] at hvb
     rw [hll] at hao2
     have cl:=Aw (DW hb)
     rw [hY2,hy2,hll] at cl
     have hm5 : 1 + m.list.length <= maxLen:=by simp only [maxLen]; omega
     have HNW:=zh (GY hvb)
     have HAO2:=zh hao2
     clear hvb hao2 h2 h3 ha
     go_wp2_with (first | (at_builtin; refine lE rfl _ _ 95 rfl 0 3 Tryz.underlying95 BV rfl (by decide) rfl hb rfl ao2 m.list.length cap2 (ln m.list) rfl (by simp [ln]) HNW.out (fun h=>by by_cases h0 : 0 < m.list.length; exact absurd (HAO2.out h0) (by rw [h]; simp); omega) (JB _) hm5 (by omega) ?_))
     intro v' w5 h5 hx5
     have hlen : (file::m.list).length = 1 + m.list.length:=by rw [List.length_cons]; omega
     have h6 : own w5 (ryL Y2 m2 (row 3 1 v' (file::m.list).length (ln (file::m.list))::R)):=by
      have:=DW h5
      rw [hlen]
      exact this
     obtain ⟨vo,vb,vof,vcap,rfl,-,-,-,-⟩:=(lY 15 h6 rfl).form
     clear cl
     have cl:=Aw h6
     have fl:=AI h6 12
     have h7:=Fh h6
     rw [hy2] at cl fl
     have hx7:=(hxa.trans hx5).setCell (⟨Y.y,12,none⟩ : Addr) (.slice vo (file::m.list).length vcap)
     clear h5 h6 hb hlen
     go_wp2_with fail
     go_ret
     rw [<- HRES.out]
     exact ⟨{ Y2 with v:=.slice vo (file::m.list).length vcap },hy2,rfl,hx7,by rw [<- hy2]; exact h7⟩
    ·rw [if_pos hwz] at HRES
     have hpos : 0 < wc:=by omega
     clear hwz
     go_wp2_with fail
     go_ret
     rw [<- HRES.out]
     exact ⟨Y2,hy2,rfl,(hx2.trans hx3).trans hx4,h4⟩
   ·rw [if_pos hc] at HRES
    dsimp only
    have hpos : 0 < c:=by omega
    clear hc
    go_wp2_with fail
    go_ret
    rw [<- HRES.out]
    exact ⟨Y2,hy2,rfl,hx2,h2⟩
theorem FI {Y : RA} {m : lf} {j : JobM} {bj : Nat} {v : Value} {R : List SL.HP} {w : World}
  (H : own w (ryL Y m (lA Y.bs bj v j::(row 3 1 v j.list.length (ln j.list)::R)))) :
  own (w.setCell ⟨Y.y,13,none⟩ (.pointer (some ⟨bj,0,none⟩))) (ryL { Y with bj:=bj,vj:=v } { m with job:=some j } R):=by
 have h1:=lg (i:=13) (v:=.pointer (some ⟨bj,0,none⟩)) 6 H rfl
 have h2:=lh 14 h1 rfl
 have h3 : own (w.setCell ⟨Y.y,13,none⟩ (.pointer (some ⟨bj,0,none⟩))) ((ryL { Y with bj:=bj,vj:=v } { m with job:=some j } R).take 14++([lA Y.bs bj v j,row 3 1 v j.list.length (ln j.list)]++R)):=h2
 have h4:=lq _ [lA Y.bs bj v j,row 3 1 v j.list.length (ln j.list)] h3
 have h5:=yB [lA Y.bs bj v j,row 3 1 v j.list.length (ln j.list)] h4
 exact lu ((ryL { Y with bj:=bj,vj:=v } { m with job:=some j } R).take 14) h5
theorem Oq (N : Nat) (Y : RA) (m : lf) (hm : YOk N m) (hN : N < 900000) (kind file rate burst : Int) (R : List SL.HP) (w : World) (H : own w (ryL Y m R)) :
  Calls Tryz.prog 112 #[.pointer (some ⟨Y.y,0,none⟩),.int .i64 kind,.int .i64 file,.int .i64 rate,.int .i64 burst] w (yY Y (Aj m kind file rate burst) R w):=by
 have HB:=zh (AM Y m R w H)
 generalize hres : Aj m kind file rate burst = res
 unfold Aj at hres
 cases hb : yX m with
 | true=>
  rw [if_pos hb] at hres
  subst hres
  rw [hb] at HB
  clear hb
  go_enter Tryz.func112,Tryz.ntmps112
  go_wp2_with fail
  refine HB.out.mono ?_
  rintro e w' ⟨rfl,rfl⟩
  go_wp2_with fail
  go_ret
  exact ⟨Y,rfl,rfl,Ext.refl _,H⟩
 | false=>
  rw [if_neg (by rw [hb]; decide)] at hres
  rw [hb] at HB
  have cr:=zC H
  have h1:=JS (.cells #[.int .i64 m.dk.root,.int .i64 kind,.int .i64 file,.int .i64 rate,.int .i64 burst] 24) H
  have hx1:=(Ext.refl w).alloc (.cells #[.int .i64 m.dk.root,.int .i64 kind,.int .i64 file,.int .i64 rate,.int .i64 burst] 24)
  have HRES:=zh hres
  have HM:=zh hm
  clear hb hres hm
  by_cases hk : kind = 0
  ·have d0 : (kind == 0) = true:=by rw [hk]; rfl
   rw [if_pos hk] at HRES
   clear hk cr
   go_enter Tryz.func112,Tryz.ntmps112
   go_wp2_with fail
   refine HB.out.mono ?_
   rintro e w' ⟨rfl,rfl⟩
   go_wp2_with fail
   go_ret
   rw [<- HRES.out]
   exact ⟨Y,rfl,rfl,Ext.refl _,H⟩
  ·have d0 : (kind == 0) = false:=by rw [beq_eq_false_iff_ne]; exact hk
   rw [if_neg hk] at HRES
   have HCD:=zh (fun R' w' h=>GD m.dk.root kind file rate burst R' w' h)
   have hdc:=FW m.dk.root kind file rate burst
   have HK:=zh hk
   have c0:=(ld 15 h1 rfl).1 0
   have c1:=(ld 15 h1 rfl).1 1
   have c2:=(ld 15 h1 rfl).1 2
   have c3:=(ld 15 h1 rfl).1 3
   have c4:=(ld 15 h1 rfl).1 4
   unfold o6 at HCD
   have HDF : Hid ((lK.mk m.dk.root kind file rate burst).f = yd m.dk.root kind file rate burst):=zh rfl
   generalize hdf : yd m.dk.root kind file rate burst = df at *
   clear hk hdf c0 c1 c2 c3 c4
   go_enter Tryz.func112,Tryz.ntmps112
   go_wp2_with fail
   refine HB.out.mono ?_
   rintro e w' ⟨rfl,rfl⟩
   go_upto_region 7 with (fail)
   generalize w.heap.size = g at *
   generalize w.alloc (.cells #[.int .i64 m.dk.root,.int .i64 kind,.int .i64 file,.int .i64 rate,.int .i64 burst] 24) = w1 at *
   clear cr
   have c0:=(ld 15 h1 rfl).1 0
   have c1:=(ld 15 h1 rfl).1 1
   have c2:=(ld 15 h1 rfl).1 2
   have c3:=(ld 15 h1 rfl).1 3
   have c4:=(ld 15 h1 rfl).1 4
   go_wp2_with fail
   refine (HCD.out _ _ h1).mono ?_
   rintro e w2 ⟨rfl,hx2,h2⟩
   clear c0 c1 c2 c3 c4
   by_cases hd : df = 0
   ·subst hd
    rw [if_neg (by decide)] at HRES
    have hm:=HM.out
    have hl5 : (ls m.F m.dk.root).1.length <= 5:=A4
    have hsh:=hm.sh.sh hN
    have HNW:=zh (fun R' w' h=>MA Y.bs Y.A m.F hsh m.dk.root kind file rate burst hl5 R' w' h)
    have hnc:=DZ m.F m.dk.root kind file rate burst
    have hgood : ∀j,(newM m.F m.dk.root kind file rate burst).1 = some j -> j.Ok /\ JobS m.F j:=fun j h=>Fa hsh hl5 h
    have hnz:=@Ix m.F m.dk.root kind file rate burst
    generalize newM m.F m.dk.root kind file rate burst = NJ at *
    obtain ⟨oj,nf⟩:=NJ
    dsimp only at HRES hnc hgood hnz
    have HGOOD:=zh hgood
    have NZ:=zh hnz
    have hz:=lj h2
    have hxz:=(hx1.trans hx2).drew
    have s6:=Br hz
    have s0:=(ld 15 hz rfl).1 0
    have s1:=(ld 15 hz rfl).1 1
    have s2:=(ld 15 hz rfl).1 2
    have s3:=(ld 15 hz rfl).1 3
    have s4:=(ld 15 hz rfl).1 4
    clear hgood hnz hm hl5 hsh h1 hx1 h2 hx2
    go_upto_region 10 with (fail)
    refine wp_region_held_drew (S:=fun w'=>w'.cell? ⟨Y.y,6,none⟩ = some (.pointer (some ⟨Y.bs,0,none⟩)) /\ w'.cell? ⟨g,0,none⟩ = some (.int .i64 m.dk.root) /\ w'.cell? ⟨g,1,none⟩ = some (.int .i64 kind) /\ w'.cell? ⟨g,2,none⟩ = some (.int .i64 file) /\ w'.cell? ⟨g,3,none⟩ = some (.int .i64 rate) /\ w'.cell? ⟨g,4,none⟩ = some (.int .i64 burst)) (by kernel_rfl) ⟨s6,s0,s1,s2,s3,s4⟩ (fun hHeld=>?_)
    refine tk 0 ?_
    refine tk 1 ?_
    refine tk 2 ?_
    refine tk 3 ?_
    refine tk 4 ?_
    try simp only [Act.put,tA,tB,tC,tD,tE,tF]
    refine rd 5 rfl fun K hK=>?_
    clear s6 s0 s1 s2 s3 s4
    go_simp
    go_at_call 16
    refine (HNW.out _ _ hz).mono ?_
    cases oj with
    | none=>
     rintro e w3 ⟨rfl,hx3,h3'⟩
     have h3 : own w3 (ryL Y m (pts g (.cells #[.int .i64 m.dk.root,.int .i64 kind,.int .i64 file,.int .i64 rate,.int .i64 burst] 24 (0,0))::R)):=h3'
     have s6:=Br h3
     have s0:=(ld 15 h3 rfl).1
     go_simp
     refine hK.out _ _ ⟨s6,s0 0,s0 1,s0 2,s0 3,s0 4⟩ (fun _=>?_)
     clear hK K s6 s0
     try simp only [Act.put,tA,tB,tC,tD,tE,tF]
     refine tk 6 ?_
     refine tk 7 ?_
     refine tk 8 ?_
     refine tk 9 ?_
     refine tk 10 ?_
     try simp only [Act.put,tA,tB,tC,tD,tE,tF]
     refine wpAnyH_done (by kernel_rfl) ?_ _
     have hnz : nf≠0:=NZ.out rfl
     dsimp only at HRES
     have hpos : 0 < nf:=by omega
     go_wp2_with fail
     go_ret
     rw [<- HRES.out]
     exact ⟨Y,rfl,rfl,hxz.trans hx3,zu h3⟩
    | some j=>
     rintro e w3 ⟨bj,v,rfl,hx3,h3'⟩
     have h3 : own w3 (ryL Y m (lA Y.bs bj v j::(row 3 1 v j.list.length (ln j.list)::(pts g (.cells #[.int .i64 m.dk.root,.int .i64 kind,.int .i64 file,.int .i64 rate,.int .i64 burst] 24 (0,0))::R)))):=by
      have:=OX (rshL Y.bs Y.A m.F) (lA Y.bs bj v j::[row 3 1 v j.list.length (ln j.list)]) (ryT Y m) (R:=pts g (.cells #[.int .i64 m.dk.root,.int .i64 kind,.int .i64 file,.int .i64 rate,.int .i64 burst] 24 (0,0))::R) h3'
      exact this
     have s6:=Br h3
     have s0:=(ld 17 h3 rfl).1
     go_simp
     refine hK.out _ _ ⟨s6,s0 0,s0 1,s0 2,s0 3,s0 4⟩ (fun _=>?_)
     clear hK K s6 h3'
     try simp only [Act.put,tA,tB,tC,tD,tE,tF]
     refine tk 6 ?_
     refine tk 7 ?_
     refine tk 8 ?_
     refine tk 9 ?_
     refine tk 10 ?_
     try simp only [Act.put,tA,tB,tC,tD,tE,tF]
     refine wpAnyH_done (by kernel_rfl) ?_ _
     have c0:=s0 0
     have c1:=s0 1
     have c2:=s0 2
     have c3:=s0 3
     have c4:=s0 4
     clear s0
     obtain ⟨hjo,hjs⟩:=HGOOD.out j rfl
     have hto:=HM.out.tp.1
     have htw:=HM.out.tp.2.1
     have htp:=HM.out.tp.2.2.1
     have HW:=zh (fun R' w' h=>BD Y m hto (by omega) (by omega) ⟨m.dk.root,kind,file,rate,burst⟩ HDF.out R' w' h)
     have hwc:=zR m ⟨m.dk.root,kind,file,rate,burst⟩
     dsimp only at HRES
     unfold lK.v o6 at HW
     generalize lw m ⟨m.dk.root,kind,file,rate,burst⟩ = W at *
     obtain ⟨wc,m2⟩:=W
     dsimp only at hwc HW HRES
     have hx4:=hxz.trans hx3
     clear hz hxz hx3 hto htw htp
     go_wp2_with fail
     refine (HW.out _ _ h3).mono ?_
     rintro e w4 ⟨rfl,hx5,h4⟩
     clear c0 c1 c2 c3 c4 h3
     by_cases hwz : wc = 0
     ·subst hwz
      rw [if_neg (by decide)] at HRES
      have cj:=EN h4
      have fj:=AI h4 13
      have h5:=FI h4
      have hx6:=(hx4.trans hx5).setCell (⟨Y.y,13,none⟩ : Addr) (.pointer (some ⟨bj,0,none⟩))
      have HPU:=zh (fun w' (h : own w' (ryL { Y with bj:=bj,vj:=v } { m2 with job:=some j } (pts g (.cells #[.int .i64 m.dk.root,.int .i64 kind,.int .i64 file,.int .i64 rate,.int .i64 burst] 24 (0,0))::R)))=>I1 Y.bs bj v j false _ w' (lq (rshL Y.bs Y.A m2.F) [lA Y.bs bj v j] (Ax (Y:={ Y with bj:=bj,vj:=v }) (m:={ m2 with job:=some j }) (j:=j) rfl h)))
      have hpl:=DC j false
      have HPT:=zh (fun w' h=>Am (Y:={ Y with bj:=bj,vj:=v }) (m:={ m2 with job:=some j }) (F':=m2.F) (j:=j) (j':=(yG j false).2) (R:=pts g (.cells #[.int .i64 m.dk.root,.int .i64 kind,.int .i64 file,.int .i64 rate,.int .i64 burst] 24 (0,0))::R) (w:=w') rfl hpl (fun _ _=>Iff.rfl) h)
      have H5:=zh h5
      clear h4 h5
      generalize yG j false = PJ at *
      obtain ⟨pc,j2⟩:=PJ
      dsimp only at HPU HPT HRES hpl
      go_wp2_with fail
      refine (HPU.out _ H5.out).mono ?_
      rintro e w6 ⟨rfl,hx7,h6⟩
      have h7:=HPT.out _ (lq [lA Y.bs bj v j2] (rshL Y.bs Y.A m2.F) h6)
      go_wp2_with fail
      go_ret
      rw [<- HRES.out]
      exact ⟨{ Y with bj:=bj,vj:=v },rfl,rfl,hx6.trans hx7,zu h7⟩
     ·rw [if_pos hwz] at HRES
      have hpos : 0 < wc:=by omega
      clear hwz
      go_wp2_with fail
      go_ret
      rw [<- HRES.out]
      exact ⟨Y,rfl,rfl,hx4.trans hx5,lh 15 (lh 16 (lh 17 h4 rfl) rfl) rfl⟩
   ·rw [if_pos hd] at HRES
    have hpos : 0 < df:=by omega
    clear hd
    go_wp2_with fail
    go_ret
    rw [<- HRES.out]
    exact ⟨Y,rfl,rfl,hx1.trans hx2,zu h2⟩
def yc (B : Nat -> Nat) (D : Nat -> DevM) : Nat -> List SL.HP
 | 0=>[]
 | q + 1=>lo (B q) (D q)::yc B D q
def JE (B : Nat -> Nat) : Value:=.agg #[.pointer (some ⟨B 0,0,none⟩),.pointer (some ⟨B 1,0,none⟩),.pointer (some ⟨B 2,0,none⟩),.pointer (some ⟨B 3,0,none⟩),.pointer (some ⟨B 4,0,none⟩)]
def LQ (S : Int×lf) (R : List SL.HP) (w : World) (e : Ending) (w' : World) : Prop:=
 (S.1≠0 /\ e = .returned (.tuple #[.pointer none,.int .i64 S.1]) /\ Ext w w' /\ own w' R) \/
 (S.1 = 0 /\ ∃Y : RA,e = .returned (.tuple #[.pointer (some ⟨Y.y,0,none⟩),.int .i64 0]) /\ Ext w w' /\ own w' (ryL Y S.2 R))
theorem V7 {y bs : Nat} {B : Nat -> Nat} {D : Nat -> DevM} {t v : Value} {dk : lK} {X : List SL.HP} {w : World}
  (H : own w (pts y (.cells #[.pointer (some ⟨B 0,0,none⟩),.pointer (some ⟨B 1,0,none⟩),.pointer (some ⟨B 2,0,none⟩),.pointer (some ⟨B 3,0,none⟩),.pointer (some ⟨B 4,0,none⟩),t,.pointer (some ⟨bs,0,none⟩),.int .i64 dk.root,.int .i64 dk.kind,.int .i64 dk.file,.int .i64 dk.rate,.int .i64 dk.burst,v,.pointer none] 171 (0,0))::(rshL bs (fun k=>(0,B k)) (fun _=>none)++(yc B D 5++X)))) : own w (rnL y bs (fun k=>(0,B k)) (fun _=>none) D 5 t dk v X):=by
 have h1:=lu (rshL bs (fun k=>(0,B k)) (fun _=>none)) H
 refine FV (List.Perm.append_left (rshL bs (fun k=>(0,B k)) (fun _=>none)) ?_) h1
 have h2 : (yc B D 5).Perm [yU (fun k=>(0,B k)) (fun _=>none) D 5 0,yU (fun k=>(0,B k)) (fun _=>none) D 5 1,yU (fun k=>(0,B k)) (fun _=>none) D 5 2,yU (fun k=>(0,B k)) (fun _=>none) D 5 3,yU (fun k=>(0,B k)) (fun _=>none) D 5 4]:=List.reverse_perm [yU (fun k=>(0,B k)) (fun _=>none) D 5 0,yU (fun k=>(0,B k)) (fun _=>none) D 5 1,yU (fun k=>(0,B k)) (fun _=>none) D 5 2,yU (fun k=>(0,B k)) (fun _=>none) D 5 3,yU (fun k=>(0,B k)) (fun _=>none) D 5 4]
 exact (h2.append_right X).cons _
theorem Dy {Y : RA} {m : lf} {R : List SL.HP} {w : World} (d : lK) (H : own w (ryL Y m R)) :
  own (((((w.setCell ⟨Y.y,7,none⟩ (.int .i64 d.root)).setCell ⟨Y.y,8,none⟩ (.int .i64 d.kind)).setCell ⟨Y.y,9,none⟩ (.int .i64 d.file)).setCell ⟨Y.y,10,none⟩ (.int .i64 d.rate)).setCell ⟨Y.y,11,none⟩ (.int .i64 d.burst)) (ryL Y { m with dk:=d } R):=
 lg (i:=11) (v:=.int .i64 d.burst) 6 (lg (i:=10) (v:=.int .i64 d.rate) 6 (lg (i:=9) (v:=.int .i64 d.file) 6 (lg (i:=8) (v:=.int .i64 d.kind) 6 (lg (i:=7) (v:=.int .i64 d.root) 6 H rfl) rfl) rfl) rfl) rfl
theorem TD {Y : RA} {m : lf} {F : ShM} {j : JobM} {bj : Nat} {v : Value} {R : List SL.HP} {w : World} (H : own w (rshL Y.bs Y.A F++(lA Y.bs bj v j::(row 3 1 v j.list.length (ln j.list)::(ryT Y m++R))))) :
  own w (rshL Y.bs Y.A F++(ryT Y m++(lA Y.bs bj v j::(row 3 1 v j.list.length (ln j.list)::R)))):=
 TB (rshL Y.bs Y.A F) [lA Y.bs bj v j,row 3 1 v j.list.length (ln j.list)] (ryT Y m) (R:=R) H
theorem Qy (N : Nat) (B : Nat -> Nat) (D : Nat -> DevM) (hD : ∀k,k < 5 -> (D k).Ok /\ (D k).writes <= N /\ (D k).pend.length <= N) (hD0 : ∀k,k < 5 -> 0 < (D k).fl.length) (hN : N < 900000) (tb : Nat) (top : DevM) (ht : top.Ok) (ht0 : 0 < top.fl.length) (R : List SL.HP) (w : World) (H : own w (yc B D 5++(lo tb top::R))) :
    Calls Tryz.prog 28 #[JE B,.pointer (some ⟨tb,0,none⟩)] w (LQ (Ak D top) R w):=by
  have HD:=zh (fun k (hk : k < 5)=>(hD k hk).1)
  have HD0:=zh hD0
  have HW:=zh (KK hD)
  have HTS:=zh (Ap ht (a:=0) (by omega) (by omega))
  have HT:=zh ht
  have HT0:=zh ht0
  generalize hYO : Ak D top = YO
  have HYO:=zh hYO
  clear hD hD0 ht ht0 hYO
  have h1:=li H (.cells #[.pointer (some ⟨B 0,0,none⟩),.pointer (some ⟨B 1,0,none⟩),.pointer (some ⟨B 2,0,none⟩),.pointer (some ⟨B 3,0,none⟩),.pointer (some ⟨B 4,0,none⟩)] 56)
  have hx1:=(Ext.refl w).alloc (.cells #[.pointer (some ⟨B 0,0,none⟩),.pointer (some ⟨B 1,0,none⟩),.pointer (some ⟨B 2,0,none⟩),.pointer (some ⟨B 3,0,none⟩),.pointer (some ⟨B 4,0,none⟩)] 56)
  unfold JE
  go_enter Tryz.func28,Tryz.ntmps28
  go_upto_region 1 with (fail)
  generalize w.heap.size = gb at *
  generalize w.alloc (.cells #[.pointer (some ⟨B 0,0,none⟩),.pointer (some ⟨B 1,0,none⟩),.pointer (some ⟨B 2,0,none⟩),.pointer (some ⟨B 3,0,none⟩),.pointer (some ⟨B 4,0,none⟩)] 56) = w1 at *
  have h2:=U9 (fun k=>(0,B k)) h1
  have hx2:=hx1.alloc (.cells #[.pointer none,.pointer none,.pointer none,.pointer none,.pointer none] 114)
  have cb:=(ld 6 h2 rfl).1
  have b0:=cb 0
  have b1:=cb 1
  have b2:=cb 2
  have b3:=cb 3
  have b4:=cb 4
  clear cb
  have h3:=li h2 (.cells #[.pointer (some ⟨B 0,0,none⟩),.pointer (some ⟨B 1,0,none⟩),.pointer (some ⟨B 2,0,none⟩),.pointer (some ⟨B 3,0,none⟩),.pointer (some ⟨B 4,0,none⟩),.pointer (some ⟨tb,0,none⟩),.pointer (some ⟨w1.heap.size,0,none⟩),.int .i64 0,.int .i64 0,.int .i64 0,.int .i64 0,.int .i64 0,.slice none 0 0,.pointer none] 171)
  have hx3:=hx2.alloc (.cells #[.pointer (some ⟨B 0,0,none⟩),.pointer (some ⟨B 1,0,none⟩),.pointer (some ⟨B 2,0,none⟩),.pointer (some ⟨B 3,0,none⟩),.pointer (some ⟨B 4,0,none⟩),.pointer (some ⟨tb,0,none⟩),.pointer (some ⟨w1.heap.size,0,none⟩),.int .i64 0,.int .i64 0,.int .i64 0,.int .i64 0,.int .i64 0,.slice none 0 0,.pointer none] 171)
  go_wp2_with fail
  rw [show (w1.alloc (.cells #[.pointer none,.pointer none,.pointer none,.pointer none,.pointer none] 114)).heap.size = w1.heap.size + 1 by simp] at h3
  generalize w1.heap.size + 1 = y at *
  generalize w1.heap.size = bs at *
  generalize (w1.alloc (.cells #[.pointer none,.pointer none,.pointer none,.pointer none,.pointer none] 114)).alloc (.cells #[.pointer (some ⟨B 0,0,none⟩),.pointer (some ⟨B 1,0,none⟩),.pointer (some ⟨B 2,0,none⟩),.pointer (some ⟨B 3,0,none⟩),.pointer (some ⟨B 4,0,none⟩),.pointer (some ⟨tb,0,none⟩),.pointer (some ⟨bs,0,none⟩),.int .i64 0,.int .i64 0,.int .i64 0,.int .i64 0,.int .i64 0,.slice none 0 0,.pointer none] 171) = w3 at *
  have h4 : own w3 (rnL y bs (fun k=>(0,B k)) (fun _=>none) D 5 (.pointer (some ⟨tb,0,none⟩)) ⟨0,0,0,0,0⟩ (.slice none 0 0) (lo tb top::pts gb (.cells #[.pointer (some ⟨B 0,0,none⟩),.pointer (some ⟨B 1,0,none⟩),.pointer (some ⟨B 2,0,none⟩),.pointer (some ⟨B 3,0,none⟩),.pointer (some ⟨B 4,0,none⟩)] 56 (0,0))::R)):=by
    have h5:=lu (_::rshL bs (fun k=>(0,B k)) (fun _=>none)++(yc B D 5++[lo tb top])) (R:=R) (a:=pts gb (.cells #[.pointer (some ⟨B 0,0,none⟩),.pointer (some ⟨B 1,0,none⟩),.pointer (some ⟨B 2,0,none⟩),.pointer (some ⟨B 3,0,none⟩),.pointer (some ⟨B 4,0,none⟩)] 56 (0,0))) (by
      have:=lt 7 h3 rfl
      exact this)
    exact V7 (dk:=⟨0,0,0,0,0⟩) (by exact h5)
  have hF0 : (fun _=>none : ShM) = opF D 0:=funext fun k=>by unfold opF; rw [if_neg (by omega)]
  rw [hF0] at h4
  clear hF0 h1 h2 h3 hx1 hx2 H b0 b1 b2 b3 b4
  go_loopw [7] (fun kv wr=>∃(q : Nat) (A : Nat -> Nat×Nat),q <= 5 /\ kv = .int .i64 q /\ (∀k,q <= k -> (A k).2 = B k) /\ Ext w wr /\ own wr (rnL y bs A (opF D q) D 5 (.pointer (some ⟨tb,0,none⟩)) ⟨0,0,0,0,0⟩ (.slice none 0 0) (lo tb top::pts gb (.cells #[.pointer (some ⟨B 0,0,none⟩),.pointer (some ⟨B 1,0,none⟩),.pointer (some ⟨B 2,0,none⟩),.pointer (some ⟨B 3,0,none⟩),.pointer (some ⟨B 4,0,none⟩)] 56 (0,0))::R))) (fun kv _=>6 - (intOf kv).toNat)
  case atStart=>exact ⟨0,_,by omega,rfl,fun k _=>rfl,hx3,h4⟩
  case round=>
    clear h4 hx3
    obtain ⟨q,A,hq,rfl,hA,hxr,hown⟩:=hrel
    by_cases hlt : q < 5
    · have g1 : (q : Int) < 5:=by omega
      have g2 : (0 : Int) <= (q : Int):=by omega
      have cf : wr.cell? ⟨gb,q,none⟩ = some (.pointer (some ⟨B q,0,none⟩)):=by
        have h:=(ld 13 hown rfl).1
        have hq : q = 0 \/ q = 1 \/ q = 2 \/ q = 3 \/ q = 4:=by omega
        rcases hq with rfl | rfl | rfl | rfl | rfl
        · exact h 0
        · exact h 1
        · exact h 2
        · exact h 3
        · exact h 4
      have hAq:=hA q (Nat.le_refl q)
      have hA' : ∀(x : Nat×Nat) k,q + 1 <= k -> (setA A q x k).2 = B k:=fun x k hk=>by rw [B8 A x (by omega)]; exact hA k (by omega)
      have HA':=zh hA'
      have HAK:=zh hA
      have hop:=Iw (D q)
      have hno:=Kv (D q)
      have HOP:=zh (fun (bd : Nat) (R : List SL.HP) (w : World) (H : own w (lo bd (D q)::R))=>QY bd (D q) (HD.out q hlt) (HD0.out q hlt) R w H)
      have hoy:=Ph (D:=D) (q:=q)
      have hon:=SZ (D:=D) (q:=q)
      generalize zS (D q) = OR at *
      obtain ⟨oc,oi⟩:=OR
      dsimp only at hop hno hoy hon
      have hT5:=Ve (k:=q) hlt hlt (Bf D q) hown
      have hB5:=fun (w' : World) h=>U5 (y:=y) (bs:=bs) (A:=A) (F:=opF D q) (D:=D) (q:=5) (t:=.pointer (some ⟨tb,0,none⟩)) (dk:=⟨0,0,0,0,0⟩) (v:=.slice none 0 0) (R:=lo tb top::pts gb (.cells #[.pointer (some ⟨B 0,0,none⟩),.pointer (some ⟨B 1,0,none⟩),.pointer (some ⟨B 2,0,none⟩),.pointer (some ⟨B 3,0,none⟩),.pointer (some ⟨B 4,0,none⟩)] 56 (0,0))::R) (w:=w') (k:=q) hlt hlt (Bf D q) h
      have hI5:=fun (w' : World) (bi : Nat) h=>Wk (y:=y) (bs:=bs) (A:=A) (F:=opF D q) (D:=D) (q:=5) (t:=.pointer (some ⟨tb,0,none⟩)) (dk:=⟨0,0,0,0,0⟩) (v:=.slice none 0 0) (R:=lo tb top::pts gb (.cells #[.pointer (some ⟨B 0,0,none⟩),.pointer (some ⟨B 1,0,none⟩),.pointer (some ⟨B 2,0,none⟩),.pointer (some ⟨B 3,0,none⟩),.pointer (some ⟨B 4,0,none⟩)] 56 (0,0))::R) (w:=w') (k:=q) (i:=oi) (bi:=bi) hlt (Bf D q) h
      rw [hAq] at hT5 hB5 hI5
      have HOY:=zh hoy
      have HON:=zh hon
      have HOD:=zh hop
      have HT5:=zh hT5
      have HB5:=zh hB5
      have HI5:=zh hI5
      clear hoy hon hop hT5 hB5 hI5 hA hA' hAq
      by_cases hoc : oc = 0
      · have HF:=zh (HOY.out hoc)
        have HO2:=zh (fun (bd : Nat) (R : List SL.HP) (w : World) (H : own w (lo bd (D q)::R))=>(HOP.out bd R w H).mono fun e w' h=>(h.resolve_left fun h=>h.1 hoc).2)
        dsimp only at HO2
        clear hoc hno HOY HON HOP
        go_wp2_with fail
        refine (HO2.out _ _ wr HT5.out).mono ?_
        rintro e w6 ⟨bi,rfl,hx6,h6⟩
        have h6d:=At [_,_] h6
        have c6 : w6.cell? ⟨y,6,none⟩ = some (.pointer (some ⟨bs,0,none⟩)):=(Sl hlt h6d).1 6
        obtain ⟨cs1,cs2⟩:=Tq hlt (Bf D q) h6d
        have h7:=HI5.out w6 bi h6
        have hx7:=(hxr.trans hx6).setCell (⟨bs,q,none⟩ : Addr) (.pointer (some ⟨bi,0,none⟩))
        have H7:=zh h7
        clear cf h6 h6d hown h7
        go_wp2_with fail
        go_roundw
        case rel=>exact ⟨q + 1,_,by omega,by go_num,HA'.out _,hx7,by rw [HF.out]; exact H7.out⟩
        case measure=>simp [intOf]; omega
      · have HF:=zh (HON.out hoc)
        have HO2:=zh (fun (bd : Nat) (R : List SL.HP) (w : World) (H : own w (lo bd (D q)::R))=>(HOP.out bd R w H).mono fun e w' h=>(h.resolve_right fun h=>hoc h.1).2)
        dsimp only at HO2
        rw [HOD.out] at HO2
        clear hoc hno HOY HON HOP
        go_wp2_with fail
        refine (HO2.out _ _ wr HT5.out).mono ?_
        rintro e w6 ⟨rfl,hx6,h6'⟩
        have h6:=HB5.out _ h6'
        have c6 : w6.cell? ⟨y,6,none⟩ = some (.pointer (some ⟨bs,0,none⟩)):=(C7 h6).1 6
        have cs1:=yl (R:=rnT y bs A (opF D q) D 5 (.pointer (some ⟨tb,0,none⟩)) ⟨0,0,0,0,0⟩ (.slice none 0 0)++(lo tb top::pts gb (.cells #[.pointer (some ⟨B 0,0,none⟩),.pointer (some ⟨B 1,0,none⟩),.pointer (some ⟨B 2,0,none⟩),.pointer (some ⟨B 3,0,none⟩),.pointer (some ⟨B 4,0,none⟩)] 56 (0,0))::R)) h6 hlt
        rw [Ci (Bf D q)] at cs1
        have cs2:=(ld (arr:=oK A (opF D q)) (T:=114) 0 h6 rfl).2 q
        have h7:=Oj (R:=rnT y bs A (opF D q) D 5 (.pointer (some ⟨tb,0,none⟩)) ⟨0,0,0,0,0⟩ (.slice none 0 0)++(lo tb top::pts gb (.cells #[.pointer (some ⟨B 0,0,none⟩),.pointer (some ⟨B 1,0,none⟩),.pointer (some ⟨B 2,0,none⟩),.pointer (some ⟨B 3,0,none⟩),.pointer (some ⟨B 4,0,none⟩)] 56 (0,0))::R)) hlt (Bf D q) h6
        have hx7:=(hxr.trans hx6).setCell (⟨bs,q,none⟩ : Addr) (.pointer none)
        have H7:=zh h7
        clear cf h6 h6' hown h7
        go_wp2_with fail
        go_roundw
        case rel=>exact ⟨q + 1,A,by omega,by go_num,fun k hk=>HAK.out k (by omega),hx7,by rw [HF.out]; exact H7.out⟩
        case measure=>simp [intOf]; omega
    · obtain rfl : q = 5:=by omega
      have hown : own wr (rnL y bs A (opF D 5) D 5 (.pointer (some ⟨tb,0,none⟩)) ⟨0,0,0,0,0⟩ (.slice none 0 0) (lo tb top::R)):=lh 13 hown rfl
      have hn:=(HT.out).n
      have ht0:=HT0.out
      have hrs:=DH tb top HT.out 0 (by omega) (by omega) _ wr (lt 12 hown rfl)
      have HRS:=zh hrs
      have hdk:=fun (R : List SL.HP) (w : World) (H : own w R)=>Qs (top.seen 0) (by have:=HTS.out; omega) R w H
      have hE : Ak D top = if (oq (top.seen 0)).2≠0 then ((oq (top.seen 0)).2,yh D top)
        else if (ls (opF D 5) (dkOf (top.seen 0)).root).2≠0 then ((ls (opF D 5) (dkOf (top.seen 0)).root).2,yh D top)
        else (0,DY (yh D top)):=rfl
      rw [HYO.out] at hE
      have hE0 : yh D top = ⟨opF D 5,D,top,dkOf (top.seen 0),(ls (opF D 5) (dkOf (top.seen 0)).root).1,none⟩:=rfl
      have hdf : 0 <= (oq (top.seen 0)).2:=D7 _
      have hdr : (oq (top.seen 0)).2 = 0 -> 0 <= (oq (top.seen 0)).1.1:=fun h=>by
        have h1:=Gn (KV h)
        unfold yr dkOf at h1
        dsimp only at h1
        omega
      unfold dkOf at hE hE0
      generalize yh D top = O0 at *
      generalize hs0 : top.seen 0 = s0 at *
      generalize oq s0 = DK at *
      obtain ⟨⟨r,k,f,a,b⟩,dc⟩:=DK
      dsimp only at hE hE0 hdk hdf hdr
      have HDR:=zh hdr
      unfold o6 at hdk
      have HDK:=zh hdk
      have HE:=zh hE
      have HE0:=zh hE0
      clear hdk hE hE0 hrs hn ht0 hdr HYO hA
      go_wp2_with fail
      refine HRS.out.mono ?_
      rintro e w' ⟨rfl,rfl⟩
      go_wp2_with fail
      refine (HDK.out _ wr hown).mono ?_
      rintro e w2 ⟨rfl,hx2,h2⟩
      have h3:=Ig (li h2 (.cells #[.int .i64 r,.int .i64 k,.int .i64 f,.int .i64 a,.int .i64 b] 24))
      have hx3:=(hxr.trans hx2).alloc (.cells #[.int .i64 r,.int .i64 k,.int .i64 f,.int .i64 a,.int .i64 b] 24)
      clear hown hxr hx2 h2
      go_upto_region 8 with (fail)
      generalize w2.heap.size = gd at *
      generalize w2.alloc (.cells #[.int .i64 r,.int .i64 k,.int .i64 f,.int .i64 a,.int .i64 b] 24) = w3 at *
      by_cases hdc : dc = 0
      · subst hdc
        obtain ⟨cd,-⟩:=ld 12 h3 rfl
        have d0:=cd 0
        have d1:=cd 1
        have d2:=cd 2
        have d3:=cd 3
        have d4:=cd 4
        obtain ⟨cy1,cy2⟩:=C7 h3
        have e7 : w3.cell? ⟨y,7,none⟩ = some (.int .i64 0):=cy1 7
        have e8 : w3.cell? ⟨y,8,none⟩ = some (.int .i64 0):=cy1 8
        have e9 : w3.cell? ⟨y,9,none⟩ = some (.int .i64 0):=cy1 9
        have e10 : w3.cell? ⟨y,10,none⟩ = some (.int .i64 0):=cy1 10
        have e11 : w3.cell? ⟨y,11,none⟩ = some (.int .i64 0):=cy1 11
        have h4:=Vf ⟨r,k,f,a,b⟩ h3
        dsimp only at h4
        have hx4:=(((((hx3).setCell (⟨y,7,none⟩ : Addr) (.int .i64 r)).setCell (⟨y,8,none⟩ : Addr) (.int .i64 k)).setCell (⟨y,9,none⟩ : Addr) (.int .i64 f)).setCell (⟨y,10,none⟩ : Addr) (.int .i64 a)).setCell (⟨y,11,none⟩ : Addr) (.int .i64 b)
        clear cy1 cd h3 hx3
        go_upto_region 11 with (fail)
        clear e7 e8 e9 e10 e11 cy2 d0 d1 d2 d3 d4
        generalize ((((w3.setCell ⟨y,7,none⟩ (.int .i64 r)).setCell ⟨y,8,none⟩ (.int .i64 k)).setCell ⟨y,9,none⟩ (.int .i64 f)).setCell ⟨y,10,none⟩ (.int .i64 a)).setCell ⟨y,11,none⟩ (.int .i64 b) = w4 at *
        have hwk:=fun (R : List SL.HP) (w : World) (H : own w (rshL bs A (opF D 5)++R))=>DX bs A (opF D 5) (HW.out.sh hN) r R w H
        have hrt : (ls (opF D 5) r).2 = 0 -> lx (opF D 5) r:=fun h=>KI (HDR.out (by first | trivial | rfl)) h
        have hwc : 0 <= (ls (opF D 5) r).2:=zd
        unfold zA at hwk
        have HE2:=HE.out
        rw [if_neg (by decide)] at HE2
        have HE0':=HE0.out
        generalize ls (opF D 5) r = WK at *
        obtain ⟨wl,wc⟩:=WK
        dsimp only at hwk hwc hrt HE2 HE0'
        have HWK:=zh hwk
        have HRT:=zh hrt
        have HEE:=zh HE2
        have HE00:=zh HE0'
        clear hwk hrt HE2 HE0' HE HE0 HDK HRS
        have hz:=lj h4
        have hxz:=hx4.drew
        have HS:=zh (fun (w' : World) (v : Value) (P : SL.HP) (h : own w' (rnL y bs A (opF D 5) D 5 (.pointer (some ⟨tb,0,none⟩)) ⟨r,k,f,a,b⟩ v (P::pts gd (.cells #[.int .i64 r,.int .i64 k,.int .i64 f,.int .i64 a,.int .i64 b] 24 (0,0))::(lo tb top::R))))=>show w'.cell? ⟨y,6,none⟩ = some (.pointer (some ⟨bs,0,none⟩)) /\ w'.cell? ⟨gd,0,none⟩ = some (.int .i64 r) from ⟨(C7 h).1 6,(ld 13 h rfl).1 0⟩)
        refine wp_region_held_drew (S:=fun w'=>w'.cell? ⟨y,6,none⟩ = some (.pointer (some ⟨bs,0,none⟩)) /\ w'.cell? ⟨gd,0,none⟩ = some (.int .i64 r)) (by kernel_rfl) (⟨(C7 hz).1 6,(ld 12 hz rfl).1 0⟩) (fun hHeld=>?_)
        refine tk 0 ?_
        refine tk 1 ?_
        refine tk 2 ?_
        refine tk 3 ?_
        refine tk 4 ?_
        refine tk 5 ?_
        refine tk 6 ?_
        try simp only [Act.put,tA,tB,tC,tD,tE,tF]
        refine rd 7 rfl fun K hK=>?_
        go_simp
        go_at_call 77
        refine (HWK.out _ _ hz).mono ?_
        rintro e w6 ⟨wv,rfl,hx6,h6'⟩
        have h6:=Ig h6'
        go_simp
        refine hK.out _ _ (HS.out _ _ _ h6) (fun _=>?_)
        clear hK K
        try simp only [Act.put,tA,tB,tC,tD,tE,tF]
        refine tk 8 ?_
        refine tk 9 ?_
        refine tk 10 ?_
        refine tk 11 ?_
        refine tk 12 ?_
        try simp only [Act.put,tA,tB,tC,tD,tE,tF]
        have cl : w6.cell? ⟨y,12,none⟩ = some (.slice none 0 0):=(C7 h6).1 12
        have fl:=(C7 h6).2 12
        have h7:=lg (i:=12) (v:=wv) 6 h6 rfl
        have h8 : own (w6.setCell ⟨y,12,none⟩ wv) (rnL y bs A (opF D 5) D 5 (.pointer (some ⟨tb,0,none⟩)) ⟨r,k,f,a,b⟩ wv (row 3 1 wv wl.length (ln wl)::pts gd (.cells #[.int .i64 r,.int .i64 k,.int .i64 f,.int .i64 a,.int .i64 b] 24 (0,0))::lo tb top::R)):=h7
        have hx8:=(hxz.trans hx6).setCell (⟨y,12,none⟩ : Addr) wv
        obtain ⟨vo,vb,vof,vcap,rfl,-,-,-,-⟩:=(lY 0 h6' rfl).form
        refine rd 13 rfl fun K hK=>?_
        go_simp
        refine hK.out _ _ (HS.out _ _ _ h8) (fun _=>?_)
        clear hK K cl fl
        try simp only [Act.put,tA,tB,tC,tD,tE,tF]
        refine tk 14 ?_
        try simp only [Act.put,tA,tB,tC,tD,tE,tF]
        refine wpAnyH_done (by kernel_rfl) ?_ _
        generalize w6.setCell ⟨y,12,none⟩ (.slice vo wl.length vcap) = w8 at *
        clear h4 hz h6 h6' h7 hx4 hxz hx6 hHeld HS HWK
        by_cases hwz : wc = 0
        · subst hwz
          have hEE:=HEE.out
          rw [if_neg (by decide)] at hEE
          have hra:=HRT.out rfl
          have h9' : own w8 (rnL y bs A (opF D 5) D 5 (.pointer (some ⟨tb,0,none⟩)) ⟨r,k,f,a,b⟩ (.slice vo wl.length vcap) (lo tb top::row 3 1 (.slice vo wl.length vcap) wl.length (ln wl)::pts gd (.cells #[.int .i64 r,.int .i64 k,.int .i64 f,.int .i64 a,.int .i64 b] 24 (0,0))::R)):=Ig (R:=row 3 1 (.slice vo wl.length vcap) wl.length (ln wl)::pts gd (.cells #[.int .i64 r,.int .i64 k,.int .i64 f,.int .i64 a,.int .i64 b] 24 (0,0))::R) (lt 14 h8 rfl)
          have h9 : own w8 (ryL ⟨y,bs,tb,A,.slice vo wl.length vcap,0,undef⟩ O0 (pts gd (.cells #[.int .i64 r,.int .i64 k,.int .i64 f,.int .i64 a,.int .i64 b] 24 (0,0))::R)):=by
            rw [HE00.out]
            exact Vz h9'
          have hg2 : DY O0 = if k = 0 then O0 else if k = 2 /\ bkOf (opF D 5) r = f then { O0 with dk:=lC r } else match newM (opF D 5) r k f a b with | (none,_)=>{ O0 with dk:=lC r } | (some j,_)=>{ O0 with job:=some j }:=by
            rw [HE00.out]; rfl
          rw [hg2] at hEE
          obtain ⟨z,i,rfl,hz5,hzi⟩:=lT hra
          have hF5 : O0.F = opF D 5:=by rw [HE00.out]
          rw [UX hzi] at hEE
          have hHD : ∀w' R',own w' (ryL ⟨y,bs,tb,A,.slice vo wl.length vcap,0,undef⟩ O0 (pts gd (.cells #[.int .i64 (z : Int),.int .i64 k,.int .i64 f,.int .i64 a,.int .i64 b] 24 (0,0))::R')) -> w'.cell? ⟨gd,0,none⟩ = some (.int .i64 (z : Int)) /\ w'.cell? ⟨gd,1,none⟩ = some (.int .i64 k) /\ w'.cell? ⟨gd,2,none⟩ = some (.int .i64 f) /\ w'.cell? ⟨gd,3,none⟩ = some (.int .i64 a) /\ w'.cell? ⟨gd,4,none⟩ = some (.int .i64 b) /\ w'.cell? ⟨y,6,none⟩ = some (.pointer (some ⟨bs,0,none⟩)):=fun w' R' h=>⟨(ld 15 h rfl).1 0,(ld 15 h rfl).1 1,(ld 15 h rfl).1 2,(ld 15 h rfl).1 3,(ld 15 h rfl).1 4,Br h⟩
          have HHD:=zh hHD
          clear h8 h9' HEE HRT hHD hra hg2
          obtain ⟨d0,d1,d2,d3,d4,d6⟩:=HHD.out w8 R h9
          by_cases hk0 : k = 0
          · rw [if_pos hk0] at hEE
            have tk0 : (k == 0) = true:=by simp [hk0]
            have HES:=zh hEE
            clear hEE hk0
            go_wp2_with fail
            go_ret2
            rw [HES.out]
            exact .inr ⟨rfl,⟨y,bs,tb,A,.slice vo wl.length vcap,0,undef⟩,rfl,hx8,zu h9⟩
          · rw [if_neg hk0] at hEE
            have tk0 : (k == 0) = false:=by simp [hk0]
            have hnj:=fun (R : List SL.HP) (w : World) (H : own w (rshL bs A (opF D 5)++R))=>MA bs A (opF D 5) (HW.out.sh hN) (z : Int) k f a b A4 R w H
            have hnc:=DZ (opF D 5) (z : Int) k f a b
            have hnz:=Ix (F:=opF D 5) (root:=(z : Int)) (kind:=k) (file:=f) (rate:=a) (burst:=b)
            have hzr:=hzi
            generalize newM (opF D 5) (z : Int) k f a b = NR at *
            obtain ⟨oj,g⟩:=NR
            dsimp only at hnc hnz
            have HEE:=zh hEE
            have HNZ:=zh hnz
            have HJT:=zh (fun (w' : World) (R' : List SL.HP) (h : own w' (ryL ⟨y,bs,tb,A,.slice vo wl.length vcap,0,undef⟩ O0 R'))=>show own w' (rshL bs A (opF D 5)++(ryT ⟨y,bs,tb,A,.slice vo wl.length vcap,0,undef⟩ O0++R')) from (by rw [<- hF5]; exact h))
            have HJB:=zh (fun (w' : World) (R' : List SL.HP) (h : own w' (rshL bs A (opF D 5)++(ryT ⟨y,bs,tb,A,.slice vo wl.length vcap,0,undef⟩ O0++R')))=>show own w' (ryL ⟨y,bs,tb,A,.slice vo wl.length vcap,0,undef⟩ O0 R') from (by rw [<- hF5] at h; exact h))
            have HJB2:=zh (fun (w' : World) (R' : List SL.HP) (h : own w' (rshL bs A (opF D 5)++(ryT ⟨y,bs,tb,A,.slice vo wl.length vcap,0,undef⟩ O0++R')))=>show own w' (ryL ⟨y,bs,tb,A,.slice vo wl.length vcap,0,undef⟩ O0 R') from (by rw [<- hF5] at h; exact h))
            have HBR:=zh (fun (R : List SL.HP) (w : World) (H : own w R)=>ES (z : Int) R w H)
            unfold lC lK.v o6 at HBR
            dsimp only at HBR
            have HIM:=zh (fun (w' : World) (R' : List SL.HP) (h : own w' (ryL ⟨y,bs,tb,A,.slice vo wl.length vcap,0,undef⟩ O0 R'))=>show w'.cell? ⟨bs,z,none⟩ = some (.pointer (some ⟨(A z).1,0,none⟩)) /\ w'.cell? ⟨(A z).1,3,none⟩ = some (.int .i64 i.b) from (by
              have h1 : own w' (rshL bs A O0.F++(ryT ⟨y,bs,tb,A,.slice vo wl.length vcap,0,undef⟩ O0++R')):=h
              rw [hF5] at h1
              obtain ⟨vt,vh,-,-,-,c3,-⟩:=AJ hz5 hzi h1
              exact ⟨by rw [yl h1 hz5]; unfold yi; rw [hzi],c3⟩))
            have i1 : (0 : Int) <= (z : Int):=by omega
            have i2 : (z : Int) < 5:=by omega
            clear hEE hk0 hnz HE00 hF5 hzi hzr
            cases oj with
            | none=>
              have hgp : 0 < g:=by have:=HNZ.out rfl; omega
              have HN1:=zh (fun (R : List SL.HP) (w : World) (H : own w (rshL bs A (opF D 5)++R))=>(hnj R w H).mono fun e w' h=>show e = .returned (.tuple #[.pointer none,.int .i64 g]) /\ Ext w w' /\ own w' (rshL bs A (opF D 5)++R) from h)
              clear hnj hnc HNZ
              have tg : decide (0 < g) = true:=decide_eq_true hgp
              go_upto_region 16 with (fail)
              have hz:=lj h9
              have hxz:=hx8.drew
              clear d0 d1 d2 d3 d4 d6
              go_region_held3 (fun w'=>w'.cell? ⟨gd,0,none⟩ = some (.int .i64 (z : Int)) /\ w'.cell? ⟨gd,1,none⟩ = some (.int .i64 k) /\ w'.cell? ⟨gd,2,none⟩ = some (.int .i64 f) /\ w'.cell? ⟨gd,3,none⟩ = some (.int .i64 a) /\ w'.cell? ⟨gd,4,none⟩ = some (.int .i64 b) /\ w'.cell? ⟨y,6,none⟩ = some (.pointer (some ⟨bs,0,none⟩))) (first | exact HHD.out _ _ hz | exact HHD.out _ _ h10) (first | (go_at_call 16; refine (HN1.out _ _ (HJT.out _ _ hz)).mono ?_; rintro e w9 ⟨rfl,hx9,h10'⟩; have h10:=HJB.out _ _ h10'))
              have hx10:=hxz.trans hx9
              clear hz hxz h9 hx8 hx9 h10'
              obtain ⟨d0,d1,d2,d3,d4,d6⟩:=HHD.out _ _ h10
              obtain ⟨m1,m2⟩:=HIM.out _ _ h10
              have hsub : (k = 2 /\ i.b = f) \/ (k = 2 /\ ¬i.b = f) \/ ¬k = 2:=by omega
              rcases hsub with ⟨h2,h3⟩ | ⟨h2,h3⟩ | h2
              · skip
                first
                | (have t2 : (k == 2) = true:=beq_iff_eq.2 h2
                   have t3 : (i.b == f) = true:=beq_iff_eq.2 h3
                   have H2:=zh h2
                   have H3:=zh h3
                   clear h2 h3)
                | (have t2 : (k == 2) = true:=beq_iff_eq.2 h2
                   have t3 : (i.b == f) = false:=beq_eq_false_iff_ne.2 h3
                   have H2:=zh h2
                   have H3:=zh h3
                   clear h2 h3)
                | (have t2 : (k == 2) = false:=beq_eq_false_iff_ne.2 h2
                   have H2:=zh h2
                   clear h2)
                go_upto_region 17 with (fail)
                go_quiet (fail)
                have h2:=H2.out
                try have h3:=H3.out
                have hEE:=HEE.out
                rw [if_pos ⟨h2,h3⟩] at hEE
                have HES:=zh hEE
                clear hEE h2
                try clear h3
                go_wp2_with fail
                refine (HBR.out _ _ (lm _ h10)).mono ?_
                rintro e w11 ⟨rfl,hx11,h11⟩
                have fy:=AI h11
                have e7:=zC h11
                have e8:=CA h11
                have e9:=CD h11
                have e10:=Ek h11
                have e11:=Db h11
                have h12:=Dy (lC (z : Int)) h11
                dsimp only at fy e7 e8 e9 e10 e11
                go_wp2_with fail
                go_ret2
                rw [HES.out]
                exact .inr ⟨rfl,⟨y,bs,tb,A,.slice vo wl.length vcap,0,undef⟩,rfl,(((((((hx10.drewN _).trans hx11).setCell _ _).setCell _ _).setCell _ _).setCell _ _).setCell _ _),zu h12⟩
              · skip
                first
                | (have t2 : (k == 2) = true:=beq_iff_eq.2 h2
                   have t3 : (i.b == f) = true:=beq_iff_eq.2 h3
                   have H2:=zh h2
                   have H3:=zh h3
                   clear h2 h3)
                | (have t2 : (k == 2) = true:=beq_iff_eq.2 h2
                   have t3 : (i.b == f) = false:=beq_eq_false_iff_ne.2 h3
                   have H2:=zh h2
                   have H3:=zh h3
                   clear h2 h3)
                | (have t2 : (k == 2) = false:=beq_eq_false_iff_ne.2 h2
                   have H2:=zh h2
                   clear h2)
                go_upto_region 17 with (fail)
                go_quiet (fail)
                have h2:=H2.out
                try have h3:=H3.out
                have hEE:=HEE.out
                rw [if_neg (fun h=>h3 h.2)] at hEE
                have HES:=zh hEE
                clear hEE h2
                try clear h3
                go_wp2_with fail
                refine (HBR.out _ _ (lm _ h10)).mono ?_
                rintro e w11 ⟨rfl,hx11,h11⟩
                have fy:=AI h11
                have e7:=zC h11
                have e8:=CA h11
                have e9:=CD h11
                have e10:=Ek h11
                have e11:=Db h11
                have h12:=Dy (lC (z : Int)) h11
                dsimp only at fy e7 e8 e9 e10 e11
                go_wp2_with fail
                go_ret2
                rw [HES.out]
                exact .inr ⟨rfl,⟨y,bs,tb,A,.slice vo wl.length vcap,0,undef⟩,rfl,(((((((hx10.drewN _).trans hx11).setCell _ _).setCell _ _).setCell _ _).setCell _ _).setCell _ _),zu h12⟩
              · skip
                first
                | (have t2 : (k == 2) = true:=beq_iff_eq.2 h2
                   have t3 : (i.b == f) = true:=beq_iff_eq.2 h3
                   have H2:=zh h2
                   have H3:=zh h3
                   clear h2 h3)
                | (have t2 : (k == 2) = true:=beq_iff_eq.2 h2
                   have t3 : (i.b == f) = false:=beq_eq_false_iff_ne.2 h3
                   have H2:=zh h2
                   have H3:=zh h3
                   clear h2 h3)
                | (have t2 : (k == 2) = false:=beq_eq_false_iff_ne.2 h2
                   have H2:=zh h2
                   clear h2)
                go_upto_region 17 with (fail)
                go_quiet (fail)
                have h2:=H2.out
                try have h3:=H3.out
                have hEE:=HEE.out
                rw [if_neg (fun h=>h2 h.1)] at hEE
                have HES:=zh hEE
                clear hEE h2
                try clear h3
                go_wp2_with fail
                refine (HBR.out _ _ (lm _ h10)).mono ?_
                rintro e w11 ⟨rfl,hx11,h11⟩
                have fy:=AI h11
                have e7:=zC h11
                have e8:=CA h11
                have e9:=CD h11
                have e10:=Ek h11
                have e11:=Db h11
                have h12:=Dy (lC (z : Int)) h11
                dsimp only at fy e7 e8 e9 e10 e11
                go_wp2_with fail
                go_ret2
                rw [HES.out]
                exact .inr ⟨rfl,⟨y,bs,tb,A,.slice vo wl.length vcap,0,undef⟩,rfl,(((((((hx10.drewN _).trans hx11).setCell _ _).setCell _ _).setCell _ _).setCell _ _).setCell _ _),zu h12⟩
            | some j=>
              have HN1:=zh (fun (R : List SL.HP) (w : World) (H : own w (rshL bs A (opF D 5)++R))=>(hnj R w H).mono fun e w' h=>show ∃br v,e = .returned (.tuple #[.pointer (some ⟨br,0,none⟩),.int .i64 0]) /\ Ext w w' /\ own w' (rshL bs A (opF D 5)++(lA bs br v j::(row 3 1 v j.list.length (ln j.list)::R))) from h)
              clear hnj hnc HNZ
              have tg : decide ((0 : Int) < 0) = false:=rfl
              go_upto_region 16 with (fail)
              have hz:=lj h9
              have hxz:=hx8.drew
              clear d0 d1 d2 d3 d4 d6
              go_region_held3 (fun w'=>w'.cell? ⟨gd,0,none⟩ = some (.int .i64 (z : Int)) /\ w'.cell? ⟨gd,1,none⟩ = some (.int .i64 k) /\ w'.cell? ⟨gd,2,none⟩ = some (.int .i64 f) /\ w'.cell? ⟨gd,3,none⟩ = some (.int .i64 a) /\ w'.cell? ⟨gd,4,none⟩ = some (.int .i64 b) /\ w'.cell? ⟨y,6,none⟩ = some (.pointer (some ⟨bs,0,none⟩))) (first | exact HHD.out _ _ hz | exact HHD.out _ _ h10) (first | (go_at_call 16; refine (HN1.out _ _ (HJT.out _ _ hz)).mono ?_; rintro e w9 ⟨br,jv,rfl,hx9,h10'⟩; have hj10:=TD (Y:=⟨y,bs,tb,A,.slice vo wl.length vcap,0,undef⟩) (m:=O0) (F:=opF D 5) h10'; have h10:=lh 15 (lh 15 (HJB2.out _ _ hj10) rfl) rfl))
              have hx10:=hxz.trans hx9
              clear hz hxz h9 hx8 hx9 h10'
              obtain ⟨d0,d1,d2,d3,d4,d6⟩:=HHD.out _ _ h10
              obtain ⟨m1,m2⟩:=HIM.out _ _ h10
              have hsub : (k = 2 /\ i.b = f) \/ (k = 2 /\ ¬i.b = f) \/ ¬k = 2:=by omega
              rcases hsub with ⟨h2,h3⟩ | ⟨h2,h3⟩ | h2
              · skip
                first
                | (have t2 : (k == 2) = true:=beq_iff_eq.2 h2
                   have t3 : (i.b == f) = true:=beq_iff_eq.2 h3
                   have H2:=zh h2
                   have H3:=zh h3
                   clear h2 h3)
                | (have t2 : (k == 2) = true:=beq_iff_eq.2 h2
                   have t3 : (i.b == f) = false:=beq_eq_false_iff_ne.2 h3
                   have H2:=zh h2
                   have H3:=zh h3
                   clear h2 h3)
                | (have t2 : (k == 2) = false:=beq_eq_false_iff_ne.2 h2
                   have H2:=zh h2
                   clear h2)
                go_upto_region 17 with (fail)
                go_quiet (fail)
                have h2:=H2.out
                try have h3:=H3.out
                have hEE:=HEE.out
                rw [if_pos ⟨h2,h3⟩] at hEE
                have HES:=zh hEE
                clear hEE h2
                try clear h3
                go_wp2_with fail
                refine (HBR.out _ _ (lm _ h10)).mono ?_
                rintro e w11 ⟨rfl,hx11,h11⟩
                have fy:=AI h11
                have e7:=zC h11
                have e8:=CA h11
                have e9:=CD h11
                have e10:=Ek h11
                have e11:=Db h11
                have h12:=Dy (lC (z : Int)) h11
                dsimp only at fy e7 e8 e9 e10 e11
                go_wp2_with fail
                go_ret2
                rw [HES.out]
                exact .inr ⟨rfl,⟨y,bs,tb,A,.slice vo wl.length vcap,0,undef⟩,rfl,(((((((hx10.drewN _).trans hx11).setCell _ _).setCell _ _).setCell _ _).setCell _ _).setCell _ _),zu h12⟩
              · skip
                first
                | (have t2 : (k == 2) = true:=beq_iff_eq.2 h2
                   have t3 : (i.b == f) = true:=beq_iff_eq.2 h3
                   have H2:=zh h2
                   have H3:=zh h3
                   clear h2 h3)
                | (have t2 : (k == 2) = true:=beq_iff_eq.2 h2
                   have t3 : (i.b == f) = false:=beq_eq_false_iff_ne.2 h3
                   have H2:=zh h2
                   have H3:=zh h3
                   clear h2 h3)
                | (have t2 : (k == 2) = false:=beq_eq_false_iff_ne.2 h2
                   have H2:=zh h2
                   clear h2)
                go_upto_region 17 with (fail)
                go_quiet (fail)
                have h2:=H2.out
                try have h3:=H3.out
                have hEE:=HEE.out
                rw [if_neg (fun h=>h3 h.2)] at hEE
                have HES:=zh hEE
                clear hEE h2
                try clear h3
                have hj11:=lm nq (HJB2.out _ _ hj10)
                have cj:=EN hj11
                have fj:=AI hj11 13
                have h12:=FI hj11
                dsimp only at cj fj
                go_wp2_with fail
                go_ret2
                rw [HES.out]
                exact .inr ⟨rfl,_,rfl,(hx10.drewN _).setCell _ _,zu h12⟩
              · skip
                first
                | (have t2 : (k == 2) = true:=beq_iff_eq.2 h2
                   have t3 : (i.b == f) = true:=beq_iff_eq.2 h3
                   have H2:=zh h2
                   have H3:=zh h3
                   clear h2 h3)
                | (have t2 : (k == 2) = true:=beq_iff_eq.2 h2
                   have t3 : (i.b == f) = false:=beq_eq_false_iff_ne.2 h3
                   have H2:=zh h2
                   have H3:=zh h3
                   clear h2 h3)
                | (have t2 : (k == 2) = false:=beq_eq_false_iff_ne.2 h2
                   have H2:=zh h2
                   clear h2)
                go_upto_region 17 with (fail)
                go_quiet (fail)
                have h2:=H2.out
                try have h3:=H3.out
                have hEE:=HEE.out
                rw [if_neg (fun h=>h2 h.1)] at hEE
                have HES:=zh hEE
                clear hEE h2
                try clear h3
                have hj11:=lm nq (HJB2.out _ _ hj10)
                have cj:=EN hj11
                have fj:=AI hj11 13
                have h12:=FI hj11
                dsimp only at cj fj
                go_wp2_with fail
                go_ret2
                rw [HES.out]
                exact .inr ⟨rfl,_,rfl,(hx10.drewN _).setCell _ _,zu h12⟩
        · have hEE:=HEE.out
          rw [if_pos hwz] at hEE
          have hwp : 0 < wc:=by omega
          have HES:=zh hEE
          have HWZ:=zh hwz
          clear hwz hEE HEE HRT
          go_wp2_with fail
          go_ret2
          rw [HES.out]
          exact .inl ⟨HWZ.out,rfl,hx8,At (rshL bs A (opF D 5)++(rnT y bs A (opF D 5) D 5 (.pointer (some ⟨tb,0,none⟩)) ⟨r,k,f,a,b⟩ (.slice vo wl.length vcap)++[row 3 1 (.slice vo wl.length vcap) wl.length (ln wl),pts gd (.cells #[.int .i64 r,.int .i64 k,.int .i64 f,.int .i64 a,.int .i64 b] 24 (0,0)),lo tb top])) (by simpa only [zp,List.cons_append,List.nil_append] using h8)⟩
      · have hdp : 0 < dc:=by omega
        have hEE:=HE.out
        rw [if_pos hdc] at hEE
        have HES:=zh hEE
        have HDC:=zh hdc
        clear hEE hdc HE
        go_wp2_with fail
        go_ret2
        rw [HES.out]
        exact .inl ⟨HDC.out,rfl,hx3,At (rshL bs A (opF D 5)++(rnT y bs A (opF D 5) D 5 (.pointer (some ⟨tb,0,none⟩)) ⟨0,0,0,0,0⟩ (.slice none 0 0)++[pts gd (.cells #[.int .i64 r,.int .i64 k,.int .i64 f,.int .i64 a,.int .i64 b] 24 (0,0)),lo tb top])) (by simpa only [zp,List.cons_append,List.nil_append] using h3)⟩
def srcM (b : List ByteArray) (i : Nat) : ByteArray:=
 if i < b.length /\ 16 <= (b.getD i ByteArray.empty).size then (b.getD i ByteArray.empty).extract 0 (16 * min ((b.getD i ByteArray.empty).size / 16) 200) else yW
theorem K3 (b : List ByteArray) (i : Nat) : ofOk (srcM b i) = true:=by
 unfold srcM
 simp only [ofOk,decide_eq_true_eq]
 split
 ·rename_i h
  rw [ByteArray.size_extract]
  omega
 ·rw [show yW.size = 16 from rfl]
  omega
theorem Tm (b : List ByteArray) (i : Nat) : 16 <= (srcM b i).size /\ (srcM b i).size <= 3200:=by
 have h:=K3 b i
 simp only [ofOk,decide_eq_true_eq] at h
 omega
def srcD (b : List ByteArray) (i : Nat) : DevM:=Ka (srcM b i)
def AH (B : Nat -> Nat) (q k : Nat) : Value:=if k < q then .pointer (some ⟨B k,0,none⟩) else .pointer none
def lQ (B : Nat -> Nat) (q : Nat) : Array Value:=#[AH B q 0,AH B q 1,AH B q 2,AH B q 3,AH B q 4]
theorem G4 (B : Nat -> Nat) (q : Nat) {k : Nat} (hk : k < 5) : (lQ B q)[k]? = some (AH B q k):=by
 match k,hk with
 | 0,_=>rfl
 | 1,_=>rfl
 | 2,_=>rfl
 | 3,_=>rfl
 | 4,_=>rfl
theorem LW (B : Nat -> Nat) {q : Nat} (b : Nat) (hq : q < 5) : (lQ B q).setIfInBounds q (.pointer (some ⟨b,0,none⟩)) = lQ (stN B q b) (q + 1):=by
 match q,hq with
 | 0,_=>simp [lQ,AH,stN]
 | 1,_=>simp [lQ,AH,stN]
 | 2,_=>simp [lQ,AH,stN]
 | 3,_=>simp [lQ,AH,stN]
 | 4,_=>simp [lQ,AH,stN]
theorem TZ {B : Nat -> Nat} {D : Nat -> DevM} {k b : Nat} : ∀{q : Nat},q <= k -> yc (stN B k b) D q = yc B D q:=by
 intro q
 induction q with
 | zero=>intro _; rfl
 | succ q ih=>
  intro h
  rw [yc,yc,ih (by omega),stN,if_neg (by omega)]
theorem Sf {B : Nat -> Nat} {D : Nat -> DevM} {q c : Nat} : yc (stN B q c) D (q + 1) = lo c (D q)::yc B D q:=by
 rw [yc,TZ (Nat.le_refl q)]
 simp [stN]
def dvG (l m r2 r3 : Nat) (x y : Array Value) (X : List SL.HP) : List SL.HP:=
 pts l (.cells x 54 (0,0))::pts m (.cells y 56 (0,0))::pts r2 (.cells (lQ (fun _=>0) 0) 54 (0,0))::pts r3 (.cells (lQ (fun _=>0) 0) 56 (0,0))::X
def dvL (l m r2 r3 : Nat) (B B' : Nat -> Nat) (b : List ByteArray) (q : Nat) (R : List SL.HP) : List SL.HP:=dvG l m r2 r3 (lQ B q) (lQ B' q) (devL B (srcD b) q++(yc B' (srcD b) q++R))
theorem Vq (l m r2 r3 : Nat) (B B' : Nat -> Nat) (b : List ByteArray) (q : Nat) (R : List SL.HP) : dvL l m r2 r3 B B' b q R = dvL l m r2 r3 B B' b q []++R:=by simp [dvL,dvG,zp]
theorem Vr {l m r2 r3 : Nat} {B B' : Nat -> Nat} {b : List ByteArray} {q b1 b2 : Nat} {R : List SL.HP} {w : World}
  (H : own w (lo b2 (srcD b q)::ll b1 (srcD b q)::dvG l m r2 r3 (lQ (stN B q b1) (q + 1)) (lQ (stN B' q b2) (q + 1)) (devL B (srcD b) q++(yc B' (srcD b) q++R)))) : own w (dvL l m r2 r3 (stN B q b1) (stN B' q b2) b (q + 1) R):=by
 unfold dvL
 rw [MC,Sf]
 have h1:=lu (ll b1 (srcD b q)::dvG l m r2 r3 (lQ (stN B q b1) (q + 1)) (lQ (stN B' q b2) (q + 1)) (devL B (srcD b) q)) (R:=yc B' (srcD b) q++R) (a:=lo b2 (srcD b q)) (by simpa [dvG] using H)
 exact lu (dvG l m r2 r3 (lQ (stN B q b1) (q + 1)) (lQ (stN B' q b2) (q + 1)) []) (R:=devL B (srcD b) q++(lo b2 (srcD b q)::(yc B' (srcD b) q++R))) (a:=ll b1 (srcD b q)) (by simpa [dvG] using h1)
theorem OL (B : Nat -> Nat) {q : Nat} (b : Nat) (hq : q < 5) : (lQ (stN B q b) (q + 1))[q]? = some (.pointer (some ⟨b,0,none⟩)):=by
 rw [G4 _ _ hq,AH,if_pos (by omega)]
 simp [stN]
theorem IG {fn : Func} {p q u : Tmp} {tp tq : TypeId} (h : fn.results = #[.cell p tp,.cell q tq,.tmp u]) (tmps : Array Value) (P : Program) (w : World) :
  (results fn tmps).run P w = ((asAddr (tmps.getD p undef)).run P w).andThen fun a w1=>((loadVar tp a).run P w1).andThen fun v w2=>((asAddr (tmps.getD q undef)).run P w2).andThen fun b w3=>((loadVar tq b).run P w3).andThen fun v' w4=>.ok (.tuple #[v,v',tmps.getD u undef]) w4:=by
 simp only [results,h]
 simp [Sem.run_bind,Result.andThen]
theorem NE {fn : Func} {t1 t2 u : Tmp} (h : fn.results = #[.cell t1 54,.cell t2 56,.tmp u]) (tmps : Array Value) (w : World) (g1 g2 : Nat) (a0 a1 a2 a3 a4 b0 b1 b2 b3 b4 : Nat)
  (hg1 : tmps.getD t1 undef = .pointer (some ⟨g1,0,none⟩)) (hg2 : tmps.getD t2 undef = .pointer (some ⟨g2,0,none⟩))
  (u0 : w.cell? ⟨g1,0,none⟩ = some (.pointer (some ⟨a0,0,none⟩))) (u1 : w.cell? ⟨g1,1,none⟩ = some (.pointer (some ⟨a1,0,none⟩))) (u2 : w.cell? ⟨g1,2,none⟩ = some (.pointer (some ⟨a2,0,none⟩))) (u3 : w.cell? ⟨g1,3,none⟩ = some (.pointer (some ⟨a3,0,none⟩))) (u4 : w.cell? ⟨g1,4,none⟩ = some (.pointer (some ⟨a4,0,none⟩)))
  (v0 : w.cell? ⟨g2,0,none⟩ = some (.pointer (some ⟨b0,0,none⟩))) (v1 : w.cell? ⟨g2,1,none⟩ = some (.pointer (some ⟨b1,0,none⟩))) (v2 : w.cell? ⟨g2,2,none⟩ = some (.pointer (some ⟨b2,0,none⟩))) (v3 : w.cell? ⟨g2,3,none⟩ = some (.pointer (some ⟨b3,0,none⟩))) (v4 : w.cell? ⟨g2,4,none⟩ = some (.pointer (some ⟨b4,0,none⟩))) :
  (results fn tmps).run Tryz.prog w = .ok (.tuple #[.agg #[.pointer (some ⟨a0,0,none⟩),.pointer (some ⟨a1,0,none⟩),.pointer (some ⟨a2,0,none⟩),.pointer (some ⟨a3,0,none⟩),.pointer (some ⟨a4,0,none⟩)],.agg #[.pointer (some ⟨b0,0,none⟩),.pointer (some ⟨b1,0,none⟩),.pointer (some ⟨b2,0,none⟩),.pointer (some ⟨b3,0,none⟩),.pointer (some ⟨b4,0,none⟩)],tmps.getD u undef]) w:=by
 rw [IG h,hg1,hg2]
 go_simp
def Wr (bd : Nat) (s : ByteArray) (n : Nat) (L : List SL.HP) (w0 : World) (g cap : Nat) (va vw : Value) (i : Value) (wr : World) : Prop:=
 ∃z : Nat,z <= n /\ i = .int .i64 z /\ Ext w0 wr /\ own wr (pts bd (.cells #[.slice (some ⟨g,0,none⟩) n cap,va,vw,.int .i64 (-1),.int .i64 0] 162 (0,0))::row 9 1 (.slice (some ⟨g,0,none⟩) n cap) n (strCells (AY s n z))::row 3 1 va 0 []::row 9 1 vw 0 []::L)
theorem IZ (b : List ByteArray) (v : Value) (R : List SL.HP) (hv : ∀w' L,own w' (L++R) -> zx w' v b) (hsz : ∀i,i < b.length -> (b.getD i ByteArray.empty).size <= 3300) (w : World) (H : own w R) :
  Calls Tryz.prog 26 #[v] w fun e w'=>∃B B',e = .returned (.tuple #[.agg (lQ B 5),.agg (lQ B' 5),.bool true]) /\ Ext w w' /\ own w' (devL B (srcD b) 5++(yc B' (srcD b) 5++R)):=by
 obtain ⟨ao,lb,off,cap,rfl,hlc,hcap,hao,-⟩:=(hv w [] H).form
 have HAT:=zh (fun (w' : World) (L : List SL.HP) (h : own w' (L++R)) (i : Nat) (hi : i < b.length)=>show w'.cell? ⟨lb,off + i,none⟩ = some (.string (b.getD i ByteArray.empty)) from (by
  obtain ⟨ao',b',o',c',he,-,-,ha',hc⟩:=(hv w' L h).form
  simp only [Value.slice.injEq,true_and,and_true] at he
  obtain ⟨rfl,rfl⟩:=he
  have h1:=hao (by omega)
  rw [ha' (by omega)] at h1
  simp only [Option.some.injEq,Addr.mk.injEq,and_true] at h1
  obtain ⟨rfl,rfl⟩:=h1
  exact hc i hi))
 have HAO:=zh hao
 have HSZ:=zh hsz
 clear hv hao hsz
 have es : ∀(w : World) (o : Obj),(w.alloc o).heap.size = w.heap.size + 1:=fun w o=>by simp
 have h4:=li (li (li (li H (.cells #[.pointer none,.pointer none,.pointer none,.pointer none,.pointer none] 54)) (.cells #[.pointer none,.pointer none,.pointer none,.pointer none,.pointer none] 56)) (.cells #[.pointer none,.pointer none,.pointer none,.pointer none,.pointer none] 54)) (.cells #[.pointer none,.pointer none,.pointer none,.pointer none,.pointer none] 56)
 have hx4:=((((Ext.refl w).alloc (.cells #[.pointer none,.pointer none,.pointer none,.pointer none,.pointer none] 54)).alloc (.cells #[.pointer none,.pointer none,.pointer none,.pointer none,.pointer none] 56)).alloc (.cells #[.pointer none,.pointer none,.pointer none,.pointer none,.pointer none] 54)).alloc (.cells #[.pointer none,.pointer none,.pointer none,.pointer none,.pointer none] 56)
 simp only [es] at h4
 clear es
 go_enter Tryz.func26,Tryz.ntmps26
 go_wp2_with fail
 generalize (((w.alloc (.cells #[.pointer none,.pointer none,.pointer none,.pointer none,.pointer none] 54)).alloc (.cells #[.pointer none,.pointer none,.pointer none,.pointer none,.pointer none] 56)).alloc (.cells #[.pointer none,.pointer none,.pointer none,.pointer none,.pointer none] 54)).alloc (.cells #[.pointer none,.pointer none,.pointer none,.pointer none,.pointer none] 56) = w4 at *
 generalize w.heap.size + 1 + 1 + 1 = m at *
 generalize w.heap.size + 1 + 1 = l at *
 generalize w.heap.size + 1 = r3 at *
 generalize w.heap.size = r2 at *
 have h5 : own w4 (dvL l m r2 r3 (fun _=>0) (fun _=>0) b 0 R):=lt 2 (lt 1 (lt 3 h4 rfl) rfl) rfl
 go_loopw [7] (fun kv wr=>∃(q : Nat) (B B' : Nat -> Nat),q <= 5 /\ kv = .int .i64 q /\ Ext w wr /\ own wr (dvL l m r2 r3 B B' b q R)) (fun kv _=>5 - (intOf kv).toNat)
 case atStart=>exact ⟨0,_,_,by omega,rfl,hx4,h5⟩
 case round=>
  clear h4 h5 hx4
  obtain ⟨q,B,B',hq,rfl,hxr,hown⟩:=hrel
  by_cases hlt : q < 5
  ·have j1 : (0 : Int) <= (q : Int):=by omega
   have j2 : (q : Int) < 5:=by omega
   go_wp2_with fail
   refine (Kn _ _ hown).mono ?_
   rintro e w5 ⟨rfl,hx5,h5⟩
   have hx6:=hxr.trans hx5
   clear hx5 hxr hown
   have hs : srcM b q = if q < b.length /\ 16 <= (b.getD q ByteArray.empty).size then (b.getD q ByteArray.empty).extract 0 (16 * min ((b.getD q ByteArray.empty).size / 16) 200) else yW:=rfl
   have HS:=zh hs
   clear hs
   by_cases hqb : q < b.length
   case' neg=>
    have k1 : ¬((q : Int) < (b.length : Int)):=by omega
    have e1 : yW = srcM b q:=by rw [HS.out,if_neg (fun h=>hqb h.1)]
   case' pos=>
    obtain rfl:=HAO.out (by omega)
    have hc:=HAT.out _ _ (by rw [<- Vq]; exact h5) q hqb
    have hz:=HSZ.out q hqb
    have k1 : (q : Int) < (b.length : Int):=by omega
    generalize b.getD q ByteArray.empty = s at *
    by_cases hs16 : 16 <= s.size
    case' pos=>
     have k2 : (16 : Int) <= (s.size : Int):=by omega
     have e1 : s.extract 0 (16 * min ((s.size : Int) / 16) 200).toNat = srcM b q:=by
      rw [HS.out,if_pos ⟨hqb,hs16⟩]
      congr 1
      omega
    case' neg=>
     have k2 : ¬((16 : Int) <= (s.size : Int)):=by omega
     have e1 : yW = srcM b q:=by rw [HS.out,if_neg (fun h=>hs16 h.2)]
   all_goals
    go_wp2_with fail
    have hz1:=Tm b q
    clear HS e1
    refine (VN (srcM b q) (by omega) _ w5 h5).mono ?_
    rintro e w6 ⟨-,hyes⟩
    obtain ⟨bd1,rfl,hx7',h7⟩:=hyes (K3 b q)
    have hx7:=hx6.trans hx7'
    have cl:=(ld 1 h7 rfl).1 q
    have fl:=(ld 1 h7 rfl).2 q
    rw [G4 B q hlt] at cl
    have h8:=lg (i:=q) (v:=.pointer (some ⟨bd1,0,none⟩)) 1 h7 rfl
    have hx8:=hx7.setCell (⟨l,q,none⟩ : Addr) (.pointer (some ⟨bd1,0,none⟩))
    clear hyes h5 hx6 h7 hx7 hx7'
    go_upto_region 14 with (fail)
    rw [LW B bd1 hlt] at h8
    have h9 : own _ (ll bd1 (srcD b q)::dvG l m r2 r3 (lQ (stN B q bd1) (q + 1)) (lQ B' q) (devL B (srcD b) q++(yc B' (srcD b) q++R))):=h8
    generalize w6.setCell ⟨l,q,none⟩ (.pointer (some ⟨bd1,0,none⟩)) = w7 at *
    clear h8 cl fl
    obtain ⟨n,hn,hn1,hn2⟩ : ∃n : Nat,(srcM b q).size / 16 = n /\ 1 <= n /\ n <= 200:=⟨_,rfl,by omega,by omega⟩
    have e2 : ((srcM b q).size : Int) / 16 = (n : Int):=by omega
    go_wp2_with fail
    refine (TW n _ w7 hn2 h9).mono ?_
    rintro e w8 ⟨bd2,rfl,hx9',h10⟩
    have hx9:=hx8.trans hx9'
    have cm:=(ld 3 h10 rfl).1 q
    have fm:=(ld 3 h10 rfl).2 q
    rw [G4 B' q hlt] at cm
    have h11:=lg (i:=q) (v:=.pointer (some ⟨bd2,0,none⟩)) 3 h10 rfl
    have hx11:=hx9.setCell (⟨m,q,none⟩ : Addr) (.pointer (some ⟨bd2,0,none⟩))
    rw [LW B' bd2 hlt] at h11
    clear h9 hx8 hx9' hx9 h10
    go_upto_region 15 with (fail)
    have h12 : own _ (lo bd2 (ow n)::ll bd1 (srcD b q)::dvG l m r2 r3 (lQ (stN B q bd1) (q + 1)) (lQ (stN B' q bd2) (q + 1)) (devL B (srcD b) q++(yc B' (srcD b) q++R))):=h11
    generalize w8.setCell ⟨m,q,none⟩ (.pointer (some ⟨bd2,0,none⟩)) = w9 at *
    obtain ⟨vf,va,vw,h13⟩:=As h12
    obtain ⟨af,gf,cf,rfl,o1,o2,o3,-,-,-,-⟩:=lk 1 h13 rfl
    simp only [ow,List.length_replicate] at h13 o1 o3
    obtain rfl:=o3 (by omega)
    have h14 : own w9 (pts bd2 (.cells #[.slice (some ⟨gf,0,none⟩) n cf,va,vw,.int .i64 (-1),.int .i64 0] 162 (0,0))::row 9 1 (.slice (some ⟨gf,0,none⟩) n cf) n (strCells (AY (srcM b q) n 0))::row 3 1 va 0 []::row 9 1 vw 0 []::(ll bd1 (srcD b q)::dvG l m r2 r3 (lQ (stN B q bd1) (q + 1)) (lQ (stN B' q bd2) (q + 1)) (devL B (srcD b) q++(yc B' (srcD b) q++R)))):=by
     rw [JX]
     exact h13
    clear h11 h12 h13 cm fm o3
    go_wp2_with fail
    go_loopw [12] (Wr bd2 (srcM b q) n (ll bd1 (srcD b q)::dvG l m r2 r3 (lQ (stN B q bd1) (q + 1)) (lQ (stN B' q bd2) (q + 1)) (devL B (srcD b) q++(yc B' (srcD b) q++R))) w gf cf va vw) (fun i _=>n - (intOf i).toNat)
    case atStart=>exact ⟨0,Nat.zero_le _,rfl,hx11,h14⟩
    case round=>
     clear h14 hx11
     obtain ⟨z,hz,rfl,hxr,hown⟩:=hrel
     have c0:=(ld 0 hown rfl).1 0
     have cm:=(ld 6 hown rfl).1 q
     rw [OL B' bd2 hlt] at cm
     by_cases hlz : z < n
     ·obtain ⟨k2,k3⟩:=lJ 1 hown rfl
      have c2:=k2 z _ (AE (by rw [C2]; exact hlz))
      clear k2
      have w1 : IntKind.i64.wrap (16 * (z : Int)) = 16 * (z : Int):=IntWalk.i64_in _ (by omega)
      have w3 : IntKind.i64.wrap (16 * (z : Int) + 16) = 16 * (z : Int) + 16:=IntWalk.i64_in _ (by omega)
      have b1 : (0 : Int) <= 16 * (z : Int):=by omega
      have b2 : 16 * (z : Int) <= 16 * (z : Int) + 16:=by omega
      have b3 : 16 * (z : Int) + 16 <= ((srcM b q).size : Int):=by omega
      have i1 : (0 : Int) <= (z : Int):=by omega
      have i2 : (z : Int) < (n : Int):=by omega
      have hsl : ∀wx : World,(Instr.slice 9 (.string (srcM b q)) (some (.int .i64 (16 * (z : Int)))) (some (.int .i64 (16 * (z : Int) + 16))) none).run Tryz.prog wx = .ok (.string (ol (srcM b q) z)) wx:=fun wx=>by
       have:=run_slice_string (P:=Tryz.prog) wx 9 (srcM b q) .i64 .i64 (16 * (z : Int)) (16 * (z : Int) + 16) Tryz.underlying9 b1 b2 b3
       rw [this,ol,show (16 * (z : Int)).toNat = z * 16 from by omega,show (16 * (z : Int) + 16).toNat = (z + 1) * 16 from by omega]
      go_upto_region 18 with (fail)
      go_still_tail 15,(by kernel_rfl)
      change wpList _ _ _ _ _ wr.drew
      go_wp2_with fail
      go_roundw
      case rel=>
       have h5:=Au 1 z (.string (ol (srcM b q) z)) (lj hown) rfl (by omega)
       refine ⟨z + 1,by omega,by go_num,hxr.drew.setCell _ _,?_⟩
       rw [<- LR,CX]
       exact h5
      case measure=>simp [intOf]; omega
     ·obtain rfl : n = z:=by omega
      have h6 : own wr (lo bd2 (srcD b q)::ll bd1 (srcD b q)::dvG l m r2 r3 (lQ (stN B q bd1) (q + 1)) (lQ (stN B' q bd2) (q + 1)) (devL B (srcD b) q++(yc B' (srcD b) q++R))):=(by
       have e3 : (srcD b q).fl = AY (srcM b q) n n:=by unfold srcD Ka; rw [hn]
       refine yK (m:=srcD b q) (vf:=.slice (some ⟨gf,0,none⟩) n cf) (va:=va) (vw:=vw) ?_
       rw [e3,C2]
       exact hown)
      clear hown
      go_wp2_with fail
      go_roundw
      case rel=>exact ⟨q + 1,stN B q bd1,stN B' q bd2,by omega,by go_num,hxr,Vr h6⟩
      case measure=>simp [intOf]; omega
  ·obtain rfl : q = 5:=by omega
   obtain ⟨c1,f1⟩:=ld 0 hown rfl
   obtain ⟨c2,f2⟩:=ld 1 hown rfl
   obtain ⟨c3,f3⟩:=ld 2 hown rfl
   obtain ⟨c4,f4⟩:=ld 3 hown rfl
   go_upto_region 19 with (fail)
   have x0 : wr.cell? ⟨l,0,none⟩ = some (.pointer (some ⟨B 0,0,none⟩)):=c1 0
   have x1 : wr.cell? ⟨l,1,none⟩ = some (.pointer (some ⟨B 1,0,none⟩)):=c1 1
   have x2 : wr.cell? ⟨l,2,none⟩ = some (.pointer (some ⟨B 2,0,none⟩)):=c1 2
   have x3 : wr.cell? ⟨l,3,none⟩ = some (.pointer (some ⟨B 3,0,none⟩)):=c1 3
   have x4 : wr.cell? ⟨l,4,none⟩ = some (.pointer (some ⟨B 4,0,none⟩)):=c1 4
   have y0 : wr.cell? ⟨m,0,none⟩ = some (.pointer (some ⟨B' 0,0,none⟩)):=c2 0
   have y1 : wr.cell? ⟨m,1,none⟩ = some (.pointer (some ⟨B' 1,0,none⟩)):=c2 1
   have y2 : wr.cell? ⟨m,2,none⟩ = some (.pointer (some ⟨B' 2,0,none⟩)):=c2 2
   have y3 : wr.cell? ⟨m,3,none⟩ = some (.pointer (some ⟨B' 3,0,none⟩)):=c2 3
   have y4 : wr.cell? ⟨m,4,none⟩ = some (.pointer (some ⟨B' 4,0,none⟩)):=c2 4
   have u0 : wr.cell? ⟨r2,0,none⟩ = some (.pointer none):=c3 0
   have u1 : wr.cell? ⟨r2,1,none⟩ = some (.pointer none):=c3 1
   have u2 : wr.cell? ⟨r2,2,none⟩ = some (.pointer none):=c3 2
   have u3 : wr.cell? ⟨r2,3,none⟩ = some (.pointer none):=c3 3
   have u4 : wr.cell? ⟨r2,4,none⟩ = some (.pointer none):=c3 4
   have v0 : wr.cell? ⟨r3,0,none⟩ = some (.pointer none):=c4 0
   have v1 : wr.cell? ⟨r3,1,none⟩ = some (.pointer none):=c4 1
   have v2 : wr.cell? ⟨r3,2,none⟩ = some (.pointer none):=c4 2
   have v3 : wr.cell? ⟨r3,3,none⟩ = some (.pointer none):=c4 3
   have v4 : wr.cell? ⟨r3,4,none⟩ = some (.pointer none):=c4 4
   clear c1 c2 c3 c4 f1 f2
   refine wp_region_held_drew (S:=fun w'=>(w'.cell? ⟨l,0,none⟩ = some (.pointer (some ⟨B 0,0,none⟩)) /\ w'.cell? ⟨l,1,none⟩ = some (.pointer (some ⟨B 1,0,none⟩)) /\ w'.cell? ⟨l,2,none⟩ = some (.pointer (some ⟨B 2,0,none⟩)) /\ w'.cell? ⟨l,3,none⟩ = some (.pointer (some ⟨B 3,0,none⟩)) /\ w'.cell? ⟨l,4,none⟩ = some (.pointer (some ⟨B 4,0,none⟩))) /\ w'.cell? ⟨m,0,none⟩ = some (.pointer (some ⟨B' 0,0,none⟩)) /\ w'.cell? ⟨m,1,none⟩ = some (.pointer (some ⟨B' 1,0,none⟩)) /\ w'.cell? ⟨m,2,none⟩ = some (.pointer (some ⟨B' 2,0,none⟩)) /\ w'.cell? ⟨m,3,none⟩ = some (.pointer (some ⟨B' 3,0,none⟩)) /\ w'.cell? ⟨m,4,none⟩ = some (.pointer (some ⟨B' 4,0,none⟩))) (by kernel_rfl) ⟨⟨x0,x1,x2,x3,x4⟩,y0,y1,y2,y3,y4⟩ (fun hHeld=>?_)
   refine tk 0 ?_
   refine tk 1 ?_
   try simp only [Act.put,tA,tB,tC,tD,tE,tF]
   refine rd 2 rfl fun K hK=>?_
   go_simp
   have g1:=lg (i:=4) (v:=.pointer (some ⟨B 4,0,none⟩)) 2 (lg (i:=3) (v:=.pointer (some ⟨B 3,0,none⟩)) 2 (lg (i:=2) (v:=.pointer (some ⟨B 2,0,none⟩)) 2 (lg (i:=1) (v:=.pointer (some ⟨B 1,0,none⟩)) 2 (lg (i:=0) (v:=.pointer (some ⟨B 0,0,none⟩)) 2 hown rfl) rfl) rfl) rfl) rfl
   have gx:=((((hxr.setCell (⟨r2,0,none⟩ : Addr) (.pointer (some ⟨B 0,0,none⟩))).setCell (⟨r2,1,none⟩ : Addr) (.pointer (some ⟨B 1,0,none⟩))).setCell (⟨r2,2,none⟩ : Addr) (.pointer (some ⟨B 2,0,none⟩))).setCell (⟨r2,3,none⟩ : Addr) (.pointer (some ⟨B 3,0,none⟩))).setCell (⟨r2,4,none⟩ : Addr) (.pointer (some ⟨B 4,0,none⟩))
   generalize ((((wr.setCell ⟨r2,0,none⟩ (.pointer (some ⟨B 0,0,none⟩))).setCell ⟨r2,1,none⟩ (.pointer (some ⟨B 1,0,none⟩))).setCell ⟨r2,2,none⟩ (.pointer (some ⟨B 2,0,none⟩))).setCell ⟨r2,3,none⟩ (.pointer (some ⟨B 3,0,none⟩))).setCell ⟨r2,4,none⟩ (.pointer (some ⟨B 4,0,none⟩)) = w10 at *
   have g2:=lj g1
   have gx2:=gx.drew
   obtain ⟨c1,f1⟩:=ld 0 g2 rfl
   obtain ⟨c2,f2⟩:=ld 1 g2 rfl
   obtain ⟨c4,f4⟩:=ld 3 g1 rfl
   refine hK.out _ _ ⟨⟨c1 0,c1 1,c1 2,c1 3,c1 4⟩,c2 0,c2 1,c2 2,c2 3,c2 4⟩ (fun _=>?_)
   clear hK K x0 x1 x2 x3 x4 y0 y1 y2 y3 y4 u0 u1 u2 u3 u4 v0 v1 v2 v3 v4 f1 f2 f3 c1 c2 hown hxr
   try simp only [Act.put,tA,tB,tC,tD,tE,tF]
   have v0 : w10.cell? ⟨r3,0,none⟩ = some (.pointer none):=c4 0
   have v1 : w10.cell? ⟨r3,1,none⟩ = some (.pointer none):=c4 1
   have v2 : w10.cell? ⟨r3,2,none⟩ = some (.pointer none):=c4 2
   have v3 : w10.cell? ⟨r3,3,none⟩ = some (.pointer none):=c4 3
   have v4 : w10.cell? ⟨r3,4,none⟩ = some (.pointer none):=c4 4
   clear c4
   refine rd 3 rfl fun K hK=>?_
   go_simp
   have g3:=lg (i:=4) (v:=.pointer (some ⟨B' 4,0,none⟩)) 3 (lg (i:=3) (v:=.pointer (some ⟨B' 3,0,none⟩)) 3 (lg (i:=2) (v:=.pointer (some ⟨B' 2,0,none⟩)) 3 (lg (i:=1) (v:=.pointer (some ⟨B' 1,0,none⟩)) 3 (lg (i:=0) (v:=.pointer (some ⟨B' 0,0,none⟩)) 3 g1 rfl) rfl) rfl) rfl) rfl
   have gx3:=((((gx.setCell (⟨r3,0,none⟩ : Addr) (.pointer (some ⟨B' 0,0,none⟩))).setCell (⟨r3,1,none⟩ : Addr) (.pointer (some ⟨B' 1,0,none⟩))).setCell (⟨r3,2,none⟩ : Addr) (.pointer (some ⟨B' 2,0,none⟩))).setCell (⟨r3,3,none⟩ : Addr) (.pointer (some ⟨B' 3,0,none⟩))).setCell (⟨r3,4,none⟩ : Addr) (.pointer (some ⟨B' 4,0,none⟩))
   generalize ((((w10.setCell ⟨r3,0,none⟩ (.pointer (some ⟨B' 0,0,none⟩))).setCell ⟨r3,1,none⟩ (.pointer (some ⟨B' 1,0,none⟩))).setCell ⟨r3,2,none⟩ (.pointer (some ⟨B' 2,0,none⟩))).setCell ⟨r3,3,none⟩ (.pointer (some ⟨B' 3,0,none⟩))).setCell ⟨r3,4,none⟩ (.pointer (some ⟨B' 4,0,none⟩)) = w11 at *
   have g4:=lj g3
   have gx4:=gx3.drew
   obtain ⟨c1,f1⟩:=ld 0 g4 rfl
   obtain ⟨c2,f2⟩:=ld 1 g4 rfl
   refine hK.out _ _ ⟨⟨c1 0,c1 1,c1 2,c1 3,c1 4⟩,c2 0,c2 1,c2 2,c2 3,c2 4⟩ (fun _=>?_)
   clear hK K v0 v1 v2 v3 v4 f1 f2 f4 c1 c2 g1 g2 g3 gx gx2 gx3
   try simp only [Act.put,tA,tB,tC,tD,tE,tF]
   refine tk 4 ?_
   try simp only [Act.put,tA,tB,tC,tD,tE,tF]
   refine wpAnyH_done (by kernel_rfl) ?_ _
   have g5 : own w11.drew (pts l (.cells (lQ B 5) 54 (0,0))::pts m (.cells (lQ B' 5) 56 (0,0))::pts r2 (.cells (lQ B 5) 54 (0,0))::pts r3 (.cells (lQ B' 5) 56 (0,0))::(devL B (srcD b) 5++(yc B' (srcD b) 5++R))):=g4
   clear g4
   have c3:=(ld 2 g5 rfl).1
   have c4:=(ld 3 g5 rfl).1
   have u0 : w11.drew.cell? ⟨r2,0,none⟩ = some (.pointer (some ⟨B 0,0,none⟩)):=c3 0
   have u1 : w11.drew.cell? ⟨r2,1,none⟩ = some (.pointer (some ⟨B 1,0,none⟩)):=c3 1
   have u2 : w11.drew.cell? ⟨r2,2,none⟩ = some (.pointer (some ⟨B 2,0,none⟩)):=c3 2
   have u3 : w11.drew.cell? ⟨r2,3,none⟩ = some (.pointer (some ⟨B 3,0,none⟩)):=c3 3
   have u4 : w11.drew.cell? ⟨r2,4,none⟩ = some (.pointer (some ⟨B 4,0,none⟩)):=c3 4
   have v0 : w11.drew.cell? ⟨r3,0,none⟩ = some (.pointer (some ⟨B' 0,0,none⟩)):=c4 0
   have v1 : w11.drew.cell? ⟨r3,1,none⟩ = some (.pointer (some ⟨B' 1,0,none⟩)):=c4 1
   have v2 : w11.drew.cell? ⟨r3,2,none⟩ = some (.pointer (some ⟨B' 2,0,none⟩)):=c4 2
   have v3 : w11.drew.cell? ⟨r3,3,none⟩ = some (.pointer (some ⟨B' 3,0,none⟩)):=c4 3
   have v4 : w11.drew.cell? ⟨r3,4,none⟩ = some (.pointer (some ⟨B' 4,0,none⟩)):=c4 4
   clear c3 c4
   generalize w11.drew = w12 at *
   go_wp2_with fail
   refine bodyPost_ret (NE rfl _ _ r2 r3 _ _ _ _ _ _ _ _ _ _ rfl rfl u0 u1 u2 u3 u4 v0 v1 v2 v3 v4) rfl ?_
   exact ⟨B,B',rfl,gx4,lh 0 (lh 0 (lh 0 (lh 0 g5 rfl) rfl) rfl) rfl⟩
end Go.Proofs.YtbpblokfiajpjabGreatDoor
namespace Go.Proofs.YtbpblokfiajpjabGreatDoor
open Go.RowKit Go.SL Go.Crc
structure lH (N : Nat) (m : lf) : Prop where
 ok : YOk N m
 str : ∀j,m.job = some j -> j.st < 4 -> j.kind = 2 -> j.file = -1 \/ j.file∈m.list.tail
theorem YOk.mono {N M : Nat} {m : lf} (h : YOk N m) (hNM : N <= M) : YOk M m:=
 ⟨h.sh.mono hNM,fun k hk e=>by obtain ⟨a,b,c⟩:=h.dv k hk e; exact ⟨a,by omega,by omega⟩,by obtain ⟨a,b,c,d⟩:=h.tp; exact ⟨a,by omega,by omega,d⟩,h.walk,h.root,h.jok,h.job⟩
theorem lH.mono {N M : Nat} {m : lf} (h : lH N m) (hNM : N <= M) : lH M m:=⟨h.ok.mono hNM,h.str⟩
theorem Ei {N : Nat} {m : lf} (h : YOk N m) (hN : N < 900000) (d : lK) : (lw m d).2.top.Ok /\ (lw m d).2.top.writes <= (N + 1 : Nat) /\ (lw m d).2.top.pend.length <= N + 1 /\ 1 <= (lw m d).2.top.fl.length:=by
 obtain ⟨a,b,c,e⟩:=h.tp
 have h1:=DevM.write_ok a 0 d.s (by omega) (by omega)
 obtain ⟨h2,h3,h4⟩:=yu m.top 0 d.s
 unfold lw
 split
 ·exact ⟨h1,by dsimp only; omega,by dsimp only; omega,by dsimp only; omega⟩
 ·refine ⟨DevM.flush_ok h1,?_,?_,?_⟩
  ·simp only [DevM.flush]; omega
  ·simp [DevM.flush]
  ·simp only [DevM.flush,oB]; omega
theorem lH.jobs {N : Nat} {m : lf} (h : lH N m) {j j' : JobM} (hj : m.job = some j) (hok : j'.Ok) (hs : y7 j j') (hst : j'.st < 4 -> j.st < 4) : lH N { m with job:=some j' }:=by
 refine ⟨⟨h.ok.sh,h.ok.dv,h.ok.tp,h.ok.walk,h.ok.root,fun k hk=>by cases hk; exact hok,fun k hk h4=>?_⟩,fun k hk h4 h2=>?_⟩
 ·cases hk
  obtain ⟨h1,h2,h3,h5,h6⟩:=h.ok.job j hj (hst h4)
  exact ⟨h1.same hs,hs.1.trans h2,hs.2.1.trans h3,hs.2.2.1.trans h5,hs.2.2.2.1.trans h6⟩
 ·cases hk
  have:=h.str j hj (hst h4) (by rw [<- hs.2.1]; exact h2)
  rw [hs.2.2.1]
  exact this
theorem Mz {N : Nat} {m : lf} (h : lH N m) (on : Bool) : lH N (zH m on).2:=by
 unfold zH
 cases hj : m.job with
 | none=>exact h
 | some j=>
  dsimp only
  split
  ·exact h
  ·exact h.jobs hj (Lc (h.ok.jok j hj) on) (IM j on) (fun _=>by omega)
theorem OK {N : Nat} {m : lf} (h : lH N m) (n : Int) : lH N (Ag m n).2:=by
 unfold Ag
 split
 ·exact h
 ·cases hj : m.job with
  | none=>exact h
  | some j=>
   dsimp only
   split
   ·exact h
   ·exact h.jobs hj (Te (h.ok.jok j hj) n) (OT j n) (fun _=>by omega)
theorem lH.shelf {N M : Nat} {m : lf} (h : lH N m) (hNM : N <= M) {F' : ShM} (hs : oH m.F F') (hW : ShW M F') : lH M { m with F:=F' }:=by
 have hM:=h.mono hNM
 refine ⟨⟨hW,fun k hk e=>?_,hM.ok.tp,?_,?_,h.ok.jok,fun j hj h4=>?_⟩,h.str⟩
 ·exact hM.ok.dv k hk ((hs.none hk).1 e)
 ·exact LZ hs h.ok.root h.ok.walk
 ·exact hs.file.2 h.ok.root
 ·obtain ⟨h1,h2⟩:=h.ok.job j hj h4
  exact ⟨h1.files fun x hx=>hs.file.2 hx,h2⟩
theorem TJ (n : Nat) : ∀(j : JobM) (c : Int),(ob j c n).st < 4 -> j.st < 4:=by
 induction n with
 | zero=>intro j c h; exact h
 | succ n ih=>
  intro j c h
  rw [ob] at h
  have h1:=ih _ _ h
  unfold zy at h1
  split at h1
  ·rename_i h2; exact h2.1
  ·exact h1
theorem GU {N : Nat} {m : lf} (h : lH N m) (a b : Int) : lH N (yz m a b):=by
 unfold yz
 cases hj : m.job with
 | none=>exact h
 | some j=>
  dsimp only
  split
  ·exact h
  ·exact h.jobs hj (G1 _ (h.ok.jok j hj) _) (Ca _ j _) (TJ _ j _)
theorem Im {N : Nat} {m : lf} (h : lH N m) (hN : N + 1000 < 900000) (fr : Int) (s : ByteArray) (hs : s.size <= 3200) : lH (N + 1000) (zF m fr s).2:=by
 have hst:=Fd h.ok.sh (EZ h.ok) (by omega) fr s hs
 unfold zF
 split
 ·exact h.mono (by omega)
 ·exact GU (h.shelf (by omega) hst.same (h.ok.sh.step hst)) _ _
theorem Ox {N : Nat} {m : lf} (h : lH N m) (hN : N + 1000 < 900000) (fr n : Int) (hn : n <= 200) : lH (N + 1000) (zL m fr n).2:=by
 have hst:=D8 h.ok.sh (EZ h.ok) (by omega) fr n hn
 unfold zL
 split
 ·exact h.mono (by omega)
 ·exact GU (h.shelf (by omega) hst.same (h.ok.sh.step hst)) _ _
theorem EG {N : Nat} {m : lf} (h : lH N m) : lH N (z8 m):=
 h.shelf (Nat.le_refl N) Bv (GR h.ok.sh h.ok.files)
theorem KY {d : DevM} (h : d.Ok) {n : Int} (h0 : 0 <= n) (h1 : n <= 9223372036854775807) : ({ d with fail:=n } : DevM).Ok:=⟨h.n,h.fl,h.p,h.pend,⟨by dsimp only; omega,h1⟩,h.writes⟩
theorem TS {N : Nat} {m : lf} (h : lH N m) (file n : Int) (hn : lN n) : lH N (armM m file n).2:=by
 unfold armM
 split
 ·exact h
 ·rename_i hb
  have h0 : 0 <= n:=by omega
  have h1 : n <= 9223372036854775807:=hn.2
  split
  ·obtain ⟨a,b,c,e⟩:=h.ok.tp
   exact ⟨⟨h.ok.sh,h.ok.dv,⟨KY a h0 h1,b,c,e⟩,h.ok.walk,h.ok.root,h.ok.jok,h.ok.job⟩,h.str⟩
  ·cases e : m.F file.toNat with
   | none=>
    refine ⟨⟨h.ok.sh,fun k hk e2=>?_,h.ok.tp,h.ok.walk,h.ok.root,h.ok.jok,h.ok.job⟩,h.str⟩
    dsimp only at e2 ⊢
    unfold setD
    by_cases hk2 : k = file.toNat
    ·rw [if_pos hk2]
     obtain ⟨a,b,c⟩:=h.ok.dv file.toNat (by omega) e
     exact ⟨KY a h0 h1,b,c⟩
    ·rw [if_neg hk2]
     exact h.ok.dv k hk e2
   | some i=>
    have hi:=h.ok.sh.ok file.toNat i (by omega) e
    refine h.shelf (Nat.le_refl N) (oH.put e rfl rfl) ⟨fun k x hk hx=>?_,fun k x hk hx=>?_,fun k x hk hx=>?_⟩
    all_goals
     unfold put at hx
     by_cases hk2 : k = file.toNat
     ·rw [if_pos hk2] at hx
      cases hx
      first | exact { hi with d:=KY hi.d h0 h1 } | exact h.ok.sh.wr file.toNat i (by omega) e | exact h.ok.sh.pend file.toNat i (by omega) e
     ·rw [if_neg hk2] at hx
      first | exact h.ok.sh.ok k x hk hx | exact h.ok.sh.wr k x hk hx | exact h.ok.sh.pend k x hk hx
theorem DS {m : lf} {d : lK} (h : (lw m d).1≠0) : (lw m d).2 = { m with top:=(lw m d).2.top }:=by
 revert h
 unfold lw
 split
 ·exact fun _=>rfl
 ·exact fun h=>absurd rfl h
theorem CI {m : lf} {d : lK} (h : (lw m d).1 = 0) : (lw m d).2 = { m with top:=(lw m d).2.top,dk:=d }:=by
 revert h
 unfold lw
 split
 ·rename_i h; exact fun h2=>absurd h2 h
 ·exact fun _=>rfl
theorem lH.desk {N : Nat} {m : lf} (h : lH N m) {t : DevM} (ht : t.Ok /\ t.writes <= (N + 1 : Nat) /\ t.pend.length <= N + 1 /\ 1 <= t.fl.length) : lH (N + 1) { m with top:=t }:=
 have h1:=h.mono (Nat.le_succ N)
 ⟨⟨h1.ok.sh,h1.ok.dv,ht,h.ok.walk,h.ok.root,h.ok.jok,h.ok.job⟩,h.str⟩
theorem lH.bare {N : Nat} {m : lf} (h : lH N m) {t : DevM} (ht : t.Ok /\ t.writes <= (N + 1 : Nat) /\ t.pend.length <= N + 1 /\ 1 <= t.fl.length) {root : Int} (hr : lx m.F root) {l : List Int} (hw : ls m.F root = (l,0)) {oj : Option JobM} (ho : ∀j,oj = some j -> j.Ok /\ ¬j.st < 4) :
  lH (N + 1) { m with top:=t,dk:=lC root,job:=oj,list:=l }:=
 have h1:=h.mono (Nat.le_succ N)
 ⟨⟨h1.ok.sh,h1.ok.dv,ht,hw,hr,fun j hj=>(ho j hj).1,fun j hj h4=>absurd h4 (ho j hj).2⟩,fun j hj h4=>absurd h4 (ho j hj).2⟩
theorem KN (j : JobM) (b : Bool) : ¬(endM j b).st < 4:=by cases b <;> simp [endM]
theorem Ki {N : Nat} {m : lf} (h : lH N m) (hN : N < 900000) {j : JobM} (hj : m.job = some j) {root : Int} (hr : lx m.F root) (hw : (ls m.F root).2 = 0) (well : Bool) : lH (N + 1) (BJ m j root well).2:=by
 have ht:=Ei h.ok hN (lC root)
 unfold BJ
 by_cases hc : (lw m (lC root)).1≠0
 ·rw [if_pos hc,DS hc]
  exact h.desk ht
 ·rw [if_neg hc]
  have hc0 : (lw m (lC root)).1 = 0:=Decidable.not_not.1 hc
  have hy:=CI hc0
  generalize (lw m (lC root)).2 = M at *
  rw [hy]
  exact h.bare ht hr (l:=(ls m.F root).1) (by rw [<- hw]) (oj:=some (endM j well)) (fun k hk=>by cases hk; exact ⟨Pp (h.ok.jok j hj) well,KN j well⟩)
theorem M8 {N : Nat} {m : lf} (h : lH N m) (hN : N < 900000) : lH (N + 1) (zG m).2:=by
 unfold zG
 cases hj : m.job with
 | none=>exact h.mono (Nat.le_succ N)
 | some j=>
  dsimp only
  split
  ·exact h.mono (Nat.le_succ N)
  ·exact Ki h hN hj h.ok.root (by rw [h.ok.walk]) false
theorem Mc {F : ShM} {j : JobM} (hk : j.kind≠2) : oH F (lz F j).2.1 /\ (lz F j).2.2 = j:=by
 unfold lz
 split
 ·exact ⟨oH.refl F,rfl⟩
 ·split
  ·exact ⟨oH.refl F,rfl⟩
  ·exact ⟨Bv,rfl⟩
theorem NQ {N : Nat} {m : lf} (h : lH N m) (hN : N + 1 < 900000) : lH (N + 2) (Ai m).2:=by
 unfold Ai
 cases hj : m.job with
 | none=>exact h.mono (by omega)
 | some j=>
  dsimp only
  split
  ·exact h.mono (by omega)
  ·rename_i h4
   obtain ⟨hS,hl,hk,hf,hr⟩:=h.ok.job j hj (by omega)
   split
   ·exact h.mono (by omega)
   ·rename_i h2
    have hkj : j.kind≠2:=by rw [hk]; exact h2
    obtain ⟨hs,hjj⟩:=Mc (F:=m.F) hkj
    have hW:=BA h.ok.sh (by omega) (h.ok.jok j hj) hS
    have hg : lH (N + 1) { m with F:=(lz m.F j).2.1,job:=some (lz m.F j).2.2 }:=by
     have:=h.shelf (Nat.le_succ N) hs hW
     rw [hjj]
     rw [show ({ m with F:=(lz m.F j).2.1,job:=some j } : lf) = { m with F:=(lz m.F j).2.1 } by rw [<- hj]]
     exact this
    split
    ·exact hg.mono (by omega)
    ·rename_i hc
     have hc0 : (lz m.F j).1 = 0:=Decidable.not_not.1 hc
     have hff:=hS.file hkj
     rw [hf] at hff
     have hwk:=(If (hS.file hkj) hkj hc0).2.2
     rw [hf] at hwk
     exact Ki hg (by omega) rfl (hs.file.2 hff) hwk true
end Go.Proofs.YtbpblokfiajpjabGreatDoor
