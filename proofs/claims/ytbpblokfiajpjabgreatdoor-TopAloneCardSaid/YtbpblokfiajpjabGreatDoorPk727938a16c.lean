/- TopAlone answers true, whatever the clusters, the places and the acts, and leaves what it was given as it was. No conditions. -/
import Derived.Test.YtbpblokfiajpjabGreatDoorPkc0fe62c00b
import Derived.Test.YtbpblokfiajpjabGreatDoorCards
import Derived.Test.YtbpblokfiajpjabGreatDoorTie
import Derived.ShutString
import Derived.ChangeOld
import Derived.Below
import Derived.LaidOnce
import Derived.SevenTiedAt
set_option linter.all false
set_option maxRecDepth 1000000
set_option maxHeartbeats 32000000
namespace Go.Proofs.YtbpblokfiajpjabGreatDoor
open Go.RowKit Go.SL Go.Crc
attribute [local go_sem ↓] Go.wp_at_zero Go.wp_at_succ
theorem MQ (c p : Int) (v : Value) (l : List Act) (w : World) (hv : BY w v l) (hT : A0 w) :
  Calls Tryz.prog 9 #[.int .i64 c,.int .i64 p,v] w fun e w'=>e = .returned (.bool true) /\ Below w.heap.size w w':=by
 obtain ⟨ao,bb,off,cap,rfl,hlen,hao,hat⟩:=hv.form
 have h0:=EZ w
 have HAT:=zh hat
 have HV:=zh hv
 have HAO:=zh hao
 have HTR:=zh (fun w' L (h : own w' (L++[oX w]))=>hT.later L.length h (by rw [List.getElem?_append_right (Nat.le_refl _),Nat.sub_self]; rfl))
 have HLI:=zh (MB _ l 50 w hv)
 clear hat hv hao hT
 go_enter Tryz.func9,Tryz.ntmps9
 go_wp2_with fail
 refine HLI.out.mono ?_
 rintro e w' ⟨rfl,rfl⟩
 by_cases hL : Eb l 50 = true
 ·have hl2 : l.length <= 50 /\ ∀x∈l,x.S.size <= 700 /\ x.keep.length <= 300:=by
   simp only [Eb,Cv,Bool.and_eq_true,decide_eq_true_eq,List.all_eq_true] at hL
   exact ⟨by omega,fun x hx=>⟨by have:=(hL.2 x hx).1; omega,by have:=(hL.2 x hx).2; omega⟩⟩
  rw [hL]
  clear hL
  obtain ⟨hl50,hlx⟩:=hl2
  have HLX:=zh hlx
  clear hlx
  by_cases hb : 1 <= c /\ c <= 32 /\ 0 <= p /\ p <= 40
  ·have HM:=zh (N4 c p hb [oX w] w h0)
   have hhb : ¬lH c p (-1):=by unfold lH; omega
   have HG:=zh (And.intro (B2 hhb).1 (And.intro (B2 hhb).2 (And.intro (Oh hhb) (M9 hhb))))
   have hc1 : 1 <= c:=hb.1
   have hc2 : c <= 32:=hb.2.1
   clear hb hhb
   generalize yx c p = m0 at *
   generalize yY (4 * c.toNat) = g0 at *
   go_wp2_with fail
   refine HM.out.mono ?_
   rintro e w2 ⟨Y0,gb,vn,vc,nv0,cv0,rfl,hx2,h2⟩
   clear HM
   have h3 : own w2 (yL Y0 m0 [oX w]):=Do (shL Y0.bs Y0.A m0.F++yT Y0 m0) (gL gb vn vc nv0 cv0 g0) (by simpa only [zp] using h2) |> fun h=>by simpa only [zp] using h
   clear h2
   go_wp2_with fail
   go_loopw [10] (fun kv wr=>∃(q : Nat) (Y : YA) (m : le),q <= l.length /\ kv = .int .i64 q /\ Y.y = Y0.y /\ ly (10 + 1000 * q) m /\ YLen m /\ YT c m /\ SA m /\ Ext w wr /\ own wr (yL Y m [oX w])) (fun kv _=>l.length - (intOf kv).toNat)
   case atStart=>exact ⟨0,Y0,m0,by omega,rfl,rfl,HG.out.1,HG.out.2.1,HG.out.2.2.1,HG.out.2.2.2,hx2,h3⟩
   case round=>
    clear h3 hx2 HG
    obtain ⟨q,Y,m,hq,rfl,hyy,hgm,hlm,hyt,hsa,hxr,hown⟩:=hrel
    have HYY:=zh hyy
    by_cases hlt : q < l.length
    ·obtain rfl:=HAO.out (by omega)
     obtain ⟨c0,c1,c2,c3,c4,c5,c6⟩:=(HAT.out q hlt).later 15 hown rfl
     have ok:=HV.out.2 _ (Cw hlt)
     obtain ⟨hS7,hK3⟩:=HLX.out _ (Cw hlt)
     obtain ⟨ko,kc,hkv,hkl⟩:=JE ok.keep
     rw [hkv] at c6
     clear hkv hkl
     generalize hx : l.getD q CD = x at *
     have HI:=zh (And.intro (hgm.mono (show 10 + 1000 * q <= 10 + 1000 * (q + 1) by omega)) (And.intro hlm (And.intro hyt hsa)))
     have ha:=oD (lh hown (.cells #[.string x.kind,.int .i64 x.A,.int .i64 x.B,.int .i64 x.C,.int .i64 x.D,.string x.S,.slice ko x.keep.length kc] 45))
     have hxa:=hxr.alloc (.cells #[.string x.kind,.int .i64 x.A,.int .i64 x.B,.int .i64 x.C,.int .i64 x.D,.string x.S,.slice ko x.keep.length kc] 45)
     clear hyy
     go_upto_region 10 with (fail)
     generalize wr.alloc (.cells #[.string x.kind,.int .i64 x.A,.int .i64 x.B,.int .i64 x.C,.int .i64 x.D,.string x.S,.slice ko x.keep.length kc] 45) = wa at *
     generalize wr.heap.size = ba at *
     have d0:=(ld 15 ha rfl).1 0
     by_cases hcr : (x.kind.toList == [99,114,97,115,104]) = true
     ·clear hgm hlm hyt hsa ok c0 c1 c2 c3 c4 c5 c6 hown hxr
      go_wp2_with fail
      go_roundw
      case rel=>exact ⟨q + 1,Y,m,by omega,by go_num,HYY.out,HI.out.1,HI.out.2.1,HI.out.2.2.1,HI.out.2.2.2,hxa,li 15 ha rfl⟩
      case measure=>simp [intOf]; omega
     ·have HCH0:=zh (fun R w H=>by have h2:=FL Y m hgm.ok.list5 R w H; rw [HYY.out] at h2; exact h2)
      obtain ⟨k1,f1,s1,n1,hsv1,hno1,-⟩:=LQ m
      have HST0:=zh (fun R w H=>by have h2:=IZ Y m hgm.ok.jok R w H; rw [HYY.out,hsv1] at h2; exact h2)
      have HFR:=zh (fun R w H=>by have h2:=LC (4 * c.toNat) (by omega) R w H; rw [show ((4 * c.toNat : Nat) : Int) = 4 * c from by omega] at h2; exact h2)
      have HDD:=zh (fun gb vn vc nv cv R hT w H=>by have h2:=VX Y m hgm (by omega) x ok.A ok.B hS7 (.slice ko x.keep.length kc) gb vn vc nv cv (yY (4 * c.toNat)) hyt (by show ((List.replicate _ _).length : Int) = _; rw [List.length_replicate]; omega) rfl (by show (List.replicate _ _).length <= _; rw [List.length_replicate]; omega) 1 (I3 _) (by omega) R hT w H; rw [HYY.out] at h2; exact h2)
      have hg2:=Ly hgm (by omega) x ok.B hS7
      have hl2:=Ov hlm hgm (by omega) x hS7
      have hs2:=TK hsa hgm (by omega) x ok.B hS7
      have he2:=fun h=>U4 h hyt hgm (by omega) x
      have ht2:=XG hyt hgm (by omega) x hS7
      unfold EI at HDD
      generalize didG m (yY (4 * c.toNat)) x = G at *
      generalize didY m x = M at *
      have hl5:=hgm.ok.list5
      have HLP:=zh (show 0 < m.list.length by obtain ⟨s,e⟩:=hgm.ok.head; rw [e]; simp)
      have HL5:=zh hl5
      have HHE:=zh (And.intro hno1 he2)
      have HI2:=zh (And.intro (hg2.mono (show 10 + 1000 * q + 1000 <= 10 + 1000 * (q + 1) by omega)) (And.intro hl2 (And.intro ht2 hs2)))
      clear hgm hlm hyt hsa ok c0 c1 c2 c3 c4 c5 c6 hown hxr hg2 hl2 hs2 he2 ht2 hno1 hsv1 hl5 HI
      go_wp2_with fail
      refine (HCH0.out _ _ ha).mono ?_
      rintro e w3 ⟨vw,rfl,hx3,h3⟩
      clear ha HCH0 d0
      go_wp2_with fail
      refine (HST0.out _ _ h3).mono ?_
      rintro e w4 ⟨rfl,hx4,h4⟩
      clear h3 HST0
      go_upto_region 13 with (fail)
      have h5:=oD (lh h4 (.cells #[.int .i64 k1,.int .i64 f1,.int .i64 s1,.int .i64 n1] 47))
      have hx5:=((hxa.trans hx3).trans hx4).alloc (.cells #[.int .i64 k1,.int .i64 f1,.int .i64 s1,.int .i64 n1] 47)
      generalize w4.alloc (.cells #[.int .i64 k1,.int .i64 f1,.int .i64 s1,.int .i64 n1] 47) = w5 at *
      generalize w4.heap.size = jb at *
      clear h4 hxa hx3 hx4
      have HBA:=zh (fun (w' : World) (L : List SL.HP) (h : own w' (L++[pts ba (.cells #[.string x.kind,.int .i64 x.A,.int .i64 x.B,.int .i64 x.C,.int .i64 x.D,.string x.S,.slice ko x.keep.length kc] 45 (0,0)),oX w]))=>show w'.cell? ⟨ba,0,none⟩ = some (.string x.kind) /\ w'.cell? ⟨ba,1,none⟩ = some (.int .i64 x.A) /\ w'.cell? ⟨ba,2,none⟩ = some (.int .i64 x.B) /\ w'.cell? ⟨ba,3,none⟩ = some (.int .i64 x.C) /\ w'.cell? ⟨ba,4,none⟩ = some (.int .i64 x.D) /\ w'.cell? ⟨ba,5,none⟩ = some (.string x.S) /\ w'.cell? ⟨ba,6,none⟩ = some (.slice ko x.keep.length kc) from by
       have hc:=(ld 0 (Aq L h) rfl).1
       exact ⟨hc 0,hc 1,hc 2,hc 3,hc 4,hc 5,hc 6⟩)
      have HT3:=zh (EN HTR.out [pts jb (.cells #[.int .i64 k1,.int .i64 f1,.int .i64 s1,.int .i64 n1] 47 (0,0)),row 3 1 vw m.list.length (lq m.list),pts ba (.cells #[.string x.kind,.int .i64 x.A,.int .i64 x.B,.int .i64 x.C,.int .i64 x.D,.string x.S,.slice ko x.keep.length kc] 45 (0,0))])
      have hy:=ln h5
      have hS0:=HBA.out _ (shL Y.bs Y.A m.F++(yT Y m++[pts jb (.cells #[.int .i64 k1,.int .i64 f1,.int .i64 s1,.int .i64 n1] 47 (0,0)),row 3 1 vw m.list.length (lq m.list)])) (by simpa only [zp,List.cons_append,List.nil_append] using hy)
      have e4 : IntKind.i64.wrap (4 * c) = 4 * c:=zi _ (by omega)
      refine wp_region_held_drew (S:=fun w'=>w'.cell? ⟨ba,0,none⟩ = some (.string x.kind) /\ w'.cell? ⟨ba,1,none⟩ = some (.int .i64 x.A) /\ w'.cell? ⟨ba,2,none⟩ = some (.int .i64 x.B) /\ w'.cell? ⟨ba,3,none⟩ = some (.int .i64 x.C) /\ w'.cell? ⟨ba,4,none⟩ = some (.int .i64 x.D) /\ w'.cell? ⟨ba,5,none⟩ = some (.string x.S) /\ w'.cell? ⟨ba,6,none⟩ = some (.slice ko x.keep.length kc)) (by kernel_rfl) hS0 (fun hHeld=>?_)
      refine tk 0 ?_
      refine tk 1 ?_
      refine tk 2 ?_
      try simp only [Act.put,tA,tB,tC,tD,tE,tF]
      refine tk 4 ?_
      try simp only [Act.put,tA,tB,tC,tD,tE,tF]
      refine rd 3 rfl fun K hK=>?_
      go_simp
      go_at_call 52
      refine (HFR.out _ _ hy).mono ?_
      rintro e w6 ⟨gb6,vn6,vc6,nv6,cv6,rfl,hx6,h6⟩
      have h6:=yg_0 h6
      refine hK.out _ _ (HBA.out _ (shL Y.bs Y.A m.F++(yT Y m++(gL gb6 vn6 vc6 nv6 cv6 (yY (4 * c.toNat))++[pts jb (.cells #[.int .i64 k1,.int .i64 f1,.int .i64 s1,.int .i64 n1] 47 (0,0)),row 3 1 vw m.list.length (lq m.list)]))) (by simpa only [zp,List.cons_append,List.nil_append] using h6)) (fun _=>?_)
      clear hK K
      try simp only [Act.put,tA,tB,tC,tD,tE,tF]
      refine rd 5 rfl fun K hK=>?_
      go_simp
      go_at_call 41
      refine (HDD.out gb6 vn6 vc6 nv6 cv6 _ HT3.out _ h6).mono ?_
      rintro e w7 ⟨Y',nv7,cv7,hy7,rfl,hx7,h7⟩
      refine hK.out _ _ (HBA.out _ (shL Y'.bs Y'.A M.F++(yT Y' M++(gL gb6 vn6 vc6 nv7 cv7 G++[pts jb (.cells #[.int .i64 k1,.int .i64 f1,.int .i64 s1,.int .i64 n1] 47 (0,0)),row 3 1 vw m.list.length (lq m.list)]))) (by simpa only [zp,List.cons_append,List.nil_append] using h7)) (fun _=>?_)
      clear hK K
      try simp only [Act.put,tA,tB,tC,tD,tE,tF]
      refine wpAnyH_done (by kernel_rfl) ?_ _
      have HYW:=zh hy7
      have HY2:=zh (hy7.trans HYY.out)
      have h8 : own w7 (yL Y' M [pts jb (.cells #[.int .i64 k1,.int .i64 f1,.int .i64 s1,.int .i64 n1] 47 (0,0)),row 3 1 vw m.list.length (lq m.list),pts ba (.cells #[.string x.kind,.int .i64 x.A,.int .i64 x.B,.int .i64 x.C,.int .i64 x.D,.string x.S,.slice ko x.keep.length kc] 45 (0,0)),oX w]):=by
       have:=Do (shL Y'.bs Y'.A M.F++yT Y' M) (gL gb6 vn6 vc6 nv7 cv7 G) (E:=[pts jb (.cells #[.int .i64 k1,.int .i64 f1,.int .i64 s1,.int .i64 n1] 47 (0,0)),row 3 1 vw m.list.length (lq m.list),pts ba (.cells #[.string x.kind,.int .i64 x.A,.int .i64 x.B,.int .i64 x.C,.int .i64 x.D,.string x.S,.slice ko x.keep.length kc] 45 (0,0)),oX w]) (by simpa only [zp,List.cons_append,List.nil_append] using h7)
       simpa only [zp,List.cons_append,List.nil_append] using this
      have hx8:=(hx5.drew.trans hx6).trans hx7
      clear hy7 h5 hx5 hx6 hx7 h6 h7 hy hS0 hHeld HFR HDD HBA HT3 e4
      obtain ⟨hgM,hlM,htM,hsM⟩:=HI2.out
      obtain ⟨k2,f2,s2,n2,hsv2,-,hje⟩:=LQ M
      have HY3:=HY2.out
      have hM5:=hgM.ok.list5
      have hEND : s1≠4 -> s2 = 4 -> A9 m.list M.list k2 f2 = true:=fun h1 h2=>by
       obtain ⟨j,hj,h4,rfl,rfl⟩:=hje h2
       exact HHE.out.2 (HHE.out.1 h1) j hj h4
      have hgx:=Su hgM.ok (by omega) hlM hsM
      obtain ⟨-,-,hlx,-⟩:=D6 hgM.ok hsM
      obtain ⟨hrx,hcx⟩:=PN htM hgM.ok hsM
      have hr0 : getM M.F M.list 0 (4 * c) = ((getM M.F M.list 0 (4 * c)).1,0):=Prod.ext rfl (Ej htM hgM.ok (by omega)).1
      have hcM:=htM.cl0 hgM.ok
      have HST2:=zh (J5 HY3 hgM.ok.jok hsv2)
      have HCH2:=zh (LB HY3 hM5 rfl)
      have HAL:=zh (UB HY3 hgM (by omega) hlM hsM)
      have HSE:=zh (DE HY3 hgM.ok (by omega) hcM)
      have HRD:=zh (Fz HY3 hgM.ok (by omega) (by omega) (by omega) hr0)
      have HSX:=zh (fun Yx=>DE (Y:=Yx) rfl hgx.ok (by omega) hcx)
      have HRX:=zh (fun Yx=>Fz (Y:=Yx) rfl hgx.ok (by omega) (by omega) (by omega) (hrx.trans hr0))
      have HCX:=zh (fun Yx=>LB (Y:=Yx) rfl hgx.ok.list5 hlx)
      generalize (yj (oA M) M.top).2 = mx at *
      generalize (getM M.F M.list 0 (4 * c)).1 = sM at *
      have HM5:=zh (And.intro hM5 hEND)
      clear hgM hlM htM hsM hsv2 hje hEND hgx hlx hrx hcx hr0 hcM hM5 HHE HY3
      go_wp2_with fail
      refine (HST2.out _ _ h8).mono ?_
      rintro e w9 ⟨rfl,hx9,h9⟩
      clear h8 HST2
      go_upto_region 15 with (fail)
      have h10:=oD (lh h9 (.cells #[.int .i64 k2,.int .i64 f2,.int .i64 s2,.int .i64 n2] 47))
      have hx10:=(hx8.trans hx9).alloc (.cells #[.int .i64 k2,.int .i64 f2,.int .i64 s2,.int .i64 n2] 47)
      generalize w9.alloc (.cells #[.int .i64 k2,.int .i64 f2,.int .i64 s2,.int .i64 n2] 47) = w10 at *
      generalize w9.heap.size = kb at *
      clear h9 hx8 hx9
      go_wp2_with fail
      refine (HCH2.out _ _ h10).mono ?_
      rintro e w11 ⟨vn,rfl,hx11,h11⟩
      clear h10 HCH2
      have hx11:=hx10.trans hx11
      clear hx10
      have k0:=(ld 16 h11 rfl).1 0
      have k1':=(ld 16 h11 rfl).1 1
      have k2':=(ld 16 h11 rfl).1 2
      have k3':=(ld 16 h11 rfl).1 3
      have j2:=(ld 17 h11 rfl).1 2
      have HIW:=zh (fun (w' : World) (L : List SL.HP) (h : own w' (L++yL Y' M [row 3 1 vn M.list.length (lq M.list),pts kb (.cells #[.int .i64 k2,.int .i64 f2,.int .i64 s2,.int .i64 n2] 47 (0,0)),pts jb (.cells #[.int .i64 k1,.int .i64 f1,.int .i64 s1,.int .i64 n1] 47 (0,0)),row 3 1 vw m.list.length (lq m.list),pts ba (.cells #[.string x.kind,.int .i64 x.A,.int .i64 x.B,.int .i64 x.C,.int .i64 x.D,.string x.S,.slice ko x.keep.length kc] 45 (0,0)),oX w]))=>show lW w' vw m.list from KS (A:=[row 3 1 vn M.list.length (lq M.list),pts kb (.cells #[.int .i64 k2,.int .i64 f2,.int .i64 s2,.int .i64 n2] 47 (0,0)),pts jb (.cells #[.int .i64 k1,.int .i64 f1,.int .i64 s1,.int .i64 n1] 47 (0,0))]) h)
      have HIN:=zh (fun (w' : World) (L : List SL.HP) (h : own w' (L++yL Y' M [row 3 1 vn M.list.length (lq M.list),pts kb (.cells #[.int .i64 k2,.int .i64 f2,.int .i64 s2,.int .i64 n2] 47 (0,0)),pts jb (.cells #[.int .i64 k1,.int .i64 f1,.int .i64 s1,.int .i64 n1] 47 (0,0)),row 3 1 vw m.list.length (lq m.list),pts ba (.cells #[.string x.kind,.int .i64 x.A,.int .i64 x.B,.int .i64 x.C,.int .i64 x.D,.string x.S,.slice ko x.keep.length kc] 45 (0,0)),oX w]))=>show lW w' vn M.list from KS (A:=[]) h)
      have hcs : s1 = 4 \/ (((s1 != 4) = true) /\ ((s2 == 4) = false)) \/ (((s1 != 4) = true) /\ s2 = 4):=by
       simp only [zb,bne_iff_ne]
       omega
      rcases hcs with rfl | ⟨d1,d2⟩ | ⟨d1,rfl⟩
      ·clear HIW HM5 HLP HL5
       go_wp2_with fail
       refine (HAL.out _ _ h11).mono ?_
       rintro e w13 ⟨Yx,rfl,hx13,h13⟩
       clear h11 HAL
       have HYX:=zh (Eq.refl Yx.y)
       go_wp2_with fail
       refine (HSE.out _ _ (CF h13)).mono ?_
       rintro e w14 ⟨rfl,hx14,h14⟩
       clear h13 HSE
       go_wp2_with fail
       refine (HRD.out _ _ h14).mono ?_
       rintro e w15 ⟨rfl,hx15,h15⟩
       clear h14 HRD
       go_wp2_with fail
       refine (HSX.out Yx _ _ (CF h15)).mono ?_
       rintro e w16 ⟨rfl,hx16,h16⟩
       clear h15 HSX
       go_wp2_with fail
       refine (HRX.out Yx _ _ h16).mono ?_
       rintro e w17 ⟨rfl,hx17,h17⟩
       clear h16 HRX
       go_wp2_with fail
       refine (HCX.out Yx _ _ h17).mono ?_
       rintro e w18 ⟨vx,rfl,hx18,h18⟩
       clear h17 HCX
       have ix:=oz (l:=M.list) 15 h18 rfl
       have iy:=JK HIN.out h18
       go_wp2_with fail
       refine (AL _ _ _ _ _ ix iy).mono ?_
       rintro e w19 ⟨rfl,nq,rfl⟩
       clear ix iy
       rw [zg rfl]
       go_wp2_with fail
       go_roundw
       case rel=>exact ⟨q + 1,Y',M,by omega,by go_num,HY2.out,HI2.out.1,HI2.out.2.1,HI2.out.2.2.1,HI2.out.2.2.2,(((((((hx11.trans hx13).trans hx14).trans hx15).trans hx16).trans hx17).trans hx18).drewN nq),Lh (V:=[row 3 1 vn M.list.length (lq M.list),pts kb (.cells #[.int .i64 k2,.int .i64 f2,.int .i64 s2,.int .i64 n2] 47 (0,0)),pts jb (.cells #[.int .i64 k1,.int .i64 f1,.int .i64 4,.int .i64 n1] 47 (0,0)),row 3 1 vw m.list.length (lq m.list),pts ba (.cells #[.string x.kind,.int .i64 x.A,.int .i64 x.B,.int .i64 x.C,.int .i64 x.D,.string x.S,.slice ko x.keep.length kc] 45 (0,0))]) (lI nq h18)⟩
       case measure=>simp [intOf]; omega
      ·clear HIW HM5 HLP HL5
       go_wp2_with fail
       refine (HAL.out _ _ h11).mono ?_
       rintro e w13 ⟨Yx,rfl,hx13,h13⟩
       clear h11 HAL
       have HYX:=zh (Eq.refl Yx.y)
       go_wp2_with fail
       refine (HSE.out _ _ (CF h13)).mono ?_
       rintro e w14 ⟨rfl,hx14,h14⟩
       clear h13 HSE
       go_wp2_with fail
       refine (HRD.out _ _ h14).mono ?_
       rintro e w15 ⟨rfl,hx15,h15⟩
       clear h14 HRD
       go_wp2_with fail
       refine (HSX.out Yx _ _ (CF h15)).mono ?_
       rintro e w16 ⟨rfl,hx16,h16⟩
       clear h15 HSX
       go_wp2_with fail
       refine (HRX.out Yx _ _ h16).mono ?_
       rintro e w17 ⟨rfl,hx17,h17⟩
       clear h16 HRX
       go_wp2_with fail
       refine (HCX.out Yx _ _ h17).mono ?_
       rintro e w18 ⟨vx,rfl,hx18,h18⟩
       clear h17 HCX
       have ix:=oz (l:=M.list) 15 h18 rfl
       have iy:=JK HIN.out h18
       go_wp2_with fail
       refine (AL _ _ _ _ _ ix iy).mono ?_
       rintro e w19 ⟨rfl,nq,rfl⟩
       clear ix iy
       rw [zg rfl]
       go_wp2_with fail
       go_roundw
       case rel=>exact ⟨q + 1,Y',M,by omega,by go_num,HY2.out,HI2.out.1,HI2.out.2.1,HI2.out.2.2.1,HI2.out.2.2.2,(((((((hx11.trans hx13).trans hx14).trans hx15).trans hx16).trans hx17).trans hx18).drewN nq),Lh (V:=[row 3 1 vn M.list.length (lq M.list),pts kb (.cells #[.int .i64 k2,.int .i64 f2,.int .i64 s2,.int .i64 n2] 47 (0,0)),pts jb (.cells #[.int .i64 k1,.int .i64 f1,.int .i64 s1,.int .i64 n1] 47 (0,0)),row 3 1 vw m.list.length (lq m.list),pts ba (.cells #[.string x.kind,.int .i64 x.A,.int .i64 x.B,.int .i64 x.C,.int .i64 x.D,.string x.S,.slice ko x.keep.length kc] 45 (0,0))]) (lI nq h18)⟩
       case measure=>simp [intOf]; omega
      ·have HE:=zh (Tw vw vn m.list M.list k2 f2 4 n2 _ _ h11 HIW.out HIN.out HL5.out HLP.out (by exact HM5.out.1))
       have hnd : A9 m.list M.list k2 f2 = true:=HM5.out.2 (bne_iff_ne.1 d1) rfl
       rw [hnd] at HE
       clear hnd HIW HM5 HLP HL5
       go_wp2_with fail
       refine HE.out.mono ?_
       rintro e w12 ⟨rfl,hx12,h12⟩
       clear h11 HE j2 k0 k1' k2' k3'
       have hx12:=hx11.trans hx12
       clear hx11
       go_wp2_with fail
       refine (HAL.out _ _ h12).mono ?_
       rintro e w13 ⟨Yx,rfl,hx13,h13⟩
       clear h12 HAL
       have HYX:=zh (Eq.refl Yx.y)
       go_wp2_with fail
       refine (HSE.out _ _ (CF h13)).mono ?_
       rintro e w14 ⟨rfl,hx14,h14⟩
       clear h13 HSE
       go_wp2_with fail
       refine (HRD.out _ _ h14).mono ?_
       rintro e w15 ⟨rfl,hx15,h15⟩
       clear h14 HRD
       go_wp2_with fail
       refine (HSX.out Yx _ _ (CF h15)).mono ?_
       rintro e w16 ⟨rfl,hx16,h16⟩
       clear h15 HSX
       go_wp2_with fail
       refine (HRX.out Yx _ _ h16).mono ?_
       rintro e w17 ⟨rfl,hx17,h17⟩
       clear h16 HRX
       go_wp2_with fail
       refine (HCX.out Yx _ _ h17).mono ?_
       rintro e w18 ⟨vx,rfl,hx18,h18⟩
       clear h17 HCX
       have ix:=oz (l:=M.list) 15 h18 rfl
       have iy:=JK HIN.out h18
       go_wp2_with fail
       refine (AL _ _ _ _ _ ix iy).mono ?_
       rintro e w19 ⟨rfl,nq,rfl⟩
       clear ix iy
       rw [zg rfl]
       go_wp2_with fail
       go_roundw
       case rel=>exact ⟨q + 1,Y',M,by omega,by go_num,HY2.out,HI2.out.1,HI2.out.2.1,HI2.out.2.2.1,HI2.out.2.2.2,(((((((hx12.trans hx13).trans hx14).trans hx15).trans hx16).trans hx17).trans hx18).drewN nq),Lh (V:=[row 3 1 vn M.list.length (lq M.list),pts kb (.cells #[.int .i64 k2,.int .i64 f2,.int .i64 4,.int .i64 n2] 47 (0,0)),pts jb (.cells #[.int .i64 k1,.int .i64 f1,.int .i64 s1,.int .i64 n1] 47 (0,0)),row 3 1 vw m.list.length (lq m.list),pts ba (.cells #[.string x.kind,.int .i64 x.A,.int .i64 x.B,.int .i64 x.C,.int .i64 x.D,.string x.S,.slice ko x.keep.length kc] 45 (0,0))]) (lI nq h18)⟩
       case measure=>simp [intOf]; omega
    ·obtain rfl : q = l.length:=by omega
     clear hgm hlm hyt hsa hyy
     go_wp2_with fail
     go_ret
     exact ⟨rfl,Di 15 hown rfl hxr⟩
  ·have HM:=zh (Qc c p hb w)
   have hd : decide (c < 1) = true \/ (decide (c < 1) = false /\ decide (32 < c) = true) \/ (decide (c < 1) = false /\ decide (32 < c) = false /\ decide (p < 0) = true) \/ (decide (c < 1) = false /\ decide (32 < c) = false /\ decide (p < 0) = false /\ decide (40 < p) = true):=by
    simp only [decide_eq_true_eq,decide_eq_false_iff_not]
    omega
   clear hb
   rcases hd with d0 | ⟨d0,d1⟩ | ⟨d0,d1,d2⟩ | ⟨d0,d1,d2,d3⟩
   all_goals
    go_wp2_with fail
    refine HM.out.mono ?_
    rintro e w' ⟨rfl,rfl⟩
    go_wp2_with fail
    go_ret
    exact ⟨rfl,Di 0 h0 rfl (zR w)⟩
 ·rw [Bool.not_eq_true] at hL
  rw [hL]
  clear hL
  go_wp2_with fail
  go_ret
  exact ⟨rfl,Di 0 h0 rfl (zR w)⟩
end Go.Proofs.YtbpblokfiajpjabGreatDoor
namespace Go.Proofs.YtbpblokfiajpjabGreatDoor.topAloneDone
open Go.ChangeShapes Go.WideShapes Go.ChangeAt Go.RowKit
open Go.ChangeMaps (open_string shut_string)
set_option linter.unusedVariables false
theorem own : ownKnob Tryz.prog.godebug = none:=by kernel_rfl
theorem K6 : laidOutB Tryz.prog = true:=by kernel_rfl
theorem OQ (os : Os) (started : os.Started) (H : Type) (enc : TypeId×Value -> H) :
  ReturnsInHanded {} Tryz.checked os 9 .any (fun w args=>(Rows.topAloneSpec.pre enc Tryz.prog Tryz.f9 Rows.topAloneRow.domain false w args /\ laidMetH Tryz.prog Rows.topAloneRow.laid w) /\ sizedMet enc Tryz.prog Tryz.f9 (OpenSpec.ofChange Rows.topAloneSpec) false w args)
   (Rows.topAloneSpec.post enc Tryz.prog Tryz.f9 false true false false):=by
 refine returnsInHanded_of_change_and (C:=Tryz.checked) (X:=fun w _=>laidMetH Tryz.prog Rows.topAloneRow.laid w) (fun _ _ _ hh h=>h.of_heap hh) own started (by kernel_rfl) Tryz.func9
  (ChangeSpec.witness_shaped (enc:=enc) (C:=Tryz.checked) (os:=os) (X:=fun w _=>laidMetH Tryz.prog Rows.topAloneRow.laid w) false (World.laidAll Tryz.prog os Rows.topAloneRow.laid) #[.int .i64 0,.int .i64 0,.slice none 0 0] 8 (World.laidAll_os _ _ _)
   (World.shaped_of_ZipB (by kernel_rfl) (by kernel_rfl)) (by kernel_rfl) (by kernel_rfl) (by kernel_rfl)
   (by rw [MakeChecks.laidMetH_plain _ _ _ (by kernel_rfl)]; exact laidMet_laidAll _ (by kernel_rfl) (by kernel_rfl))) ?_
 intro W base args ds gs before hval0 hW hcnd _ hL _
 have hval : ∀(j : Nat) t v,Tryz.f9.params[j]? = some t -> args[j]? = some v -> Value.okWide Tryz.prog W .any base t v:=hval0
 have hW':=hW
 obtain ⟨p,q,hA0,hV,rfl,hfz,hnd⟩:=hW
 have hA : DataW.TrodAll enc Tryz.prog W 0 (fun _=>true) true Tryz.f9.params.toList args.toList ds p:=hA0
 rw [Tryz.params9] at hA hval
 obtain ⟨v0,vs0,d0,ds0,p0,q0,hargs,rfl,rfl,h0,r0⟩:=trodAll_cons hA
 obtain ⟨v1,vs1,d1,ds1,p1,q1,rfl,rfl,rfl,h1,r1⟩:=trodAll_cons r0
 obtain ⟨v2,vs2,d2,ds2,p2,q2,rfl,rfl,rfl,h2,r2⟩:=trodAll_cons r1
 obtain ⟨rfl,rfl,rfl⟩:=trodAll_nil r2
 obtain rfl : args = #[v0,v1,v2]:=by cases args; simp_all
 obtain ⟨rfl,rfl⟩:=trodVars_none hV
 obtain ⟨a0,rfl,rfl,rfl,k0⟩:=open_int Tryz.underlying3 (hval 0 3 v0 rfl rfl) h0
 obtain ⟨a1,rfl,rfl,rfl,k1⟩:=open_int Tryz.underlying3 (hval 1 3 v1 rfl rfl) h1
 obtain ⟨ao2,len2,cap2,rfl⟩:=okWide_slice Tryz.underlying25 (hval 2 25 v2 rfl rfl)
 have t2:=h2
 have lt2 : ∀x∈p2,x.block < W.heap.size:=by obtain ⟨m,hm⟩:=t2; exact DataW.trod_lt m _ _ _ hm
 obtain ⟨a2,k2⟩ : ∃l,BY W (.slice ao2 len2 cap2) l:=by
  obtain ⟨fuel,hf⟩:=h2
  exact LD hf
 clear hA0 hval0
 refine (MQ a0 a1 _ a2 W k2 (Nl hL)).mono fun e W' ⟨he,bel⟩=>?_
 subst he
 exact ⟨_,rfl,_,_,_,[],_,[],hW',trodAll_mk1 (shut_bool Tryz.underlying4 _),(trodAll_cons_mk (shut_int Tryz.underlying3 k0) (trodAll_cons_mk (shut_int Tryz.underlying3 k1) (trodAll_cons_mk (Below.trod K6 (by kernel_rfl) (of_decide_eq_true (by kernel_rfl)) t2 bel lt2) trodAll_mk0))),rfl,bel.frame _,fun h=>by cases h⟩
theorem andB {a b : Bool} (ha : a = true) (hb : b = true) : (a && b) = true:=by rw [ha,hb]; rfl
theorem Ss : Rows.topAloneRow.wf (OpenSpec.ofChange Rows.topAloneSpec) = true:=by kernel_rfl
theorem Tm : laidOutB Tryz.prog = true:=by kernel_rfl
theorem S9 : mapsRowed Tryz.prog = true:=by kernel_rfl
theorem QK : Tryz.f9.params.all (Tryz.prog.readableRec ·) = true:=by kernel_rfl
theorem Tp : namedTie Tryz.prog Rows.topAloneRow.named Rows.topAloneSpec.vars = true:=by kernel_rfl
theorem Sb : (Rows.topAloneRow.stops == []) = true:=by kernel_rfl
theorem Sn : (Tryz.prog.stops == []) = true:=by kernel_rfl
theorem Sy : (Rows.topAloneRow.knobs == []) = true:=by kernel_rfl
theorem SZ : (Tryz.prog.stopKnobs == []) = true:=by kernel_rfl
theorem Sa : (Rows.topAloneRow.inPlace == Tryz.prog.inPlace 9) = true:=by kernel_rfl
theorem Oz : (Rows.topAloneRow.unfollowed == Tryz.prog.unfollowed 9) = true:=by kernel_rfl
theorem Np : (Rows.topAloneRow.recurses == Tryz.prog.recurses 9) = true:=by kernel_rfl
theorem N7 : (Rows.topAloneRow.named == Tryz.prog.varsNamed 9) = true:=by kernel_rfl
theorem O6 : (Rows.topAloneRow.maps == (Tryz.f9.params.toList++Rows.topAloneSpec.plain.varTypes Tryz.prog).any (Tryz.prog.mapsRec ·)) = true:=by kernel_rfl
theorem Od : (Rows.topAloneRow.ifaces == (Tryz.f9.params.toList++Rows.topAloneSpec.plain.varTypes Tryz.prog).any (Tryz.prog.ifacesRec ·)) = true:=by kernel_rfl
theorem Nt : (Rows.topAloneRow.mapsOut == Tryz.prog.mapsAmong Tryz.f9.resultTypes.toList) = true:=by kernel_rfl
theorem N6 : (Rows.topAloneRow.loops == (Tryz.f9.params.toList++Rows.topAloneSpec.plain.varTypes Tryz.prog).any (Tryz.prog.loopsFrom ·)) = true:=by kernel_rfl
theorem Ou : (Rows.topAloneRow.wideKeys == (Tryz.f9.params.toList++Rows.topAloneSpec.plain.varTypes Tryz.prog++Tryz.f9.resultTypes.toList).any (Tryz.prog.wideKeysFrom ·)) = true:=by kernel_rfl
theorem O4 : Rows.topAloneSpec.vars.all (Tryz.prog.varReadable ·) = true:=by kernel_rfl
theorem Nn : Tryz.f9.resultTypes.all (fun t=>Tryz.prog.readableRec t && decide (t < Tryz.prog.types.size)) = true:=by kernel_rfl
theorem OZ : (Rows.topAloneRow.ifacesOut == Tryz.f9.resultTypes.toList.any (Tryz.prog.ifacesRec ·)) = true:=by kernel_rfl
theorem Oy : (Rows.topAloneRow.loopsOut == Tryz.f9.resultTypes.toList.any (Tryz.prog.loopsFrom ·)) = true:=by kernel_rfl
theorem Ox : (Rows.topAloneRow.plainKeys == Tryz.prog.plainKeys) = true:=by kernel_rfl
theorem Ob : Rows.topAloneRow.shortTexts.isNone = true:=by kernel_rfl
theorem Nr : Tryz.prog.stopsHeard = true:=by kernel_rfl
theorem NH : Tryz.prog.mayEnter = true:=by kernel_rfl
theorem O5 : (Rows.topAloneRow.lifted == Tryz.prog.liftsFinal) = true:=by kernel_rfl
theorem OA : (Tryz.prog.make == some Rows.topAloneRow.make) = true:=by kernel_rfl
theorem Nv : (Rows.topAloneRow.kinds == (if Rows.topAloneRow.domain.isEmpty then [] else Tryz.f9.params.toList.map fun t=>match Tryz.prog.underlying t with | some (.int k)=>some k | _=>none)) = true:=by kernel_rfl
theorem OD : (Rows.topAloneRow.pinned == Rows.topAloneRow.pinnedBy) = true:=by kernel_rfl
theorem OT : (Rows.topAloneRow.veiled == (Tryz.f9.params.toList++Rows.topAloneSpec.plain.varTypes Tryz.prog++Tryz.f9.resultTypes.toList).any (Tryz.prog.veiledRec ·)) = true:=by kernel_rfl
theorem Ns : Rows.topAloneRow.veiledFits Tryz.prog Tryz.f9.params.toList (Tryz.f9.params.toList++Rows.topAloneSpec.plain.varTypes Tryz.prog++Tryz.f9.resultTypes.toList) = true:=by kernel_rfl
theorem OJ : joinedFacts Tryz.prog 9 Tryz.f9 Rows.topAloneSpec Rows.topAloneRow = true:=by
 unfold joinedFacts
 exact (andB (andB (andB (andB (andB (andB (andB (andB (andB (andB (andB (andB (andB (andB (andB (andB (andB (andB (andB (andB (andB (andB (andB (andB (andB (andB (andB (andB (andB (andB (andB Ss Tm) S9) QK) Tp) Sb) Sn) Sy) SZ) Sa) Oz) Np) N7) O6) Od) Nt) N6) Ou) O4) Nn) OZ) Oy) Ox) Ob) Nr) NH) O5) OA) Nv) OD) OT) Ns)
theorem Lg : Tryz.prog.funcNamed Rows.topAloneRow.func = some 9:=by kernel_rfl
theorem over : Rows.topAloneRow.holds Tryz.pinned (OpenSpec.ofChange Rows.topAloneSpec):=
 OpenClaim.holds_of_wide 9 Tryz.f9 rfl rfl rfl rfl rfl rfl rfl ⟨rfl,rfl,rfl,rfl,rfl⟩ rfl rfl rfl rfl rfl Lg Tryz.func9 OJ
  (of_decide_eq_true (by kernel_rfl)) (by unfold Func.isWrapper; first | (rw [zt (by decide +kernel)]; kernel_rfl) | (rw [zq (by decide +kernel)]; exact ⟨rfl,rfl⟩))
  (fun os started H enc _=>OQ os started H enc)
theorem proved : Rows.TopAloneCardSaid:=
 Claim7.holds_tied_plain_at .later [] _ _ _ _ over (fun _ h=>by cases h) (by kernel_rfl) (fun _ h=>by cases h) topAlone_row_tie rfl ⟨rfl,rfl⟩ (by kernel_rfl) rfl
  (fun f fn hf hfn=>by
   obtain rfl : f = 9 := Option.some.inj ((show Tryz.prog.funcNamed "stackyard/stackyardtop.TopAlone" = some 9 by kernel_rfl).symm.trans hf) |>.symm
   obtain rfl : fn = Tryz.f9:=(Option.some.inj (Tryz.func9.symm.trans hfn)).symm
   exact ⟨by kernel_rfl,fun j t ht=>by
    rw [Tryz.params9] at ht
    have hm : t∈[3,25]:=by
     have:=Array.mem_of_getElem? ht
     simp only [List.mem_toArray,List.mem_cons,List.mem_nil_iff,or_false] at this ⊢
     rcases this with h|h|h <;> simp [h]
    have hall : ([3,25].all fun u=>!Tryz.prog.wantsStandIn u) = true:=by kernel_rfl
    exact (show Tryz.prog.wantsStandIn t = false by simpa using List.all_eq_true.1 hall t hm)⟩)
  (by kernel_rfl)
#print axioms proved
end Go.Proofs.YtbpblokfiajpjabGreatDoor.topAloneDone
