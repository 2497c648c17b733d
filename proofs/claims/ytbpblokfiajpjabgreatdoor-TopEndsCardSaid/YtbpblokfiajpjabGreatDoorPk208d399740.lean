/- TopEnds answers true, whatever the clusters, the places, the acts and the job, and leaves what it was given as it was. No conditions. -/
import Derived.Test.YtbpblokfiajpjabGreatDoorPk72ccddf571
import Derived.Test.YtbpblokfiajpjabGreatDoorRows
import Derived.LaidMore
import Derived.Lay
import Derived.Test.YtbpblokfiajpjabGreatDoorCards
import Derived.Test.YtbpblokfiajpjabGreatDoorTie
import Derived.ShutString
import Derived.ChangeOld
import Derived.Below
import Derived.LaidOnce
import Derived.SevenTiedAt
set_option linter.all false
set_option maxRecDepth 1000000
set_option maxHeartbeats 32000000
namespace Go.Proofs.YtbpblokfiajpjabGreatDoor
open Go.RowKit Go.SL Go.Crc
attribute [local go_sem ↓] Go.wp_at_zero Go.wp_at_succ
theorem Q9 {Y : YA} {m : ld} {P : SL.HP} {L R : List SL.HP} {w : World} (H : own w (P::yL Y m (L++R))) : own w (yL Y m (L++(P::R))):=by
 have h:=lD (shL Y.bs Y.A m.F++(yT Y m++L)) (R:=R) (by simpa only [zp] using H)
 simpa only [zp] using h
theorem Kw (c p kind file : Int) (v : Value) (l : List Act) (w : World) (hv : Ba w v l) (hT : Ak w) :
  Calls Tryz.prog 8 #[.int .i64 c,.int .i64 p,v,.int .i64 kind,.int .i64 file] w fun e w'=>e = .returned (.bool true) /\ Below w.heap.size w w':=by
 obtain ⟨ao,bb,off,cap,rfl,hlen,hao,hat⟩:=hv.form
 have h0:=Fy w
 have HAT:=zh hat
 have HV:=zh hv
 have HAO:=zh hao
 have HTR:=zh (fun w' L (h : own w' (L++[o5 w]))=>hT.later L.length h (by rw [List.getElem?_append_right (Nat.le_refl _),Nat.sub_self]; rfl))
 have HLI:=zh (M5 _ l 50 w hv)
 clear hat hv hao hT
 go_enter Tryz.func8,Tryz.ntmps8
 go_wp2_with fail
 refine HLI.out.mono ?_
 rintro e w' ⟨rfl,rfl⟩
 by_cases hL : Du l 50 = true
 ·have hl2 : l.length <= 50 /\ ∀x∈l,x.S.size <= 700 /\ x.keep.length <= 300:=by
   simp only [Du,Bt,Bool.and_eq_true,decide_eq_true_eq,List.all_eq_true] at hL
   exact ⟨by omega,fun x hx=>⟨by have:=(hL.2 x hx).1; omega,by have:=(hL.2 x hx).2; omega⟩⟩
  rw [hL]
  clear hL
  obtain ⟨hl50,hlx⟩:=hl2
  have HLX:=zh hlx
  clear hlx
  by_cases hb : 1 <= c /\ c <= 32 /\ 0 <= p /\ p <= 40
  ·have HM:=zh (O2 c p hb [o5 w] w h0)
   have hhb : ¬lH c p (-1):=by unfold lH; omega
   have HG:=zh (And.intro (G6 hhb).1 (And.intro (PZ hhb) (SC c p)))
   have HFL:=zh (show (yM (4 * c.toNat)).now.length <= 128 by show (List.replicate _ _).length <= _; rw [List.length_replicate]; omega)
   have HL0:=zh (K3 (4 * c.toNat))
   have hc1 : 1 <= c:=hb.1
   have hc2 : c <= 32:=hb.2.1
   clear hb hhb
   generalize yR c p = m0 at *
   generalize yM (4 * c.toNat) = g0 at *
   go_wp2_with fail
   refine HM.out.mono ?_
   rintro e w2 ⟨Y0,gb,vn,vc,nv0,cv0,rfl,hx2,h2⟩
   clear HM
   go_wp2_with fail
   go_loopw [14] (fun kv wr=>∃(q : Nat) (Y : YA) (m : ld) (g : lK) (nv cv : Nat -> Value),q <= l.length /\ kv = .int .i64 q /\ Y.y = Y0.y /\ lx (10 + 1000 * q) m /\ GI c m g /\ NF m /\ g.now.length <= 128 /\ LsOk g (1 + q) /\ Ext w wr /\ own wr (yL Y m (gL gb vn vc nv cv g++[o5 w]))) (fun kv _=>l.length - (intOf kv).toNat)
   case atStart=>exact ⟨0,Y0,m0,g0,nv0,cv0,by omega,rfl,rfl,HG.out.1,HG.out.2.1,HG.out.2.2,HFL.out,HL0.out,hx2,h2⟩
   case round=>
    clear h2 hx2 HG HFL HL0
    obtain ⟨q,Y,m,g,nv,cv,hq,rfl,hyy,hgm,hgi,hnf,hn,hls,hxr,hown⟩:=hrel
    have HYY:=zh hyy
    by_cases hlt : q < l.length
    ·obtain rfl:=HAO.out (by omega)
     obtain ⟨c0,c1,c2,c3,c4,c5,c6⟩:=(HAT.out q hlt).later 0 (CF hown) rfl
     have ok:=HV.out.2 _ (Cs hlt)
     obtain ⟨hS7,hK3⟩:=HLX.out _ (Cs hlt)
     obtain ⟨ko,kc,hkv,hkl⟩:=JW ok.keep
     rw [hkv] at c6
     clear hkv hkl
     generalize hx : l.getD q BB = x at *
     by_cases hcr : (x.kind.toList == [99,114,97,115,104]) = true \/ (x.kind.toList == [102,97,105,108]) = true
     ·have HI:=zh (And.intro (hgm.mono (show 10 + 1000 * q <= 10 + 1000 * (q + 1) by omega)) (And.intro hgi (And.intro hnf (hls.mono (show 1 + q <= 1 + (q + 1) by omega)))))
      clear hgm hgi hnf hls hyy ok
      have hcr : (x.kind.toList == [99,114,97,115,104]) = true \/ ((x.kind.toList == [99,114,97,115,104]) = false /\ (x.kind.toList == [102,97,105,108]) = true):=by
       cases h : (x.kind.toList == [99,114,97,115,104])
       ·rw [h] at hcr
        exact .inr ⟨rfl,hcr.resolve_left (by simp)⟩
       ·exact .inl rfl
      rcases hcr with k1 | ⟨k1,k2⟩
      all_goals
       go_wp2_with fail
       go_roundw
       case rel=>exact ⟨q + 1,Y,m,g,nv,cv,by omega,by go_num,HYY.out,HI.out.1,HI.out.2.1,HI.out.2.2.1,hn,HI.out.2.2.2,hxr,hown⟩
       case measure=>simp [intOf]; omega
     ·have k1 : (x.kind.toList == [99,114,97,115,104]) = false:=by simpa using fun h=>hcr (.inl h)
      have k2 : (x.kind.toList == [102,97,105,108]) = false:=by simpa using fun h=>hcr (.inr h)
      clear hcr
      have HD:=zh (Qm Y m hgm (by omega) x ok.A ok.B hS7 (.slice ko x.keep.length kc) gb vn vc nv cv g hgi (by omega) (1 + q) hls (by omega) [o5 w] HTR.out wr hown)
      have hg2:=NC hgm (by omega) x ok.B hS7
      have hgi2:=NV hgi hgm (by omega) x hS7
      have hls2:=OH hgi hgm (by omega) hls x hS7
      have hnf2:=Sd hnf x (by rw [k2]; simp)
      have hn2 : (didG m g x).now.length <= 128:=by
       have a:=hgi2.n
       have b:=hgi.n
       omega
      rw [hyy] at HD
      clear hyy
      unfold EW at HD
      generalize didY m x = M at *
      generalize didG m g x = G at *
      have HI:=zh (And.intro (hg2.mono (show 10 + 1000 * q + 1000 <= 10 + 1000 * (q + 1) by omega)) (And.intro hgi2 (And.intro hnf2 (And.intro hls2 hn2))))
      clear hgm hgi hnf hls hown hg2 hgi2 hls2 hn2 hnf2 ok
      go_wp2_with fail
      refine HD.out.mono ?_
      rintro e w5 ⟨Y',nv5,cv5,hy,rfl,hx5,h5⟩
      clear HD c0 c1 c2 c3 c4 c5 c6
      have HYW:=zh (hy.trans HYY.out)
      clear hy
      go_wp2_with fail
      go_roundw
      case rel=>exact ⟨q + 1,Y',M,_,nv5,cv5,by omega,by go_num,HYW.out,HI.out.1,HI.out.2.1,HI.out.2.2.1,HI.out.2.2.2.2,HI.out.2.2.2.1,hxr.trans hx5,h5⟩
      case measure=>simp [intOf]; omega
    ·obtain rfl : q = l.length:=by omega
     clear HAT HV HAO HLX
     have hm1:=D4 hgm (by omega)
     have hi1:=hgi.cancel hgm
     have hf1:=Jr hnf
     have HC:=zh (fun R w H=>FE (10 + 1000 * l.length) Y m hgm.ok (by omega) R w H)
     unfold yj at HC
     rw [hyy] at HC
     generalize yQ m = S at *
     obtain ⟨f1,m1⟩:=S
     dsimp only at HC hm1 hi1 hf1
     clear hgm hgi hnf hyy
     go_wp2_with fail
     refine (HC.out _ _ hown).mono ?_
     rintro e w3 ⟨Y1,hy1,rfl,hx3,h3⟩
     clear hown HC
     have hm2:=C2 hm1 (by omega) kind file 0 1000
     have hi2:=hi1.start hm1 kind file 0 1000
     have hrs:=fun h=>NO hi1.t hm1 hf1 (by omega) kind file h
     have hcd:=K1 m1 kind file 0 1000
     have HS:=zh (fun R w H=>Gl (10 + 1000 * l.length + 1) Y1 m1 hm1.ok (by omega) kind file 0 1000 R w H)
     unfold yj at HS
     rw [hy1] at HS
     generalize yv m1 kind file 0 1000 = S at *
     obtain ⟨f2,m2⟩:=S
     dsimp only at HS hm2 hi2 hrs hcd
     clear hm1 hi1 hf1 hy1
     by_cases hf : f2 = 0
     ·subst hf
      rw [lL] at HS
      obtain ⟨n0,hn0,hrun⟩:=hrs rfl
      have HI:=zh (And.intro hrun hi2)
      have HST:=zh (fun (Y : YA) (hY : Y.y = Y0.y) R w H=>by have h2:=zB Y m2 hm2.ok.jok R w H; rw [hY] at h2; exact h2)
      obtain ⟨sf,hst⟩:=Gd hrun
      rw [hst] at HST
      clear hm2 hi2 hrs hcd hst hrun
      go_wp2_with fail
      refine (HS.out _ _ h3).mono ?_
      rintro e w4 ⟨Y2,hy2,rfl,hx4,h4⟩
      have HY2:=zh hy2
      clear h3 hy2 HS
      go_wp2_with fail
      refine (HST.out Y2 HY2.out _ _ h4).mono ?_
      rintro e w5 ⟨rfl,hx5,h5⟩
      clear h4 HST
      go_upto_region 15 with (fail)
      generalize hs0 : (if n0 = 0 then (3 : Int) else 1) = s0 at *
      clear hs0
      have h6:=Q9 (lf h5 (.cells #[.int .i64 kind,.int .i64 sf,.int .i64 s0,.int .i64 (n0 : Int)] 47))
      have hx6:=(((hxr.trans hx3).trans hx4).trans hx5).alloc (.cells #[.int .i64 kind,.int .i64 sf,.int .i64 s0,.int .i64 (n0 : Int)] 47)
      generalize w5.alloc (.cells #[.int .i64 kind,.int .i64 sf,.int .i64 s0,.int .i64 (n0 : Int)] 47) = w6 at *
      generalize w5.heap.size = jb at *
      clear h5 hxr hx3 hx4 hx5
      have HT6:=zh (BY HTR.out [pts jb (.cells #[.int .i64 kind,.int .i64 sf,.int .i64 s0,.int .i64 (n0 : Int)] 47 (0,0))])
      have c3:=(la 0 (CF h6) rfl).1 3
      have HN0:=zh hn0
      have HNN:=zh hn
      have HLS:=zh hls
      obtain ⟨hrun,hgi⟩:=HI.out
      have HSA:=zh (show St c (10 + 1000 * l.length + 1 + 1 + 10 * (n0 - n0)) kind n0 n0 m2 from .inl ⟨hrun.mono (by omega),fun e=>.inr e⟩)
      have HGA:=zh hgi
      have HL50:=zh hl50
      clear HI hrun hgi hn0 hn hls
      go_wp2_with fail
      clear c3
      go_loopw [16] (fun kv wr=>∃(n : Nat) (Y : YA) (m : ld),n <= n0 /\ kv = .int .i64 n /\ Y.y = Y0.y /\ St c (10 + 1000 * l.length + 1 + 1 + 10 * (n0 - n)) kind n0 n m /\ GI c m g /\ Ext w wr /\ own wr (yL Y m (gL gb vn vc nv cv g++(pts jb (.cells #[.int .i64 kind,.int .i64 sf,.int .i64 s0,.int .i64 (n0 : Int)] 47 (0,0))::[o5 w])))) (fun kv _=>(intOf kv).toNat)
      case atStart=>exact ⟨n0,Y2,m2,by omega,rfl,HY2.out,HSA.out,HGA.out,hx6,h6⟩
      case round=>
       clear h6 hx6 HSA HGA HY2
       obtain ⟨n,Y,m,hnn,rfl,hyy,hst,hgi,hxr,hown⟩:=hrel
       have hn64:=HN0.out
       have hl50:=HL50.out
       by_cases hn : n = 0
       ·subst hn
        have hgd:=hst.good
        have hc3:=(la 0 (CF hown) rfl).1 3
        by_cases hk2 : kind = 2
        ·subst hk2
         by_cases h00 : n0 = 0
         ·have hrn : Run c (10 + 1000 * l.length + 1 + 1 + 10 * (n0 - 0)) 2 0 m:=by
           rcases hst with h | h
           ·exact h.1
           ·omega
          have hlk:=Pq hrn (by omega)
          have hi2:=hgi.step hgd (by omega)
          have HSP:=zh (fun wz H=>by have h2:=Ei _ Y m hgd.ok (by omega) (hgd.linkOk (by omega)) (gL gb vn vc nv cv g++(pts jb (.cells #[.int .i64 2,.int .i64 sf,.int .i64 s0,.int .i64 (n0 : Int)] 47 (0,0))::[o5 w])) (BY HT6.out (gL gb vn vc nv cv g)) wz H; unfold Gh at h2; rw [hyy] at h2; exact h2)
          generalize lZ m = S at *
          obtain ⟨⟨did,f⟩,m'⟩:=S
          dsimp only at HSP hlk hi2
          obtain ⟨hf0,hdn⟩:=hlk
          subst hf0
          rw [lL] at HSP
          have z1 : ((n0 : Int) == 0) = true:=by rw [beq_iff_eq]; omega
          have HDN:=zh (And.intro hdn hi2)
          clear hst hgd hgi hrn hi2 hdn h00 hyy
          go_wp2_with fail
          refine (HSP.out _ hown).mono ?_
          rintro e wa ⟨Ya,hya,rfl,hxa,ha⟩
          obtain ⟨hdn,hi2⟩:=HDN.out
          clear HSP hown hc3 z1
          obtain ⟨ek,ef,hes⟩:=Ep hdn
          have hcl:=hi2.t.cl0 hdn.g.ok
          have hsw:=hi2.saw hdn.g.ok (by omega)
          have hal:=hi2.all hdn.g.ok (by omega)
          have hr0:=(Dd hi2.t hdn.g.ok (by omega)).1
          have hok:=hdn.g.ok
          have HSC:=zh (fun R w H=>by have h2:=zB Ya m' hok.jok R w H; rw [hya,hes] at h2; exact h2)
          have HSE:=zh (fun R w H=>by have h2:=Bc _ Ya m' hok (by omega) R w H; rw [hya,hcl,Int.mul_comm c 4] at h2; exact h2)
          have HRD:=zh (fun R w H=>by have h2:=EO _ Ya m' hok (by omega) 0 (4 * c) (by unfold oy; omega) (by unfold oy; omega) R w H; rw [hya,hr0,lL] at h2; exact h2)
          generalize (getM m'.F m'.list 0 (4 * c)).1 = s at *
          have HSS:=zh (fun R w H=>F7 gb vn vc nv cv g s hal (by have:=HNN.out; omega) HLS.out (by omega) R w H)
          have hsf:=C6 ek ef 4 0
          clear hes hcl hsw hal hr0 hok hdn hi2
          clear HDN hya
          go_wp2_with fail
          refine (HSC.out _ _ ha).mono ?_
          rintro e w7 ⟨rfl,hx7,h7⟩
          go_upto_region 29 with (fail)
          have h8:=lf h7 (.cells #[.int .i64 ek,.int .i64 ef,.int .i64 4,.int .i64 0] 47)
          have hx8:=((hxr.trans hxa).trans hx7).alloc (.cells #[.int .i64 ek,.int .i64 ef,.int .i64 4,.int .i64 0] 47)
          generalize w7.alloc (.cells #[.int .i64 ek,.int .i64 ef,.int .i64 4,.int .i64 0] 47) = w8 at *
          generalize w7.heap.size = xb at *
          have c2:=(la 0 h8 rfl).1 2
          have c3:=(la 0 h8 rfl).1 3
          have h9:=lg h8
          clear h7 h8 hx7
          go_wp2_with fail
          refine (HSE.out _ _ h9).mono ?_
          rintro e wc ⟨rfl,hxc,hc⟩
          go_wp2_with fail
          refine (HRD.out _ _ hc).mono ?_
          rintro e wd ⟨rfl,hxd,hd⟩
          go_wp2_with fail
          refine (HSS.out _ _ (L2 hd)).mono ?_
          rintro e we ⟨nve,rfl,hxe,he⟩
          go_wp2_with fail
          refine (HSC.out _ _ (yg_0 he)).mono ?_
          rintro e wf ⟨rfl,hxf,hf⟩
          go_wp2_with fail
          go_ret
          exact ⟨rfl,AX 1 (CF hf) rfl ((((hx8).trans hxc).trans hxd).trans hxe |>.trans hxf)⟩
         ·have hdn : Done c (10 + 1000 * l.length + 1 + 1 + 10 * (n0 - 0)) m:=by
           rcases hst with h | h
           ·rcases h.2 rfl with h | h <;> omega
           ·exact h.2.2.2
          have z1 : ((n0 : Int) == 0) = false:=by rw [zb]; omega
          clear hst hgd h00
          obtain ⟨ek,ef,hes⟩:=Ep hdn
          have hcl:=hgi.t.cl0 hdn.g.ok
          have hsw:=hgi.saw hdn.g.ok (by omega)
          have hal:=hgi.all hdn.g.ok (by omega)
          have hr0:=(Dd hgi.t hdn.g.ok (by omega)).1
          have hok:=hdn.g.ok
          have HSC:=zh (fun R w H=>by have h2:=zB Y m hok.jok R w H; rw [hyy,hes] at h2; exact h2)
          have HSE:=zh (fun R w H=>by have h2:=Bc _ Y m hok (by omega) R w H; rw [hyy,hcl,Int.mul_comm c 4] at h2; exact h2)
          have HRD:=zh (fun R w H=>by have h2:=EO _ Y m hok (by omega) 0 (4 * c) (by unfold oy; omega) (by unfold oy; omega) R w H; rw [hyy,hr0,lL] at h2; exact h2)
          generalize (getM m.F m.list 0 (4 * c)).1 = s at *
          have HSS:=zh (fun R w H=>F7 gb vn vc nv cv g s hal (by have:=HNN.out; omega) HLS.out (by omega) R w H)
          have hsf:=C6 ek ef 4 0
          clear hes hcl hsw hal hr0 hok hdn hgi
          clear hyy
          go_wp2_with fail
          clear hc3 z1
          refine (HSC.out _ _ hown).mono ?_
          rintro e w7 ⟨rfl,hx7,h7⟩
          go_upto_region 29 with (fail)
          have h8:=lf h7 (.cells #[.int .i64 ek,.int .i64 ef,.int .i64 4,.int .i64 0] 47)
          have hx8:=((hxr).trans hx7).alloc (.cells #[.int .i64 ek,.int .i64 ef,.int .i64 4,.int .i64 0] 47)
          generalize w7.alloc (.cells #[.int .i64 ek,.int .i64 ef,.int .i64 4,.int .i64 0] 47) = w8 at *
          generalize w7.heap.size = xb at *
          have c2:=(la 0 h8 rfl).1 2
          have c3:=(la 0 h8 rfl).1 3
          have h9:=lg h8
          clear h7 h8 hx7
          go_wp2_with fail
          refine (HSE.out _ _ h9).mono ?_
          rintro e wc ⟨rfl,hxc,hc⟩
          go_wp2_with fail
          refine (HRD.out _ _ hc).mono ?_
          rintro e wd ⟨rfl,hxd,hd⟩
          go_wp2_with fail
          refine (HSS.out _ _ (L2 hd)).mono ?_
          rintro e we ⟨nve,rfl,hxe,he⟩
          go_wp2_with fail
          refine (HSC.out _ _ (yg_0 he)).mono ?_
          rintro e wf ⟨rfl,hxf,hf⟩
          go_wp2_with fail
          go_ret
          exact ⟨rfl,AX 1 (CF hf) rfl ((((hx8).trans hxc).trans hxd).trans hxe |>.trans hxf)⟩
        ·have hrn : Run c (10 + 1000 * l.length + 1 + 1 + 10 * (n0 - 0)) kind 0 m:=by
          rcases hst with h | h
          ·exact h.1
          ·omega
         have hpv:=NB hrn hk2 (by omega)
         have hi2:=hgi.pivot hgd (by omega)
         obtain ⟨sf2,hsv⟩:=Gd hrn
         have HSCR:=zh (fun R w H=>by have h2:=zB Y m hgd.ok.jok R w H; rw [hyy,hsv,zt rfl] at h2; exact h2)
         rw [show ((0 : Nat) : Int) = 0 from rfl] at HSCR
         have HPV:=zh (fun R w H=>by have h2:=Gq _ Y m hgd.ok (by omega) R w H; unfold yj at h2; rw [hyy] at h2; exact h2)
         have HIS:=zh (fun w=>NL 0 w)
         generalize yD m = S at *
         obtain ⟨f,m'⟩:=S
         dsimp only at HPV hpv hi2
         obtain ⟨hf0,hdn⟩:=hpv
         subst hf0
         rw [lL] at HPV
         have b1 : (kind == 2) = false:=by rw [zb]; exact hk2
         have b2 : (kind != 2) = true:=by rw [bne_iff_ne]; exact hk2
         have HDN:=zh (And.intro hdn hi2)
         clear hst hgd hgi hrn hi2 hdn hk2 hyy hsv
         by_cases h00 : n0 = 0
         case' pos=>have z1 : ((n0 : Int) == 0) = true:=by rw [beq_iff_eq]; omega
         case' neg=>have z1 : ((n0 : Int) == 0) = false:=by rw [zb]; omega
         all_goals
          clear h00
          go_wp2_with fail
          clear hc3 z1
          refine (HSCR.out _ _ hown).mono ?_
          rintro e w7 ⟨rfl,hx7,h7⟩
          go_upto_region 29 with (fail)
          have h8:=lf h7 (.cells #[.int .i64 kind,.int .i64 sf2,.int .i64 3,.int .i64 0] 47)
          have hx8:=((hxr).trans hx7).alloc (.cells #[.int .i64 kind,.int .i64 sf2,.int .i64 3,.int .i64 0] 47)
          generalize w7.alloc (.cells #[.int .i64 kind,.int .i64 sf2,.int .i64 3,.int .i64 0] 47) = w8 at *
          generalize w7.heap.size = xb at *
          have c2:=(la 0 h8 rfl).1 2
          have c3:=(la 0 h8 rfl).1 3
          have h9:=lg h8
          clear h7 h8 hx7
          go_wp2_with fail
          refine (HPV.out _ _ h9).mono ?_
          rintro e wb ⟨Yb,hyb,rfl,hxb,hb⟩
          have HYB:=zh hyb
          clear HPV h9 c2 c3 hyb
          go_wp2_with fail
          refine (HIS.out _).mono ?_
          rintro e w' ⟨rfl,rfl⟩
          obtain ⟨hdn,hi2⟩:=HDN.out
          obtain ⟨ek,ef,hes⟩:=Ep hdn
          have hcl:=hi2.t.cl0 hdn.g.ok
          have hsw:=hi2.saw hdn.g.ok (by omega)
          have hal:=hi2.all hdn.g.ok (by omega)
          have hr0:=(Dd hi2.t hdn.g.ok (by omega)).1
          have hok:=hdn.g.ok
          have HSC:=zh (fun R w H=>by have h2:=zB Yb m' hok.jok R w H; rw [HYB.out,hes] at h2; exact h2)
          have HSE:=zh (fun R w H=>by have h2:=Bc _ Yb m' hok (by omega) R w H; rw [HYB.out,hcl,Int.mul_comm c 4] at h2; exact h2)
          have HRD:=zh (fun R w H=>by have h2:=EO _ Yb m' hok (by omega) 0 (4 * c) (by unfold oy; omega) (by unfold oy; omega) R w H; rw [HYB.out,hr0,lL] at h2; exact h2)
          generalize (getM m'.F m'.list 0 (4 * c)).1 = s at *
          have HSS:=zh (fun R w H=>F7 gb vn vc nv cv g s hal (by have:=HNN.out; omega) HLS.out (by omega) R w H)
          have hsf:=C6 ek ef 4 0
          clear hes hcl hsw hal hr0 hok hdn hi2
          clear HDN HYB
          go_wp2_with fail
          refine (HSE.out _ _ hb).mono ?_
          rintro e wc ⟨rfl,hxc,hc⟩
          go_wp2_with fail
          refine (HRD.out _ _ hc).mono ?_
          rintro e wd ⟨rfl,hxd,hd⟩
          go_wp2_with fail
          refine (HSS.out _ _ (L2 hd)).mono ?_
          rintro e we ⟨nve,rfl,hxe,he⟩
          go_wp2_with fail
          refine (HSC.out _ _ (yg_0 he)).mono ?_
          rintro e wf ⟨rfl,hxf,hf⟩
          go_wp2_with fail
          go_ret
          exact ⟨rfl,AX 1 (CF hf) rfl ((((hx8.trans hxb).trans hxc).trans hxd).trans hxe |>.trans hxf)⟩
       ·obtain ⟨k,hk⟩ : ∃k,n = k + 1:=⟨n - 1,by omega⟩
        have hgd:=hst.good
        have hrn : Run c (10 + 1000 * l.length + 1 + 1 + 10 * (n0 - n)) kind (k + 1) m:=by rw [hk] at hst ⊢; exact hst.run
        have hNX:=fun h6=>(show St c (10 + 1000 * l.length + 1 + 1 + 10 * (n0 - n)) kind n0 (k + 1) m by rw [hk] at hst ⊢; exact hst).next (by omega) (by omega) h6
        have h6x : (lZ m).1.2 = 6 -> ∃j,(lZ m).2.job = some j /\ j.st = 5:=fun e=>by
         rcases JX hrn (by omega) with h | h
         ·exact h.2
         ·rw [h.1] at e; cases e
        have hg2:=BK hgd (by omega)
        have hi2:=hgi.step hgd (by omega)
        have HSB:=zh (fun R w H=>by have h2:=zB Y m hgd.ok.jok R w H; rw [hyy] at h2; exact h2)
        obtain ⟨sf2,hsv⟩:=Gd hrn
        rw [hsv,zq (by omega),<- hk] at HSB
        have HSP:=zh (fun wz H=>by have h2:=Ei _ Y m hgd.ok (by omega) (hgd.linkOk (by omega)) (gL gb vn vc nv cv g++(pts jb (.cells #[.int .i64 kind,.int .i64 sf,.int .i64 s0,.int .i64 (n0 : Int)] 47 (0,0))::[o5 w])) (BY HT6.out (gL gb vn vc nv cv g)) wz H; unfold Gh at h2; rw [hyy] at h2; exact h2)
        generalize lZ m = S at *
        obtain ⟨⟨did,f⟩,m'⟩:=S
        dsimp only at HSP hNX h6x hg2 hi2
        clear hgd hrn hst hgi hyy hsv
        have p1 : (0 : Int) < (n : Int):=by omega
        have p2 : (n : Int) <= 64:=by omega
        have HI2:=zh (And.intro hNX (And.intro hi2 hg2.ok.jok))
        have HK:=zh hk
        clear hNX hi2 hg2 hk
        go_wp2_with fail
        refine (HSB.out _ _ hown).mono ?_
        rintro e w7 ⟨rfl,hx7,h7⟩
        clear hown HSB
        go_upto_region 19 with (fail)
        have h8:=lf h7 (.cells #[.int .i64 kind,.int .i64 sf2,.int .i64 1,.int .i64 (n : Int)] 47)
        have hx8:=(hxr.trans hx7).alloc (.cells #[.int .i64 kind,.int .i64 sf2,.int .i64 1,.int .i64 (n : Int)] 47)
        generalize w7.alloc (.cells #[.int .i64 kind,.int .i64 sf2,.int .i64 1,.int .i64 (n : Int)] 47) = w8 at *
        generalize w7.heap.size = xb at *
        have c2:=(la 0 h8 rfl).1 2
        have c3:=(la 0 h8 rfl).1 3
        have h9:=lg h8
        clear h7 h8 hxr hx7
        go_wp2_with fail
        refine (HSP.out _ h9).mono ?_
        rintro e wa ⟨Ya,hya,rfl,hxa,ha⟩
        have HYA:=zh hya
        clear h9 HSP hya c2 c3
        by_cases hf : f = 6
        ·subst hf
         obtain ⟨ek,ef,en,hes⟩:=P0 (h6x rfl)
         have HSC:=zh (fun R w H=>by have h2:=zB Ya m' HI2.out.2.2 R w H; rw [HYA.out,hes] at h2; exact h2)
         have HIS:=zh (fun w=>JQ 6 6 w (by decide))
         rw [zg rfl,lu (by decide)] at HIS
         rw [lu (show (0 : Int) < 6 by decide)]
         have hsf:=C6 ek ef 5 en
         clear hes h6x
         go_wp2_with fail
         refine (HIS.out _).mono ?_
         rintro e w' ⟨rfl,rfl⟩
         go_wp2_with fail
         refine (HSC.out _ _ ha).mono ?_
         rintro e wb ⟨rfl,hxb,hb⟩
         go_wp2_with fail
         go_ret
         exact ⟨rfl,AX 1 (CF hb) rfl ((hx8.trans hxa).trans hxb)⟩
        ·obtain ⟨e0,hst2⟩:=HI2.out.1 hf
         rw [e0,lL]
         have HST2:=zh hst2
         clear h6x hf e0 hst2
         go_wp2_with fail
         have hk:=HK.out
         go_roundw
         case rel=>exact ⟨k,Ya,m',by omega,by go_num,HYA.out,by rw [show n0 - k = n0 - n + 1 by omega,Nat.mul_add]; exact HST2.out,HI2.out.2.1,hx8.trans hxa,ha⟩
         case measure=>simp [intOf]; omega
     ·have hp : 0 < f2:=by omega
      rw [lu hp] at HS
      clear hm2 hi2 hrs hcd hf
      go_wp2_with fail
      refine (HS.out _ _ h3).mono ?_
      rintro e w4 ⟨Y2,hy2,rfl,hx4,h4⟩
      clear hy2
      go_wp2_with fail
      go_ret
      exact ⟨rfl,AX 0 (CF h4) rfl ((hxr.trans hx3).trans hx4)⟩
  ·have HM:=zh (QT c p hb w)
   have hd : decide (c < 1) = true \/ (decide (c < 1) = false /\ decide (32 < c) = true) \/ (decide (c < 1) = false /\ decide (32 < c) = false /\ decide (p < 0) = true) \/ (decide (c < 1) = false /\ decide (32 < c) = false /\ decide (p < 0) = false /\ decide (40 < p) = true):=by
    simp only [decide_eq_true_eq,decide_eq_false_iff_not]
    omega
   clear hb
   rcases hd with d0 | ⟨d0,d1⟩ | ⟨d0,d1,d2⟩ | ⟨d0,d1,d2,d3⟩
   all_goals
    go_wp2_with fail
    refine HM.out.mono ?_
    rintro e w' ⟨rfl,rfl⟩
    go_wp2_with fail
    go_ret
    exact ⟨rfl,AX 0 h0 rfl (zR w)⟩
 ·rw [Bool.not_eq_true] at hL
  rw [hL]
  clear hL
  go_wp2_with fail
  go_ret
  exact ⟨rfl,AX 0 h0 rfl (zR w)⟩
end Go.Proofs.YtbpblokfiajpjabGreatDoor
namespace Go.Proofs.YtbpblokfiajpjabGreatDoor
open Go.ChangeShapes Go.WideShapes Go.ChangeAt Go.RowKit
theorem PP : Rows.laid_math_bits_deBruijn64tab (H:=Unit) = .agg (Lib.deBruijn64tab.map fun (n : Nat)=>.lit (.int .u8 (n : Int))):=by kernel_rfl
theorem OU {W : World} (h : laidMetH Tryz.prog [("math/bits.deBruijn64tab", Rows.laid_math_bits_deBruijn64tab)] W) : Ak W := by
 intro r hr
 rw [MakeChecks.laidMetH_plain _ _ _ (by kernel_rfl)] at h
 obtain ⟨ps,⟨g,t,cs,fuel,p,q,hg,ht,hv,hd,_,_⟩,_,_⟩:=h
 obtain rfl := Option.some.inj ((show Tryz.prog.globalNamed "math/bits.deBruijn64tab" = some 0 by kernel_rfl).symm.trans hg)
 obtain rfl:=Option.some.inj ((show (Tryz.prog.globals[0]?).map (·.type) = some 291 by kernel_rfl).symm.trans ht)
 obtain ⟨xs,m,_,ex,_,hl,hel⟩:=DataW.trod_array Tryz.underlying291 hd
 have c5 : Tryz.prog.cellsOf 5 = 1:=by kernel_rfl
 have hE:=hel r hr
 rw [c5,Nat.mul_one,List.getElem?_eq_getElem (by omega)] at hE
 obtain ⟨z,e1,e2,_⟩:=DataW.trod_int Tryz.underlying5 hE
 have hlen : Lib.deBruijn64tab.length = 64:=by decide
 rw [PP] at ex
 have e3 : (xs.map (·.1)) = Lib.deBruijn64tab.map fun (n : Nat)=>.lit (.int .u8 (n : Int)):=(DataW.agg.inj (Prod.mk.inj ex).1).symm
 have e4 : (xs.map (·.1))[r]? = (Lib.deBruijn64tab.map fun (n : Nat)=>(DataW.lit (.int .u8 (n : Int)) : DataW Unit))[r]?:=by rw [e3]
 rw [List.getElem?_map,List.getElem?_map,List.getElem?_eq_getElem (by omega : r < xs.length),List.getElem?_eq_getElem (by omega : r < Lib.deBruijn64tab.length),e2] at e4
 have hz : z = ((Lib.deBruijn64tab.getD r 0 : Nat) : Int):=by
  simp only [Option.map_some,Option.some.injEq,DataW.lit.injEq,Lit.int.injEq,true_and] at e4
  rw [e4,List.getD,List.getElem?_eq_getElem (by omega : r < Lib.deBruijn64tab.length)]; rfl
 rw [World.var?_cell hg hv r,<- hz]
 have : cs.toList[r]? = some (.int .u8 z):=by
  have h0 : ((cs.toList.drop r).take 1)[0]? = some (.int .u8 z):=by rw [e1]; rfl
  simpa using h0
 simpa using this
end Go.Proofs.YtbpblokfiajpjabGreatDoor
namespace Go.Proofs.YtbpblokfiajpjabGreatDoor.topEndsDone
open Go.ChangeShapes Go.WideShapes Go.ChangeAt Go.RowKit
open Go.ChangeMaps (open_string shut_string)
set_option linter.unusedVariables false
theorem own : ownKnob Tryz.prog.godebug = none:=by kernel_rfl
theorem QN : laidOutB Tryz.prog = true:=by kernel_rfl
theorem SI (os : Os) (started : os.Started) (H : Type) (enc : TypeId×Value -> H) :
  ReturnsInHanded {} Tryz.checked os 8 .any (fun w args=>(Rows.topEndsSpec.pre enc Tryz.prog Tryz.f8 Rows.topEndsRow.domain false w args /\ laidMetH Tryz.prog Rows.topEndsRow.laid w) /\ sizedMet enc Tryz.prog Tryz.f8 (OpenSpec.ofChange Rows.topEndsSpec) false w args)
   (Rows.topEndsSpec.post enc Tryz.prog Tryz.f8 false true false false):=by
 refine returnsInHanded_of_change_and (C:=Tryz.checked) (X:=fun w _=>laidMetH Tryz.prog Rows.topEndsRow.laid w) (fun _ _ _ hh h=>h.of_heap hh) own started (by kernel_rfl) Tryz.func8
  (ChangeSpec.witness_shaped (enc:=enc) (C:=Tryz.checked) (os:=os) (X:=fun w _=>laidMetH Tryz.prog Rows.topEndsRow.laid w) false (World.laidAll Tryz.prog os Rows.topEndsRow.laid) #[.int .i64 0,.int .i64 0,.slice none 0 0,.int .i64 0,.int .i64 0] 8 (World.laidAll_os _ _ _)
   (World.shaped_of_ZipB (by kernel_rfl) (by kernel_rfl)) (by kernel_rfl) (by kernel_rfl) (by kernel_rfl)
   (by rw [MakeChecks.laidMetH_plain _ _ _ (by kernel_rfl)]; exact laidMet_laidAll _ (by kernel_rfl) (by kernel_rfl))) ?_
 intro W base args ds gs before hval0 hW hcnd _ hL _
 have hval : ∀(j : Nat) t v,Tryz.f8.params[j]? = some t -> args[j]? = some v -> Value.okWide Tryz.prog W .any base t v:=hval0
 have hW':=hW
 obtain ⟨p,q,hA0,hV,rfl,hfz,hnd⟩:=hW
 have hA : DataW.TrodAll enc Tryz.prog W 0 (fun _=>true) true Tryz.f8.params.toList args.toList ds p:=hA0
 rw [Tryz.params8] at hA hval
 obtain ⟨v0,vs0,d0,ds0,p0,q0,hargs,rfl,rfl,h0,r0⟩:=trodAll_cons hA
 obtain ⟨v1,vs1,d1,ds1,p1,q1,rfl,rfl,rfl,h1,r1⟩:=trodAll_cons r0
 obtain ⟨v2,vs2,d2,ds2,p2,q2,rfl,rfl,rfl,h2,r2⟩:=trodAll_cons r1
 obtain ⟨v3,vs3,d3,ds3,p3,q3,rfl,rfl,rfl,h3,r3⟩:=trodAll_cons r2
 obtain ⟨v4,vs4,d4,ds4,p4,q4,rfl,rfl,rfl,h4,r4⟩:=trodAll_cons r3
 obtain ⟨rfl,rfl,rfl⟩:=trodAll_nil r4
 obtain rfl : args = #[v0,v1,v2,v3,v4]:=by cases args; simp_all
 obtain ⟨rfl,rfl⟩:=trodVars_none hV
 obtain ⟨a0,rfl,rfl,rfl,k0⟩:=open_int Tryz.underlying3 (hval 0 3 v0 rfl rfl) h0
 obtain ⟨a1,rfl,rfl,rfl,k1⟩:=open_int Tryz.underlying3 (hval 1 3 v1 rfl rfl) h1
 obtain ⟨ao2,len2,cap2,rfl⟩:=okWide_slice Tryz.underlying25 (hval 2 25 v2 rfl rfl)
 have t2:=h2
 have lt2 : ∀x∈p2,x.block < W.heap.size:=by obtain ⟨m,hm⟩:=t2; exact DataW.trod_lt m _ _ _ hm
 obtain ⟨a2,k2⟩ : ∃l,Ba W (.slice ao2 len2 cap2) l:=by
  obtain ⟨fuel,hf⟩:=h2
  exact Od hf
 obtain ⟨a3,rfl,rfl,rfl,k3⟩:=open_int Tryz.underlying3 (hval 3 3 v3 rfl rfl) h3
 obtain ⟨a4,rfl,rfl,rfl,k4⟩:=open_int Tryz.underlying3 (hval 4 3 v4 rfl rfl) h4
 clear hA0 hval0
 refine (Kw a0 a1 a3 a4 _ a2 W k2 (OU hL)).mono fun e W' ⟨he,bel⟩=>?_
 subst he
 exact ⟨_,rfl,_,_,_,[],_,[],hW',trodAll_mk1 (shut_bool Tryz.underlying4 _),(trodAll_cons_mk (shut_int Tryz.underlying3 k0) (trodAll_cons_mk (shut_int Tryz.underlying3 k1) (trodAll_cons_mk (Below.trod QN (by kernel_rfl) (of_decide_eq_true (by kernel_rfl)) t2 bel lt2) (trodAll_cons_mk (shut_int Tryz.underlying3 k3) (trodAll_cons_mk (shut_int Tryz.underlying3 k4) trodAll_mk0))))),rfl,bel.frame _,fun h=>by cases h⟩
theorem andB {a b : Bool} (ha : a = true) (hb : b = true) : (a && b) = true:=by rw [ha,hb]; rfl
theorem S6 : Rows.topEndsRow.wf (OpenSpec.ofChange Rows.topEndsSpec) = true:=by kernel_rfl
theorem SK : laidOutB Tryz.prog = true:=by kernel_rfl
theorem SZ : mapsRowed Tryz.prog = true:=by kernel_rfl
theorem SM : Tryz.f8.params.all (Tryz.prog.readableRec ·) = true:=by kernel_rfl
theorem S0 : namedTie Tryz.prog Rows.topEndsRow.named Rows.topEndsSpec.vars = true:=by kernel_rfl
theorem SW : (Rows.topEndsRow.stops == []) = true:=by kernel_rfl
theorem S3 : (Tryz.prog.stops == []) = true:=by kernel_rfl
theorem Tb : (Rows.topEndsRow.knobs == []) = true:=by kernel_rfl
theorem S5 : (Tryz.prog.stopKnobs == []) = true:=by kernel_rfl
theorem SV : (Rows.topEndsRow.inPlace == Tryz.prog.inPlace 8) = true:=by kernel_rfl
theorem Sw : (Rows.topEndsRow.unfollowed == Tryz.prog.unfollowed 8) = true:=by kernel_rfl
theorem Q2 : (Rows.topEndsRow.recurses == Tryz.prog.recurses 8) = true:=by kernel_rfl
theorem Sf : (Rows.topEndsRow.named == Tryz.prog.varsNamed 8) = true:=by kernel_rfl
theorem SB : (Rows.topEndsRow.maps == (Tryz.f8.params.toList++Rows.topEndsSpec.plain.varTypes Tryz.prog).any (Tryz.prog.mapsRec ·)) = true:=by kernel_rfl
theorem Sh : (Rows.topEndsRow.ifaces == (Tryz.f8.params.toList++Rows.topEndsSpec.plain.varTypes Tryz.prog).any (Tryz.prog.ifacesRec ·)) = true:=by kernel_rfl
theorem Q3 : (Rows.topEndsRow.mapsOut == Tryz.prog.mapsAmong Tryz.f8.resultTypes.toList) = true:=by kernel_rfl
theorem QY : (Rows.topEndsRow.loops == (Tryz.f8.params.toList++Rows.topEndsSpec.plain.varTypes Tryz.prog).any (Tryz.prog.loopsFrom ·)) = true:=by kernel_rfl
theorem Sg : (Rows.topEndsRow.wideKeys == (Tryz.f8.params.toList++Rows.topEndsSpec.plain.varTypes Tryz.prog++Tryz.f8.resultTypes.toList).any (Tryz.prog.wideKeysFrom ·)) = true:=by kernel_rfl
theorem So : Rows.topEndsSpec.vars.all (Tryz.prog.varReadable ·) = true:=by kernel_rfl
theorem Sr : Tryz.f8.resultTypes.all (fun t=>Tryz.prog.readableRec t && decide (t < Tryz.prog.types.size)) = true:=by kernel_rfl
theorem Sb : (Rows.topEndsRow.ifacesOut == Tryz.f8.resultTypes.toList.any (Tryz.prog.ifacesRec ·)) = true:=by kernel_rfl
theorem Q0 : (Rows.topEndsRow.loopsOut == Tryz.f8.resultTypes.toList.any (Tryz.prog.loopsFrom ·)) = true:=by kernel_rfl
theorem SA : (Rows.topEndsRow.plainKeys == Tryz.prog.plainKeys) = true:=by kernel_rfl
theorem Sx : Rows.topEndsRow.shortTexts.isNone = true:=by kernel_rfl
theorem Q6 : Tryz.prog.stopsHeard = true:=by kernel_rfl
theorem Sk : Tryz.prog.mayEnter = true:=by kernel_rfl
theorem Sn : (Rows.topEndsRow.lifted == Tryz.prog.liftsFinal) = true:=by kernel_rfl
theorem Sl : (Tryz.prog.make == some Rows.topEndsRow.make) = true:=by kernel_rfl
theorem Sv : (Rows.topEndsRow.kinds == (if Rows.topEndsRow.domain.isEmpty then [] else Tryz.f8.params.toList.map fun t=>match Tryz.prog.underlying t with | some (.int k)=>some k | _=>none)) = true:=by kernel_rfl
theorem Q1 : (Rows.topEndsRow.pinned == Rows.topEndsRow.pinnedBy) = true:=by kernel_rfl
theorem Sc : (Rows.topEndsRow.veiled == (Tryz.f8.params.toList++Rows.topEndsSpec.plain.varTypes Tryz.prog++Tryz.f8.resultTypes.toList).any (Tryz.prog.veiledRec ·)) = true:=by kernel_rfl
theorem QZ : Rows.topEndsRow.veiledFits Tryz.prog Tryz.f8.params.toList (Tryz.f8.params.toList++Rows.topEndsSpec.plain.varTypes Tryz.prog++Tryz.f8.resultTypes.toList) = true:=by kernel_rfl
theorem Q4 : joinedFacts Tryz.prog 8 Tryz.f8 Rows.topEndsSpec Rows.topEndsRow = true:=by
 unfold joinedFacts
 exact (andB (andB (andB (andB (andB (andB (andB (andB (andB (andB (andB (andB (andB (andB (andB (andB (andB (andB (andB (andB (andB (andB (andB (andB (andB (andB (andB (andB (andB (andB (andB S6 SK) SZ) SM) S0) SW) S3) Tb) S5) SV) Sw) Q2) Sf) SB) Sh) Q3) QY) Sg) So) Sr) Sb) Q0) SA) Sx) Q6) Sk) Sn) Sl) Sv) Q1) Sc) QZ)
theorem Qh : Tryz.prog.funcNamed Rows.topEndsRow.func = some 8:=by kernel_rfl
theorem over : Rows.topEndsRow.holds Tryz.pinned (OpenSpec.ofChange Rows.topEndsSpec):=
 OpenClaim.holds_of_wide 8 Tryz.f8 rfl rfl rfl rfl rfl rfl rfl ⟨rfl,rfl,rfl,rfl,rfl⟩ rfl rfl rfl rfl rfl Qh Tryz.func8 Q4
  (of_decide_eq_true (by kernel_rfl)) (by unfold Func.isWrapper; first | (rw [zt (by decide +kernel)]; kernel_rfl) | (rw [zq (by decide +kernel)]; exact ⟨rfl,rfl⟩))
  (fun os started H enc _=>SI os started H enc)
theorem proved : Rows.TopEndsCardSaid:=
 Claim7.holds_tied_plain_at .later [] _ _ _ _ over (fun _ h=>by cases h) (by kernel_rfl) (fun _ h=>by cases h) topEnds_row_tie rfl ⟨rfl,rfl⟩ (by kernel_rfl) rfl
  (fun f fn hf hfn=>by
   obtain rfl : f = 8 := Option.some.inj ((show Tryz.prog.funcNamed "stackyard/stackyardtop.TopEnds" = some 8 by kernel_rfl).symm.trans hf) |>.symm
   obtain rfl : fn = Tryz.f8:=(Option.some.inj (Tryz.func8.symm.trans hfn)).symm
   exact ⟨by kernel_rfl,fun j t ht=>by
    rw [Tryz.params8] at ht
    have hm : t∈[3,25]:=by
     have:=Array.mem_of_getElem? ht
     simp only [List.mem_toArray,List.mem_cons,List.mem_nil_iff,or_false] at this ⊢
     rcases this with h|h|h|h|h <;> simp [h]
    have hall : ([3,25].all fun u=>!Tryz.prog.wantsStandIn u) = true:=by kernel_rfl
    exact (show Tryz.prog.wantsStandIn t = false by simpa using List.all_eq_true.1 hall t hm)⟩)
  (by kernel_rfl)
#print axioms proved
end Go.Proofs.YtbpblokfiajpjabGreatDoor.topEndsDone
