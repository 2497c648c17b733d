/- Lemmas on which TopEnds stands: the texts Chain21 Jobs16 JobsSaysLaw Yard10 Yard11 Yard12 Yard13 YardP3 YardT2. No conditions. -/
import Derived.Test.YtbpblokfiajpjabGreatDoorPk902d690a37
set_option linter.all false
set_option maxRecDepth 1000000
set_option maxHeartbeats 32000000
namespace Go.Proofs.YtbpblokfiajpjabGreatDoor
open Go.RowKit Go.SL Go.Crc
attribute [local go_sem ↓] Go.wp_at_zero Go.wp_at_succ
theorem C6 (a b c d : Int) (w : World) : (Instr.field 47 (.agg #[.int .i64 a,.int .i64 b,.int .i64 c,.int .i64 d]) 2).run Tryz.prog w = .ok (.int .i64 c) w:=by kernel_rfl
theorem IJ (F : ShM) (root kind file rate burst : Int) : 0 <= (newM F root kind file rate burst).2:=by
 have : 0 <= (lk F root).2:=Aa
 unfold newM
 repeat' split
 all_goals first | exact this | simp
theorem QA {w : World} (a c d : List SL.HP) {R : List SL.HP} (H : own w (a++(c++(d++R)))) : own w (a++(d++(c++R))):=by
 have h1:=lp a (c++d) (R:=R) (by simpa only [zp] using H)
 have h2:=lp c (d++a) (R:=R) (by simpa only [zp] using h1)
 have h3:=lp d a (R:=c++R) (by simpa only [zp] using h2)
 exact h3
theorem N9 {Y : YA} {m : ld} {j : JobM} {bj bt bb : Nat} {v : Value} {R : List SL.HP} {w : World}
  (H : own w (yL Y m (jobL Y.bs bj bt bb v j++(row 3 1 v j.list.length (lr j.list)::R)))) :
  own (w.setCell ⟨Y.y,13,none⟩ (.pointer (some ⟨bj,0,none⟩))) (yL { Y with bj:=bj,bt:=bt,bb:=bb,vj:=v } { m with job:=some j } R):=by
 have h1:=ln (i:=13) (v:=.pointer (some ⟨bj,0,none⟩)) 6 H rfl
 have h2:=le 14 h1 rfl
 have h3 : own (w.setCell ⟨Y.y,13,none⟩ (.pointer (some ⟨bj,0,none⟩))) ((yL { Y with bj:=bj,bt:=bt,bb:=bb,vj:=v } { m with job:=some j } R).take 14++((jobL Y.bs bj bt bb v j++[row 3 1 v j.list.length (lr j.list)])++R)):=by
  rw [zp]
  exact h2
 have h4:=lp _ (jobL Y.bs bj bt bb v j++[row 3 1 v j.list.length (lr j.list)]) h3
 have h5:=AF (jobL Y.bs bj bt bb v j++[row 3 1 v j.list.length (lr j.list)]) h4
 exact lD ((yL { Y with bj:=bj,bt:=bt,bb:=bb,vj:=v } { m with job:=some j } R).take 14) h5
theorem QJ {F : ShM} {root kind file rate burst : Int} (h : (newM F root kind file rate burst).1 = none) : (newM F root kind file rate burst).2≠0:=by
 revert h
 unfold newM
 repeat' split
 all_goals intro h
 all_goals first | assumption | (cases h; done) | simp
theorem Gx (r k f a b : Int) : 0 <= yz r k f a b:=by
 unfold yz
 split
 ·decide
 ·split <;> decide
theorem Gl (N : Nat) (Y : YA) (m : ld) (hm : YOk N m) (hN : N < 900000) (kind file rate burst : Int) (R : List SL.HP) (w : World) (H : own w (yL Y m R)) :
  Calls Tryz.prog 46 #[.pointer (some ⟨Y.y,0,none⟩),.int .i64 kind,.int .i64 file,.int .i64 rate,.int .i64 burst] w (yj Y (yv m kind file rate burst) R w):=by
 have HB:=zh (zH Y m R w H)
 generalize hres : yv m kind file rate burst = res
 unfold yv at hres
 cases hb : yY m with
 | true=>
  rw [zt hb] at hres
  subst hres
  rw [hb] at HB
  clear hb
  go_enter Tryz.func46,Tryz.ntmps46
  go_wp2_with fail
  refine HB.out.mono ?_
  rintro e w' ⟨rfl,rfl⟩
  go_wp2_with fail
  go_ret
  exact ⟨Y,rfl,rfl,zR _,H⟩
 | false=>
  rw [zq (by rw [hb]; decide)] at hres
  rw [hb] at HB
  have cr:=yW H
  have h1:=Fa (.cells #[.int .i64 m.dk.root,.int .i64 kind,.int .i64 file,.int .i64 rate,.int .i64 burst] 24) H
  have hx1:=(zR w).alloc (.cells #[.int .i64 m.dk.root,.int .i64 kind,.int .i64 file,.int .i64 rate,.int .i64 burst] 24)
  have HRES:=zh hres
  have HM:=zh hm
  clear hb hres hm
  go_enter Tryz.func46,Tryz.ntmps46
  go_wp2_with fail
  refine HB.out.mono ?_
  rintro e w' ⟨rfl,rfl⟩
  go_upto_region 4 with (fail)
  generalize w.heap.size = g at *
  generalize w.alloc (.cells #[.int .i64 m.dk.root,.int .i64 kind,.int .i64 file,.int .i64 rate,.int .i64 burst] 24) = w1 at *
  by_cases hk : kind = 0
  ·have d0 : (kind == 0) = true:=by rw [hk]; rfl
   rw [zt hk] at HRES
   clear hk cr
   go_wp2_with fail
   go_ret
   rw [<- HRES.out]
   exact ⟨Y,rfl,rfl,hx1,zC h1⟩
  ·have d0 : (kind == 0) = false:=by rw [zb]; exact hk
   rw [zq hk] at HRES
   have HCD:=zh (fun R' w' h=>D2 m.dk.root kind file rate burst R' w' h)
   have hdc:=Gx m.dk.root kind file rate burst
   have HK:=zh hk
   have c0:=(la 15 h1 rfl).1 0
   have c1:=(la 15 h1 rfl).1 1
   have c2:=(la 15 h1 rfl).1 2
   have c3:=(la 15 h1 rfl).1 3
   have c4:=(la 15 h1 rfl).1 4
   unfold zQ at HCD
   have HDF : Hid ((l6.mk m.dk.root kind file rate burst).f = yz m.dk.root kind file rate burst):=zh rfl
   generalize hdf : yz m.dk.root kind file rate burst = df at *
   clear hk cr hdf
   go_wp2_with fail
   refine (HCD.out _ _ h1).mono ?_
   rintro e w2 ⟨rfl,hx2,h2⟩
   clear c0 c1 c2 c3 c4
   by_cases hd : df = 0
   ·subst hd
    rw [zq (by decide)] at HRES
    rw [lL]
    have hm:=HM.out
    have hl5 : (lk m.F m.dk.root).1.length <= 5:=Cr
    have hsh:=hm.sh.sh hN
    have HNW:=zh (fun R' w' h=>Pj Y.bs Y.A m.F hsh m.dk.root kind file rate burst hl5 R' w' h)
    have hnc:=IJ m.F m.dk.root kind file rate burst
    have hgood : ∀j,(newM m.F m.dk.root kind file rate burst).1 = some j -> j.Ok /\ JobS m.F j:=fun j h=>Jq hsh hl5 h
    have hnz:=@QJ m.F m.dk.root kind file rate burst
    generalize newM m.F m.dk.root kind file rate burst = NJ at *
    obtain ⟨oj,nf⟩:=NJ
    dsimp only at HRES hnc hgood hnz
    have HGOOD:=zh hgood
    have NZ:=zh hnz
    have hz:=lj h2
    have hxz:=(hx1.trans hx2).drew
    have s6:=y_bs hz
    have s0:=(la 15 hz rfl).1 0
    have s1:=(la 15 hz rfl).1 1
    have s2:=(la 15 hz rfl).1 2
    have s3:=(la 15 hz rfl).1 3
    have s4:=(la 15 hz rfl).1 4
    clear hgood hnz hm hl5 hsh h1 hx1 h2 hx2
    go_upto_region 9 with (fail)
    refine wp_region_held_drew (S:=fun w'=>w'.cell? ⟨Y.y,6,none⟩ = some (.pointer (some ⟨Y.bs,0,none⟩)) /\ w'.cell? ⟨g,0,none⟩ = some (.int .i64 m.dk.root) /\ w'.cell? ⟨g,1,none⟩ = some (.int .i64 kind) /\ w'.cell? ⟨g,2,none⟩ = some (.int .i64 file) /\ w'.cell? ⟨g,3,none⟩ = some (.int .i64 rate) /\ w'.cell? ⟨g,4,none⟩ = some (.int .i64 burst)) (by kernel_rfl) ⟨s6,s0,s1,s2,s3,s4⟩ (fun hHeld=>?_)
    refine tk 0 ?_
    refine tk 1 ?_
    refine tk 2 ?_
    refine tk 3 ?_
    refine tk 4 ?_
    try simp only [Act.put,tA,tB,tC,tD,tE,tF]
    refine rd 5 rfl fun K hK=>?_
    clear s6 s0 s1 s2 s3 s4
    go_simp
    go_at_call 15
    refine (HNW.out _ _ hz).mono ?_
    cases oj with
    | none=>
     rintro e w3 ⟨rfl,hx3,h3'⟩
     have h3 : own w3 (yL Y m (pts g (.cells #[.int .i64 m.dk.root,.int .i64 kind,.int .i64 file,.int .i64 rate,.int .i64 burst] 24 (0,0))::R)):=h3'
     have s6:=y_bs h3
     have s0:=(la 15 h3 rfl).1
     go_simp
     refine hK.out _ _ ⟨s6,s0 0,s0 1,s0 2,s0 3,s0 4⟩ (fun _=>?_)
     clear hK K s6 s0
     try simp only [Act.put,tA,tB,tC,tD,tE,tF]
     refine tk 6 ?_
     refine tk 7 ?_
     refine tk 8 ?_
     refine tk 9 ?_
     refine tk 10 ?_
     try simp only [Act.put,tA,tB,tC,tD,tE,tF]
     refine wpAnyH_done (by kernel_rfl) ?_ _
     have hnz : nf≠0:=NZ.out rfl
     dsimp only at HRES
     rw [lu (e:=nf) (by omega)]
     go_wp2_with fail
     go_ret
     rw [<- HRES.out]
     exact ⟨Y,rfl,by rw [lu (e:=nf) (by omega)]; rfl,hxz.trans hx3,zC h3⟩
    | some j=>
     rintro e w3 ⟨bj,bt,bb,v,rfl,hx3,h3'⟩
     have h3 : own w3 (yL Y m (jobL Y.bs bj bt bb v j++(row 3 1 v j.list.length (lr j.list)::(pts g (.cells #[.int .i64 m.dk.root,.int .i64 kind,.int .i64 file,.int .i64 rate,.int .i64 burst] 24 (0,0))::R)))):=by
      have:=QA (shL Y.bs Y.A m.F) (jobL Y.bs bj bt bb v j++[row 3 1 v j.list.length (lr j.list)]) (yT Y m) (R:=pts g (.cells #[.int .i64 m.dk.root,.int .i64 kind,.int .i64 file,.int .i64 rate,.int .i64 burst] 24 (0,0))::R) (by rw [zp]; exact h3')
      rw [zp] at this
      exact this
     have s6:=y_bs h3
     have s0:=(la 19 h3 rfl).1
     go_simp
     refine hK.out _ _ ⟨s6,s0 0,s0 1,s0 2,s0 3,s0 4⟩ (fun _=>?_)
     clear hK K s6 h3'
     try simp only [Act.put,tA,tB,tC,tD,tE,tF]
     refine tk 6 ?_
     refine tk 7 ?_
     refine tk 8 ?_
     refine tk 9 ?_
     refine tk 10 ?_
     try simp only [Act.put,tA,tB,tC,tD,tE,tF]
     refine wpAnyH_done (by kernel_rfl) ?_ _
     have c0:=s0 0
     have c1:=s0 1
     have c2:=s0 2
     have c3:=s0 3
     have c4:=s0 4
     clear s0
     obtain ⟨hjo,hjs⟩:=HGOOD.out j rfl
     have hto:=HM.out.tp.1
     have htw:=HM.out.tp.2.1
     have htp:=HM.out.tp.2.2.1
     have HW:=zh (fun R' w' h=>zN Y m hto (by omega) (by omega) ⟨m.dk.root,kind,file,rate,burst⟩ HDF.out R' w' h)
     have hwc:=BM m ⟨m.dk.root,kind,file,rate,burst⟩
     dsimp only at HRES
     unfold l6.v zQ at HW
     generalize lm m ⟨m.dk.root,kind,file,rate,burst⟩ = W at *
     obtain ⟨wc,m2⟩:=W
     dsimp only at hwc HW HRES
     have hx4:=hxz.trans hx3
     clear hz hxz hx3 hto htw htp
     go_wp2_with fail
     refine (HW.out _ _ h3).mono ?_
     rintro e w4 ⟨rfl,hx5,h4⟩
     clear c0 c1 c2 c3 c4 h3
     by_cases hwz : wc = 0
     ·subst hwz
      rw [zq (by decide)] at HRES
      rw [lL]
      have cj:=Gt h4
      have fj:=Di h4 13
      have h5:=N9 h4
      have hx6:=(hx4.trans hx5).setCell (⟨Y.y,13,none⟩ : Addr) (.pointer (some ⟨bj,0,none⟩))
      have HPU:=zh (fun w' (h : own w' (yL { Y with bj:=bj,bt:=bt,bb:=bb,vj:=v } { m2 with job:=some j } (pts g (.cells #[.int .i64 m.dk.root,.int .i64 kind,.int .i64 file,.int .i64 rate,.int .i64 burst] 24 (0,0))::R)))=>G5 Y.bs bj bt bb v j hjo false _ w' (lp (shL Y.bs Y.A m2.F) (jobL Y.bs bj bt bb v j) (zW (Y:={ Y with bj:=bj,bt:=bt,bb:=bb,vj:=v }) (m:={ m2 with job:=some j }) (j:=j) rfl h)))
      have hpl:=FD j false
      have HPT:=zh (fun w' h=>zw (Y:={ Y with bj:=bj,bt:=bt,bb:=bb,vj:=v }) (m:={ m2 with job:=some j }) (F':=m2.F) (j:=j) (j':=(o8 j false).2) (R:=pts g (.cells #[.int .i64 m.dk.root,.int .i64 kind,.int .i64 file,.int .i64 rate,.int .i64 burst] 24 (0,0))::R) (w:=w') rfl hpl (fun _ _=>Iff.rfl) h)
      have H5:=zh h5
      clear h4 h5
      generalize o8 j false = PJ at *
      obtain ⟨pc,j2⟩:=PJ
      dsimp only at HPU HPT HRES hpl
      go_wp2_with fail
      refine (HPU.out _ H5.out).mono ?_
      rintro e w6 ⟨rfl,hx7,h6⟩
      have h7:=HPT.out _ (lp (jobL Y.bs bj bt bb v j2) (shL Y.bs Y.A m2.F) h6)
      go_wp2_with fail
      go_ret
      rw [<- HRES.out]
      exact ⟨{ Y with bj:=bj,bt:=bt,bb:=bb,vj:=v },rfl,rfl,hx6.trans hx7,zC h7⟩
     ·rw [zt hwz] at HRES
      rw [lu (e:=wc) (by omega)]
      go_wp2_with fail
      go_ret
      rw [<- HRES.out]
      exact ⟨Y,rfl,by rw [lu (e:=wc) (by omega)]; rfl,hx4.trans hx5,le 15 (le 16 (le 17 (le 18 (le 19 h4 rfl) rfl) rfl) rfl) rfl⟩
   ·rw [zt hd] at HRES
    rw [lu (e:=df) (by omega)]
    go_wp2_with fail
    go_ret
    rw [<- HRES.out]
    exact ⟨Y,rfl,by rw [lu (e:=df) (by omega)]; rfl,hx1.trans hx2,zC h2⟩
def Gh (Y : YA) (S : (Bool×Int)×ld) (R : List SL.HP) (w : World) (e : Ending) (w' : World) : Prop:=
 ∃Y' : YA,Y'.y = Y.y /\ e = .returned (.tuple #[.bool S.1.1,errV S.1.2]) /\ Ext w w' /\ own w' (yL Y' S.2 R)
def NN (m : ld) : Prop:=∀j,m.job = some j -> j.st < 4 -> m.dk.kind = 2 -> (li (lh m.F j).2.1 (lh m.F j).2.2).1 = 0 -> (lk (li (lh m.F j).2.1 (lh m.F j).2.2).2.1 m.dk.root).2 = 0
theorem NY (m : ld) (d : l6) (h : (lm m d).1 = 0) : (lm m d).2.dk = d:=by
 revert h
 unfold lm
 split
 ·rename_i h; exact fun h2=>absurd h2 h
 ·exact fun _=>rfl
theorem Kf (m : ld) (d : l6) (h : (lm m d).1≠0) : (lm m d).2.dk = m.dk:=by
 revert h
 unfold lm
 split
 ·exact fun _=>rfl
 ·exact fun h=>absurd rfl h
theorem Qx (m : ld) (d : l6) (h : m.dk = d) : ({ m with dk:=d } : ld) = m:=by rw [<- h]
theorem Ei (N : Nat) (Y : YA) (m : ld) (hm : YOk N m) (hN : N + 100 < 890000) (hlk : NN m) (R : List SL.HP) (hT : ∀w' L,own w' (L++R) -> Ak w') (w : World) (H : own w (yL Y m R)) :
  Calls Tryz.prog 48 #[.pointer (some ⟨Y.y,0,none⟩)] w (Gh Y (lZ m) R w):=by
 have HB:=zh (zH Y m R w H)
 generalize hres : lZ m = res
 unfold lZ at hres
 unfold yY at HB
 cases hj : m.job with
 | none=>
  rw [hj] at HB hres
  dsimp only at HB hres
  subst hres
  clear hj hlk
  go_enter Tryz.func48,Tryz.ntmps48
  go_wp2_with fail
  refine HB.out.mono ?_
  rintro e w' ⟨rfl,rfl⟩
  go_wp2_with fail
  go_ret2
  exact ⟨Y,rfl,rfl,zR _,H⟩
 | some j=>
  rw [hj] at HB hres
  dsimp only at HB hres
  by_cases h4 : 4 <= j.st
  ·rw [zt h4] at hres
   subst hres
   rw [zf (by omega)] at HB
   clear hj h4 hlk
   go_enter Tryz.func48,Tryz.ntmps48
   go_wp2_with fail
   refine HB.out.mono ?_
   rintro e w' ⟨rfl,rfl⟩
   go_wp2_with fail
   go_ret2
   exact ⟨Y,rfl,rfl,zR _,H⟩
  ·rw [zq h4] at hres
   rw [zg (by omega)] at HB
   obtain ⟨hS,hl,hk,hf,hr⟩:=hm.job j hj (by omega)
   have hjo:=hm.jok j hj
   have hsh:=hm.sh.sh (by omega)
   have cj:=yO hj H
   have hv : ∀w' L,own w' (L++(row 3 1 Y.vj j.list.length (lr j.list)::((yT Y m).take 8++R))) -> lV w' Y.vj j.list:=fun w' L h=>oM 0 (lp L [row 3 1 Y.vj j.list.length (lr j.list)] h) rfl
   have hT2 : ∀w' L,own w' (L++(row 3 1 Y.vj j.list.length (lr j.list)::((yT Y m).take 8++R))) -> Ak w':=fun w' L h=>hT w' (L++(row 3 1 Y.vj j.list.length (lr j.list)::(yT Y m).take 8)) (by rw [zp]; exact h)
   have HST:=zh (Nx Y.bs Y.A m.F hsh Y.bj Y.bt Y.bb Y.vj j hjo hS (row 3 1 Y.vj j.list.length (lr j.list)::((yT Y m).take 8++R)) w hv hT2 (zW hj H))
   have hcode:=L5 m.F j
   have hst:=DE hsh hjo hS
   have hsm:=Bm m.F j
   have hok2:=Kz (F:=m.F) hjo
   have hS2:=(hS.step hst).same hsm
   have hW2:=hm.sh.step hst
   have hlk2:=hlk j hj (by omega)
   have HPUT:=zh (fun w' h=>zw (w:=w') (Y:=Y) (m:=m) (R:=R) (F':=(lh m.F j).2.1) (j':=(lh m.F j).2.2) hj hsm.1 (fun k hk=>hst.same.none hk) h)
   have hr5:=hm.root5
   have hto:=hm.tp.1
   have htw:=hm.tp.2.1
   have htp:=hm.tp.2.2.1
   have hlist:=hsm.1
   generalize lh m.F j = SP at *
   obtain ⟨⟨did,c⟩,F1,j1⟩:=SP
   dsimp only at HST hcode hok2 hS2 hW2 hlk2 HPUT hres hlist
   have HN:=zh (fun R' w' h=>BA m.dk.root R' w' h)
   have HRES:=zh hres
   have HOK:=zh hok2
   have HS2:=zh hS2
   have HW2:=zh hW2
   have HLK:=zh hlk2
   have HLI:=zh hlist
   clear hres hm hlk hlk2 hS hl hk hf hr hjo hsh hv hT2 hst hsm hok2 hS2 hW2 hlist h4 hj
   go_enter Tryz.func48,Tryz.ntmps48
   go_wp2_with fail
   refine HB.out.mono ?_
   rintro e w' ⟨rfl,rfl⟩
   go_wp2_with fail
   refine HST.out.mono ?_
   rintro e w2 ⟨rfl,hx2,h2'⟩
   have h2:=HPUT.out _ h2'
   clear cj h2' HST HPUT HB
   have cj:=yO (m:={ m with F:=F1,job:=some j1 }) rfl h2
   have cr:=yW h2
   by_cases hc : c = 0
   ·subst hc
    rw [zq (by decide)] at HRES
    rw [lL]
    have ck:=EC h2
    by_cases hk2 : m.dk.kind = 2
    ·have d2 : (m.dk.kind != 2) = false:=by rw [hk2]; rfl
     have hstat:=(FI Y.bs Y.bj Y.bt Y.bb Y.vj j1 HOK.out _ w2 (lp (shL Y.bs Y.A F1) (jobL Y.bs Y.bj Y.bt Y.bb Y.vj j1) (zW (m:={ m with F:=F1,job:=some j1 }) rfl h2)))
     have hf2:=C6 j1.kind j1.file j1.st (cnt j1.x : Nat)
     unfold A9 at hstat
     generalize hcn : (cnt j1.x : Nat) = cn at hstat hf2
     clear hcn
     have HSTA:=zh hstat
     have HLK:=zh (HLK.out hk2)
     have HK2:=zh hk2
     clear hk2 hstat
     by_cases h3 : j1.st = 3
     ·have d3 : (j1.st != 3) = false:=by rw [h3]; rfl
      rw [zq (by rintro (h | h); exact h HK2.out; exact h h3)] at HRES
      clear h3
      have hv : ∀w' L,own w' (L++(row 3 1 Y.vj j1.list.length (lr j1.list)::((yT Y { m with F:=F1,job:=some j1 }).take 8++R))) -> lV w' Y.vj j1.list:=fun w' L h=>oM 0 (lp L [row 3 1 Y.vj j1.list.length (lr j1.list)] h) rfl
      have HSE:=zh (fun w' h=>Fo Y.bs Y.A F1 (N + 5) HW2.out (by omega) Y.bj Y.bt Y.bb Y.vj j1 HOK.out HS2.out (row 3 1 Y.vj j1.list.length (lr j1.list)::((yT Y { m with F:=F1,job:=some j1 }).take 8++R)) w' hv h)
      have hsc:=Ex F1 j1
      have HPUT:=zh (fun w' h=>zw (w:=w') (Y:=Y) (m:={ m with F:=F1,job:=some j1 }) (R:=R) (F':=(li F1 j1).2.1) (j:=j1) (j':=(li F1 j1).2.2) rfl (Cv F1 j1).1 (fun k hk=>Et hk) h)
      have HSH:=zh ((AE (N:=N + 5) HW2.out (by omega) HOK.out HS2.out).sh (by omega))
      generalize li F1 j1 = SE at *
      obtain ⟨sc,F2,j2⟩:=SE
      dsimp only at HSE hsc HPUT HSH HLK HRES
      clear hv HW2 HS2
      go_wp2_with fail
      refine HSTA.out.mono ?_
      rintro e w3 ⟨rfl,hx3,h3'⟩
      have h3:=lp (jobL Y.bs Y.bj Y.bt Y.bb Y.vj j1) (shL Y.bs Y.A F1) h3'
      clear h2 cr ck cj h3'
      have cj:=yO (m:={ m with F:=F1,job:=some j1 }) rfl (Fc (m:={ m with F:=F1,job:=some j1 }) (j:=j1) rfl h3)
      go_wp2_with fail
      refine (HSE.out _ h3).mono ?_
      rintro e w4 ⟨rfl,hx4,h4'⟩
      have h4 : own w4 (yL Y { m with F:=F2,job:=some j2 } R):=HPUT.out _ h4'
      clear cj h3 h4'
      have cr:=yW h4
      have hx5:=(hx2.trans hx3).trans hx4
      by_cases hsz : sc = 0
      ·have HLK2:=zh (HLK.out hsz)
       clear HLK
       subst hsz
       rw [zq (by decide)] at HRES
       rw [lL]
       have HWK:=zh (fun R' w' h=>Bx Y.bs Y.A F2 HSH.out m.dk.root R' w' h)
       unfold AW at HWK
       rw [HLK2.out,lL] at HWK
       generalize (lk F2 m.dk.root).1 = l at *
       clear HLK2 cr
       have HS:=zh (fun (m' : ld) w' R' (h : own w' (yL Y m' R'))=>(⟨y_bs h,yW h⟩ : w'.cell? ⟨Y.y,6,none⟩ = some (.pointer (some ⟨Y.bs,0,none⟩)) /\ w'.cell? ⟨Y.y,7,none⟩ = some (.int .i64 m'.dk.root)))
       have h5:=lj h4
       have hx5:=hx5.drew
       have hg:=HS.out _ _ _ h5
       go_upto_region 14 with (fail)
       refine wp_region_held_drew (S:=fun w'=>w'.cell? ⟨Y.y,6,none⟩ = some (.pointer (some ⟨Y.bs,0,none⟩)) /\ w'.cell? ⟨Y.y,7,none⟩ = some (.int .i64 m.dk.root)) (by kernel_rfl) hg (fun hHeld=>?_)
       refine tk 0 ?_
       refine tk 1 ?_
       refine tk 2 ?_
       refine tk 3 ?_
       refine tk 4 ?_
       refine tk 5 ?_
       refine tk 6 ?_
       refine tk 7 ?_
       refine tk 8 ?_
       refine tk 9 ?_
       try simp only [Act.put,tA,tB,tC,tD,tE,tF]
       refine rd 10 rfl fun K hK=>?_
       go_simp
       go_at_call 69
       refine (HWK.out _ _ h5).mono ?_
       rintro e w6 ⟨v,rfl,hx6,h6⟩
       obtain ⟨vo,vb,vof,vcap,rfl,-,-,-,-⟩:=(oM 0 h6 rfl).form
       have h7:=oY (Y:=Y) (m:={ m with F:=F2,job:=some j2 }) h6
       go_simp
       refine hK.out _ _ (HS.out { m with F:=F2,job:=some j2 } _ _ h7) (fun _=>?_)
       clear hK K h4 h5 h6 hg
       try simp only [Act.put,tA,tB,tC,tD,tE,tF]
       refine tk 11 ?_
       refine tk 12 ?_
       refine tk 13 ?_
       refine tk 14 ?_
       refine tk 15 ?_
       try simp only [Act.put,tA,tB,tC,tD,tE,tF]
       refine rd 16 rfl fun K hK=>?_
       have cl:=AK h7
       have fl:=Di h7 12
       have h8:=DD h7
       have hx8:=(hx5.trans hx6).setCell (⟨Y.y,12,none⟩ : Addr) (.slice vo l.length vcap)
       have z6:=y_bs h8
       have z7:=yW h8
       go_simp
       refine hK.out _ _ ⟨z6,z7⟩ (fun _=>?_)
       clear hK K h7 cl fl z6 z7
       try simp only [Act.put,tA,tB,tC,tD,tE,tF]
       refine tk 17 ?_
       try simp only [Act.put,tA,tB,tC,tD,tE,tF]
       refine wpAnyH_done (by kernel_rfl) ?_ _
       generalize w6.setCell ⟨Y.y,12,none⟩ (.slice vo l.length vcap) = w8 at *
       have cj:=yO (m:={ m with F:=F2,job:=some j2,list:=l }) (j:=j2) rfl h8
       have HE:=zh (JN Y.bs Y.bj Y.bt Y.bb Y.vj j2 true _ w8 (lp (shL Y.bs Y.A F2) (jobL Y.bs Y.bj Y.bt Y.bb Y.vj j2) (zW (Y:={ Y with v:=.slice vo l.length vcap }) (m:={ m with F:=F2,job:=some j2,list:=l }) (j:=j2) rfl h8)))
       go_wp2_with fail
       refine HE.out.mono ?_
       rintro e w9 ⟨rfl,hx9,h9'⟩
       have h9 : own w9 (yL { Y with v:=.slice vo l.length vcap } { m with F:=F2,job:=some (endM j2 true),list:=l } R):=zw (Y:={ Y with v:=.slice vo l.length vcap }) (m:={ m with F:=F2,job:=some j2,list:=l }) (j:=j2) rfl (show (endM j2 true).list = j2.list from rfl) (fun _ _=>Iff.rfl) (lp (jobL Y.bs Y.bj Y.bt Y.bb Y.vj (endM j2 true)) (shL Y.bs Y.A F2) h9')
       clear cj h8 h9'
       have cr:=yW h9
       have HW:=zh (fun R' w' h=>zN { Y with v:=.slice vo l.length vcap } { m with F:=F2,job:=some (endM j2 true),list:=l } hto (by dsimp only; omega) (by dsimp only; omega) (lw m.dk.root) (C8 hr5.1 hr5.2) R' w' h)
       have hwc:=BM { m with F:=F2,job:=some (endM j2 true),list:=l } (lw m.dk.root)
       have hwd:=NY { m with F:=F2,job:=some (endM j2 true),list:=l } (lw m.dk.root)
       have hwn:=Kf { m with F:=F2,job:=some (endM j2 true),list:=l } (lw m.dk.root)
       generalize lm { m with F:=F2,job:=some (endM j2 true),list:=l } (lw m.dk.root) = W at *
       obtain ⟨wc,m2⟩:=W
       dsimp only at HW hwc hwd hwn HRES
       have HWD:=zh hwd
       have HWN:=zh hwn
       have hx10:=hx8.trans hx9
       clear hwd hwn hx8 hx9
       go_wp2_with fail
       refine (HN.out _ _ h9).mono ?_
       rintro e w10 ⟨rfl,hx11,h10⟩
       go_wp2_with fail
       refine (HW.out _ _ h10).mono ?_
       rintro e w11 ⟨rfl,hx12,h11⟩
       have hx13:=(hx10.trans hx11).trans hx12
       clear cr h9 h10 hx10 hx11 hx12
       by_cases hwz : wc = 0
       ·have hdk:=HWD.out hwz
        subst hwz
        rw [lL]
        rw [Qx m2 (lw m.dk.root) hdk] at HRES
        clear hdk HWD
        go_wp2_with fail
        go_ret2
        rw [<- HRES.out]
        exact ⟨{ Y with v:=.slice vo l.length vcap },rfl,rfl,hx13,h11⟩
       ·rw [lu (e:=wc) (by omega)]
        have hdk:=HWN.out hwz
        have cr:=yW h11
        rw [hdk] at cr
        have HN2:=zh (fun R' w' h=>BA m.dk.root R' w' h)
        unfold l6.v zQ lw at HN2
        clear hdk HWD HWN
        go_wp2_with fail
        refine (HN2.out _ _ h11).mono ?_
        rintro e w12 ⟨rfl,hx14,h12⟩
        clear cr h11
        have fy:=Di h12
        have e7:=yW h12
        have e8:=EC h12
        have e9:=EP h12
        have e10:=Kh h12
        have e11:=Iv h12
        have h13:=ln (i:=11) (v:=.int .i64 0) 6 (ln (i:=10) (v:=.int .i64 0) 6 (ln (i:=9) (v:=.int .i64 (-1)) 6 (ln (i:=8) (v:=.int .i64 0) 6 (ln (i:=7) (v:=.int .i64 m.dk.root) 6 h12 rfl) rfl) rfl) rfl) rfl
        have h14 : own _ (yL { Y with v:=.slice vo l.length vcap } { m2 with dk:=lw m.dk.root } R):=h13
        have hx15:=((((((hx13.trans hx14).setCell (⟨Y.y,7,none⟩ : Addr) (.int .i64 m.dk.root)).setCell (⟨Y.y,8,none⟩ : Addr) (.int .i64 0)).setCell (⟨Y.y,9,none⟩ : Addr) (.int .i64 (-1))).setCell (⟨Y.y,10,none⟩ : Addr) (.int .i64 0)).setCell (⟨Y.y,11,none⟩ : Addr) (.int .i64 0))
        clear h12 h13
        go_wp2_with fail
        go_ret2
        rw [<- HRES.out]
        exact ⟨{ Y with v:=.slice vo l.length vcap },rfl,rfl,hx15,h14⟩
      ·rw [zt hsz] at HRES
       rw [lu (e:=sc) (by omega)]
       have HW:=zh (fun R' w' h=>zN Y { m with F:=F2,job:=some j2 } hto (by dsimp only; omega) (by dsimp only; omega) (lw m.dk.root) (C8 hr5.1 hr5.2) R' w' h)
       generalize lm { m with F:=F2,job:=some j2 } (lw m.dk.root) = W at *
       obtain ⟨wc,m2⟩:=W
       dsimp only at HW HRES
       go_wp2_with fail
       refine (HN.out _ _ h4).mono ?_
       rintro e w6 ⟨rfl,hx6,h6⟩
       go_wp2_with fail
       refine (HW.out _ _ h6).mono ?_
       rintro e w7 ⟨rfl,hx7,h7⟩
       go_wp2_with fail
       go_ret2
       rw [<- HRES.out]
       exact ⟨Y,rfl,by rw [lu (e:=sc) (by omega)]; rfl,(hx5.trans hx6).trans hx7,h7⟩
     ·have d3 : (j1.st != 3) = true:=bne_iff_ne.2 h3
      rw [zt (.inr h3)] at HRES
      clear h3
      go_wp2_with fail
      refine HSTA.out.mono ?_
      rintro e w3 ⟨rfl,hx3,h3'⟩
      have h3:=Fc (m:={ m with F:=F1,job:=some j1 }) (j:=j1) rfl (lp (jobL Y.bs Y.bj Y.bt Y.bb Y.vj j1) (shL Y.bs Y.A F1) h3')
      go_wp2_with fail
      go_ret2
      rw [<- HRES.out]
      exact ⟨Y,rfl,rfl,hx2.trans hx3,h3⟩
    ·have d2 : (m.dk.kind != 2) = true:=bne_iff_ne.2 hk2
     rw [zt (.inl hk2)] at HRES
     clear hk2
     go_wp2_with fail
     go_ret2
     rw [<- HRES.out]
     exact ⟨Y,rfl,rfl,hx2,h2⟩
   ·rw [zt hc] at HRES
    rw [lu (e:=c) (by omega)]
    have HG:=zh (Eb Y.bs Y.bj Y.bt Y.bb Y.vj j1 _ w2 (lp (shL Y.bs Y.A F1) (jobL Y.bs Y.bj Y.bt Y.bb Y.vj j1) (zW (m:={ m with F:=F1,job:=some j1 }) rfl h2)))
    by_cases h1 : j1.st < 4
    ·rw [zt h1] at HRES
     rw [zg h1] at HG
     clear h1
     go_wp2_with fail
     refine HG.out.mono ?_
     rintro e w' ⟨rfl,rfl⟩
     go_wp2_with fail
     go_ret2
     rw [<- HRES.out]
     exact ⟨Y,rfl,by rw [lu (e:=c) (by omega)]; rfl,hx2,h2⟩
    ·rw [zq h1] at HRES
     rw [zf h1] at HG
     clear h1
     have HW:=zh (fun R' w' h=>zN Y { m with F:=F1,job:=some j1 } hto (by dsimp only; omega) (by dsimp only; omega) (lw m.dk.root) (C8 hr5.1 hr5.2) R' w' h)
     generalize lm { m with F:=F1,job:=some j1 } (lw m.dk.root) = W at *
     obtain ⟨wc,m2⟩:=W
     dsimp only at HW HRES
     go_wp2_with fail
     refine HG.out.mono ?_
     rintro e w' ⟨rfl,rfl⟩
     go_wp2_with fail
     refine (HN.out _ _ h2).mono ?_
     rintro e w3 ⟨rfl,hx3,h3⟩
     go_wp2_with fail
     refine (HW.out _ _ h3).mono ?_
     rintro e w4 ⟨rfl,hx4,h4⟩
     go_wp2_with fail
     go_ret2
     rw [<- HRES.out]
     exact ⟨Y,rfl,by rw [lu (e:=c) (by omega)]; rfl,(hx2.trans hx3).trans hx4,h4⟩

theorem Pa {N : Nat} {m : ld} (h : YOk N m) {k : Nat} (hk : k < 5) : (devOf m k).Ok /\ (devOf m k).writes <= N /\ (devOf m k).pend.length <= N:=by
 unfold devOf
 cases e : m.F k with
 | none=>exact h.dv k hk e
 | some i=>exact ⟨(h.sh.ok k i hk e).d,h.sh.wr k i hk e,h.sh.pend k i hk e⟩
theorem NG {w : World} (l : List SL.HP) {m : List SL.HP} (H : own w (l++m)) : own w m:=lg (AF l H)
end Go.Proofs.YtbpblokfiajpjabGreatDoor
namespace Go.Proofs.YtbpblokfiajpjabGreatDoor
open Go.RowKit Go.SL Go.Crc
theorem PV : ∀(n : Nat) (l : List Int),l.Nodup -> (∀x∈l,0 <= x /\ x < n) -> l.length <= n:=by
 intro n
 induction n with
 | zero=>
  intro l _ h
  cases l with
  | nil=>exact Nat.le_refl 0
  | cons x l=>have:=h x (List.mem_cons_self ..); omega
 | succ n ih=>
  intro l hn h
  have h1:=ih (l.erase (n : Int)) (hn.erase _) fun x hx=>by
   obtain ⟨h2,h3⟩:=(List.Nodup.mem_erase_iff hn).1 hx
   have:=h x h3
   omega
  have h2:=List.length_erase (a:=(n : Int)) (l:=l)
  split at h2 <;> omega
theorem YOk.chn {N : Nat} {m : ld} (h : YOk N m) : Chn m.F (clus m.F m.dk.root) m.list:=by
 have:=DL (F:=m.F) (root:=m.dk.root) (by rw [h.walk])
 rwa [h.walk] at this
theorem YOk.nodup {N : Nat} {m : ld} (h : YOk N m) : m.list.Nodup:=by
 have:=Gs (F:=m.F) (root:=m.dk.root) (by rw [h.walk])
 rwa [h.walk] at this
theorem lx.off {N M : Nat} {m : ld} (h : lx N m) (hNM : N <= M) {file : Int} (h0 : 0 <= file) (hu : AA m file = false) {F' : ShM} {D' : Nat -> DevM} (hF : ∀j,j≠file.toNat -> F' j = m.F j) (hD : ∀j,j≠file.toNat -> D' j = m.D j) (hW : ShW M F')
  (hDk : F' file.toNat = none -> (D' file.toNat).Ok /\ (D' file.toNat).writes <= M /\ (D' file.toNat).pend.length <= M) : lx M { m with F:=F',D:=D' }:=by
 have hM:=h.mono hNM
 unfold AA at hu
 rw [Bool.or_eq_false_iff,decide_eq_false_iff_not] at hu
 obtain ⟨hnl,hnb⟩:=hu
 have hs : ∀x,0 <= x -> x≠file -> F' x.toNat = m.F x.toNat:=fun x hx hne=>hF _ (by omega)
 have hfk : ∀x,lq m.F x -> x≠file -> lq F' x:=fun x ⟨a,b,c⟩ hne=>⟨a,b,by rw [hs x a hne]; exact c⟩
 have hin:=h.ok.chn.file
 obtain ⟨s,hl⟩:=h.ok.head
 have hroot : m.dk.root∈m.list:=by rw [hl]; exact List.mem_cons_self ..
 have hne : ∀x∈m.list,x≠file:=fun x hx e=>hnl (e ▸ hx)
 refine ⟨⟨hW,fun k hk e=>?_,hM.ok.tp,?_,hfk _ h.ok.root (hne _ hroot),h.ok.jok,fun j hj h4=>?_⟩,h.str⟩
 ·by_cases hk2 : k = file.toNat
  ·subst hk2; exact hDk e
  ·dsimp only at e ⊢
   rw [hF k hk2] at e
   rw [hD k hk2]
   exact hM.ok.dv k hk e
 ·refine Js h.ok.root h.ok.walk fun x hx=>?_
  unfold shp
  dsimp only
  rw [hs x (hin x hx).1 (hne x hx)]
 ·obtain ⟨⟨a,b⟩,c,d,e,f⟩:=h.ok.job j hj h4
  refine ⟨⟨fun x hx=>hfk x (a x hx) (hne x (by rw [<- c]; exact hx)),fun h2=>hfk _ (b h2) ?_⟩,c,d,e,f⟩
  rw [e]
  intro he
  have : yY m = true:=by unfold yY; rw [hj]; exact zg h4
  rw [this,he] at hnb
  simp at hnb
theorem G0 {m : ld} {file back : Int} (h : (l7 m file back).1 = 0) : 0 <= file /\ file < 5 /\ AA m file = false /\ (o7 m file.toNat back).1 = 0 /\ (l7 m file back).2 = { m with F:=put m.F file.toNat (o7 m file.toNat back).2 }:=by
 revert h
 unfold l7
 split
 ·exact fun h=>absurd h (by simp)
 ·split
  ·exact fun h=>absurd h (by simp)
  ·split
   ·rename_i h; exact fun h2=>absurd h2 h
   ·rename_i h1 h2 h3
    exact fun _=>⟨by omega,by omega,by simpa using h2,Decidable.not_not.1 h3,rfl⟩
theorem FB {N : Nat} {m : ld} (h : lx N m) (hN : N + 10 < 900000) (file back : Int) : lx (N + 5) (l7 m file back).2:=by
 unfold l7
 split
 ·exact h.mono (by omega)
 ·rename_i hb
  split
  ·exact h.mono (by omega)
  ·rename_i hu
   have hk : file.toNat < 5:=by omega
   obtain ⟨d1,d2,d3⟩:=Pa h.ok hk
   have hc : (o7 m file.toNat back).2.d.Ok /\ (o7 m file.toNat back).2.d.fl.length = (devOf m file.toNat).fl.length /\ (o7 m file.toNat back).2.d.pend.length <= (devOf m file.toNat).pend.length + 4 /\ (o7 m file.toNat back).2.d.writes <= (devOf m file.toNat).writes + 5 /\
    ((o7 m file.toNat back).1 = 0 -> (o7 m file.toNat back).2.Ok /\ _ /\ (o7 m file.toNat back).2.d.pend = [] /\ _):=Ih d1 (by omega) (by omega)
   obtain ⟨c1,c2,c3,c4,c5⟩:=hc
   have hu' : AA m file = false:=by simpa using hu
   split
   ·refine h.off (by omega) (by omega) hu' (fun j hj=>zq hj) (fun j hj=>zq hj) ⟨fun k x hk hx=>?_,fun k x hk hx=>?_,fun k x hk hx=>?_⟩ (fun _=>by unfold setD; rw [zt rfl]; exact ⟨c1,by omega,by omega⟩)
    all_goals
     unfold cut at hx
     by_cases hk2 : k = file.toNat
     ·rw [zt hk2] at hx; cases hx
     ·rw [zq hk2] at hx
      first | exact h.ok.sh.ok k x hk hx | (have:=h.ok.sh.wr k x hk hx; omega) | (have:=h.ok.sh.pend k x hk hx; omega)
   ·rename_i hc0
    have hc0:=c5 (Decidable.not_not.1 hc0)
    refine h.off (D':=m.D) (by omega) (by omega) hu' (fun j hj=>zq hj) (fun j hj=>rfl) ⟨fun k x hk hx=>?_,fun k x hk hx=>?_,fun k x hk hx=>?_⟩ (fun e=>by rw [yg] at e; cases e)
    all_goals
     unfold put at hx
     by_cases hk2 : k = file.toNat
     ·rw [zt hk2] at hx
      cases hx
      first | exact hc0.1 | omega
     ·rw [zq hk2] at hx
      first | exact h.ok.sh.ok k x hk hx | (have:=h.ok.sh.wr k x hk hx; omega) | (have:=h.ok.sh.pend k x hk hx; omega)
theorem MD {N : Nat} {m : ld} (h : lx N m) (hN : N + 10 < 900000) (file : Int) : lx (N + 6) (AS m file).2:=by
 unfold AS
 split
 ·exact h.mono (by omega)
 ·rename_i hbusy
  split
  ·exact h.mono (by omega)
  ·rename_i h4
   have hb:=FB h hN file m.dk.root
   split
   ·exact hb.mono (by omega)
   ·rename_i hc
    have ht:=B7 hb.ok (by omega) (lw file)
    split
    ·rename_i hw
     rw [BO hw]
     exact hb.desk ht
    ·rename_i hw
     obtain ⟨f0,f5,hu,hr,hM⟩:=G0 (Decidable.not_not.1 hc)
     have hy:=Bb (m:=(l7 m file m.dk.root).2) (d:=lw file) (Decidable.not_not.1 hw)
     generalize (lm (l7 m file m.dk.root).2 (lw file)).2 = W at *
     rw [hy]
     have his:=GX (devOf m file.toNat) (clus m.F m.dk.root) (zA (clus m.F m.dk.root) (devOf m file.toNat)) m.dk.root
     change (o7 m file.toNat m.dk.root).2 = _ at his
     have hic : (o7 m file.toNat m.dk.root).2.c = clus m.F m.dk.root:=by rw [his]; rfl
     have hib : (o7 m file.toNat m.dk.root).2.b = m.dk.root:=by rw [his]; rfl
     have hjob : (l7 m file m.dk.root).2.job = m.job:=by rw [hM]
     have hF : (l7 m file m.dk.root).2.F = put m.F file.toNat (o7 m file.toNat m.dk.root).2:=by rw [hM]
     generalize (l7 m file m.dk.root).2 = B at *
     generalize (o7 m file.toNat m.dk.root).2 = i at *
     have hnl : file∉m.list:=by
      unfold AA at hu
      rw [Bool.or_eq_false_iff,decide_eq_false_iff_not] at hu
      exact hu.1
     have hcn:=h.ok.chn
     obtain ⟨s,hl⟩:=h.ok.head
     have h5 : (file::m.list).length <= 5:=PV 5 _ (List.nodup_cons.2 ⟨hnl,h.ok.nodup⟩) fun x hx=>by
      rcases List.mem_cons.1 hx with rfl | hx
      ·exact ⟨f0,f5⟩
      ·exact ⟨(hcn.file x hx).1,(hcn.file x hx).2.1⟩
     have hne : ∀x∈m.list,x≠file:=fun x hx e=>hnl (e ▸ hx)
     have hkeep : Chn B.F (clus m.F m.dk.root) m.list:=hcn.keep fun x hx=>by
      have:=(hcn.file x hx).1
      have:=hne x hx
      unfold shp
      rw [hF,AJ _ _ (by omega)]
     have hat : B.F file.toNat = some i:=by rw [hF,yg]
     have hfile : lq B.F file:=⟨f0,f5,i,hat⟩
     have hcl : clus B.F file = clus m.F m.dk.root:=by unfold clus at hic ⊢; rw [hat]; exact hic
     have hbk : bkOf B.F file = m.dk.root:=by unfold bkOf; rw [hat]; exact hib
     have hwk : lk B.F file = (file::m.list,0):=by
      refine Cf ?_ h5
      rw [hcl]
      refine ⟨fun x hx=>?_,fun x hx=>?_,?_,hkeep.ch⟩
      ·rcases List.mem_cons.1 hx with rfl | hx
       ·exact hfile
       ·exact hkeep.file x hx
      ·rcases List.mem_cons.1 hx with rfl | hx
       ·exact hcl
       ·exact hkeep.cl x hx
      ·rw [hbk,hl]; rfl
     exact hb.bare ht hfile hwk (oj:=B.job) fun j hj=>by
      rw [hjob] at hj
      refine ⟨h.ok.jok j hj,fun h4=>?_⟩
      apply hbusy
      unfold yY
      rw [hj]
      exact zg h4
theorem LI {F : ShM} {root kind file rate burst : Int} {j : JobM} (h : (newM F root kind file rate burst).1 = some j) :
  (lk F root).2 = 0 /\ j.list = (lk F root).1 /\ j.kind = kind /\ j.file = file /\ j.root = root /\ j.st = 2 /\ (kind = 2 -> file = -1 \/ file∈(lk F root).1.tail):=by
 unfold newM at h
 split at h
 ·cases h
 ·rename_i h0
  have h0:=Decidable.not_not.1 h0
  split at h
  ·cases h
  ·split at h
   ·cases h
   ·split at h
    ·rename_i hk
     split at h
     ·cases h
     ·split at h
      ·cases h
      ·cases h
       exact ⟨h0,rfl,rfl,rfl,rfl,rfl,fun h2=>by omega⟩
    ·split at h
     ·rename_i hk
      cases h
      exact ⟨h0,rfl,rfl,rfl,rfl,rfl,fun _=>.inl hk.2⟩
     ·split at h
      ·split at h
       ·cases h
       ·rename_i hp
        cases h
        refine ⟨h0,rfl,rfl,rfl,rfl,rfl,fun _=>.inr ?_⟩
        have hp : ¬yl (lk F root).1 file < 1:=hp
        generalize (lk F root).1 = l at *
        cases l with
        | nil=>exact absurd (show yl [] file < 1 by show (-1 : Int) < 1; decide) hp
        | cons x l=>
         unfold yl ye at hp
         split at hp
         ·omega
         ·refine Decidable.byContradiction fun hn=>?_
          have hn : file∉l:=hn
          rw [KB hn] at hp
          omega
      ·cases h
theorem C2 {N : Nat} {m : ld} (h : lx N m) (hN : N + 10 < 900000) (kind file rate burst : Int) : lx (N + 1) (yv m kind file rate burst).2:=by
 unfold yv
 split
 ·exact h.mono (by omega)
 ·split
  ·exact h.mono (by omega)
  ·split
   ·exact h.mono (by omega)
   ·have hl5 : (lk m.F m.dk.root).1.length <= 5:=Cr
    have hg:=fun j (hj : (newM m.F m.dk.root kind file rate burst).1 = some j)=>Jq (h.ok.sh.sh (by omega)) hl5 hj
    have hi:=fun j (hj : (newM m.F m.dk.root kind file rate burst).1 = some j)=>LI hj
    have ht:=B7 h.ok (by omega) ⟨m.dk.root,kind,file,rate,burst⟩
    generalize newM m.F m.dk.root kind file rate burst = S at *
    obtain ⟨oj,f⟩:=S
    cases oj with
    | none=>exact h.mono (by omega)
    | some j=>
     obtain ⟨hj,hS⟩:=hg j rfl
     obtain ⟨-,i1,i2,i3,i4,-,i5⟩:=hi j rfl
     rw [h.ok.walk] at i1 i5
     dsimp only at i1 i5 ⊢
     split
     ·rename_i hw
      rw [BO hw]
      exact h.desk ht
     ·rename_i hw
      have hy:=Bb (m:=m) (d:=⟨m.dk.root,kind,file,rate,burst⟩) (Decidable.not_not.1 hw)
      generalize (lm m ⟨m.dk.root,kind,file,rate,burst⟩).2 = W at *
      have h1:=h.mono (Nat.le_succ N)
      have hs:=Fn j false
      rw [hy]
      exact ⟨⟨h1.ok.sh,h1.ok.dv,ht,h.ok.walk,h.ok.root,fun k hk=>by cases hk; exact IK hj false,fun k hk _=>by cases hk; exact ⟨hS.same hs,hs.1.trans i1,hs.2.1.trans i2,hs.2.2.1.trans i3,hs.2.2.2.1.trans i4⟩⟩,
       fun k hk _ h2=>by cases hk; rw [hs.2.2.1,i3]; exact i5 (by rw [<- i2,<- hs.2.1]; exact h2)⟩
theorem Lt {N : Nat} {m : ld} (h : m.top.Ok /\ m.top.writes <= N /\ m.top.pend.length <= N /\ 1 <= m.top.fl.length) (hN : N < 900000) (d : l6) : (lm m d).2.top.Ok /\ (lm m d).2.top.writes <= (N + 1 : Nat) /\ (lm m d).2.top.pend.length <= N + 1 /\ 1 <= (lm m d).2.top.fl.length:=by
 obtain ⟨a,b,c,e⟩:=h
 have h1:=DevM.write_ok a 0 d.s (by omega) (by omega)
 obtain ⟨h2,h3,h4⟩:=oU m.top 0 d.s
 unfold lm
 split
 ·exact ⟨h1,by dsimp only; omega,by dsimp only; omega,by dsimp only; omega⟩
 ·refine ⟨DevM.flush_ok h1,?_,?_,?_⟩
  ·simp only [DevM.flush]; omega
  ·simp [DevM.flush]
  ·simp only [DevM.flush,ob]; omega
theorem KT (m : ld) (d : l6) : ({ (lm m d).2 with dk:=d } : ld) = { m with top:=(lm m d).2.top,dk:=d }:=by
 by_cases h : (lm m d).1 = 0
 ·have hy:=Bb h
  generalize (lm m d).2 = W at *
  rw [hy]
 ·have hy:=BO h
  generalize (lm m d).2 = W at *
  rw [hy]
theorem lx.stepJ {N : Nat} {m : ld} (h : lx N m) (hN : N + 10 < 900000) {j : JobM} (hj : m.job = some j) (h4 : j.st < 4) : lx (N + 5) { m with F:=(lh m.F j).2.1,job:=some (lh m.F j).2.2 }:=by
 obtain ⟨hS,-⟩:=h.ok.job j hj h4
 have hst:=DE (h.ok.sh.sh (by omega)) (h.ok.jok j hj) hS
 have h1:=h.shelf (Nat.le_add_right N 5) hst.same (h.ok.sh.step hst)
 exact h1.jobs hj (Kz (h.ok.jok j hj)) (Bm m.F j) (fun _=>h4)
theorem lx.bareW {N : Nat} {m : ld} (h : lx N m) (hN : N < 900000) (hn : ∀j,m.job = some j -> ¬j.st < 4) : lx (N + 1) (lm m (lw m.dk.root)).2:=by
 have ht:=B7 h.ok hN (lw m.dk.root)
 by_cases hc : (lm m (lw m.dk.root)).1 = 0
 ·have hy:=Bb hc
  generalize (lm m (lw m.dk.root)).2 = W at *
  rw [hy]
  exact h.bare ht h.ok.root h.ok.walk (oj:=m.job) fun j hj=>⟨h.ok.jok j hj,hn j hj⟩
 ·have hy:=BO hc
  generalize (lm m (lw m.dk.root)).2 = W at *
  rw [hy]
  exact h.desk ht
theorem Nq (i : ImgM) (k : Int) : (i.link k).2.c = i.c /\ ((i.link k).1≠0 -> (i.link k).2.b = i.b) /\ ((i.link k).1 = 0 -> (i.link k).2.b = k):=by
 unfold ImgM.link
 split
 ·exact ⟨rfl,fun _=>rfl,fun h=>absurd h (by simp)⟩
 ·split
  ·exact ⟨rfl,fun _=>rfl,fun h=>absurd h (by assumption)⟩
  ·exact ⟨rfl,fun h=>absurd rfl h,fun _=>rfl⟩
theorem KQ {F : ShM} {root : Int} {l : List Int} (hr : lq F root) (hw : lk F root = (l,0)) {file : Int} (hf : file = -1 \/ file∈l.tail) {F' : ShM} (hF : ∀k,k≠root.toNat -> F' k = F k) (hc : clus F' root = clus F root) (hb : bkOf F' root = file) (hr' : lq F' root) :
  ∃t,lk F' root = (root::t,0) /\ (file = -1 -> t = []) /\ (file≠-1 -> ∃p s,l = root::(p++file::s) /\ t = file::s):=by
 have hch:=DL (F:=F) (root:=root) (by rw [hw])
 have hnd:=Gs (F:=F) (root:=root) (by rw [hw])
 obtain ⟨s,hl⟩:=Ej hr (by rw [hw])
 have h5:=Cr (F:=F) (root:=root)
 rw [hw] at hch hnd hl h5
 dsimp only at hch hnd hl h5
 subst hl
 have hwalk : ∀t,Chn F (clus F root) t -> root∉t -> (root::t).length <= 5 -> file = t.headD (-1) -> lk F' root = (root::t,0):=fun t ht hnt h5 hh=>by
  have hk : Chn F' (clus F root) t:=ht.keep fun x hx=>by
   have h1:=(ht.file x hx).1
   have h2:=hr.1
   have h3 : x≠root:=fun e=>hnt (e ▸ hx)
   unfold shp
   rw [hF _ (by omega)]
  refine Cf ?_ h5
  rw [hc]
  refine ⟨fun x hx=>?_,fun x hx=>?_,?_,hk.ch⟩
  ·rcases List.mem_cons.1 hx with rfl | hx
   ·exact hr'
   ·exact hk.file x hx
  ·rcases List.mem_cons.1 hx with rfl | hx
   ·exact hc
   ·exact hk.cl x hx
  ·rw [hb]; exact hh
 by_cases hn : file = -1
 ·refine ⟨[],hwalk [] ⟨fun x hx=>by (cases hx),fun x hx=>by (cases hx),trivial⟩ (fun h=>by (cases h)) (by simp) hn,fun _=>rfl,fun h=>absurd hn h⟩
 ·have hm:=hf.resolve_left hn
  dsimp only [List.tail] at hm
  obtain ⟨p,t,rfl⟩:=List.append_of_mem hm
  have hn2:=(List.nodup_cons.1 hnd).1
  refine ⟨file::t,hwalk (file::t) (Chn.drop (p:=root::p) (by simpa using hch)) (fun h=>hn2 (List.mem_append.2 (.inr h))) (by simp at h5 ⊢; omega) rfl,fun h=>absurd h hn,fun _=>⟨p,t,rfl,rfl⟩⟩
theorem Is {F : ShM} {j : JobM} (h2 : j.kind = 2) {root : Int} (hr : lq F root) (hl : j.list.getD 0 0 = root) :
  ((li F j).1≠0 -> lT F (li F j).2.1 /\ (j.st = 3 -> (li F j).2.2.st = 5)) /\
  ((li F j).1 = 0 -> (∀k,k≠root.toNat -> (li F j).2.1 k = F k) /\ clus (li F j).2.1 root = clus F root /\ bkOf (li F j).2.1 root = j.file /\ lq (li F j).2.1 root):=by
 obtain ⟨r0,r5,i,hi⟩:=hr
 obtain ⟨l1,l2,l3⟩:=Nq i j.file
 have hL : yA F root.toNat j.file = ((i.link j.file).1,put F root.toNat (i.link j.file).2):=by unfold yA; rw [hi]
 unfold li
 split
 ·rename_i h3
  exact ⟨fun _=>⟨lT.refl F,fun h=>absurd h h3⟩,fun h=>absurd h (by simp)⟩
 ·rw [hl,hL]
  dsimp only
  by_cases hc : (i.link j.file).1≠0
  ·rw [zt hc]
   exact ⟨fun _=>⟨lT.put hi l1 (l2 hc),fun _=>rfl⟩,fun h=>absurd h hc⟩
  ·rw [zq hc]
   refine ⟨fun h=>absurd rfl h,fun _=>⟨fun k hk=>AJ F _ hk,?_,?_,⟨r0,r5,_,yg ..⟩⟩⟩
   ·unfold clus; dsimp only; rw [yg,hi]; exact l1
   ·unfold bkOf; dsimp only; rw [yg]; exact l3 (Decidable.not_not.1 hc)
theorem D5 {l : List Int} {x : Int} {s : List Int} (h : l = x::s) : l.getD 0 0 = x:=by rw [h]; rfl
theorem lx.linked {N : Nat} {m : ld} (h : lx N m) (hN : N + 10 < 900000) {j : JobM} (hj : m.job = some j) (h4 : j.st < 4) (h2 : m.dk.kind = 2) (hc : (li (lh m.F j).2.1 (lh m.F j).2.2).1 = 0) :
  ∃t,lk (li (lh m.F j).2.1 (lh m.F j).2.2).2.1 m.dk.root = (m.dk.root::t,0) /\ (j.file = -1 -> t = []) /\ (j.file≠-1 -> ∃p s,m.list = m.dk.root::(p++j.file::s) /\ t = j.file::s):=by
 obtain ⟨hS,hl,hk,hf,hr⟩:=h.ok.job j hj h4
 have h1:=h.stepJ hN hj h4
 have hs:=Bm m.F j
 have hstr:=h.str j hj h4 (hk.trans h2)
 obtain ⟨s,hls⟩:=h.ok.head
 have hrt : lq (lh m.F j).2.1 m.dk.root:=h1.ok.root
 have hwk : lk (lh m.F j).2.1 m.dk.root = (m.list,0):=h1.ok.walk
 have hc2:=(Is (F:=(lh m.F j).2.1) (j:=(lh m.F j).2.2) (by rw [hs.2.1,hk,h2]) hrt (D5 (by rw [hs.1,hl,hls]))).2 hc
 obtain ⟨a,b,c,d⟩:=hc2
 rw [hs.2.2.1] at c
 exact KQ hrt hwk hstr a b c d
theorem lx.linkOk {N : Nat} {m : ld} (h : lx N m) (hN : N + 10 < 900000) : NN m:=fun j hj h4 h2 hc=>by
 obtain ⟨t,ht,-⟩:=h.linked hN hj h4 h2 hc
 rw [ht]
theorem BK {N : Nat} {m : ld} (h : lx N m) (hN : N + 20 < 900000) : lx (N + 10) (lZ m).2:=by
 unfold lZ
 cases hj : m.job with
 | none=>exact h.mono (by omega)
 | some j=>
  dsimp only
  split
  ·exact h.mono (by omega)
  ·rename_i h4
   have h4 : j.st < 4:=by omega
   have h1:=h.stepJ (by omega) hj h4
   split
   ·split
    ·exact h1.mono (by omega)
    ·rename_i hn
     exact (h1.bareW (by omega) fun k hk=>by cases hk; exact hn).mono (by omega)
   ·split
    ·exact h1.mono (by omega)
    ·rename_i hc0 hks
     have hk2 : m.dk.kind = 2:=Decidable.byContradiction fun hn=>hks (.inl hn)
     have hs3 : (lh m.F j).2.2.st = 3:=Decidable.byContradiction fun hn=>hks (.inr hn)
     obtain ⟨hS,hl,hk,hf,hr⟩:=h.ok.job j hj h4
     have hs:=Bm m.F j
     obtain ⟨s,hls⟩:=h.ok.head
     have hS1 : JobS (lh m.F j).2.1 (lh m.F j).2.2:=(h1.ok.job _ rfl (by omega)).1
     have hjo : (lh m.F j).2.2.Ok:=h1.ok.jok _ rfl
     have hst:=Is (F:=(lh m.F j).2.1) (j:=(lh m.F j).2.2) (by rw [hs.2.1,hk,hk2]) h1.ok.root (D5 (by rw [hs.1,hl,hls]))
     have hlk:=h.linked (by omega) hj h4 hk2
     have hW:=AE h1.ok.sh (by omega) hjo hS1
     have hSJ:=Cv (lh m.F j).2.1 (lh m.F j).2.2
     have hSO:=Mt (F:=(lh m.F j).2.1) hjo
     dsimp only at hW
     generalize (lh m.F j).2.1 = F1 at *
     generalize (lh m.F j).2.2 = j1 at *
     have hSt : (li F1 j1).1 = 0 -> (li F1 j1).2.2 = j1:=by
      unfold li
      rw [zq (by omega),zt (by rw [hs.2.1,hk,hk2])]
      split
      ·exact fun h=>absurd h (by assumption)
      ·exact fun _=>rfl
     generalize li F1 j1 = S at *
     obtain ⟨c,F2,j2⟩:=S
     dsimp only at *
     split
     ·rename_i hc
      obtain ⟨g1,g2⟩:=hst.1 hc
      have h2:=h1.shelf (M:=N + 5 + 1) (Nat.le_succ _) g1 hW
      have h3:=h2.jobs (j:=j1) (j':=j2) rfl hSO hSJ (fun _=>by omega)
      exact (h3.bareW (by omega) fun k hk=>by cases hk; have:=g2 hs3; omega).mono (by omega)
     ·rename_i hc
      have hc:=Decidable.not_not.1 hc
      obtain ⟨t,ht,-⟩:=hlk hc
      obtain ⟨g1,g2,g3,g4⟩:=hst.2 hc
      have hjj:=hSt hc
      subst hjj
      rw [KT]
      have ht2:=Lt (N:=N + 5) (m:={ m with F:=F2,list:=(lk F2 m.dk.root).1,job:=some (endM j2 true) }) h1.ok.tp (by omega) (lw m.dk.root)
      obtain ⟨t1,t2,t3,t4⟩:=ht2
      generalize (lm _ _).2.top = T at *
      refine ⟨⟨hW.mono (by omega),fun k hk5 e=>?_,⟨t1,by dsimp only; omega,by dsimp only; omega,t4⟩,by show lk F2 m.dk.root = ((lk F2 m.dk.root).1,0); rw [ht],g4,fun k hk=>by cases hk; exact LS hjo true,fun k hk h=>by cases hk; exact absurd h (Dm _ _)⟩,fun k hk h=>by cases hk; exact absurd h (Dm _ _)⟩
      dsimp only at e ⊢
      have hkr : k≠m.dk.root.toNat:=fun e2=>by
       obtain ⟨-,-,i,hi⟩:=g4
       rw [e2,hi] at e
       cases e
      rw [g1 k hkr] at e
      obtain ⟨a,b,c⟩:=h1.ok.dv k hk5 e
      dsimp only at a b c
      exact ⟨a,by omega,by omega⟩
def lF (F : ShM) (x : Int) (k : Nat) : Option ByteArray:=match F x.toNat with
 | some m=>m.face k
 | none=>none
def seeF (F : ShM) : List Int -> Nat -> ByteArray
 | [],_=>zs 16
 | x::l,k=>(lF F x k).getD (seeF F l k)
theorem ya {F : ShM} {x : Int} {m : ImgM} (h : F x.toNat = some m) (k : Nat) : lF F x k = m.face k:=by unfold lF; rw [h]
theorem A1 {F : ShM} {x : Int} {l : List Int} {k : Nat} (h : lF F x k = none) : seeF F (x::l) k = seeF F l k:=by rw [seeF,h]; rfl
theorem yk {F : ShM} {x : Int} {l : List Int} {k : Nat} {s : ByteArray} (h : lF F x k = some s) : seeF F (x::l) k = s:=by rw [seeF,h]; rfl
theorem oP {F F' : ShM} {k : Nat} : ∀{l : List Int},(∀x∈l,lF F' x k = lF F x k) -> seeF F' l k = seeF F l k:=by
 intro l
 induction l with
 | nil=>intro _; rfl
 | cons x l ih=>
  intro h
  rw [seeF,seeF,h x (List.mem_cons_self ..),ih fun y hy=>h y (List.mem_cons_of_mem _ hy)]
theorem JO {F : ShM} {k : Nat} {l' : List Int} : ∀{l : List Int},(∀x∈l,lF F x k = none) -> seeF F (l++l') k = seeF F l' k:=by
 intro l
 induction l with
 | nil=>intro _; rfl
 | cons x l ih=>
  intro h
  rw [List.cons_append,A1 (h x (List.mem_cons_self ..))]
  exact ih fun y hy=>h y (List.mem_cons_of_mem _ hy)
theorem LF {F : ShM} {k : Nat} {l' : List Int} : ∀{l : List Int},(∃x∈l,lF F x k≠none) -> seeF F (l++l') k = seeF F l k:=by
 intro l
 induction l with
 | nil=>rintro ⟨x,hx,-⟩; cases hx
 | cons x l ih=>
  rintro ⟨y,hy,hn⟩
  rw [List.cons_append]
  cases e : lF F x k with
  | some s=>rw [yk e,yk e]
  | none=>
   rw [A1 e,A1 e]
   rcases List.mem_cons.1 hy with rfl | hy
   ·exact absurd e hn
   ·exact ih ⟨y,hy,hn⟩
structure Fl (F : ShM) (C : Int) (l : List Int) : Prop where
 file : ∀x∈l,lq F x
 cl : ∀x∈l,clus F x = C
 nd : l.Nodup
theorem Fl.img {F : ShM} {C : Int} {l : List Int} {N : Nat} (h : Fl F C l) (hW : ShW N F) {x : Int} (hx : x∈l) : ∃m,F x.toNat = some m /\ x.toNat < 5 /\ 0 <= x /\ m.Ok /\ m.c = C /\ (m.t.length : Int) = C:=by
 obtain ⟨h0,h1,m,hm⟩:=h.file x hx
 have hc:=h.cl x hx
 have ho:=hW.ok _ m (by omega) hm
 have hcm : clus F x = m.c:=by unfold clus; rw [hm]
 exact ⟨m,hm,by omega,h0,ho,by omega,by rw [ho.t]; omega⟩
theorem Fl.same {F F' : ShM} {C : Int} {l : List Int} (h : Fl F C l) (s : lT F F') : Fl F' C l:=⟨fun x hx=>s.file.2 (h.file x hx),fun x hx=>by rw [s.clus (h.file x hx)]; exact h.cl x hx,h.nd⟩
theorem Fl.sub {F : ShM} {C : Int} {l l' : List Int} (h : Fl F C l) (hs : l'.Sublist l) : Fl F C l':=⟨fun y hy=>h.file y (hs.subset hy),fun y hy=>h.cl y (hs.subset hy),h.nd.sublist hs⟩
theorem N8 {F : ShM} {x : Int} {m : ImgM} (h : F x.toNat = some m) (hm : m.Ok) (c j : Nat) (hj : j < 4) : hasC F x (c : Int) = true↔lF F x (4 * c + j)≠none:=by
 have e : (4 * c + j) / 4 = c:=by omega
 have ht:=hm.t
 rw [ya h,ne_eq,As,e]
 unfold hasC
 rw [h]
 have hk : m.kind (c : Int) = (ent m.t c).1:=rfl
 simp only [Bool.and_eq_true,decide_eq_true_eq,hk]
 constructor
 ·exact fun h=>h.2
 ·intro h
  refine ⟨?_,h⟩
  unfold ImgM.there
  rcases Am hm c with e' | e' | ⟨-,e'⟩
  ·omega
  ·have : c < m.t.length:=Decidable.byContradiction fun hn=>by rw [EV (by omega)] at e'; cases e'
   simp; omega
  ·simp; omega
theorem Cc {F : ShM} {c j : Nat} (hj : j < 4) : ∀{l : List Int} {i : Nat},(∀x∈l,∃m,F x.toNat = some m /\ m.Ok) ->
  (yo F c i l = -1 /\ ∀x∈l,lF F x (4 * c + j) = none) \/ ∃p : Nat,p < l.length /\ yo F c i l = ((i + p : Nat) : Int) /\ lF F (l.getD p 0) (4 * c + j)≠none /\ ∀q,q < p -> lF F (l.getD q 0) (4 * c + j) = none:=by
 intro l
 induction l with
 | nil=>intro i _; exact .inl ⟨rfl,fun x hx=>by cases hx⟩
 | cons x l ih=>
  intro i h
  obtain ⟨m,hm,ho⟩:=h x (List.mem_cons_self ..)
  have hh:=N8 hm ho c j hj
  rw [yo]
  by_cases hx : hasC F x (c : Int) = true
  ·rw [zt hx]
   exact .inr ⟨0,by simp,rfl,hh.1 hx,fun q hq=>by omega⟩
  ·rw [zq hx]
   have hn : lF F x (4 * c + j) = none:=Decidable.byContradiction fun hn=>hx (hh.2 hn)
   rcases ih (i:=i + 1) fun y hy=>h y (List.mem_cons_of_mem _ hy) with ⟨h1,h2⟩ | ⟨p,h1,h2,h3,h4⟩
   ·refine .inl ⟨h1,fun y hy=>?_⟩
    rcases List.mem_cons.1 hy with rfl | hy
    ·exact hn
    ·exact h2 y hy
   ·refine .inr ⟨p + 1,by simpa using h1,by rw [h2]; congr 1; omega,by simpa using h3,fun q hq=>?_⟩
    cases q with
    | zero=>simpa using hn
    | succ q=>simpa using h4 q (by omega)
theorem Su {F : ShM} {k : Nat} : ∀{l : List Int} {p : Nat},p < l.length -> (∀q,q < p -> lF F (l.getD q 0) k = none) -> ∀{s},lF F (l.getD p 0) k = some s -> seeF F l k = s:=by
 intro l
 induction l with
 | nil=>intro p h; simp at h
 | cons x l ih=>
  intro p hp hq s hs
  cases p with
  | zero=>exact yk (by simpa using hs)
  | succ p=>
   rw [A1 (by simpa using hq 0 (by omega))]
   exact ih (by simpa using hp) (fun q h=>by simpa using hq (q + 1) (by omega)) (by simpa using hs)
theorem D6 {F : ShM} {k : Nat} {l : List Int} (h : ∀x∈l,lF F x k = none) : seeF F l k = zs 16:=by
 have:=JO (l':=[]) h
 rwa [List.append_nil] at this
theorem CB {F : ShM} {C : Int} {l : List Int} {N : Nat} (h : Fl F C l) (hW : ShW N F) (hl : l≠[]) {c : Nat} (hc : (c : Int) < C) : (om F l (c : Int)).2 = 0 /\ (om F l (c : Int)).1.size = 64 /\ ∀j,j < 4 -> (om F l (c : Int)).1.extract (16 * j) (16 * j + 16) = seeF F l (4 * c + j):=by
 obtain ⟨x,l',rfl⟩:=List.exists_cons_of_ne_nil hl
 obtain ⟨m0,hm0,-,-,ho0,hc0,hl0⟩:=h.img hW (List.mem_cons_self ..)
 have hth : Br F x (c : Int) = true:=by unfold Br; rw [hm0]; dsimp only; unfold ImgM.there; simp; omega
 have hr : om F (x::l') (c : Int) = Fd F (x::l') (c : Int) (oX F (x::l') (c : Int)):=by
  unfold om
  rw [zq (by simp),zq (by rw [show (x::l').getD 0 0 = x from rfl,hth]; decide)]
 have himg : ∀y∈x::l',∃m,F y.toNat = some m /\ m.Ok:=fun y hy=>by
  obtain ⟨m,a,-,-,b,-⟩:=h.img hW hy
  exact ⟨m,a,b⟩
 rw [hr]
 unfold Fd oX
 rcases Cc (j:=0) (by decide) (i:=0) himg with ⟨h1,h2⟩ | ⟨p,hp,h1,h3,h4⟩
 ·rw [h1,zt (by decide)]
  refine ⟨rfl,zl 64,fun j hj=>?_⟩
  rcases Cc hj (i:=0) himg with ⟨-,h2⟩ | ⟨p,hp,h1',-⟩
  ·rw [D6 h2]
   dsimp only
   rw [J5 (by omega) (by omega),show 16 * j + 16 - 16 * j = 16 by omega]
  ·rw [h1] at h1'
   omega
 ·rw [h1,zq (by omega)]
  have hmem : (x::l').getD p 0∈x::l':=by
   rw [List.getD_eq_getElem?_getD,List.getElem?_eq_getElem hp]
   exact List.getElem_mem hp
  obtain ⟨m,hm,-,-,ho,hcm,hlm⟩:=h.img hW hmem
  have hi : Cj F ((x::l').getD (((0 + p : Nat) : Int).toNat) 0) (c : Int) = m.read (c : Int):=by
   unfold Cj
   rw [zn,Nat.zero_add,hm]
  rw [hi]
  have hcl : c < m.t.length:=by omega
  have hcode : (m.read (c : Int)).2 = 0:=by
   rcases IW ho hcl (j:=0) (by decide) with ⟨a,-⟩ | ⟨a,-⟩
   ·rw [ya hm] at h3
    exact absurd a h3
   ·exact a
  refine ⟨hcode,?_,fun j hj=>?_⟩
  ·rcases GG ho (k:=4 * c) (by omega) with ⟨a,-⟩ | ⟨-,a,-⟩
   ·rw [show 4 * c / 4 = c by omega] at a
    exact absurd hcode a
   ·rw [show 4 * c / 4 = c by omega] at a
    exact a
  ·rcases Cc hj (i:=0) himg with ⟨h1',-⟩ | ⟨p',hp',h1',h3',h4'⟩
   ·rw [h1] at h1'
    omega
   ·obtain rfl : p = p':=by rw [h1] at h1'; omega
    rcases IW ho hcl hj with ⟨a,-⟩ | ⟨-,a⟩
    ·rw [ya hm] at h3'
     exact absurd a h3'
    ·exact (Su hp' h4' ((ya hm _).trans a)).symm
theorem LM {F : ShM} {C : Int} {l : List Int} {N : Nat} (h : Fl F C l) (hW : ShW N F) (hl : l≠[]) {k : Nat} (hk : (k : Int) < 4 * C) : CN F l k = seeF F l k:=by
 have:=(CB h hW hl (c:=k / 4) (by omega)).2.2 (k % 4) (by omega)
 unfold CN
 rw [this]
 congr 1
 omega
theorem O1 {F : ShM} {C : Int} {l : List Int} {N : Nat} (h : Fl F C l) (hW : ShW N F) (hl : l≠[]) {k : Nat} (hk : (k : Int) < 4 * C) : (seeF F l k).size = 16:=by
 obtain ⟨-,h2,h3⟩:=CB h hW hl (c:=k / 4) (by omega)
 have:=h3 (k % 4) (by omega)
 rw [show 4 * (k / 4) + k % 4 = k by omega] at this
 rw [<- this,ByteArray.size_extract,h2]
 omega
structure Rise (F F' : ShM) (x : Int) : Prop where
 off : ∀k,k≠x.toNat -> F' k = F k
 up : ∀k,lF F' x k = lF F x k \/ lF F' x k≠none
theorem Rise.refl (F : ShM) (x : Int) : Rise F F x:=⟨fun _ _=>rfl,fun _=>.inl rfl⟩
theorem Rise.trans {F G H : ShM} {x : Int} (h : Rise F G x) (g : Rise G H x) : Rise F H x:=⟨fun k hk=>(g.off k hk).trans (h.off k hk),fun k=>by
 rcases g.up k with e | e
 ·rw [e]; exact h.up k
 ·exact .inr e⟩
theorem Rise.face {F F' : ShM} {x y : Int} (h : Rise F F' x) (hy : y.toNat≠x.toNat) (k : Nat) : lF F' y k = lF F y k:=by unfold lF; rw [h.off _ hy]
theorem Rise.rest {F F' : ShM} {x : Int} {l : List Int} (h : Rise F F' x) (hl : ∀y∈l,y.toNat≠x.toNat) (k : Nat) : seeF F' l k = seeF F l k:=oP fun y hy=>h.face (hl y hy) k
theorem Rise.of_put {F : ShM} {x : Int} {m m' : ImgM} (hm : F x.toNat = some m) (h : ∀k,m'.face k = m.face k \/ m'.face k≠none) : Rise F (put F x.toNat m') x:=
 ⟨fun k hk=>zq hk,fun k=>by rw [ya (yg F x.toNat m'),ya hm]; exact h k⟩
theorem Rise.two {F F' : ShM} {x : Int} {l l2 : List Int} (h : Rise F F' x) (hl : ∀y∈l,y.toNat≠x.toNat) (hl2 : ∀y∈l2,y.toNat≠x.toNat) {k : Nat} (e : seeF F (x::l) k = seeF F (x::l2) k) : seeF F' (x::l) k = seeF F' (x::l2) k:=by
 rcases h.up k with h1 | h1
 ·rw [seeF,seeF,h1,h.rest hl,h.rest hl2]
  exact e
 ·cases h2 : lF F' x k with
  | none=>exact absurd h2 h1
  | some s=>rw [yk h2,yk h2]
theorem Bj {d : DevM} {a : Int} {s : ByteArray} (h0 : 0 <= a) (h1 : a < d.fl.length) (hs : s.size = 16) : (d.write a s).1 = 0 \/ (d.write a s).1 = 7:=by
 have hb : ¬(d.bad a s = true):=by
  unfold DevM.bad
  simp only [Bool.or_eq_true,decide_eq_true_eq]
  omega
 unfold DevM.write
 rw [zq hb]
 split
 ·exact .inr rfl
 ·exact .inl rfl
theorem IL : ∀{l : List ByteArray} {d : DevM} {a : Int},0 <= a -> a + l.length <= d.fl.length -> (∀x∈l,x.size = 16) -> (d.puts a l).1 = 0 \/ (d.puts a l).1 = 7:=by
 intro l
 induction l with
 | nil=>intro d a _ _ _; exact .inl rfl
 | cons s l ih=>
  intro d a h0 h1 hs
  simp only [List.length_cons] at h1
  have hw:=Bj (d:=d) h0 (by omega) (hs s (List.mem_cons_self ..))
  rw [DevM.puts]
  split
  ·exact hw
  ·obtain ⟨l1,-,-⟩:=oU d a s
   exact ih (by omega) (by omega) fun x hx=>hs x (List.mem_cons_of_mem _ hx)
theorem IN {m : ImgM} (hm : m.Ok) {c : Nat} (hc : c < m.t.length) {e : Ent} (he : lR e m.p = true) : (m.setE c e).1 = 0 \/ (m.setE c e).1 = 7:=by
 have hneed:=hm.need
 rw [Cm hm] at hneed
 have hr:=yr hc
 obtain ⟨C,hC,q1,q2,q3,q4,q5,q6,-⟩:=hm.nat
 have hw:=Bj (d:=m.d) (a:=1 + ((c / 8 : Nat) : Int)) (by omega) (by omega) (B3 (m.t.set c e) (c / 8))
 rw [Ck hm hc he]
 split
 ·exact hw
 ·exact .inl rfl
theorem Gy {m : ImgM} (hm : m.Ok) {c : Nat} (hc : c < m.t.length) : (m.clear c).1 = 0 \/ (m.clear c).1 = 7:=by
 have ht:=hm.t
 have hth : m.there (c : Int) = true:=by unfold ImgM.there; simp; omega
 unfold ImgM.clear
 rw [zt hth]
 split
 ·exact .inl rfl
 ·exact IN hm hc rfl
theorem LD {m : ImgM} (hm : m.Ok) {c f n : Nat} (hc : c < m.t.length) (h2 : m.kind (c : Int) = 2) {s : ByteArray} (hs : s.size = 16 * n) (hf : f + n <= 4) : (m.wr c f s).1 = 0 \/ (m.wr c f s).1 = 7:=by
 have ht:=hm.t
 have hth : m.there (c : Int) = true:=by unfold ImgM.there; simp; omega
 have hb : ¬m.wrBad (c : Int) (f : Int) s:=by
  unfold ImgM.wrBad
  rw [hth]
  simp
  omega
 obtain ⟨r0,r1⟩:=yI hm hc h2
 have h3:=zT hm r0 r1
 have h4:=zP hm r0
 unfold ImgM.wr
 rw [zq hb,zq (by simpa using h2),zn]
 exact IL (by omega) (by rw [oZ]; omega) (AP (n:=s.size / 16) (by omega))
theorem I2 {m : ImgM} (hm : m.Ok) (hw : m.d.writes < 999000) (hp : m.d.pend.length < 999000) {c : Nat} (hc : c < m.t.length) (h2 : m.kind (c : Int)≠2) {s : ByteArray} (hs : s.size = 64) : (m.fill c s).1 = 0 \/ (m.fill c s).1 = 6 \/ (m.fill c s).1 = 7:=by
 have ht:=hm.t
 have hth : m.there (c : Int) = true:=by unfold ImgM.there; simp; omega
 unfold ImgM.fill
 rw [zq (by rw [hth]; simp [hs]),zq h2]
 split
 ·exact .inr (.inl rfl)
 ·rename_i hfr
  obtain ⟨C,hC,q1,q2,q3,q4,q5,q6,-⟩:=hm.nat
  obtain ⟨P,hP⟩:=ze q5
  rcases AL m hP with hq | ⟨q,hq,hqP,-⟩
  ·exact absurd (by rw [hq]; decide) hfr
  ·rw [hq]
   have h3:=zT hm (y:=(q : Int)) (by omega) (by omega)
   have h4:=zP hm (y:=(q : Int)) (by omega)
   have hpc:=IL (d:=m.d) (a:=m.first (q : Int)) (l:=lv s 4) (by omega) (by rw [oZ]; omega) (AP (n:=4) (by omega))
   have s1:=BQ (n:=4) hm hw hp h4 (l:=lv s 4) (by rw [oZ]; omega) (by omega)
   have s2:=yZ s1.ok
   have he : lR (2,(q : Int)) m.p = true:=by unfold lR; rw [zt rfl]; simp; omega
   unfold ImgM.fillAt
   split
   ·rcases hpc with h | h
    ·exact .inl h
    ·exact .inr (.inr h)
   ·rw [zn]
    rcases IN s2.ok (c:=c) hc (e:=(2,(q : Int))) he with h | h
    ·exact .inl h
    ·exact .inr (.inr h)
theorem Az (s : ByteArray) (i : Nat) : (lz s i).data.toList = (s.data.toList.drop (16 * i)).take 16:=by
 unfold lz
 rw [zM,show i * 16 = 16 * i by omega,show (i + 1) * 16 - 16 * i = 16 by omega]
theorem BU (s : ByteArray) (i : Nat) : lz s i = s.extract (16 * i) (16 * i + 16):=by
 unfold lz
 rw [show i * 16 = 16 * i by omega,show (i + 1) * 16 = 16 * i + 16 by omega]
theorem MA {old s : ByteArray} {f n : Nat} (ho : old.size = 64) (hs : s.size = 16 * n) (hf : f + n <= 4) (i : Nat) :
  (za old f s).data.toList[i]? = if 16 * f <= i /\ i < 16 * f + 16 * n then s.data.toList[i - 16 * f]? else old.data.toList[i]?:=by
 have lo : old.data.toList.length = 64:=by rw [Array.length_toList]; exact ho
 have ls : s.data.toList.length = 16 * n:=by rw [Array.length_toList]; exact hs
 unfold za
 rw [ByteArray.data_append,ByteArray.data_append,Array.toList_append,Array.toList_append,zM,zM,hs,ho,List.drop_zero]
 by_cases h1 : i < 16 * f
 ·rw [zq (by omega),zp,List.getElem?_append_left (by simp; omega),List.getElem?_take_of_lt (by omega)]
 ·by_cases h2 : i < 16 * f + 16 * n
  ·rw [zt ⟨by omega,h2⟩,List.getElem?_append_left (by simp; omega),List.getElem?_append_right (by simp; omega)]
   congr 1
   simp
   omega
  ·rw [zq (by omega),List.getElem?_append_right (by simp; omega),List.take_of_length_le (by simp; omega),List.getElem?_drop]
   congr 1
   simp
   omega
theorem Lq {old s : ByteArray} {f n : Nat} (ho : old.size = 64) (hs : s.size = 16 * n) (hf : f + n <= 4) : (za old f s).size = 64:=by
 unfold za
 rw [ByteArray.size_append,ByteArray.size_append,ByteArray.size_extract,ByteArray.size_extract,ho,hs]
 omega
theorem EE {old s : ByteArray} {f n : Nat} (ho : old.size = 64) (hs : s.size = 16 * n) (hf : f + n <= 4) (j : Nat) : lz (za old f s) j = if f <= j /\ j < f + n then lz s (j - f) else lz old j:=by
 apply Go.WideShapes.bytes_inj
 have hg:=MA ho hs hf
 split
 ·rename_i h
  rw [Az,Az]
  refine List.ext_getElem? fun i=>?_
  by_cases hi : i < 16
  ·rw [List.getElem?_take_of_lt hi,List.getElem?_take_of_lt hi,List.getElem?_drop,List.getElem?_drop,hg,zt (by omega)]
   congr 1
   omega
  ·rw [List.getElem?_take_eq_none (by omega),List.getElem?_take_eq_none (by omega)]
 ·rename_i h
  rw [Az,Az]
  refine List.ext_getElem? fun i=>?_
  by_cases hi : i < 16
  ·rw [List.getElem?_take_of_lt hi,List.getElem?_take_of_lt hi,List.getElem?_drop,List.getElem?_drop,hg,zq (by omega)]
  ·rw [List.getElem?_take_eq_none (by omega),List.getElem?_take_eq_none (by omega)]
theorem DQ {n j : Nat} (h : j < n) : lz (zs (16 * n)) j = zs 16:=by
 rw [BU,J5 (by omega) (by omega),show 16 * j + 16 - 16 * j = 16 by omega]
structure yN (x : Int) (l : List Int) (fr : Nat) (new : Nat -> ByteArray) (k m : Nat) (F : ShM) (r : Int×ShM) : Prop where
 rise : Rise F r.2 x
 code : r.1 = 0 \/ r.1 = 6 \/ r.1 = 7
 old : ∀i,seeF r.2 l i = seeF F l i \/ ∃j,k <= j /\ j < k + m /\ i = fr + j /\ seeF r.2 l i = new j
 did : r.1 = 0 -> ∀j,k <= j -> j < k + m -> seeF r.2 l (fr + j) = new j
theorem yN.still {x : Int} {l : List Int} {fr : Nat} {new : Nat -> ByteArray} {k m : Nat} {F : ShM} (h : ∀j,k <= j -> j < k + m -> seeF F l (fr + j) = new j) : yN x l fr new k m F (0,F):=⟨Rise.refl F x,.inl rfl,fun _=>.inl rfl,fun _=>h⟩
theorem IC {F : ShM} {x : Int} {l : List Int} {m m' : ImgM} (hm : F x.toNat = some m) (hl : ∀y∈l,y.toNat≠x.toNat) {fr k n : Nat} {new : Nat -> ByteArray} {code : Int} (hcode : code = 0 \/ code = 6 \/ code = 7)
  (ho : ∀i,m'.face i = m.face i \/ (m'.face i = some (seeF F (x::l) i)) \/ ∃j,k <= j /\ j < k + n /\ i = fr + j /\ m'.face i = some (new j))
  (hd : code = 0 -> ∀j,k <= j -> j < k + n -> m'.face (fr + j) = some (new j)) : yN x (x::l) fr new k n F (code,put F x.toNat m'):=by
 have hr : Rise F (put F x.toNat m') x:=Rise.of_put hm fun i=>by
  rcases ho i with h | h | ⟨j,-,-,-,h⟩
  ·exact .inl h
  ·exact .inr (by rw [h]; simp)
  ·exact .inr (by rw [h]; simp)
 have hf : ∀i,lF (put F x.toNat m') x i = m'.face i:=fun i=>ya (yg F x.toNat m') i
 refine ⟨hr,hcode,fun i=>?_,fun h0 j hj hj2=>yk ((hf _).trans (hd h0 j hj hj2))⟩
 dsimp only
 rcases ho i with h | h | ⟨j,h1,h2,h3,h⟩
 ·left
  rw [seeF,seeF,hf,h,ya hm,hr.rest hl]
 ·left
  exact yk ((hf i).trans h)
 ·right
  exact ⟨j,h1,h2,h3,yk ((hf i).trans h)⟩
theorem KO {F : ShM} {C : Int} {N : Nat} {x : Int} {l : List Int} (hW : ShW N F) (hN : N < 900000) (h : Fl F C (x::l)) (hl : ∀y∈l,y.toNat≠x.toNat) {fr k n : Nat} {s : ByteArray} {new : Nat -> ByteArray} (hs : s.size = 16 * n) (hf : (fr + k) % 4 + n <= 4) (hc : (((fr + k) / 4 : Nat) : Int) < C) (hnew : ∀j,j < n -> lz s j = new (k + j)) :
  yN x (x::l) fr new k n F (layM F (x::l) ((fr + k) / 4) ((fr + k) % 4) s):=by
 obtain ⟨m,hm,h5,h0,ho,hcm,hlm⟩:=h.img hW (List.mem_cons_self ..)
 have hw:=hW.wr _ m h5 hm
 have hp:=hW.pend _ m h5 hm
 have hct : (fr + k) / 4 < m.t.length:=by omega
 unfold layM
 rw [show topI (x::l) = x.toNat from rfl,hm]
 dsimp only
 split
 ·rename_i h2
  have hcd:=LD ho hct h2 hs hf
  refine IC hm hl (hcd.imp id .inr) (fun i=>?_) fun hz j hj hj2=>?_
  ·rcases (E9 ho ((fr + k) / 4 : Nat) ((fr + k) % 4 : Nat) s i).1 with h1 | ⟨-,j,j1,j2,j3⟩
   ·exact .inl h1
   ·exact .inr (.inr ⟨k + j,by omega,by omega,by omega,by rw [j3,hnew j (by omega)]⟩)
  ·rw [(E9 ho ((fr + k) / 4 : Nat) ((fr + k) % 4 : Nat) s (fr + j)).2 hz (j - k) (by omega) (by omega),hnew (j - k) (by omega),show k + (j - k) = j by omega]
 ·rename_i h2
  obtain ⟨-,r2,r3⟩:=CB h hW (by simp) hc
  have hsz:=Lq r2 hs hf
  have hcd:=I2 ho (by omega) (by omega) hct h2 hsz
  have hff:=fun i=>IG ho (by omega) (by omega) ((fr + k) / 4 : Nat) (za (om F (x::l) ((fr + k) / 4 : Nat)).1 ((fr + k) % 4) s) i
  refine IC hm hl hcd (fun i=>?_) fun hz j hj hj2=>?_
  ·by_cases hz : (m.fill ((fr + k) / 4 : Nat) (za (om F (x::l) ((fr + k) / 4 : Nat)).1 ((fr + k) % 4) s)).1 = 0
   ·rw [(hff i).2 hz]
    by_cases hi : i / 4 = (fr + k) / 4
    ·rw [zt (by omega),EE r2 hs hf]
     split
     ·rename_i hr
      exact .inr (.inr ⟨k + (i % 4 - (fr + k) % 4),by omega,by omega,by omega,by rw [hnew _ (by omega)]⟩)
     ·rw [BU,r3 (i % 4) (by omega)]
      exact .inr (.inl (by congr 2; omega))
    ·rw [zq (by omega)]
     exact .inl rfl
   ·exact .inl ((hff i).1 hz)
  ·rw [(hff (fr + j)).2 hz,zt (by omega),EE r2 hs hf,zt (by omega),hnew _ (by omega)]
   congr 2
   omega
theorem Mj {F : ShM} {C : Int} {N : Nat} {x : Int} {l : List Int} (hW : ShW N F) (h : Fl F C (x::l)) (hl : ∀y∈l,y.toNat≠x.toNat) {fr k : Nat} (hf : (fr + k) % 4 + 4 <= 4) (hc : (((fr + k) / 4 : Nat) : Int) < C) :
  yN x (x::l) fr (fun _=>zs 16) k 4 F (zV F (x::l) ((fr + k) / 4)):=by
 obtain ⟨m,hm,h5,h0,ho,hcm,hlm⟩:=h.img hW (List.mem_cons_self ..)
 have hct : (fr + k) / 4 < m.t.length:=by omega
 have hcd:=Gy ho hct
 have hff:=fun i=>GA ho ((fr + k) / 4 : Nat) i
 unfold zV
 rw [show topI (x::l) = x.toNat from rfl,hm]
 dsimp only
 refine IC hm hl (hcd.imp id .inr) (fun i=>?_) fun hz j hj hj2=>?_
 ·by_cases hz : (m.clear ((fr + k) / 4 : Nat)).1 = 0
  ·rw [(hff i).2 hz]
   by_cases hi : i / 4 = (fr + k) / 4
   ·rw [zt (by omega)]
    exact .inr (.inr ⟨k + i % 4,by omega,by omega,by omega,rfl⟩)
   ·rw [zq (by omega)]
    exact .inl rfl
  ·exact .inl ((hff i).1 hz)
 ·rw [(hff (fr + j)).2 hz,zt (by omega)]
theorem Nj {F : ShM} {C : Int} {N : Nat} {x : Int} {l : List Int} (hW : ShW N F) (hN : N < 900000) (h : Fl F C (x::l)) (hl : ∀y∈l,y.toNat≠x.toNat) {fr k n : Nat} (hf : (fr + k) % 4 + n <= 4) (hc : (((fr + k) / 4 : Nat) : Int) < C) :
  yN x (x::l) fr (fun _=>zs 16) k n F (AC (x::l) fr F k n):=by
 unfold AC
 split
 ·rename_i h4
  subst h4
  exact Mj hW h hl hf hc
 ·split
  ·exact KO hW hN h hl (zl _) hf hc fun j hj=>DQ hj
  ·rename_i hk
   obtain ⟨m,hm,h5,h0,ho,hcm,hlm⟩:=h.img hW (List.mem_cons_self ..)
   have hk:=Decidable.not_not.1 hk
   unfold Il at hk
   rw [show topI (x::l) = x.toNat from rfl,hm] at hk
   refine yN.still fun j hj hj2=>yk ((ya hm _).trans (CM ?_))
   rw [show (fr + j) / 4 = (fr + k) / 4 by omega]
   exact hk
theorem P5 {F : ShM} {C : Int} {N : Nat} {x : Int} {l : List Int} (hW : ShW N F) (hN : N < 900000) (h : Fl F C (x::l)) (hl : ∀y∈l,y.toNat≠x.toNat) {fr k n : Nat} {s : ByteArray} (hs : 16 * (k + n) <= s.size) (hf : (fr + k) % 4 + n <= 4) (hc : (((fr + k) / 4 : Nat) : Int) < C) :
  yN x (x::l) fr (lz s) k n F (putA (x::l) fr s F k n):=by
 refine KO hW hN h hl (by rw [ByteArray.size_extract]; omega) hf hc fun j hj=>?_
 apply Go.WideShapes.bytes_inj
 rw [Az,Az,zM,List.drop_take,List.drop_drop,List.take_take]
 congr 1
 ·omega
 ·congr 1
  omega
theorem Gn {act : ShM -> Nat -> Nat -> Int×ShM} {C : Int} {x : Int} {l : List Int} {fr n : Nat} {new : Nat -> ByteArray}
  (ha : ∀(N : Nat) (F : ShM) (k m : Nat),ShW N F -> N < 900000 -> Fl F C (x::l) -> k + m <= n -> 0 < m -> (fr + k) % 4 + m <= 4 -> yN x (x::l) fr new k m F (act F k m) /\ lC 5 F (act F k m).2) :
  ∀{q : Nat} {F : ShM} {k N : Nat},ShW N F -> N + 5 * q < 900000 -> Fl F C (x::l) -> n - k <= q -> yN x (x::l) fr new k (n - k) F (oV act q F fr k n):=by
 intro q
 induction q with
 | zero=>
  intro F k N hW hN h hq
  rw [oV]
  exact yN.still fun j _ _=>by omega
 | succ q ih=>
  intro F k N hW hN h hq
  rw [oV]
  split
  ·exact yN.still fun j _ _=>by omega
  ·obtain ⟨hp,hst⟩:=ha N F k (min (n - k) (4 - (fr + k) % 4)) hW (by omega) h (by omega) (by omega) (by omega)
   generalize hmm : min (n - k) (4 - (fr + k) % 4) = mm at *
   split
   ·rename_i hc
    exact ⟨hp.rise,hp.code,fun i=>(hp.old i).imp id fun ⟨j,j1,j2,j3⟩=>⟨j,j1,by omega,j3⟩,fun h0=>absurd h0 hc⟩
   ·rename_i hc
    have hc:=Decidable.not_not.1 hc
    have h2:=ih (hW.step hst) (by omega) (h.same hst.same) (k:=k + mm) (by omega)
    refine ⟨hp.rise.trans h2.rise,h2.code,fun i=>?_,fun h0 j hj hj2=>?_⟩
    ·rcases h2.old i with e | ⟨j,j1,j2,j3⟩
     ·rw [e]
      exact (hp.old i).imp id fun ⟨j,j1,j2,j3⟩=>⟨j,j1,by omega,j3⟩
     ·exact .inr ⟨j,by omega,by omega,j3⟩
    ·by_cases hjm : k + mm <= j
     ·exact h2.did h0 j hjm (by omega)
     ·rcases h2.old (fr + j) with e | ⟨j',j1,j2,j3,-⟩
      ·rw [e]
       exact hp.did hc j hj (by omega)
      ·omega
theorem CS (F : ShM) (l : List Int) (fr n : Int) : lN F l fr n = 0 \/ lN F l fr n = 1 \/ (lN F l fr n = 4 /\ l.length = 0):=by
 unfold lN
 split
 ·rename_i h; exact .inr (.inr ⟨rfl,by simpa using h⟩)
 ·split
  ·exact .inr (.inl rfl)
  ·exact .inl rfl
theorem PX {F : ShM} {C : Int} {N : Nat} {x : Int} {l : List Int} (hW : ShW N F) (hN : N + 1000 < 900000) (h : Fl F C (x::l)) (hl : ∀y∈l,y.toNat≠x.toNat) {fr : Int} {s : ByteArray} (hs : s.size <= 3200) :
  ((putM F (x::l) fr s).1 = 1 /\ (putM F (x::l) fr s).2 = F /\ (s.size % 16≠0 \/ lN F (x::l) fr ((s.size / 16 : Nat) : Int)≠0)) \/
  (s.size % 16 = 0 /\ lN F (x::l) fr ((s.size / 16 : Nat) : Int) = 0 /\ yN x (x::l) fr.toNat (lz s) 0 (s.size / 16) F (putM F (x::l) fr s)):=by
 unfold putM
 split
 ·rename_i h1
  exact .inl ⟨rfl,rfl,.inl h1⟩
 ·rename_i h1
  have h1:=Decidable.not_not.1 h1
  split
  ·rename_i h2
   rcases CS F (x::l) fr ((s.size / 16 : Nat) : Int) with e | e | ⟨-,e⟩
   ·exact absurd e h2
   ·exact .inl ⟨e,rfl,.inr h2⟩
   ·simp at e
  ·rename_i h2
   have h2:=Decidable.not_not.1 h2
   obtain ⟨-,w1,w2,w3⟩:=yF h2
   have hcl : clus F ((x::l).getD 0 0) = C:=h.cl x (List.mem_cons_self ..)
   rw [hcl] at w3
   have h5 : topI (x::l) < 5:=by obtain ⟨m,-,h5,-⟩:=h.img hW (List.mem_cons_self ..); exact h5
   exact .inr ⟨h1,h2,Gn (n:=s.size / 16) (fun N' F' k m hW' hN' h' hkm hm hf=>⟨P5 hW' hN' h' hl (by omega) hf (by omega),Ed (hW'.sh hN') _ h5 _ s k m⟩) hW (by omega) h (by omega)⟩
theorem Ou {F : ShM} {C : Int} {N : Nat} {x : Int} {l : List Int} (hW : ShW N F) (hN : N + 1000 < 900000) (h : Fl F C (x::l)) (hl : ∀y∈l,y.toNat≠x.toNat) {fr n : Int} (hn : n <= 200) :
  ((yB F (x::l) fr n).1 = 1 /\ (yB F (x::l) fr n).2 = F /\ lN F (x::l) fr n≠0) \/
  (lN F (x::l) fr n = 0 /\ yN x (x::l) fr.toNat (fun _=>zs 16) 0 n.toNat F (yB F (x::l) fr n)):=by
 unfold yB
 split
 ·rename_i h2
  rcases CS F (x::l) fr n with e | e | ⟨-,e⟩
  ·exact absurd e h2
  ·exact .inl ⟨e,rfl,h2⟩
  ·simp at e
 ·rename_i h2
  have h2:=Decidable.not_not.1 h2
  obtain ⟨-,w1,w2,w3⟩:=yF h2
  have hcl : clus F ((x::l).getD 0 0) = C:=h.cl x (List.mem_cons_self ..)
  rw [hcl] at w3
  have h5 : topI (x::l) < 5:=by obtain ⟨m,-,h5,-⟩:=h.img hW (List.mem_cons_self ..); exact h5
  exact .inr ⟨h2,Gn (n:=n.toNat) (fun N' F' k m hW' hN' h' hkm hm hf=>⟨Nj hW' hN' h' hl hf (by omega),Dt (hW'.sh hN') _ h5 _ k m⟩) hW (by omega) h (by omega)⟩
theorem Dp {F : ShM} {N : Nat} (hW : ShW N F) (hN : N < 900000) {x : Int} {m : ImgM} (h5 : x.toNat < 5) (hm : F x.toNat = some m) {c : Nat} (hc : c < m.t.length) {s : ByteArray} (hs : s.size = 64) :
  (∀k,k≠x.toNat -> (yd F x.toNat c s).2 k = F k) /\ ((yd F x.toNat c s).1 = 0 \/ (yd F x.toNat c s).1 = 6 \/ (yd F x.toNat c s).1 = 7) /\
  (∀k,lF (yd F x.toNat c s).2 x k = lF F x k \/ (k / 4 = c /\ lF (yd F x.toNat c s).2 x k = some (lz s (k % 4)))) /\
  ((yd F x.toNat c s).1 = 0 -> ∀k,k / 4 = c -> lF (yd F x.toNat c s).2 x k = some (lz s (k % 4))):=by
 have ho:=hW.ok _ m h5 hm
 have hw:=hW.wr _ m h5 hm
 have hp:=hW.pend _ m h5 hm
 have ht:=ho.t
 have hth : m.there (c : Int) = true:=by unfold ImgM.there; simp; omega
 have hat : ∀(m' : ImgM) k,lF (put F x.toNat m') x k = m'.face k:=fun m' k=>ya (yg F x.toNat m') k
 unfold yd
 rw [hm]
 dsimp only
 split
 ·rename_i hz
  have hff:=fun i=>GA ho (c : Int) i
  refine ⟨fun k hk=>zq hk,(Gy ho hc).imp id .inr,fun k=>?_,fun h0 k hk=>?_⟩
  ·rw [hat,ya hm]
   by_cases h0 : (m.clear (c : Int)).1 = 0
   ·rw [(hff k).2 h0]
    by_cases hk : k / 4 = c
    ·rw [zt (by omega)]
     exact .inr ⟨hk,by rw [hz,show (64 : Nat) = 16 * 4 from rfl,DQ (by omega)]⟩
    ·rw [zq (by omega)]
     exact .inl rfl
   ·exact .inl ((hff k).1 h0)
  ·rw [hat,(hff k).2 h0,zt (by omega),hz,show (64 : Nat) = 16 * 4 from rfl,DQ (by omega)]
 ·rw [zq (by rw [hth]; decide)]
  split
  ·rename_i h2
   have hcd:=LD (f:=0) ho hc h2 (s:=s) (n:=4) (by omega) (by omega)
   refine ⟨fun k hk=>zq hk,hcd.imp id .inr,fun k=>?_,fun h0 k hk=>?_⟩
   ·rw [hat,ya hm]
    rcases (E9 ho (c : Int) 0 s k).1 with h1 | ⟨-,j,j1,j2,j3⟩
    ·exact .inl h1
    ·exact .inr ⟨by omega,by rw [j3]; congr 2; omega⟩
   ·rw [hat]
    exact (E9 ho (c : Int) 0 s k).2 h0 (k % 4) (by omega) (by omega)
  ·rename_i h2
   have hff:=fun i=>IG ho (by omega) (by omega) (c : Int) s i
   refine ⟨fun k hk=>zq hk,I2 ho (by omega) (by omega) hc h2 hs,fun k=>?_,fun h0 k hk=>?_⟩
   ·rw [hat,ya hm]
    by_cases h0 : (m.fill (c : Int) s).1 = 0
    ·rw [(hff k).2 h0]
     by_cases hk : k / 4 = c
     ·rw [zt (by omega)]
      exact .inr ⟨hk,rfl⟩
     ·rw [zq (by omega)]
      exact .inl rfl
    ·exact .inl ((hff k).1 h0)
   ·rw [hat,(hff k).2 h0,zt (by omega)]
end Go.Proofs.YtbpblokfiajpjabGreatDoor
