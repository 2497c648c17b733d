/- Lemmas on which YardOpens stands: the texts Yard10 Yard11 Yard12 Yard13 Yard14 Yard16 Yard17 Yard18. No conditions. -/
import Derived.Test.YtbpblokfiajpjabGreatDoorPkf4e09f476c
import Derived.Test.YtbpblokfiajpjabGreatDoorProg
set_option linter.all false
set_option maxRecDepth 1000000
set_option maxHeartbeats 32000000
namespace Go.Proofs.YtbpblokfiajpjabGreatDoor
open Go.RowKit Go.SL Go.Crc
attribute [local go_sem ↓] Go.wp_at_zero Go.wp_at_succ
theorem OX {w : World} (a c d : List SL.HP) {R : List SL.HP} (H : own w (a++(c++(d++R)))) : own w (a++(d++(c++R))):=by
 have h1:=lq a (c++d) (R:=R) (by simpa only [zp] using H)
 have h2:=lq c (d++a) (R:=R) (by simpa only [zp] using h1)
 have h3:=lq d a (R:=c++R) (by simpa only [zp] using h2)
 exact h3
theorem Ih {Y : YA} {m : lf} {j : JobM} {bj bt bb : Nat} {v : Value} {R : List SL.HP} {w : World}
  (H : own w (yL Y m (jobL Y.bs bj bt bb v j++(row 3 1 v j.list.length (ln j.list)::R)))) :
  own (w.setCell ⟨Y.y,13,none⟩ (.pointer (some ⟨bj,0,none⟩))) (yL { Y with bj:=bj,bt:=bt,bb:=bb,vj:=v } { m with job:=some j } R):=by
 have h1:=lg (i:=13) (v:=.pointer (some ⟨bj,0,none⟩)) 6 H rfl
 have h2:=lh 14 h1 rfl
 have h3 : own (w.setCell ⟨Y.y,13,none⟩ (.pointer (some ⟨bj,0,none⟩))) ((yL { Y with bj:=bj,bt:=bt,bb:=bb,vj:=v } { m with job:=some j } R).take 14++((jobL Y.bs bj bt bb v j++[row 3 1 v j.list.length (ln j.list)])++R)):=by
  rw [zp]
  exact h2
 have h4:=lq _ (jobL Y.bs bj bt bb v j++[row 3 1 v j.list.length (ln j.list)]) h3
 have h5:=yB (jobL Y.bs bj bt bb v j++[row 3 1 v j.list.length (ln j.list)]) h4
 exact lu ((yL { Y with bj:=bj,bt:=bt,bb:=bb,vj:=v } { m with job:=some j } R).take 14) h5
theorem Ix {F : ShM} {root kind file rate burst : Int} (h : (newM F root kind file rate burst).1 = none) : (newM F root kind file rate burst).2≠0:=by
 revert h
 unfold newM
 repeat' split
 all_goals intro h
 all_goals first | assumption | (cases h; done) | simp
theorem FW (r k f a b : Int) : 0 <= yd r k f a b:=by
 unfold yd
 split
 ·decide
 ·split <;> decide
theorem Qa (N : Nat) (Y : YA) (m : lf) (hm : YOk N m) (hN : N < 900000) (kind file rate burst : Int) (R : List SL.HP) (w : World) (H : own w (yL Y m R)) :
  Calls Tryz.prog 46 #[.pointer (some ⟨Y.y,0,none⟩),.int .i64 kind,.int .i64 file,.int .i64 rate,.int .i64 burst] w (zm Y (Aj m kind file rate burst) R w):=by
 have HB:=zh (Bj Y m R w H)
 generalize hres : Aj m kind file rate burst = res
 unfold Aj at hres
 cases hb : yX m with
 | true=>
  rw [if_pos hb] at hres
  subst hres
  rw [hb] at HB
  clear hb
  go_enter Tryz.func46,Tryz.ntmps46
  go_wp2_with fail
  refine HB.out.mono ?_
  rintro e w' ⟨rfl,rfl⟩
  go_wp2_with fail
  go_ret
  exact ⟨Y,rfl,rfl,Ext.refl _,H⟩
 | false=>
  rw [if_neg (by rw [hb]; decide)] at hres
  rw [hb] at HB
  have cr:=yI H
  have h1:=Iz (.cells #[.int .i64 m.dk.root,.int .i64 kind,.int .i64 file,.int .i64 rate,.int .i64 burst] 24) H
  have hx1:=(Ext.refl w).alloc (.cells #[.int .i64 m.dk.root,.int .i64 kind,.int .i64 file,.int .i64 rate,.int .i64 burst] 24)
  have HRES:=zh hres
  have HM:=zh hm
  clear hb hres hm
  go_enter Tryz.func46,Tryz.ntmps46
  go_wp2_with fail
  refine HB.out.mono ?_
  rintro e w' ⟨rfl,rfl⟩
  go_upto_region 4 with (fail)
  generalize w.heap.size = g at *
  generalize w.alloc (.cells #[.int .i64 m.dk.root,.int .i64 kind,.int .i64 file,.int .i64 rate,.int .i64 burst] 24) = w1 at *
  by_cases hk : kind = 0
  ·have d0 : (kind == 0) = true:=by rw [hk]; rfl
   rw [if_pos hk] at HRES
   clear hk cr
   go_wp2_with fail
   go_ret
   rw [<- HRES.out]
   exact ⟨Y,rfl,rfl,hx1,Bc h1⟩
  ·have d0 : (kind == 0) = false:=by rw [beq_eq_false_iff_ne]; exact hk
   rw [if_neg hk] at HRES
   have HCD:=zh (fun R' w' h=>GB m.dk.root kind file rate burst R' w' h)
   have hdc:=FW m.dk.root kind file rate burst
   have HK:=zh hk
   have c0:=(ld 15 h1 rfl).1 0
   have c1:=(ld 15 h1 rfl).1 1
   have c2:=(ld 15 h1 rfl).1 2
   have c3:=(ld 15 h1 rfl).1 3
   have c4:=(ld 15 h1 rfl).1 4
   unfold o6 at HCD
   have HDF : Hid ((lK.mk m.dk.root kind file rate burst).f = yd m.dk.root kind file rate burst):=zh rfl
   generalize hdf : yd m.dk.root kind file rate burst = df at *
   clear hk cr hdf
   go_wp2_with fail
   refine (HCD.out _ _ h1).mono ?_
   rintro e w2 ⟨rfl,hx2,h2⟩
   clear c0 c1 c2 c3 c4
   by_cases hd : df = 0
   ·subst hd
    rw [if_neg (by decide)] at HRES
    rw [l9]
    have hm:=HM.out
    have hl5 : (ls m.F m.dk.root).1.length <= 5:=A4
    have hsh:=hm.sh.sh hN
    have HNW:=zh (fun R' w' h=>Nd Y.bs Y.A m.F hsh m.dk.root kind file rate burst hl5 R' w' h)
    have hnc:=DZ m.F m.dk.root kind file rate burst
    have hgood : ∀j,(newM m.F m.dk.root kind file rate burst).1 = some j -> j.Ok /\ JobS m.F j:=fun j h=>Fa hsh hl5 h
    have hnz:=@Ix m.F m.dk.root kind file rate burst
    generalize newM m.F m.dk.root kind file rate burst = NJ at *
    obtain ⟨oj,nf⟩:=NJ
    dsimp only at HRES hnc hgood hnz
    have HGOOD:=zh hgood
    have NZ:=zh hnz
    have hz:=lj h2
    have hxz:=(hx1.trans hx2).drew
    have s6:=y_bs hz
    have s0:=(ld 15 hz rfl).1 0
    have s1:=(ld 15 hz rfl).1 1
    have s2:=(ld 15 hz rfl).1 2
    have s3:=(ld 15 hz rfl).1 3
    have s4:=(ld 15 hz rfl).1 4
    clear hgood hnz hm hl5 hsh h1 hx1 h2 hx2
    go_upto_region 9 with (fail)
    refine wp_region_held_drew (S:=fun w'=>w'.cell? ⟨Y.y,6,none⟩ = some (.pointer (some ⟨Y.bs,0,none⟩)) /\ w'.cell? ⟨g,0,none⟩ = some (.int .i64 m.dk.root) /\ w'.cell? ⟨g,1,none⟩ = some (.int .i64 kind) /\ w'.cell? ⟨g,2,none⟩ = some (.int .i64 file) /\ w'.cell? ⟨g,3,none⟩ = some (.int .i64 rate) /\ w'.cell? ⟨g,4,none⟩ = some (.int .i64 burst)) (by kernel_rfl) ⟨s6,s0,s1,s2,s3,s4⟩ (fun hHeld=>?_)
    refine tk 0 ?_
    refine tk 1 ?_
    refine tk 2 ?_
    refine tk 3 ?_
    refine tk 4 ?_
    try simp only [Act.put,tA,tB,tC,tD,tE,tF]
    refine rd 5 rfl fun K hK=>?_
    clear s6 s0 s1 s2 s3 s4
    go_simp
    go_at_call 15
    refine (HNW.out _ _ hz).mono ?_
    cases oj with
    | none=>
     rintro e w3 ⟨rfl,hx3,h3'⟩
     have h3 : own w3 (yL Y m (pts g (.cells #[.int .i64 m.dk.root,.int .i64 kind,.int .i64 file,.int .i64 rate,.int .i64 burst] 24 (0,0))::R)):=h3'
     have s6:=y_bs h3
     have s0:=(ld 15 h3 rfl).1
     go_simp
     refine hK.out _ _ ⟨s6,s0 0,s0 1,s0 2,s0 3,s0 4⟩ (fun _=>?_)
     clear hK K s6 s0
     try simp only [Act.put,tA,tB,tC,tD,tE,tF]
     refine tk 6 ?_
     refine tk 7 ?_
     refine tk 8 ?_
     refine tk 9 ?_
     refine tk 10 ?_
     try simp only [Act.put,tA,tB,tC,tD,tE,tF]
     refine wpAnyH_done (by kernel_rfl) ?_ _
     have hnz : nf≠0:=NZ.out rfl
     dsimp only at HRES
     rw [ly (e:=nf) (by omega)]
     go_wp2_with fail
     go_ret
     rw [<- HRES.out]
     exact ⟨Y,rfl,by rw [ly (e:=nf) (by omega)]; rfl,hxz.trans hx3,Bc h3⟩
    | some j=>
     rintro e w3 ⟨bj,bt,bb,v,rfl,hx3,h3'⟩
     have h3 : own w3 (yL Y m (jobL Y.bs bj bt bb v j++(row 3 1 v j.list.length (ln j.list)::(pts g (.cells #[.int .i64 m.dk.root,.int .i64 kind,.int .i64 file,.int .i64 rate,.int .i64 burst] 24 (0,0))::R)))):=by
      have:=OX (shL Y.bs Y.A m.F) (jobL Y.bs bj bt bb v j++[row 3 1 v j.list.length (ln j.list)]) (yT Y m) (R:=pts g (.cells #[.int .i64 m.dk.root,.int .i64 kind,.int .i64 file,.int .i64 rate,.int .i64 burst] 24 (0,0))::R) (by rw [zp]; exact h3')
      rw [zp] at this
      exact this
     have s6:=y_bs h3
     have s0:=(ld 19 h3 rfl).1
     go_simp
     refine hK.out _ _ ⟨s6,s0 0,s0 1,s0 2,s0 3,s0 4⟩ (fun _=>?_)
     clear hK K s6 h3'
     try simp only [Act.put,tA,tB,tC,tD,tE,tF]
     refine tk 6 ?_
     refine tk 7 ?_
     refine tk 8 ?_
     refine tk 9 ?_
     refine tk 10 ?_
     try simp only [Act.put,tA,tB,tC,tD,tE,tF]
     refine wpAnyH_done (by kernel_rfl) ?_ _
     have c0:=s0 0
     have c1:=s0 1
     have c2:=s0 2
     have c3:=s0 3
     have c4:=s0 4
     clear s0
     obtain ⟨hjo,hjs⟩:=HGOOD.out j rfl
     have hto:=HM.out.tp.1
     have htw:=HM.out.tp.2.1
     have htp:=HM.out.tp.2.2.1
     have HW:=zh (fun R' w' h=>Bs Y m hto (by omega) (by omega) ⟨m.dk.root,kind,file,rate,burst⟩ HDF.out R' w' h)
     have hwc:=zR m ⟨m.dk.root,kind,file,rate,burst⟩
     dsimp only at HRES
     unfold lK.v o6 at HW
     generalize lw m ⟨m.dk.root,kind,file,rate,burst⟩ = W at *
     obtain ⟨wc,m2⟩:=W
     dsimp only at hwc HW HRES
     have hx4:=hxz.trans hx3
     clear hz hxz hx3 hto htw htp
     go_wp2_with fail
     refine (HW.out _ _ h3).mono ?_
     rintro e w4 ⟨rfl,hx5,h4⟩
     clear c0 c1 c2 c3 c4 h3
     by_cases hwz : wc = 0
     ·subst hwz
      rw [if_neg (by decide)] at HRES
      rw [l9]
      have cj:=FR h4
      have fj:=BT h4 13
      have h5:=Ih h4
      have hx6:=(hx4.trans hx5).setCell (⟨Y.y,13,none⟩ : Addr) (.pointer (some ⟨bj,0,none⟩))
      have HPU:=zh (fun w' (h : own w' (yL { Y with bj:=bj,bt:=bt,bb:=bb,vj:=v } { m2 with job:=some j } (pts g (.cells #[.int .i64 m.dk.root,.int .i64 kind,.int .i64 file,.int .i64 rate,.int .i64 burst] 24 (0,0))::R)))=>JK Y.bs bj bt bb v j hjo false _ w' (lq (shL Y.bs Y.A m2.F) (jobL Y.bs bj bt bb v j) (Bw (Y:={ Y with bj:=bj,bt:=bt,bb:=bb,vj:=v }) (m:={ m2 with job:=some j }) (j:=j) rfl h)))
      have hpl:=DC j false
      have HPT:=zh (fun w' h=>AS (Y:={ Y with bj:=bj,bt:=bt,bb:=bb,vj:=v }) (m:={ m2 with job:=some j }) (F':=m2.F) (j:=j) (j':=(yG j false).2) (R:=pts g (.cells #[.int .i64 m.dk.root,.int .i64 kind,.int .i64 file,.int .i64 rate,.int .i64 burst] 24 (0,0))::R) (w:=w') rfl hpl (fun _ _=>Iff.rfl) h)
      have H5:=zh h5
      clear h4 h5
      generalize yG j false = PJ at *
      obtain ⟨pc,j2⟩:=PJ
      dsimp only at HPU HPT HRES hpl
      go_wp2_with fail
      refine (HPU.out _ H5.out).mono ?_
      rintro e w6 ⟨rfl,hx7,h6⟩
      have h7:=HPT.out _ (lq (jobL Y.bs bj bt bb v j2) (shL Y.bs Y.A m2.F) h6)
      go_wp2_with fail
      go_ret
      rw [<- HRES.out]
      exact ⟨{ Y with bj:=bj,bt:=bt,bb:=bb,vj:=v },rfl,rfl,hx6.trans hx7,Bc h7⟩
     ·rw [if_pos hwz] at HRES
      rw [ly (e:=wc) (by omega)]
      go_wp2_with fail
      go_ret
      rw [<- HRES.out]
      exact ⟨Y,rfl,by rw [ly (e:=wc) (by omega)]; rfl,hx4.trans hx5,lh 15 (lh 16 (lh 17 (lh 18 (lh 19 h4 rfl) rfl) rfl) rfl) rfl⟩
   ·rw [if_pos hd] at HRES
    rw [ly (e:=df) (by omega)]
    go_wp2_with fail
    go_ret
    rw [<- HRES.out]
    exact ⟨Y,rfl,by rw [ly (e:=df) (by omega)]; rfl,hx1.trans hx2,Bc h2⟩
def NI (Y : YA) (S : (Bool×Int)×lf) (R : List SL.HP) (w : World) (e : Ending) (w' : World) : Prop:=
 ∃Y' : YA,Y'.y = Y.y /\ e = .returned (.tuple #[.bool S.1.1,errV S.1.2]) /\ Ext w w' /\ own w' (yL Y' S.2 R)
def NL (m : lf) : Prop:=∀j,m.job = some j -> j.st < 4 -> m.dk.kind = 2 -> (lz (lZ m.F j).2.1 (lZ m.F j).2.2).1 = 0 -> (ls (lz (lZ m.F j).2.1 (lZ m.F j).2.2).2.1 m.dk.root).2 = 0
theorem LB (m : lf) (d : lK) (h : (lw m d).1 = 0) : (lw m d).2.dk = d:=by
 revert h
 unfold lw
 split
 ·rename_i h; exact fun h2=>absurd h2 h
 ·exact fun _=>rfl
theorem Ia (m : lf) (d : lK) (h : (lw m d).1≠0) : (lw m d).2.dk = m.dk:=by
 revert h
 unfold lw
 split
 ·exact fun _=>rfl
 ·exact fun h=>absurd rfl h
theorem Vp (m : lf) (d : lK) (h : m.dk = d) : ({ m with dk:=d } : lf) = m:=by rw [<- h]
theorem LO (N : Nat) (Y : YA) (m : lf) (hm : YOk N m) (hN : N + 100 < 890000) (hlk : NL m) (R : List SL.HP) (hT : ∀w' L,own w' (L++R) -> yH w') (w : World) (H : own w (yL Y m R)) :
  Calls Tryz.prog 48 #[.pointer (some ⟨Y.y,0,none⟩)] w (NI Y (zj m) R w):=by
 have HB:=zh (Bj Y m R w H)
 generalize hres : zj m = res
 unfold zj at hres
 unfold yX at HB
 cases hj : m.job with
 | none=>
  rw [hj] at HB hres
  dsimp only at HB hres
  subst hres
  clear hj hlk
  go_enter Tryz.func48,Tryz.ntmps48
  go_wp2_with fail
  refine HB.out.mono ?_
  rintro e w' ⟨rfl,rfl⟩
  go_wp2_with fail
  go_ret2
  exact ⟨Y,rfl,rfl,Ext.refl _,H⟩
 | some j=>
  rw [hj] at HB hres
  dsimp only at HB hres
  by_cases h4 : 4 <= j.st
  ·rw [if_pos h4] at hres
   subst hres
   rw [decide_eq_false (by omega)] at HB
   clear hj h4 hlk
   go_enter Tryz.func48,Tryz.ntmps48
   go_wp2_with fail
   refine HB.out.mono ?_
   rintro e w' ⟨rfl,rfl⟩
   go_wp2_with fail
   go_ret2
   exact ⟨Y,rfl,rfl,Ext.refl _,H⟩
  ·rw [if_neg h4] at hres
   rw [decide_eq_true (by omega)] at HB
   obtain ⟨hS,hl,hk,hf,hr⟩:=hm.job j hj (by omega)
   have hjo:=hm.jok j hj
   have hsh:=hm.sh.sh (by omega)
   have cj:=zU hj H
   have hv : ∀w' L,own w' (L++(row 3 1 Y.vj j.list.length (ln j.list)::((yT Y m).take 8++R))) -> lR w' Y.vj j.list:=fun w' L h=>lY 0 (lq L [row 3 1 Y.vj j.list.length (ln j.list)] h) rfl
   have hT2 : ∀w' L,own w' (L++(row 3 1 Y.vj j.list.length (ln j.list)::((yT Y m).take 8++R))) -> yH w':=fun w' L h=>hT w' (L++(row 3 1 Y.vj j.list.length (ln j.list)::(yT Y m).take 8)) (by rw [zp]; exact h)
   have HST:=zh (Sd Y.bs Y.A m.F hsh Y.bj Y.bt Y.bb Y.vj j hjo hS (row 3 1 Y.vj j.list.length (ln j.list)::((yT Y m).take 8++R)) w hv hT2 (Bw hj H))
   have hcode:=Gy m.F j
   have hst:=Ef hsh hjo hS
   have hsm:=CN m.F j
   have hok2:=Jp (F:=m.F) hjo
   have hS2:=(hS.step hst).same hsm
   have hW2:=hm.sh.step hst
   have hlk2:=hlk j hj (by omega)
   have HPUT:=zh (fun w' h=>AS (w:=w') (Y:=Y) (m:=m) (R:=R) (F':=(lZ m.F j).2.1) (j':=(lZ m.F j).2.2) hj hsm.1 (fun k hk=>hst.same.none hk) h)
   have hr5:=hm.root5
   have hto:=hm.tp.1
   have htw:=hm.tp.2.1
   have htp:=hm.tp.2.2.1
   have hlist:=hsm.1
   generalize lZ m.F j = SP at *
   obtain ⟨⟨did,c⟩,F1,j1⟩:=SP
   dsimp only at HST hcode hok2 hS2 hW2 hlk2 HPUT hres hlist
   have HN:=zh (fun R' w' h=>Ct m.dk.root R' w' h)
   have HRES:=zh hres
   have HOK:=zh hok2
   have HS2:=zh hS2
   have HW2:=zh hW2
   have HLK:=zh hlk2
   have HLI:=zh hlist
   clear hres hm hlk hlk2 hS hl hk hf hr hjo hsh hv hT2 hst hsm hok2 hS2 hW2 hlist h4 hj
   go_enter Tryz.func48,Tryz.ntmps48
   go_wp2_with fail
   refine HB.out.mono ?_
   rintro e w' ⟨rfl,rfl⟩
   go_wp2_with fail
   refine HST.out.mono ?_
   rintro e w2 ⟨rfl,hx2,h2'⟩
   have h2:=HPUT.out _ h2'
   clear cj h2' HST HPUT HB
   have cj:=zU (m:={ m with F:=F1,job:=some j1 }) rfl h2
   have cr:=yI h2
   by_cases hc : c = 0
   ·subst hc
    rw [if_neg (by decide)] at HRES
    rw [l9]
    have ck:=Cj h2
    by_cases hk2 : m.dk.kind = 2
    ·have d2 : (m.dk.kind != 2) = false:=by rw [hk2]; rfl
     have hstat:=(I8 Y.bs Y.bj Y.bt Y.bb Y.vj j1 HOK.out _ w2 (lq (shL Y.bs Y.A F1) (jobL Y.bs Y.bj Y.bt Y.bb Y.vj j1) (Bw (m:={ m with F:=F1,job:=some j1 }) rfl h2)))
     have hf2:=Vg j1.kind j1.file j1.st (cnt j1.x : Nat)
     unfold CB at hstat
     generalize hcn : (cnt j1.x : Nat) = cn at hstat hf2
     clear hcn
     have HSTA:=zh hstat
     have HLK:=zh (HLK.out hk2)
     have HK2:=zh hk2
     clear hk2 hstat
     by_cases h3 : j1.st = 3
     ·have d3 : (j1.st != 3) = false:=by rw [h3]; rfl
      rw [if_neg (by rintro (h | h); exact h HK2.out; exact h h3)] at HRES
      clear h3
      have hv : ∀w' L,own w' (L++(row 3 1 Y.vj j1.list.length (ln j1.list)::((yT Y { m with F:=F1,job:=some j1 }).take 8++R))) -> lR w' Y.vj j1.list:=fun w' L h=>lY 0 (lq L [row 3 1 Y.vj j1.list.length (ln j1.list)] h) rfl
      have HSE:=zh (fun w' h=>I6 Y.bs Y.A F1 (N + 5) HW2.out (by omega) Y.bj Y.bt Y.bb Y.vj j1 HOK.out HS2.out (row 3 1 Y.vj j1.list.length (ln j1.list)::((yT Y { m with F:=F1,job:=some j1 }).take 8++R)) w' hv h)
      have hsc:=Bh F1 j1
      have HPUT:=zh (fun w' h=>AS (w:=w') (Y:=Y) (m:={ m with F:=F1,job:=some j1 }) (R:=R) (F':=(lz F1 j1).2.1) (j:=j1) (j':=(lz F1 j1).2.2) rfl (BQ F1 j1).1 (fun k hk=>BW hk) h)
      have HSH:=zh ((BA (N:=N + 5) HW2.out (by omega) HOK.out HS2.out).sh (by omega))
      generalize lz F1 j1 = SE at *
      obtain ⟨sc,F2,j2⟩:=SE
      dsimp only at HSE hsc HPUT HSH HLK HRES
      clear hv HW2 HS2
      go_wp2_with fail
      refine HSTA.out.mono ?_
      rintro e w3 ⟨rfl,hx3,h3'⟩
      have h3:=lq (jobL Y.bs Y.bj Y.bt Y.bb Y.vj j1) (shL Y.bs Y.A F1) h3'
      clear h2 cr ck cj h3'
      have cj:=zU (m:={ m with F:=F1,job:=some j1 }) rfl (IB (m:={ m with F:=F1,job:=some j1 }) (j:=j1) rfl h3)
      go_wp2_with fail
      refine (HSE.out _ h3).mono ?_
      rintro e w4 ⟨rfl,hx4,h4'⟩
      have h4 : own w4 (yL Y { m with F:=F2,job:=some j2 } R):=HPUT.out _ h4'
      clear cj h3 h4'
      have cr:=yI h4
      have hx5:=(hx2.trans hx3).trans hx4
      by_cases hsz : sc = 0
      ·have HLK2:=zh (HLK.out hsz)
       clear HLK
       subst hsz
       rw [if_neg (by decide)] at HRES
       rw [l9]
       have HWK:=zh (fun R' w' h=>Cs Y.bs Y.A F2 HSH.out m.dk.root R' w' h)
       unfold zA at HWK
       rw [HLK2.out,l9] at HWK
       generalize (ls F2 m.dk.root).1 = l at *
       clear HLK2 cr
       have HS:=zh (fun (m' : lf) w' R' (h : own w' (yL Y m' R'))=>(⟨y_bs h,yI h⟩ : w'.cell? ⟨Y.y,6,none⟩ = some (.pointer (some ⟨Y.bs,0,none⟩)) /\ w'.cell? ⟨Y.y,7,none⟩ = some (.int .i64 m'.dk.root)))
       have h5:=lj h4
       have hx5:=hx5.drew
       have hg:=HS.out _ _ _ h5
       go_upto_region 14 with (fail)
       refine wp_region_held_drew (S:=fun w'=>w'.cell? ⟨Y.y,6,none⟩ = some (.pointer (some ⟨Y.bs,0,none⟩)) /\ w'.cell? ⟨Y.y,7,none⟩ = some (.int .i64 m.dk.root)) (by kernel_rfl) hg (fun hHeld=>?_)
       refine tk 0 ?_
       refine tk 1 ?_
       refine tk 2 ?_
       refine tk 3 ?_
       refine tk 4 ?_
       refine tk 5 ?_
       refine tk 6 ?_
       refine tk 7 ?_
       refine tk 8 ?_
       refine tk 9 ?_
       try simp only [Act.put,tA,tB,tC,tD,tE,tF]
       refine rd 10 rfl fun K hK=>?_
       go_simp
       go_at_call 69
       refine (HWK.out _ _ h5).mono ?_
       rintro e w6 ⟨v,rfl,hx6,h6⟩
       obtain ⟨vo,vb,vof,vcap,rfl,-,-,-,-⟩:=(lY 0 h6 rfl).form
       have h7:=BU (Y:=Y) (m:={ m with F:=F2,job:=some j2 }) h6
       go_simp
       refine hK.out _ _ (HS.out { m with F:=F2,job:=some j2 } _ _ h7) (fun _=>?_)
       clear hK K h4 h5 h6 hg
       try simp only [Act.put,tA,tB,tC,tD,tE,tF]
       refine tk 11 ?_
       refine tk 12 ?_
       refine tk 13 ?_
       refine tk 14 ?_
       refine tk 15 ?_
       try simp only [Act.put,tA,tB,tC,tD,tE,tF]
       refine rd 16 rfl fun K hK=>?_
       have cl:=BO h7
       have fl:=BT h7 12
       have h8:=Gw h7
       have hx8:=(hx5.trans hx6).setCell (⟨Y.y,12,none⟩ : Addr) (.slice vo l.length vcap)
       have z6:=y_bs h8
       have z7:=yI h8
       go_simp
       refine hK.out _ _ ⟨z6,z7⟩ (fun _=>?_)
       clear hK K h7 cl fl z6 z7
       try simp only [Act.put,tA,tB,tC,tD,tE,tF]
       refine tk 17 ?_
       try simp only [Act.put,tA,tB,tC,tD,tE,tF]
       refine wpAnyH_done (by kernel_rfl) ?_ _
       generalize w6.setCell ⟨Y.y,12,none⟩ (.slice vo l.length vcap) = w8 at *
       have cj:=zU (m:={ m with F:=F2,job:=some j2,list:=l }) (j:=j2) rfl h8
       have HE:=zh (MB Y.bs Y.bj Y.bt Y.bb Y.vj j2 true _ w8 (lq (shL Y.bs Y.A F2) (jobL Y.bs Y.bj Y.bt Y.bb Y.vj j2) (Bw (Y:={ Y with v:=.slice vo l.length vcap }) (m:={ m with F:=F2,job:=some j2,list:=l }) (j:=j2) rfl h8)))
       go_wp2_with fail
       refine HE.out.mono ?_
       rintro e w9 ⟨rfl,hx9,h9'⟩
       have h9 : own w9 (yL { Y with v:=.slice vo l.length vcap } { m with F:=F2,job:=some (endM j2 true),list:=l } R):=AS (Y:={ Y with v:=.slice vo l.length vcap }) (m:={ m with F:=F2,job:=some j2,list:=l }) (j:=j2) rfl (show (endM j2 true).list = j2.list from rfl) (fun _ _=>Iff.rfl) (lq (jobL Y.bs Y.bj Y.bt Y.bb Y.vj (endM j2 true)) (shL Y.bs Y.A F2) h9')
       clear cj h8 h9'
       have cr:=yI h9
       have HW:=zh (fun R' w' h=>Bs { Y with v:=.slice vo l.length vcap } { m with F:=F2,job:=some (endM j2 true),list:=l } hto (by dsimp only; omega) (by dsimp only; omega) (lC m.dk.root) (BN hr5.1 hr5.2) R' w' h)
       have hwc:=zR { m with F:=F2,job:=some (endM j2 true),list:=l } (lC m.dk.root)
       have hwd:=LB { m with F:=F2,job:=some (endM j2 true),list:=l } (lC m.dk.root)
       have hwn:=Ia { m with F:=F2,job:=some (endM j2 true),list:=l } (lC m.dk.root)
       generalize lw { m with F:=F2,job:=some (endM j2 true),list:=l } (lC m.dk.root) = W at *
       obtain ⟨wc,m2⟩:=W
       dsimp only at HW hwc hwd hwn HRES
       have HWD:=zh hwd
       have HWN:=zh hwn
       have hx10:=hx8.trans hx9
       clear hwd hwn hx8 hx9
       go_wp2_with fail
       refine (HN.out _ _ h9).mono ?_
       rintro e w10 ⟨rfl,hx11,h10⟩
       go_wp2_with fail
       refine (HW.out _ _ h10).mono ?_
       rintro e w11 ⟨rfl,hx12,h11⟩
       have hx13:=(hx10.trans hx11).trans hx12
       clear cr h9 h10 hx10 hx11 hx12
       by_cases hwz : wc = 0
       ·have hdk:=HWD.out hwz
        subst hwz
        rw [l9]
        rw [Vp m2 (lC m.dk.root) hdk] at HRES
        clear hdk HWD
        go_wp2_with fail
        go_ret2
        rw [<- HRES.out]
        exact ⟨{ Y with v:=.slice vo l.length vcap },rfl,rfl,hx13,h11⟩
       ·rw [ly (e:=wc) (by omega)]
        have hdk:=HWN.out hwz
        have cr:=yI h11
        rw [hdk] at cr
        have HN2:=zh (fun R' w' h=>Ct m.dk.root R' w' h)
        unfold lK.v o6 lC at HN2
        clear hdk HWD HWN
        go_wp2_with fail
        refine (HN2.out _ _ h11).mono ?_
        rintro e w12 ⟨rfl,hx14,h12⟩
        clear cr h11
        have fy:=BT h12
        have e7:=yI h12
        have e8:=Cj h12
        have e9:=Cd h12
        have e10:=Ex h12
        have e11:=Dm h12
        have h13:=lg (i:=11) (v:=.int .i64 0) 6 (lg (i:=10) (v:=.int .i64 0) 6 (lg (i:=9) (v:=.int .i64 (-1)) 6 (lg (i:=8) (v:=.int .i64 0) 6 (lg (i:=7) (v:=.int .i64 m.dk.root) 6 h12 rfl) rfl) rfl) rfl) rfl
        have h14 : own _ (yL { Y with v:=.slice vo l.length vcap } { m2 with dk:=lC m.dk.root } R):=h13
        have hx15:=((((((hx13.trans hx14).setCell (⟨Y.y,7,none⟩ : Addr) (.int .i64 m.dk.root)).setCell (⟨Y.y,8,none⟩ : Addr) (.int .i64 0)).setCell (⟨Y.y,9,none⟩ : Addr) (.int .i64 (-1))).setCell (⟨Y.y,10,none⟩ : Addr) (.int .i64 0)).setCell (⟨Y.y,11,none⟩ : Addr) (.int .i64 0))
        clear h12 h13
        go_wp2_with fail
        go_ret2
        rw [<- HRES.out]
        exact ⟨{ Y with v:=.slice vo l.length vcap },rfl,rfl,hx15,h14⟩
      ·rw [if_pos hsz] at HRES
       rw [ly (e:=sc) (by omega)]
       have HW:=zh (fun R' w' h=>Bs Y { m with F:=F2,job:=some j2 } hto (by dsimp only; omega) (by dsimp only; omega) (lC m.dk.root) (BN hr5.1 hr5.2) R' w' h)
       generalize lw { m with F:=F2,job:=some j2 } (lC m.dk.root) = W at *
       obtain ⟨wc,m2⟩:=W
       dsimp only at HW HRES
       go_wp2_with fail
       refine (HN.out _ _ h4).mono ?_
       rintro e w6 ⟨rfl,hx6,h6⟩
       go_wp2_with fail
       refine (HW.out _ _ h6).mono ?_
       rintro e w7 ⟨rfl,hx7,h7⟩
       go_wp2_with fail
       go_ret2
       rw [<- HRES.out]
       exact ⟨Y,rfl,by rw [ly (e:=sc) (by omega)]; rfl,(hx5.trans hx6).trans hx7,h7⟩
     ·have d3 : (j1.st != 3) = true:=bne_iff_ne.2 h3
      rw [if_pos (.inr h3)] at HRES
      clear h3
      go_wp2_with fail
      refine HSTA.out.mono ?_
      rintro e w3 ⟨rfl,hx3,h3'⟩
      have h3:=IB (m:={ m with F:=F1,job:=some j1 }) (j:=j1) rfl (lq (jobL Y.bs Y.bj Y.bt Y.bb Y.vj j1) (shL Y.bs Y.A F1) h3')
      go_wp2_with fail
      go_ret2
      rw [<- HRES.out]
      exact ⟨Y,rfl,rfl,hx2.trans hx3,h3⟩
    ·have d2 : (m.dk.kind != 2) = true:=bne_iff_ne.2 hk2
     rw [if_pos (.inl hk2)] at HRES
     clear hk2
     go_wp2_with fail
     go_ret2
     rw [<- HRES.out]
     exact ⟨Y,rfl,rfl,hx2,h2⟩
   ·rw [if_pos hc] at HRES
    rw [ly (e:=c) (by omega)]
    have HG:=zh (Ii Y.bs Y.bj Y.bt Y.bb Y.vj j1 _ w2 (lq (shL Y.bs Y.A F1) (jobL Y.bs Y.bj Y.bt Y.bb Y.vj j1) (Bw (m:={ m with F:=F1,job:=some j1 }) rfl h2)))
    by_cases h1 : j1.st < 4
    ·rw [if_pos h1] at HRES
     rw [decide_eq_true h1] at HG
     clear h1
     go_wp2_with fail
     refine HG.out.mono ?_
     rintro e w' ⟨rfl,rfl⟩
     go_wp2_with fail
     go_ret2
     rw [<- HRES.out]
     exact ⟨Y,rfl,by rw [ly (e:=c) (by omega)]; rfl,hx2,h2⟩
    ·rw [if_neg h1] at HRES
     rw [decide_eq_false h1] at HG
     clear h1
     have HW:=zh (fun R' w' h=>Bs Y { m with F:=F1,job:=some j1 } hto (by dsimp only; omega) (by dsimp only; omega) (lC m.dk.root) (BN hr5.1 hr5.2) R' w' h)
     generalize lw { m with F:=F1,job:=some j1 } (lC m.dk.root) = W at *
     obtain ⟨wc,m2⟩:=W
     dsimp only at HW HRES
     go_wp2_with fail
     refine HG.out.mono ?_
     rintro e w' ⟨rfl,rfl⟩
     go_wp2_with fail
     refine (HN.out _ _ h2).mono ?_
     rintro e w3 ⟨rfl,hx3,h3⟩
     go_wp2_with fail
     refine (HW.out _ _ h3).mono ?_
     rintro e w4 ⟨rfl,hx4,h4⟩
     go_wp2_with fail
     go_ret2
     rw [<- HRES.out]
     exact ⟨Y,rfl,by rw [ly (e:=c) (by omega)]; rfl,(hx2.trans hx3).trans hx4,h4⟩
theorem PX (Y : YA) (m : lf) (hl5 : m.list.length <= 5) (R : List SL.HP) (w : World) (H : own w (yL Y m R)) :
  Calls Tryz.prog 51 #[.pointer (some ⟨Y.y,0,none⟩)] w fun e w'=>∃v,e = .returned v /\ Ext w w' /\ own w' (yL Y m (row 3 1 v m.list.length (ln m.list)::R)):=by
 have hb:=lv 3 1 H
 obtain ⟨ao2,lb2,off2,cap2,hY2,-,-,hao2,-⟩:=(DV H).form
 have cl:=BO H
 have hvb:=DV H
 rw [hY2] at cl hvb
 have HNW:=zh (GY hvb)
 have HAO2:=zh hao2
 have hm5 : 0 + m.list.length <= maxLen:=by simp only [maxLen]; omega
 clear hvb hao2
 go_enter Tryz.func51,Tryz.ntmps51
 go_wp2_with (first | (at_builtin; refine lE rfl _ _ 95 rfl 0 3 Tryz.underlying95 BV rfl (by decide) rfl hb rfl ao2 m.list.length cap2 (ln m.list) rfl (by simp [ln]) HNW.out (fun h=>by by_cases h0 : 0 < m.list.length; exact absurd (HAO2.out h0) (by rw [h]; simp); omega) (JB _) hm5 (by omega) ?_))
 intro v' w5 h5 hx5
 have h6 : own w5 (yL Y m (row 3 1 v' m.list.length (ln m.list)::R)):=BU h5
 go_wp2_with fail
 go_ret
 exact ⟨v',rfl,hx5,h6⟩
def stN (B : Nat -> Nat) (k b : Nat) : Nat -> Nat:=fun j=>if j = k then b else B j
def ptrs (B : Nat -> Nat) (q : Nat) : List Value:=(List.range q).map fun k=>.pointer (some ⟨B k,0,none⟩)
theorem Vy (B : Nat -> Nat) (q b : Nat) : ptrs (stN B q b) (q + 1) = ptrs B q++[.pointer (some ⟨b,0,none⟩)]:=by
 unfold ptrs
 rw [List.range_succ,List.map_append]
 congr 1
 ·refine List.map_congr_left fun k hk=>?_
  rw [stN,if_neg (by have:=List.mem_range.1 hk; omega)]
 ·simp [stN]
def devL (B : Nat -> Nat) (D : Nat -> DevM) : Nat -> List SL.HP
 | 0=>[]
 | q + 1=>ll (B q) (D q)::devL B D q
theorem U2 {B : Nat -> Nat} {D : Nat -> DevM} {k b : Nat} : ∀{q : Nat},q <= k -> devL (stN B k b) D q = devL B D q:=by
 intro q
 induction q with
 | zero=>intro _; rfl
 | succ q ih=>
  intro h
  rw [devL,devL,ih (by omega),stN,if_neg (by omega)]
theorem MC {B : Nat -> Nat} {D : Nat -> DevM} {q c : Nat} : devL (stN B q c) D (q + 1) = ll c (D q)::devL B D q:=by
 rw [devL,U2 (Nat.le_refl q)]
 simp [stN]
theorem Uv : Elem Tryz.prog 53 1 8 (.pointer none):=by unfold Elem; kernel_rfl
theorem VB (b : Nat) : ∀u∈[Value.pointer (some ⟨b,0,none⟩)],u.oneCell' = true:=fun u hu=>by simp at hu; subst hu; rfl
theorem Lf (Y : YA) (m : lf) (R : List SL.HP) {k : Nat} (hk : k < 5) : Cq Y m R k = Cq Y m [] k++R:=by
 have h1 : ∀R,yL Y m R = yL Y m []++R:=fun R=>by
  show shL _ _ _++(yT _ _++R) = (shL _ _ _++(yT _ _++[]))++R
  rw [List.append_nil,zp]
 have h2 : (yL Y m []).length = 15:=rfl
 unfold Cq
 rw [h1 R]
 cases m.F k with
 | none=>dsimp only; rw [List.set_append_left _ _ (by omega)]
 | some i=>dsimp only; rw [List.eraseIdx_append_of_lt_length (by omega)]; rfl
theorem NK {Y : YA} {m : lf} {P Q : SL.HP} {R : List SL.HP} {w : World} {k : Nat} (hk : k < 5) (H : own w (P::Q::Cq Y m R k)) : own w (Q::Cq Y m (P::R) k):=by
 rw [Lf Y m R hk] at H
 rw [Lf Y m (P::R) hk]
 exact lu (Q::Cq Y m [] k) H
theorem IS (m : lf) (k : Nat) : Bx m k (devOf m k) = m:=by
 unfold Bx devOf
 cases e : m.F k with
 | none=>dsimp only; rw [show setD m.D k (m.D k) = m.D from funext fun j=>by unfold setD; split <;> simp_all]
 | some i=>dsimp only; rw [EH (m:=i) e]
theorem Gz {N : Nat} {m : lf} (h : YOk N m) {k : Nat} (hk : k < 5) : (devOf m k).Ok /\ (devOf m k).writes <= N /\ (devOf m k).pend.length <= N:=by
 unfold devOf
 cases e : m.F k with
 | none=>exact h.dv k hk e
 | some i=>exact ⟨(h.sh.ok k i hk e).d,h.sh.wr k i hk e,h.sh.pend k i hk e⟩
theorem At {w : World} (l : List SL.HP) {m : List SL.HP} (H : own w (l++m)) : own w m:=le (yB l H)
theorem CV {w : World} {l : List SL.HP} (k : Nat) {P : SL.HP} (hk : l[k]? = some P) (H : own w (P::l.eraseIdx k)) : own w l:=yZ (fun _=>BE k hk) H
theorem Qj {Y : YA} {m : lf} {R : List SL.HP} {w : World} {k : Nat} (hk : k < 5) (H : own w (ll (Y.A k).2.1 (devOf m k)::Cq Y m R k)) : own w (yL Y m R):=by
 have hs:=IS m k
 unfold Bx at hs
 unfold devOf Cq at H
 cases e : m.F k with
 | none=>
  rw [e] at H hs
  dsimp only at hs
  unfold devOf at hs
  rw [e] at hs
  have h1:=FJ hk e H
  rwa [hs] at h1
 | some i=>
  rw [e] at H
  have h1:=yB [lO (Y.A k).1 (Y.A k).2.1 (Y.A k).2.2 i,ll (Y.A k).2.1 i.d] (BZ H)
  exact CV (1 + k) (by rw [JU Y m R hk]; unfold oJ; rw [e]) h1
def KP (Y : YA) : Value:=.agg #[.pointer (some ⟨(Y.A 0).2.1,0,none⟩),.pointer (some ⟨(Y.A 1).2.1,0,none⟩),.pointer (some ⟨(Y.A 2).2.1,0,none⟩),.pointer (some ⟨(Y.A 3).2.1,0,none⟩),.pointer (some ⟨(Y.A 4).2.1,0,none⟩)]
theorem Wj (a b c d e : Nat) (w : World) : (Instr.index 54 (.agg #[.pointer (some ⟨a,0,none⟩),.pointer (some ⟨b,0,none⟩),.pointer (some ⟨c,0,none⟩),.pointer (some ⟨d,0,none⟩),.pointer (some ⟨e,0,none⟩)]) (.int .i64 ((0 : Nat) : Int))).run Tryz.prog w = .ok (.pointer (some ⟨a,0,none⟩)) w:=by kernel_rfl
theorem VQ (a b c d e : Nat) (w : World) : (Instr.index 54 (.agg #[.pointer (some ⟨a,0,none⟩),.pointer (some ⟨b,0,none⟩),.pointer (some ⟨c,0,none⟩),.pointer (some ⟨d,0,none⟩),.pointer (some ⟨e,0,none⟩)]) (.int .i64 ((1 : Nat) : Int))).run Tryz.prog w = .ok (.pointer (some ⟨b,0,none⟩)) w:=by kernel_rfl
theorem Wm (a b c d e : Nat) (w : World) : (Instr.index 54 (.agg #[.pointer (some ⟨a,0,none⟩),.pointer (some ⟨b,0,none⟩),.pointer (some ⟨c,0,none⟩),.pointer (some ⟨d,0,none⟩),.pointer (some ⟨e,0,none⟩)]) (.int .i64 ((2 : Nat) : Int))).run Tryz.prog w = .ok (.pointer (some ⟨c,0,none⟩)) w:=by kernel_rfl
theorem VR (a b c d e : Nat) (w : World) : (Instr.index 54 (.agg #[.pointer (some ⟨a,0,none⟩),.pointer (some ⟨b,0,none⟩),.pointer (some ⟨c,0,none⟩),.pointer (some ⟨d,0,none⟩),.pointer (some ⟨e,0,none⟩)]) (.int .i64 ((3 : Nat) : Int))).run Tryz.prog w = .ok (.pointer (some ⟨d,0,none⟩)) w:=by kernel_rfl
theorem V0 (a b c d e : Nat) (w : World) : (Instr.index 54 (.agg #[.pointer (some ⟨a,0,none⟩),.pointer (some ⟨b,0,none⟩),.pointer (some ⟨c,0,none⟩),.pointer (some ⟨d,0,none⟩),.pointer (some ⟨e,0,none⟩)]) (.int .i64 ((4 : Nat) : Int))).run Tryz.prog w = .ok (.pointer (some ⟨e,0,none⟩)) w:=by kernel_rfl
theorem Q0 (Y : YA) {k : Nat} (hk : k < 5) (w : World) : (Instr.index 54 (KP Y) (.int .i64 (k : Int))).run Tryz.prog w = .ok (.pointer (some ⟨(Y.A k).2.1,0,none⟩)) w:=by
 unfold KP
 have h : k = 0 \/ k = 1 \/ k = 2 \/ k = 3 \/ k = 4:=by omega
 rcases h with rfl | rfl | rfl | rfl | rfl
 ·exact Wj _ _ _ _ _ w
 ·exact VQ _ _ _ _ _ w
 ·exact Wm _ _ _ _ _ w
 ·exact VR _ _ _ _ _ w
 ·exact V0 _ _ _ _ _ w
theorem TT (N : Nat) (Y : YA) (m : lf) (hm : YOk N m) (R : List SL.HP) (w : World) (H : own w (yL Y m R)) :
  Calls Tryz.prog 123 #[.pointer (some ⟨Y.y,0,none⟩)] w fun e w'=>∃v B bt,e = .returned (.tuple #[v,.pointer (some ⟨bt,0,none⟩)]) /\ Ext w w' /\ own w' (yL Y m (ll bt m.top::row 53 1 v 5 (ptrs B 5)::(devL B (devOf m) 5++R))):=by
 have hb:=BU (lv 53 1 H)
 have d0:=DG H (k:=0) (by decide)
 have d1:=DG H (k:=1) (by decide)
 have d2:=DG H (k:=2) (by decide)
 have d3:=DG H (k:=3) (by decide)
 have d4:=DG H (k:=4) (by decide)
 have HIX:=zh (fun (k : Nat) (hk : k < 5) (w : World)=>Q0 Y hk w)
 unfold KP at HIX
 have HOK:=zh (fun (k : Nat) (hk : k < 5)=>(Gz hm hk).1)
 have HTP:=zh hm.tp.1
 clear H hm
 go_enter Tryz.func123,Tryz.ntmps123
 go_wp2_with fail
 go_loopw [11,4] (fun iv v wr=>∃(q : Nat) (B : Nat -> Nat),q <= 5 /\ iv = .int .i64 q /\ Ext w wr /\ own wr (yL Y m (row 53 1 v q (ptrs B q)::(devL B (devOf m) q++R)))) (fun iv _ _=>6 - (intOf iv).toNat)
 case atStart=>exact ⟨0,fun _=>0,by omega,rfl,Ext.refl w,hb⟩
 case round=>
  clear hb d0 d1 d2 d3 d4
  obtain ⟨q,B,hq,rfl,hxr,hown⟩:=hrel
  by_cases hlt : q < 5
  ·have g1 : (q : Int) < 5:=by omega
   have g2 : (0 : Int) <= (q : Int):=by omega
   have hix:=HIX.out q hlt wr
   have hcp:=Gg (Y.A q).2.1 (devOf m q) (HOK.out q hlt) _ wr (KE hlt hown)
   have HCP:=zh hcp
   obtain ⟨ao,g,cap,rfl,r1,r2,r3,-,-,-,-⟩:=lk 15 hown rfl
   clear hcp
   go_wp2_with fail
   refine HCP.out.mono ?_
   rintro e w2 ⟨c,rfl,hx2,h2⟩
   have h3:=Qj hlt (NK hlt h2)
   have h4:=lt 16 h3 rfl
   have ha:=li h4 (.cells #[.pointer (some ⟨c,0,none⟩)] 53)
   go_wp2_with (first | (at_builtin; refine lE rfl _ _ 62 rfl 1 53 Tryz.underlying62 Uv rfl (by decide) rfl ha rfl (some ⟨_,0,none⟩) 1 1 [.pointer (some ⟨c,0,none⟩)] rfl rfl (oy _ [.pointer (some ⟨c,0,none⟩)] _) (fun h=>by cases h) (VB _) (by simp only [maxLen]; omega) (by omega) ?_))
   intro v' w7 h7 hx7
   have h8:=BU (Y:=Y) (m:=m) (R:=ll c (devOf m q)::(devL B (devOf m) q++R)) (le h7)
   have hx8:=((hxr.trans hx2).alloc (.cells #[.pointer (some ⟨c,0,none⟩)] 53)).trans hx7
   go_wp2_with fail
   go_roundw
   case rel=>exact ⟨q + 1,stN B q c,by omega,by go_num,hx8,by rw [Vy,MC]; exact h8⟩
   case measure=>simp [intOf]; omega
  ·obtain rfl : q = 5:=by omega
   obtain ⟨ao,g,cap,rfl,-,-,-,-,-,-,-⟩:=lk 15 hown rfl
   have ct:=y_tp hown
   go_wp2_with fail
   refine (Gg Y.tp m.top HTP.out _ wr (Ml hown)).mono ?_
   rintro e w2 ⟨bt,rfl,hx2,h2⟩
   have h3 : own w2 (ll Y.tp m.top::(yL Y m (ll bt m.top::row 53 1 (.slice ao 5 cap) 5 (ptrs B 5)::(devL B (devOf m) 5++R))).eraseIdx 12):=lu (ll Y.tp m.top::(yL Y m []).eraseIdx 12) h2
   have h4 : own w2 (yL Y m (ll bt m.top::row 53 1 (.slice ao 5 cap) 5 (ptrs B 5)::(devL B (devOf m) 5++R))):=lu ((yL Y m []).take 12) h3
   go_wp2_with fail
   go_ret2
   exact ⟨_,B,bt,rfl,hxr.trans hx2,h4⟩
def Bb (A : Nat -> Nat×Nat×Nat) (q k : Nat) : Value:=if k < q then .pointer (some ⟨(A k).2.1,0,none⟩) else .pointer none
def nC (bs : Nat) (A : Nat -> Nat×Nat×Nat) (q : Nat) (t : Value) (dk : lK) (v : Value) : Array Value:=#[Bb A q 0,Bb A q 1,Bb A q 2,Bb A q 3,Bb A q 4,t,.pointer (some ⟨bs,0,none⟩),.int .i64 dk.root,.int .i64 dk.kind,.int .i64 dk.file,.int .i64 dk.rate,.int .i64 dk.burst,v,.pointer none]
def zK (A : Nat -> Nat×Nat×Nat) (F : ShM) (D : Nat -> DevM) (q k : Nat) : HP:=if k < q then oL A F D k else emp
def nT (y bs : Nat) (A : Nat -> Nat×Nat×Nat) (F : ShM) (D : Nat -> DevM) (q : Nat) (t : Value) (dk : lK) (v : Value) : List SL.HP:=[pts y (.cells (nC bs A q t dk v) 165 (0,0)),zK A F D q 0,zK A F D q 1,zK A F D q 2,zK A F D q 3,zK A F D q 4]
abbrev nL (y bs : Nat) (A : Nat -> Nat×Nat×Nat) (F : ShM) (D : Nat -> DevM) (q : Nat) (t : Value) (dk : lK) (v : Value) (R : List SL.HP) : List SL.HP:=shL bs A F++(nT y bs A F D q t dk v++R)
theorem UU {y bs : Nat} {A : Nat -> Nat×Nat×Nat} {F : ShM} (D : Nat -> DevM) {t v : Value} {dk : lK} {R : List SL.HP} {w : World}
  (H : own w (pts y (.cells #[.pointer none,.pointer none,.pointer none,.pointer none,.pointer none,t,.pointer (some ⟨bs,0,none⟩),.int .i64 dk.root,.int .i64 dk.kind,.int .i64 dk.file,.int .i64 dk.rate,.int .i64 dk.burst,v,.pointer none] 165 (0,0))::(shL bs A F++R))) : own w (nL y bs A F D 0 t dk v R):=by
 have h1:=zk (zk (zk (zk (zk H))))
 have h2:=lq [emp,emp,emp,emp,emp] [_] h1
 exact lq (nT y bs A F D 0 t dk v) (shL bs A F) h2
theorem Vm {bs q : Nat} {A : Nat -> Nat×Nat×Nat} {F : ShM} {a : Nat×Nat×Nat} (hF : F q = none) : shL bs (stA A q a) F = shL bs A F:=by
 have hP : ∀k,oJ (stA A q a) F k = oJ A F k:=fun k=>by
  unfold oJ stA
  by_cases e : k = q
  ·subst e; rw [hF]
  ·rw [if_neg e]
 have hV : ∀k,yv (stA A q a) F k = yv A F k:=fun k=>by
  unfold yv stA
  by_cases e : k = q
  ·subst e; rw [hF]
  ·rw [if_neg e]
 unfold shL yf
 rw [hP,hP,hP,hP,hP,hV,hV,hV,hV,hV]
theorem Ur {A : Nat -> Nat×Nat×Nat} {q k : Nat} {a : Nat×Nat×Nat} : Bb (stA A q a) (q + 1) k = if k = q then .pointer (some ⟨a.2.1,0,none⟩) else Bb A q k:=by
 unfold Bb stA
 by_cases e : k = q
 ·subst e; rw [if_pos rfl,if_pos rfl,if_pos (by omega)]
 ·rw [if_neg e,if_neg e]
  by_cases h : k < q
  ·rw [if_pos h,if_pos (by omega)]
  ·rw [if_neg h,if_neg (by omega)]
theorem Uw {A : Nat -> Nat×Nat×Nat} {F : ShM} {D : Nat -> DevM} {q k : Nat} {a : Nat×Nat×Nat} (hF : F q = none) : zK (stA A q a) F D (q + 1) k = if k = q then ll a.2.1 (D q) else zK A F D q k:=by
 unfold zK oL stA
 by_cases e : k = q
 ·subst e; rw [if_pos (by omega),hF,if_pos rfl,if_pos rfl]
 ·rw [if_neg e,if_neg e]
  by_cases h : k < q
  ·rw [if_pos h,if_pos (by omega)]
  ·rw [if_neg h,if_neg (by omega)]
theorem Ew {A : Nat -> Nat×Nat×Nat} {F : ShM} {D : Nat -> DevM} {q : Nat} : zK A F D q q = emp:=if_neg (by omega)
theorem UT {y bs q c : Nat} {A : Nat -> Nat×Nat×Nat} {F : ShM} {D : Nat -> DevM} {t v : Value} {dk : lK} {R : List SL.HP} {w : World} (hq : q < 5) (hF : F q = none) (H : own w (ll c (D q)::nL y bs A F D q t dk v R)) :
  own (w.setCell ⟨y,q,none⟩ (.pointer (some ⟨c,0,none⟩))) (nL y bs (stA A q (0,c,0)) F D (q + 1) t dk v R):=by
 have h1:=lg (i:=q) (v:=.pointer (some ⟨c,0,none⟩)) 7 H rfl
 show own _ (shL bs (stA A q (0,c,0)) F++(nT y bs (stA A q (0,c,0)) F D (q + 1) t dk v++R))
 unfold nT nC
 rw [Vm hF]
 simp only [Ur,Uw hF]
 match q,hq with
 | 0,_=>exact yk 7 h1 (by show some (zK A F D 0 0) = _; rw [Ew])
 | 1,_=>exact yk 8 h1 (by show some (zK A F D 1 1) = _; rw [Ew])
 | 2,_=>exact yk 9 h1 (by show some (zK A F D 2 2) = _; rw [Ew])
 | 3,_=>exact yk 10 h1 (by show some (zK A F D 3 3) = _; rw [Ew])
 | 4,_=>exact yk 11 h1 (by show some (zK A F D 4 4) = _; rw [Ew])
theorem V5 {y bs q k : Nat} {A : Nat -> Nat×Nat×Nat} {F : ShM} {D : Nat -> DevM} {t v : Value} {dk : lK} {R : List SL.HP} {w : World} (hk : k < 5) (hq : k < q) (hF : F k = none) (H : own w (nL y bs A F D q t dk v R)) :
  own w (ll (A k).2.1 (D k)::(nL y bs A F D q t dk v R).set (7 + k) emp):=by
 have e : zK A F D q k = ll (A k).2.1 (D k):=by unfold zK oL; rw [if_pos hq,hF]
 have hg : (nL y bs A F D q t dk v R)[7 + k]? = some (zK A F D q k):=by
  match k,hk with
  | 0,_=>rfl
  | 1,_=>rfl
  | 2,_=>rfl
  | 3,_=>rfl
  | 4,_=>rfl
 have h1:=C9 (7 + k) H hg
 rwa [e] at h1
theorem Ww {y bs q k : Nat} {A : Nat -> Nat×Nat×Nat} {F : ShM} {D : Nat -> DevM} {t v : Value} {dk : lK} {R : List SL.HP} {w : World} (hk : k < 5) (hq : k < q) (hF : F k = none) (H : own w (ll (A k).2.1 (D k)::(nL y bs A F D q t dk v R).set (7 + k) emp)) :
  own w (nL y bs A F D q t dk v R):=by
 have e : zK A F D q k = ll (A k).2.1 (D k):=by unfold zK oL; rw [if_pos hq,hF]
 rw [<- e] at H
 match k,hk with
 | 0,_=>exact yk 7 H rfl
 | 1,_=>exact yk 8 H rfl
 | 2,_=>exact yk 9 H rfl
 | 3,_=>exact yk 10 H rfl
 | 4,_=>exact yk 11 H rfl
theorem Sb {A : Nat -> Nat×Nat×Nat} {F : ShM} {D : Nat -> DevM} {q k j : Nat} {a : Nat×Nat×Nat} {i : ImgM} : zK (setA A k a) (put F k i) D q j = if j = k then emp else zK A F D q j:=by
 unfold zK
 by_cases e : j = k
 ·subst e
  rw [if_pos rfl]
  split
  ·unfold oL; rw [zq]
  ·rfl
 ·rw [if_neg e]
  unfold oL
  rw [AB F i e,B8 A a e]
theorem Tr {A : Nat -> Nat×Nat×Nat} {q k j bi bh : Nat} : Bb (setA A k (bi,(A k).2.1,bh)) q j = Bb A q j:=by
 unfold Bb
 by_cases e : j = k
 ·subst e; rw [C6]
 ·rw [B8 A _ e]
theorem WD {y bs q k bi bh : Nat} {A : Nat -> Nat×Nat×Nat} {F : ShM} {D : Nat -> DevM} {t v : Value} {dk : lK} {i : ImgM} {R : List SL.HP} {w : World} (hk : k < 5) (hF : F k = none)
  (H : own w (lO bi (A k).2.1 bh i::ll (A k).2.1 i.d::(nL y bs A F D q t dk v R).set (7 + k) emp)) :
  own (w.setCell ⟨bs,k,none⟩ (.pointer (some ⟨bi,0,none⟩))) (nL y bs (setA A k (bi,(A k).2.1,bh)) (put F k i) D q t dk v R):=by
 have h1:=V9 (R:=(nT y bs A F D q t dk v++R).set (1 + k) emp) hk hF (b:=bs) (A:=A) (w:=w) (bi:=bi) (bd:=(A k).2.1) (bh:=bh) (m:=i) (by
  match k,hk with
  | 0,_=>exact H
  | 1,_=>exact H
  | 2,_=>exact H
  | 3,_=>exact H
  | 4,_=>exact H)
 have e : (nT y bs A F D q t dk v++R).set (1 + k) emp = nT y bs (setA A k (bi,(A k).2.1,bh)) (put F k i) D q t dk v++R:=by
  unfold nT nC
  simp only [Sb,Tr]
  match k,hk with
  | 0,_=>rfl
  | 1,_=>rfl
  | 2,_=>rfl
  | 3,_=>rfl
  | 4,_=>rfl
 rw [e] at h1
 exact h1
theorem S4 {y bs tp : Nat} {A : Nat -> Nat×Nat×Nat} {F : ShM} {D : Nat -> DevM} {v : Value} {dk : lK} {top : DevM} {l : List Int} {R : List SL.HP} {w : World} (H : own w (nL y bs A F D 5 (.pointer (some ⟨tp,0,none⟩)) dk v (ll tp top::row 3 1 v l.length (ln l)::R))) :
  own w (yL ⟨y,bs,tp,A,v,0,0,0,undef⟩ ⟨F,D,top,dk,l,none⟩ R):=
 lu ((yL ⟨y,bs,tp,A,v,0,0,0,undef⟩ ⟨F,D,top,dk,l,none⟩ R).take 14) (zk H)
theorem Bi {y bs q : Nat} {A : Nat -> Nat×Nat×Nat} {F : ShM} {D : Nat -> DevM} {t v : Value} {dk : lK} {R : List SL.HP} {w : World} (H : own w (nL y bs A F D q t dk v R)) : (∀i,w.cell? ⟨y,i,none⟩ = (nC bs A q t dk v)[i]?) /\ ∀i,w.frozen? ⟨y,i,none⟩ = false:=ld 6 H rfl
theorem Tg {y bs q k : Nat} {A : Nat -> Nat×Nat×Nat} {F : ShM} {D : Nat -> DevM} {t v : Value} {dk : lK} {R : List SL.HP} {w : World} (hk : k < 5) (H : own w (nL y bs A F D q t dk v R)) : w.cell? ⟨y,k,none⟩ = some (Bb A q k):=by
 rw [(Bi H).1]
 have h : k = 0 \/ k = 1 \/ k = 2 \/ k = 3 \/ k = 4:=by omega
 rcases h with rfl | rfl | rfl | rfl | rfl
 all_goals rfl
theorem Kl {y bs q k c : Nat} {A : Nat -> Nat×Nat×Nat} {F : ShM} {D : Nat -> DevM} {t v : Value} {dk : lK} {R : List SL.HP} {w : World} (hk : k < 5) (hq : k < q) (hc : (A k).2.1 = c) (H : own w (nL y bs A F D q t dk v R)) : w.cell? ⟨y,k,none⟩ = some (.pointer (some ⟨c,0,none⟩)):=by
 rw [Tg hk H]; unfold Bb; rw [if_pos hq,hc]
theorem Lq {y bs k : Nat} {A : Nat -> Nat×Nat×Nat} {F : ShM} {D : Nat -> DevM} {t v : Value} {dk : lK} {R : List SL.HP} {w : World} (hk : k < 5) (H : own w (nL y bs A F D k t dk v R)) : w.cell? ⟨y,k,none⟩ = some (.pointer none):=by
 rw [Tg hk H]; unfold Bb; rw [if_neg (by omega)]
theorem n_bs {y bs q : Nat} {A : Nat -> Nat×Nat×Nat} {F : ShM} {D : Nat -> DevM} {t v : Value} {dk : lK} {R : List SL.HP} {w : World} (H : own w (nL y bs A F D q t dk v R)) : w.cell? ⟨y,6,none⟩ = some (.pointer (some ⟨bs,0,none⟩)):=(Bi H).1 6
theorem Ep {y bs q : Nat} {A : Nat -> Nat×Nat×Nat} {F : ShM} {D : Nat -> DevM} {t v : Value} {dk : lK} {P : SL.HP} {R : List SL.HP} {w : World} (H : own w (P::nL y bs A F D q t dk v R)) : own w (nL y bs A F D q t dk v (P::R)):=by
 have h:=lu (shL bs A F++nT y bs A F D q t dk v) (R:=R) (by rw [zp]; exact H)
 rwa [zp] at h
def DY (m : lf) : lf:=
 if m.dk.kind = 0 then m else if m.dk.kind = 2 /\ bkOf m.F m.dk.root = m.dk.file then { m with dk:=lC m.dk.root }
 else match newM m.F m.dk.root m.dk.kind m.dk.file m.dk.rate m.dk.burst with
  | (none,_)=>{ m with dk:=lC m.dk.root }
  | (some j,_)=>{ m with job:=some j }
theorem UX {F : ShM} {k : Nat} {i : ImgM} (h : F k = some i) : bkOf F (k : Int) = i.b:=by unfold bkOf; rw [zn,h]
theorem F9 {Y : YA} {m : lf} {R : List SL.HP} {w : World} (d : lK) (H : own w (yL Y m R)) :
  own (((((w.setCell ⟨Y.y,7,none⟩ (.int .i64 d.root)).setCell ⟨Y.y,8,none⟩ (.int .i64 d.kind)).setCell ⟨Y.y,9,none⟩ (.int .i64 d.file)).setCell ⟨Y.y,10,none⟩ (.int .i64 d.rate)).setCell ⟨Y.y,11,none⟩ (.int .i64 d.burst)) (yL Y { m with dk:=d } R):=
 lg (i:=11) (v:=.int .i64 d.burst) 6 (lg (i:=10) (v:=.int .i64 d.rate) 6 (lg (i:=9) (v:=.int .i64 d.file) 6 (lg (i:=8) (v:=.int .i64 d.kind) 6 (lg (i:=7) (v:=.int .i64 d.root) 6 H rfl) rfl) rfl) rfl) rfl
theorem J9 {Y : YA} {m : lf} {j : JobM} {bj bt bb : Nat} {v : Value} {R : List SL.HP} {w : World} (H : own w (shL Y.bs Y.A m.F++(jobL Y.bs bj bt bb v j++(row 3 1 v j.list.length (ln j.list)::(yT Y m++R))))) :
  own w (yL Y m (jobL Y.bs bj bt bb v j++(row 3 1 v j.list.length (ln j.list)::R))):=by
 have h1:=TB (shL Y.bs Y.A m.F) (jobL Y.bs bj bt bb v j++[row 3 1 v j.list.length (ln j.list)]) (yT Y m) (R:=R) (by simpa only [zp,List.singleton_append] using H)
 simpa only [zp,List.singleton_append] using h1
theorem Qi (N : Nat) (Y : YA) (m : lf) (hW : ShW N m.F) (hN : N < 900000) (hr : lx m.F m.dk.root) (R : List SL.HP) (w : World) (H : own w (yL Y m R)) :
  Calls Tryz.prog 98 #[.pointer (some ⟨Y.y,0,none⟩)] w fun e w'=>∃Y' : YA,Y'.y = Y.y /\ e = .returned (.tuple #[]) /\ Ext w w' /\ own w' (yL Y' (DY m) R):=by
 have ck:=Cj H
 generalize hres : DY m = res
 unfold DY at hres
 by_cases h0 : m.dk.kind = 0
 ·rw [if_pos h0] at hres
  subst hres
  have t0 : (m.dk.kind == 0) = true:=by simp [h0]
  generalize m.dk.kind = kd at *
  clear h0
  go_enter Tryz.func98,Tryz.ntmps98
  go_wp2_with fail
  refine bodyPost_ret (results_none rfl _ _ _) rfl ?_
  exact ⟨Y,rfl,rfl,Ext.refl w,H⟩
 ·rw [if_neg h0] at hres
  have t0 : (m.dk.kind == 0) = false:=by simp [h0]
  have cb:=y_bs H
  have cr:=yI H
  have cf:=Cd H
  obtain ⟨k,i,hk,hk5,hFk⟩:=lT hr
  have hroot:=oz (R:=yT Y m++R) H hk5
  rw [oa hFk] at hroot
  rw [hk,UX hFk] at hres
  have HNO:=zh (fun R' w' h=>Ct m.dk.root R' w' h)
  have HH:=zh (fun (R' : List SL.HP) (w : World) (H : own w (shL Y.bs Y.A m.F++R'))=>AZ hk5 hFk R' w H)
  unfold lM at HH
  have f2:=KX i.c i.p i.b
  rw [hk] at cr HNO
  unfold lC lK.v o6 at HNO
  dsimp only at HNO
  have g1 : (0 : Int) <= (k : Int):=by omega
  have g2 : (k : Int) < 5:=by omega
  have HN:=zh (fun (R : List SL.HP) (w : World) (H : own w (shL Y.bs Y.A m.F++R))=>Nd Y.bs Y.A m.F (hW.sh hN) (k : Int) m.dk.kind m.dk.file m.dk.rate m.dk.burst A4 R w H)
  have HDK : Hid (m.dk.root = (k : Int)):=zh hk
  have hnz:=Ix (F:=m.F) (root:=(k : Int)) (kind:=m.dk.kind) (file:=m.dk.file) (rate:=m.dk.rate) (burst:=m.dk.burst)
  have hnc:=DZ m.F (k : Int) m.dk.kind m.dk.file m.dk.rate m.dk.burst
  generalize newM m.F (k : Int) m.dk.kind m.dk.file m.dk.rate m.dk.burst = NR at *
  have HS:=zh (fun (w' : World) (R' : List SL.HP) (h : own w' (yL Y m R'))=>show w'.cell? ⟨Y.y,6,none⟩ = some (.pointer (some ⟨Y.bs,0,none⟩)) /\ w'.cell? ⟨Y.y,7,none⟩ = some (.int .i64 (k : Int)) /\ w'.cell? ⟨Y.y,8,none⟩ = some (.int .i64 m.dk.kind) /\ w'.cell? ⟨Y.y,9,none⟩ = some (.int .i64 m.dk.file) /\ w'.cell? ⟨Y.y,10,none⟩ = some (.int .i64 m.dk.rate) /\ w'.cell? ⟨Y.y,11,none⟩ = some (.int .i64 m.dk.burst) /\ w'.cell? ⟨Y.bs,k,none⟩ = some (.pointer (some ⟨(Y.A k).1,0,none⟩)) from ⟨y_bs h,by rw [yI h,HDK.out],Cj h,Cd h,Ex h,Dm h,by rw [oz (R:=yT Y m++R') h hk5,oa hFk]⟩)
  by_cases h2 : m.dk.kind = 2
  ·have t2 : (m.dk.kind == 2) = true:=by simp [h2]
   by_cases hb : i.b = m.dk.file
   ·have tb : (i.b == m.dk.file) = true:=by simp [hb]
    rw [if_pos ⟨h2,hb⟩] at hres
    have HRES:=zh hres
    clear hres HN hnz hnc h2 hb hFk hr h0 cb cf hroot hW
    go_enter Tryz.func98,Tryz.ntmps98
    go_upto_region 1 with (fail)
    have hz:=lj H
    have hxz:=(Ext.refl w).drew
    refine wp_region_held_drew (S:=fun w'=>w'.cell? ⟨Y.y,6,none⟩ = some (.pointer (some ⟨Y.bs,0,none⟩)) /\ w'.cell? ⟨Y.y,7,none⟩ = some (.int .i64 (k : Int)) /\ w'.cell? ⟨Y.y,8,none⟩ = some (.int .i64 m.dk.kind) /\ w'.cell? ⟨Y.y,9,none⟩ = some (.int .i64 m.dk.file) /\ w'.cell? ⟨Y.y,10,none⟩ = some (.int .i64 m.dk.rate) /\ w'.cell? ⟨Y.y,11,none⟩ = some (.int .i64 m.dk.burst) /\ w'.cell? ⟨Y.bs,k,none⟩ = some (.pointer (some ⟨(Y.A k).1,0,none⟩))) (by kernel_rfl) (HS.out _ _ hz) (fun hHeld=>?_)
    refine tk 0 ?_
    refine tk 1 ?_
    refine tk 2 ?_
    refine tk 3 ?_
    refine tk 4 ?_
    refine tk 5 ?_
    refine tk 6 ?_
    refine tk 7 ?_
    refine tk 8 ?_
    refine tk 9 ?_
    refine tk 10 ?_
    refine tk 11 ?_
    refine tk 12 ?_
    refine tk 13 ?_
    refine tk 14 ?_
    refine tk 15 ?_
    refine tk 16 ?_
    refine tk 17 ?_
    refine tk 18 ?_
    try simp only [Act.put,tA,tB,tC,tD,tE,tF]
    refine tk 21 ?_
    refine tk 22 ?_
    refine tk 23 ?_
    refine tk 24 ?_
    refine tk 25 ?_
    try simp only [Act.put,tA,tB,tC,tD,tE,tF]
    refine rd 19 rfl fun K hK=>?_
    go_simp
    go_at_call 71
    refine (HH.out _ _ hz).mono ?_
    rintro e w5 ⟨rfl,hx5,h5⟩
    go_simp
    refine hK.out _ _ (HS.out _ _ h5) (fun _=>?_)
    clear hK K
    try simp only [Act.put,tA,tB,tC,tD,tE,tF]
    refine tk 20 ?_
    try simp only [Act.put,tA,tB,tC,tD,tE,tF]
    refine tk 26 ?_
    refine tk 27 ?_
    try simp only [Act.put,tA,tB,tC,tD,tE,tF]
    refine wpAnyH_done (by kernel_rfl) ?_ _
    have hx7:=hxz.trans hx5
    have cr:=yI h5
    go_wp2_with fail
    refine (HNO.out _ _ h5).mono ?_
    rintro e w8 ⟨rfl,hx8,h8⟩
    have fy:=BT h8
    have e7:=yI h8
    have e8:=Cj h8
    have e9:=Cd h8
    have e10:=Ex h8
    have e11:=Dm h8
    have h9:=F9 (lC (k : Int)) h8
    clear cr
    go_wp2_with fail
    refine bodyPost_ret (results_none rfl _ _ _) rfl ?_
    rw [<- HRES.out]
    exact ⟨Y,rfl,rfl,((((((hx7.trans hx8).setCell _ _).setCell _ _).setCell _ _).setCell _ _).setCell _ _),h9⟩
   ·have tb : (i.b == m.dk.file) = false:=by simp [hb]
    rw [if_neg (fun h=>hb h.2)] at hres
    clear hb hFk hr hroot hW cb cf h0 h2
    go_enter Tryz.func98,Tryz.ntmps98
    go_upto_region 1 with (fail)
    have hz:=lj H
    have hxz:=(Ext.refl w).drew
    refine wp_region_held_drew (S:=fun w'=>w'.cell? ⟨Y.y,6,none⟩ = some (.pointer (some ⟨Y.bs,0,none⟩)) /\ w'.cell? ⟨Y.y,7,none⟩ = some (.int .i64 (k : Int)) /\ w'.cell? ⟨Y.y,8,none⟩ = some (.int .i64 m.dk.kind) /\ w'.cell? ⟨Y.y,9,none⟩ = some (.int .i64 m.dk.file) /\ w'.cell? ⟨Y.y,10,none⟩ = some (.int .i64 m.dk.rate) /\ w'.cell? ⟨Y.y,11,none⟩ = some (.int .i64 m.dk.burst) /\ w'.cell? ⟨Y.bs,k,none⟩ = some (.pointer (some ⟨(Y.A k).1,0,none⟩))) (by kernel_rfl) (HS.out _ _ hz) (fun hHeld=>?_)
    refine tk 0 ?_
    refine tk 1 ?_
    refine tk 2 ?_
    refine tk 3 ?_
    refine tk 4 ?_
    refine tk 5 ?_
    refine tk 6 ?_
    refine tk 7 ?_
    refine tk 8 ?_
    refine tk 9 ?_
    refine tk 10 ?_
    refine tk 11 ?_
    refine tk 12 ?_
    refine tk 13 ?_
    refine tk 14 ?_
    refine tk 15 ?_
    refine tk 16 ?_
    refine tk 17 ?_
    refine tk 18 ?_
    try simp only [Act.put,tA,tB,tC,tD,tE,tF]
    refine tk 21 ?_
    refine tk 22 ?_
    refine tk 23 ?_
    refine tk 24 ?_
    refine tk 25 ?_
    try simp only [Act.put,tA,tB,tC,tD,tE,tF]
    refine rd 19 rfl fun K hK=>?_
    go_simp
    go_at_call 71
    refine (HH.out _ _ hz).mono ?_
    rintro e w5 ⟨rfl,hx5,h5⟩
    go_simp
    refine hK.out _ _ (HS.out _ _ h5) (fun _=>?_)
    clear hK K
    try simp only [Act.put,tA,tB,tC,tD,tE,tF]
    refine tk 20 ?_
    try simp only [Act.put,tA,tB,tC,tD,tE,tF]
    refine tk 26 ?_
    refine tk 27 ?_
    try simp only [Act.put,tA,tB,tC,tD,tE,tF]
    refine wpAnyH_done (by kernel_rfl) ?_ _
    have hx7':=hxz.trans hx5
    clear f2 tb t2 HH hz hxz hHeld
    go_upto_region 3 with (fail)
    have hm3:=lj h5
    have hx3:=(hx7').drew
    cases hNR : NR with
    | mk oj f=>
     rw [hNR] at HN hres hnz hnc
     cases oj with
     | none=>
      have hf : 0 < f:=by have:=hnz rfl; dsimp only at this hnc; omega
      have HN1:=zh (fun (R : List SL.HP) (w : World) (H : own w (shL Y.bs Y.A m.F++R))=>(HN.out R w H).mono fun e w' h=>show e = .returned (.tuple #[.pointer none,errV f]) /\ Ext w w' /\ own w' (shL Y.bs Y.A m.F++R) from h)
      rw [ly hf] at HN1
      have HRES:=zh hres
      clear hres HN
      go_region_held3 (fun w'=>w'.cell? ⟨Y.y,6,none⟩ = some (.pointer (some ⟨Y.bs,0,none⟩)) /\ w'.cell? ⟨Y.y,7,none⟩ = some (.int .i64 (k : Int)) /\ w'.cell? ⟨Y.y,8,none⟩ = some (.int .i64 m.dk.kind) /\ w'.cell? ⟨Y.y,9,none⟩ = some (.int .i64 m.dk.file) /\ w'.cell? ⟨Y.y,10,none⟩ = some (.int .i64 m.dk.rate) /\ w'.cell? ⟨Y.y,11,none⟩ = some (.int .i64 m.dk.burst) /\ w'.cell? ⟨Y.bs,k,none⟩ = some (.pointer (some ⟨(Y.A k).1,0,none⟩))) (first | exact HS.out _ _ hm3 | exact HS.out _ _ h6) (first | (go_at_call 15; refine (HN1.out _ _ hm3).mono ?_; rintro e w6 ⟨rfl,hx6,h6⟩))
      have hx7:=hx3.trans hx6
      have cr:=yI h6
      go_wp2_with fail
      refine (HNO.out _ _ h6).mono ?_
      rintro e w8 ⟨rfl,hx8,h8⟩
      have fy:=BT h8
      have e7:=yI h8
      have e8:=Cj h8
      have e9:=Cd h8
      have e10:=Ex h8
      have e11:=Dm h8
      have h9:=F9 (lC (k : Int)) h8
      clear cr
      go_wp2_with fail
      refine bodyPost_ret (results_none rfl _ _ _) rfl ?_
      rw [<- HRES.out]
      exact ⟨Y,rfl,rfl,((((((hx7.trans hx8).setCell _ _).setCell _ _).setCell _ _).setCell _ _).setCell _ _),h9⟩
     | some j=>
      have HN1:=zh (fun (R : List SL.HP) (w : World) (H : own w (shL Y.bs Y.A m.F++R))=>(HN.out R w H).mono fun e w' h=>show ∃bj bt bb v,e = .returned (.tuple #[.pointer (some ⟨bj,0,none⟩),.nilIface]) /\ Ext w w' /\ own w' (shL Y.bs Y.A m.F++(jobL Y.bs bj bt bb v j++(row 3 1 v j.list.length (ln j.list)::R))) from h)
      have HRES:=zh hres
      clear hres HN
      go_region_held3 (fun w'=>w'.cell? ⟨Y.y,6,none⟩ = some (.pointer (some ⟨Y.bs,0,none⟩)) /\ w'.cell? ⟨Y.y,7,none⟩ = some (.int .i64 (k : Int)) /\ w'.cell? ⟨Y.y,8,none⟩ = some (.int .i64 m.dk.kind) /\ w'.cell? ⟨Y.y,9,none⟩ = some (.int .i64 m.dk.file) /\ w'.cell? ⟨Y.y,10,none⟩ = some (.int .i64 m.dk.rate) /\ w'.cell? ⟨Y.y,11,none⟩ = some (.int .i64 m.dk.burst) /\ w'.cell? ⟨Y.bs,k,none⟩ = some (.pointer (some ⟨(Y.A k).1,0,none⟩))) (first | exact HS.out _ _ hm3 | exact HS.out _ _ h6) (first | (go_at_call 15; refine (HN1.out _ _ hm3).mono ?_; rintro e w6 ⟨bj,bt,bb,v,rfl,hx6,h6'⟩; have h6:=J9 h6'))
      have hx7:=hx3.trans hx6
      have cj:=FR h6
      have fj:=BT h6 13
      have h9:=Ih h6
      go_wp2_with fail
      go_end0
      rw [<- HRES.out]
      exact ⟨{ Y with bj:=bj,bt:=bt,bb:=bb,vj:=v },rfl,rfl,hx7.setCell _ _,h9⟩
  ·have t2 : (m.dk.kind == 2) = false:=by simp [h2]
   rw [if_neg (fun h=>h2 h.1)] at hres
   go_enter Tryz.func98,Tryz.ntmps98
   go_upto_region 1 with (fail)
   have hz:=lj H
   have hxz:=(Ext.refl w).drew
   refine wp_region_held_drew (S:=fun w'=>w'.cell? ⟨Y.y,6,none⟩ = some (.pointer (some ⟨Y.bs,0,none⟩)) /\ w'.cell? ⟨Y.y,7,none⟩ = some (.int .i64 (k : Int)) /\ w'.cell? ⟨Y.y,8,none⟩ = some (.int .i64 m.dk.kind) /\ w'.cell? ⟨Y.y,9,none⟩ = some (.int .i64 m.dk.file) /\ w'.cell? ⟨Y.y,10,none⟩ = some (.int .i64 m.dk.rate) /\ w'.cell? ⟨Y.y,11,none⟩ = some (.int .i64 m.dk.burst) /\ w'.cell? ⟨Y.bs,k,none⟩ = some (.pointer (some ⟨(Y.A k).1,0,none⟩))) (by kernel_rfl) (HS.out _ _ hz) (fun hHeld=>?_)
   refine tk 0 ?_
   refine tk 1 ?_
   refine tk 2 ?_
   refine tk 3 ?_
   refine tk 4 ?_
   refine tk 5 ?_
   refine tk 6 ?_
   try simp only [Act.put,tA,tB,tC,tD,tE,tF]
   refine sk 7 ?_
   refine sk 8 ?_
   refine sk 9 ?_
   refine sk 10 ?_
   refine sk 11 ?_
   refine sk 12 ?_
   refine sk 13 ?_
   refine sk 14 ?_
   refine sk 15 ?_
   refine sk 16 ?_
   refine sk 17 ?_
   refine sk 18 ?_
   refine sk 19 ?_
   refine sk 20 ?_
   refine sk 21 ?_
   refine sk 22 ?_
   refine sk 23 ?_
   refine sk 24 ?_
   refine sk 25 ?_
   refine sk 26 ?_
   try simp only [Act.put,tA,tB,tC,tD,tE,tF]
   refine tk 27 ?_
   try simp only [Act.put,tA,tB,tC,tD,tE,tF]
   refine wpAnyH_done (by kernel_rfl) ?_ _
   go_upto_region 3 with (fail)
   have hm3:=lj hz
   have hx3:=(hxz).drew
   cases hNR : NR with
   | mk oj f=>
    rw [hNR] at HN hres hnz hnc
    cases oj with
    | none=>
     have hf : 0 < f:=by have:=hnz rfl; dsimp only at this hnc; omega
     have HN1:=zh (fun (R : List SL.HP) (w : World) (H : own w (shL Y.bs Y.A m.F++R))=>(HN.out R w H).mono fun e w' h=>show e = .returned (.tuple #[.pointer none,errV f]) /\ Ext w w' /\ own w' (shL Y.bs Y.A m.F++R) from h)
     rw [ly hf] at HN1
     have HRES:=zh hres
     clear hres HN
     go_region_held3 (fun w'=>w'.cell? ⟨Y.y,6,none⟩ = some (.pointer (some ⟨Y.bs,0,none⟩)) /\ w'.cell? ⟨Y.y,7,none⟩ = some (.int .i64 (k : Int)) /\ w'.cell? ⟨Y.y,8,none⟩ = some (.int .i64 m.dk.kind) /\ w'.cell? ⟨Y.y,9,none⟩ = some (.int .i64 m.dk.file) /\ w'.cell? ⟨Y.y,10,none⟩ = some (.int .i64 m.dk.rate) /\ w'.cell? ⟨Y.y,11,none⟩ = some (.int .i64 m.dk.burst) /\ w'.cell? ⟨Y.bs,k,none⟩ = some (.pointer (some ⟨(Y.A k).1,0,none⟩))) (first | exact HS.out _ _ hm3 | exact HS.out _ _ h6) (first | (go_at_call 15; refine (HN1.out _ _ hm3).mono ?_; rintro e w6 ⟨rfl,hx6,h6⟩))
     have hx7:=hx3.trans hx6
     have cr:=yI h6
     go_wp2_with fail
     refine (HNO.out _ _ h6).mono ?_
     rintro e w8 ⟨rfl,hx8,h8⟩
     have fy:=BT h8
     have e7:=yI h8
     have e8:=Cj h8
     have e9:=Cd h8
     have e10:=Ex h8
     have e11:=Dm h8
     have h9:=F9 (lC (k : Int)) h8
     clear cr
     go_wp2_with fail
     refine bodyPost_ret (results_none rfl _ _ _) rfl ?_
     rw [<- HRES.out]
     exact ⟨Y,rfl,rfl,((((((hx7.trans hx8).setCell _ _).setCell _ _).setCell _ _).setCell _ _).setCell _ _),h9⟩
    | some j=>
     have HN1:=zh (fun (R : List SL.HP) (w : World) (H : own w (shL Y.bs Y.A m.F++R))=>(HN.out R w H).mono fun e w' h=>show ∃bj bt bb v,e = .returned (.tuple #[.pointer (some ⟨bj,0,none⟩),.nilIface]) /\ Ext w w' /\ own w' (shL Y.bs Y.A m.F++(jobL Y.bs bj bt bb v j++(row 3 1 v j.list.length (ln j.list)::R))) from h)
     have HRES:=zh hres
     clear hres HN
     go_region_held3 (fun w'=>w'.cell? ⟨Y.y,6,none⟩ = some (.pointer (some ⟨Y.bs,0,none⟩)) /\ w'.cell? ⟨Y.y,7,none⟩ = some (.int .i64 (k : Int)) /\ w'.cell? ⟨Y.y,8,none⟩ = some (.int .i64 m.dk.kind) /\ w'.cell? ⟨Y.y,9,none⟩ = some (.int .i64 m.dk.file) /\ w'.cell? ⟨Y.y,10,none⟩ = some (.int .i64 m.dk.rate) /\ w'.cell? ⟨Y.y,11,none⟩ = some (.int .i64 m.dk.burst) /\ w'.cell? ⟨Y.bs,k,none⟩ = some (.pointer (some ⟨(Y.A k).1,0,none⟩))) (first | exact HS.out _ _ hm3 | exact HS.out _ _ h6) (first | (go_at_call 15; refine (HN1.out _ _ hm3).mono ?_; rintro e w6 ⟨bj,bt,bb,v,rfl,hx6,h6'⟩; have h6:=J9 h6'))
     have hx7:=hx3.trans hx6
     have cj:=FR h6
     have fj:=BT h6 13
     have h9:=Ih h6
     go_wp2_with fail
     go_end0
     rw [<- HRES.out]
     exact ⟨{ Y with bj:=bj,bt:=bt,bb:=bb,vj:=v },rfl,rfl,hx7.setCell _ _,h9⟩
def opF (D : Nat -> DevM) (q : Nat) : ShM:=fun k=>if k < q then (if (zS (D k)).1 = 0 then some (zS (D k)).2 else none) else none
def dkOf (s : ByteArray) : lK:=⟨(oq s).1.1,(oq s).1.2.1,(oq s).1.2.2.1,(oq s).1.2.2.2.1,(oq s).1.2.2.2.2⟩
def yh (D : Nat -> DevM) (top : DevM) : lf:=⟨opF D 5,D,top,dkOf (top.seen 0),(ls (opF D 5) (dkOf (top.seen 0)).root).1,none⟩
def Ak (D : Nat -> DevM) (top : DevM) : Int×lf:=
  if (oq (top.seen 0)).2≠0 then ((oq (top.seen 0)).2,yh D top)
  else if (ls (opF D 5) (dkOf (top.seen 0)).root).2≠0 then ((ls (opF D 5) (dkOf (top.seen 0)).root).2,yh D top)
  else (0,DY (yh D top))
theorem Kv (d : DevM) : 0 <= (zS d).1:=by
  unfold zS CU
  split
  · exact D6 _
  · split
    · simp
    · exact Dh _ _ _ _
theorem KV {s : ByteArray} (h : (oq s).2 = 0) : (dkOf s).f = 0:=by
  unfold dkOf lK.f
  dsimp only
  unfold oq at h ⊢
  by_cases h1 : zf s≠0
  · rw [if_pos h1] at h; exact absurd h h1
  · rw [if_neg h1] at h ⊢
    by_cases h2 : zb s
    · rw [if_pos h2] at h; exact absurd h (by simp)
    · rw [if_neg h2]
      exact Decidable.byContradiction fun hn=>h2 (.inl hn)
theorem KI {F : ShM} {r : Int} (h0 : 0 <= r) (h : (ls F r).2 = 0) : lx F r:=by
  unfold ls at h
  rw [show (6 : Nat) = 5 + 1 from rfl,oV,if_neg (by omega)] at h
  split at h
  · exact absurd h (by simp)
  · rename_i h1
    split at h
    · exact absurd h (by simp)
    · rename_i m hm
      exact ⟨by omega,by omega,m,hm⟩
theorem Bf (D : Nat -> DevM) (q : Nat) : opF D q q = none:=if_neg (by omega)
theorem SZ {D : Nat -> DevM} {q : Nat} (h : (zS (D q)).1≠0) : opF D (q + 1) = opF D q:=funext fun k=>by
  unfold opF
  by_cases e : k = q
  · subst e; rw [if_pos (by omega),if_neg h,if_neg (by omega)]
  · by_cases h2 : k < q
    · rw [if_pos h2,if_pos (by omega)]
    · rw [if_neg h2,if_neg (by omega)]
theorem Ph {D : Nat -> DevM} {q : Nat} (h : (zS (D q)).1 = 0) : opF D (q + 1) = put (opF D q) q (zS (D q)).2:=funext fun k=>by
  by_cases e : k = q
  · subst e; rw [zq]; unfold opF; rw [if_pos (by omega),if_pos h]
  · rw [AB _ _ e]
    unfold opF
    by_cases h2 : k < q
    · rw [if_pos h2,if_pos (by omega)]
    · rw [if_neg h2,if_neg (by omega)]
theorem Jl {D : Nat -> DevM} {q k : Nat} {i : ImgM} (h : opF D q k = some i) : k < q /\ (zS (D k)).1 = 0 /\ i = (zS (D k)).2:=by
  unfold opF at h
  split at h
  · rename_i h1
    split at h
    · rename_i h2; exact ⟨h1,h2,(Option.some.inj h).symm⟩
    · cases h
  · cases h
theorem KK {D : Nat -> DevM} {N : Nat} (h : ∀k,k < 5 -> (D k).Ok /\ (D k).writes <= N /\ (D k).pend.length <= N) : ShW N (opF D 5):=
  ⟨fun k i hk hi=>by obtain ⟨-,h0,rfl⟩:=Jl hi; exact Uh (h k hk).1 h0,
   fun k i hk hi=>by obtain ⟨-,h0,rfl⟩:=Jl hi; rw [Iw]; exact (h k hk).2.1,
   fun k i hk hi=>by obtain ⟨-,h0,rfl⟩:=Jl hi; rw [Iw]; exact (h k hk).2.2⟩
def Q4 (w : World) (v : Value) (B : Nat -> Nat) : Prop:=∃b off cap,v = .slice (some ⟨b,off,none⟩) 5 cap /\ ∀k,k < 5 -> w.cell? ⟨b,off + k,none⟩ = some (.pointer (some ⟨B k,0,none⟩))
def Ng (S : Int×lf) (R : List SL.HP) (w : World) (e : Ending) (w' : World) : Prop:=
  (S.1≠0 /\ e = .returned (.tuple #[.pointer none,errV S.1]) /\ Ext w w' /\ own w' R) \/
  (S.1 = 0 /\ ∃Y : YA,e = .returned (.tuple #[.pointer (some ⟨Y.y,0,none⟩),.nilIface]) /\ Ext w w' /\ own w' (yL Y S.2 R))
theorem UZ (B : Nat -> Nat) (D : Nat -> DevM) (X : List SL.HP) {k : Nat} (hk : k < 5) : (devL B D 5++X)[4 - k]? = some (ll (B k) (D k)):=by
  have h : k = 0 \/ k = 1 \/ k = 2 \/ k = 3 \/ k = 4:=by omega
  rcases h with rfl | rfl | rfl | rfl | rfl
  all_goals rfl
theorem Tw {α : Type} : ∀{l : List α} {k : Nat} {x : α},l[k]? = some x -> (x::l.eraseIdx k).Perm l:=by
  intro l
  induction l with
  | nil=>intro k x h; simp at h
  | cons y l ih=>
    intro k x h
    cases k with
    | zero=>simp at h; subst h; exact List.Perm.refl _
    | succ k=>
      simp only [List.getElem?_cons_succ] at h
      exact (List.Perm.swap y x _).trans ((ih h).cons y)
theorem Lx (B : Nat -> Nat) (D : Nat -> DevM) (X : List SL.HP) {k : Nat} (hk : k < 5) : (ll (B k) (D k)::(devL B D 5++X).eraseIdx (4 - k)).Perm (devL B D 5++X):=Tw (UZ B D X hk)
theorem Pk {w : World} {l : List SL.HP} {B : Nat -> Nat} {D : Nat -> DevM} {X : List SL.HP} {k : Nat} (hk : k < 5) (H : own w (l++(devL B D 5++X))) : own w (ll (B k) (D k)::(l++(devL B D 5++X).eraseIdx (4 - k))):=
  FV (((Lx B D X hk).symm.append_left l).trans List.perm_middle) H
theorem Ss {w : World} {l : List SL.HP} {B : Nat -> Nat} {D : Nat -> DevM} {X : List SL.HP} {k : Nat} (hk : k < 5) (H : own w (ll (B k) (D k)::(l++(devL B D 5++X).eraseIdx (4 - k)))) : own w (l++(devL B D 5++X)):=
  FV (List.perm_middle.symm.trans ((Lx B D X hk).append_left l)) H
theorem WQ {y bs tp q k : Nat} {A : Nat -> Nat×Nat×Nat} {F : ShM} {D' : Nat -> DevM} {t v : Value} {dk : lK} {top : DevM} {B : Nat -> Nat} {D : Nat -> DevM} {X : List SL.HP} {w : World} (hk : k < 5) (H : own w (nL y bs A F D' q t dk v (ll tp top::(devL B D 5++X)))) :
    own w (ll (B k) (D k)::nL y bs A F D' q t dk v (ll tp top::(devL B D 5++X).eraseIdx (4 - k))):=by
  have h:=Pk (l:=shL bs A F++(nT y bs A F D' q t dk v++[ll tp top])) hk (by simpa only [zp,List.singleton_append] using H)
  simpa only [zp,List.singleton_append] using h
theorem n_in {y bs tp q k : Nat} {A : Nat -> Nat×Nat×Nat} {F : ShM} {D' : Nat -> DevM} {t v : Value} {dk : lK} {top : DevM} {B : Nat -> Nat} {D : Nat -> DevM} {X : List SL.HP} {P : SL.HP} {w : World} (hk : k < 5) (H : own w (P::ll (B k) (D k)::nL y bs A F D' q t dk v (ll tp top::(devL B D 5++X).eraseIdx (4 - k)))) :
    own w (P::nL y bs A F D' q t dk v (ll tp top::(devL B D 5++X))):=by
  have h:=Ss (l:=P::(shL bs A F++(nT y bs A F D' q t dk v++[ll tp top]))) (B:=B) (D:=D) (X:=X) hk (by simpa only [zp,List.singleton_append,List.cons_append,List.nil_append] using BZ H)
  simpa only [zp,List.singleton_append,List.cons_append,List.nil_append] using h
theorem NM {y bs q k : Nat} {A : Nat -> Nat×Nat×Nat} {F : ShM} {D : Nat -> DevM} {t v : Value} {dk : lK} {R : List SL.HP} {w : World} (hk : k < 5) (H : own w ((nL y bs A F D q t dk v R).set (7 + k) emp)) : (∀i,w.cell? ⟨y,i,none⟩ = (nC bs A q t dk v)[i]?) /\ ∀i,w.frozen? ⟨y,i,none⟩ = false:=
  ld 6 H (by rw [List.getElem?_set_ne (by omega)]; rfl)
theorem T1 {y bs q k : Nat} {A : Nat -> Nat×Nat×Nat} {F : ShM} {D : Nat -> DevM} {t v : Value} {dk : lK} {R : List SL.HP} {w : World} (hk : k < 5) (hF : F k = none) (H : own w ((nL y bs A F D q t dk v R).set (7 + k) emp)) : w.cell? ⟨bs,k,none⟩ = some (.pointer none) /\ w.frozen? ⟨bs,k,none⟩ = false:=by
  obtain ⟨h1,h2⟩:=ld (arr:=yf A F) (T:=111) 0 H (by rw [List.getElem?_set_ne (by omega)]; rfl)
  refine ⟨?_,h2 k⟩
  rw [h1,<- CW (A:=A) hF]
  have h : k = 0 \/ k = 1 \/ k = 2 \/ k = 3 \/ k = 4:=by omega
  rcases h with rfl | rfl | rfl | rfl | rfl
  all_goals rfl
theorem WW (bs : Nat) (A : Nat -> Nat×Nat×Nat) (q : Nat) (t : Value) (dk : lK) (v : Value) {k : Nat} (hk : k < 5) : (nC bs A q t dk v)[k]? = some (Bb A q k):=by
  have h : k = 0 \/ k = 1 \/ k = 2 \/ k = 3 \/ k = 4:=by omega
  rcases h with rfl | rfl | rfl | rfl | rfl
  all_goals rfl
theorem VY {y bs q : Nat} {A : Nat -> Nat×Nat×Nat} {F : ShM} {D : Nat -> DevM} {t v : Value} {dk : lK} {R : List SL.HP} {w : World} (d : lK) (H : own w (nL y bs A F D q t dk v R)) :
    own (((((w.setCell ⟨y,7,none⟩ (.int .i64 d.root)).setCell ⟨y,8,none⟩ (.int .i64 d.kind)).setCell ⟨y,9,none⟩ (.int .i64 d.file)).setCell ⟨y,10,none⟩ (.int .i64 d.rate)).setCell ⟨y,11,none⟩ (.int .i64 d.burst)) (nL y bs A F D q t d v R):=
  lg (i:=11) (v:=.int .i64 d.burst) 6 (lg (i:=10) (v:=.int .i64 d.rate) 6 (lg (i:=9) (v:=.int .i64 d.file) 6 (lg (i:=8) (v:=.int .i64 d.kind) 6 (lg (i:=7) (v:=.int .i64 d.root) 6 H rfl) rfl) rfl) rfl) rfl
theorem S5 (N : Nat) (B : Nat -> Nat) (D : Nat -> DevM) (hD : ∀k,k < 5 -> (D k).Ok /\ (D k).writes <= N /\ (D k).pend.length <= N) (hD0 : ∀k,k < 5 -> 0 < (D k).fl.length) (hN : N < 900000) (tb : Nat) (top : DevM) (ht : top.Ok) (ht0 : 0 < top.fl.length) (v : Value) (R : List SL.HP) (hv : ∀w' L,own w' (L++R) -> Q4 w' v B) (w : World) (H : own w (devL B D 5++(ll tb top::R))) :
  Calls Tryz.prog 27 #[v,.pointer (some ⟨tb,0,none⟩)] w (Ng (Ak D top) (devL B D 5++(ll tb top::R)) w):=by
 obtain ⟨fb,foff,fcap,rfl,-⟩:=hv w (devL B D 5++[ll tb top]) (by simpa only [zp,List.singleton_append] using H)
 have HV:=zh (fun (w' : World) (L : List SL.HP) (k : Nat) (hk : k < 5) (h : own w' (L++R))=>show w'.cell? ⟨fb,foff + k,none⟩ = some (.pointer (some ⟨B k,0,none⟩)) from (by
  obtain ⟨b,o,c,he,hc⟩:=hv w' L h
  simp only [Value.slice.injEq,Option.some.injEq,Addr.mk.injEq,true_and,and_true] at he
  obtain ⟨⟨rfl,rfl⟩,rfl⟩:=he
  exact hc k hk))
 have HD:=zh (fun k (hk : k < 5)=>(hD k hk).1)
 have HD0:=zh hD0
 have HW:=zh (KK hD)
 have HTS:=zh (Ap ht (a:=0) (by omega) (by omega))
 have HT:=zh ht
 have HT0:=zh ht0
 generalize hX : devL B D 5++(ll tb top::R) = X at *
 have HX:=zh hX
 clear hX hv hD hD0 ht ht0
 have h1:=SQ (fun _=>(0,0,0)) H
 have hx1:=(Ext.refl w).alloc (.cells #[.pointer none,.pointer none,.pointer none,.pointer none,.pointer none] 111)
 go_enter Tryz.func27,Tryz.ntmps27
 go_upto_region 3 with (fail)
 go_wp2_with fail
 generalize w.heap.size = bs at *
 generalize w.alloc (.cells #[.pointer none,.pointer none,.pointer none,.pointer none,.pointer none] 111) = w1 at *
 have h1' : own w1 (ll tb top::(shL bs (fun _=>(0,0,0)) (fun _=>none)++X).eraseIdx 11):=by
  rw [<- HX.out] at h1 ⊢
  exact lt 11 h1 rfl
 refine (Gg tb top HT.out _ w1 h1').mono ?_
 rintro e w2 ⟨tp,rfl,hx2,h2⟩
 have h3 : own w2 (ll tp top::(shL bs (fun _=>(0,0,0)) (fun _=>none)++X)):=by
  refine CV (l:=ll tp top::(shL bs (fun _=>(0,0,0)) (fun _=>none)++X)) (P:=ll tb top) 12 ?_ (BZ h2)
  rw [<- HX.out]; rfl
 have h4:=lu (shL bs (fun _=>(0,0,0)) (fun _=>none)) h3
 have h5:=li h4 (.cells #[.pointer none,.pointer none,.pointer none,.pointer none,.pointer none,.pointer (some ⟨tp,0,none⟩),.pointer (some ⟨bs,0,none⟩),.int .i64 0,.int .i64 0,.int .i64 0,.int .i64 0,.int .i64 0,.slice none 0 0,.pointer none] 165)
 have h6:=UU (dk:=⟨0,0,0,0,0⟩) D h5
 have hx6:=(hx1.trans hx2).alloc (.cells #[.pointer none,.pointer none,.pointer none,.pointer none,.pointer none,.pointer (some ⟨tp,0,none⟩),.pointer (some ⟨bs,0,none⟩),.int .i64 0,.int .i64 0,.int .i64 0,.int .i64 0,.int .i64 0,.slice none 0 0,.pointer none] 165)
 clear H h1 h1' h2 h3 h4 h5 hx1 hx2
 go_wp2_with fail
 generalize w2.heap.size = y at *
 generalize w2.alloc (.cells #[.pointer none,.pointer none,.pointer none,.pointer none,.pointer none,.pointer (some ⟨tp,0,none⟩),.pointer (some ⟨bs,0,none⟩),.int .i64 0,.int .i64 0,.int .i64 0,.int .i64 0,.int .i64 0,.slice none 0 0,.pointer none] 165) = w3 at *
 have hF0 : (fun _=>none : ShM) = opF D 0:=funext fun k=>by unfold opF; rw [if_neg (by omega)]
 rw [hF0] at h6
 clear hF0
 go_loopw [26] (fun kv wr=>∃(q : Nat) (A : Nat -> Nat×Nat×Nat),q <= 5 /\ kv = .int .i64 q /\ Ext w wr /\ own wr (nL y bs A (opF D q) D q (.pointer (some ⟨tp,0,none⟩)) ⟨0,0,0,0,0⟩ (.slice none 0 0) (ll tp top::X))) (fun kv _=>6 - (intOf kv).toNat)
 case atStart=>exact ⟨0,_,by omega,rfl,hx6,h6⟩
 case round=>
  clear h6 hx6
  obtain ⟨q,A,hq,rfl,hxr,hown⟩:=hrel
  by_cases hlt : q < 5
  ·have g1 : (q : Int) < 5:=by omega
   have g2 : (0 : Int) <= (q : Int):=by omega
   have cf:=HV.out wr (shL bs A (opF D q)++(nT y bs A (opF D q) D q (.pointer (some ⟨tp,0,none⟩)) ⟨0,0,0,0,0⟩ (.slice none 0 0)++(ll tp top::(devL B D 5++[ll tb top])))) q hlt (by rw [<- HX.out] at hown; simpa only [zp,List.cons_append,List.nil_append] using hown)
   have hop:=Iw (D q)
   have hno:=Kv (D q)
   have HOP:=zh (fun (bd : Nat) (R : List SL.HP) (w : World) (H : own w (ll bd (D q)::R))=>Uq bd (D q) (HD.out q hlt) (HD0.out q hlt) R w H)
   have hoy:=Ph (D:=D) (q:=q)
   have hon:=SZ (D:=D) (q:=q)
   generalize zS (D q) = OR at *
   obtain ⟨oc,oi⟩:=OR
   dsimp only at hop hno hoy hon
   have HOY:=zh hoy
   have HON:=zh hon
   have HOD:=zh hop
   clear hoy hon hop
   go_upto_region 9 with (fail)
   have hz:=lj hown
   have hxz:=hxr.drew
   refine wp_region_held_drew (S:=fun _=>True) (by kernel_rfl) trivial (fun hHeld=>?_)
   refine tk 0 ?_
   refine tk 1 ?_
   refine tk 2 ?_
   try simp only [Act.put,tA,tB,tC,tD,tE,tF]
   refine tk 4 ?_
   refine tk 5 ?_
   try simp only [Act.put,tA,tB,tC,tD,tE,tF]
   refine rd 3 rfl fun K hK=>?_
   go_simp
   go_at_call 94
   have hz':=hz
   rw [<- HX.out] at hz'
   refine (Gg (B q) (D q) (HD.out q hlt) _ _ (WQ hlt hz')).mono ?_
   rintro e w4 ⟨c,rfl,hx4,h4'⟩
   have h4:=n_in hlt h4'
   rw [HX.out] at h4
   go_simp
   refine hK.out _ _ trivial (fun _=>?_)
   clear hK K hz' h4'
   try simp only [Act.put,tA,tB,tC,tD,tE,tF]
   refine tk 6 ?_
   try simp only [Act.put,tA,tB,tC,tD,tE,tF]
   have hn4:=Ep h4
   have cy:=Lq hlt hn4
   have fy:=(Bi hn4).2 q
   have h5:=UT (D:=D) (F:=opF D q) (q:=q) hlt (Bf D q) h4
   have hx5:=(hxz.trans hx4).setCell (⟨y,q,none⟩ : Addr) (.pointer (some ⟨c,0,none⟩))
   refine rd 7 rfl fun K hK=>?_
   go_simp
   refine hK.out _ _ trivial (fun _=>?_)
   clear hK K cy fy
   try simp only [Act.put,tA,tB,tC,tD,tE,tF]
   refine wpAnyH_done (by kernel_rfl) ?_ _
   generalize w4.setCell ⟨y,q,none⟩ (.pointer (some ⟨c,0,none⟩)) = w5 at *
   have hA : ((stA A q (0,c,0)) q).2.1 = c:=by unfold stA; rw [if_pos rfl]
   generalize stA A q (0,c,0) = A2 at *
   clear hown hz hxz hx4 h4 hn4 hxr cf hHeld
   have HS:=zh (fun (w' : World) (v : Value) (F : ShM) (dk : lK) (t : Value) (R' : List SL.HP) (h : own w' (nL y bs A2 F D (q + 1) t dk v R'))=>show w'.cell? ⟨y,6,none⟩ = some (.pointer (some ⟨bs,0,none⟩)) /\ w'.cell? ⟨y,q,none⟩ = some (.pointer (some ⟨c,0,none⟩)) from ⟨n_bs h,Kl hlt (Nat.lt_succ_self q) hA h⟩)
   have hT5:=fun (w' : World) (h : own w' (nL y bs A2 (opF D q) D (q + 1) (.pointer (some ⟨tp,0,none⟩)) ⟨0,0,0,0,0⟩ (.slice none 0 0) (ll tp top::X)))=>V5 (k:=q) hlt (Nat.lt_succ_self q) (Bf D q) h
   have hB5:=fun (w' : World) h=>Ww (y:=y) (bs:=bs) (A:=A2) (F:=opF D q) (D:=D) (q:=q + 1) (t:=.pointer (some ⟨tp,0,none⟩)) (dk:=⟨0,0,0,0,0⟩) (v:=.slice none 0 0) (R:=ll tp top::X) (w:=w') (k:=q) hlt (Nat.lt_succ_self q) (Bf D q) h
   have hI5:=fun (w' : World) (i : ImgM) (bi bh : Nat) h=>WD (y:=y) (bs:=bs) (A:=A2) (F:=opF D q) (D:=D) (q:=q + 1) (t:=.pointer (some ⟨tp,0,none⟩)) (dk:=⟨0,0,0,0,0⟩) (v:=.slice none 0 0) (R:=ll tp top::X) (w:=w') (k:=q) (i:=i) (bi:=bi) (bh:=bh) hlt (Bf D q) h
   have HH5:=zh (fun (w' : World) (h : own w' ((nL y bs A2 (opF D q) D (q + 1) (.pointer (some ⟨tp,0,none⟩)) ⟨0,0,0,0,0⟩ (.slice none 0 0) (ll tp top::X)).set (7 + q) emp))=>show w'.cell? ⟨y,6,none⟩ = some (.pointer (some ⟨bs,0,none⟩)) /\ w'.cell? ⟨y,q,none⟩ = some (.pointer (some ⟨c,0,none⟩)) from ⟨(NM hlt h).1 6,by rw [(NM hlt h).1,WW _ _ _ _ _ _ hlt]; unfold Bb; rw [if_pos (Nat.lt_succ_self q),hA]⟩)
   have HS2:=zh (fun (w' : World) (F : ShM) (bi bh : Nat) (h : own w' (nL y bs (setA A2 q (bi,c,bh)) F D (q + 1) (.pointer (some ⟨tp,0,none⟩)) ⟨0,0,0,0,0⟩ (.slice none 0 0) (ll tp top::X)))=>show w'.cell? ⟨y,6,none⟩ = some (.pointer (some ⟨bs,0,none⟩)) /\ w'.cell? ⟨y,q,none⟩ = some (.pointer (some ⟨c,0,none⟩)) from ⟨n_bs h,Kl hlt (Nat.lt_succ_self q) (by rw [C6]) h⟩)
   rw [hA] at hT5 hB5 hI5
   have HT5:=zh hT5
   have HB5:=zh hB5
   have HI5:=zh hI5
   clear hT5 hB5 hI5 hA
   by_cases hoc : oc = 0
   ·have hF:=HOY.out hoc
    have HF:=zh hF
    have HO2:=zh (fun (bd : Nat) (R : List SL.HP) (w : World) (H : own w (ll bd (D q)::R))=>(HOP.out bd R w H).mono fun e w' h=>(h.resolve_left fun h=>h.1 hoc).2)
    dsimp only at HO2
    clear hF hoc hno HOY HON HOP
    go_upto_region 10 with (fail)
    have hz:=lj h5
    have hxz:=hx5.drew
    refine wp_region_held_drew (S:=fun w'=>w'.cell? ⟨y,6,none⟩ = some (.pointer (some ⟨bs,0,none⟩)) /\ w'.cell? ⟨y,q,none⟩ = some (.pointer (some ⟨c,0,none⟩))) (by kernel_rfl) (HS.out _ _ _ _ _ _ hz) (fun hHeld=>?_)
    refine tk 0 ?_
    refine tk 1 ?_
    refine tk 2 ?_
    refine tk 3 ?_
    refine tk 4 ?_
    refine tk 5 ?_
    refine tk 6 ?_
    refine tk 7 ?_
    refine tk 8 ?_
    refine tk 9 ?_
    refine tk 10 ?_
    try simp only [Act.put,tA,tB,tC,tD,tE,tF]
    refine tk 15 ?_
    try simp only [Act.put,tA,tB,tC,tD,tE,tF]
    refine rd 11 rfl fun K hK=>?_
    go_simp
    go_at_call 95
    refine (HO2.out _ _ _ (HT5.out _ hz)).mono ?_
    rintro e w6 ⟨bi,bh,rfl,hx6,h6⟩
    have z6 : w6.cell? ⟨y,6,none⟩ = some (.pointer (some ⟨bs,0,none⟩)) /\ w6.cell? ⟨y,q,none⟩ = some (.pointer (some ⟨c,0,none⟩)):=HH5.out _ (At [_,_] h6)
    have hxx:=(hxz.trans hx6).setCell (⟨bs,q,none⟩ : Addr) (.pointer (some ⟨bi,0,none⟩))
    have cs:=T1 hlt (Bf D q) (At [_,_] h6)
    have h7:=HI5.out w6 oi bi bh h6
    go_simp
    refine hK.out _ _ z6 (fun _=>?_)
    clear hK K
    try simp only [Act.put,tA,tB,tC,tD,tE,tF]
    refine tk 12 ?_
    refine tk 13 ?_
    refine tk 14 ?_
    try simp only [Act.put,tA,tB,tC,tD,tE,tF]
    refine tk 16 ?_
    try simp only [Act.put,tA,tB,tC,tD,tE,tF]
    obtain ⟨cs1,cs2⟩:=cs
    refine rd 17 rfl fun K hK=>?_
    go_simp
    refine hK.out _ _ (HS2.out _ _ _ _ h7) (fun _=>?_)
    clear hK K
    try simp only [Act.put,tA,tB,tC,tD,tE,tF]
    refine wpAnyH_done (by kernel_rfl) ?_ _
    go_wp2_with fail
    go_roundw
    case rel=>exact ⟨q + 1,_,by omega,by go_num,hxx,by rw [HF.out]; exact h7⟩
    case measure=>simp [intOf]; omega
   ·have hF:=HON.out hoc
    have HF:=zh hF
    have HO2:=zh (fun (bd : Nat) (R : List SL.HP) (w : World) (H : own w (ll bd (D q)::R))=>(HOP.out bd R w H).mono fun e w' h=>(h.resolve_right fun h=>hoc h.1).2)
    have hop : 0 < oc:=by omega
    dsimp only at HO2
    rw [HOD.out,ly hop] at HO2
    clear hF hoc hno HOY HON HOP hop
    go_upto_region 10 with (fail)
    have hz:=lj h5
    have hxz:=hx5.drew
    refine wp_region_held_drew (S:=fun w'=>w'.cell? ⟨y,6,none⟩ = some (.pointer (some ⟨bs,0,none⟩)) /\ w'.cell? ⟨y,q,none⟩ = some (.pointer (some ⟨c,0,none⟩))) (by kernel_rfl) (HS.out _ _ _ _ _ _ hz) (fun hHeld=>?_)
    refine tk 0 ?_
    refine tk 1 ?_
    refine tk 2 ?_
    refine tk 3 ?_
    refine tk 4 ?_
    refine tk 5 ?_
    refine tk 6 ?_
    refine tk 7 ?_
    refine tk 8 ?_
    refine tk 9 ?_
    refine tk 10 ?_
    try simp only [Act.put,tA,tB,tC,tD,tE,tF]
    refine tk 15 ?_
    try simp only [Act.put,tA,tB,tC,tD,tE,tF]
    refine rd 11 rfl fun K hK=>?_
    go_simp
    go_at_call 95
    refine (HO2.out _ _ _ (HT5.out _ hz)).mono ?_
    rintro e w6 ⟨rfl,hx6,h6'⟩
    have h6:=HB5.out _ h6'
    have z6:=HS.out _ _ _ _ _ _ h6
    have hxx:=(hxz.trans hx6).setCell (⟨bs,q,none⟩ : Addr) (.pointer none)
    have cs1:=oz (R:=nT y bs A2 (opF D q) D (q + 1) (.pointer (some ⟨tp,0,none⟩)) ⟨0,0,0,0,0⟩ (.slice none 0 0)++(ll tp top::X)) h6 hlt
    rw [CW (Bf D q)] at cs1
    have cs2:=La (R:=nT y bs A2 (opF D q) D (q + 1) (.pointer (some ⟨tp,0,none⟩)) ⟨0,0,0,0,0⟩ (.slice none 0 0)++(ll tp top::X)) h6 q
    have h7:=PG (R:=nT y bs A2 (opF D q) D (q + 1) (.pointer (some ⟨tp,0,none⟩)) ⟨0,0,0,0,0⟩ (.slice none 0 0)++(ll tp top::X)) hlt (Bf D q) h6
    go_simp
    refine hK.out _ _ z6 (fun _=>?_)
    clear hK K
    try simp only [Act.put,tA,tB,tC,tD,tE,tF]
    refine tk 12 ?_
    refine tk 13 ?_
    refine tk 14 ?_
    try simp only [Act.put,tA,tB,tC,tD,tE,tF]
    refine tk 16 ?_
    try simp only [Act.put,tA,tB,tC,tD,tE,tF]
    refine rd 17 rfl fun K hK=>?_
    go_simp
    refine hK.out _ _ (HS.out _ _ _ _ _ _ h7) (fun _=>?_)
    clear hK K
    try simp only [Act.put,tA,tB,tC,tD,tE,tF]
    refine wpAnyH_done (by kernel_rfl) ?_ _
    go_wp2_with fail
    go_roundw
    case rel=>exact ⟨q + 1,_,by omega,by go_num,hxx,by rw [HF.out]; exact h7⟩
    case measure=>simp [intOf]; omega
  ·obtain rfl : q = 5:=by omega
   have ct : wr.cell? ⟨y,5,none⟩ = some (.pointer (some ⟨tp,0,none⟩)):=(Bi hown).1 5
   have hn:=(HT.out).n
   have ht0:=HT0.out
   have hrd:=EM tp top HT.out 0 _ wr (lt 12 hown rfl)
   rw [if_neg (by omega)] at hrd
   have HRD:=zh hrd
   have hdk:=fun (R : List SL.HP) (w : World) (H : own w R)=>MS (top.seen 0) (by have:=HTS.out; omega) R w H
   have hop : Ak D top = Ak D top:=rfl
   have hE : Ak D top = if (oq (top.seen 0)).2≠0 then ((oq (top.seen 0)).2,yh D top)
    else if (ls (opF D 5) (dkOf (top.seen 0)).root).2≠0 then ((ls (opF D 5) (dkOf (top.seen 0)).root).2,yh D top)
    else (0,DY (yh D top)):=rfl
   have hE0 : yh D top = ⟨opF D 5,D,top,dkOf (top.seen 0),(ls (opF D 5) (dkOf (top.seen 0)).root).1,none⟩:=rfl
   have hdf : 0 <= (oq (top.seen 0)).2:=D7 _
   have hdr : (oq (top.seen 0)).2 = 0 -> 0 <= (oq (top.seen 0)).1.1:=fun h=>by
    have h1:=Gn (KV h)
    unfold yr dkOf at h1
    dsimp only at h1
    omega
   unfold dkOf at hE hE0
   generalize Ak D top = OS at *
   generalize yh D top = O0 at *
   generalize hs0 : top.seen 0 = s0 at *
   generalize oq s0 = DK at *
   obtain ⟨⟨r,k,f,a,b⟩,dc⟩:=DK
   dsimp only at hE hE0 hdk hdf hdr
   have HDR:=zh hdr
   clear hdr
   unfold o6 at hdk
   have HDK:=zh hdk
   have HE:=zh hE
   have HE0:=zh hE0
   clear hdk hE hE0 hrd hop hn ht0
   go_wp2_with fail
   refine HRD.out.mono ?_
   rintro e w' ⟨rfl,rfl⟩
   go_wp2_with fail
   refine (HDK.out _ wr hown).mono ?_
   rintro e w2 ⟨rfl,hx2,h2⟩
   have cy:=Bi h2
   obtain ⟨cy1,cy2⟩:=cy
   have e7 : w2.cell? ⟨y,7,none⟩ = some (.int .i64 0):=cy1 7
   have e8 : w2.cell? ⟨y,8,none⟩ = some (.int .i64 0):=cy1 8
   have e9 : w2.cell? ⟨y,9,none⟩ = some (.int .i64 0):=cy1 9
   have e10 : w2.cell? ⟨y,10,none⟩ = some (.int .i64 0):=cy1 10
   have e11 : w2.cell? ⟨y,11,none⟩ = some (.int .i64 0):=cy1 11
   have h3:=VY ⟨r,k,f,a,b⟩ h2
   dsimp only at h3
   have hx3:=(((((hxr.trans hx2).setCell (⟨y,7,none⟩ : Addr) (.int .i64 r)).setCell (⟨y,8,none⟩ : Addr) (.int .i64 k)).setCell (⟨y,9,none⟩ : Addr) (.int .i64 f)).setCell (⟨y,10,none⟩ : Addr) (.int .i64 a)).setCell (⟨y,11,none⟩ : Addr) (.int .i64 b)
   clear ct cy1 hown hxr hx2 h2
   by_cases hdc : dc = 0
   ·subst hdc
    rw [l9]
    go_upto_region 18 with (fail)
    clear e7 e8 e9 e10 e11 cy2
    generalize ((((w2.setCell ⟨y,7,none⟩ (.int .i64 r)).setCell ⟨y,8,none⟩ (.int .i64 k)).setCell ⟨y,9,none⟩ (.int .i64 f)).setCell ⟨y,10,none⟩ (.int .i64 a)).setCell ⟨y,11,none⟩ (.int .i64 b) = w3 at *
    have hwk:=fun (R : List SL.HP) (w : World) (H : own w (shL bs A (opF D 5)++R))=>Cs bs A (opF D 5) (HW.out.sh hN) r R w H
    have hrt : (ls (opF D 5) r).2 = 0 -> lx (opF D 5) r:=fun h=>KI (HDR.out (by first | trivial | rfl)) h
    have hwc : 0 <= (ls (opF D 5) r).2:=zd
    unfold zA at hwk
    have HE2:=HE.out
    rw [if_neg (by decide)] at HE2
    have HE0':=HE0.out
    generalize ls (opF D 5) r = WK at *
    obtain ⟨wl,wc⟩:=WK
    dsimp only at hwk hwc hrt HE2 HE0'
    have HWK:=zh hwk
    have HRT:=zh hrt
    have HEE:=zh HE2
    have HE00:=zh HE0'
    clear hwk hrt HE2 HE0' HE HE0 HDK HRD
    have hz:=lj h3
    have hxz:=hx3.drew
    have HS:=zh (fun (w' : World) (v : Value) (R' : List SL.HP) (h : own w' (nL y bs A (opF D 5) D 5 (.pointer (some ⟨tp,0,none⟩)) ⟨r,k,f,a,b⟩ v R'))=>show w'.cell? ⟨y,6,none⟩ = some (.pointer (some ⟨bs,0,none⟩)) /\ w'.cell? ⟨y,7,none⟩ = some (.int .i64 r) from ⟨n_bs h,(Bi h).1 7⟩)
    refine wp_region_held_drew (S:=fun w'=>w'.cell? ⟨y,6,none⟩ = some (.pointer (some ⟨bs,0,none⟩)) /\ w'.cell? ⟨y,7,none⟩ = some (.int .i64 r)) (by kernel_rfl) (HS.out _ _ _ hz) (fun hHeld=>?_)
    refine tk 0 ?_
    refine tk 1 ?_
    refine tk 2 ?_
    refine tk 3 ?_
    refine tk 4 ?_
    refine tk 5 ?_
    refine tk 6 ?_
    refine tk 7 ?_
    refine tk 8 ?_
    refine tk 9 ?_
    try simp only [Act.put,tA,tB,tC,tD,tE,tF]
    refine rd 10 rfl fun K hK=>?_
    go_simp
    go_at_call 69
    refine (HWK.out _ _ hz).mono ?_
    rintro e w6 ⟨wv,rfl,hx6,h6'⟩
    have h6:=Ep h6'
    go_simp
    refine hK.out _ _ (HS.out _ _ _ h6) (fun _=>?_)
    clear hK K
    try simp only [Act.put,tA,tB,tC,tD,tE,tF]
    refine tk 11 ?_
    refine tk 12 ?_
    refine tk 13 ?_
    refine tk 14 ?_
    refine tk 15 ?_
    try simp only [Act.put,tA,tB,tC,tD,tE,tF]
    have cl : w6.cell? ⟨y,12,none⟩ = some (.slice none 0 0):=(Bi h6).1 12
    have fl:=(Bi h6).2 12
    have h7:=lg (i:=12) (v:=wv) 6 h6 rfl
    have h8 : own (w6.setCell ⟨y,12,none⟩ wv) (nL y bs A (opF D 5) D 5 (.pointer (some ⟨tp,0,none⟩)) ⟨r,k,f,a,b⟩ wv (row 3 1 wv wl.length (ln wl)::ll tp top::X)):=h7
    have hx8:=(hxz.trans hx6).setCell (⟨y,12,none⟩ : Addr) wv
    obtain ⟨vo,vb,vof,vcap,rfl,-,-,-,-⟩:=(lY 0 h6' rfl).form
    refine rd 16 rfl fun K hK=>?_
    go_simp
    refine hK.out _ _ (HS.out _ _ _ h8) (fun _=>?_)
    clear hK K cl fl
    try simp only [Act.put,tA,tB,tC,tD,tE,tF]
    refine tk 17 ?_
    try simp only [Act.put,tA,tB,tC,tD,tE,tF]
    refine wpAnyH_done (by kernel_rfl) ?_ _
    generalize w6.setCell ⟨y,12,none⟩ (.slice vo wl.length vcap) = w8 at *
    clear h3 hz h6 h6' h7 hx3 hxz hx6 hHeld
    by_cases hwz : wc = 0
    ·subst hwz
     rw [l9]
     have hEE:=HEE.out
     rw [if_neg (by decide)] at hEE
     have h9 : own w8 (yL ⟨y,bs,tp,A,.slice vo wl.length vcap,0,0,0,undef⟩ O0 X):=by
      rw [HE00.out]
      exact S4 (Ep (R:=row 3 1 (.slice vo wl.length vcap) wl.length (ln wl)::X) (lt 13 h8 rfl))
     have hag:=fun (R' : List SL.HP) (w' : World) (h : own w' (yL ⟨y,bs,tp,A,.slice vo wl.length vcap,0,0,0,undef⟩ O0 R'))=>Qi N ⟨y,bs,tp,A,.slice vo wl.length vcap,0,0,0,undef⟩ O0 (by rw [HE00.out]; exact HW.out) hN (by rw [HE00.out]; exact HRT.out rfl) R' w' h
     have HAG:=zh hag
     have HES:=zh hEE
     clear hag hEE h8
     go_wp2_with fail
     refine (HAG.out _ w8 h9).mono ?_
     rintro e w9 ⟨Y',hy,rfl,hx9,h9'⟩
     go_wp2_with fail
     go_ret2
     rw [HES.out]
     exact .inr ⟨rfl,Y',by rw [hy]; rfl,hx8.trans hx9,h9'⟩
    ·rw [ly (e:=wc) (by omega)]
     go_wp2_with fail
     go_ret2
     have hEE:=HEE.out
     rw [if_pos hwz] at hEE
     rw [hEE]
     exact .inl ⟨hwz,by rw [ly (e:=wc) (by omega)]; rfl,hx8,At (shL bs A (opF D 5)++(nT y bs A (opF D 5) D 5 (.pointer (some ⟨tp,0,none⟩)) ⟨r,k,f,a,b⟩ (.slice vo wl.length vcap)++[row 3 1 (.slice vo wl.length vcap) wl.length (ln wl),ll tp top])) (by simpa only [zp,List.cons_append,List.nil_append] using h8)⟩
   ·rw [ly (e:=dc) (by omega)]
    go_wp2_with fail
    go_ret2
    have hEE:=HE.out
    rw [if_pos hdc] at hEE
    rw [hEE]
    exact .inl ⟨hdc,by rw [ly (e:=dc) (by omega)]; rfl,hx3,At (shL bs A (opF D 5)++(nT y bs A (opF D 5) D 5 (.pointer (some ⟨tp,0,none⟩)) ⟨r,k,f,a,b⟩ (.slice none 0 0)++[ll tp top])) (by simpa only [zp,List.cons_append,List.nil_append] using h3)⟩
end Go.Proofs.YtbpblokfiajpjabGreatDoor
