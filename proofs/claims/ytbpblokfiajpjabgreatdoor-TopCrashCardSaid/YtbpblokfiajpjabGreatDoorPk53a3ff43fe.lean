/- Lemmas on which TopAlone and TopCrash stands: the texts Yard5 YardP1 Yard6 Yard7 Yard8 YardP2 Yard9 Jobs13 Jobs13a. No conditions. -/
import Derived.Test.YtbpblokfiajpjabGreatDoorPk13cc4869d5
set_option linter.all false
set_option maxRecDepth 1000000
set_option maxHeartbeats 32000000
namespace Go.Proofs.YtbpblokfiajpjabGreatDoor
open Go.RowKit Go.SL Go.Crc
attribute [local go_sem ↓] Go.wp_at_zero Go.wp_at_succ
theorem W9 (Y : YA) (m : le) (F' : ShM) {j : JobM} (j' : JobM) (h : m.job = some j) (hn : ∀k,k < 5 -> (F' k = none↔m.F k = none)) : (yT Y { m with F:=F',job:=some j' }).take 8 = (yT Y m).take 8:=by
 have hf : ∀k,k < 5 -> oK Y.A F' m.D k = oK Y.A m.F m.D k:=fun k hk=>by
  unfold oK
  cases e : m.F k with
  | none=>rw [(hn k hk).2 e]
  | some i=>
   cases e' : F' k with
   | none=>exact absurd ((hn k hk).1 e') (by rw [e]; exact fun h=>by cases h)
   | some i'=>rfl
 have hc : yC Y { m with F:=F',job:=some j' } = yC Y m:=by
  unfold yC
  dsimp only
  rw [h]
  rfl
 unfold yT
 dsimp only
 rw [hc,hf 0 (by decide),hf 1 (by decide),hf 2 (by decide),hf 3 (by decide),hf 4 (by decide)]
 rfl
theorem AH {Y : YA} {m : le} {F' : ShM} {j j' : JobM} {R : List SL.HP} {w : World} (h : m.job = some j) (hl : j'.list = j.list) (hn : ∀k,k < 5 -> (F' k = none↔m.F k = none))
  (H : own w (shL Y.bs Y.A F'++(jobL Y.bs Y.bj Y.bt Y.bb Y.vj j'++(row 3 1 Y.vj j.list.length (lq j.list)::((yT Y m).take 8++R))))) : own w (yL Y { m with F:=F',job:=some j' } R):=by
 refine II (m:={ m with F:=F',job:=some j' }) (j:=j') rfl ?_
 rw [hl,W9 Y m F' j' h hn]
 exact H
theorem Ad {Y : YA} {m : le} {j : JobM} (h : m.job = some j) {R : List SL.HP} {w : World} (H : own w (yL Y m R)) : w.cell? ⟨Y.y,13,none⟩ = some (.pointer (some ⟨Y.bj,0,none⟩)):=by
 have:=FC H
 rw [h] at this
 exact this
theorem QQ (j : JobM) : (An j).list = j.list:=by
 unfold An
 split
 ·rfl
 ·split <;> rfl
theorem Jf (j : JobM) (on : Bool) : (yX j on).2.list = j.list:=by
 unfold yX
 split
 ·split <;> rfl
 ·split
  ·exact QQ _
  ·rfl
theorem Pz (j : JobM) (n : Int) : (AP j n).list = j.list:=by unfold AP; split <;> rfl
theorem S7 (Y : YA) (m : le) (hm : ∀j,m.job = some j -> j.Ok) (on : Bool) (R : List SL.HP) (w : World) (H : own w (yL Y m R)) :
  Calls Tryz.prog 115 #[.pointer (some ⟨Y.y,0,none⟩),.bool on] w (zL Y (zk m on) R w):=by
 have HB:=zh (Bc Y m R w H)
 generalize hres : zk m on = res
 unfold zk at hres
 unfold Ae at HB
 cases hj : m.job with
 | none=>
  rw [hj] at HB hres
  dsimp only at HB hres
  subst hres
  clear hj
  go_enter Tryz.func115,Tryz.ntmps115
  go_wp2_with fail
  refine HB.out.mono ?_
  rintro e w' ⟨rfl,rfl⟩
  go_wp2_with fail
  go_ret
  exact ⟨Y,rfl,rfl,zR _,H⟩
 | some j=>
  rw [hj] at HB hres
  dsimp only at HB hres
  by_cases h4 : 4 <= j.st
  ·rw [zt h4] at hres
   subst hres
   rw [zf (by omega)] at HB
   clear hj h4
   go_enter Tryz.func115,Tryz.ntmps115
   go_wp2_with fail
   refine HB.out.mono ?_
   rintro e w' ⟨rfl,rfl⟩
   go_wp2_with fail
   go_ret
   exact ⟨Y,rfl,rfl,zR _,H⟩
  ·rw [zq h4] at hres
   rw [zg (by omega)] at HB
   have cj:=Ad hj H
   have HP:=zh (KP Y.bs Y.bj Y.bt Y.bb Y.vj j (hm j hj) on _ w (lu (shL Y.bs Y.A m.F) (jobL Y.bs Y.bj Y.bt Y.bb Y.vj j) (Bq hj H)))
   have HJ:=zh hj
   have HRES:=zh hres
   clear hj h4 hm hres
   go_enter Tryz.func115,Tryz.ntmps115
   go_wp2_with fail
   refine HB.out.mono ?_
   rintro e w' ⟨rfl,rfl⟩
   go_wp2_with fail
   refine HP.out.mono ?_
   rintro e w2 ⟨rfl,hx2,h2⟩
   go_wp2_with fail
   go_ret
   rw [<- HRES.out]
   exact ⟨Y,rfl,rfl,hx2,AH HJ.out (Jf j on) (fun _ _=>Iff.rfl) (lu (jobL Y.bs Y.bj Y.bt Y.bb Y.vj (yX j on).2) (shL Y.bs Y.A m.F) h2)⟩
theorem Ud (Y : YA) (m : le) (hm : ∀j,m.job = some j -> j.Ok) (n : Int) (R : List SL.HP) (w : World) (H : own w (yL Y m R)) :
  Calls Tryz.prog 117 #[.pointer (some ⟨Y.y,0,none⟩),.int .i64 n] w (zL Y (zQ m n) R w):=by
 have HB:=zh (Bc Y m R w H)
 generalize hres : zQ m n = res
 unfold zQ at hres
 unfold Ae at HB
 by_cases hb : n < 0 \/ 100000 < n
 ·rw [zt hb] at hres
  subst hres
  by_cases q1 : n < 0
  ·go_enter Tryz.func117,Tryz.ntmps117
   go_wp2_with fail
   go_ret
   exact ⟨Y,rfl,rfl,zR w,H⟩
  ·have q2 : 100000 < n:=by omega
   clear hb
   go_enter Tryz.func117,Tryz.ntmps117
   go_wp2_with fail
   go_ret
   exact ⟨Y,rfl,rfl,zR w,H⟩
 rw [zq hb] at hres
 have hn : 0 <= n /\ n <= 100000:=by omega
 have q1 : ¬n < 0:=by omega
 have q2 : ¬100000 < n:=by omega
 clear hb
 cases hj : m.job with
 | none=>
  rw [hj] at HB hres
  dsimp only at HB hres
  subst hres
  clear hj
  go_enter Tryz.func117,Tryz.ntmps117
  go_wp2_with fail
  refine HB.out.mono ?_
  rintro e w' ⟨rfl,rfl⟩
  go_wp2_with fail
  go_ret
  exact ⟨Y,rfl,rfl,zR _,H⟩
 | some j=>
  rw [hj] at HB hres
  dsimp only at HB hres
  by_cases h4 : 4 <= j.st
  ·rw [zt h4] at hres
   subst hres
   rw [zf (by omega)] at HB
   clear hj h4
   go_enter Tryz.func117,Tryz.ntmps117
   go_wp2_with fail
   refine HB.out.mono ?_
   rintro e w' ⟨rfl,rfl⟩
   go_wp2_with fail
   go_ret
   exact ⟨Y,rfl,rfl,zR _,H⟩
  ·rw [zq h4] at hres
   rw [zg (by omega)] at HB
   have cj:=Ad hj H
   have HP:=zh (UL Y.bs Y.bj Y.bt Y.bb Y.vj j (hm j hj) n _ w (lu (shL Y.bs Y.A m.F) (jobL Y.bs Y.bj Y.bt Y.bb Y.vj j) (Bq hj H)))
   rw [zt hn,lS] at HP
   have HJ:=zh hj
   have HRES:=zh hres
   clear hj h4 hm hres hn
   go_enter Tryz.func117,Tryz.ntmps117
   go_wp2_with fail
   refine HB.out.mono ?_
   rintro e w' ⟨rfl,rfl⟩
   go_wp2_with fail
   refine HP.out.mono ?_
   rintro e w2 ⟨rfl,hx2,h2⟩
   go_wp2_with fail
   go_ret
   rw [<- HRES.out]
   exact ⟨Y,rfl,rfl,hx2,AH HJ.out (Pz j n) (fun _ _=>Iff.rfl) (lu (jobL Y.bs Y.bj Y.bt Y.bb Y.vj (AP j n)) (shL Y.bs Y.A m.F) h2)⟩
theorem DU {r : Int} (h : 0 <= r) (h5 : r < 5) : (lA r).f = 0:=by
 show yH r 0 (-1) 0 0 = 0
 rw [Qm (by unfold zz; omega) rfl]
 rfl
theorem oD {Y : YA} {m : le} {P : SL.HP} {R : List SL.HP} {w : World} (H : own w (P::yL Y m R)) : own w (yL Y m (P::R)):=by
 have h:=lC (shL Y.bs Y.A m.F++yT Y m) (R:=R) (by rw [zp]; exact H)
 rwa [zp] at h
theorem FW {Y : YA} {m : le} {v : Value} {l : List Int} {R : List SL.HP} {w : World} (H : own w (yL Y m (row 3 1 v l.length (lq l)::R))) : own (w.setCell ⟨Y.y,12,none⟩ v) (yL { Y with v:=v } { m with list:=l } R):=by
 have h1:=lp (i:=12) (v:=v) 6 H rfl
 have h2:=li 13 h1 rfl
 have h3:=lE 14 h2 rfl
 exact lC (((yL { Y with v:=v } { m with list:=l } R)).take 13) h3
theorem YOk.root5 {N : Nat} {m : le} (h : YOk N m) : 0 <= m.dk.root /\ m.dk.root < 5:=by
 obtain ⟨k,i,hx,hk,-⟩:=oF h.root
 omega
theorem L7 (Y : YA) (m : le) (N : Nat) (hW : ShW N m.F) (hN : N < 900000) (ht : m.top.Ok) (hw : m.top.writes < 999000) (hp : m.top.pend.length < 999000) (j : JobM) (hj : m.job = some j) (root : Int) (hr : 0 <= root /\ root < 5) (hwk : (lr m.F root).2 = 0) (well : Bool) (R : List SL.HP) (w : World) (H : own w (yL Y m R)) :
  Calls Tryz.prog 146 #[.pointer (some ⟨Y.y,0,none⟩),(lA root).v,.bool well] w (zL Y (AN m j root well) R w):=by
 have hb:=IC (.cells #[.int .i64 root,.int .i64 0,.int .i64 (-1),.int .i64 0,.int .i64 0] 24) H
 have hxb:=(zR w).alloc (.cells #[.int .i64 root,.int .i64 0,.int .i64 (-1),.int .i64 0,.int .i64 0] 24)
 have HW:=zh (fun R' w' h=>Bk Y m ht hw hp (lA root) (DU hr.1 hr.2) R' w' h)
 generalize hres : AN m j root well = res
 unfold AN at hres
 have hcode : 0 <= (lx m (lA root)).1:=by
  unfold lx
  split
  ·exact o5 _ _ _
  ·exact Int.le_refl 0
 have hF : (lx m (lA root)).2.F = m.F:=by unfold lx; split <;> rfl
 have hJ : (lx m (lA root)).2.job = m.job:=by unfold lx; split <;> rfl
 have hD : (lx m (lA root)).1 = 0 -> (lx m (lA root)).2.dk = lA root:=by
  unfold lx
  split
  ·exact fun h=>absurd h (by assumption)
  ·exact fun _=>rfl
 have HWK:=zh (fun Y' R' w' h=>Cq Y.bs Y' m.F (hW.sh hN) root R' w' h)
 unfold BH at HWK
 rw [hwk,lS] at HWK
 rw [hj] at hJ
 unfold lR.v zO at HW ⊢
 generalize lx m (lA root) = S at *
 obtain ⟨c,m2⟩:=S
 dsimp only [lA] at hcode hF hJ hD HW hres ⊢
 have HRES:=zh hres
 have HJ:=zh hJ
 have HDK:=zh hD
 clear hres hD
 generalize (lr m.F root).1 = l at *
 clear H hW ht hw hp hr hwk hj
 go_enter Tryz.func146,Tryz.ntmps146
 go_upto_region 1 with (fail)
 generalize w.heap.size = g at *
 generalize w.alloc (.cells #[.int .i64 root,.int .i64 0,.int .i64 (-1),.int .i64 0,.int .i64 0] 24) = w1 at *
 have cd:=(ld 15 hb rfl).1
 have d0:=cd 0
 have d1:=cd 1
 have d2:=cd 2
 have d3:=cd 3
 have d4:=cd 4
 clear cd
 go_wp2_with fail
 refine (HW.out _ w1 hb).mono ?_
 rintro e w2 ⟨rfl,hx2,h2⟩
 clear d0 d1 d2 d3 d4
 by_cases hc : c = 0
 ·have hdk:=HDK.out hc
  subst hc
  rw [zq (by decide)] at HRES
  rw [lS]
  have hf2 : m2.F = m.F:=hF
  have cj:=Ad hJ h2
  go_wp2_with fail
  refine (N9 Y.bs Y.bj Y.bt Y.bb Y.vj j well _ w2 (lu (shL Y.bs Y.A m2.F) (jobL Y.bs Y.bj Y.bt Y.bb Y.vj j) (Bq HJ.out h2))).mono ?_
  rintro e w3 ⟨rfl,hx3,h3⟩
  have h4 : own w3 (yL Y { m2 with job:=some (endM j well) } _):=AH HJ.out (show (endM j well).list = j.list from rfl) (fun _ _=>Iff.rfl) (lu (jobL Y.bs Y.bj Y.bt Y.bb Y.vj (endM j well)) (shL Y.bs Y.A m2.F) h3)
  have hx4:=(hxb.trans hx2).trans hx3
  clear h3 h2 hb hxb hx2 hx3 cj
  have HS : ∀w' R',own w' (yL Y { m2 with job:=some (endM j well) } R') -> w'.cell? ⟨Y.y,6,none⟩ = some (.pointer (some ⟨Y.bs,0,none⟩)) /\ w'.cell? ⟨Y.y,7,none⟩ = some (.int .i64 root):=fun w' R' h=>⟨y_bs h,by have:=yM h; rw [show ({ m2 with job:=some (endM j well) } : le).dk = m2.dk from rfl,hdk] at this; exact this⟩
  have HS:=zh HS
  have h5:=ln h4
  have hx5:=hx4.drew
  go_upto_region 5 with (fail)
  refine wp_region_held_drew (S:=fun w'=>w'.cell? ⟨Y.y,6,none⟩ = some (.pointer (some ⟨Y.bs,0,none⟩)) /\ w'.cell? ⟨Y.y,7,none⟩ = some (.int .i64 root)) (by kernel_rfl) (HS.out _ _ h5) (fun hHeld=>?_)
  refine tk 0 ?_
  refine tk 1 ?_
  refine tk 2 ?_
  refine tk 3 ?_
  refine tk 4 ?_
  refine tk 5 ?_
  refine tk 6 ?_
  refine tk 7 ?_
  refine tk 8 ?_
  refine tk 9 ?_
  try simp only [Act.put,tA,tB,tC,tD,tE,tF]
  refine rd 10 rfl fun K hK=>?_
  go_simp
  go_at_call 69
  have h5' : own w3.drew (shL Y.bs Y.A m.F++(yT Y { m2 with job:=some (endM j well) }++(pts g (.cells #[.int .i64 root,.int .i64 0,.int .i64 (-1),.int .i64 0,.int .i64 0] 24 (0,0))::R))):=by rw [<- hf2]; exact h5
  refine (HWK.out _ _ _ h5').mono ?_
  rintro e w6 ⟨v,rfl,hx6,h6⟩
  obtain ⟨vo,vb,vof,vcap,rfl,-,-,-,-⟩:=(oz 0 h6 rfl).form
  rw [<- hf2] at h6
  have h7:=oD (Y:=Y) (m:={ m2 with job:=some (endM j well) }) h6
  go_simp
  refine hK.out _ _ (HS.out _ _ h7) (fun _=>?_)
  clear hK K h4 h5 h5' h6
  try simp only [Act.put,tA,tB,tC,tD,tE,tF]
  refine tk 11 ?_
  refine tk 12 ?_
  refine tk 13 ?_
  refine tk 14 ?_
  refine tk 15 ?_
  try simp only [Act.put,tA,tB,tC,tD,tE,tF]
  refine rd 16 rfl fun K hK=>?_
  have cl:=BQ h7
  have fl:=BO h7 12
  have h8:=FW h7
  have hx8:=(hx5.trans hx6).setCell ⟨Y.y,12,none⟩ (.slice vo l.length vcap)
  have z6:=y_bs h8
  have z7:=yM h8
  rw [show ({ m2 with job:=some (endM j well),list:=l } : le).dk = m2.dk from rfl,hdk] at z7
  go_simp
  refine hK.out _ _ ⟨z6,z7⟩ (fun _=>?_)
  clear hK K h7 cl fl
  try simp only [Act.put,tA,tB,tC,tD,tE,tF]
  refine tk 17 ?_
  try simp only [Act.put,tA,tB,tC,tD,tE,tF]
  refine wpAnyH_done (by kernel_rfl) ?_ _
  go_wp2_with fail
  go_ret
  rw [<- HRES.out]
  exact ⟨{ Y with v:=.slice vo l.length vcap },rfl,rfl,hx8,A8 h8⟩
 ·rw [zt hc] at HRES
  rw [lv (e:=c) (by omega)]
  go_wp2_with fail
  go_ret
  rw [<- HRES.out]
  exact ⟨Y,rfl,by rw [lv (e:=c) (by omega)]; rfl,hxb.trans hx2,A8 h2⟩
theorem PA (N : Nat) (Y : YA) (m : le) (hm : YOk N m) (hN : N < 900000) (R : List SL.HP) (w : World) (H : own w (yL Y m R)) :
  Calls Tryz.prog 45 #[.pointer (some ⟨Y.y,0,none⟩)] w (zL Y (zc m) R w):=by
 have HB:=zh (Bc Y m R w H)
 generalize hres : zc m = res
 unfold zc at hres
 unfold Ae at HB
 cases hj : m.job with
 | none=>
  rw [hj] at HB hres
  dsimp only at HB hres
  subst hres
  clear hj
  go_enter Tryz.func45,Tryz.ntmps45
  go_wp2_with fail
  refine HB.out.mono ?_
  rintro e w' ⟨rfl,rfl⟩
  go_wp2_with fail
  go_ret
  exact ⟨Y,rfl,rfl,zR _,H⟩
 | some j=>
  rw [hj] at HB hres
  dsimp only at HB hres
  by_cases h4 : 4 <= j.st
  ·rw [zt h4] at hres
   subst hres
   rw [zf (by omega)] at HB
   clear hj h4
   go_enter Tryz.func45,Tryz.ntmps45
   go_wp2_with fail
   refine HB.out.mono ?_
   rintro e w' ⟨rfl,rfl⟩
   go_wp2_with fail
   go_ret
   exact ⟨Y,rfl,rfl,zR _,H⟩
  ·rw [zq h4] at hres
   rw [zg (by omega)] at HB
   have cr:=yM H
   have hr:=hm.root5
   have htw:=hm.tp.2.1
   have htp:=hm.tp.2.2.1
   have HN:=zh (fun R' w' h=>Cx m.dk.root R' w' h)
   have HO:=zh (fun R' w' h=>L7 Y m N hm.sh hN hm.tp.1 (by omega) (by omega) j hj m.dk.root hr (by rw [hm.walk]) false R' w' h)
   have HRES:=zh hres
   clear hj h4 hm hres hr htw htp
   go_enter Tryz.func45,Tryz.ntmps45
   go_wp2_with fail
   refine HB.out.mono ?_
   rintro e w' ⟨rfl,rfl⟩
   go_wp2_with fail
   refine (HN.out _ _ H).mono ?_
   rintro e w2 ⟨rfl,hx2,h2⟩
   clear cr
   go_wp2_with fail
   refine (HO.out _ _ h2).mono ?_
   rintro e w3 ⟨Y',hy,rfl,hx3,h3⟩
   go_wp2_with fail
   go_ret
   rw [<- HRES.out]
   exact ⟨Y',hy,rfl,hx2.trans hx3,h3⟩
end Go.Proofs.YtbpblokfiajpjabGreatDoor
namespace Go.Proofs.YtbpblokfiajpjabGreatDoor
open Go.RowKit Go.SL Go.Crc
structure Chn (F : ShM) (C : Int) (l : List Int) : Prop where
 file : ∀x∈l,lz F x
 cl : ∀x∈l,clus F x = C
 ch : Ch F l (-1)
theorem Chn.drop {F : ShM} {C : Int} {p l : List Int} (h : Chn F C (p++l)) : Chn F C l:=
 ⟨fun x hx=>h.file x (List.mem_append.2 (.inr hx)),fun x hx=>h.cl x (List.mem_append.2 (.inr hx)),Ch.tail h.ch⟩
theorem T9 {F : ShM} {root : Int} : ∀{s : List Int} {n : Nat} {l : List Int} {at_ : Int},s.length < n -> l.length + s.length <= 5 -> Chn F (clus F root) s -> at_ = s.headD (-1) -> ym F root n l at_ = (l++s,0):=by
 intro s
 induction s with
 | nil=>
  intro n l at_ hn _ _ ha
  obtain ⟨n,rfl⟩ : ∃q,n = q + 1:=⟨n - 1,by simp at hn; omega⟩
  replace ha : at_ = -1:=ha
  rw [ym,zt ha,List.append_nil]
 | cons x s ih=>
  intro n l at_ hn h5 hc ha
  obtain ⟨n,rfl⟩ : ∃q,n = q + 1:=⟨n - 1,by simp at hn; omega⟩
  have hx : at_ = x:=ha
  subst hx
  obtain ⟨h0,h1,m,hm⟩:=hc.file at_ (List.mem_cons_self ..)
  have hcx:=hc.cl at_ (List.mem_cons_self ..)
  have hcm : clus F at_ = m.c:=by unfold clus; rw [hm]
  have hb : bkOf F at_ = m.b:=by unfold bkOf; rw [hm]
  simp only [List.length_cons] at hn h5
  rw [ym,zq (by omega),zq (by omega),hm]
  dsimp only
  rw [zq (by omega),zq (by rw [<- hcm,hcx]; exact fun h=>h rfl)]
  rw [ih (by omega) (by simp; omega) (Chn.drop (p:=[at_]) hc) (by rw [<- hb]; exact hc.ch.1)]
  simp
theorem Td {F : ShM} {root : Int} : ∀{n : Nat} {l : List Int} {at_ : Int},n + l.length = 6 -> l.length <= 5 -> Ch F l at_ -> (∀y∈l,lz F y /\ clus F y = clus F root) -> (ym F root n l at_).2 = 0 -> Chn F (clus F root) (ym F root n l at_).1:=by
 intro n
 induction n with
 | zero=>
  intro l at_ hn h5
  omega
 | succ n ih=>
  intro l at_ hn h5 hc hl
  rw [ym]
  split
  ·rename_i h1
   intro _
   rw [h1] at hc
   exact ⟨fun y hy=>(hl y hy).1,fun y hy=>(hl y hy).2,hc⟩
  ·split
   ·intro h; exact absurd h (by decide)
   ·split
    ·intro h; exact absurd h (by decide)
    ·rename_i h2 m hm
     split
     ·intro h; exact absurd h (by decide)
     ·split
      ·intro h; exact absurd h (by decide)
      ·rename_i h6 h7
       have hf : lz F at_:=⟨by omega,by omega,m,hm⟩
       have hcm : clus F at_ = m.c:=by unfold clus; rw [hm]
       refine ih (by simp; omega) (by simp; omega) ?_ ?_
       ·have:=Ch.snoc hc
        rw [show bkOf F at_ = m.b by unfold bkOf; rw [hm]] at this
        exact this
       ·intro y hy
        rcases List.mem_append.1 hy with h | h
        ·exact hl y h
        ·rw [List.mem_singleton.1 h]; exact ⟨hf,by rw [hcm]; exact Decidable.not_not.1 h7⟩
theorem Sk {F : ShM} {root : Int} : ∀{n : Nat} {l : List Int} {at_ : Int},(ym F root n l at_).2 = 0 -> ∃s,(ym F root n l at_).1 = l++s:=by
 intro n
 induction n with
 | zero=>intro l at_ _; exact ⟨[],by rw [ym]; simp⟩
 | succ n ih=>
  intro l at_
  rw [ym]
  split
  ·intro _; exact ⟨[],by simp⟩
  ·split
   ·intro h; exact absurd h (by decide)
   ·split
    ·intro h; exact absurd h (by decide)
    ·split
     ·intro h; exact absurd h (by decide)
     ·split
      ·intro h; exact absurd h (by decide)
      ·intro h
       obtain ⟨s,hs⟩:=ih h
       exact ⟨at_::s,by rw [hs]; simp⟩
theorem FG {F : ShM} {root : Int} (h : (lr F root).2 = 0) : Chn F (clus F root) (lr F root).1:=
 Td rfl (by decide) trivial (fun y hy=>by cases hy) h
theorem CK {F : ShM} {root : Int} {s : List Int} (h : Chn F (clus F root) (root::s)) (h5 : (root::s).length <= 5) : lr F root = (root::s,0):=by
 have h6:=T9 (n:=6) (l:=[]) (at_:=root) (by omega) (by simpa using h5) h rfl
 exact h6
theorem Iv {F : ShM} {root : Int} (hr : lz F root) (h : (lr F root).2 = 0) : ∃s,(lr F root).1 = root::s:=by
 obtain ⟨h0,h1,m,hm⟩:=hr
 have hcm : clus F root = m.c:=by unfold clus; rw [hm]
 unfold lr at h ⊢
 rw [show (6 : Nat) = 5 + 1 from rfl,ym,zq (by omega),zq (by omega),hm] at h ⊢
 dsimp only at h ⊢
 rw [zq (by simp),zq (by rw [hcm]; exact fun h=>h rfl)] at h ⊢
 obtain ⟨s,hs⟩:=Sk h
 exact ⟨s,by rw [hs]; rfl⟩
theorem Co {F : ShM} {root : Int} : (lr F root).1.length <= 5:=Kf (by simp)
def shp (F : ShM) (k : Nat) : Option (Int×Int):=(F k).map fun i=>(i.c,i.b)
theorem Dj {F : ShM} {x : Int} : clus F x = match shp F x.toNat with | some p=>p.1 | none=>0:=by
 unfold clus shp
 cases F x.toNat <;> rfl
theorem DL {F : ShM} {x : Int} : bkOf F x = match shp F x.toNat with | some p=>p.2 | none=>-1:=by
 unfold bkOf shp
 cases F x.toNat <;> rfl
theorem JJ {F : ShM} {x : Int} : lz F x↔0 <= x /\ x < 5 /\ (shp F x.toNat).isSome = true:=by
 unfold lz shp
 rw [Option.isSome_map]
 constructor
 ·rintro ⟨h1,h2,m,hm⟩; exact ⟨h1,h2,by rw [hm]; rfl⟩
 ·rintro ⟨h1,h2,h3⟩; exact ⟨h1,h2,Option.isSome_iff_exists.1 h3⟩
theorem Chn.keep {F F' : ShM} {C : Int} : ∀{l : List Int},Chn F C l -> (∀x∈l,shp F' x.toNat = shp F x.toNat) -> Chn F' C l:=by
 intro l
 induction l with
 | nil=>intro _ _; exact ⟨fun x hx=>by (cases hx),fun x hx=>by (cases hx),trivial⟩
 | cons x l ih=>
  intro h hs
  have h2:=ih (Chn.drop (p:=[x]) h) fun y hy=>hs y (List.mem_cons_of_mem _ hy)
  have hx:=hs x (List.mem_cons_self ..)
  refine ⟨?_,?_,?_,h2.ch⟩
  ·intro y hy
   rcases List.mem_cons.1 hy with rfl | hy
   ·have:=h.file y (List.mem_cons_self ..)
    rw [JJ] at this ⊢
    rwa [hx]
   ·exact h2.file y hy
  ·intro y hy
   rcases List.mem_cons.1 hy with rfl | hy
   ·rw [<- h.cl y (List.mem_cons_self ..),Dj,Dj,hx]
   ·exact h2.cl y hy
  ·rw [<- h.ch.1,DL,DL,hx]
theorem LK {F F' : ShM} {root : Int} {l : List Int} (hr : lz F root) (h : lr F root = (l,0)) (hs : ∀x∈l,shp F' x.toNat = shp F x.toNat) : lr F' root = (l,0):=by
 have hc:=FG (F:=F) (root:=root) (by rw [h])
 obtain ⟨s,hl⟩:=Iv hr (by rw [h])
 have h5:=Co (F:=F) (root:=root)
 rw [h] at hc hl h5
 dsimp only at hc hl h5
 subst hl
 have hcl : clus F' root = clus F root:=by rw [Dj,Dj,hs root (List.mem_cons_self ..)]
 exact CK (by rw [hcl]; exact hc.keep hs) h5
def og (F F' : ShM) : Prop:=∀k,k < 5 -> shp F' k = shp F k
theorem og.refl (F : ShM) : og F F:=fun _ _=>rfl
theorem og.trans {F G H : ShM} (h : og F G) (g : og G H) : og F H:=fun k hk=>(g k hk).trans (h k hk)
theorem og.put {F : ShM} {k : Nat} {m m' : ImgM} (h : F k = some m) (hc : m'.c = m.c) (hb : m'.b = m.b) : og F (put F k m'):=fun j hj=>by
 unfold shp Go.Proofs.YtbpblokfiajpjabGreatDoor.put
 by_cases e : j = k
 ·subst e; rw [zt rfl,h]; simp [hc,hb]
 ·rw [zq e]
theorem og.file {F F' : ShM} (h : og F F') {x : Int} : lz F' x↔lz F x:=by
 rw [JJ,JJ]
 constructor
 ·rintro ⟨a,b,c⟩; exact ⟨a,b,by rw [<- h x.toNat (by omega)]; exact c⟩
 ·rintro ⟨a,b,c⟩; exact ⟨a,b,by rw [h x.toNat (by omega)]; exact c⟩
theorem og.none {F F' : ShM} (h : og F F') {k : Nat} (hk : k < 5) : F' k = none↔F k = none:=by
 have:=h k hk
 unfold shp at this
 constructor
 ·intro e; rw [e] at this; cases h2 : F k with
  | none=>rfl
  | some i=>rw [h2] at this; cases this
 ·intro e; rw [e] at this; cases h2 : F' k with
  | none=>rfl
  | some i=>rw [h2] at this; cases this
theorem og.clus {F F' : ShM} (h : og F F') {x : Int} (hx : lz F x) : clus F' x = clus F x:=by
 rw [Dj,Dj,h x.toNat (by have:=hx.1; have:=hx.2.1; omega)]
theorem lJ.same {n : Nat} {F F' : ShM} (s : lJ n F F') : og F F':=fun k hk=>by
 unfold shp
 cases e : F k with
 | none=>rw [s.no k e]
 | some i=>
  obtain ⟨i',h1,h2,h3⟩:=s.yes k i hk e
  rw [h1]
  simp [h2.c,h3]
theorem E9 (F : ShM) (k : Nat) : og F (flushI F k):=by
 unfold flushI
 cases e : F k with
 | none=>exact og.refl F
 | some i=>exact og.put e rfl rfl
theorem Ah : ∀{l : List Int} {F : ShM},og F (oZ F l):=by
 intro l
 induction l with
 | nil=>intro F; exact og.refl F
 | cons x l ih=>intro F; exact (E9 F x.toNat).trans ih
theorem Md {F F' : ShM} (h : og F F') {root : Int} {l : List Int} (hr : lz F root) (hw : lr F root = (l,0)) : lr F' root = (l,0):=by
 refine LK hr hw fun x hx=>?_
 have hc:=FG (F:=F) (root:=root) (by rw [hw])
 rw [hw] at hc
 obtain ⟨h0,h1,-⟩:=hc.file x hx
 exact h x.toNat (by omega)
end Go.Proofs.YtbpblokfiajpjabGreatDoor
namespace Go.Proofs.YtbpblokfiajpjabGreatDoor
open Go.RowKit Go.SL Go.Crc
attribute [local go_sem ↓] Go.wp_at_zero Go.wp_at_succ
theorem Tl {F : ShM} {x : Nat} {y : Int} {k : Nat} : (linkI F x y).2 k = none↔F k = none:=by
 unfold linkI
 cases e : F x with
 | none=>exact Iff.rfl
 | some i=>
  dsimp only
  unfold put
  by_cases h : k = x
  ·subst h; rw [zt rfl,e]; simp
  ·rw [zq h]
theorem Ep {F : ShM} {j : JobM} {k : Nat} (hk : k < 5) : (ll F j).2.1 k = none↔F k = none:=by
 unfold ll
 split
 ·exact Iff.rfl
 ·split
  ·split <;> exact Tl
  ·split
   ·exact Iff.rfl
   ·exact Ah.none hk
theorem G9 {F : ShM} {j : JobM} (hf : lz F j.file) (hk : j.kind≠2) (h : (ll F j).1 = 0) : og F (ll F j).2.1 /\ (lr F j.file).2 = 0 /\ (lr (ll F j).2.1 j.file).2 = 0:=by
 unfold ll at h ⊢
 by_cases h3 : j.st≠3
 ·rw [zt h3] at h; exact absurd h (by show ¬((9 : Int) = 0); decide)
 ·rw [zq h3,zq hk] at h ⊢
  by_cases hw : (lr F j.file).2≠0
  ·rw [zt hw] at h; exact absurd h hw
  ·rw [zq hw]
   have hw0 : (lr F j.file).2 = 0:=Decidable.not_not.1 hw
   have hs : og F (oZ F (lr F j.file).1):=Ah
   exact ⟨hs,hw0,by rw [Md hs hf (l:=(lr F j.file).1) (by rw [<- hw0])]⟩
theorem Ti (N : Nat) (Y : YA) (m : le) (hm : YOk N m) (hN : N < 890000) (R : List SL.HP) (w : World) (H : own w (yL Y m R)) :
  Calls Tryz.prog 50 #[.pointer (some ⟨Y.y,0,none⟩)] w (zL Y (zV m) R w):=by
 have HB:=zh (Bc Y m R w H)
 generalize hres : zV m = res
 unfold zV at hres
 unfold Ae at HB
 cases hj : m.job with
 | none=>
  rw [hj] at HB hres
  dsimp only at HB hres
  subst hres
  clear hj
  go_enter Tryz.func50,Tryz.ntmps50
  go_wp2_with fail
  refine HB.out.mono ?_
  rintro e w' ⟨rfl,rfl⟩
  go_wp2_with fail
  go_ret
  exact ⟨Y,rfl,rfl,zR _,H⟩
 | some j=>
  rw [hj] at HB hres
  dsimp only at HB hres
  by_cases h4 : 4 <= j.st
  ·rw [zt h4] at hres
   subst hres
   rw [zf (by omega)] at HB
   clear hj h4
   go_enter Tryz.func50,Tryz.ntmps50
   go_wp2_with fail
   refine HB.out.mono ?_
   rintro e w' ⟨rfl,rfl⟩
   go_wp2_with fail
   go_ret
   exact ⟨Y,rfl,rfl,zR _,H⟩
  ·rw [zq h4] at hres
   rw [zg (by omega)] at HB
   obtain ⟨hS,hl,hk,hf,hr⟩:=hm.job j hj (by omega)
   have ck:=Cb H
   have cj:=Ad hj H
   by_cases h2 : m.dk.kind = 2
   ·rw [zt h2] at hres
    subst hres
    have d2 : (m.dk.kind == 2) = true:=by rw [h2]; rfl
    clear hj h4 h2 hk
    go_enter Tryz.func50,Tryz.ntmps50
    go_wp2_with fail
    refine HB.out.mono ?_
    rintro e w' ⟨rfl,rfl⟩
    go_wp2_with fail
    go_ret
    exact ⟨Y,rfl,rfl,zR _,H⟩
   ·rw [zq h2] at hres
    have d2 : (m.dk.kind == 2) = false:=by rw [zb]; exact h2
    have hkj : j.kind≠2:=by rw [hk]; exact h2
    have hff:=hS.file hkj
    have hv : ∀w' L,own w' (L++(row 3 1 Y.vj j.list.length (lq j.list)::((yT Y m).take 8++R))) -> lW w' Y.vj j.list:=fun w' L h=>oz 0 (lu L [row 3 1 Y.vj j.list.length (lq j.list)] h) rfl
    have HSE:=zh (IT Y.bs Y.A m.F N hm.sh (by omega) Y.bj Y.bt Y.bb Y.vj j (hm.jok j hj) hS (row 3 1 Y.vj j.list.length (lq j.list)::((yT Y m).take 8++R)) w hv (Bq hj H))
    have hcode:=Gw m.F j
    have HPUT:=zh (fun w' h=>AH (w:=w') (Y:=Y) (m:=m) (R:=R) (F':=(ll m.F j).2.1) (j':=(ll m.F j).2.2) hj (Es m.F j).1 (fun k hk=>Ep hk) h)
    have hff5 : 0 <= m.dk.file /\ m.dk.file < 5:=by rw [<- hf]; exact ⟨hff.1,hff.2.1⟩
    have htw:=hm.tp.2.1
    have htp:=hm.tp.2.2.1
    have HO:=zh (fun (hc : (ll m.F j).1 = 0) R' w' h=>L7 Y { m with F:=(ll m.F j).2.1,job:=some (ll m.F j).2.2 } (N + 1) (AW hm.sh (by omega) (hm.jok j hj) hS) (by omega) hm.tp.1 (by dsimp only; omega) (by dsimp only; omega) (ll m.F j).2.2 rfl m.dk.file hff5 (by rw [<- hf]; exact (G9 hff hkj hc).2.2) true R' w' h)
    have HN:=zh (fun R' w' h=>Cx m.dk.file R' w' h)
    generalize ll m.F j = S at *
    obtain ⟨c,F2,j2⟩:=S
    dsimp only at hres HSE hcode HPUT HO
    have HRES:=zh hres
    clear hj h4 h2 hk hres hv hff hkj hS hl hr htw htp hm hff5 hf
    go_enter Tryz.func50,Tryz.ntmps50
    go_wp2_with fail
    refine HB.out.mono ?_
    rintro e w' ⟨rfl,rfl⟩
    go_wp2_with fail
    refine HSE.out.mono ?_
    rintro e w2 ⟨rfl,hx2,h2⟩
    have h3:=HPUT.out _ h2
    by_cases hc : c = 0
    ·have HO2:=zh (HO.out hc)
     clear HO
     subst hc
     rw [zq (by decide)] at HRES
     rw [lS]
     have cf:=Ca h3
     clear h2 cj ck
     go_wp2_with fail
     refine (HN.out _ _ h3).mono ?_
     rintro e w4 ⟨rfl,hx4,h4⟩
     clear cf
     go_wp2_with fail
     refine (HO2.out _ _ h4).mono ?_
     rintro e w5 ⟨Y',hy,rfl,hx5,h5⟩
     go_wp2_with fail
     go_ret
     rw [<- HRES.out]
     exact ⟨Y',hy,rfl,(hx2.trans hx4).trans hx5,h5⟩
    ·rw [zt hc] at HRES
     rw [lv (e:=c) (by omega)]
     go_wp2_with fail
     go_ret
     rw [<- HRES.out]
     exact ⟨Y,rfl,by rw [lv (e:=c) (by omega)]; rfl,hx2,h3⟩
def Da (m : le) (k : Nat) (d : DevM) : le:=match m.F k with
 | some i=>{ m with F:=put m.F k { i with d:=d } }
 | none=>{ m with D:=setD m.D k d }
def BB (Y : YA) (m : le) (R : List SL.HP) (k : Nat) : List SL.HP:=match m.F k with
 | some i=>lL (Y.A k).1 (Y.A k).2.1 (Y.A k).2.2 i::(yL Y m R).eraseIdx (1 + k)
 | none=>(yL Y m R).set (7 + k) emp
theorem Ei {w : World} {P Q : SL.HP} {R : List SL.HP} (H : own w (P::Q::R)) : own w (Q::P::R):=lu [P] [Q] H
theorem FX {Y : YA} {m : le} {R : List SL.HP} {w : World} {k : Nat} (hk : k < 5) (H : own w (yL Y m R)) : own w (lj (Y.A k).2.1 (devOf m k)::BB Y m R k):=by
 unfold devOf BB
 cases e : m.F k with
 | none=>exact DB hk e H
 | some i=>exact Ei (AE hk e H)
theorem TQ (Y : YA) (m : le) {k : Nat} {i : ImgM} (h : m.F k = some i) (d : DevM) : yT Y { m with F:=put m.F k { i with d:=d } } = yT Y m:=by
 have hf : ∀j,oK Y.A (put m.F k { i with d:=d }) m.D j = oK Y.A m.F m.D j:=fun j=>by
  unfold oK put
  by_cases e : j = k
  ·subst e; rw [zt rfl,h]
  ·rw [zq e]
 unfold yT
 dsimp only
 rw [hf,hf,hf,hf,hf]
 rfl
theorem Me {Y : YA} {m : le} {R : List SL.HP} {w0 w : World} {k : Nat} (hk : k < 5) {d : DevM} (H0 : own w0 (yL Y m R)) (H : own w (lj (Y.A k).2.1 d::BB Y m R k)) : own w (yL Y (Da m k d) R):=by
 unfold Da
 unfold BB at H
 cases e : m.F k with
 | none=>rw [e] at H; exact Gf hk e H
 | some i=>
  rw [e] at H
  have h1:=Ei H
  have h2:=DM (m':={ i with d:=d }) hk e H0 h1
  show own w (shL Y.bs Y.A (put m.F k { i with d:=d })++(yT Y { m with F:=put m.F k { i with d:=d } }++R))
  rw [TQ Y m e d]
  exact h2
theorem VE (m : le) (k : Nat) (n : Int) (hn : ¬((k : Int) < -1 \/ 5 <= (k : Int) \/ n < 0)) : armM m (k : Int) n = (0,Da m k { devOf m k with fail:=n }):=by
 unfold armM Da devOf
 rw [zq hn,zq (by omega),zn]
 cases m.F k <;> rfl
theorem UY (Y : YA) (m : le) (file n : Int) (R : List SL.HP) (w : World) (H : own w (yL Y m R)) :
  Calls Tryz.prog 119 #[.pointer (some ⟨Y.y,0,none⟩),.int .i64 file,.int .i64 n] w (zL Y (armM m file n) R w):=by
 generalize hres : armM m file n = res
 by_cases hf : file < -1
 ·have hr : res = (1,m):=by rw [<- hres]; unfold armM; rw [zt (.inl hf)]
  clear hres
  subst hr
  go_enter Tryz.func119,Tryz.ntmps119
  go_wp2_with fail
  go_ret
  exact ⟨Y,rfl,rfl,zR w,H⟩
 ·by_cases hf5 : 5 <= file
  ·have hr : res = (1,m):=by rw [<- hres]; unfold armM; rw [zt (.inr (.inl hf5))]
   clear hres
   subst hr
   go_enter Tryz.func119,Tryz.ntmps119
   go_wp2_with fail
   go_ret
   exact ⟨Y,rfl,rfl,zR w,H⟩
  ·by_cases h1 : file = -1
   ·subst h1
    have ct:=y_tp H
    have HF:=zh (OO Y.tp m.top n _ w (KT H))
    by_cases hn : n < 0
    ·have hr : res = (1,m):=by rw [<- hres]; unfold armM; rw [zt (.inr (.inr hn))]
     clear hres
     subst hr
     rw [zt hn,zt hn] at HF
     clear hf hf5
     go_enter Tryz.func119,Tryz.ntmps119
     go_wp2_with fail
     refine HF.out.mono ?_
     rintro e w2 ⟨rfl,hx2,h2⟩
     go_wp2_with fail
     go_ret
     exact ⟨Y,rfl,rfl,hx2,oT H 12 rfl h2⟩
    ·have hr : res = (0,{ m with top:={ m.top with fail:=n } }):=by rw [<- hres]; unfold armM; rw [zq (by omega),zt rfl]
     clear hres
     subst hr
     rw [zq hn,zq hn] at HF
     clear hf hf5 hn
     go_enter Tryz.func119,Tryz.ntmps119
     go_wp2_with fail
     refine HF.out.mono ?_
     rintro e w2 ⟨rfl,hx2,h2⟩
     go_wp2_with fail
     go_ret
     exact ⟨Y,rfl,rfl,hx2,MD H h2⟩
   ·obtain ⟨k,rfl⟩ : ∃k : Nat,file = (k : Int):=⟨file.toNat,by omega⟩
    have hk : k < 5:=by omega
    have i0 : (0 : Int) <= (k : Int):=by omega
    have i1 : (k : Int) < 5:=by omega
    have d1 : ((k : Int) == -1) = false:=by rw [zb]; exact h1
    have ct:=Bi H hk
    have HF:=zh (OO (Y.A k).2.1 (devOf m k) n _ w (FX hk H))
    by_cases hn : n < 0
    ·have hr : res = (1,m):=by rw [<- hres]; unfold armM; rw [zt (.inr (.inr hn))]
     clear hres
     subst hr
     rw [zt hn,zt hn] at HF
     have hsm : Da m k (devOf m k) = m:=by
      unfold Da devOf
      cases e : m.F k with
      | none=>rw [show setD m.D k (m.D k) = m.D from funext fun j=>by unfold setD; split <;> simp_all]
      | some i=>dsimp only; rw [FK e]
     have HS:=zh hsm
     clear hsm h1
     go_enter Tryz.func119,Tryz.ntmps119
     go_wp2_with fail
     refine HF.out.mono ?_
     rintro e w2 ⟨rfl,hx2,h2⟩
     have h3:=Me hk H h2
     rw [HS.out] at h3
     go_wp2_with fail
     go_ret
     exact ⟨Y,rfl,rfl,hx2,h3⟩
    ·rw [VE m k n (by omega)] at hres
     subst hres
     rw [zq hn,zq hn] at HF
     clear hn h1
     go_enter Tryz.func119,Tryz.ntmps119
     go_wp2_with fail
     refine HF.out.mono ?_
     rintro e w2 ⟨rfl,hx2,h2⟩
     go_wp2_with fail
     go_ret
     exact ⟨Y,rfl,rfl,hx2,Me hk H h2⟩
theorem IZ (Y : YA) (m : le) (hm : ∀j,m.job = some j -> j.Ok) (R : List SL.HP) (w : World) (H : own w (yL Y m R)) :
  Calls Tryz.prog 47 #[.pointer (some ⟨Y.y,0,none⟩)] w fun e w'=>e = .returned (Ey m) /\ Ext w w' /\ own w' (yL Y m R):=by
 have hb:=IC (.cells #[.int .i64 0,.int .i64 0,.int .i64 0,.int .i64 0] 47) H
 have hxb:=(zR w).alloc (.cells #[.int .i64 0,.int .i64 0,.int .i64 0,.int .i64 0] 47)
 unfold Ey
 cases hj : m.job with
 | none=>
  have cj:=FC hb
  rw [hj] at cj
  change World.cell? _ ⟨Y.y,13,none⟩ = some (.pointer none) at cj
  dsimp only
  clear hj
  go_enter Tryz.func47,Tryz.ntmps47
  go_upto_region 1 with (fail)
  generalize w.heap.size = g at *
  generalize w.alloc (.cells #[.int .i64 0,.int .i64 0,.int .i64 0,.int .i64 0] 47) = w1 at *
  obtain ⟨cg,fg⟩:=ld 15 hb rfl
  go_wp2_with fail
  have h5:=lp (i:=3) (v:=.int .i64 0) 15 (lp (i:=2) (v:=.int .i64 0) 15 (lp (i:=1) (v:=.int .i64 (-1)) 15 (lp (i:=0) (v:=.int .i64 0) 15 hb rfl) rfl) rfl) rfl
  obtain ⟨c3,-⟩:=ld 15 h5 rfl
  refine bodyPost_ret (Ds rfl _ _ g 0 (-1) 0 0 rfl (c3 0) (c3 1) (c3 2) (c3 3)) rfl ?_
  exact ⟨rfl,(((hxb.setCell _ _).setCell _ _).setCell _ _).setCell _ _,li 15 h5 rfl⟩
 | some j=>
  have cj:=Ad hj hb
  have HST:=zh (fun R' w' (h : own w' (yL Y m R'))=>I2 Y.bs Y.bj Y.bt Y.bb Y.vj j (hm j hj) _ w' (lu (shL Y.bs Y.A m.F) (jobL Y.bs Y.bj Y.bt Y.bb Y.vj j) (Bq hj h)))
  have HCL:=zh (fun R' w' h=>II (Y:=Y) (m:=m) (R:=R') (w:=w') hj h)
  dsimp only
  unfold Fq at HST ⊢
  generalize (cnt j.x : Nat) = q at *
  clear hj
  go_enter Tryz.func47,Tryz.ntmps47
  go_upto_region 1 with (fail)
  generalize w.heap.size = g at *
  generalize w.alloc (.cells #[.int .i64 0,.int .i64 0,.int .i64 0,.int .i64 0] 47) = w1 at *
  go_wp2_with fail
  refine (HST.out _ _ hb).mono ?_
  rintro e w2 ⟨rfl,hx2,h2⟩
  have h3:=HCL.out _ _ (lu (jobL Y.bs Y.bj Y.bt Y.bb Y.vj j) (shL Y.bs Y.A m.F) h2)
  obtain ⟨cg,fg⟩:=ld 15 h3 rfl
  have g0:=cg 0
  have g1:=cg 1
  have g2:=cg 2
  have g3:=cg 3
  clear cj
  go_wp2_with fail
  have h5:=lp (i:=3) (v:=.int .i64 (q : Int)) 15 (lp (i:=2) (v:=.int .i64 j.st) 15 (lp (i:=1) (v:=.int .i64 j.file) 15 (lp (i:=0) (v:=.int .i64 j.kind) 15 h3 rfl) rfl) rfl) rfl
  obtain ⟨c3,-⟩:=ld 15 h5 rfl
  refine bodyPost_ret (Ds rfl _ _ g j.kind j.file j.st (q : Int) rfl (c3 0) (c3 1) (c3 2) (c3 3)) rfl ?_
  exact ⟨rfl,((((hxb.trans hx2).setCell _ _).setCell _ _).setCell _ _).setCell _ _,li 15 h5 rfl⟩
def ot (m : le) (fr : Int) (s : ByteArray) : Int×le:=
 if s.size % 16≠0 \/ lV m.F m.list fr ((s.size / 16 : Nat) : Int)≠0 then (1,m)
 else ((putM m.F m.list fr s).1,oS { m with F:=(putM m.F m.list fr s).2 } fr ((s.size / 16 : Nat) : Int))
def ow (m : le) (fr n : Int) : Int×le:=
 if lV m.F m.list fr n≠0 then (1,m)
 else ((zu m.F m.list fr n).1,oS { m with F:=(zu m.F m.list fr n).2 } fr n)
theorem YOk.head {N : Nat} {m : le} (h : YOk N m) : ∃s,m.list = m.dk.root::s:=by
 obtain ⟨s,hs⟩:=Iv h.root (by rw [h.walk])
 rw [h.walk] at hs
 exact ⟨s,hs⟩
theorem YOk.files {N : Nat} {m : le} (h : YOk N m) : ∀x∈m.list,lz m.F x:=by
 have:=zo m.F m.dk.root
 rw [h.walk] at this
 exact this
theorem IS {N : Nat} {m : le} (h : YOk N m) (fr n : Int) : lV m.F m.list fr n = if 0 <= fr /\ 0 <= n /\ fr <= clus m.F m.dk.root * 4 /\ n <= clus m.F m.dk.root * 4 - fr then 0 else 1:=by
 obtain ⟨s,hs⟩:=h.head
 unfold lV
 rw [hs]
 simp only [List.length_cons,List.getD_cons_zero]
 rw [zq (by omega)]
 by_cases hc : 0 <= fr /\ 0 <= n /\ fr <= clus m.F m.dk.root * 4 /\ n <= clus m.F m.dk.root * 4 - fr
 ·rw [zt hc,zq (by omega)]
 ·rw [zq hc,zt (by omega)]
theorem yT_F (Y : YA) (m : le) (F' : ShM) (hn : ∀k,k < 5 -> (F' k = none↔m.F k = none)) : yT Y { m with F:=F' } = yT Y m:=by
 have hf : ∀k,k < 5 -> oK Y.A F' m.D k = oK Y.A m.F m.D k:=fun k hk=>by
  unfold oK
  cases e : m.F k with
  | none=>rw [(hn k hk).2 e]
  | some i=>
   cases e' : F' k with
   | none=>exact absurd ((hn k hk).1 e') (by rw [e]; exact fun h=>by cases h)
   | some i'=>rfl
 unfold yT
 dsimp only
 rw [hf 0 (by decide),hf 1 (by decide),hf 2 (by decide),hf 3 (by decide),hf 4 (by decide)]
 rfl
theorem y_F {Y : YA} {m : le} {F' : ShM} {R : List SL.HP} {w : World} (hn : ∀k,k < 5 -> (F' k = none↔m.F k = none)) (H : own w (shL Y.bs Y.A F'++(yT Y m++R))) : own w (yL Y { m with F:=F' } R):=by
 show own w (shL Y.bs Y.A F'++(yT Y { m with F:=F' }++R))
 rw [yT_F Y m F' hn]
 exact H
theorem y_hv {Y : YA} {m : le} {R : List SL.HP} : ∀w' L,own w' (L++(yT Y m++R)) -> lW w' Y.v m.list:=fun w' L h=>oz 7 (lu L (yT Y m) h) rfl
theorem G4 (N : Nat) (Y : YA) (m : le) (hm : YOk N m) (hN : N < 900000) (R : List SL.HP) (w : World) (H : own w (yL Y m R)) :
  Calls Tryz.prog 43 #[.pointer (some ⟨Y.y,0,none⟩)] w fun e w'=>e = .returned (.int .i64 (clus m.F m.dk.root * 4)) /\ Ext w w' /\ own w' (yL Y m R):=by
 obtain ⟨r,mr,hxr,hr,hFr⟩:=oF hm.root
 have hcl : clus m.F m.dk.root = mr.c:=by rw [hxr]; exact Au hFr
 have hcr:=zZ (hm.sh.sh hN) hm.root
 rw [hcl] at hcr ⊢
 have HH:=zh (fun R' w' h=>AT (b:=Y.bs) (A:=Y.A) hr hFr R' w' h)
 have HS:=zh (fun w' (h : own w' (yL Y m R))=>(⟨y_bs h,by rw [<- hxr]; exact yM h,by rw [ou h hr,lU hFr]⟩ : w'.cell? ⟨Y.y,6,none⟩ = some (.pointer (some ⟨Y.bs,0,none⟩)) /\ w'.cell? ⟨Y.y,7,none⟩ = some (.int .i64 (r : Int)) /\ w'.cell? ⟨Y.bs,r,none⟩ = some (.pointer (some ⟨(Y.A r).1,0,none⟩))))
 have r0 : (0 : Int) <= (r : Int):=by omega
 have r5 : (r : Int) < 5:=by omega
 have c1 : (1 : Int) <= mr.c:=hcr.1
 have c2 : mr.c <= 32:=hcr.2
 have f0:=Dm mr.c mr.p mr.b
 have e1 : IntKind.i64.wrap (mr.c * 4) = mr.c * 4:=zi _ (by omega)
 unfold ol at HH
 have hz:=ln H
 have hxz:=(zR w).drew
 clear hcl hxr hcr hm
 go_enter Tryz.func43,Tryz.ntmps43
 go_upto_region 1 with (fail)
 go_region_held3 (fun w'=>w'.cell? ⟨Y.y,6,none⟩ = some (.pointer (some ⟨Y.bs,0,none⟩)) /\ w'.cell? ⟨Y.y,7,none⟩ = some (.int .i64 (r : Int)) /\ w'.cell? ⟨Y.bs,r,none⟩ = some (.pointer (some ⟨(Y.A r).1,0,none⟩))) (exact HS.out _ hz) ((go_at_call 71; refine (HH.out _ _ hz).mono ?_; rintro e w5 ⟨rfl,hx5,hz'⟩; have hxz:=hxz.trans hx5; have hz:=hz'))
 all_goals
  go_wp2_with fail
  go_ret
  exact ⟨rfl,hxz,hz⟩
def FE (c4 fr n : Int) : Bool:=decide (0 <= fr /\ 0 <= n /\ fr <= c4 /\ n <= c4 - fr)
theorem Jk (N : Nat) (Y : YA) (m : le) (hm : YOk N m) (hN : N < 900000) (fr n : Int) (R : List SL.HP) (w : World) (H : own w (yL Y m R)) :
  Calls Tryz.prog 193 #[.pointer (some ⟨Y.y,0,none⟩),.int .i64 fr,.int .i64 n] w fun e w'=>e = .returned (.bool (FE (clus m.F m.dk.root * 4) fr n)) /\ Ext w w' /\ own w' (yL Y m R):=by
 have HSE:=zh (G4 N Y m hm hN R w H)
 have hcr:=zZ (hm.sh.sh hN) hm.root
 have hc0 : 0 <= clus m.F m.dk.root * 4:=by omega
 have hc1 : clus m.F m.dk.root * 4 <= 128:=by omega
 clear hcr
 generalize clus m.F m.dk.root * 4 = c4 at *
 generalize hw : FE c4 fr n = wb at *
 unfold FE at hw
 by_cases q1 : 0 <= fr
 ·by_cases q2 : 0 <= n
  ·by_cases q3 : fr <= c4
   ·by_cases q4 : n <= c4 - fr
    ·have HW : Hid (wb = true):=zh (by rw [<- hw]; exact zg ⟨q1,q2,q3,q4⟩)
     clear hw hm
     have e1 : IntKind.i64.wrap (c4 - fr) = c4 - fr:=zi _ (by omega)
     go_enter Tryz.func193,Tryz.ntmps193
     go_wp2_with fail
     refine HSE.out.mono ?_
     rintro e w2 ⟨rfl,hx2,h2⟩
     go_wp2_with fail
     go_ret
     exact ⟨by rw [HW.out]; rfl,hx2,h2⟩
    ·have HW : Hid (wb = false):=zh (by rw [<- hw]; exact zf fun h=>q4 h.2.2.2)
     have d4 : decide (n <= c4 - fr) = false:=zf q4
     clear hw hm
     have e1 : IntKind.i64.wrap (c4 - fr) = c4 - fr:=zi _ (by omega)
     go_enter Tryz.func193,Tryz.ntmps193
     go_wp2_with fail
     refine HSE.out.mono ?_
     rintro e w2 ⟨rfl,hx2,h2⟩
     go_wp2_with fail
     go_ret
     exact ⟨by rw [HW.out]; rfl,hx2,h2⟩
   ·have HW : Hid (wb = false):=zh (by rw [<- hw]; exact zf fun h=>q3 h.2.2.1)
    clear hw hm
    go_enter Tryz.func193,Tryz.ntmps193
    go_wp2_with fail
    refine HSE.out.mono ?_
    rintro e w2 ⟨rfl,hx2,h2⟩
    go_wp2_with fail
    go_ret
    exact ⟨by rw [HW.out]; rfl,hx2,h2⟩
  ·have HW : Hid (wb = false):=zh (by rw [<- hw]; exact zf fun h=>q2 h.2.1)
   clear hw hm
   go_enter Tryz.func193,Tryz.ntmps193
   go_wp2_with fail
   refine HSE.out.mono ?_
   rintro e w2 ⟨rfl,hx2,h2⟩
   go_wp2_with fail
   go_ret
   exact ⟨by rw [HW.out]; rfl,hx2,h2⟩
 ·have HW : Hid (wb = false):=zh (by rw [<- hw]; exact zf fun h=>q1 h.1)
  clear hw hm
  go_enter Tryz.func193,Tryz.ntmps193
  go_wp2_with fail
  refine HSE.out.mono ?_
  rintro e w2 ⟨rfl,hx2,h2⟩
  go_wp2_with fail
  go_ret
  exact ⟨by rw [HW.out]; rfl,hx2,h2⟩
theorem Pt : ∀(n : Nat) (j : JobM) (c : Int),ob j c (n + 1) = zl (ob j c n) (c + n):=by
 intro n
 induction n with
 | zero=>intro j c; rw [ob,ob,ob]; simp
 | succ n ih=>
  intro j c
  rw [ob,ih,ob]
  congr 1
  push_cast
  omega
theorem Lr : ∀(n : Nat) {j : JobM} (_ : j.Ok) (c : Int),(ob j c n).Ok:=by
 intro n
 induction n with
 | zero=>intro j h c; exact h
 | succ n ih=>intro j h c; rw [ob]; exact ih (It h c) _
theorem EX : ∀(n : Nat) (j : JobM) (c : Int),yy j (ob j c n):=by
 intro n
 induction n with
 | zero=>intro j c; exact yy.refl j
 | succ n ih=>
  intro j c
  rw [ob]
  obtain ⟨a1,a2,a3,a4,a5⟩:=ih (zl j c) (c + 1)
  obtain ⟨b1,b2,b3,b4,b5⟩:=Po j c
  exact ⟨a1.trans b1,a2.trans b2,a3.trans b3,a4.trans b4,a5.trans b5⟩
theorem WC (a : Nat) : (a : Int).tdiv 4 = ((a / 4 : Nat) : Int):=rfl
theorem S5 (m : le) {j : JobM} (hj : m.job = some j) (a b : Nat) (hb : b≠0) : oS m (a : Int) (b : Int) = { m with job:=some (ob j ((a / 4 : Nat) : Int) ((a + b - 1) / 4 - a / 4 + 1)) }:=by
 unfold oS
 rw [hj]
 dsimp only
 rw [zq (by omega)]
 have h1 : (a : Int) / 4 = ((a / 4 : Nat) : Int):=by omega
 have h2 : (((a : Int) + (b : Int) - 1) / 4 - (a : Int) / 4 + 1).toNat = (a + b - 1) / 4 - a / 4 + 1:=by omega
 rw [h1] at *
 rw [h2]
theorem Kc (Y : YA) (m : le) (hm : ∀j,m.job = some j -> j.Ok) (a b : Nat) (hab : a + b <= 200) (R : List SL.HP) (w : World) (H : own w (yL Y m R)) :
  Calls Tryz.prog 195 #[.pointer (some ⟨Y.y,0,none⟩),.int .i64 (a : Int),.int .i64 (b : Int)] w fun e w'=>e = .returned (.tuple #[]) /\ Ext w w' /\ own w' (yL Y (oS m (a : Int) (b : Int)) R):=by
 cases hj : m.job with
 | none=>
  have cj:=FC H
  rw [hj] at cj
  change w.cell? ⟨Y.y,13,none⟩ = some (.pointer none) at cj
  have hd : oS m (a : Int) (b : Int) = m:=by unfold oS; rw [hj]
  rw [hd]
  clear hj hd
  go_enter Tryz.func195,Tryz.ntmps195
  go_wp2_with fail
  refine bodyPost_ret (results_none rfl _ _ _) rfl ?_
  exact ⟨rfl,zR w,H⟩
 | some j=>
  have cj:=Ad hj H
  by_cases hb : b = 0
  ·have hd : oS m (a : Int) (b : Int) = m:=by unfold oS; rw [hj]; dsimp only; rw [zt (by omega)]
   rw [hd]
   clear hd hj
   subst hb
   go_enter Tryz.func195,Tryz.ntmps195
   go_wp2_with fail
   refine bodyPost_ret (results_none rfl _ _ _) rfl ?_
   exact ⟨rfl,zR w,H⟩
  ·rw [S5 m hj a b hb]
   have b1 : ((b : Int) == 0) = false:=by rw [zb]; omega
   have t1:=WC a
   have t2 : ((a : Int) + (b : Int) - 1).tdiv 4 = (((a + b - 1) / 4 : Nat) : Int):=by rw [show (a : Int) + (b : Int) - 1 = ((a + b - 1 : Nat) : Int) by omega]; exact WC _
   have h0 : own w (yL Y { m with job:=some (ob j ((a / 4 : Nat) : Int) 0) } R):=by
    have e : ({ m with job:=some (ob j ((a / 4 : Nat) : Int) 0) } : le) = m:=by rw [show ob j ((a / 4 : Nat) : Int) 0 = j from rfl,<- hj]
    rw [e]; exact H
   have H0:=zh h0
   have hok:=hm j hj
   have HOK:=zh hok
   have hle : a / 4 <= (a + b - 1) / 4:=by omega
   have hlt5 : (a + b - 1) / 4 < 50:=by omega
   clear hj hm hok h0 H
   generalize hp : a / 4 = p at *
   generalize hq : (a + b - 1) / 4 = z at *
   have a0 : (0 : Int) <= (a : Int):=by omega
   have a1 : (a : Int) <= 200:=by omega
   have b0 : (0 : Int) <= (b : Int):=by omega
   have b2 : (b : Int) <= 200:=by omega
   clear hp hq hb
   go_enter Tryz.func195,Tryz.ntmps195
   go_wp2_with fail
   go_loopw [6] (fun cv wr=>∃q : Nat,q <= z - p + 1 /\ cv = .int .i64 ((p + q : Nat) : Int) /\ Ext w wr /\ own wr (yL Y { m with job:=some (ob j (p : Int) q) } R)) (fun cv _=>z + 1 - (intOf cv).toNat)
   case atStart=>exact ⟨0,Nat.zero_le _,rfl,zR w,H0.out⟩
   case round=>
    clear cj H0
    obtain ⟨q,hq,rfl,hxr,hown⟩:=hrel
    have cj:=Ad (m:={ m with job:=some (ob j (p : Int) q) }) rfl hown
    by_cases hlt : q < z - p + 1
    ·have j1 : ((p + q : Nat) : Int) <= (z : Int):=by omega
     have j0 : (0 : Int) <= ((p + q : Nat) : Int):=by omega
     have j2 : ((p + q : Nat) : Int) <= 50:=by omega
     have HD:=zh (Tc Y.bs Y.bj Y.bt Y.bb Y.vj (ob j (p : Int) q) (Lr q HOK.out (p : Int)) ((p + q : Nat) : Int) _ wr (lu (shL Y.bs Y.A m.F) (jobL Y.bs Y.bj Y.bt Y.bb Y.vj (ob j (p : Int) q)) (Bq (m:={ m with job:=some (ob j (p : Int) q) }) rfl hown)))
     have HN : Hid (zl (ob j (p : Int) q) ((p + q : Nat) : Int) = ob j (p : Int) (q + 1)):=zh (by rw [Pt]; push_cast; rfl)
     have HSM : Hid ((ob j (p : Int) (q + 1)).list = (ob j (p : Int) q).list):=zh ((EX (q + 1) j p).1.trans (EX q j p).1.symm)
     generalize hcc : ((p + q : Nat) : Int) = cc at *
     have HCE:=zh hcc
     clear hcc
     go_wp2_with fail
     refine HD.out.mono ?_
     rintro e w3 ⟨rfl,hx3,h3⟩
     rw [HN.out] at h3
     have h4 : own w3 (yL Y { m with job:=some (ob j (p : Int) (q + 1)) } R):=AH (m:={ m with job:=some (ob j (p : Int) q) }) rfl HSM.out (fun _ _=>Iff.rfl) (lu (jobL Y.bs Y.bj Y.bt Y.bb Y.vj (ob j (p : Int) (q + 1))) (shL Y.bs Y.A m.F) h3)
     go_wp2_with fail
     go_roundw
     case rel=>exact ⟨q + 1,by omega,congrArg (Value.int .i64) (by have:=HCE.out; omega),hxr.trans hx3,h4⟩
     case measure=>
      have:=HCE.out
      show z + 1 - (cc + 1).toNat < z + 1 - cc.toNat
      omega
    ·obtain rfl : q = z - p + 1:=by omega
     have j1 : ¬((p + (z - p + 1) : Nat) : Int) <= (z : Int):=by omega
     go_wp2_with fail
     go_end0
     exact ⟨rfl,hxr,hown⟩
theorem T1 (N : Nat) (Y : YA) (m : le) (hm : YOk N m) (hN : N < 900000) (fr n : Int) (hfr : yb fr) (hn : yb n) (R : List SL.HP) (w : World) (H : own w (yL Y m R)) :
  Calls Tryz.prog 42 #[.pointer (some ⟨Y.y,0,none⟩),.int .i64 fr,.int .i64 n] w fun e w'=>e = .returned (.tuple #[.string (getM m.F m.list fr n).1,errV (getM m.F m.list fr n).2]) /\ Ext w w' /\ own w' (yL Y m R):=by
 have HG:=zh (fun w' h=>Xo Y.bs Y.A m.F (hm.sh.sh hN) Y.v m.list hm.files hm.list5 fr n hfr hn (yT Y m++R) w' y_hv h)
 have HS:=zh (fun w' (h : own w' (yL Y m R))=>(⟨y_bs h,BQ h⟩ : w'.cell? ⟨Y.y,6,none⟩ = some (.pointer (some ⟨Y.bs,0,none⟩)) /\ w'.cell? ⟨Y.y,12,none⟩ = some Y.v))
 have hz:=ln H
 have hxz:=(zR w).drew
 generalize getM m.F m.list fr n = S at *
 obtain ⟨s,c⟩:=S
 dsimp only at HG ⊢
 clear hm hfr hn
 go_enter Tryz.func42,Tryz.ntmps42
 go_upto_region 1 with (fail)
 go_region_held3 (fun w'=>w'.cell? ⟨Y.y,6,none⟩ = some (.pointer (some ⟨Y.bs,0,none⟩)) /\ w'.cell? ⟨Y.y,12,none⟩ = some Y.v) (exact HS.out _ hz) ((go_at_call 142; refine (HG.out _ hz).mono ?_; rintro e w5 ⟨rfl,hx5,hz'⟩; have hxz:=hxz.trans hx5; have hz:=hz'))
 all_goals
  go_wp2_with fail
  go_ret2
  exact ⟨rfl,hxz,hz⟩
theorem yokF {N : Nat} {m : le} (hm : YOk N m) {F' : ShM} {n : Nat} (s : lJ n m.F F') : ∀k,k < 5 -> (F' k = none↔m.F k = none):=fun k hk=>s.same.none hk
theorem DF {N : Nat} {m : le} (hm : YOk N m) : topI m.list < 5:=by
 obtain ⟨s,hs⟩:=hm.head
 obtain ⟨k,i,hx,hk,-⟩:=oF hm.root
 unfold topI
 rw [hs,List.getD_cons_zero,hx]
 omega
theorem TJ (N : Nat) (Y : YA) (m : le) (hm : YOk N m) (hN : N + 1000 < 900000) (fr n : Int) (hfr : yb fr) (hn : yb n) (R : List SL.HP) (w : World) (H : own w (yL Y m R)) :
  Calls Tryz.prog 104 #[.pointer (some ⟨Y.y,0,none⟩),.int .i64 fr,.int .i64 n] w (zL Y (ow m fr n) R w):=by
 have HWI:=zh (Jk N Y m hm (by omega) fr n R w H)
 generalize hres : ow m fr n = res
 unfold ow at hres
 have hwy:=IS hm fr n
 have hcr:=zZ (hm.sh.sh (by omega)) hm.root
 by_cases hc : 0 <= fr /\ 0 <= n /\ fr <= clus m.F m.dk.root * 4 /\ n <= clus m.F m.dk.root * 4 - fr
 ·rw [zt hc] at hwy
  rw [zq (by rw [hwy]; exact fun h=>h rfl)] at hres
  have hb : FE (clus m.F m.dk.root * 4) fr n = true:=zg hc
  rw [hb] at HWI
  obtain ⟨a,rfl⟩ : ∃a : Nat,fr = (a : Int):=⟨fr.toNat,by omega⟩
  obtain ⟨b,rfl⟩ : ∃b : Nat,n = (b : Int):=⟨n.toNat,by omega⟩
  have hab : a + b <= 200:=by omega
  have hst:=CP hm.sh (DF hm) (by omega) (a : Int) (b : Int) (by omega)
  have HP:=zh (fun w' h=>TO Y.bs Y.A m.F N hm.sh (by omega) Y.v m.list hm.files hm.list5 (a : Int) (b : Int) hfr hn (yT Y m++R) w' y_hv h)
  have hcode : 0 <= (zu m.F m.list (a : Int) (b : Int)).1:=KJ m.F m.list (a : Int) (b : Int)
  have HF:=zh (yokF hm hst)
  have HJ:=zh hm.jok
  have HS:=zh (fun (m' : le) w' (h : own w' (yL Y m' R))=>(⟨y_bs h,BQ h⟩ : w'.cell? ⟨Y.y,6,none⟩ = some (.pointer (some ⟨Y.bs,0,none⟩)) /\ w'.cell? ⟨Y.y,12,none⟩ = some Y.v))
  generalize zu m.F m.list (a : Int) (b : Int) = S at *
  obtain ⟨c,F2⟩:=S
  dsimp only at HP HF hres hcode
  have HRES:=zh hres
  have HD:=zh (fun w' h=>Kc Y { m with F:=F2 } HJ.out a b hab R w' h)
  clear hm hfr hn hres hc hwy hb hst hcr
  go_enter Tryz.func104,Tryz.ntmps104
  go_wp2_with fail
  refine HWI.out.mono ?_
  rintro e w2 ⟨rfl,hx2,h2⟩
  have hz:=ln h2
  have hxz:=hx2.drew
  go_upto_region 3 with (fail)
  clear h2 hx2
  have hg : (fun w' : World=>w'.cell? ⟨Y.y,6,none⟩ = some (.pointer (some ⟨Y.bs,0,none⟩)) /\ w'.cell? ⟨Y.y,12,none⟩ = some Y.v) w2.drew:=HS.out _ _ hz
  go_region_held3 (fun w'=>w'.cell? ⟨Y.y,6,none⟩ = some (.pointer (some ⟨Y.bs,0,none⟩)) /\ w'.cell? ⟨Y.y,12,none⟩ = some Y.v) (exact hg) ((go_at_call 207; refine (HP.out _ hz).mono ?_; rintro e w5 ⟨rfl,hx5,hz'⟩; have hxz:=hxz.trans hx5; have hz:=y_F HF.out hz'; have hg:=HS.out _ _ hz))
  all_goals
   clear hg
   go_wp2_with fail
   refine (HD.out _ hz).mono ?_
   rintro e w6 ⟨rfl,hx6,h6⟩
   go_wp2_with fail
   go_ret
   rw [<- HRES.out]
   exact ⟨Y,rfl,rfl,hxz.trans hx6,h6⟩
 ·rw [zq hc] at hwy
  rw [zt (by rw [hwy]; decide)] at hres
  have hb : FE (clus m.F m.dk.root * 4) fr n = false:=zf hc
  rw [hb] at HWI
  subst hres
  clear hm hfr hn hc hwy hb hcr
  go_enter Tryz.func104,Tryz.ntmps104
  go_wp2_with fail
  refine HWI.out.mono ?_
  rintro e w2 ⟨rfl,hx2,h2⟩
  go_wp2_with fail
  go_ret
  exact ⟨Y,rfl,rfl,hx2,h2⟩
theorem Xi (N : Nat) (Y : YA) (m : le) (hm : YOk N m) (hN : N + 1000 < 900000) (fr : Int) (hfr : yb fr) (s : ByteArray) (hs : s.size <= 3200) (R : List SL.HP) (w : World) (H : own w (yL Y m R)) :
  Calls Tryz.prog 91 #[.pointer (some ⟨Y.y,0,none⟩),.int .i64 fr,.string s] w (zL Y (ot m fr s) R w):=by
 have td:=Qh s.size
 have tm:=Qn s.size
 have HWI:=zh (Jk N Y m hm (by omega) fr ((s.size / 16 : Nat) : Int) R w H)
 generalize hres : ot m fr s = res
 unfold ot at hres
 have hwy:=IS hm fr ((s.size / 16 : Nat) : Int)
 have hcr:=zZ (hm.sh.sh (by omega)) hm.root
 by_cases h16 : s.size % 16 = 0
 ·have d16 : decide ((0 : Int) < (s.size : Int) % 16) = false:=zf (by omega)
  by_cases hc : 0 <= fr /\ 0 <= ((s.size / 16 : Nat) : Int) /\ fr <= clus m.F m.dk.root * 4 /\ ((s.size / 16 : Nat) : Int) <= clus m.F m.dk.root * 4 - fr
  ·rw [zt hc] at hwy
   rw [zq (by rw [hwy,h16]; rintro (h | h) <;> exact h rfl)] at hres
   have hb : FE (clus m.F m.dk.root * 4) fr ((s.size / 16 : Nat) : Int) = true:=zg hc
   rw [hb] at HWI
   obtain ⟨a,rfl⟩ : ∃a : Nat,fr = (a : Int):=⟨fr.toNat,by omega⟩
   have hab : a + s.size / 16 <= 200:=by omega
   have hst:=DN hm.sh (DF hm) (by omega) (a : Int) s hs
   have HP:=zh (fun w' h=>Vo Y.bs Y.A m.F N hm.sh (by omega) Y.v m.list hm.files hm.list5 (a : Int) hfr s hs (yT Y m++R) w' y_hv h)
   have HF:=zh (yokF hm hst)
   have HJ:=zh hm.jok
   have HS:=zh (fun (m' : le) w' (h : own w' (yL Y m' R))=>(⟨y_bs h,BQ h⟩ : w'.cell? ⟨Y.y,6,none⟩ = some (.pointer (some ⟨Y.bs,0,none⟩)) /\ w'.cell? ⟨Y.y,12,none⟩ = some Y.v))
   generalize putM m.F m.list (a : Int) s = S at *
   obtain ⟨c,F2⟩:=S
   dsimp only at HP HF hres
   have HRES:=zh hres
   have HD:=zh (fun w' h=>Kc Y { m with F:=F2 } HJ.out a (s.size / 16) hab R w' h)
   clear hm hfr hs hres hc hwy hb hst hcr h16
   go_enter Tryz.func91,Tryz.ntmps91
   go_wp2_with fail
   refine HWI.out.mono ?_
   rintro e w2 ⟨rfl,hx2,h2⟩
   have hz:=ln h2
   have hxz:=hx2.drew
   go_upto_region 3 with (fail)
   clear h2 hx2
   have hg : (fun w' : World=>w'.cell? ⟨Y.y,6,none⟩ = some (.pointer (some ⟨Y.bs,0,none⟩)) /\ w'.cell? ⟨Y.y,12,none⟩ = some Y.v) w2.drew:=HS.out _ _ hz
   go_region_held3 (fun w'=>w'.cell? ⟨Y.y,6,none⟩ = some (.pointer (some ⟨Y.bs,0,none⟩)) /\ w'.cell? ⟨Y.y,12,none⟩ = some Y.v) (exact hg) ((go_at_call 194; refine (HP.out _ hz).mono ?_; rintro e w5 ⟨rfl,hx5,hz'⟩; have hxz:=hxz.trans hx5; have hz:=y_F HF.out hz'; have hg:=HS.out _ _ hz))
   all_goals
    clear hg
    go_wp2_with fail
    refine (HD.out _ hz).mono ?_
    rintro e w6 ⟨rfl,hx6,h6⟩
    go_wp2_with fail
    go_ret
    rw [<- HRES.out]
    exact ⟨Y,rfl,rfl,hxz.trans hx6,h6⟩
  ·rw [zq hc] at hwy
   rw [zt (.inr (by rw [hwy]; decide))] at hres
   have hb : FE (clus m.F m.dk.root * 4) fr ((s.size / 16 : Nat) : Int) = false:=zf hc
   rw [hb] at HWI
   subst hres
   have hs2 : (s.size : Int) <= 3200:=by omega
   clear hm hfr hc hwy hb hcr h16
   go_enter Tryz.func91,Tryz.ntmps91
   go_wp2_with fail
   refine HWI.out.mono ?_
   rintro e w2 ⟨rfl,hx2,h2⟩
   go_wp2_with fail
   go_ret
   exact ⟨Y,rfl,rfl,hx2,h2⟩
 ·have d16 : decide ((0 : Int) < (s.size : Int) % 16) = true:=zg (by omega)
  rw [zt (.inl h16)] at hres
  subst hres
  clear hm hfr hs hwy hcr h16 HWI
  go_enter Tryz.func91,Tryz.ntmps91
  go_wp2_with fail
  go_ret
  exact ⟨Y,rfl,rfl,zR w,H⟩
theorem Q9 (N : Nat) (Y : YA) (m : le) (hm : YOk N m) (hN : N < 900000) (R : List SL.HP) (w : World) (H : own w (yL Y m R)) :
  Calls Tryz.prog 106 #[.pointer (some ⟨Y.y,0,none⟩)] w fun e w'=>e = .returned (.tuple #[]) /\ Ext w w' /\ own w' (yL Y (AD m) R):=by
 have cl:=BQ H
 obtain ⟨ao,lb,off,cap,hY,hlc,hcap,hao,-⟩:=(DQ H).form
 rw [hY] at cl
 have HAO:=zh hao
 have HL:=zh hm.files
 have hl5:=hm.list5
 have HYV:=zh hY
 have HW:=zh hm.sh
 have H0:=zh H
 unfold AD
 clear hao hY hm H
 generalize hll : m.list = l at *
 have HLL:=zh hll
 clear hll
 go_enter Tryz.func106,Tryz.ntmps106
 go_wp2_with fail
 go_loopw [9] (fun iv wr=>∃(q : Nat) (F' : ShM),q <= l.length /\ iv = .int .i64 q /\ og m.F F' /\ ShW N F' /\ oZ F' (l.drop q) = oZ m.F l /\ Ext w wr /\ own wr (yL Y { m with F:=F' } R)) (fun iv _=>l.length - (intOf iv).toNat)
 case atStart=>exact ⟨0,m.F,Nat.zero_le _,rfl,og.refl _,HW.out,rfl,zR w,H0.out⟩
 case round=>
  clear H0 cl
  obtain ⟨q,F',hq,rfl,hsm,hW,hgo,hxr,hown⟩:=hrel
  by_cases hlt : q < l.length
  ·obtain rfl:=HAO.out (by omega)
   have j1 : (0 : Int) <= (q : Int):=by omega
   have j2 : (q : Int) < (l.length : Int):=by omega
   have hv:=DQ hown
   rw [HYV.out] at hv
   have c1:=zx (l:=m.list) hv (by rw [HLL.out]; exact hlt)
   rw [HLL.out] at c1
   rw [BS 0 hlt,oZ] at hgo
   have hfx:=HL.out (l.getD q 0) (by simp [hlt])
   obtain ⟨x,mx,hx,hx5,-⟩:=oF hfx
   obtain ⟨mi,hmi⟩ : ∃mi,F' x = some mi:=by
    have h2:=hsm.file.2 hfx
    rw [hx] at h2
    obtain ⟨-,-,mi,h3⟩:=h2
    exact ⟨mi,by rw [zn] at h3; exact h3⟩
   rw [hx] at c1 hgo
   rw [zn] at hgo
   have hfi : flushI F' x = put F' x mi.flush:=by unfold flushI; rw [hmi]
   have hsm2:=hsm.trans (E9 F' x)
   have hW2:=CX hW hx5
   rw [hfi] at hgo hsm2 hW2
   have i1 : (0 : Int) <= (x : Int):=by omega
   have i2 : (x : Int) < 5:=by omega
   have cb:=y_bs hown
   have cs:=ou hown hx5
   rw [lU hmi] at cs
   have HFL:=zh (Kd hx5 hmi (hW.sh hN) (yT Y { m with F:=F' }++R) wr hown)
   have HGO:=zh hgo
   have HS2:=zh hsm2
   have HW2:=zh hW2
   have HP:=zh (fun w' h=>y_F (Y:=Y) (m:={ m with F:=F' }) (F':=put F' x mi.flush) (R:=R) (w:=w') (fun k hk=>(og.put (m':=mi.flush) hmi rfl rfl).none hk) h)
   clear hgo hsm2 hW2 hfi hfx hx hmi hsm hW hv
   go_wp2_with fail
   refine HFL.out.mono ?_
   rintro e w3 ⟨rfl,hx3,h3⟩
   go_wp2_with fail
   go_roundw
   case rel=>exact ⟨q + 1,put F' x mi.flush,by omega,by go_num,HS2.out,HW2.out,HGO.out,hxr.trans hx3,HP.out _ h3⟩
   case measure=>simp [intOf]; omega
  ·obtain rfl : l.length = q:=by omega
   rw [List.drop_of_length_le (Nat.le_refl _)] at hgo
   replace hgo : F' = oZ m.F l:=hgo
   subst hgo
   go_wp2_with fail
   go_end0
   have e:=HLL.out
   subst e
   exact ⟨rfl,hxr,hown⟩
end Go.Proofs.YtbpblokfiajpjabGreatDoor
namespace Go.Proofs.YtbpblokfiajpjabGreatDoor
open Go.RowKit Go.SL Go.Crc
structure ly (N : Nat) (m : le) : Prop where
 ok : YOk N m
 str : ∀j,m.job = some j -> j.st < 4 -> j.kind = 2 -> j.file = -1 \/ j.file∈m.list.tail
theorem YOk.mono {N M : Nat} {m : le} (h : YOk N m) (hNM : N <= M) : YOk M m:=
 ⟨h.sh.mono hNM,fun k hk e=>by obtain ⟨a,b,c⟩:=h.dv k hk e; exact ⟨a,by omega,by omega⟩,by obtain ⟨a,b,c,d⟩:=h.tp; exact ⟨a,by omega,by omega,d⟩,h.walk,h.root,h.jok,h.job⟩
theorem ly.mono {N M : Nat} {m : le} (h : ly N m) (hNM : N <= M) : ly M m:=⟨h.ok.mono hNM,h.str⟩
theorem Ee {N : Nat} {m : le} (h : YOk N m) (hN : N < 900000) (d : lR) : (lx m d).2.top.Ok /\ (lx m d).2.top.writes <= (N + 1 : Nat) /\ (lx m d).2.top.pend.length <= N + 1 /\ 1 <= (lx m d).2.top.fl.length:=by
 obtain ⟨a,b,c,e⟩:=h.tp
 have h1:=DevM.write_ok a 0 d.s (by omega) (by omega)
 obtain ⟨h2,h3,h4⟩:=yJ m.top 0 d.s
 unfold lx
 split
 ·exact ⟨h1,by dsimp only; omega,by dsimp only; omega,by dsimp only; omega⟩
 ·refine ⟨DevM.flush_ok h1,?_,?_,?_⟩
  ·simp only [DevM.flush]; omega
  ·simp [DevM.flush]
  ·simp only [DevM.flush,lP]; omega
theorem ly.jobs {N : Nat} {m : le} (h : ly N m) {j j' : JobM} (hj : m.job = some j) (hok : j'.Ok) (hs : yy j j') (hst : j'.st < 4 -> j.st < 4) : ly N { m with job:=some j' }:=by
 refine ⟨⟨h.ok.sh,h.ok.dv,h.ok.tp,h.ok.walk,h.ok.root,fun k hk=>by cases hk; exact hok,fun k hk h4=>?_⟩,fun k hk h4 h2=>?_⟩
 ·cases hk
  obtain ⟨h1,h2,h3,h5,h6⟩:=h.ok.job j hj (hst h4)
  exact ⟨h1.same hs,hs.1.trans h2,hs.2.1.trans h3,hs.2.2.1.trans h5,hs.2.2.2.1.trans h6⟩
 ·cases hk
  have:=h.str j hj (hst h4) (by rw [<- hs.2.1]; exact h2)
  rw [hs.2.2.1]
  exact this
theorem Oa {N : Nat} {m : le} (h : ly N m) (on : Bool) : ly N (zk m on).2:=by
 unfold zk
 cases hj : m.job with
 | none=>exact h
 | some j=>
  dsimp only
  split
  ·exact h
  ·exact h.jobs hj (Ms (h.ok.jok j hj) on) (IQ j on) (fun _=>by omega)
theorem PB {N : Nat} {m : le} (h : ly N m) (n : Int) : ly N (zQ m n).2:=by
 unfold zQ
 split
 ·exact h
 ·cases hj : m.job with
  | none=>exact h
  | some j=>
   dsimp only
   split
   ·exact h
   ·exact h.jobs hj (UP (h.ok.jok j hj) n) (Pj j n) (fun _=>by omega)
theorem ly.shelf {N M : Nat} {m : le} (h : ly N m) (hNM : N <= M) {F' : ShM} (hs : og m.F F') (hW : ShW M F') : ly M { m with F:=F' }:=by
 have hM:=h.mono hNM
 refine ⟨⟨hW,fun k hk e=>?_,hM.ok.tp,?_,?_,h.ok.jok,fun j hj h4=>?_⟩,h.str⟩
 ·exact hM.ok.dv k hk ((hs.none hk).1 e)
 ·exact Md hs h.ok.root h.ok.walk
 ·exact hs.file.2 h.ok.root
 ·obtain ⟨h1,h2⟩:=h.ok.job j hj h4
  exact ⟨h1.files fun x hx=>hs.file.2 hx,h2⟩
theorem Un (n : Nat) : ∀(j : JobM) (c : Int),(ob j c n).st < 4 -> j.st < 4:=by
 induction n with
 | zero=>intro j c h; exact h
 | succ n ih=>
  intro j c h
  rw [ob] at h
  have h1:=ih _ _ h
  unfold zl at h1
  split at h1
  ·rename_i h2; exact h2.1
  ·exact h1
theorem GS {N : Nat} {m : le} (h : ly N m) (a b : Int) : ly N (oS m a b):=by
 unfold oS
 cases hj : m.job with
 | none=>exact h
 | some j=>
  dsimp only
  split
  ·exact h
  ·exact h.jobs hj (Lr _ (h.ok.jok j hj) _) (EX _ j _) (Un _ j _)
theorem NT {N : Nat} {m : le} (h : ly N m) (hN : N + 1000 < 900000) (fr : Int) (s : ByteArray) (hs : s.size <= 3200) : ly (N + 1000) (ot m fr s).2:=by
 have hst:=DN h.ok.sh (DF h.ok) (by omega) fr s hs
 unfold ot
 split
 ·exact h.mono (by omega)
 ·exact GS (h.shelf (by omega) hst.same (h.ok.sh.step hst)) _ _
theorem O8 {N : Nat} {m : le} (h : ly N m) (hN : N + 1000 < 900000) (fr n : Int) (hn : n <= 200) : ly (N + 1000) (ow m fr n).2:=by
 have hst:=CP h.ok.sh (DF h.ok) (by omega) fr n hn
 unfold ow
 split
 ·exact h.mono (by omega)
 ·exact GS (h.shelf (by omega) hst.same (h.ok.sh.step hst)) _ _
theorem NL {N : Nat} {m : le} (h : ly N m) : ly N (AD m):=
 h.shelf (Nat.le_refl N) Ah (EB h.ok.sh h.ok.files)
theorem Lb {d : DevM} (h : d.Ok) {n : Int} (h0 : 0 <= n) (h1 : n <= 9223372036854775807) : ({ d with fail:=n } : DevM).Ok:=⟨h.n,h.fl,h.p,h.pend,⟨by dsimp only; omega,h1⟩,h.writes⟩
theorem TC {N : Nat} {m : le} (h : ly N m) (file n : Int) (hn : yb n) : ly N (armM m file n).2:=by
 unfold armM
 split
 ·exact h
 ·rename_i hb
  have h0 : 0 <= n:=by omega
  have h1 : n <= 9223372036854775807:=hn.2
  split
  ·obtain ⟨a,b,c,e⟩:=h.ok.tp
   exact ⟨⟨h.ok.sh,h.ok.dv,⟨Lb a h0 h1,b,c,e⟩,h.ok.walk,h.ok.root,h.ok.jok,h.ok.job⟩,h.str⟩
  ·cases e : m.F file.toNat with
   | none=>
    refine ⟨⟨h.ok.sh,fun k hk e2=>?_,h.ok.tp,h.ok.walk,h.ok.root,h.ok.jok,h.ok.job⟩,h.str⟩
    dsimp only at e2 ⊢
    unfold setD
    by_cases hk2 : k = file.toNat
    ·rw [zt hk2]
     obtain ⟨a,b,c⟩:=h.ok.dv file.toNat (by omega) e
     exact ⟨Lb a h0 h1,b,c⟩
    ·rw [zq hk2]
     exact h.ok.dv k hk e2
   | some i=>
    have hi:=h.ok.sh.ok file.toNat i (by omega) e
    refine h.shelf (Nat.le_refl N) (og.put e rfl rfl) ⟨fun k x hk hx=>?_,fun k x hk hx=>?_,fun k x hk hx=>?_⟩
    all_goals
     unfold put at hx
     by_cases hk2 : k = file.toNat
     ·rw [zt hk2] at hx
      cases hx
      first | exact { hi with d:=Lb hi.d h0 h1 } | exact h.ok.sh.wr file.toNat i (by omega) e | exact h.ok.sh.pend file.toNat i (by omega) e
     ·rw [zq hk2] at hx
      first | exact h.ok.sh.ok k x hk hx | exact h.ok.sh.wr k x hk hx | exact h.ok.sh.pend k x hk hx
theorem DW {m : le} {d : lR} (h : (lx m d).1≠0) : (lx m d).2 = { m with top:=(lx m d).2.top }:=by
 revert h
 unfold lx
 split
 ·exact fun _=>rfl
 ·exact fun h=>absurd rfl h
theorem CZ {m : le} {d : lR} (h : (lx m d).1 = 0) : (lx m d).2 = { m with top:=(lx m d).2.top,dk:=d }:=by
 revert h
 unfold lx
 split
 ·rename_i h; exact fun h2=>absurd h2 h
 ·exact fun _=>rfl
theorem ly.desk {N : Nat} {m : le} (h : ly N m) {t : DevM} (ht : t.Ok /\ t.writes <= (N + 1 : Nat) /\ t.pend.length <= N + 1 /\ 1 <= t.fl.length) : ly (N + 1) { m with top:=t }:=
 have h1:=h.mono (Nat.le_succ N)
 ⟨⟨h1.ok.sh,h1.ok.dv,ht,h.ok.walk,h.ok.root,h.ok.jok,h.ok.job⟩,h.str⟩
theorem ly.bare {N : Nat} {m : le} (h : ly N m) {t : DevM} (ht : t.Ok /\ t.writes <= (N + 1 : Nat) /\ t.pend.length <= N + 1 /\ 1 <= t.fl.length) {root : Int} (hr : lz m.F root) {l : List Int} (hw : lr m.F root = (l,0)) {oj : Option JobM} (ho : ∀j,oj = some j -> j.Ok /\ ¬j.st < 4) :
  ly (N + 1) { m with top:=t,dk:=lA root,job:=oj,list:=l }:=
 have h1:=h.mono (Nat.le_succ N)
 ⟨⟨h1.ok.sh,h1.ok.dv,ht,hw,hr,fun j hj=>(ho j hj).1,fun j hj h4=>absurd h4 (ho j hj).2⟩,fun j hj h4=>absurd h4 (ho j hj).2⟩
theorem CH (j : JobM) (b : Bool) : ¬(endM j b).st < 4:=by cases b <;> simp [endM]
theorem KX {N : Nat} {m : le} (h : ly N m) (hN : N < 900000) {j : JobM} (hj : m.job = some j) {root : Int} (hr : lz m.F root) (hw : (lr m.F root).2 = 0) (well : Bool) : ly (N + 1) (AN m j root well).2:=by
 have ht:=Ee h.ok hN (lA root)
 unfold AN
 by_cases hc : (lx m (lA root)).1≠0
 ·rw [zt hc,DW hc]
  exact h.desk ht
 ·rw [zq hc]
  have hc0 : (lx m (lA root)).1 = 0:=Decidable.not_not.1 hc
  have hy:=CZ hc0
  generalize (lx m (lA root)).2 = M at *
  rw [hy]
  exact h.bare ht hr (l:=(lr m.F root).1) (by rw [<- hw]) (oj:=some (endM j well)) (fun k hk=>by cases hk; exact ⟨Qu (h.ok.jok j hj) well,CH j well⟩)
theorem O3 {N : Nat} {m : le} (h : ly N m) (hN : N < 900000) : ly (N + 1) (zc m).2:=by
 unfold zc
 cases hj : m.job with
 | none=>exact h.mono (Nat.le_succ N)
 | some j=>
  dsimp only
  split
  ·exact h.mono (Nat.le_succ N)
  ·exact KX h hN hj h.ok.root (by rw [h.ok.walk]) false
theorem Cj {F : ShM} {j : JobM} (hk : j.kind≠2) : og F (ll F j).2.1 /\ (ll F j).2.2 = j:=by
 unfold ll
 split
 ·exact ⟨og.refl F,rfl⟩
 ·split
  ·exact ⟨og.refl F,rfl⟩
  ·exact ⟨Ah,rfl⟩
theorem PF {N : Nat} {m : le} (h : ly N m) (hN : N + 1 < 900000) : ly (N + 2) (zV m).2:=by
 unfold zV
 cases hj : m.job with
 | none=>exact h.mono (by omega)
 | some j=>
  dsimp only
  split
  ·exact h.mono (by omega)
  ·rename_i h4
   obtain ⟨hS,hl,hk,hf,hr⟩:=h.ok.job j hj (by omega)
   split
   ·exact h.mono (by omega)
   ·rename_i h2
    have hkj : j.kind≠2:=by rw [hk]; exact h2
    obtain ⟨hs,hjj⟩:=Cj (F:=m.F) hkj
    have hW:=AW h.ok.sh (by omega) (h.ok.jok j hj) hS
    have hg : ly (N + 1) { m with F:=(ll m.F j).2.1,job:=some (ll m.F j).2.2 }:=by
     have:=h.shelf (Nat.le_succ N) hs hW
     rw [hjj]
     rw [show ({ m with F:=(ll m.F j).2.1,job:=some j } : le) = { m with F:=(ll m.F j).2.1 } by rw [<- hj]]
     exact this
    split
    ·exact hg.mono (by omega)
    ·rename_i hc
     have hc0 : (ll m.F j).1 = 0:=Decidable.not_not.1 hc
     have hff:=hS.file hkj
     rw [hf] at hff
     have hwk:=(G9 (hS.file hkj) hkj hc0).2.2
     rw [hf] at hwk
     exact KX hg (by omega) rfl (hs.file.2 hff) hwk true
end Go.Proofs.YtbpblokfiajpjabGreatDoor
namespace Go.Proofs.YtbpblokfiajpjabGreatDoor
open Go.RowKit Go.SL Go.Crc
attribute [local go_sem ↓] Go.wp_at_zero Go.wp_at_succ
theorem Q2 (m : le) (f b : Int) : (lZ m f b).2.top = m.top:=by
 unfold lZ
 split
 ·rfl
 ·split
  ·rfl
  ·split <;> rfl
theorem Pp (m : le) (f b : Int) : (lZ m f b).2.list = m.list:=by
 unfold lZ
 split
 ·rfl
 ·split
  ·rfl
  ·split <;> rfl
theorem NU {m : le} {f b : Int} (h : (lZ m f b).1 = 0) : 0 <= f /\ f < 5:=by
 unfold lZ at h
 by_cases hb : f < 0 \/ 5 <= f
 ·rw [zt hb] at h; exact absurd h (by show ¬((1 : Int) = 0); decide)
 ·omega
theorem Pr (m : le) (f b : Int) : 0 <= (lZ m f b).1:=by
 unfold lZ
 split
 ·show (0 : Int) <= 1; decide
 ·split
  ·show (0 : Int) <= 5; decide
  ·split
   ·exact In _ _ _ _
   ·exact Int.le_refl 0
theorem PX (m : le) (d : lR) : (lx m d).2.list = m.list:=by unfold lx; split <;> rfl
theorem EY (m : le) (d : lR) : 0 <= (lx m d).1:=by
 unfold lx
 split
 ·exact o5 _ _ _
 ·exact Int.le_refl 0
theorem NQ (l : List Int) : ∀u∈lq l,u.oneCell' = true:=fun u hu=>by
 unfold lq at hu
 obtain ⟨x,-,rfl⟩:=List.mem_map.1 hu
 rfl
theorem Mm {w : World} {l : List Int} {ao : Option Addr} {cap : Nat} (h : lW w (.slice ao l.length cap) l) : ∀ad,ao = some ad -> ∀j u,(lq l)[j]? = some u -> w.cell? (ad.add j) = some u:=by
 intro ad had j u hu
 have hj : j < l.length:=by
  have:=(zS.1 hu).1
  simpa [lq] using this
 obtain ⟨ao',b,off,cap',hv,-,-,h4,h5⟩:=h.form
 simp only [Value.slice.injEq] at hv
 obtain ⟨rfl,-,-⟩:=hv
 have h6:=h4 (by omega)
 rw [had] at h6
 simp only [Option.some.injEq] at h6
 subst h6
 have h7:=h5 j hj
 have h8 : u = .int .i64 (l.getD j 0):=by
  unfold lq at hu
  rw [List.getElem?_map,List.getElem?_eq_getElem hj] at hu
  simp only [Option.map_some,Option.some.injEq] at hu
  rw [<- hu,List.getD_eq_getElem?_getD,List.getElem?_eq_getElem hj]
  rfl
 rw [h8,show (⟨b,off,none⟩ : Addr).add j = ⟨b,off + j,none⟩ by simp [Addr.add]]
 exact h7
theorem Vj (N : Nat) (Y : YA) (m : le) (hm : YOk N m) (hN : N < 900000) (file : Int) (R : List SL.HP) (w : World) (H : own w (yL Y m R)) :
  Calls Tryz.prog 110 #[.pointer (some ⟨Y.y,0,none⟩),.int .i64 file] w (zL Y (AC m file) R w):=by
 have HB:=zh (Bc Y m R w H)
 generalize hres : AC m file = res
 unfold AC at hres
 cases hb : Ae m with
 | true=>
  rw [zt hb] at hres
  subst hres
  rw [hb] at HB
  clear hb
  go_enter Tryz.func110,Tryz.ntmps110
  go_wp2_with fail
  refine HB.out.mono ?_
  rintro e w' ⟨rfl,rfl⟩
  go_wp2_with fail
  go_ret
  exact ⟨Y,rfl,rfl,zR _,H⟩
 | false=>
  rw [zq (by rw [hb]; decide)] at hres
  rw [hb] at HB
  obtain ⟨ao,lb,off,cap,hY,hlc,hcap,hao,-⟩:=(DQ H).form
  have cl:=BQ H
  rw [hY] at cl
  have hl5:=hm.list5
  by_cases h4 : m.list.length = 4
  ·rw [zt h4] at hres
   subst hres
   rw [h4] at cl
   clear hb h4
   go_enter Tryz.func110,Tryz.ntmps110
   go_wp2_with fail
   refine HB.out.mono ?_
   rintro e w' ⟨rfl,rfl⟩
   go_wp2_with fail
   go_ret
   exact ⟨Y,rfl,rfl,zR _,H⟩
  ·rw [zq h4] at hres
   have d4 : ((m.list.length : Int) == 4) = false:=by rw [zb]; omega
   have cr:=yM H
   have HBL:=zh (KL N Y m hm hN file m.dk.root R w H)
   have hcode:=Pr m file m.dk.root
   have htop:=Q2 m file m.dk.root
   have hlist:=Pp m file m.dk.root
   have hrg:=@NU m file m.dk.root
   have htw:=hm.tp.2.1
   have htp:=hm.tp.2.2.1
   have hto:=hm.tp.1
   generalize lZ m file m.dk.root = B at *
   obtain ⟨c,m1⟩:=B
   dsimp only at hcode htop hlist hrg hres
   have HRES:=zh hres
   have HRG:=zh hrg
   clear hb h4 hres hrg hm
   go_enter Tryz.func110,Tryz.ntmps110
   go_wp2_with fail
   refine HB.out.mono ?_
   rintro e w' ⟨rfl,rfl⟩
   go_wp2_with fail
   refine HBL.out.mono ?_
   rintro e w2 ⟨Y2,hy2,rfl,hx2,h2⟩
   dsimp only at h2
   clear cl cr d4
   by_cases hc : c = 0
   ·have hrg:=HRG.out hc
    subst hc
    rw [zq (by decide)] at HRES
    have HN:=zh (fun R' w' h=>Cx file R' w' h)
    have HW:=zh (fun w' h=>Bk Y2 m1 (by rw [htop]; exact hto) (by rw [htop]; omega) (by rw [htop]; omega) (lA file) (DU hrg.1 hrg.2) R w' h)
    rw [hy2] at HW
    have hwc:=EY m1 (lA file)
    have hwl:=PX m1 (lA file)
    generalize lx m1 (lA file) = W at *
    obtain ⟨wc,m2⟩:=W
    dsimp only at hwc hwl HW HRES
    dsimp only
    rw [lS]
    clear HRG hrg htw htp hto
    go_wp2_with fail
    refine (HN.out _ _ h2).mono ?_
    rintro e w3 ⟨rfl,hx3,h3⟩
    go_wp2_with fail
    refine (HW.out _ h3).mono ?_
    rintro e w4 ⟨rfl,hx4,h4⟩
    by_cases hwz : wc = 0
    ·subst hwz
     rw [zq (by decide)] at HRES
     rw [lS]
     have hll : m2.list = m.list:=hwl.trans hlist
     have hv:=DQ h4
     obtain ⟨ao2,lb2,off2,cap2,hY2,-,-,hao2,-⟩:=hv.form
     have ha:=lh h4 (.cells #[.int .i64 file] 3)
     have hxa:=(((hx2.trans hx3).trans hx4)).alloc (.cells #[.int .i64 file] 3)
     have hb : own _ (row 3 1 (.slice (some ⟨w4.heap.size,0,none⟩) 1 1) 1 [.int .i64 file]::yL Y2 m2 R):=zr (cap:=1) (n:=1) (sz:=1) 0 ha rfl (Nat.le_refl _) (by decide) rfl rfl
     have hvb:=DQ (oD hb)
     rw [hY2,hll] at hvb
     rw [hll] at hao2
     have cl:=BQ (oD hb)
     rw [hY2,hy2,hll] at cl
     have hm5 : 1 + m.list.length <= maxLen:=by simp only [maxLen]; omega
     have HNW:=zh (Mm hvb)
     have HAO2:=zh hao2
     clear hvb hao2 h2 h3 ha
     go_wp2_with (first | (at_builtin; refine lX rfl _ _ 95 rfl 0 3 Tryz.underlying95 F7 rfl (by decide) rfl hb rfl ao2 m.list.length cap2 (lq m.list) rfl (by simp [lq]) HNW.out (fun h=>by by_cases h0 : 0 < m.list.length; exact absurd (HAO2.out h0) (by rw [h]; simp); omega) (NQ _) hm5 (by omega) ?_))
     intro v' w5 h5 hx5
     have hlen : (file::m.list).length = 1 + m.list.length:=by rw [List.length_cons]; omega
     have h6 : own w5 (yL Y2 m2 (row 3 1 v' (file::m.list).length (lq (file::m.list))::R)):=by
      have:=oD h5
      rw [hlen]
      exact this
     obtain ⟨vo,vb,vof,vcap,rfl,-,-,-,-⟩:=(oz 15 h6 rfl).form
     clear cl
     have cl:=BQ h6
     have fl:=BO h6 12
     have h7:=FW h6
     rw [hy2] at cl fl
     have hx7:=(hxa.trans hx5).setCell (⟨Y.y,12,none⟩ : Addr) (.slice vo (file::m.list).length vcap)
     clear h5 h6 hb hlen
     go_wp2_with fail
     go_ret
     rw [<- HRES.out]
     exact ⟨{ Y2 with v:=.slice vo (file::m.list).length vcap },hy2,rfl,hx7,by rw [<- hy2]; exact h7⟩
    ·rw [zt hwz] at HRES
     rw [lv (e:=wc) (by omega)]
     go_wp2_with fail
     go_ret
     rw [<- HRES.out]
     exact ⟨Y2,hy2,by rw [lv (e:=wc) (by omega)]; rfl,(hx2.trans hx3).trans hx4,h4⟩
   ·rw [zt hc] at HRES
    dsimp only
    rw [lv (e:=c) (by omega)]
    go_wp2_with fail
    go_ret
    rw [<- HRES.out]
    exact ⟨Y2,hy2,by rw [lv (e:=c) (by omega)]; rfl,hx2,h2⟩
def yO (bs : Nat) (A : Nat -> Nat×Nat×Nat) (F : ShM) (res : Option JobM×Int) (R : List SL.HP) (w : World) (e : Ending) (w' : World) : Prop:=
 match res with
 | (none,f)=>e = .returned (.tuple #[.pointer none,errV f]) /\ Ext w w' /\ own w' (shL bs A F++R)
 | (some j,_)=>∃bj bt bb v,e = .returned (.tuple #[.pointer (some ⟨bj,0,none⟩),.nilIface]) /\ Ext w w' /\ own w' (shL bs A F++(jobL bs bj bt bb v j++(row 3 1 v j.list.length (lq j.list)::R)))
theorem yO.no {bs : Nat} {A : Nat -> Nat×Nat×Nat} {F : ShM} {f : Int} {R : List SL.HP} {w : World} {e : Ending} {w' : World} (h1 : e = .returned (.tuple #[.pointer none,errV f])) (h2 : Ext w w') (h3 : own w' (shL bs A F++R)) : yO bs A F (none,f) R w e w':=⟨h1,h2,h3⟩
theorem yO.yes {bs : Nat} {A : Nat -> Nat×Nat×Nat} {F : ShM} {j : JobM} {R : List SL.HP} {w : World} {e : Ending} {w' : World} (bj bt bb : Nat) (v : Value) (h1 : e = .returned (.tuple #[.pointer (some ⟨bj,0,none⟩),.nilIface])) (h2 : Ext w w') (h3 : own w' (shL bs A F++(jobL bs bj bt bb v j++(row 3 1 v j.list.length (lq j.list)::R)))) : yO bs A F (some j,0) R w e w':=⟨bj,bt,bb,v,h1,h2,h3⟩
theorem ES {F : ShM} {j : JobM} (h : (zK F j).Ok) (q : Nat) : ({ j with x:=ya F j q } : JobM).Ok:={ h with x:=Jv F j h.n q }
theorem EL {j : JobM} (h : j.st = 2) : An j = j:=by unfold An; rw [h]; rfl
theorem IB {bs : Nat} {A : Nat -> Nat×Nat×Nat} {F : ShM} {bj bt bb : Nat} {v : Value} {j : JobM} {q : Nat} {L : List SL.HP} {w : World} (H : own w ((shL bs A F++(jobL bs bj bt bb v { j with x:=ya F j q }++L)).set 7 (DP bt j.n (oY j.n (ya F j q) (q : Int) (oQ F { j with x:=ya F j q } (q : Int))).2))) :
  own w (shL bs A F++(jobL bs bj bt bb v { j with x:=ya F j (q + 1) }++L)):=H
theorem Xg (bs : Nat) (A : Nat -> Nat×Nat×Nat) (F : ShM) (hF : ShOk F) (root kind file rate burst : Int) (hl5 : (lr F root).1.length <= 5) (hz : ¬(lr F root).2≠0) (h0 : ¬(lr F root).1.length = 0) (ho : ¬BZ rate burst = false) (hk1 : kind = 1) (R : List SL.HP) (w : World) (H : own w (shL bs A F++R)) :
  Calls Tryz.prog 15 #[.pointer (some ⟨bs,0,none⟩),.agg #[.int .i64 root,.int .i64 kind,.int .i64 file,.int .i64 rate,.int .i64 burst]] w (yO bs A F (newM F root kind file rate burst) R w):=by
 have HK1:=zh hk1
 clear hk1
 have ha:=lh H (.cells #[.int .i64 root,.int .i64 kind,.int .i64 file,.int .i64 rate,.int .i64 burst] 24)
 have hxa:=(zR w).alloc (.cells #[.int .i64 root,.int .i64 kind,.int .i64 file,.int .i64 rate,.int .i64 burst] 24)
 have hb : own _ (shL bs A F++(_::R)):=lC (shL bs A F) ha
 have hwk:=fun R' w' h=>Cq bs A F hF root R' w' h
 have hfl:=zo F root
 have hwc : 0 <= (lr F root).2:=Ar
 have HWK:=zh hwk
 unfold BH at HWK
 generalize hres : newM F root kind file rate burst = res
 unfold newM at hres
 rw [zq hz] at hres
 have hz0 : (lr F root).2 = 0:=by omega
 rw [hz0,show errV 0 = .nilIface from rfl] at HWK
 rw [zq h0] at hres
 rw [zq ho] at hres
 have HRES:=zh hres
 clear hres
 have hroot:=If h0
 obtain ⟨k,m,hxk,hk,hFk⟩:=oF hroot
 have hcl:=zZ hF hroot
 have hcm : clus F root = m.c:=by rw [hxk]; exact Au hFk
 have HB:=zh (fun R' w' h=>Fi rate burst R' w' (by simpa using ho) h)
 have HH:=zh (fun R' w' h=>AT (b:=bs) (A:=A) hk hFk R' w' h)
 have HN:=zh (fun R' w' h=>Oo (clus F root).toNat (by omega) R' w' h)
 have hcn : (((clus F root).toNat : Nat) : Int) = m.c:=by omega
 simp only [hcn] at HN
 have HCN:=zh hcn
 clear hcn
 have HF:=zh hF
 have HFL:=zh hfl
 have i1 : (0 : Int) <= (k : Int):=by omega
 have i2 : (k : Int) < 5:=by omega
 subst hxk
 have hok : ∀deep,kind = 1 \/ kind = 2 \/ kind = 3 -> deep <= (lr F (k : Int)).1.length -> (zK F (jNew F k kind file rate burst (lr F (k : Int)).1 deep)).Ok:=fun deep hkk hd=>Fk hF hroot hl5 h0 (by simpa using ho) hkk hd
 have HOK:=zh hok
 clear hok
 generalize hL : (lr F (k : Int)).1 = l at *
 have l0 : ((l.length : Int) == 0) = false:=by rw [zb]; omega
 go_enter Tryz.func15,Tryz.ntmps15
 go_upto_region 1 with (fail)
 generalize w.heap.size = g at *
 generalize w.alloc (.cells #[.int .i64 (k : Int),.int .i64 kind,.int .i64 file,.int .i64 rate,.int .i64 burst] 24) = w1 at *
 have c0:=(ld 6 hb rfl).1 0
 go_wp2_with fail
 refine (HWK.out _ _ hb).mono ?_
 rintro e w2 ⟨v,rfl,hx2,h2⟩
 obtain ⟨ao,lb,off,cap,rfl,-,-,-,-⟩:=(oz 0 h2 rfl).form
 have d3:=(ld 7 h2 rfl).1 3
 have d4:=(ld 7 h2 rfl).1 4
 clear c0
 go_wp2_with fail
 refine (HB.out _ _ h2).mono ?_
 rintro e w3 ⟨rfl,hx3,h3⟩
 generalize w2.heap.size = bb at *
 have h3s:=lu [Ag bb rate burst burst,row 3 1 (.slice ao l.length cap) l.length (lq l)] (shL bs A F) h3
 clear d3 d4
 have d0:=(ld 8 h3s rfl).1 0
 have g1:=ou h3s hk
 rw [lU hFk] at g1
 go_upto_region 9 with (fail)
 go_still_tail 6,(by kernel_rfl)
 change wpList _ _ _ _ _ w3.drew
 go_wp2_with fail
 refine (HH.out _ _ (ln h3s)).mono ?_
 rintro e w4 ⟨rfl,hx4,h4⟩
 unfold ol
 have hf0:=Dm m.c m.p m.b
 clear d0 g1
 go_wp2_with fail
 refine (HN.out _ _ h4).mono ?_
 rintro e w5 ⟨bt,rfl,hx5,h5⟩
 have d1:=(ld 9 h5 rfl).1 1
 have d2:=(ld 9 h5 rfl).1 2
 go_upto_region 14 with (fail)
 have h6:=lh h5 (.cells #[.pointer (some ⟨bs,0,none⟩),.int .i64 kind,.int .i64 file,.slice ao l.length cap,.int .i64 0,.pointer (some ⟨bt,0,none⟩),.int .i64 0,.int .i64 2,.pointer (some ⟨bb,0,none⟩)] 137)
 have hx6:=(hx5.alloc (.cells #[.pointer (some ⟨bs,0,none⟩),.int .i64 kind,.int .i64 file,.slice ao l.length cap,.int .i64 0,.pointer (some ⟨bt,0,none⟩),.int .i64 0,.int .i64 2,.pointer (some ⟨bb,0,none⟩)] 137))
 generalize w5.heap.size = bj at *
 generalize w5.alloc (.cells #[.pointer (some ⟨bs,0,none⟩),.int .i64 kind,.int .i64 file,.slice ao l.length cap,.int .i64 0,.pointer (some ⟨bt,0,none⟩),.int .i64 0,.int .i64 2,.pointer (some ⟨bb,0,none⟩)] 137) = w6 at *
 clear d1 d2
 have d1:=(ld 10 h6 rfl).1 1
 have d2:=(ld 10 h6 rfl).1 2
 have f4:=(ld 0 h6 rfl).2 4
 have hrow:=oz 9 h6 rfl
 have HPL:=zh (LN _ l file hl5 w6 hrow)
 have hX:=(((hxa.trans hx2).trans hx3).drew.trans hx4).trans hx6
 have HX:=zh hX
 have H6:=zh h6
 have HBAD : ∀n,own (w6.drewN n) (shL bs A F++R):=fun n=>lI n (lg (lg (li 8 (li 9 (li 10 h6 rfl) rfl) rfl)))
 have hpr:=Fc l file
 have HP:=zh hL
 clear hL
 generalize zy l file = pl at *
 clear hrow hX hx2 hx3 hx4 hx5 hx6 hxa h2 h3 h3s h4 h5 hb ha H HWK HB HN HH hwk
 go_wp2_with fail
 refine HPL.out.mono ?_
 rintro e w7 ⟨rfl,rfl⟩
 have gs:=@ou bs A F _ w6 (lu [_,_] (shL bs A F) h6)
 have H7:=zh h6
 clear h6 hF hl5 h0 hz hz0 hwc HPL hcl hcm
 have hk1:=HK1.out
 clear HK1
 subst hk1
 have hres:=HRES.out
 rw [zt rfl] at hres
 by_cases hfi : IM F file = false
 ·rw [zt hfi] at hres
  subst hres
  have hnf : ¬lz F file:=fun h=>absurd (DI.2 h) (by rw [hfi]; decide)
  clear hfi HRES
  by_cases hf0 : file < 0
  ·have df : decide (file < 0) = true:=zg hf0
   go_upto_region 17 with (fail)
   go_quiet (fail)
   go_wp2_with fail
   go_ret2
   exact yO.no rfl (HX.out.drewN _) (HBAD _)
  ·have df : decide (file < 0) = false:=zf hf0
   by_cases hf5 : 5 <= file
   ·have dg : decide (5 <= file) = true:=zg hf5
    go_upto_region 17 with (fail)
    go_quiet (fail)
    go_wp2_with fail
    go_ret2
    exact yO.no rfl (HX.out.drewN _) (HBAD _)
   ·have dg : decide (5 <= file) = false:=zf hf5
    obtain ⟨q,rfl⟩ : ∃q : Nat,file = (q : Int):=⟨file.toNat,by omega⟩
    have q1 : (0 : Int) <= (q : Int):=by omega
    have q2 : (q : Int) < 5:=by omega
    have hFq : F q = none:=by
     cases e : F q with
     | none=>rfl
     | some x=>exact (hnf ⟨by omega,by omega,x,by rw [zn]; exact e⟩).elim
    have gq:=gs (k:=q) (by omega)
    rw [CV hFq] at gq
    clear gs hnf
    go_upto_region 17 with (fail)
    go_quiet (fail)
    go_wp2_with fail
    go_ret2
    exact yO.no rfl (HX.out.drewN _) (HBAD _)
 ·rw [zq hfi] at hres
  obtain ⟨hq0,hq5',m2,hFq'⟩:=(DI.1 (by simpa using hfi) : lz F file)
  obtain ⟨q,rfl⟩ : ∃q : Nat,file = (q : Int):=⟨file.toNat,by omega⟩
  have hq5 : q < 5:=by omega
  have hFq : F q = some m2:=by rw [zn] at hFq'; exact hFq'
  have df : decide ((q : Int) < 0) = false:=zf (by omega)
  have dg : decide (5 <= (q : Int)) = false:=zf (by omega)
  have q1 : (0 : Int) <= (q : Int):=by omega
  have q2 : (q : Int) < 5:=by omega
  have gq:=gs (k:=q) hq5
  rw [lU hFq] at gq
  have hbk : bkOf F (q : Int) = m2.b:=by unfold bkOf; rw [zn,hFq]
  have hcl2 : clus F (q : Int) = m2.c:=Au hFq
  have hclk : clus F (k : Int) = m.c:=Au hFk
  rw [hbk,hcl2,hclk] at hres
  have HH2:=zh (fun R' w' h=>AT (b:=bs) (A:=A) hq5 hFq R' w' h)
  have HRES2:=zh hres
  clear gs hfi hq0 hq5' hFq' hbk hcl2 hclk HRES hres
  go_upto_region 17 with (fail)
  go_quiet (fail)
  have h8 : own (w6.drewN nq) _:=lI nq H7.out
  have hx8:=zh (HX.out.drewN nq)
  have HB8:=zh (HBAD nq)
  have e1:=(ld 10 h8 rfl).1 2
  clear d1 d2 gq HBAD HX
  generalize w6.drewN nq = w8 at *
  have gq : w8.cell? ⟨bs,q,none⟩ = some (.pointer (some ⟨(A q).1,0,none⟩)):=by have:=ou (lu [_,_] (shL bs A F) h8) hq5; rw [lU hFq] at this; exact this
  by_cases hp0 : 0 <= pl
  ·rw [zt (.inl hp0)] at HRES2
   have dp : decide (0 <= pl) = true:=zg hp0
   clear hp0
   go_upto_region 19 with (fail)
   go_quiet (fail)
   go_wp2_with fail
   go_ret2
   rw [<- HRES2.out]
   exact yO.no rfl (hx8.out.drewN _) (lI _ HB8.out)
  ·have dp : decide (0 <= pl) = false:=zf hp0
   have HP0:=zh hp0
   clear hp0
   have hx9:=zh hx8.out.drew
   have h9:=lu [_,_] (shL bs A F) (ln h8)
   have hgq:=fun (w' : World) (L : List SL.HP) (h : own w' (shL bs A F++L))=>ou h hq5
   rw [lU hFq] at hgq
   have HGQ:=zh hgq
   clear hx8 HB8 e1 gq hgq
   have f2:=Lk m2.c m2.p m2.b
   have f0:=Dm m2.c m2.p m2.b
   unfold ol at HH2
   go_upto_region 19 with (fail)
   refine wp_region_held_drew (S:=(fun w'=>w'.cell? ⟨g,2,none⟩ = some (.int .i64 (q : Int)) /\ w'.cell? ⟨bs,q,none⟩ = some (.pointer (some ⟨(A q).1,0,none⟩)))) (by kernel_rfl) ⟨(ld 10 h9 rfl).1 2,HGQ.out _ _ h9⟩ (fun hHeld=>?_)
   refine tk 0 ?_
   refine tk 1 ?_
   refine tk 2 ?_
   refine tk 3 ?_
   refine tk 4 ?_
   refine tk 5 ?_
   refine tk 6 ?_
   refine tk 7 ?_
   refine tk 8 ?_
   try simp only [Act.put,tA,tB,tC,tD,tE,tF]
   refine rd 9 rfl fun K hK=>?_
   go_simp
   go_at_call 71
   refine (HH2.out _ _ h9).mono ?_
   rintro e wa ⟨rfl,hxa,ha⟩
   go_simp
   refine hK.out _ _ ⟨(ld 10 ha rfl).1 2,HGQ.out _ _ ha⟩ (fun _=>?_)
   clear hK K h9
   try simp only [Act.put,tA,tB,tC,tD,tE,tF]
   by_cases hbb : m2.b = -1
   ·have db : (m2.b != -1) = false:=by rw [hbb]; rfl
    have HBB:=zh hbb
    clear hbb
    refine tk 10 ?_
    refine tk 11 ?_
    refine tk 12 ?_
    refine tk 13 ?_
    refine tk 14 ?_
    refine tk 15 ?_
    refine tk 16 ?_
    refine tk 17 ?_
    refine tk 18 ?_
    refine tk 19 ?_
    try simp only [Act.put,tA,tB,tC,tD,tE,tF]
    refine tk 22 ?_
    try simp only [Act.put,tA,tB,tC,tD,tE,tF]
    refine rd 20 rfl fun K hK=>?_
    go_simp
    go_at_call 71
    refine (HH2.out _ _ ha).mono ?_
    rintro e wb ⟨rfl,hxb,hb⟩
    go_simp
    refine hK.out _ _ ⟨(ld 10 hb rfl).1 2,HGQ.out _ _ hb⟩ (fun _=>?_)
    clear hK K ha
    try simp only [Act.put,tA,tB,tC,tD,tE,tF]
    by_cases hcc : m2.c = m.c
    ·have HCC:=zh hcc
     rw [zq (by rintro (h | h | h); exact HP0.out h; exact h HBB.out; exact h HCC.out)] at HRES2
     have dc : (m2.c != m.c) = false:=by rw [hcc]; simp
     clear hcc
     refine tk 21 ?_
     try simp only [Act.put,tA,tB,tC,tD,tE,tF]
     refine tk 23 ?_
     refine tk 24 ?_
     try simp only [Act.put,tA,tB,tC,tD,tE,tF]
     refine wpAnyH_done (by kernel_rfl) ?_ _
     have f4:=(ld 6 hb rfl).2 4
     have c4:=(ld 6 hb rfl).1 4
     have h10:=lp (i:=4) (v:=.int .i64 (l.length : Nat)) 6 hb rfl
     have hxt:=((hx9.out.trans hxa).trans hxb).setCell (⟨bj,4,none⟩ : Addr) (.int .i64 (l.length : Nat))
     clear hb f0 f2
     go_wp2_with fail
     have hjok:=zh (HOK.out _ (by simp) (by omega) : (zK F (jNew F (k : Int) 1 (q : Int) rate burst l 0)).Ok)
     have hx12:=zh hxt
     have hv12 : ∀w' L,own w' (L++(row 3 1 (.slice ao l.length cap) l.length (lq l)::(pts g (.cells #[.int .i64 (k : Int),.int .i64 1,.int .i64 (q : Int),.int .i64 rate,.int .i64 burst] 24 (0,0))::R))) -> lW w' (.slice ao l.length cap) (jNew F (k : Int) 1 (q : Int) rate burst l 0).list:=fun w' L h=>oz 0 (lu L [row 3 1 (.slice ao l.length cap) l.length (lq l)] h) rfl
     have HV12:=zh hv12
     have hnn : ((jNew F (k : Int) 1 (q : Int) rate burst l 0).n : Int) = m.c:=HCN.out
     have HJ0 : Hid (({ (jNew F (k : Int) 1 (q : Int) rate burst l 0) with x:=ya F (jNew F (k : Int) 1 (q : Int) rate burst l 0) 0 } : JobM) = (jNew F (k : Int) 1 (q : Int) rate burst l 0)):=zh rfl
     clear hxt hv12
     go_loopw [154] (fun iv wr=>∃z : Nat,z <= (jNew F (k : Int) 1 (q : Int) rate burst l 0).n /\ iv = .int .i64 z /\ Ext w wr /\ own wr (shL bs A F++(jobL bs bj bt bb (.slice ao l.length cap) { (jNew F (k : Int) 1 (q : Int) rate burst l 0) with x:=ya F (jNew F (k : Int) 1 (q : Int) rate burst l 0) z }++(row 3 1 (.slice ao l.length cap) l.length (lq l)::(pts g (.cells #[.int .i64 (k : Int),.int .i64 1,.int .i64 (q : Int),.int .i64 rate,.int .i64 burst] 24 (0,0))::R))))) (fun iv _=>(jNew F (k : Int) 1 (q : Int) rate burst l 0).n - (intOf iv).toNat)
     case atStart=>exact ⟨0,Nat.zero_le _,rfl,hx12.out,by rw [HJ0.out]; exact h10⟩
     case round=>
      obtain ⟨z,hq,rfl,hxr,hown⟩:=hrel
      by_cases hlt : z < (jNew F (k : Int) 1 (q : Int) rate burst l 0).n
      ·have j1 : (0 : Int) <= (z : Int):=by omega
       have j2 : (z : Int) < m.c:=by omega
       have j3 : (z : Int) < 64:=by have:=hjok.out.n; have : (jNew F (k : Int) 1 (q : Int) rate burst l 0).n <= 64:=this; omega
       go_wp2_with fail
       refine (CM bs A F HF.out bj bt bb _ _ (ES hjok.out z) HFL.out (z : Int) _ wr HV12.out hown).mono ?_
       rintro e w12 ⟨rfl,nn,rfl⟩
       have hp:=Dq bt (jNew F (k : Int) 1 (q : Int) rate burst l 0).n _ hjok.out.n (ES hjok.out z).x (z : Int) (oQ F { (jNew F (k : Int) 1 (q : Int) rate burst l 0) with x:=ya F (jNew F (k : Int) 1 (q : Int) rate burst l 0) z } (z : Int)) 7 _ (lI nn hown) rfl
       have HPT:=zh hp
       clear hp
       generalize hwv : oQ F { (jNew F (k : Int) 1 (q : Int) rate burst l 0) with x:=ya F (jNew F (k : Int) 1 (q : Int) rate burst l 0) z } (z : Int) = wv at *
       go_wp2_with fail
       refine HPT.out.mono ?_
       rintro e w13 ⟨rfl,hx13,h13⟩
       go_wp2_with fail
       go_roundw
       case rel=>exact ⟨z + 1,by omega,by go_num,(hxr.drewN nn).trans hx13,IB (by rw [hwv]; exact h13)⟩
       case measure=>simp [intOf]; omega
      ·obtain rfl : z = (jNew F (k : Int) 1 (q : Int) rate burst l 0).n:=by omega
       have j2 : ¬(((jNew F (k : Int) 1 (q : Int) rate burst l 0).n : Int) < m.c):=by omega
       have dj : decide (((jNew F (k : Int) 1 (q : Int) rate burst l 0).n : Int) < m.c) = false:=zf j2
       go_wp2_with fail
       refine (BK bs bj bt bb _ _ hjok.out _ wr (lu (shL bs A F) (jobL bs bj bt bb (.slice ao l.length cap) (zK F (jNew F (k : Int) 1 (q : Int) rate burst l 0))) hown)).mono ?_
       rintro e w12 ⟨rfl,hx12',h12⟩
       rw [EL rfl] at h12
       go_wp2_with fail
       go_ret2
       rw [<- HRES2.out]
       exact yO.yes bj bt bb (.slice ao l.length cap) rfl (hxr.trans hx12') (li 10 (lu (jobL bs bj bt bb (.slice ao l.length cap) (zK F (jNew F (k : Int) 1 (q : Int) rate burst l 0))) (shL bs A F) h12) rfl)
    ·rw [zt (.inr (.inr hcc))] at HRES2
     have dc : (m2.c != m.c) = true:=bne_iff_ne.2 hcc
     refine tk 21 ?_
     try simp only [Act.put,tA,tB,tC,tD,tE,tF]
     refine tk 23 ?_
     refine tk 24 ?_
     try simp only [Act.put,tA,tB,tC,tD,tE,tF]
     refine wpAnyH_done (by kernel_rfl) ?_ _
     go_wp2_with fail
     go_ret2
     rw [<- HRES2.out]
     exact yO.no rfl ((hx9.out.trans hxa).trans hxb) (li 6 (li 7 (li 8 (li 9 (li 10 hb rfl) rfl) rfl) rfl) rfl)
   ·rw [zt (.inr (.inl hbb))] at HRES2
    have db : (m2.b != -1) = true:=bne_iff_ne.2 hbb
    refine tk 10 ?_
    refine tk 11 ?_
    refine tk 12 ?_
    refine tk 13 ?_
    try simp only [Act.put,tA,tB,tC,tD,tE,tF]
    refine sk 14 ?_
    refine sk 15 ?_
    refine sk 16 ?_
    refine sk 17 ?_
    refine sk 18 ?_
    refine sk 19 ?_
    refine sk 20 ?_
    refine sk 21 ?_
    refine sk 22 ?_
    refine sk 23 ?_
    try simp only [Act.put,tA,tB,tC,tD,tE,tF]
    refine tk 24 ?_
    try simp only [Act.put,tA,tB,tC,tD,tE,tF]
    refine wpAnyH_done (by kernel_rfl) ?_ _
    go_wp2_with fail
    go_ret2
    rw [<- HRES2.out]
    exact yO.no rfl (hx9.out.trans hxa) (li 6 (li 7 (li 8 (li 9 (li 10 ha rfl) rfl) rfl) rfl) rfl)
end Go.Proofs.YtbpblokfiajpjabGreatDoor
