/- Lemmas on which YardSays stands: the texts Yard2 Yard3 Yard4 Yard5 YardP1 Yard6 Yard7. No conditions. -/
import Derived.Test.YtbpblokfiajpjabGreatDoorPkb272511941
set_option linter.all false
set_option maxRecDepth 1000000
set_option maxHeartbeats 32000000
namespace Go.Proofs.YtbpblokfiajpjabGreatDoor
open Go.RowKit Go.SL Go.Crc
attribute [local go_sem ↓] Go.wp_at_zero Go.wp_at_succ
theorem IW {Y : YA} {m : lf} {R : List SL.HP} {w : World} (o : Obj) (H : own w (yL Y m R)) : own (w.alloc o) (yL Y m (pts w.heap.size o::R)):=by
 have h:=lr (shL Y.bs Y.A m.F++yT Y m) (R:=R) (by rw [zp]; exact li H o)
 rwa [zp] at h
theorem Bv {Y : YA} {m : lf} {P : SL.HP} {R : List SL.HP} {w : World} (H : own w (yL Y m (P::R))) : own w (yL Y m R):=lh 15 H rfl
theorem KG {Y : YA} {m : lf} {R : List SL.HP} {w : World} (H : own w (yL Y m R)) : own w (lm Y.tp m.top::(yL Y m R).eraseIdx 12):=lu 12 H rfl
theorem L8 {Y : YA} {m : lf} {R : List SL.HP} {w0 w : World} {d : DevM} (H0 : own w0 (yL Y m R)) (H : own w (lm Y.tp d::(yL Y m R).eraseIdx 12)) : own w (yL Y { m with top:=d } R):=oo H0 12 rfl H
theorem G9 {fn : Func} {t : Tmp} (h : fn.results = #[.cell t 24]) (tmps : Array Value) (w : World) (g : Nat) (r k f a b : Int) (hg : tmps.getD t undef = .pointer (some ⟨g,0,none⟩))
  (h0 : w.cell? ⟨g,0,none⟩ = some (.int .i64 r)) (h1 : w.cell? ⟨g,1,none⟩ = some (.int .i64 k)) (h2 : w.cell? ⟨g,2,none⟩ = some (.int .i64 f)) (h3 : w.cell? ⟨g,3,none⟩ = some (.int .i64 a)) (h4 : w.cell? ⟨g,4,none⟩ = some (.int .i64 b)) :
  (results fn tmps).run Tryz.prog w = .ok (.agg #[.int .i64 r,.int .i64 k,.int .i64 f,.int .i64 a,.int .i64 b]) w:=by
 rw [Eo h,hg]
 go_simp
theorem CN (r : Int) (R : List SL.HP) (w : World) (H : own w R) :
  Calls Tryz.prog 126 #[.int .i64 r] w fun e w'=>e = .returned (lz r).v /\ Ext w w' /\ own w' R:=by
 have ha:=li H (.cells #[.int .i64 0,.int .i64 0,.int .i64 0,.int .i64 0,.int .i64 0] 24)
 have hxa:=(zR w).alloc (.cells #[.int .i64 0,.int .i64 0,.int .i64 0,.int .i64 0,.int .i64 0] 24)
 go_enter Tryz.func126,Tryz.ntmps126
 go_upto_region 1 with (fail)
 generalize w.heap.size = g at *
 generalize w.alloc (.cells #[.int .i64 0,.int .i64 0,.int .i64 0,.int .i64 0,.int .i64 0] 24) = w1 at *
 obtain ⟨cg,fg⟩:=ld 0 ha rfl
 go_wp2_with fail
 have h5:=lg (i:=4) (v:=.int .i64 0) 0 (lg (i:=3) (v:=.int .i64 0) 0 (lg (i:=2) (v:=.int .i64 (-1)) 0 (lg (i:=1) (v:=.int .i64 0) 0 (lg (i:=0) (v:=.int .i64 r) 0 ha rfl) rfl) rfl) rfl) rfl
 obtain ⟨c3,-⟩:=ld 0 h5 rfl
 refine bodyPost_ret (G9 rfl _ _ g r 0 (-1) 0 0 rfl (c3 0) (c3 1) (c3 2) (c3 3) (c3 4)) rfl ?_
 exact ⟨rfl,((((hxa.setCell _ _).setCell _ _).setCell _ _).setCell _ _).setCell _ _,le h5⟩
theorem BB (Y : YA) (m : lf) (R : List SL.HP) (w : World) (H : own w (yL Y m R)) :
  Calls Tryz.prog 145 #[.pointer (some ⟨Y.y,0,none⟩)] w fun e w'=>e = .returned (.bool (y8 m)) /\ w = w':=by
 have cj:=Gr H
 unfold y8
 cases hj : m.job with
 | none=>
  rw [hj] at cj
  change w.cell? ⟨Y.y,13,none⟩ = some (.pointer none) at cj
  clear H hj
  generalize Y.y = y at *
  go_enter Tryz.func145,Tryz.ntmps145
  go_wp2_with fail
  go_ret
  exact ⟨rfl,rfl⟩
 | some j=>
  rw [hj] at cj
  change w.cell? ⟨Y.y,13,none⟩ = some (.pointer (some ⟨Y.bj,0,none⟩)) at cj
  have HG:=zh (IA Y.bs Y.bj Y.bt Y.bb Y.vj j _ w (lp (shL Y.bs Y.A m.F) (jobL Y.bs Y.bj Y.bt Y.bb Y.vj j) (BO hj H)))
  clear H hj
  generalize Y.y = y at *
  generalize Y.bj = bj at *
  go_enter Tryz.func145,Tryz.ntmps145
  go_wp2_with fail
  refine HG.out.mono ?_
  rintro e w' ⟨rfl,rfl⟩
  go_wp2_with fail
  go_ret
  exact ⟨by simp,rfl⟩
theorem TO (Y : YA) (m : lf) (hl : m.list.length <= 5) (file : Int) (R : List SL.HP) (w : World) (H : own w (yL Y m R)) :
  Calls Tryz.prog 248 #[.pointer (some ⟨Y.y,0,none⟩),.int .i64 file] w fun e w'=>e = .returned (.bool (Dk m file)) /\ w = w':=by
 have cl:=Cg H
 have cf:=CF H
 obtain ⟨ao,lb,off,cap,hY,hlc,hcap,hao,hat⟩:=(Ej H).form
 rw [hY] at cl
 have HB:=zh (BB Y m R w H)
 have HAO:=zh hao
 have HAT:=zh hat
 unfold Dk
 generalize y8 m = by_ at *
 generalize m.dk.file = df at *
 clear H hY hao hat
 generalize Y.y = y at *
 generalize m.list = l at *
 go_enter Tryz.func248,Tryz.ntmps248
 go_wp2_with fail
 go_loop [12] (fun i=>∃q : Nat,q <= l.length /\ i = .int .i64 q /\ (file∈l↔file∈l.drop q)) (fun i=>l.length - (intOf i).toNat)
 case atStart=>exact ⟨0,Nat.zero_le _,rfl,Iff.rfl⟩
 case round=>
  obtain ⟨q,hq,rfl,hgo⟩:=hrel
  by_cases hlt : q < l.length
  ·obtain rfl:=HAO.out (by omega)
   have c1:=HAT.out q hlt
   rw [zY 0 hlt,List.mem_cons] at hgo
   have j1 : (0 : Int) <= (q : Int):=by omega
   have j2 : (q : Int) < (l.length : Int):=by omega
   generalize l.getD q 0 = x at *
   by_cases hx : x = file
   ·have d0 : (x == file) = true:=by rw [hx]; simp
    replace hgo : file∈l:=hgo.2 (.inl hx.symm)
    have HGO:=zh hgo
    clear hgo hx
    go_wp2_with fail
    go_ret
    exact ⟨by first | (simp [HGO.out]; done) | (simp [HGO.out]; rfl),rfl⟩
   ·have d0 : (x == file) = false:=by rw [zb]; exact hx
    replace hgo : file∈l↔file∈l.drop (q + 1):=hgo.trans ⟨fun h=>h.resolve_left fun e=>hx e.symm,.inr⟩
    have HGO:=zh hgo
    clear hgo hx
    go_wp2_with fail
    go_round
    case rel=>exact ⟨q + 1,by omega,by go_num,HGO.out⟩
    case measure=>simp [intOf]; omega
  ·obtain rfl : l.length = q:=by omega
   rw [List.drop_of_length_le (Nat.le_refl _)] at hgo
   replace hgo : ¬file∈l:=fun h=>by cases hgo.1 h
   have HGO:=zh hgo
   clear hgo
   go_wp2_with fail
   refine HB.out.mono ?_
   rintro e w' ⟨rfl,rfl⟩
   cases by_
   ·go_wp2_with fail
    go_ret
    exact ⟨by first | (simp [HGO.out]; done) | (simp [HGO.out]; rfl),rfl⟩
   ·go_wp2_with fail
    go_ret
    exact ⟨by first | (simp [HGO.out]; done) | (simp [HGO.out]; rfl),rfl⟩
theorem BM (Y : YA) (m : lf) (ht : m.top.Ok) (hw : m.top.writes < 999000) (hp : m.top.pend.length < 999000) (d : lI) (hf : d.f = 0) (R : List SL.HP) (w : World) (H : own w (yL Y m R)) :
  Calls Tryz.prog 128 #[.pointer (some ⟨Y.y,0,none⟩),d.v] w fun e w'=>e = .returned (errV (lw m d).1) /\ Ext w w' /\ own w' (yL Y (lw m d).2 R):=by
 obtain ⟨r,k,f,a,b⟩:=d
 have hb:=IW (.cells #[.int .i64 r,.int .i64 k,.int .i64 f,.int .i64 a,.int .i64 b] 24) H
 have hxb:=(zR w).alloc (.cells #[.int .i64 r,.int .i64 k,.int .i64 f,.int .i64 a,.int .i64 b] 24)
 have HD:=zh (fun (R : List SL.HP) w' h=>NC r k f a b R w' h)
 have hf' : yg r k f a b = 0:=hf
 rw [hf'] at HD
 generalize hres : lw m ⟨r,k,f,a,b⟩ = res
 unfold lw at hres
 unfold lI.v o8
 have hs : (lI.mk r k f a b).s.size <= 9223372036854775807:=by
  show (Aq r k f a b).size <= _
  unfold Aq
  rw [Bi (by simp)]
  decide
 have HS : Hid (Aq r k f a b = (lI.mk r k f a b).s):=zh rfl
 rw [zt rfl,oa,HS.out] at HD
 generalize (lI.mk r k f a b).s = s at *
 have HW:=zh (fun (R : List SL.HP) w' h=>Ci Y.tp m.top ht 0 s hs (by omega) (by omega) R w' h)
 have hok:=DevM.write_ok ht 0 s (by omega) (by omega)
 have hcode : 0 <= (m.top.write 0 s).1:=ol _ _ _
 have HP : Hid (∀w0 w' R d,own w0 (yL Y m R) -> own w' (lm Y.tp d::(yL Y m R).eraseIdx 12) -> own w' (yL Y { m with top:=d } R)):=zh fun w0 w' R d h0 h=>L8 h0 h
 unfold o8 at HD
 generalize m.top.write 0 s = S at *
 obtain ⟨c,t⟩:=S
 dsimp only at hcode hok HW hres
 have HRES:=zh hres
 clear hres
 clear H hf hf' HS ht hw hp hs
 go_enter Tryz.func128,Tryz.ntmps128
 go_upto_region 1 with (fail)
 generalize w.heap.size = g at *
 generalize w.alloc (.cells #[.int .i64 r,.int .i64 k,.int .i64 f,.int .i64 a,.int .i64 b] 24) = w1 at *
 have cd:=(ld 15 hb rfl).1
 have d0:=cd 0
 have d1:=cd 1
 have d2:=cd 2
 have d3:=cd 3
 have d4:=cd 4
 clear cd
 go_wp2_with fail
 refine (HD.out _ w1 hb).mono ?_
 rintro e w2 ⟨rfl,hx2,h2⟩
 have ct:=y_tp h2
 clear d0 d1 d2 d3 d4
 go_wp2_with fail
 refine (HW.out _ w2 (KG h2)).mono ?_
 rintro e w3 ⟨rfl,hx3,h3⟩
 have h4:=HP.out _ _ _ t h2 h3
 by_cases hc : c = 0
 ·subst hc
  rw [zq (by decide)] at HRES
  rw [oa]
  have ct:=y_tp h4
  go_wp2_with fail
  refine (CT Y.tp t hok _ w3 (KG h4)).mono ?_
  rintro e w4 ⟨rfl,hx4,h5⟩
  have h6 : own w4 (yL Y { m with top:=t.flush } (pts g (.cells #[.int .i64 r,.int .i64 k,.int .i64 f,.int .i64 a,.int .i64 b] 24 (0,0))::R)):=oo h4 12 rfl h5
  have cd:=(ld 15 h6 rfl).1
  have d0:=cd 0
  have d1:=cd 1
  have d2:=cd 2
  have d3:=cd 3
  have d4:=cd 4
  have fy:=Cd h6
  have e7:=yS h6
  have e8:=Cw h6
  have e9:=CF h6
  have e10:=Fd h6
  have e11:=DJ h6
  clear ct cd
  have h7:=lg (i:=11) (v:=.int .i64 b) 6 (lg (i:=10) (v:=.int .i64 a) 6 (lg (i:=9) (v:=.int .i64 f) 6 (lg (i:=8) (v:=.int .i64 k) 6 (lg (i:=7) (v:=.int .i64 r) 6 h6 rfl) rfl) rfl) rfl) rfl
  have h8 : own _ (yL Y { m with top:=t.flush,dk:=⟨r,k,f,a,b⟩ } (pts g (.cells #[.int .i64 r,.int .i64 k,.int .i64 f,.int .i64 a,.int .i64 b] 24 (0,0))::R)):=h7
  clear h7 h6 h5 h4 h3
  go_wp2_with fail
  go_ret
  rw [<- HRES.out]
  exact ⟨rfl,((((((((hxb.trans hx2).trans hx3).trans hx4).setCell _ _).setCell _ _).setCell _ _).setCell _ _).setCell _ _),Bv h8⟩
 ·rw [zt hc] at HRES
  rw [lx (e:=c) (by omega)]
  go_wp2_with fail
  go_ret
  rw [<- HRES.out]
  exact ⟨by rw [lx (e:=c) (by omega)]; rfl,(hxb.trans hx2).trans hx3,Bv h4⟩
theorem Dy {w : World} {l : List SL.HP} (k : Nat) {P : SL.HP} (H : own w l) (hk : l[k]? = some P) : own w (P::l.set k emp):=by
 refine zc (fun h hh=>?_) (lu k H hk)
 have h2 : star ([P]++l.eraseIdx k) h:=hh
 refine Ac (fun _ x=>x) (fun h3 h4=>?_) hh
 have hlt : k < l.length:=by
  rcases Nat.lt_or_ge k l.length with h | h
  ·exact h
  ·rw [List.getElem?_eq_none h] at hk; cases hk
 refine BV k (P:=emp) (by rw [List.getElem?_set_self hlt]) ?_
 rw [List.eraseIdx_set_eq]
 exact KI h4
theorem oK {w : World} {l : List SL.HP} (k : Nat) {P : SL.HP} (H : own w (P::l)) (hk : l[k]? = some emp) : own w (l.set k P):=by
 refine zc (fun h hh=>?_) H
 have hlt : k < l.length:=by
  rcases Nat.lt_or_ge k l.length with h | h
  ·exact h
  ·rw [List.getElem?_eq_none h] at hk; cases hk
 refine BV k (P:=P) (by rw [List.getElem?_set_self hlt]) ?_
 rw [List.eraseIdx_set_eq]
 exact Ac (fun _ x=>x) (fun h3 h4=>LX (Eg k hk h4)) hh
def stA (A : Nat -> Nat×Nat×Nat) (k : Nat) (a : Nat×Nat×Nat) : Nat -> Nat×Nat×Nat:=fun j=>if j = k then a else A j
def y7 (A : Nat -> Nat×Nat) (k : Nat) (a : Nat×Nat) : Nat -> Nat×Nat:=fun j=>if j = k then a else A j
theorem Kf (Y : YA) (m : lf) (R : List SL.HP) {k : Nat} (hk : k < 5) : (yL Y m R)[1 + k]? = some (oJ Y.A m.F k):=Lb hk
theorem Nw (Y : YA) (m : lf) (R : List SL.HP) {k : Nat} (hk : k < 5) : (yL Y m R)[7 + k]? = some (oM Y.A m.F m.D k):=by
 match k,hk with
 | 0,_=>rfl
 | 1,_=>rfl
 | 2,_=>rfl
 | 3,_=>rfl
 | 4,_=>rfl
theorem DP {Y : YA} {m : lf} {R : List SL.HP} {w : World} {k : Nat} (hk : k < 5) (h : m.F k = none) (H : own w (yL Y m R)) : own w (lm (Y.A k).2.1 (m.D k)::(yL Y m R).set (7 + k) emp):=by
 have h1:=Dy (7 + k) H (Nw Y m R hk)
 have hp : oM Y.A m.F m.D k = lm (Y.A k).2.1 (m.D k):=by unfold oM; rw [h]
 rwa [hp] at h1
theorem P8 (Y : YA) (m : lf) (R : List SL.HP) {k : Nat} (hk : k < 5) (h : m.F k = none) (d : DevM) : ((yL Y m R).set (7 + k) emp).set (7 + k) (lm (Y.A k).2.1 d) = yL Y { m with D:=setD m.D k d } R:=by
 have hs : ∀j,j≠k -> oM Y.A m.F (setD m.D k d) j = oM Y.A m.F m.D j:=fun j hj=>by unfold oM setD; rw [zq hj]
 have hk' : oM Y.A m.F (setD m.D k d) k = lm (Y.A k).2.1 d:=by unfold oM setD; rw [h,zt rfl]
 rw [List.set_set]
 match k,hk with
 | 0,_=>show _ = shL _ _ _++(yT _ _++R); unfold yT; dsimp only; rw [hk',hs 1 (by decide),hs 2 (by decide),hs 3 (by decide),hs 4 (by decide)]; rfl
 | 1,_=>show _ = shL _ _ _++(yT _ _++R); unfold yT; dsimp only; rw [hk',hs 0 (by decide),hs 2 (by decide),hs 3 (by decide),hs 4 (by decide)]; rfl
 | 2,_=>show _ = shL _ _ _++(yT _ _++R); unfold yT; dsimp only; rw [hk',hs 0 (by decide),hs 1 (by decide),hs 3 (by decide),hs 4 (by decide)]; rfl
 | 3,_=>show _ = shL _ _ _++(yT _ _++R); unfold yT; dsimp only; rw [hk',hs 0 (by decide),hs 1 (by decide),hs 2 (by decide),hs 4 (by decide)]; rfl
 | 4,_=>show _ = shL _ _ _++(yT _ _++R); unfold yT; dsimp only; rw [hk',hs 0 (by decide),hs 1 (by decide),hs 2 (by decide),hs 3 (by decide)]; rfl
theorem GL {Y : YA} {m : lf} {R : List SL.HP} {w : World} {k : Nat} (hk : k < 5) (h : m.F k = none) {d : DevM} (H : own w (lm (Y.A k).2.1 d::(yL Y m R).set (7 + k) emp)) : own w (yL Y { m with D:=setD m.D k d } R):=by
 have hlt : 7 + k < (yL Y m R).length:=by
  show _ < (shL _ _ _++(yT _ _++R)).length
  unfold yT shL
  simp
  omega
 have h1:=oK (7 + k) H (by rw [List.getElem?_set_self hlt])
 rwa [P8 Y m R hk h] at h1
theorem Ks {Y : YA} {m : lf} {R : List SL.HP} {w : World} {k : Nat} (hk : k < 5) (H : own w (yL Y m R)) : own w (lm (Y.A k).2.1 (devOf m k)::((yL Y m R).set (1 + k) emp).set (7 + k) emp):=by
 cases h : m.F k with
 | none=>
  have h1:=DP hk h H
  have hd : devOf m k = m.D k:=by unfold devOf; rw [h]
  have hs : (yL Y m R).set (1 + k) emp = yL Y m R:=by
   have hp : (yL Y m R)[1 + k]? = some emp:=by rw [Kf Y m R hk]; unfold oJ; rw [h]
   obtain ⟨hlt,he⟩:=zS.1 hp
   have:=List.set_getElem_self hlt
   rwa [he] at this
  rw [hd,hs]
  exact h1
 | some i=>
  have h1:=Dy (1 + k) H (Kf Y m R hk)
  have hp : oJ Y.A m.F k = star [lP (Y.A k).1 (Y.A k).2.1 (Y.A k).2.2 i,lm (Y.A k).2.1 i.d]:=by unfold oJ; rw [h]
  have hd : devOf m k = i.d:=by unfold devOf; rw [h]
  rw [hp] at h1
  have h2:=le (DF h1)
  have hs : ((yL Y m R).set (1 + k) emp).set (7 + k) emp = (yL Y m R).set (1 + k) emp:=by
   have hp : ((yL Y m R).set (1 + k) emp)[7 + k]? = some emp:=by rw [List.getElem?_set_ne (by omega),Nw Y m R hk]; unfold oM; rw [h]
   obtain ⟨hlt,he⟩:=zS.1 hp
   have:=List.set_getElem_self hlt
   rwa [he] at this
  rw [hd,hs]
  exact h2
theorem yd {A : Nat -> Nat×Nat×Nat} {F : ShM} {k j : Nat} (h : j≠k) : yB A (cut F k) j = yB A F j:=by unfold yB cut; rw [zq h]
theorem yf {A : Nat -> Nat×Nat×Nat} {F : ShM} {k j : Nat} (h : j≠k) : oJ A (cut F k) j = oJ A F j:=by unfold oJ cut; rw [zq h]
theorem yb {A : Nat -> Nat×Nat×Nat} {F : ShM} {D : Nat -> DevM} {d : DevM} {k j : Nat} (h : j≠k) : oM A (cut F k) (setD D k d) j = oM A F D j:=by unfold oM cut setD; rw [zq h,zq h]
theorem C8 {A : Nat -> Nat×Nat×Nat} {F : ShM} {k : Nat} : oJ A (cut F k) k = emp:=by unfold oJ cut; rw [zt rfl]
theorem C9 {A : Nat -> Nat×Nat×Nat} {F : ShM} {k : Nat} : yB A (cut F k) k = .pointer none:=by unfold yB cut; rw [zt rfl]
theorem Dd {A : Nat -> Nat×Nat×Nat} {F : ShM} {D : Nat -> DevM} {d : DevM} {k : Nat} : oM A (cut F k) (setD D k d) k = lm (A k).2.1 d:=by unfold oM cut setD; rw [zt rfl,zt rfl]
theorem Qp (Y : YA) (m : lf) (R : List SL.HP) {k : Nat} (hk : k < 5) (d : DevM) :
  ((((yL Y m R).set (1 + k) emp).set (7 + k) emp).set 0 (pts Y.bs (.cells ((yj Y.A m.F).setIfInBounds k (.pointer none)) 111 (0,0)))).set (7 + k) (lm (Y.A k).2.1 d) = yL Y { m with F:=cut m.F k,D:=setD m.D k d } R:=by
 match k,hk with
 | 0,_=>show _ = shL _ _ _++(yT _ _++R); unfold yT shL yj; dsimp only; rw [C8,C9,Dd,yf (j:=1) (by decide),yf (j:=2) (by decide),yf (j:=3) (by decide),yf (j:=4) (by decide),yd (j:=1) (by decide),yd (j:=2) (by decide),yd (j:=3) (by decide),yd (j:=4) (by decide),yb (j:=1) (by decide),yb (j:=2) (by decide),yb (j:=3) (by decide),yb (j:=4) (by decide)]; rfl
 | 1,_=>show _ = shL _ _ _++(yT _ _++R); unfold yT shL yj; dsimp only; rw [C8,C9,Dd,yf (j:=0) (by decide),yf (j:=2) (by decide),yf (j:=3) (by decide),yf (j:=4) (by decide),yd (j:=0) (by decide),yd (j:=2) (by decide),yd (j:=3) (by decide),yd (j:=4) (by decide),yb (j:=0) (by decide),yb (j:=2) (by decide),yb (j:=3) (by decide),yb (j:=4) (by decide)]; rfl
 | 2,_=>show _ = shL _ _ _++(yT _ _++R); unfold yT shL yj; dsimp only; rw [C8,C9,Dd,yf (j:=1) (by decide),yf (j:=0) (by decide),yf (j:=3) (by decide),yf (j:=4) (by decide),yd (j:=1) (by decide),yd (j:=0) (by decide),yd (j:=3) (by decide),yd (j:=4) (by decide),yb (j:=1) (by decide),yb (j:=0) (by decide),yb (j:=3) (by decide),yb (j:=4) (by decide)]; rfl
 | 3,_=>show _ = shL _ _ _++(yT _ _++R); unfold yT shL yj; dsimp only; rw [C8,C9,Dd,yf (j:=1) (by decide),yf (j:=2) (by decide),yf (j:=0) (by decide),yf (j:=4) (by decide),yd (j:=1) (by decide),yd (j:=2) (by decide),yd (j:=0) (by decide),yd (j:=4) (by decide),yb (j:=1) (by decide),yb (j:=2) (by decide),yb (j:=0) (by decide),yb (j:=4) (by decide)]; rfl
 | 4,_=>show _ = shL _ _ _++(yT _ _++R); unfold yT shL yj; dsimp only; rw [C8,C9,Dd,yf (j:=1) (by decide),yf (j:=2) (by decide),yf (j:=3) (by decide),yf (j:=0) (by decide),yd (j:=1) (by decide),yd (j:=2) (by decide),yd (j:=3) (by decide),yd (j:=0) (by decide),yb (j:=1) (by decide),yb (j:=2) (by decide),yb (j:=3) (by decide),yb (j:=0) (by decide)]; rfl
theorem Xh {Y : YA} {m : lf} {R : List SL.HP} {w : World} {k : Nat} (hk : k < 5) (H : own w (yL Y m R)) : own (w.setCell ⟨Y.bs,k,none⟩ (.pointer none)) (yL Y { m with F:=cut m.F k,D:=setD m.D k (devOf m k) } R):=by
 have h1:=Ks hk H
 have h0 : (((yL Y m R).set (1 + k) emp).set (7 + k) emp)[0]? = some (pts Y.bs (.cells (yj Y.A m.F) 111 (0,0))):=by
  rw [List.getElem?_set_ne (by omega),List.getElem?_set_ne (by omega)]; rfl
 have h2:=lg (i:=k) (v:=.pointer none) 1 h1 (by rw [List.getElem?_cons_succ]; exact h0)
 rw [List.set_cons_succ] at h2
 have hlt : 7 + k < (yL Y m R).length:=by
  show _ < (shL _ _ _++(yT _ _++R)).length
  unfold yT shL
  simp
  omega
 have h3:=oK (7 + k) h2 (by rw [List.getElem?_set_ne (by omega),List.getElem?_set_self (by simpa using hlt)])
 rwa [Qp Y m R hk] at h3
theorem oS {A : Nat -> Nat×Nat×Nat} {F : ShM} {k j : Nat} {i : ImgM} {a : Nat×Nat×Nat} (h : j≠k) : yB (stA A k a) (put F k i) j = yB A F j:=by unfold yB put stA; rw [zq h,zq h]
theorem oR {A : Nat -> Nat×Nat×Nat} {F : ShM} {k j : Nat} {i : ImgM} {a : Nat×Nat×Nat} (h : j≠k) : oJ (stA A k a) (put F k i) j = oJ A F j:=by unfold oJ put stA; rw [zq h,zq h]
theorem oQ {A : Nat -> Nat×Nat×Nat} {F : ShM} {D : Nat -> DevM} {k j : Nat} {i : ImgM} {a : Nat×Nat×Nat} (h : j≠k) : oM (stA A k a) (put F k i) D j = oM A F D j:=by unfold oM put stA; rw [zq h,zq h]
theorem Cy {A : Nat -> Nat×Nat×Nat} {F : ShM} {k : Nat} {i : ImgM} {a : Nat×Nat×Nat} : yB (stA A k a) (put F k i) k = .pointer (some ⟨a.1,0,none⟩):=by unfold yB put stA; rw [zt rfl,zt rfl]
theorem CG {A : Nat -> Nat×Nat×Nat} {F : ShM} {k : Nat} {i : ImgM} {a : Nat×Nat×Nat} : oJ (stA A k a) (put F k i) k = star [lP a.1 a.2.1 a.2.2 i,lm a.2.1 i.d]:=by unfold oJ put stA; rw [zt rfl,zt rfl]
theorem CC {A : Nat -> Nat×Nat×Nat} {F : ShM} {D : Nat -> DevM} {k : Nat} {i : ImgM} {a : Nat×Nat×Nat} : oM (stA A k a) (put F k i) D k = emp:=by unfold oM put; rw [zt rfl]
def YA.stA (Y : YA) (k bi bh : Nat) : YA:={ Y with A:=Go.Proofs.YtbpblokfiajpjabGreatDoor.stA Y.A k (bi,(Y.A k).2.1,bh) }
theorem FX (Y : YA) (k bi bh : Nat) (m : lf) : yC (Y.stA k bi bh) m = yC Y m:=by
 have h : ∀j,((Y.stA k bi bh).A j).2.1 = (Y.A j).2.1:=fun j=>by
  show (Go.Proofs.YtbpblokfiajpjabGreatDoor.stA Y.A k (bi,(Y.A k).2.1,bh) j).2.1 = _
  unfold Go.Proofs.YtbpblokfiajpjabGreatDoor.stA
  by_cases e : j = k
  ·rw [zt e,e]
  ·rw [zq e]
 unfold yC
 rw [h,h,h,h,h]
 rfl
theorem QF (Y : YA) (m : lf) (R : List SL.HP) {k : Nat} (hk : k < 5) (i : ImgM) (bi bh : Nat) :
  (((yL Y m R).set (7 + k) emp).set 0 (pts Y.bs (.cells ((yj Y.A m.F).setIfInBounds k (.pointer (some ⟨bi,0,none⟩))) 111 (0,0)))).set (1 + k) (star [lP bi (Y.A k).2.1 bh i,lm (Y.A k).2.1 i.d]) = yL (Y.stA k bi bh) { m with F:=put m.F k i } R:=by
 have hA : (Y.stA k bi bh).A = stA Y.A k (bi,(Y.A k).2.1,bh):=rfl
 match k,hk with
 | 0,_=>show _ = shL _ _ _++(yT _ _++R); unfold yT shL yj; dsimp only; rw [FX,hA,CG,Cy,CC,oR (j:=1) (by decide),oR (j:=2) (by decide),oR (j:=3) (by decide),oR (j:=4) (by decide),oS (j:=1) (by decide),oS (j:=2) (by decide),oS (j:=3) (by decide),oS (j:=4) (by decide),oQ (j:=1) (by decide),oQ (j:=2) (by decide),oQ (j:=3) (by decide),oQ (j:=4) (by decide)]; rfl
 | 1,_=>show _ = shL _ _ _++(yT _ _++R); unfold yT shL yj; dsimp only; rw [FX,hA,CG,Cy,CC,oR (j:=0) (by decide),oR (j:=2) (by decide),oR (j:=3) (by decide),oR (j:=4) (by decide),oS (j:=0) (by decide),oS (j:=2) (by decide),oS (j:=3) (by decide),oS (j:=4) (by decide),oQ (j:=0) (by decide),oQ (j:=2) (by decide),oQ (j:=3) (by decide),oQ (j:=4) (by decide)]; rfl
 | 2,_=>show _ = shL _ _ _++(yT _ _++R); unfold yT shL yj; dsimp only; rw [FX,hA,CG,Cy,CC,oR (j:=1) (by decide),oR (j:=0) (by decide),oR (j:=3) (by decide),oR (j:=4) (by decide),oS (j:=1) (by decide),oS (j:=0) (by decide),oS (j:=3) (by decide),oS (j:=4) (by decide),oQ (j:=1) (by decide),oQ (j:=0) (by decide),oQ (j:=3) (by decide),oQ (j:=4) (by decide)]; rfl
 | 3,_=>show _ = shL _ _ _++(yT _ _++R); unfold yT shL yj; dsimp only; rw [FX,hA,CG,Cy,CC,oR (j:=1) (by decide),oR (j:=2) (by decide),oR (j:=0) (by decide),oR (j:=4) (by decide),oS (j:=1) (by decide),oS (j:=2) (by decide),oS (j:=0) (by decide),oS (j:=4) (by decide),oQ (j:=1) (by decide),oQ (j:=2) (by decide),oQ (j:=0) (by decide),oQ (j:=4) (by decide)]; rfl
 | 4,_=>show _ = shL _ _ _++(yT _ _++R); unfold yT shL yj; dsimp only; rw [FX,hA,CG,Cy,CC,oR (j:=1) (by decide),oR (j:=2) (by decide),oR (j:=3) (by decide),oR (j:=0) (by decide),oS (j:=1) (by decide),oS (j:=2) (by decide),oS (j:=3) (by decide),oS (j:=0) (by decide),oQ (j:=1) (by decide),oQ (j:=2) (by decide),oQ (j:=3) (by decide),oQ (j:=0) (by decide)]; rfl
theorem LJ {Y : YA} {m : lf} {R : List SL.HP} {w : World} {k : Nat} (hk : k < 5) (hF : m.F k = none) {i : ImgM} {bi bh : Nat} (H : own w (lP bi (Y.A k).2.1 bh i::lm (Y.A k).2.1 i.d::(yL Y m R).set (7 + k) emp)) :
  own (w.setCell ⟨Y.bs,k,none⟩ (.pointer (some ⟨bi,0,none⟩))) (yL (Y.stA k bi bh) { m with F:=put m.F k i } R):=by
 have h1 : own w (star [lP bi (Y.A k).2.1 bh i,lm (Y.A k).2.1 i.d]::(yL Y m R).set (7 + k) emp):=yK [lP bi (Y.A k).2.1 bh i,lm (Y.A k).2.1 i.d] H
 have h0 : ((yL Y m R).set (7 + k) emp)[0]? = some (pts Y.bs (.cells (yj Y.A m.F) 111 (0,0))):=by
  rw [List.getElem?_set_ne (by omega)]; rfl
 have h2:=lg (i:=k) (v:=.pointer (some ⟨bi,0,none⟩)) 1 h1 (by rw [List.getElem?_cons_succ]; exact h0)
 rw [List.set_cons_succ] at h2
 have hs : (yL Y m R)[1 + k]? = some emp:=by rw [Kf Y m R hk]; unfold oJ; rw [hF]
 have h3:=oK (1 + k) h2 (by rw [List.getElem?_set_ne (by omega),List.getElem?_set_ne (by omega)]; exact hs)
 rwa [QF Y m R hk] at h3
theorem V4 (F : ShM) (k : Nat) (i : ImgM) : put (cut F k) k i = put F k i:=by
 funext j
 unfold put cut
 by_cases h : j = k
 ·rw [zt h,zt h]
 ·rw [zq h,zq h,zq h]
theorem Up (D : Nat -> DevM) (k : Nat) (d d' : DevM) : setD (setD D k d) k d' = setD D k d':=by
 funext j
 unfold setD
 by_cases h : j = k
 ·rw [zt h,zt h]
 ·rw [zq h,zq h,zq h]
theorem D2 (A : Nat -> Nat×Nat×Nat) (F : ShM) (D : Nat -> DevM) (k : Nat) (i : ImgM) (d : DevM) (j : Nat) : oM A (put F k i) (setD D k d) j = oM A (put F k i) D j:=by
 unfold oM put setD
 by_cases h : j = k
 ·rw [zt h]
 ·rw [zq h,zq h]
theorem Uz (Y : YA) (m : lf) (R : List SL.HP) (k : Nat) (i : ImgM) (d : DevM) : yL Y { m with F:=put (cut m.F k) k i,D:=setD m.D k d } R = yL Y { m with F:=put m.F k i } R:=by
 show shL _ _ _++(yT _ _++R) = shL _ _ _++(yT _ _++R)
 unfold yT
 dsimp only
 rw [V4,D2,D2,D2,D2,D2]
 rfl
def zH (Y : YA) (S : Int×lf) (R : List SL.HP) (w : World) (e : Ending) (w' : World) : Prop:=
 ∃Y' : YA,Y'.y = Y.y /\ e = .returned (errV S.1) /\ Ext w w' /\ own w' (yL Y' S.2 R)
theorem L7 {b : Nat} {A : Nat -> Nat×Nat×Nat} {F : ShM} {R : List SL.HP} {w : World} (H : own w (shL b A F++R)) (i : Nat) : w.frozen? ⟨b,i,none⟩ = false:=(ld 0 H rfl).2 i
theorem YOk.list5 {N : Nat} {m : lf} (h : YOk N m) : m.list.length <= 5:=by
 have:=KB (F:=m.F) (root:=m.dk.root) (n:=6) (l:=[]) (at_:=m.dk.root) (by simp)
 have hw : oW m.F m.dk.root 6 [] m.dk.root = (m.list,0):=h.walk
 rwa [hw] at this
theorem YOk.devOf {N : Nat} {m : lf} (h : YOk N m) {k : Nat} (hk : k < 5) : (devOf m k).Ok /\ (devOf m k).writes <= N /\ (devOf m k).pend.length <= N:=by
 unfold Go.Proofs.YtbpblokfiajpjabGreatDoor.devOf
 cases e : m.F k with
 | none=>exact h.dv k hk e
 | some i=>exact ⟨(h.sh.ok k i hk e).d,h.sh.wr k i hk e,h.sh.pend k i hk e⟩
theorem T1 (Y : YA) (m : lf) {k : Nat} (hk : k < 5) : (yC Y m)[k]? = some (.pointer (some ⟨(Y.A k).2.1,0,none⟩)):=by
 match k,hk with
 | 0,_=>rfl
 | 1,_=>rfl
 | 2,_=>rfl
 | 3,_=>rfl
 | 4,_=>rfl
theorem Kl (N : Nat) (Y : YA) (m : lf) (hm : YOk N m) (hN : N < 900000) (file back : Int) (R : List SL.HP) (w : World) (H : own w (yL Y m R)) :
  Calls Tryz.prog 208 #[.pointer (some ⟨Y.y,0,none⟩),.int .i64 file,.int .i64 back] w (zH Y (oB m file back) R w):=by
 have HU:=zh (TO Y m hm.list5 file R w H)
 generalize hres : oB m file back = res
 unfold oB at hres
 by_cases hb : file < 0 \/ 5 <= file
 ·rw [zt hb] at hres
  subst hres
  by_cases q1 : file < 0
  ·go_enter Tryz.func208,Tryz.ntmps208
   go_wp2_with fail
   go_ret
   exact ⟨Y,rfl,rfl,zR w,H⟩
  ·have q2 : 5 <= file:=by omega
   clear hb
   go_enter Tryz.func208,Tryz.ntmps208
   go_wp2_with fail
   go_ret
   exact ⟨Y,rfl,rfl,zR w,H⟩
 ·rw [zq hb] at hres
  obtain ⟨k,rfl⟩ : ∃k : Nat,file = (k : Int):=⟨file.toNat,by omega⟩
  have hk : k < 5:=by omega
  have q1 : ¬((k : Int) < 0):=by omega
  have q2 : ¬(5 <= (k : Int)):=by omega
  have q3 : (0 : Int) <= (k : Int):=by omega
  have q4 : (k : Int) < 5:=by omega
  clear hb
  rw [zn] at hres
  cases hu : Dk m (k : Int) with
  | true=>
   rw [zt hu] at hres
   subst hres
   rw [hu] at HU
   clear hu
   go_enter Tryz.func208,Tryz.ntmps208
   go_wp2_with fail
   refine HU.out.mono ?_
   rintro e w1 ⟨rfl,rfl⟩
   go_wp2_with fail
   go_ret
   exact ⟨Y,rfl,rfl,zR w,H⟩
  | false=>
   rw [hu] at HU
   rw [zq (by rw [hu]; decide)] at hres
   obtain ⟨r,mr,hxr,hr,hFr⟩:=lT hm.root
   have hcl : clus m.F m.dk.root = mr.c:=by rw [hxr]; exact yr hFr
   obtain ⟨dok,dw,dp⟩:=hm.devOf hk
   have hcr:=zI (hm.sh.sh hN) hm.root
   rw [hcl] at hcr
   have hcn : ((mr.c.toNat : Nat) : Int) = mr.c:=by omega
   have hro:=fun w'=>AT mr.c.toNat (by omega) w'
   rw [hcn] at hro
   have hnl : (devOf m k).fl.length <= 1000000:=by have:=dok.n; omega
   have hrn : ls mr.c.toNat <= 1000000:=by unfold ls; omega
   have hpl : Ae mr.c (devOf m k) = Int.tdiv (((devOf m k).fl.length : Int) - 1 - (ls mr.c.toNat : Nat)) 4:=rfl
   have hbl : yY m k back = oD (devOf m k) mr.c (Ae mr.c (devOf m k)) back:=by unfold yY; rw [hcl]
   rw [hbl] at hres
   have HSZ:=zh (fun R' w' (h : own w' (yL Y m R'))=>J0 (Y.A k).2.1 (devOf m k) _ w' (Ks hk h))
   have HCR:=zh (fun R' w' (h : own w' (yL Y { m with F:=cut m.F k,D:=setD m.D k (devOf m k) } R'))=>K7 (Y.A k).2.1 (devOf m k) dok (by omega) (by omega) mr.c (Ae mr.c (devOf m k)) back _ w' (by
    have h1:=DP hk (by show cut m.F k k = none; unfold cut; rw [zt rfl]) h
    have e : setD m.D k (devOf m k) k = devOf m k:=by unfold setD; rw [zt rfl]
    rw [show ({ m with F:=cut m.F k,D:=setD m.D k (devOf m k) } : lf).D k = devOf m k from e] at h1
    exact h1))
   have hcode:=EQ (devOf m k) mr.c (Ae mr.c (devOf m k)) back
   have HH:=zh (fun R' w' h=>Bc (b:=Y.bs) (A:=Y.A) hr hFr R' w' h)
   have HS : ∀w' R',own w' (yL Y m R') -> w'.cell? ⟨Y.y,6,none⟩ = some (.pointer (some ⟨Y.bs,0,none⟩)) /\ w'.cell? ⟨Y.y,7,none⟩ = some (.int .i64 (r : Int)) /\ w'.cell? ⟨Y.bs,r,none⟩ = some (.pointer (some ⟨(Y.A r).1,0,none⟩)):=fun w' R' h=>⟨y_bs h,by rw [<- hxr]; exact yS h,by rw [oA h hr,od hFr]⟩
   have HS:=zh HS
   have HRES:=zh hres
   have r0 : (0 : Int) <= (r : Int):=by omega
   have r5 : (r : Int) < 5:=by omega
   clear hu hbl hres hcn hm hcl
   unfold lM at HH HCR
   generalize hpv : Ae mr.c (devOf m k) = pl at *
   generalize oD (devOf m k) mr.c pl back = S at *
   generalize hn : (devOf m k).fl.length = n at *
   generalize hrn' : ls mr.c.toNat = rn at *
   have n0 : (0 : Int) <= (n : Int):=by omega
   have n1 : (n : Int) <= 1000000:=by omega
   have m0 : (0 : Int) <= (rn : Int):=by omega
   have m1 : (rn : Int) <= 1000000:=by omega
   have HRO:=zh hro
   have HPL:=zh hpl
   clear hro hpl hpv hn hrn'
   have h1:=lj H
   have hx1:=(zR w).drew
   go_enter Tryz.func208,Tryz.ntmps208
   go_wp2_with fail
   refine HU.out.mono ?_
   rintro e w0 ⟨rfl,rfl⟩
   go_upto_region 5 with (fail)
   refine wp_region_held_drew (S:=fun w'=>w'.cell? ⟨Y.y,6,none⟩ = some (.pointer (some ⟨Y.bs,0,none⟩)) /\ w'.cell? ⟨Y.y,7,none⟩ = some (.int .i64 (r : Int)) /\ w'.cell? ⟨Y.bs,r,none⟩ = some (.pointer (some ⟨(Y.A r).1,0,none⟩))) (by kernel_rfl) (HS.out _ _ h1) (fun hHeld=>?_)
   refine tk 0 ?_
   refine tk 1 ?_
   refine tk 2 ?_
   refine tk 3 ?_
   refine tk 4 ?_
   refine tk 5 ?_
   refine tk 6 ?_
   refine tk 7 ?_
   refine tk 8 ?_
   refine tk 9 ?_
   refine tk 10 ?_
   refine tk 11 ?_
   try simp only [Act.put,tA,tB,tC,tD,tE,tF]
   refine wpAnyH_ready (rs:=[12,13]) (by kernel_rfl) (by simp) ?_
   refine AllReadyH.cons rfl (fun K hK=>?_) (AllReadyH.cons rfl (fun K hK=>?_) AllReadyH.nil)
   all_goals
    try
     go_simp
     go_at_call 71
     refine (HH.out _ _ h1).mono ?_
     rintro e w2 ⟨rfl,hx2,h2⟩
     go_simp
     refine hK.out _ _ (HS.out _ _ h2) (fun _=>?_)
     clear hK K
     try simp only [Act.put,tA,tB,tC,tD,tE,tF]
     refine rd 13 rfl fun K hK=>?_
     have h3:=IW (.cells #[.int .i64 0,.int .i64 0,.int .i64 0] 103) h2
     have hx3:=(hx1.trans hx2).alloc (.cells #[.int .i64 0,.int .i64 0,.int .i64 0] 103)
     go_simp
     refine hK.out _ _ (HS.out _ _ h3) (fun _=>?_)
     clear hK K
     try simp only [Act.put,tA,tB,tC,tD,tE,tF]
     generalize w2.heap.size = g at *
     generalize w2.alloc (.cells #[.int .i64 0,.int .i64 0,.int .i64 0] 103) = w3 at *
    try
     have h3:=lj (IW (.cells #[.int .i64 0,.int .i64 0,.int .i64 0] 103) H)
     have hx3':=((zR w).alloc (.cells #[.int .i64 0,.int .i64 0,.int .i64 0] 103)).drew
     go_simp
     refine hK.out _ _ (HS.out _ _ h3) (fun _=>?_)
     clear hK K
     try simp only [Act.put,tA,tB,tC,tD,tE,tF]
     refine rd 12 rfl fun K hK=>?_
     generalize w.heap.size = g at *
     generalize (w.alloc (.cells #[.int .i64 0,.int .i64 0,.int .i64 0] 103)).drew = w2 at *
     go_simp
     go_at_call 71
     refine (HH.out _ _ h3).mono ?_
     clear h3
     rintro e w3 ⟨rfl,hx2,h3⟩
     have hx3:=hx3'.trans hx2
     go_simp
     refine hK.out _ _ (HS.out _ _ h3) (fun _=>?_)
     clear hK K
     try simp only [Act.put,tA,tB,tC,tD,tE,tF]
    refine rd 14 rfl fun K hK=>?_
    have c0:=(ld 15 h3 rfl).1 0
    have c1:=(ld 15 h3 rfl).1 1
    have c2:=(ld 15 h3 rfl).1 2
    have f3:=(ld 15 h3 rfl).2
    have h4:=lg (i:=2) (v:=.int .i64 mr.b) 15 (lg (i:=1) (v:=.int .i64 mr.p) 15 (lg (i:=0) (v:=.int .i64 mr.c) 15 h3 rfl) rfl) rfl
    have h5 : own _ (yL Y m (pts g (.cells #[.int .i64 mr.c,.int .i64 mr.p,.int .i64 mr.b] 103 (0,0))::R)):=h4
    have hx5:=((hx3.setCell (⟨g,0,none⟩ : Addr) (.int .i64 mr.c)).setCell (⟨g,1,none⟩ : Addr) (.int .i64 mr.p)).setCell (⟨g,2,none⟩ : Addr) (.int .i64 mr.b)
    go_simp
    refine hK.out _ _ (HS.out _ _ h5) (fun _=>?_)
    clear hK K c0 c1 c2 f3 h4 h3 hx3
    try simp only [Act.put,tA,tB,tC,tD,tE,tF]
    refine wpAnyH_done (by kernel_rfl) ?_ _
    generalize ((w3.setCell ⟨g,0,none⟩ (.int .i64 mr.c)).setCell ⟨g,1,none⟩ (.int .i64 mr.p)).setCell ⟨g,2,none⟩ (.int .i64 mr.b) = w5 at *
    have c2:=(ld 15 h5 rfl).1 2
    have f2:=(ld 15 h5 rfl).2 2
    have h6':=lg (i:=2) (v:=.int .i64 back) 15 h5 rfl
    have h6 : own _ (yL Y m (pts g (.cells #[.int .i64 mr.c,.int .i64 mr.p,.int .i64 back] 103 (0,0))::R)):=h6'
    have hx6:=hx5.setCell (⟨g,2,none⟩ : Addr) (.int .i64 back)
    clear h5 hx5 h6'
    go_upto_region 7 with (fail)
    generalize w5.setCell ⟨g,2,none⟩ (.int .i64 back) = w6 at *
    clear c2 f2
    have c0:=(ld 15 h6 rfl).1 0
    have dv:=BH h6 hk
    have hs:=(HSZ.out _ _ (lj h6)).mono fun e w' h=>(⟨h.1,h.2.symm⟩ : e = .returned (.int .i64 (n : Nat)) /\ w' = w6.drew)
    have hr:=(HRO.out w6.drew).mono fun e w' h=>(⟨h.1,h.2.symm⟩ : e = .returned (.int .i64 (rn : Nat)) /\ w' = w6.drew)
    go_still_tail 14,(by kernel_rfl)
    still_call hs
    repeat still_step
    still_call hr
    repeat still_step
    refine wpStill_nil ?_
    change wpList _ _ _ _ _ w6.drew
    have h7:=lj h6
    have hx7:=hx6.drew
    clear c0 dv hs hr h6 hx6
    generalize w6.drew = w7 at *
    have c1:=(ld 15 h7 rfl).1 1
    have f1:=(ld 15 h7 rfl).2 1
    have h8':=lg (i:=1) (v:=.int .i64 pl) 15 h7 rfl
    have h8 : own _ (yL Y m (pts g (.cells #[.int .i64 mr.c,.int .i64 pl,.int .i64 back] 103 (0,0))::R)):=h8'
    have hx8:=hx7.setCell (⟨g,1,none⟩ : Addr) (.int .i64 pl)
    clear h7 hx7 h8'
    go_upto_region 8 with (fail)
    rw [<- HPL.out]
    generalize w7.setCell ⟨g,1,none⟩ (.int .i64 pl) = w8 at *
    clear c1 f1
    have cb:=y_bs h8
    have cs:=oA h8 hk
    have fs:=L7 h8 k
    have h9:=Xh hk h8
    have hx9:=hx8.setCell (⟨Y.bs,k,none⟩ : Addr) (.pointer none)
    clear h8 hx8
    go_upto_region 9 with (fail)
    generalize w8.setCell ⟨Y.bs,k,none⟩ (.pointer none) = w9 at *
    clear cb cs fs
    have hz:=lj h9
    have hxz:=hx9.drew
    clear h9 hx9
    have dv:=BH hz hk
    have g0:=(ld 15 hz rfl).1 0
    have g1:=(ld 15 hz rfl).1 1
    have g2:=(ld 15 hz rfl).1 2
    refine wp_region_held_drew (S:=fun w'=>w'.cell? ⟨Y.y,k,none⟩ = some (.pointer (some ⟨(Y.A k).2.1,0,none⟩)) /\ w'.cell? ⟨g,0,none⟩ = some (.int .i64 mr.c) /\ w'.cell? ⟨g,1,none⟩ = some (.int .i64 pl) /\ w'.cell? ⟨g,2,none⟩ = some (.int .i64 back)) (by kernel_rfl) ⟨dv,g0,g1,g2⟩ (fun hHeld=>?_)
    refine tk 0 ?_
    refine tk 1 ?_
    refine tk 2 ?_
    refine tk 3 ?_
    refine tk 4 ?_
    refine tk 5 ?_
    refine tk 6 ?_
    try simp only [Act.put,tA,tB,tC,tD,tE,tF]
    refine rd 7 rfl fun K hK=>?_
    go_simp
    go_at_call 62
    refine (HCR.out _ _ hz).mono ?_
    rintro e w10 hpost
    have h0 : ((yL Y { m with F:=cut m.F k,D:=setD m.D k (devOf m k) } (pts g (.cells #[.int .i64 mr.c,.int .i64 pl,.int .i64 back] 103 (0,0))::R)).set (7 + k) emp)[0]? = some (pts Y.bs (.cells (yj Y.A (cut m.F k)) 111 (0,0))):=by rw [List.getElem?_set_ne (by omega)]; rfl
    have h6 : ((yL Y { m with F:=cut m.F k,D:=setD m.D k (devOf m k) } (pts g (.cells #[.int .i64 mr.c,.int .i64 pl,.int .i64 back] 103 (0,0))::R)).set (7 + k) emp)[6]? = some (pts Y.y (.cells (yC Y m) 165 (0,0))):=by rw [List.getElem?_set_ne (by omega)]; rfl
    have h15 : ((yL Y { m with F:=cut m.F k,D:=setD m.D k (devOf m k) } (pts g (.cells #[.int .i64 mr.c,.int .i64 pl,.int .i64 back] 103 (0,0))::R)).set (7 + k) emp)[15]? = some (pts g (.cells #[.int .i64 mr.c,.int .i64 pl,.int .i64 back] 103 (0,0))):=by rw [List.getElem?_set_ne (by omega)]; rfl
    rcases hpost with ⟨hc,rfl,hx10,h10⟩ | ⟨hc,bi,bh,rfl,hx10,h10⟩
    ·have z1 : w10.cell? ⟨Y.y,k,none⟩ = some (.pointer (some ⟨(Y.A k).2.1,0,none⟩)):=by rw [(ld 7 h10 h6).1 k]; exact T1 Y m hk
     have z2:=(ld 16 h10 h15).1
     go_simp
     refine hK.out _ _ ⟨z1,z2 0,z2 1,z2 2⟩ (fun _=>?_)
     clear hK K z1 z2 dv g0 g1 g2
     try simp only [Act.put,tA,tB,tC,tD,tE,tF]
     refine tk 8 ?_
     refine tk 9 ?_
     refine tk 10 ?_
     refine tk 11 ?_
     refine tk 12 ?_
     try simp only [Act.put,tA,tB,tC,tD,tE,tF]
     refine wpAnyH_done (by kernel_rfl) ?_ _
     have h11:=GL (Y:=Y) hk (by show cut m.F k k = none; unfold cut; rw [zt rfl]) h10
     rw [zt hc] at HRES
     rw [lx (e:=S.1) (by omega)]
     go_wp2_with fail
     go_ret
     rw [<- HRES.out]
     refine ⟨Y,rfl,by rw [lx (e:=S.1) (by omega)]; rfl,hxz.trans hx10,?_⟩
     have h12:=Bv h11
     rw [Up] at h12
     exact h12
    ·have z1 : w10.cell? ⟨Y.y,k,none⟩ = some (.pointer (some ⟨(Y.A k).2.1,0,none⟩)):=by rw [(ld 8 h10 h6).1 k]; exact T1 Y m hk
     have z2:=(ld 17 h10 h15).1
     go_simp
     refine hK.out _ _ ⟨z1,z2 0,z2 1,z2 2⟩ (fun _=>?_)
     clear hK K z1 z2 dv g0 g1 g2
     try simp only [Act.put,tA,tB,tC,tD,tE,tF]
     refine tk 8 ?_
     refine tk 9 ?_
     refine tk 10 ?_
     refine tk 11 ?_
     refine tk 12 ?_
     try simp only [Act.put,tA,tB,tC,tD,tE,tF]
     refine wpAnyH_done (by kernel_rfl) ?_ _
     rw [zq (by rw [hc]; decide)] at HRES
     have cb : w10.cell? ⟨Y.y,6,none⟩ = some (.pointer (some ⟨Y.bs,0,none⟩)):=(ld 8 h10 h6).1 6
     have fs : w10.frozen? ⟨Y.bs,k,none⟩ = false:=(ld 2 h10 h0).2 k
     have cs : ∃v,w10.cell? ⟨Y.bs,k,none⟩ = some v:=by
      rw [(ld 2 h10 h0).1 k]
      unfold yj
      exact ⟨_,Array.getElem?_eq_getElem (by simp; omega)⟩
     obtain ⟨vs,cs⟩:=cs
     have h11:=LJ (Y:=Y) hk (by show cut m.F k k = none; unfold cut; rw [zt rfl]) h10
     have hx11:=(hxz.trans hx10).setCell (⟨Y.bs,k,none⟩ : Addr) (.pointer (some ⟨bi,0,none⟩))
     clear h0 h6 h15 h10 hz hxz hx10
     go_wp2_with fail
     go_ret
     rw [<- HRES.out]
     refine ⟨Y.stA k bi bh,rfl,rfl,hx11,?_⟩
     have h12:=Bv h11
     rw [Uz] at h12
     exact h12
theorem V6 (Y : YA) (m : lf) (F' : ShM) {j : JobM} (j' : JobM) (h : m.job = some j) (hn : ∀k,k < 5 -> (F' k = none↔m.F k = none)) : (yT Y { m with F:=F',job:=some j' }).take 8 = (yT Y m).take 8:=by
 have hf : ∀k,k < 5 -> oM Y.A F' m.D k = oM Y.A m.F m.D k:=fun k hk=>by
  unfold oM
  cases e : m.F k with
  | none=>rw [(hn k hk).2 e]
  | some i=>
   cases e' : F' k with
   | none=>exact absurd ((hn k hk).1 e') (by rw [e]; exact fun h=>by cases h)
   | some i'=>rfl
 have hc : yC Y { m with F:=F',job:=some j' } = yC Y m:=by
  unfold yC
  dsimp only
  rw [h]
  rfl
 unfold yT
 dsimp only
 rw [hc,hf 0 (by decide),hf 1 (by decide),hf 2 (by decide),hf 3 (by decide),hf 4 (by decide)]
 rfl
theorem Bg {Y : YA} {m : lf} {F' : ShM} {j j' : JobM} {R : List SL.HP} {w : World} (h : m.job = some j) (hl : j'.list = j.list) (hn : ∀k,k < 5 -> (F' k = none↔m.F k = none))
  (H : own w (shL Y.bs Y.A F'++(jobL Y.bs Y.bj Y.bt Y.bb Y.vj j'++(row 3 1 Y.vj j.list.length (lo j.list)::((yT Y m).take 8++R))))) : own w (yL Y { m with F:=F',job:=some j' } R):=by
 refine I0 (m:={ m with F:=F',job:=some j' }) (j:=j') rfl ?_
 rw [hl,V6 Y m F' j' h hn]
 exact H
theorem An {Y : YA} {m : lf} {j : JobM} (h : m.job = some j) {R : List SL.HP} {w : World} (H : own w (yL Y m R)) : w.cell? ⟨Y.y,13,none⟩ = some (.pointer (some ⟨Y.bj,0,none⟩)):=by
 have:=Gr H
 rw [h] at this
 exact this
theorem Q7 (j : JobM) : (zu j).list = j.list:=by
 unfold zu
 split
 ·rfl
 ·split <;> rfl
theorem D1 (j : JobM) (on : Bool) : (yU j on).2.list = j.list:=by
 unfold yU
 split
 ·split <;> rfl
 ·split
  ·exact Q7 _
  ·rfl
theorem Jz (j : JobM) (n : Int) : (BR j n).list = j.list:=by unfold BR; split <;> rfl
theorem Sc (Y : YA) (m : lf) (hm : ∀j,m.job = some j -> j.Ok) (on : Bool) (R : List SL.HP) (w : World) (H : own w (yL Y m R)) :
  Calls Tryz.prog 115 #[.pointer (some ⟨Y.y,0,none⟩),.bool on] w (zH Y (zW m on) R w):=by
 have HB:=zh (BB Y m R w H)
 generalize hres : zW m on = res
 unfold zW at hres
 unfold y8 at HB
 cases hj : m.job with
 | none=>
  rw [hj] at HB hres
  dsimp only at HB hres
  subst hres
  clear hj
  go_enter Tryz.func115,Tryz.ntmps115
  go_wp2_with fail
  refine HB.out.mono ?_
  rintro e w' ⟨rfl,rfl⟩
  go_wp2_with fail
  go_ret
  exact ⟨Y,rfl,rfl,zR _,H⟩
 | some j=>
  rw [hj] at HB hres
  dsimp only at HB hres
  by_cases h4 : 4 <= j.st
  ·rw [zt h4] at hres
   subst hres
   rw [zf (by omega)] at HB
   clear hj h4
   go_enter Tryz.func115,Tryz.ntmps115
   go_wp2_with fail
   refine HB.out.mono ?_
   rintro e w' ⟨rfl,rfl⟩
   go_wp2_with fail
   go_ret
   exact ⟨Y,rfl,rfl,zR _,H⟩
  ·rw [zq h4] at hres
   rw [zg (by omega)] at HB
   have cj:=An hj H
   have HP:=zh (K4 Y.bs Y.bj Y.bt Y.bb Y.vj j (hm j hj) on _ w (lp (shL Y.bs Y.A m.F) (jobL Y.bs Y.bj Y.bt Y.bb Y.vj j) (BO hj H)))
   have HJ:=zh hj
   have HRES:=zh hres
   clear hj h4 hm hres
   go_enter Tryz.func115,Tryz.ntmps115
   go_wp2_with fail
   refine HB.out.mono ?_
   rintro e w' ⟨rfl,rfl⟩
   go_wp2_with fail
   refine HP.out.mono ?_
   rintro e w2 ⟨rfl,hx2,h2⟩
   go_wp2_with fail
   go_ret
   rw [<- HRES.out]
   exact ⟨Y,rfl,rfl,hx2,Bg HJ.out (D1 j on) (fun _ _=>Iff.rfl) (lp (jobL Y.bs Y.bj Y.bt Y.bb Y.vj (yU j on).2) (shL Y.bs Y.A m.F) h2)⟩
theorem SU (Y : YA) (m : lf) (hm : ∀j,m.job = some j -> j.Ok) (n : Int) (R : List SL.HP) (w : World) (H : own w (yL Y m R)) :
  Calls Tryz.prog 117 #[.pointer (some ⟨Y.y,0,none⟩),.int .i64 n] w (zH Y (Az m n) R w):=by
 have HB:=zh (BB Y m R w H)
 generalize hres : Az m n = res
 unfold Az at hres
 unfold y8 at HB
 by_cases hb : n < 0 \/ 100000 < n
 ·rw [zt hb] at hres
  subst hres
  by_cases q1 : n < 0
  ·go_enter Tryz.func117,Tryz.ntmps117
   go_wp2_with fail
   go_ret
   exact ⟨Y,rfl,rfl,zR w,H⟩
  ·have q2 : 100000 < n:=by omega
   clear hb
   go_enter Tryz.func117,Tryz.ntmps117
   go_wp2_with fail
   go_ret
   exact ⟨Y,rfl,rfl,zR w,H⟩
 rw [zq hb] at hres
 have hn : 0 <= n /\ n <= 100000:=by omega
 have q1 : ¬n < 0:=by omega
 have q2 : ¬100000 < n:=by omega
 clear hb
 cases hj : m.job with
 | none=>
  rw [hj] at HB hres
  dsimp only at HB hres
  subst hres
  clear hj
  go_enter Tryz.func117,Tryz.ntmps117
  go_wp2_with fail
  refine HB.out.mono ?_
  rintro e w' ⟨rfl,rfl⟩
  go_wp2_with fail
  go_ret
  exact ⟨Y,rfl,rfl,zR _,H⟩
 | some j=>
  rw [hj] at HB hres
  dsimp only at HB hres
  by_cases h4 : 4 <= j.st
  ·rw [zt h4] at hres
   subst hres
   rw [zf (by omega)] at HB
   clear hj h4
   go_enter Tryz.func117,Tryz.ntmps117
   go_wp2_with fail
   refine HB.out.mono ?_
   rintro e w' ⟨rfl,rfl⟩
   go_wp2_with fail
   go_ret
   exact ⟨Y,rfl,rfl,zR _,H⟩
  ·rw [zq h4] at hres
   rw [zg (by omega)] at HB
   have cj:=An hj H
   have HP:=zh (Uh Y.bs Y.bj Y.bt Y.bb Y.vj j (hm j hj) n _ w (lp (shL Y.bs Y.A m.F) (jobL Y.bs Y.bj Y.bt Y.bb Y.vj j) (BO hj H)))
   rw [zt hn,oa] at HP
   have HJ:=zh hj
   have HRES:=zh hres
   clear hj h4 hm hres hn
   go_enter Tryz.func117,Tryz.ntmps117
   go_wp2_with fail
   refine HB.out.mono ?_
   rintro e w' ⟨rfl,rfl⟩
   go_wp2_with fail
   refine HP.out.mono ?_
   rintro e w2 ⟨rfl,hx2,h2⟩
   go_wp2_with fail
   go_ret
   rw [<- HRES.out]
   exact ⟨Y,rfl,rfl,hx2,Bg HJ.out (Jz j n) (fun _ _=>Iff.rfl) (lp (jobL Y.bs Y.bj Y.bt Y.bb Y.vj (BR j n)) (shL Y.bs Y.A m.F) h2)⟩
theorem BQ {r : Int} (h : 0 <= r) (h5 : r < 5) : (lz r).f = 0:=by
 show yg r 0 (-1) 0 0 = 0
 rw [Li (by unfold yx; omega) rfl]
 rfl
theorem Av {Y : YA} {m : lf} {P : SL.HP} {R : List SL.HP} {w : World} (H : own w (P::yL Y m R)) : own w (yL Y m (P::R)):=by
 have h:=lr (shL Y.bs Y.A m.F++yT Y m) (R:=R) (by rw [zp]; exact H)
 rwa [zp] at h
theorem GT {Y : YA} {m : lf} {v : Value} {l : List Int} {R : List SL.HP} {w : World} (H : own w (yL Y m (row 3 1 v l.length (lo l)::R))) : own (w.setCell ⟨Y.y,12,none⟩ v) (yL { Y with v:=v } { m with list:=l } R):=by
 have h1:=lg (i:=12) (v:=v) 6 H rfl
 have h2:=lh 13 h1 rfl
 have h3:=lu 14 h2 rfl
 exact lr (((yL { Y with v:=v } { m with list:=l } R)).take 13) h3
theorem YOk.root5 {N : Nat} {m : lf} (h : YOk N m) : 0 <= m.dk.root /\ m.dk.root < 5:=by
 obtain ⟨k,i,hx,hk,-⟩:=lT h.root
 omega
theorem Lu (Y : YA) (m : lf) (N : Nat) (hW : ShW N m.F) (hN : N < 900000) (ht : m.top.Ok) (hw : m.top.writes < 999000) (hp : m.top.pend.length < 999000) (j : JobM) (hj : m.job = some j) (root : Int) (hr : 0 <= root /\ root < 5) (hwk : (lt m.F root).2 = 0) (well : Bool) (R : List SL.HP) (w : World) (H : own w (yL Y m R)) :
  Calls Tryz.prog 146 #[.pointer (some ⟨Y.y,0,none⟩),(lz root).v,.bool well] w (zH Y (B4 m j root well) R w):=by
 have hb:=IW (.cells #[.int .i64 root,.int .i64 0,.int .i64 (-1),.int .i64 0,.int .i64 0] 24) H
 have hxb:=(zR w).alloc (.cells #[.int .i64 root,.int .i64 0,.int .i64 (-1),.int .i64 0,.int .i64 0] 24)
 have HW:=zh (fun R' w' h=>BM Y m ht hw hp (lz root) (BQ hr.1 hr.2) R' w' h)
 generalize hres : B4 m j root well = res
 unfold B4 at hres
 have hcode : 0 <= (lw m (lz root)).1:=by
  unfold lw
  split
  ·exact ol _ _ _
  ·exact Int.le_refl 0
 have hF : (lw m (lz root)).2.F = m.F:=by unfold lw; split <;> rfl
 have hJ : (lw m (lz root)).2.job = m.job:=by unfold lw; split <;> rfl
 have hD : (lw m (lz root)).1 = 0 -> (lw m (lz root)).2.dk = lz root:=by
  unfold lw
  split
  ·exact fun h=>absurd h (by assumption)
  ·exact fun _=>rfl
 have HWK:=zh (fun Y' R' w' h=>CP Y.bs Y' m.F (hW.sh hN) root R' w' h)
 unfold zO at HWK
 rw [hwk,oa] at HWK
 rw [hj] at hJ
 unfold lI.v o8 at HW ⊢
 generalize lw m (lz root) = S at *
 obtain ⟨c,m2⟩:=S
 dsimp only [lz] at hcode hF hJ hD HW hres ⊢
 have HRES:=zh hres
 have HJ:=zh hJ
 have HDK:=zh hD
 clear hres hD
 generalize (lt m.F root).1 = l at *
 clear H hW ht hw hp hr hwk hj
 go_enter Tryz.func146,Tryz.ntmps146
 go_upto_region 1 with (fail)
 generalize w.heap.size = g at *
 generalize w.alloc (.cells #[.int .i64 root,.int .i64 0,.int .i64 (-1),.int .i64 0,.int .i64 0] 24) = w1 at *
 have cd:=(ld 15 hb rfl).1
 have d0:=cd 0
 have d1:=cd 1
 have d2:=cd 2
 have d3:=cd 3
 have d4:=cd 4
 clear cd
 go_wp2_with fail
 refine (HW.out _ w1 hb).mono ?_
 rintro e w2 ⟨rfl,hx2,h2⟩
 clear d0 d1 d2 d3 d4
 by_cases hc : c = 0
 ·have hdk:=HDK.out hc
  subst hc
  rw [zq (by decide)] at HRES
  rw [oa]
  have hf2 : m2.F = m.F:=hF
  have cj:=An hJ h2
  go_wp2_with fail
  refine (MP Y.bs Y.bj Y.bt Y.bb Y.vj j well _ w2 (lp (shL Y.bs Y.A m2.F) (jobL Y.bs Y.bj Y.bt Y.bb Y.vj j) (BO HJ.out h2))).mono ?_
  rintro e w3 ⟨rfl,hx3,h3⟩
  have h4 : own w3 (yL Y { m2 with job:=some (endM j well) } _):=Bg HJ.out (show (endM j well).list = j.list from rfl) (fun _ _=>Iff.rfl) (lp (jobL Y.bs Y.bj Y.bt Y.bb Y.vj (endM j well)) (shL Y.bs Y.A m2.F) h3)
  have hx4:=(hxb.trans hx2).trans hx3
  clear h3 h2 hb hxb hx2 hx3 cj
  have HS : ∀w' R',own w' (yL Y { m2 with job:=some (endM j well) } R') -> w'.cell? ⟨Y.y,6,none⟩ = some (.pointer (some ⟨Y.bs,0,none⟩)) /\ w'.cell? ⟨Y.y,7,none⟩ = some (.int .i64 root):=fun w' R' h=>⟨y_bs h,by have:=yS h; rw [show ({ m2 with job:=some (endM j well) } : lf).dk = m2.dk from rfl,hdk] at this; exact this⟩
  have HS:=zh HS
  have h5:=lj h4
  have hx5:=hx4.drew
  go_upto_region 5 with (fail)
  refine wp_region_held_drew (S:=fun w'=>w'.cell? ⟨Y.y,6,none⟩ = some (.pointer (some ⟨Y.bs,0,none⟩)) /\ w'.cell? ⟨Y.y,7,none⟩ = some (.int .i64 root)) (by kernel_rfl) (HS.out _ _ h5) (fun hHeld=>?_)
  refine tk 0 ?_
  refine tk 1 ?_
  refine tk 2 ?_
  refine tk 3 ?_
  refine tk 4 ?_
  refine tk 5 ?_
  refine tk 6 ?_
  refine tk 7 ?_
  refine tk 8 ?_
  refine tk 9 ?_
  try simp only [Act.put,tA,tB,tC,tD,tE,tF]
  refine rd 10 rfl fun K hK=>?_
  go_simp
  go_at_call 69
  have h5' : own w3.drew (shL Y.bs Y.A m.F++(yT Y { m2 with job:=some (endM j well) }++(pts g (.cells #[.int .i64 root,.int .i64 0,.int .i64 (-1),.int .i64 0,.int .i64 0] 24 (0,0))::R))):=by rw [<- hf2]; exact h5
  refine (HWK.out _ _ _ h5').mono ?_
  rintro e w6 ⟨v,rfl,hx6,h6⟩
  obtain ⟨vo,vb,vof,vcap,rfl,-,-,-,-⟩:=(l9 0 h6 rfl).form
  rw [<- hf2] at h6
  have h7:=Av (Y:=Y) (m:={ m2 with job:=some (endM j well) }) h6
  go_simp
  refine hK.out _ _ (HS.out _ _ h7) (fun _=>?_)
  clear hK K h4 h5 h5' h6
  try simp only [Act.put,tA,tB,tC,tD,tE,tF]
  refine tk 11 ?_
  refine tk 12 ?_
  refine tk 13 ?_
  refine tk 14 ?_
  refine tk 15 ?_
  try simp only [Act.put,tA,tB,tC,tD,tE,tF]
  refine rd 16 rfl fun K hK=>?_
  have cl:=Cg h7
  have fl:=Cd h7 12
  have h8:=GT h7
  have hx8:=(hx5.trans hx6).setCell ⟨Y.y,12,none⟩ (.slice vo l.length vcap)
  have z6:=y_bs h8
  have z7:=yS h8
  rw [show ({ m2 with job:=some (endM j well),list:=l } : lf).dk = m2.dk from rfl,hdk] at z7
  go_simp
  refine hK.out _ _ ⟨z6,z7⟩ (fun _=>?_)
  clear hK K h7 cl fl
  try simp only [Act.put,tA,tB,tC,tD,tE,tF]
  refine tk 17 ?_
  try simp only [Act.put,tA,tB,tC,tD,tE,tF]
  refine wpAnyH_done (by kernel_rfl) ?_ _
  go_wp2_with fail
  go_ret
  rw [<- HRES.out]
  exact ⟨{ Y with v:=.slice vo l.length vcap },rfl,rfl,hx8,Bv h8⟩
 ·rw [zt hc] at HRES
  rw [lx (e:=c) (by omega)]
  go_wp2_with fail
  go_ret
  rw [<- HRES.out]
  exact ⟨Y,rfl,by rw [lx (e:=c) (by omega)]; rfl,hxb.trans hx2,Bv h2⟩
theorem Oy (N : Nat) (Y : YA) (m : lf) (hm : YOk N m) (hN : N < 900000) (R : List SL.HP) (w : World) (H : own w (yL Y m R)) :
  Calls Tryz.prog 45 #[.pointer (some ⟨Y.y,0,none⟩)] w (zH Y (zT m) R w):=by
 have HB:=zh (BB Y m R w H)
 generalize hres : zT m = res
 unfold zT at hres
 unfold y8 at HB
 cases hj : m.job with
 | none=>
  rw [hj] at HB hres
  dsimp only at HB hres
  subst hres
  clear hj
  go_enter Tryz.func45,Tryz.ntmps45
  go_wp2_with fail
  refine HB.out.mono ?_
  rintro e w' ⟨rfl,rfl⟩
  go_wp2_with fail
  go_ret
  exact ⟨Y,rfl,rfl,zR _,H⟩
 | some j=>
  rw [hj] at HB hres
  dsimp only at HB hres
  by_cases h4 : 4 <= j.st
  ·rw [zt h4] at hres
   subst hres
   rw [zf (by omega)] at HB
   clear hj h4
   go_enter Tryz.func45,Tryz.ntmps45
   go_wp2_with fail
   refine HB.out.mono ?_
   rintro e w' ⟨rfl,rfl⟩
   go_wp2_with fail
   go_ret
   exact ⟨Y,rfl,rfl,zR _,H⟩
  ·rw [zq h4] at hres
   rw [zg (by omega)] at HB
   have cr:=yS H
   have hr:=hm.root5
   have htw:=hm.tp.2.1
   have htp:=hm.tp.2.2.1
   have HN:=zh (fun R' w' h=>CN m.dk.root R' w' h)
   have HO:=zh (fun R' w' h=>Lu Y m N hm.sh hN hm.tp.1 (by omega) (by omega) j hj m.dk.root hr (by rw [hm.walk]) false R' w' h)
   have HRES:=zh hres
   clear hj h4 hm hres hr htw htp
   go_enter Tryz.func45,Tryz.ntmps45
   go_wp2_with fail
   refine HB.out.mono ?_
   rintro e w' ⟨rfl,rfl⟩
   go_wp2_with fail
   refine (HN.out _ _ H).mono ?_
   rintro e w2 ⟨rfl,hx2,h2⟩
   clear cr
   go_wp2_with fail
   refine (HO.out _ _ h2).mono ?_
   rintro e w3 ⟨Y',hy,rfl,hx3,h3⟩
   go_wp2_with fail
   go_ret
   rw [<- HRES.out]
   exact ⟨Y',hy,rfl,hx2.trans hx3,h3⟩
end Go.Proofs.YtbpblokfiajpjabGreatDoor
namespace Go.Proofs.YtbpblokfiajpjabGreatDoor
open Go.RowKit Go.SL Go.Crc
structure Chn (F : ShM) (C : Int) (l : List Int) : Prop where
 file : ∀x∈l,ly F x
 cl : ∀x∈l,clus F x = C
 ch : Ch F l (-1)
theorem Chn.drop {F : ShM} {C : Int} {p l : List Int} (h : Chn F C (p++l)) : Chn F C l:=
 ⟨fun x hx=>h.file x (List.mem_append.2 (.inr hx)),fun x hx=>h.cl x (List.mem_append.2 (.inr hx)),Ch.tail h.ch⟩
theorem Sx {F : ShM} {root : Int} : ∀{s : List Int} {n : Nat} {l : List Int} {at_ : Int},s.length < n -> l.length + s.length <= 5 -> Chn F (clus F root) s -> at_ = s.headD (-1) -> oW F root n l at_ = (l++s,0):=by
 intro s
 induction s with
 | nil=>
  intro n l at_ hn _ _ ha
  obtain ⟨n,rfl⟩ : ∃q,n = q + 1:=⟨n - 1,by simp at hn; omega⟩
  replace ha : at_ = -1:=ha
  rw [oW,zt ha,List.append_nil]
 | cons x s ih=>
  intro n l at_ hn h5 hc ha
  obtain ⟨n,rfl⟩ : ∃q,n = q + 1:=⟨n - 1,by simp at hn; omega⟩
  have hx : at_ = x:=ha
  subst hx
  obtain ⟨h0,h1,m,hm⟩:=hc.file at_ (List.mem_cons_self ..)
  have hcx:=hc.cl at_ (List.mem_cons_self ..)
  have hcm : clus F at_ = m.c:=by unfold clus; rw [hm]
  have hb : bkOf F at_ = m.b:=by unfold bkOf; rw [hm]
  simp only [List.length_cons] at hn h5
  rw [oW,zq (by omega),zq (by omega),hm]
  dsimp only
  rw [zq (by omega),zq (by rw [<- hcm,hcx]; exact fun h=>h rfl)]
  rw [ih (by omega) (by simp; omega) (Chn.drop (p:=[at_]) hc) (by rw [<- hb]; exact hc.ch.1)]
  simp
theorem P7 {F : ShM} {root : Int} : ∀{n : Nat} {l : List Int} {at_ : Int},n + l.length = 6 -> l.length <= 5 -> Ch F l at_ -> (∀y∈l,ly F y /\ clus F y = clus F root) -> (oW F root n l at_).2 = 0 -> Chn F (clus F root) (oW F root n l at_).1:=by
 intro n
 induction n with
 | zero=>
  intro l at_ hn h5
  omega
 | succ n ih=>
  intro l at_ hn h5 hc hl
  rw [oW]
  split
  ·rename_i h1
   intro _
   rw [h1] at hc
   exact ⟨fun y hy=>(hl y hy).1,fun y hy=>(hl y hy).2,hc⟩
  ·split
   ·intro h; exact absurd h (by decide)
   ·split
    ·intro h; exact absurd h (by decide)
    ·rename_i h2 m hm
     split
     ·intro h; exact absurd h (by decide)
     ·split
      ·intro h; exact absurd h (by decide)
      ·rename_i h6 h7
       have hf : ly F at_:=⟨by omega,by omega,m,hm⟩
       have hcm : clus F at_ = m.c:=by unfold clus; rw [hm]
       refine ih (by simp; omega) (by simp; omega) ?_ ?_
       ·have:=Ch.snoc hc
        rw [show bkOf F at_ = m.b by unfold bkOf; rw [hm]] at this
        exact this
       ·intro y hy
        rcases List.mem_append.1 hy with h | h
        ·exact hl y h
        ·rw [List.mem_singleton.1 h]; exact ⟨hf,by rw [hcm]; exact Decidable.not_not.1 h7⟩
theorem Sd {F : ShM} {root : Int} : ∀{n : Nat} {l : List Int} {at_ : Int},(oW F root n l at_).2 = 0 -> ∃s,(oW F root n l at_).1 = l++s:=by
 intro n
 induction n with
 | zero=>intro l at_ _; exact ⟨[],by rw [oW]; simp⟩
 | succ n ih=>
  intro l at_
  rw [oW]
  split
  ·intro _; exact ⟨[],by simp⟩
  ·split
   ·intro h; exact absurd h (by decide)
   ·split
    ·intro h; exact absurd h (by decide)
    ·split
     ·intro h; exact absurd h (by decide)
     ·split
      ·intro h; exact absurd h (by decide)
      ·intro h
       obtain ⟨s,hs⟩:=ih h
       exact ⟨at_::s,by rw [hs]; simp⟩
theorem Gq {F : ShM} {root : Int} (h : (lt F root).2 = 0) : Chn F (clus F root) (lt F root).1:=
 P7 rfl (by decide) trivial (fun y hy=>by cases hy) h
theorem I2 {F : ShM} {root : Int} {s : List Int} (h : Chn F (clus F root) (root::s)) (h5 : (root::s).length <= 5) : lt F root = (root::s,0):=by
 have h6:=Sx (n:=6) (l:=[]) (at_:=root) (by omega) (by simpa using h5) h rfl
 exact h6
theorem Ir {F : ShM} {root : Int} (hr : ly F root) (h : (lt F root).2 = 0) : ∃s,(lt F root).1 = root::s:=by
 obtain ⟨h0,h1,m,hm⟩:=hr
 have hcm : clus F root = m.c:=by unfold clus; rw [hm]
 unfold lt at h ⊢
 rw [show (6 : Nat) = 5 + 1 from rfl,oW,zq (by omega),zq (by omega),hm] at h ⊢
 dsimp only at h ⊢
 rw [zq (by simp),zq (by rw [hcm]; exact fun h=>h rfl)] at h ⊢
 obtain ⟨s,hs⟩:=Sd h
 exact ⟨s,by rw [hs]; rfl⟩
theorem Bl {F : ShM} {root : Int} : (lt F root).1.length <= 5:=KB (by simp)
def shp (F : ShM) (k : Nat) : Option (Int×Int):=(F k).map fun i=>(i.c,i.b)
theorem GA {F : ShM} {x : Int} : clus F x = match shp F x.toNat with | some p=>p.1 | none=>0:=by
 unfold clus shp
 cases F x.toNat <;> rfl
theorem Ue {F : ShM} {x : Int} : bkOf F x = match shp F x.toNat with | some p=>p.2 | none=>-1:=by
 unfold bkOf shp
 cases F x.toNat <;> rfl
theorem JZ {F : ShM} {x : Int} : ly F x↔0 <= x /\ x < 5 /\ (shp F x.toNat).isSome = true:=by
 unfold ly shp
 rw [Option.isSome_map]
 constructor
 ·rintro ⟨h1,h2,m,hm⟩; exact ⟨h1,h2,by rw [hm]; rfl⟩
 ·rintro ⟨h1,h2,h3⟩; exact ⟨h1,h2,Option.isSome_iff_exists.1 h3⟩
theorem Chn.keep {F F' : ShM} {C : Int} : ∀{l : List Int},Chn F C l -> (∀x∈l,shp F' x.toNat = shp F x.toNat) -> Chn F' C l:=by
 intro l
 induction l with
 | nil=>intro _ _; exact ⟨fun x hx=>by (cases hx),fun x hx=>by (cases hx),trivial⟩
 | cons x l ih=>
  intro h hs
  have h2:=ih (Chn.drop (p:=[x]) h) fun y hy=>hs y (List.mem_cons_of_mem _ hy)
  have hx:=hs x (List.mem_cons_self ..)
  refine ⟨?_,?_,?_,h2.ch⟩
  ·intro y hy
   rcases List.mem_cons.1 hy with rfl | hy
   ·have:=h.file y (List.mem_cons_self ..)
    rw [JZ] at this ⊢
    rwa [hx]
   ·exact h2.file y hy
  ·intro y hy
   rcases List.mem_cons.1 hy with rfl | hy
   ·rw [<- h.cl y (List.mem_cons_self ..),GA,GA,hx]
   ·exact h2.cl y hy
  ·rw [<- h.ch.1,Ue,Ue,hx]
theorem L1 {F F' : ShM} {root : Int} {l : List Int} (hr : ly F root) (h : lt F root = (l,0)) (hs : ∀x∈l,shp F' x.toNat = shp F x.toNat) : lt F' root = (l,0):=by
 have hc:=Gq (F:=F) (root:=root) (by rw [h])
 obtain ⟨s,hl⟩:=Ir hr (by rw [h])
 have h5:=Bl (F:=F) (root:=root)
 rw [h] at hc hl h5
 dsimp only at hc hl h5
 subst hl
 have hcl : clus F' root = clus F root:=by rw [GA,GA,hs root (List.mem_cons_self ..)]
 exact I2 (by rw [hcl]; exact hc.keep hs) h5
def oL (F F' : ShM) : Prop:=∀k,k < 5 -> shp F' k = shp F k
theorem oL.refl (F : ShM) : oL F F:=fun _ _=>rfl
theorem oL.trans {F G H : ShM} (h : oL F G) (g : oL G H) : oL F H:=fun k hk=>(g k hk).trans (h k hk)
theorem oL.put {F : ShM} {k : Nat} {m m' : ImgM} (h : F k = some m) (hc : m'.c = m.c) (hb : m'.b = m.b) : oL F (put F k m'):=fun j hj=>by
 unfold shp Go.Proofs.YtbpblokfiajpjabGreatDoor.put
 by_cases e : j = k
 ·subst e; rw [zt rfl,h]; simp [hc,hb]
 ·rw [zq e]
theorem oL.file {F F' : ShM} (h : oL F F') {x : Int} : ly F' x↔ly F x:=by
 rw [JZ,JZ]
 constructor
 ·rintro ⟨a,b,c⟩; exact ⟨a,b,by rw [<- h x.toNat (by omega)]; exact c⟩
 ·rintro ⟨a,b,c⟩; exact ⟨a,b,by rw [h x.toNat (by omega)]; exact c⟩
theorem oL.none {F F' : ShM} (h : oL F F') {k : Nat} (hk : k < 5) : F' k = none↔F k = none:=by
 have:=h k hk
 unfold shp at this
 constructor
 ·intro e; rw [e] at this; cases h2 : F k with
  | none=>rfl
  | some i=>rw [h2] at this; cases this
 ·intro e; rw [e] at this; cases h2 : F' k with
  | none=>rfl
  | some i=>rw [h2] at this; cases this
theorem lL.same {n : Nat} {F F' : ShM} (s : lL n F F') : oL F F':=fun k hk=>by
 unfold shp
 cases e : F k with
 | none=>rw [s.no k e]
 | some i=>
  obtain ⟨i',h1,h2,h3⟩:=s.yes k i hk e
  rw [h1]
  simp [h2.c,h3]
theorem FH (F : ShM) (k : Nat) : oL F (AV F k):=by
 unfold AV
 cases e : F k with
 | none=>exact oL.refl F
 | some i=>exact oL.put e rfl rfl
theorem BU : ∀{l : List Int} {F : ShM},oL F (yh F l):=by
 intro l
 induction l with
 | nil=>intro F; exact oL.refl F
 | cons x l ih=>intro F; exact (FH F x.toNat).trans ih
theorem LP {F F' : ShM} (h : oL F F') {root : Int} {l : List Int} (hr : ly F root) (hw : lt F root = (l,0)) : lt F' root = (l,0):=by
 refine L1 hr hw fun x hx=>?_
 have hc:=Gq (F:=F) (root:=root) (by rw [hw])
 rw [hw] at hc
 obtain ⟨h0,h1,-⟩:=hc.file x hx
 exact h x.toNat (by omega)
end Go.Proofs.YtbpblokfiajpjabGreatDoor
namespace Go.Proofs.YtbpblokfiajpjabGreatDoor
open Go.RowKit Go.SL Go.Crc
attribute [local go_sem ↓] Go.wp_at_zero Go.wp_at_succ
theorem QG {F : ShM} {x : Nat} {y : Int} {k : Nat} : (Bs F x y).2 k = none↔F k = none:=by
 unfold Bs
 cases e : F x with
 | none=>exact Iff.rfl
 | some i=>
  dsimp only
  unfold put
  by_cases h : k = x
  ·subst h; rw [zt rfl,e]; simp
  ·rw [zq h]
theorem Cl {F : ShM} {j : JobM} {k : Nat} (hk : k < 5) : (lA F j).2.1 k = none↔F k = none:=by
 unfold lA
 split
 ·exact Iff.rfl
 ·split
  ·split <;> exact QG
  ·split
   ·exact Iff.rfl
   ·exact BU.none hk
theorem Id {F : ShM} {j : JobM} (hf : ly F j.file) (hk : j.kind≠2) (h : (lA F j).1 = 0) : oL F (lA F j).2.1 /\ (lt F j.file).2 = 0 /\ (lt (lA F j).2.1 j.file).2 = 0:=by
 unfold lA at h ⊢
 by_cases h3 : j.st≠3
 ·rw [zt h3] at h; exact absurd h (by show ¬((9 : Int) = 0); decide)
 ·rw [zq h3,zq hk] at h ⊢
  by_cases hw : (lt F j.file).2≠0
  ·rw [zt hw] at h; exact absurd h hw
  ·rw [zq hw]
   have hw0 : (lt F j.file).2 = 0:=Decidable.not_not.1 hw
   have hs : oL F (yh F (lt F j.file).1):=BU
   exact ⟨hs,hw0,by rw [LP hs hf (l:=(lt F j.file).1) (by rw [<- hw0])]⟩
theorem Qy (N : Nat) (Y : YA) (m : lf) (hm : YOk N m) (hN : N < 890000) (R : List SL.HP) (w : World) (H : own w (yL Y m R)) :
  Calls Tryz.prog 50 #[.pointer (some ⟨Y.y,0,none⟩)] w (zH Y (AD m) R w):=by
 have HB:=zh (BB Y m R w H)
 generalize hres : AD m = res
 unfold AD at hres
 unfold y8 at HB
 cases hj : m.job with
 | none=>
  rw [hj] at HB hres
  dsimp only at HB hres
  subst hres
  clear hj
  go_enter Tryz.func50,Tryz.ntmps50
  go_wp2_with fail
  refine HB.out.mono ?_
  rintro e w' ⟨rfl,rfl⟩
  go_wp2_with fail
  go_ret
  exact ⟨Y,rfl,rfl,zR _,H⟩
 | some j=>
  rw [hj] at HB hres
  dsimp only at HB hres
  by_cases h4 : 4 <= j.st
  ·rw [zt h4] at hres
   subst hres
   rw [zf (by omega)] at HB
   clear hj h4
   go_enter Tryz.func50,Tryz.ntmps50
   go_wp2_with fail
   refine HB.out.mono ?_
   rintro e w' ⟨rfl,rfl⟩
   go_wp2_with fail
   go_ret
   exact ⟨Y,rfl,rfl,zR _,H⟩
  ·rw [zq h4] at hres
   rw [zg (by omega)] at HB
   obtain ⟨hS,hl,hk,hf,hr⟩:=hm.job j hj (by omega)
   have ck:=Cw H
   have cj:=An hj H
   by_cases h2 : m.dk.kind = 2
   ·rw [zt h2] at hres
    subst hres
    have d2 : (m.dk.kind == 2) = true:=by rw [h2]; rfl
    clear hj h4 h2 hk
    go_enter Tryz.func50,Tryz.ntmps50
    go_wp2_with fail
    refine HB.out.mono ?_
    rintro e w' ⟨rfl,rfl⟩
    go_wp2_with fail
    go_ret
    exact ⟨Y,rfl,rfl,zR _,H⟩
   ·rw [zq h2] at hres
    have d2 : (m.dk.kind == 2) = false:=by rw [zb]; exact h2
    have hkj : j.kind≠2:=by rw [hk]; exact h2
    have hff:=hS.file hkj
    have hv : ∀w' L,own w' (L++(row 3 1 Y.vj j.list.length (lo j.list)::((yT Y m).take 8++R))) -> lS w' Y.vj j.list:=fun w' L h=>l9 0 (lp L [row 3 1 Y.vj j.list.length (lo j.list)] h) rfl
    have HSE:=zh (JI Y.bs Y.A m.F N hm.sh (by omega) Y.bj Y.bt Y.bb Y.vj j (hm.jok j hj) hS (row 3 1 Y.vj j.list.length (lo j.list)::((yT Y m).take 8++R)) w hv (BO hj H))
    have hcode:=Bu m.F j
    have HPUT:=zh (fun w' h=>Bg (w:=w') (Y:=Y) (m:=m) (R:=R) (F':=(lA m.F j).2.1) (j':=(lA m.F j).2.2) hj (Cj m.F j).1 (fun k hk=>Cl hk) h)
    have hff5 : 0 <= m.dk.file /\ m.dk.file < 5:=by rw [<- hf]; exact ⟨hff.1,hff.2.1⟩
    have htw:=hm.tp.2.1
    have htp:=hm.tp.2.2.1
    have HO:=zh (fun (hc : (lA m.F j).1 = 0) R' w' h=>Lu Y { m with F:=(lA m.F j).2.1,job:=some (lA m.F j).2.2 } (N + 1) (BW hm.sh (by omega) (hm.jok j hj) hS) (by omega) hm.tp.1 (by dsimp only; omega) (by dsimp only; omega) (lA m.F j).2.2 rfl m.dk.file hff5 (by rw [<- hf]; exact (Id hff hkj hc).2.2) true R' w' h)
    have HN:=zh (fun R' w' h=>CN m.dk.file R' w' h)
    generalize lA m.F j = S at *
    obtain ⟨c,F2,j2⟩:=S
    dsimp only at hres HSE hcode HPUT HO
    have HRES:=zh hres
    clear hj h4 h2 hk hres hv hff hkj hS hl hr htw htp hm hff5 hf
    go_enter Tryz.func50,Tryz.ntmps50
    go_wp2_with fail
    refine HB.out.mono ?_
    rintro e w' ⟨rfl,rfl⟩
    go_wp2_with fail
    refine HSE.out.mono ?_
    rintro e w2 ⟨rfl,hx2,h2⟩
    have h3:=HPUT.out _ h2
    by_cases hc : c = 0
    ·have HO2:=zh (HO.out hc)
     clear HO
     subst hc
     rw [zq (by decide)] at HRES
     rw [oa]
     have cf:=CF h3
     clear h2 cj ck
     go_wp2_with fail
     refine (HN.out _ _ h3).mono ?_
     rintro e w4 ⟨rfl,hx4,h4⟩
     clear cf
     go_wp2_with fail
     refine (HO2.out _ _ h4).mono ?_
     rintro e w5 ⟨Y',hy,rfl,hx5,h5⟩
     go_wp2_with fail
     go_ret
     rw [<- HRES.out]
     exact ⟨Y',hy,rfl,(hx2.trans hx4).trans hx5,h5⟩
    ·rw [zt hc] at HRES
     rw [lx (e:=c) (by omega)]
     go_wp2_with fail
     go_ret
     rw [<- HRES.out]
     exact ⟨Y,rfl,by rw [lx (e:=c) (by omega)]; rfl,hx2,h3⟩
def BT (m : lf) (k : Nat) (d : DevM) : lf:=match m.F k with
 | some i=>{ m with F:=put m.F k { i with d:=d } }
 | none=>{ m with D:=setD m.D k d }
def B3 (Y : YA) (m : lf) (R : List SL.HP) (k : Nat) : List SL.HP:=match m.F k with
 | some i=>lP (Y.A k).1 (Y.A k).2.1 (Y.A k).2.2 i::(yL Y m R).eraseIdx (1 + k)
 | none=>(yL Y m R).set (7 + k) emp
theorem B1 {w : World} {P Q : SL.HP} {R : List SL.HP} (H : own w (P::Q::R)) : own w (Q::P::R):=lp [P] [Q] H
theorem Gu {Y : YA} {m : lf} {R : List SL.HP} {w : World} {k : Nat} (hk : k < 5) (H : own w (yL Y m R)) : own w (lm (Y.A k).2.1 (devOf m k)::B3 Y m R k):=by
 unfold devOf B3
 cases e : m.F k with
 | none=>exact DP hk e H
 | some i=>exact B1 (A1 hk e H)
theorem TD (Y : YA) (m : lf) {k : Nat} {i : ImgM} (h : m.F k = some i) (d : DevM) : yT Y { m with F:=put m.F k { i with d:=d } } = yT Y m:=by
 have hf : ∀j,oM Y.A (put m.F k { i with d:=d }) m.D j = oM Y.A m.F m.D j:=fun j=>by
  unfold oM put
  by_cases e : j = k
  ·subst e; rw [zt rfl,h]
  ·rw [zq e]
 unfold yT
 dsimp only
 rw [hf,hf,hf,hf,hf]
 rfl
theorem LK {Y : YA} {m : lf} {R : List SL.HP} {w0 w : World} {k : Nat} (hk : k < 5) {d : DevM} (H0 : own w0 (yL Y m R)) (H : own w (lm (Y.A k).2.1 d::B3 Y m R k)) : own w (yL Y (BT m k d) R):=by
 unfold BT
 unfold B3 at H
 cases e : m.F k with
 | none=>rw [e] at H; exact GL hk e H
 | some i=>
  rw [e] at H
  have h1:=B1 H
  have h2:=D8 (m':={ i with d:=d }) hk e H0 h1
  show own w (shL Y.bs Y.A (put m.F k { i with d:=d })++(yT Y { m with F:=put m.F k { i with d:=d } }++R))
  rw [TD Y m e d]
  exact h2
theorem NI (m : lf) (k : Nat) (n : Int) (hn : ¬((k : Int) < -1 \/ 5 <= (k : Int) \/ n < 0)) : armM m (k : Int) n = (0,BT m k { devOf m k with fail:=n }):=by
 unfold armM BT devOf
 rw [zq hn,zq (by omega),zn]
 cases m.F k <;> rfl
theorem SY (Y : YA) (m : lf) (file n : Int) (R : List SL.HP) (w : World) (H : own w (yL Y m R)) :
  Calls Tryz.prog 119 #[.pointer (some ⟨Y.y,0,none⟩),.int .i64 file,.int .i64 n] w (zH Y (armM m file n) R w):=by
 generalize hres : armM m file n = res
 by_cases hf : file < -1
 ·have hr : res = (1,m):=by rw [<- hres]; unfold armM; rw [zt (.inl hf)]
  clear hres
  subst hr
  go_enter Tryz.func119,Tryz.ntmps119
  go_wp2_with fail
  go_ret
  exact ⟨Y,rfl,rfl,zR w,H⟩
 ·by_cases hf5 : 5 <= file
  ·have hr : res = (1,m):=by rw [<- hres]; unfold armM; rw [zt (.inr (.inl hf5))]
   clear hres
   subst hr
   go_enter Tryz.func119,Tryz.ntmps119
   go_wp2_with fail
   go_ret
   exact ⟨Y,rfl,rfl,zR w,H⟩
  ·by_cases h1 : file = -1
   ·subst h1
    have ct:=y_tp H
    have HF:=zh (Nx Y.tp m.top n _ w (KG H))
    by_cases hn : n < 0
    ·have hr : res = (1,m):=by rw [<- hres]; unfold armM; rw [zt (.inr (.inr hn))]
     clear hres
     subst hr
     rw [zt hn,zt hn] at HF
     clear hf hf5
     go_enter Tryz.func119,Tryz.ntmps119
     go_wp2_with fail
     refine HF.out.mono ?_
     rintro e w2 ⟨rfl,hx2,h2⟩
     go_wp2_with fail
     go_ret
     exact ⟨Y,rfl,rfl,hx2,oo H 12 rfl h2⟩
    ·have hr : res = (0,{ m with top:={ m.top with fail:=n } }):=by rw [<- hres]; unfold armM; rw [zq (by omega),zt rfl]
     clear hres
     subst hr
     rw [zq hn,zq hn] at HF
     clear hf hf5 hn
     go_enter Tryz.func119,Tryz.ntmps119
     go_wp2_with fail
     refine HF.out.mono ?_
     rintro e w2 ⟨rfl,hx2,h2⟩
     go_wp2_with fail
     go_ret
     exact ⟨Y,rfl,rfl,hx2,L8 H h2⟩
   ·obtain ⟨k,rfl⟩ : ∃k : Nat,file = (k : Int):=⟨file.toNat,by omega⟩
    have hk : k < 5:=by omega
    have i0 : (0 : Int) <= (k : Int):=by omega
    have i1 : (k : Int) < 5:=by omega
    have d1 : ((k : Int) == -1) = false:=by rw [zb]; exact h1
    have ct:=BH H hk
    have HF:=zh (Nx (Y.A k).2.1 (devOf m k) n _ w (Gu hk H))
    by_cases hn : n < 0
    ·have hr : res = (1,m):=by rw [<- hres]; unfold armM; rw [zt (.inr (.inr hn))]
     clear hres
     subst hr
     rw [zt hn,zt hn] at HF
     have hsm : BT m k (devOf m k) = m:=by
      unfold BT devOf
      cases e : m.F k with
      | none=>rw [show setD m.D k (m.D k) = m.D from funext fun j=>by unfold setD; split <;> simp_all]
      | some i=>dsimp only; rw [EY e]
     have HS:=zh hsm
     clear hsm h1
     go_enter Tryz.func119,Tryz.ntmps119
     go_wp2_with fail
     refine HF.out.mono ?_
     rintro e w2 ⟨rfl,hx2,h2⟩
     have h3:=LK hk H h2
     rw [HS.out] at h3
     go_wp2_with fail
     go_ret
     exact ⟨Y,rfl,rfl,hx2,h3⟩
    ·rw [NI m k n (by omega)] at hres
     subst hres
     rw [zq hn,zq hn] at HF
     clear hn h1
     go_enter Tryz.func119,Tryz.ntmps119
     go_wp2_with fail
     refine HF.out.mono ?_
     rintro e w2 ⟨rfl,hx2,h2⟩
     go_wp2_with fail
     go_ret
     exact ⟨Y,rfl,rfl,hx2,LK hk H h2⟩
theorem OG (Y : YA) (m : lf) (hm : ∀j,m.job = some j -> j.Ok) (R : List SL.HP) (w : World) (H : own w (yL Y m R)) :
  Calls Tryz.prog 47 #[.pointer (some ⟨Y.y,0,none⟩)] w fun e w'=>e = .returned (F4 m) /\ Ext w w' /\ own w' (yL Y m R):=by
 have hb:=IW (.cells #[.int .i64 0,.int .i64 0,.int .i64 0,.int .i64 0] 47) H
 have hxb:=(zR w).alloc (.cells #[.int .i64 0,.int .i64 0,.int .i64 0,.int .i64 0] 47)
 unfold F4
 cases hj : m.job with
 | none=>
  have cj:=Gr hb
  rw [hj] at cj
  change World.cell? _ ⟨Y.y,13,none⟩ = some (.pointer none) at cj
  dsimp only
  clear hj
  go_enter Tryz.func47,Tryz.ntmps47
  go_upto_region 1 with (fail)
  generalize w.heap.size = g at *
  generalize w.alloc (.cells #[.int .i64 0,.int .i64 0,.int .i64 0,.int .i64 0] 47) = w1 at *
  obtain ⟨cg,fg⟩:=ld 15 hb rfl
  go_wp2_with fail
  have h5:=lg (i:=3) (v:=.int .i64 0) 15 (lg (i:=2) (v:=.int .i64 0) 15 (lg (i:=1) (v:=.int .i64 (-1)) 15 (lg (i:=0) (v:=.int .i64 0) 15 hb rfl) rfl) rfl) rfl
  obtain ⟨c3,-⟩:=ld 15 h5 rfl
  refine bodyPost_ret (AQ rfl _ _ g 0 (-1) 0 0 rfl (c3 0) (c3 1) (c3 2) (c3 3)) rfl ?_
  exact ⟨rfl,(((hxb.setCell _ _).setCell _ _).setCell _ _).setCell _ _,lh 15 h5 rfl⟩
 | some j=>
  have cj:=An hj hb
  have HST:=zh (fun R' w' (h : own w' (yL Y m R'))=>Jx Y.bs Y.bj Y.bt Y.bb Y.vj j (hm j hj) _ w' (lp (shL Y.bs Y.A m.F) (jobL Y.bs Y.bj Y.bt Y.bb Y.vj j) (BO hj h)))
  have HCL:=zh (fun R' w' h=>I0 (Y:=Y) (m:=m) (R:=R') (w:=w') hj h)
  dsimp only
  unfold C0 at HST ⊢
  generalize (cnt j.x : Nat) = q at *
  clear hj
  go_enter Tryz.func47,Tryz.ntmps47
  go_upto_region 1 with (fail)
  generalize w.heap.size = g at *
  generalize w.alloc (.cells #[.int .i64 0,.int .i64 0,.int .i64 0,.int .i64 0] 47) = w1 at *
  go_wp2_with fail
  refine (HST.out _ _ hb).mono ?_
  rintro e w2 ⟨rfl,hx2,h2⟩
  have h3:=HCL.out _ _ (lp (jobL Y.bs Y.bj Y.bt Y.bb Y.vj j) (shL Y.bs Y.A m.F) h2)
  obtain ⟨cg,fg⟩:=ld 15 h3 rfl
  have g0:=cg 0
  have g1:=cg 1
  have g2:=cg 2
  have g3:=cg 3
  clear cj
  go_wp2_with fail
  have h5:=lg (i:=3) (v:=.int .i64 (q : Int)) 15 (lg (i:=2) (v:=.int .i64 j.st) 15 (lg (i:=1) (v:=.int .i64 j.file) 15 (lg (i:=0) (v:=.int .i64 j.kind) 15 h3 rfl) rfl) rfl) rfl
  obtain ⟨c3,-⟩:=ld 15 h5 rfl
  refine bodyPost_ret (AQ rfl _ _ g j.kind j.file j.st (q : Int) rfl (c3 0) (c3 1) (c3 2) (c3 3)) rfl ?_
  exact ⟨rfl,((((hxb.trans hx2).setCell _ _).setCell _ _).setCell _ _).setCell _ _,lh 15 h5 rfl⟩
def zQ (m : lf) (fr : Int) (s : ByteArray) : Int×lf:=
 if s.size % 16≠0 \/ lV m.F m.list fr ((s.size / 16 : Nat) : Int)≠0 then (1,m)
 else ((putM m.F m.list fr s).1,yN { m with F:=(putM m.F m.list fr s).2 } fr ((s.size / 16 : Nat) : Int))
def Aa (m : lf) (fr n : Int) : Int×lf:=
 if lV m.F m.list fr n≠0 then (1,m)
 else ((zM m.F m.list fr n).1,yN { m with F:=(zM m.F m.list fr n).2 } fr n)
theorem YOk.head {N : Nat} {m : lf} (h : YOk N m) : ∃s,m.list = m.dk.root::s:=by
 obtain ⟨s,hs⟩:=Ir h.root (by rw [h.walk])
 rw [h.walk] at hs
 exact ⟨s,hs⟩
theorem YOk.files {N : Nat} {m : lf} (h : YOk N m) : ∀x∈m.list,ly m.F x:=by
 have:=Ak m.F m.dk.root
 rw [h.walk] at this
 exact this
theorem FG {N : Nat} {m : lf} (h : YOk N m) (fr n : Int) : lV m.F m.list fr n = if 0 <= fr /\ 0 <= n /\ fr <= clus m.F m.dk.root * 4 /\ n <= clus m.F m.dk.root * 4 - fr then 0 else 1:=by
 obtain ⟨s,hs⟩:=h.head
 unfold lV
 rw [hs]
 simp only [List.length_cons,List.getD_cons_zero]
 rw [zq (by omega)]
 by_cases hc : 0 <= fr /\ 0 <= n /\ fr <= clus m.F m.dk.root * 4 /\ n <= clus m.F m.dk.root * 4 - fr
 ·rw [zt hc,zq (by omega)]
 ·rw [zq hc,zt (by omega)]
theorem yT_F (Y : YA) (m : lf) (F' : ShM) (hn : ∀k,k < 5 -> (F' k = none↔m.F k = none)) : yT Y { m with F:=F' } = yT Y m:=by
 have hf : ∀k,k < 5 -> oM Y.A F' m.D k = oM Y.A m.F m.D k:=fun k hk=>by
  unfold oM
  cases e : m.F k with
  | none=>rw [(hn k hk).2 e]
  | some i=>
   cases e' : F' k with
   | none=>exact absurd ((hn k hk).1 e') (by rw [e]; exact fun h=>by cases h)
   | some i'=>rfl
 unfold yT
 dsimp only
 rw [hf 0 (by decide),hf 1 (by decide),hf 2 (by decide),hf 3 (by decide),hf 4 (by decide)]
 rfl
theorem y_F {Y : YA} {m : lf} {F' : ShM} {R : List SL.HP} {w : World} (hn : ∀k,k < 5 -> (F' k = none↔m.F k = none)) (H : own w (shL Y.bs Y.A F'++(yT Y m++R))) : own w (yL Y { m with F:=F' } R):=by
 show own w (shL Y.bs Y.A F'++(yT Y { m with F:=F' }++R))
 rw [yT_F Y m F' hn]
 exact H
theorem y_hv {Y : YA} {m : lf} {R : List SL.HP} : ∀w' L,own w' (L++(yT Y m++R)) -> lS w' Y.v m.list:=fun w' L h=>l9 7 (lp L (yT Y m) h) rfl
theorem Fi (N : Nat) (Y : YA) (m : lf) (hm : YOk N m) (hN : N < 900000) (R : List SL.HP) (w : World) (H : own w (yL Y m R)) :
  Calls Tryz.prog 43 #[.pointer (some ⟨Y.y,0,none⟩)] w fun e w'=>e = .returned (.int .i64 (clus m.F m.dk.root * 4)) /\ Ext w w' /\ own w' (yL Y m R):=by
 obtain ⟨r,mr,hxr,hr,hFr⟩:=lT hm.root
 have hcl : clus m.F m.dk.root = mr.c:=by rw [hxr]; exact yr hFr
 have hcr:=zI (hm.sh.sh hN) hm.root
 rw [hcl] at hcr ⊢
 have HH:=zh (fun R' w' h=>Bc (b:=Y.bs) (A:=Y.A) hr hFr R' w' h)
 have HS:=zh (fun w' (h : own w' (yL Y m R))=>(⟨y_bs h,by rw [<- hxr]; exact yS h,by rw [oA h hr,od hFr]⟩ : w'.cell? ⟨Y.y,6,none⟩ = some (.pointer (some ⟨Y.bs,0,none⟩)) /\ w'.cell? ⟨Y.y,7,none⟩ = some (.int .i64 (r : Int)) /\ w'.cell? ⟨Y.bs,r,none⟩ = some (.pointer (some ⟨(Y.A r).1,0,none⟩))))
 have r0 : (0 : Int) <= (r : Int):=by omega
 have r5 : (r : Int) < 5:=by omega
 have c1 : (1 : Int) <= mr.c:=hcr.1
 have c2 : mr.c <= 32:=hcr.2
 have f0:=DB mr.c mr.p mr.b
 have e1 : IntKind.i64.wrap (mr.c * 4) = mr.c * 4:=zi _ (by omega)
 unfold lM at HH
 have hz:=lj H
 have hxz:=(zR w).drew
 clear hcl hxr hcr hm
 go_enter Tryz.func43,Tryz.ntmps43
 go_upto_region 1 with (fail)
 go_region_held3 (fun w'=>w'.cell? ⟨Y.y,6,none⟩ = some (.pointer (some ⟨Y.bs,0,none⟩)) /\ w'.cell? ⟨Y.y,7,none⟩ = some (.int .i64 (r : Int)) /\ w'.cell? ⟨Y.bs,r,none⟩ = some (.pointer (some ⟨(Y.A r).1,0,none⟩))) (exact HS.out _ hz) ((go_at_call 71; refine (HH.out _ _ hz).mono ?_; rintro e w5 ⟨rfl,hx5,hz'⟩; have hxz:=hxz.trans hx5; have hz:=hz'))
 all_goals
  go_wp2_with fail
  go_ret
  exact ⟨rfl,hxz,hz⟩
def Gf (c4 fr n : Int) : Bool:=decide (0 <= fr /\ 0 <= n /\ fr <= c4 /\ n <= c4 - fr)
theorem Jh (N : Nat) (Y : YA) (m : lf) (hm : YOk N m) (hN : N < 900000) (fr n : Int) (R : List SL.HP) (w : World) (H : own w (yL Y m R)) :
  Calls Tryz.prog 193 #[.pointer (some ⟨Y.y,0,none⟩),.int .i64 fr,.int .i64 n] w fun e w'=>e = .returned (.bool (Gf (clus m.F m.dk.root * 4) fr n)) /\ Ext w w' /\ own w' (yL Y m R):=by
 have HSE:=zh (Fi N Y m hm hN R w H)
 have hcr:=zI (hm.sh.sh hN) hm.root
 have hc0 : 0 <= clus m.F m.dk.root * 4:=by omega
 have hc1 : clus m.F m.dk.root * 4 <= 128:=by omega
 clear hcr
 generalize clus m.F m.dk.root * 4 = c4 at *
 generalize hw : Gf c4 fr n = wb at *
 unfold Gf at hw
 by_cases q1 : 0 <= fr
 ·by_cases q2 : 0 <= n
  ·by_cases q3 : fr <= c4
   ·by_cases q4 : n <= c4 - fr
    ·have HW : Hid (wb = true):=zh (by rw [<- hw]; exact zg ⟨q1,q2,q3,q4⟩)
     clear hw hm
     have e1 : IntKind.i64.wrap (c4 - fr) = c4 - fr:=zi _ (by omega)
     go_enter Tryz.func193,Tryz.ntmps193
     go_wp2_with fail
     refine HSE.out.mono ?_
     rintro e w2 ⟨rfl,hx2,h2⟩
     go_wp2_with fail
     go_ret
     exact ⟨by rw [HW.out]; rfl,hx2,h2⟩
    ·have HW : Hid (wb = false):=zh (by rw [<- hw]; exact zf fun h=>q4 h.2.2.2)
     have d4 : decide (n <= c4 - fr) = false:=zf q4
     clear hw hm
     have e1 : IntKind.i64.wrap (c4 - fr) = c4 - fr:=zi _ (by omega)
     go_enter Tryz.func193,Tryz.ntmps193
     go_wp2_with fail
     refine HSE.out.mono ?_
     rintro e w2 ⟨rfl,hx2,h2⟩
     go_wp2_with fail
     go_ret
     exact ⟨by rw [HW.out]; rfl,hx2,h2⟩
   ·have HW : Hid (wb = false):=zh (by rw [<- hw]; exact zf fun h=>q3 h.2.2.1)
    clear hw hm
    go_enter Tryz.func193,Tryz.ntmps193
    go_wp2_with fail
    refine HSE.out.mono ?_
    rintro e w2 ⟨rfl,hx2,h2⟩
    go_wp2_with fail
    go_ret
    exact ⟨by rw [HW.out]; rfl,hx2,h2⟩
  ·have HW : Hid (wb = false):=zh (by rw [<- hw]; exact zf fun h=>q2 h.2.1)
   clear hw hm
   go_enter Tryz.func193,Tryz.ntmps193
   go_wp2_with fail
   refine HSE.out.mono ?_
   rintro e w2 ⟨rfl,hx2,h2⟩
   go_wp2_with fail
   go_ret
   exact ⟨by rw [HW.out]; rfl,hx2,h2⟩
 ·have HW : Hid (wb = false):=zh (by rw [<- hw]; exact zf fun h=>q1 h.1)
  clear hw hm
  go_enter Tryz.func193,Tryz.ntmps193
  go_wp2_with fail
  refine HSE.out.mono ?_
  rintro e w2 ⟨rfl,hx2,h2⟩
  go_wp2_with fail
  go_ret
  exact ⟨by rw [HW.out]; rfl,hx2,h2⟩
theorem VT (j : JobM) : (zu j).x = j.x:=by
 unfold zu
 split
 ·rfl
 ·split <;> rfl
theorem Q1 (j : JobM) : zu (zu j) = zu j:=by
 have h : ∀j : JobM,zu j = if j.st = 1 /\ cnt j.x = 0 then { j with st:=3 } else if j.st = 3 /\ 0 < cnt j.x then { j with st:=1 } else j:=fun _=>rfl
 rw [h j]
 by_cases h1 : j.st = 1 /\ cnt j.x = 0
 ·rw [zt h1,h]
  dsimp only
  rw [zq (by omega),zq (by omega)]
 ·rw [zq h1]
  by_cases h2 : j.st = 3 /\ 0 < cnt j.x
  ·rw [zt h2,h]
   dsimp only
   rw [zq (by omega),zq (by omega)]
  ·rw [zq h2,h,zq h1,zq h2]
theorem T3 (n x : Nat) (c : Int) : (og n (og n x c true).2 c true).2 = (og n x c true).2:=by
 unfold og
 by_cases h : 0 <= c /\ c < n /\ x.testBit c.toNat≠true
 ·rw [zt h]
  dsimp only
  rw [zq]
  rintro ⟨-,-,h3⟩
  apply h3
  rw [Nat.testBit_xor,Nat.testBit_two_pow_self]
  have:=h.2.2
  simp only [Bool.not_eq_true] at this
  rw [this]
  rfl
 ·rw [zq h]
  dsimp only
  rw [zq h]
theorem Tj {j : JobM} (h : j.st < 4) : (zu j).st < 4:=by
 unfold zu
 split
 ·simp
 ·split
  ·simp
  ·exact h
theorem OU (j : JobM) (c : Int) : zL (zL j c) c = zL j c:=by
 have hd : ∀j : JobM,zL j c = if j.st < 4 /\ j.kind≠2 then zu { j with x:=(og j.n j.x c true).2 } else j:=fun _=>rfl
 rw [hd j]
 by_cases h : j.st < 4 /\ j.kind≠2
 ·rw [zt h,hd]
  have hs:=Kk { j with x:=(og j.n j.x c true).2 }
  have hx:=VT { j with x:=(og j.n j.x c true).2 }
  have hi:=Q1 { j with x:=(og j.n j.x c true).2 }
  have h4:=Tj (j:={ j with x:=(og j.n j.x c true).2 }) h.1
  generalize zu { j with x:=(og j.n j.x c true).2 } = J at *
  obtain ⟨-,hk,-,-,hn⟩:=hs
  dsimp only at hk hn hx
  rw [zt ⟨h4,by rw [hk]; exact h.2⟩]
  have hb:=T3 j.n j.x c
  rw [<- hx,<- hn] at hb
  rw [hb]
  exact hi
 ·rw [zq h,hd,zq h]
theorem DZ : ∀(n : Nat) (j : JobM) (c : Int),oe j c (n + 1) = zL (oe j c n) (c + n):=by
 intro n
 induction n with
 | zero=>intro j c; rw [oe,oe,oe]; simp
 | succ n ih=>
  intro j c
  rw [oe,ih,oe]
  congr 1
  push_cast
  omega
theorem IN : ∀(n : Nat) {j : JobM} (_ : j.Ok) (c : Int),(oe j c n).Ok:=by
 intro n
 induction n with
 | zero=>intro j h c; exact h
 | succ n ih=>intro j h c; rw [oe]; exact ih (TH h c) _
theorem Cz : ∀(n : Nat) (j : JobM) (c : Int),zm j (oe j c n):=by
 intro n
 induction n with
 | zero=>intro j c; exact zm.refl j
 | succ n ih=>
  intro j c
  rw [oe]
  obtain ⟨a1,a2,a3,a4,a5⟩:=ih (zL j c) (c + 1)
  obtain ⟨b1,b2,b3,b4,b5⟩:=OA j c
  exact ⟨a1.trans b1,a2.trans b2,a3.trans b3,a4.trans b4,a5.trans b5⟩
theorem Qs (a : Nat) : (a : Int).tdiv 4 = ((a / 4 : Nat) : Int):=rfl
theorem KO (m : lf) {j : JobM} (hj : m.job = some j) (a b : Nat) (hb : b≠0) : yN m (a : Int) (b : Int) = { m with job:=some (oe j ((a / 4 : Nat) : Int) ((a + b - 1) / 4 - a / 4 + 1)) }:=by
 unfold yN
 rw [hj]
 dsimp only
 rw [zq (by omega)]
 have h1 : (a : Int) / 4 = ((a / 4 : Nat) : Int):=by omega
 have h2 : (((a : Int) + (b : Int) - 1) / 4 - (a : Int) / 4 + 1).toNat = (a + b - 1) / 4 - a / 4 + 1:=by omega
 rw [h1] at *
 rw [h2]
theorem Ke (Y : YA) (m : lf) (hm : ∀j,m.job = some j -> j.Ok) (a b : Nat) (hab : a + b <= 200) (R : List SL.HP) (w : World) (H : own w (yL Y m R)) :
  Calls Tryz.prog 195 #[.pointer (some ⟨Y.y,0,none⟩),.int .i64 (a : Int),.int .i64 (b : Int)] w fun e w'=>e = .returned (.tuple #[]) /\ Ext w w' /\ own w' (yL Y (yN m (a : Int) (b : Int)) R):=by
 cases hj : m.job with
 | none=>
  have cj:=Gr H
  rw [hj] at cj
  change w.cell? ⟨Y.y,13,none⟩ = some (.pointer none) at cj
  have hd : yN m (a : Int) (b : Int) = m:=by unfold yN; rw [hj]
  rw [hd]
  clear hj hd
  go_enter Tryz.func195,Tryz.ntmps195
  go_wp2_with fail
  refine bodyPost_ret (results_none rfl _ _ _) rfl ?_
  exact ⟨rfl,zR w,H⟩
 | some j=>
  have cj:=An hj H
  by_cases hb : b = 0
  ·have hd : yN m (a : Int) (b : Int) = m:=by unfold yN; rw [hj]; dsimp only; rw [zt (by omega)]
   rw [hd]
   clear hd hj
   subst hb
   go_enter Tryz.func195,Tryz.ntmps195
   go_wp2_with fail
   refine bodyPost_ret (results_none rfl _ _ _) rfl ?_
   exact ⟨rfl,zR w,H⟩
  ·rw [KO m hj a b hb]
   have b1 : ((b : Int) == 0) = false:=by rw [zb]; omega
   have t1:=Qs a
   have t2 : ((a : Int) + (b : Int) - 1).tdiv 4 = (((a + b - 1) / 4 : Nat) : Int):=by rw [show (a : Int) + (b : Int) - 1 = ((a + b - 1 : Nat) : Int) by omega]; exact Qs _
   have h0 : own w (yL Y { m with job:=some (oe j ((a / 4 : Nat) : Int) 0) } R):=by
    have e : ({ m with job:=some (oe j ((a / 4 : Nat) : Int) 0) } : lf) = m:=by rw [show oe j ((a / 4 : Nat) : Int) 0 = j from rfl,<- hj]
    rw [e]; exact H
   have H0:=zh h0
   have hok:=hm j hj
   have HOK:=zh hok
   have hle : a / 4 <= (a + b - 1) / 4:=by omega
   have hlt5 : (a + b - 1) / 4 < 50:=by omega
   clear hj hm hok h0 H
   generalize hp : a / 4 = p at *
   generalize hq : (a + b - 1) / 4 = z at *
   have a0 : (0 : Int) <= (a : Int):=by omega
   have a1 : (a : Int) <= 200:=by omega
   have b0 : (0 : Int) <= (b : Int):=by omega
   have b2 : (b : Int) <= 200:=by omega
   clear hp hq hb
   go_enter Tryz.func195,Tryz.ntmps195
   go_wp2_with fail
   go_loopw [6] (fun cv wr=>∃q : Nat,q <= z - p + 1 /\ cv = .int .i64 ((p + q : Nat) : Int) /\ Ext w wr /\ own wr (yL Y { m with job:=some (oe j (p : Int) q) } R)) (fun cv _=>z + 1 - (intOf cv).toNat)
   case atStart=>exact ⟨0,Nat.zero_le _,rfl,zR w,H0.out⟩
   case round=>
    clear cj H0
    obtain ⟨q,hq,rfl,hxr,hown⟩:=hrel
    have cj:=An (m:={ m with job:=some (oe j (p : Int) q) }) rfl hown
    by_cases hlt : q < z - p + 1
    ·have j1 : ((p + q : Nat) : Int) <= (z : Int):=by omega
     have j0 : (0 : Int) <= ((p + q : Nat) : Int):=by omega
     have j2 : ((p + q : Nat) : Int) <= 50:=by omega
     have HD:=zh (Qz Y.bs Y.bj Y.bt Y.bb Y.vj (oe j (p : Int) q) (IN q HOK.out (p : Int)) ((p + q : Nat) : Int) _ wr (lp (shL Y.bs Y.A m.F) (jobL Y.bs Y.bj Y.bt Y.bb Y.vj (oe j (p : Int) q)) (BO (m:={ m with job:=some (oe j (p : Int) q) }) rfl hown)))
     have HN : Hid (zL (oe j (p : Int) q) ((p + q : Nat) : Int) = oe j (p : Int) (q + 1)):=zh (by rw [DZ]; push_cast; rfl)
     have HSM : Hid ((oe j (p : Int) (q + 1)).list = (oe j (p : Int) q).list):=zh ((Cz (q + 1) j p).1.trans (Cz q j p).1.symm)
     generalize hcc : ((p + q : Nat) : Int) = cc at *
     have HCE:=zh hcc
     clear hcc
     go_wp2_with fail
     refine HD.out.mono ?_
     rintro e w3 ⟨rfl,hx3,h3⟩
     rw [HN.out] at h3
     have h4 : own w3 (yL Y { m with job:=some (oe j (p : Int) (q + 1)) } R):=Bg (m:={ m with job:=some (oe j (p : Int) q) }) rfl HSM.out (fun _ _=>Iff.rfl) (lp (jobL Y.bs Y.bj Y.bt Y.bb Y.vj (oe j (p : Int) (q + 1))) (shL Y.bs Y.A m.F) h3)
     go_wp2_with fail
     go_roundw
     case rel=>exact ⟨q + 1,by omega,congrArg (Value.int .i64) (by have:=HCE.out; omega),hxr.trans hx3,h4⟩
     case measure=>
      have:=HCE.out
      show z + 1 - (cc + 1).toNat < z + 1 - cc.toNat
      omega
    ·obtain rfl : q = z - p + 1:=by omega
     have j1 : ¬((p + (z - p + 1) : Nat) : Int) <= (z : Int):=by omega
     go_wp2_with fail
     go_end0
     exact ⟨rfl,hxr,hown⟩
end Go.Proofs.YtbpblokfiajpjabGreatDoor
