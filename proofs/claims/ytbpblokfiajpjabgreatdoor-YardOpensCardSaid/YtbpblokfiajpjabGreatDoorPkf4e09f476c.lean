/- Lemmas on which YardOpens stands: the texts Yard8 Yard9 Jobs13 Jobs13a Jobs13b Jobs13c Jobs14 Jobs15 Chain21 Jobs16 JobsSaysLaw. No conditions. -/
import Derived.Test.YtbpblokfiajpjabGreatDoorPk31351b6c4d
import Derived.Test.YtbpblokfiajpjabGreatDoorProg
set_option linter.all false
set_option maxRecDepth 1000000
set_option maxHeartbeats 32000000
namespace Go.Proofs.YtbpblokfiajpjabGreatDoor
open Go.RowKit Go.SL Go.Crc
attribute [local go_sem ↓] Go.wp_at_zero Go.wp_at_succ
theorem It (N : Nat) (Y : YA) (m : lf) (hm : YOk N m) (hN : N < 900000) (fr n : Int) (hfr : lN fr) (hn : lN n) (R : List SL.HP) (w : World) (H : own w (yL Y m R)) :
  Calls Tryz.prog 42 #[.pointer (some ⟨Y.y,0,none⟩),.int .i64 fr,.int .i64 n] w fun e w'=>e = .returned (.tuple #[.string (getM m.F m.list fr n).1,errV (getM m.F m.list fr n).2]) /\ Ext w w' /\ own w' (yL Y m R):=by
 have HG:=zh (fun w' h=>VF Y.bs Y.A m.F (hm.sh.sh hN) Y.v m.list hm.files hm.list5 fr n hfr hn (yT Y m++R) w' y_hv h)
 have HS:=zh (fun w' (h : own w' (yL Y m R))=>(⟨y_bs h,BO h⟩ : w'.cell? ⟨Y.y,6,none⟩ = some (.pointer (some ⟨Y.bs,0,none⟩)) /\ w'.cell? ⟨Y.y,12,none⟩ = some Y.v))
 have hz:=lj H
 have hxz:=(Ext.refl w).drew
 generalize getM m.F m.list fr n = S at *
 obtain ⟨s,c⟩:=S
 dsimp only at HG ⊢
 clear hm hfr hn
 go_enter Tryz.func42,Tryz.ntmps42
 go_upto_region 1 with (fail)
 go_region_held3 (fun w'=>w'.cell? ⟨Y.y,6,none⟩ = some (.pointer (some ⟨Y.bs,0,none⟩)) /\ w'.cell? ⟨Y.y,12,none⟩ = some Y.v) (exact HS.out _ hz) ((go_at_call 142; refine (HG.out _ hz).mono ?_; rintro e w5 ⟨rfl,hx5,hz'⟩; have hxz:=hxz.trans hx5; have hz:=hz'))
 all_goals
  go_wp2_with fail
  go_ret2
  exact ⟨rfl,hxz,hz⟩
theorem yokF {N : Nat} {m : lf} (hm : YOk N m) {F' : ShM} {n : Nat} (s : lI n m.F F') : ∀k,k < 5 -> (F' k = none↔m.F k = none):=fun k hk=>s.same.none hk
theorem EZ {N : Nat} {m : lf} (hm : YOk N m) : topI m.list < 5:=by
 obtain ⟨s,hs⟩:=hm.head
 obtain ⟨k,i,hx,hk,-⟩:=lT hm.root
 unfold topI
 rw [hs,List.getD_cons_zero,hx]
 omega
theorem LJ (N : Nat) (Y : YA) (m : lf) (hm : YOk N m) (hN : N + 1000 < 900000) (fr n : Int) (hfr : lN fr) (hn : lN n) (R : List SL.HP) (w : World) (H : own w (yL Y m R)) :
  Calls Tryz.prog 104 #[.pointer (some ⟨Y.y,0,none⟩),.int .i64 fr,.int .i64 n] w (zm Y (zL m fr n) R w):=by
 have HWI:=zh (IW N Y m hm (by omega) fr n R w H)
 generalize hres : zL m fr n = res
 unfold zL at hres
 have hwy:=Fm hm fr n
 have hcr:=zB (hm.sh.sh (by omega)) hm.root
 by_cases hc : 0 <= fr /\ 0 <= n /\ fr <= clus m.F m.dk.root * 4 /\ n <= clus m.F m.dk.root * 4 - fr
 ·rw [if_pos hc] at hwy
  rw [if_neg (by rw [hwy]; exact fun h=>h rfl)] at hres
  have hb : FH (clus m.F m.dk.root * 4) fr n = true:=decide_eq_true hc
  rw [hb] at HWI
  obtain ⟨a,rfl⟩ : ∃a : Nat,fr = (a : Int):=⟨fr.toNat,by omega⟩
  obtain ⟨b,rfl⟩ : ∃b : Nat,n = (b : Int):=⟨n.toNat,by omega⟩
  have hab : a + b <= 200:=by omega
  have hst:=D8 hm.sh (EZ hm) (by omega) (a : Int) (b : Int) (by omega)
  have HP:=zh (fun w' h=>SW Y.bs Y.A m.F N hm.sh (by omega) Y.v m.list hm.files hm.list5 (a : Int) (b : Int) hfr hn (yT Y m++R) w' y_hv h)
  have hcode : 0 <= (zt m.F m.list (a : Int) (b : Int)).1:=J2 m.F m.list (a : Int) (b : Int)
  have HF:=zh (yokF hm hst)
  have HJ:=zh hm.jok
  have HS:=zh (fun (m' : lf) w' (h : own w' (yL Y m' R))=>(⟨y_bs h,BO h⟩ : w'.cell? ⟨Y.y,6,none⟩ = some (.pointer (some ⟨Y.bs,0,none⟩)) /\ w'.cell? ⟨Y.y,12,none⟩ = some Y.v))
  generalize zt m.F m.list (a : Int) (b : Int) = S at *
  obtain ⟨c,F2⟩:=S
  dsimp only at HP HF hres hcode
  have HRES:=zh hres
  have HD:=zh (fun w' h=>Kf Y { m with F:=F2 } HJ.out a b hab R w' h)
  clear hm hfr hn hres hc hwy hb hst hcr
  go_enter Tryz.func104,Tryz.ntmps104
  go_wp2_with fail
  refine HWI.out.mono ?_
  rintro e w2 ⟨rfl,hx2,h2⟩
  have hz:=lj h2
  have hxz:=hx2.drew
  go_upto_region 3 with (fail)
  clear h2 hx2
  have hg : (fun w' : World=>w'.cell? ⟨Y.y,6,none⟩ = some (.pointer (some ⟨Y.bs,0,none⟩)) /\ w'.cell? ⟨Y.y,12,none⟩ = some Y.v) w2.drew:=HS.out _ _ hz
  go_region_held3 (fun w'=>w'.cell? ⟨Y.y,6,none⟩ = some (.pointer (some ⟨Y.bs,0,none⟩)) /\ w'.cell? ⟨Y.y,12,none⟩ = some Y.v) (exact hg) ((go_at_call 207; refine (HP.out _ hz).mono ?_; rintro e w5 ⟨rfl,hx5,hz'⟩; have hxz:=hxz.trans hx5; have hz:=y_F HF.out hz'; have hg:=HS.out _ _ hz))
  all_goals
   clear hg
   go_wp2_with fail
   refine (HD.out _ hz).mono ?_
   rintro e w6 ⟨rfl,hx6,h6⟩
   go_wp2_with fail
   go_ret
   rw [<- HRES.out]
   exact ⟨Y,rfl,rfl,hxz.trans hx6,h6⟩
 ·rw [if_neg hc] at hwy
  rw [if_pos (by rw [hwy]; decide)] at hres
  have hb : FH (clus m.F m.dk.root * 4) fr n = false:=decide_eq_false hc
  rw [hb] at HWI
  subst hres
  clear hm hfr hn hc hwy hb hcr
  go_enter Tryz.func104,Tryz.ntmps104
  go_wp2_with fail
  refine HWI.out.mono ?_
  rintro e w2 ⟨rfl,hx2,h2⟩
  go_wp2_with fail
  go_ret
  exact ⟨Y,rfl,rfl,hx2,h2⟩
theorem O7 (N : Nat) (Y : YA) (m : lf) (hm : YOk N m) (hN : N + 1000 < 900000) (fr : Int) (hfr : lN fr) (s : ByteArray) (hs : s.size <= 3200) (R : List SL.HP) (w : World) (H : own w (yL Y m R)) :
  Calls Tryz.prog 91 #[.pointer (some ⟨Y.y,0,none⟩),.int .i64 fr,.string s] w (zm Y (zF m fr s) R w):=by
 have td:=Fu s.size
 have tm:=Fz s.size
 have HWI:=zh (IW N Y m hm (by omega) fr ((s.size / 16 : Nat) : Int) R w H)
 generalize hres : zF m fr s = res
 unfold zF at hres
 have hwy:=Fm hm fr ((s.size / 16 : Nat) : Int)
 have hcr:=zB (hm.sh.sh (by omega)) hm.root
 by_cases h16 : s.size % 16 = 0
 ·have d16 : decide ((0 : Int) < (s.size : Int) % 16) = false:=decide_eq_false (by omega)
  by_cases hc : 0 <= fr /\ 0 <= ((s.size / 16 : Nat) : Int) /\ fr <= clus m.F m.dk.root * 4 /\ ((s.size / 16 : Nat) : Int) <= clus m.F m.dk.root * 4 - fr
  ·rw [if_pos hc] at hwy
   rw [if_neg (by rw [hwy,h16]; rintro (h | h) <;> exact h rfl)] at hres
   have hb : FH (clus m.F m.dk.root * 4) fr ((s.size / 16 : Nat) : Int) = true:=decide_eq_true hc
   rw [hb] at HWI
   obtain ⟨a,rfl⟩ : ∃a : Nat,fr = (a : Int):=⟨fr.toNat,by omega⟩
   have hab : a + s.size / 16 <= 200:=by omega
   have hst:=Fd hm.sh (EZ hm) (by omega) (a : Int) s hs
   have HP:=zh (fun w' h=>Ut Y.bs Y.A m.F N hm.sh (by omega) Y.v m.list hm.files hm.list5 (a : Int) hfr s hs (yT Y m++R) w' y_hv h)
   have HF:=zh (yokF hm hst)
   have HJ:=zh hm.jok
   have HS:=zh (fun (m' : lf) w' (h : own w' (yL Y m' R))=>(⟨y_bs h,BO h⟩ : w'.cell? ⟨Y.y,6,none⟩ = some (.pointer (some ⟨Y.bs,0,none⟩)) /\ w'.cell? ⟨Y.y,12,none⟩ = some Y.v))
   generalize putM m.F m.list (a : Int) s = S at *
   obtain ⟨c,F2⟩:=S
   dsimp only at HP HF hres
   have HRES:=zh hres
   have HD:=zh (fun w' h=>Kf Y { m with F:=F2 } HJ.out a (s.size / 16) hab R w' h)
   clear hm hfr hs hres hc hwy hb hst hcr h16
   go_enter Tryz.func91,Tryz.ntmps91
   go_wp2_with fail
   refine HWI.out.mono ?_
   rintro e w2 ⟨rfl,hx2,h2⟩
   have hz:=lj h2
   have hxz:=hx2.drew
   go_upto_region 3 with (fail)
   clear h2 hx2
   have hg : (fun w' : World=>w'.cell? ⟨Y.y,6,none⟩ = some (.pointer (some ⟨Y.bs,0,none⟩)) /\ w'.cell? ⟨Y.y,12,none⟩ = some Y.v) w2.drew:=HS.out _ _ hz
   go_region_held3 (fun w'=>w'.cell? ⟨Y.y,6,none⟩ = some (.pointer (some ⟨Y.bs,0,none⟩)) /\ w'.cell? ⟨Y.y,12,none⟩ = some Y.v) (exact hg) ((go_at_call 194; refine (HP.out _ hz).mono ?_; rintro e w5 ⟨rfl,hx5,hz'⟩; have hxz:=hxz.trans hx5; have hz:=y_F HF.out hz'; have hg:=HS.out _ _ hz))
   all_goals
    clear hg
    go_wp2_with fail
    refine (HD.out _ hz).mono ?_
    rintro e w6 ⟨rfl,hx6,h6⟩
    go_wp2_with fail
    go_ret
    rw [<- HRES.out]
    exact ⟨Y,rfl,rfl,hxz.trans hx6,h6⟩
  ·rw [if_neg hc] at hwy
   rw [if_pos (.inr (by rw [hwy]; decide))] at hres
   have hb : FH (clus m.F m.dk.root * 4) fr ((s.size / 16 : Nat) : Int) = false:=decide_eq_false hc
   rw [hb] at HWI
   subst hres
   have hs2 : (s.size : Int) <= 3200:=by omega
   clear hm hfr hc hwy hb hcr h16
   go_enter Tryz.func91,Tryz.ntmps91
   go_wp2_with fail
   refine HWI.out.mono ?_
   rintro e w2 ⟨rfl,hx2,h2⟩
   go_wp2_with fail
   go_ret
   exact ⟨Y,rfl,rfl,hx2,h2⟩
 ·have d16 : decide ((0 : Int) < (s.size : Int) % 16) = true:=decide_eq_true (by omega)
  rw [if_pos (.inl h16)] at hres
  subst hres
  clear hm hfr hs hwy hcr h16 HWI
  go_enter Tryz.func91,Tryz.ntmps91
  go_wp2_with fail
  go_ret
  exact ⟨Y,rfl,rfl,Ext.refl w,H⟩
theorem QB (N : Nat) (Y : YA) (m : lf) (hm : YOk N m) (hN : N < 900000) (R : List SL.HP) (w : World) (H : own w (yL Y m R)) :
  Calls Tryz.prog 106 #[.pointer (some ⟨Y.y,0,none⟩)] w fun e w'=>e = .returned (.tuple #[]) /\ Ext w w' /\ own w' (yL Y (z8 m) R):=by
 have cl:=BO H
 obtain ⟨ao,lb,off,cap,hY,hlc,hcap,hao,-⟩:=(DV H).form
 rw [hY] at cl
 have HAO:=zh hao
 have HL:=zh hm.files
 have hl5:=hm.list5
 have HYV:=zh hY
 have HW:=zh hm.sh
 have H0:=zh H
 unfold z8
 clear hao hY hm H
 generalize hll : m.list = l at *
 have HLL:=zh hll
 clear hll
 go_enter Tryz.func106,Tryz.ntmps106
 go_wp2_with fail
 go_loopw [9] (fun iv wr=>∃(q : Nat) (F' : ShM),q <= l.length /\ iv = .int .i64 q /\ oH m.F F' /\ ShW N F' /\ ye F' (l.drop q) = ye m.F l /\ Ext w wr /\ own wr (yL Y { m with F:=F' } R)) (fun iv _=>l.length - (intOf iv).toNat)
 case atStart=>exact ⟨0,m.F,Nat.zero_le _,rfl,oH.refl _,HW.out,rfl,Ext.refl w,H0.out⟩
 case round=>
  clear H0 cl
  obtain ⟨q,F',hq,rfl,hsm,hW,hgo,hxr,hown⟩:=hrel
  by_cases hlt : q < l.length
  ·obtain rfl:=HAO.out (by omega)
   have j1 : (0 : Int) <= (q : Int):=by omega
   have j2 : (q : Int) < (l.length : Int):=by omega
   have hv:=DV hown
   rw [HYV.out] at hv
   have c1:=oo (l:=m.list) hv (by rw [HLL.out]; exact hlt)
   rw [HLL.out] at c1
   rw [zJ 0 hlt,ye] at hgo
   have hfx:=HL.out (l.getD q 0) (by simp [hlt])
   obtain ⟨x,mx,hx,hx5,-⟩:=lT hfx
   obtain ⟨mi,hmi⟩ : ∃mi,F' x = some mi:=by
    have h2:=hsm.file.2 hfx
    rw [hx] at h2
    obtain ⟨-,-,mi,h3⟩:=h2
    exact ⟨mi,by rw [zn] at h3; exact h3⟩
   rw [hx] at c1 hgo
   rw [zn] at hgo
   have hfi : AD F' x = put F' x mi.flush:=by unfold AD; rw [hmi]
   have hsm2:=hsm.trans (Fk F' x)
   have hW2:=GA hW hx5
   rw [hfi] at hgo hsm2 hW2
   have i1 : (0 : Int) <= (x : Int):=by omega
   have i2 : (x : Int) < 5:=by omega
   have cb:=y_bs hown
   have cs:=oz hown hx5
   rw [oa hmi] at cs
   have HFL:=zh (Kz hx5 hmi (hW.sh hN) (yT Y { m with F:=F' }++R) wr hown)
   have HGO:=zh hgo
   have HS2:=zh hsm2
   have HW2:=zh hW2
   have HP:=zh (fun w' h=>y_F (Y:=Y) (m:={ m with F:=F' }) (F':=put F' x mi.flush) (R:=R) (w:=w') (fun k hk=>(oH.put (m':=mi.flush) hmi rfl rfl).none hk) h)
   clear hgo hsm2 hW2 hfi hfx hx hmi hsm hW hv
   go_wp2_with fail
   refine HFL.out.mono ?_
   rintro e w3 ⟨rfl,hx3,h3⟩
   go_wp2_with fail
   go_roundw
   case rel=>exact ⟨q + 1,put F' x mi.flush,by omega,by go_num,HS2.out,HW2.out,HGO.out,hxr.trans hx3,HP.out _ h3⟩
   case measure=>simp [intOf]; omega
  ·obtain rfl : l.length = q:=by omega
   rw [List.drop_of_length_le (Nat.le_refl _)] at hgo
   replace hgo : F' = ye m.F l:=hgo
   subst hgo
   go_wp2_with fail
   go_end0
   have e:=HLL.out
   subst e
   exact ⟨rfl,hxr,hown⟩
theorem Kw (m : lf) (f b : Int) : (oC m f b).2.top = m.top:=by
 unfold oC
 split
 ·rfl
 ·split
  ·rfl
  ·split <;> rfl
theorem IQ (m : lf) (f b : Int) : (oC m f b).2.list = m.list:=by
 unfold oC
 split
 ·rfl
 ·split
  ·rfl
  ·split <;> rfl
theorem Io {m : lf} {f b : Int} (h : (oC m f b).1 = 0) : 0 <= f /\ f < 5:=by
 unfold oC at h
 by_cases hb : f < 0 \/ 5 <= f
 ·rw [if_pos hb] at h; exact absurd h (by show ¬((1 : Int) = 0); decide)
 ·omega
theorem Dr (m : lf) (f b : Int) : 0 <= (oC m f b).1:=by
 unfold oC
 split
 ·show (0 : Int) <= 1; decide
 ·split
  ·show (0 : Int) <= 5; decide
  ·split
   ·exact ET _ _ _ _
   ·exact Int.le_refl 0
theorem Jc (m : lf) (d : lK) : (lw m d).2.list = m.list:=by unfold lw; split <;> rfl
theorem zR (m : lf) (d : lK) : 0 <= (lw m d).1:=by
 unfold lw
 split
 ·exact og _ _ _
 ·exact Int.le_refl 0
theorem JB (l : List Int) : ∀u∈ln l,u.oneCell' = true:=fun u hu=>by
 unfold ln at hu
 obtain ⟨x,-,rfl⟩:=List.mem_map.1 hu
 rfl
theorem GY {w : World} {l : List Int} {ao : Option Addr} {cap : Nat} (h : lR w (.slice ao l.length cap) l) : ∀ad,ao = some ad -> ∀j u,(ln l)[j]? = some u -> w.cell? (ad.add j) = some u:=by
 intro ad had j u hu
 have hj : j < l.length:=by
  have:=(List.getElem?_eq_some_iff.1 hu).1
  simpa [ln] using this
 obtain ⟨ao',b,off,cap',hv,-,-,h4,h5⟩:=h.form
 simp only [Value.slice.injEq] at hv
 obtain ⟨rfl,-,-⟩:=hv
 have h6:=h4 (by omega)
 rw [had] at h6
 simp only [Option.some.injEq] at h6
 subst h6
 have h7:=h5 j hj
 have h8 : u = .int .i64 (l.getD j 0):=by
  unfold ln at hu
  rw [List.getElem?_map,List.getElem?_eq_getElem hj] at hu
  simp only [Option.map_some,Option.some.injEq] at hu
  rw [<- hu,List.getD_eq_getElem?_getD,List.getElem?_eq_getElem hj]
  rfl
 rw [h8,show (⟨b,off,none⟩ : Addr).add j = ⟨b,off + j,none⟩ by simp [Addr.add]]
 exact h7
theorem Tv (N : Nat) (Y : YA) (m : lf) (hm : YOk N m) (hN : N < 900000) (file : Int) (R : List SL.HP) (w : World) (H : own w (yL Y m R)) :
  Calls Tryz.prog 110 #[.pointer (some ⟨Y.y,0,none⟩),.int .i64 file] w (zm Y (Ba m file) R w):=by
 have HB:=zh (Bj Y m R w H)
 generalize hres : Ba m file = res
 unfold Ba at hres
 cases hb : yX m with
 | true=>
  rw [if_pos hb] at hres
  subst hres
  rw [hb] at HB
  clear hb
  go_enter Tryz.func110,Tryz.ntmps110
  go_wp2_with fail
  refine HB.out.mono ?_
  rintro e w' ⟨rfl,rfl⟩
  go_wp2_with fail
  go_ret
  exact ⟨Y,rfl,rfl,Ext.refl _,H⟩
 | false=>
  rw [if_neg (by rw [hb]; decide)] at hres
  rw [hb] at HB
  obtain ⟨ao,lb,off,cap,hY,hlc,hcap,hao,-⟩:=(DV H).form
  have cl:=BO H
  rw [hY] at cl
  have hl5:=hm.list5
  by_cases h4 : m.list.length = 4
  ·rw [if_pos h4] at hres
   subst hres
   rw [h4] at cl
   clear hb h4
   go_enter Tryz.func110,Tryz.ntmps110
   go_wp2_with fail
   refine HB.out.mono ?_
   rintro e w' ⟨rfl,rfl⟩
   go_wp2_with fail
   go_ret
   exact ⟨Y,rfl,rfl,Ext.refl _,H⟩
  ·rw [if_neg h4] at hres
   have d4 : ((m.list.length : Int) == 4) = false:=by rw [beq_eq_false_iff_ne]; omega
   have cr:=yI H
   have HBL:=zh (KA N Y m hm hN file m.dk.root R w H)
   have hcode:=Dr m file m.dk.root
   have htop:=Kw m file m.dk.root
   have hlist:=IQ m file m.dk.root
   have hrg:=@Io m file m.dk.root
   have htw:=hm.tp.2.1
   have htp:=hm.tp.2.2.1
   have hto:=hm.tp.1
   generalize oC m file m.dk.root = B at *
   obtain ⟨c,m1⟩:=B
   dsimp only at hcode htop hlist hrg hres
   have HRES:=zh hres
   have HRG:=zh hrg
   clear hb h4 hres hrg hm
   go_enter Tryz.func110,Tryz.ntmps110
   go_wp2_with fail
   refine HB.out.mono ?_
   rintro e w' ⟨rfl,rfl⟩
   go_wp2_with fail
   refine HBL.out.mono ?_
   rintro e w2 ⟨Y2,hy2,rfl,hx2,h2⟩
   dsimp only at h2
   clear cl cr d4
   by_cases hc : c = 0
   ·have hrg:=HRG.out hc
    subst hc
    rw [if_neg (by decide)] at HRES
    have HN:=zh (fun R' w' h=>Ct file R' w' h)
    have HW:=zh (fun w' h=>Bs Y2 m1 (by rw [htop]; exact hto) (by rw [htop]; omega) (by rw [htop]; omega) (lC file) (BN hrg.1 hrg.2) R w' h)
    rw [hy2] at HW
    have hwc:=zR m1 (lC file)
    have hwl:=Jc m1 (lC file)
    generalize lw m1 (lC file) = W at *
    obtain ⟨wc,m2⟩:=W
    dsimp only at hwc hwl HW HRES
    dsimp only
    rw [l9]
    clear HRG hrg htw htp hto
    go_wp2_with fail
    refine (HN.out _ _ h2).mono ?_
    rintro e w3 ⟨rfl,hx3,h3⟩
    go_wp2_with fail
    refine (HW.out _ h3).mono ?_
    rintro e w4 ⟨rfl,hx4,h4⟩
    by_cases hwz : wc = 0
    ·subst hwz
     rw [if_neg (by decide)] at HRES
     rw [l9]
     have hll : m2.list = m.list:=hwl.trans hlist
     have hv:=DV h4
     obtain ⟨ao2,lb2,off2,cap2,hY2,-,-,hao2,-⟩:=hv.form
     have ha:=li h4 (.cells #[.int .i64 file] 3)
     have hxa:=(((hx2.trans hx3).trans hx4)).alloc (.cells #[.int .i64 file] 3)
     have hb : own _ (row 3 1 (.slice (some ⟨w4.heap.size,0,none⟩) 1 1) 1 [.int .i64 file]::yL Y2 m2 R):=yJ (cap:=1) (n:=1) (sz:=1) 0 ha rfl (Nat.le_refl _) (by decide) rfl rfl
     have hvb:=DV (BU hb)
     rw [hY2,hll] at hvb
     rw [hll] at hao2
     have cl:=BO (BU hb)
     rw [hY2,hy2,hll] at cl
     have hm5 : 1 + m.list.length <= maxLen:=by simp only [maxLen]; omega
     have HNW:=zh (GY hvb)
     have HAO2:=zh hao2
     clear hvb hao2 h2 h3 ha
     go_wp2_with (first | (at_builtin; refine lE rfl _ _ 95 rfl 0 3 Tryz.underlying95 BV rfl (by decide) rfl hb rfl ao2 m.list.length cap2 (ln m.list) rfl (by simp [ln]) HNW.out (fun h=>by by_cases h0 : 0 < m.list.length; exact absurd (HAO2.out h0) (by rw [h]; simp); omega) (JB _) hm5 (by omega) ?_))
     intro v' w5 h5 hx5
     have hlen : (file::m.list).length = 1 + m.list.length:=by rw [List.length_cons]; omega
     have h6 : own w5 (yL Y2 m2 (row 3 1 v' (file::m.list).length (ln (file::m.list))::R)):=by
      have:=BU h5
      rw [hlen]
      exact this
     obtain ⟨vo,vb,vof,vcap,rfl,-,-,-,-⟩:=(lY 15 h6 rfl).form
     clear cl
     have cl:=BO h6
     have fl:=BT h6 12
     have h7:=Gw h6
     rw [hy2] at cl fl
     have hx7:=(hxa.trans hx5).setCell (⟨Y.y,12,none⟩ : Addr) (.slice vo (file::m.list).length vcap)
     clear h5 h6 hb hlen
     go_wp2_with fail
     go_ret
     rw [<- HRES.out]
     exact ⟨{ Y2 with v:=.slice vo (file::m.list).length vcap },hy2,rfl,hx7,by rw [<- hy2]; exact h7⟩
    ·rw [if_pos hwz] at HRES
     rw [ly (e:=wc) (by omega)]
     go_wp2_with fail
     go_ret
     rw [<- HRES.out]
     exact ⟨Y2,hy2,by rw [ly (e:=wc) (by omega)]; rfl,(hx2.trans hx3).trans hx4,h4⟩
   ·rw [if_pos hc] at HRES
    dsimp only
    rw [ly (e:=c) (by omega)]
    go_wp2_with fail
    go_ret
    rw [<- HRES.out]
    exact ⟨Y2,hy2,by rw [ly (e:=c) (by omega)]; rfl,hx2,h2⟩
def yQ (bs : Nat) (A : Nat -> Nat×Nat×Nat) (F : ShM) (res : Option JobM×Int) (R : List SL.HP) (w : World) (e : Ending) (w' : World) : Prop:=
 match res with
 | (none,f)=>e = .returned (.tuple #[.pointer none,errV f]) /\ Ext w w' /\ own w' (shL bs A F++R)
 | (some j,_)=>∃bj bt bb v,e = .returned (.tuple #[.pointer (some ⟨bj,0,none⟩),.nilIface]) /\ Ext w w' /\ own w' (shL bs A F++(jobL bs bj bt bb v j++(row 3 1 v j.list.length (ln j.list)::R)))
theorem yQ.no {bs : Nat} {A : Nat -> Nat×Nat×Nat} {F : ShM} {f : Int} {R : List SL.HP} {w : World} {e : Ending} {w' : World} (h1 : e = .returned (.tuple #[.pointer none,errV f])) (h2 : Ext w w') (h3 : own w' (shL bs A F++R)) : yQ bs A F (none,f) R w e w':=⟨h1,h2,h3⟩
theorem yQ.yes {bs : Nat} {A : Nat -> Nat×Nat×Nat} {F : ShM} {j : JobM} {R : List SL.HP} {w : World} {e : Ending} {w' : World} (bj bt bb : Nat) (v : Value) (h1 : e = .returned (.tuple #[.pointer (some ⟨bj,0,none⟩),.nilIface])) (h2 : Ext w w') (h3 : own w' (shL bs A F++(jobL bs bj bt bb v j++(row 3 1 v j.list.length (ln j.list)::R)))) : yQ bs A F (some j,0) R w e w':=⟨bj,bt,bb,v,h1,h2,h3⟩
theorem D9 {F : ShM} {j : JobM} (h : (zP F j).Ok) (q : Nat) : ({ j with x:=oX F j q } : JobM).Ok:={ h with x:=Jy F j h.n q }
theorem Fc {j : JobM} (h : j.st = 2) : y9 j = j:=by unfold y9; rw [h]; rfl
theorem ID {bs : Nat} {A : Nat -> Nat×Nat×Nat} {F : ShM} {bj bt bb : Nat} {v : Value} {j : JobM} {q : Nat} {L : List SL.HP} {w : World} (H : own w ((shL bs A F++(jobL bs bj bt bb v { j with x:=oX F j q }++L)).set 7 (DM bt j.n (od j.n (oX F j q) (q : Int) (o5 F { j with x:=oX F j q } (q : Int))).2))) :
  own w (shL bs A F++(jobL bs bj bt bb v { j with x:=oX F j (q + 1) }++L)):=H
theorem Vn (bs : Nat) (A : Nat -> Nat×Nat×Nat) (F : ShM) (hF : ShOk F) (root kind file rate burst : Int) (hl5 : (ls F root).1.length <= 5) (hz : ¬(ls F root).2≠0) (h0 : ¬(ls F root).1.length = 0) (ho : ¬A9 rate burst = false) (hk1 : kind = 1) (R : List SL.HP) (w : World) (H : own w (shL bs A F++R)) :
  Calls Tryz.prog 15 #[.pointer (some ⟨bs,0,none⟩),.agg #[.int .i64 root,.int .i64 kind,.int .i64 file,.int .i64 rate,.int .i64 burst]] w (yQ bs A F (newM F root kind file rate burst) R w):=by
 have HK1:=zh hk1
 clear hk1
 have ha:=li H (.cells #[.int .i64 root,.int .i64 kind,.int .i64 file,.int .i64 rate,.int .i64 burst] 24)
 have hxa:=(Ext.refl w).alloc (.cells #[.int .i64 root,.int .i64 kind,.int .i64 file,.int .i64 rate,.int .i64 burst] 24)
 have hb : own _ (shL bs A F++(_::R)):=lu (shL bs A F) ha
 have hwk:=fun R' w' h=>Cs bs A F hF root R' w' h
 have hfl:=zQ F root
 have hwc : 0 <= (ls F root).2:=zd
 have HWK:=zh hwk
 unfold zA at HWK
 generalize hres : newM F root kind file rate burst = res
 unfold newM at hres
 rw [if_neg hz] at hres
 have hz0 : (ls F root).2 = 0:=by omega
 rw [hz0,show errV 0 = .nilIface from rfl] at HWK
 rw [if_neg h0] at hres
 rw [if_neg ho] at hres
 have HRES:=zh hres
 clear hres
 have hroot:=EU h0
 obtain ⟨k,m,hxk,hk,hFk⟩:=lT hroot
 have hcl:=zB hF hroot
 have hcm : clus F root = m.c:=by rw [hxk]; exact yo hFk
 have HB:=zh (fun R' w' h=>FE rate burst R' w' (by simpa using ho) h)
 have HH:=zh (fun R' w' h=>AZ (b:=bs) (A:=A) hk hFk R' w' h)
 have HN:=zh (fun R' w' h=>MD (clus F root).toNat (by omega) R' w' h)
 have hcn : (((clus F root).toNat : Nat) : Int) = m.c:=by omega
 simp only [hcn] at HN
 have HCN:=zh hcn
 clear hcn
 have HF:=zh hF
 have HFL:=zh hfl
 have i1 : (0 : Int) <= (k : Int):=by omega
 have i2 : (k : Int) < 5:=by omega
 subst hxk
 have hok : ∀deep,kind = 1 \/ kind = 2 \/ kind = 3 -> deep <= (ls F (k : Int)).1.length -> (zP F (jNew F k kind file rate burst (ls F (k : Int)).1 deep)).Ok:=fun deep hkk hd=>Ej hF hroot hl5 h0 (by simpa using ho) hkk hd
 have HOK:=zh hok
 clear hok
 generalize hL : (ls F (k : Int)).1 = l at *
 have l0 : ((l.length : Int) == 0) = false:=by rw [beq_eq_false_iff_ne]; omega
 go_enter Tryz.func15,Tryz.ntmps15
 go_upto_region 1 with (fail)
 generalize w.heap.size = g at *
 generalize w.alloc (.cells #[.int .i64 (k : Int),.int .i64 kind,.int .i64 file,.int .i64 rate,.int .i64 burst] 24) = w1 at *
 have c0:=(ld 6 hb rfl).1 0
 go_wp2_with fail
 refine (HWK.out _ _ hb).mono ?_
 rintro e w2 ⟨v,rfl,hx2,h2⟩
 obtain ⟨ao,lb,off,cap,rfl,-,-,-,-⟩:=(lY 0 h2 rfl).form
 have d3:=(ld 7 h2 rfl).1 3
 have d4:=(ld 7 h2 rfl).1 4
 clear c0
 go_wp2_with fail
 refine (HB.out _ _ h2).mono ?_
 rintro e w3 ⟨rfl,hx3,h3⟩
 generalize w2.heap.size = bb at *
 have h3s:=lq [Ad bb rate burst burst,row 3 1 (.slice ao l.length cap) l.length (ln l)] (shL bs A F) h3
 clear d3 d4
 have d0:=(ld 8 h3s rfl).1 0
 have g1:=oz h3s hk
 rw [oa hFk] at g1
 go_upto_region 9 with (fail)
 go_still_tail 6,(by kernel_rfl)
 change wpList _ _ _ _ _ w3.drew
 go_wp2_with fail
 refine (HH.out _ _ (lj h3s)).mono ?_
 rintro e w4 ⟨rfl,hx4,h4⟩
 unfold lM
 have hf0:=C4 m.c m.p m.b
 clear d0 g1
 go_wp2_with fail
 refine (HN.out _ _ h4).mono ?_
 rintro e w5 ⟨bt,rfl,hx5,h5⟩
 have d1:=(ld 9 h5 rfl).1 1
 have d2:=(ld 9 h5 rfl).1 2
 go_upto_region 14 with (fail)
 have h6:=li h5 (.cells #[.pointer (some ⟨bs,0,none⟩),.int .i64 kind,.int .i64 file,.slice ao l.length cap,.int .i64 0,.pointer (some ⟨bt,0,none⟩),.int .i64 0,.int .i64 2,.pointer (some ⟨bb,0,none⟩)] 137)
 have hx6:=(hx5.alloc (.cells #[.pointer (some ⟨bs,0,none⟩),.int .i64 kind,.int .i64 file,.slice ao l.length cap,.int .i64 0,.pointer (some ⟨bt,0,none⟩),.int .i64 0,.int .i64 2,.pointer (some ⟨bb,0,none⟩)] 137))
 generalize w5.heap.size = bj at *
 generalize w5.alloc (.cells #[.pointer (some ⟨bs,0,none⟩),.int .i64 kind,.int .i64 file,.slice ao l.length cap,.int .i64 0,.pointer (some ⟨bt,0,none⟩),.int .i64 0,.int .i64 2,.pointer (some ⟨bb,0,none⟩)] 137) = w6 at *
 clear d1 d2
 have d1:=(ld 10 h6 rfl).1 1
 have d2:=(ld 10 h6 rfl).1 2
 have f4:=(ld 0 h6 rfl).2 4
 have hrow:=lY 9 h6 rfl
 have HPL:=zh (LH _ l file hl5 w6 hrow)
 have hX:=(((hxa.trans hx2).trans hx3).drew.trans hx4).trans hx6
 have HX:=zh hX
 have H6:=zh h6
 have HBAD : ∀n,own (w6.drewN n) (shL bs A F++R):=fun n=>lm n (le (le (lh 8 (lh 9 (lh 10 h6 rfl) rfl) rfl)))
 have hpr:=Dt l file
 have HP:=zh hL
 clear hL
 generalize zM l file = pl at *
 clear hrow hX hx2 hx3 hx4 hx5 hx6 hxa h2 h3 h3s h4 h5 hb ha H HWK HB HN HH hwk
 go_wp2_with fail
 refine HPL.out.mono ?_
 rintro e w7 ⟨rfl,rfl⟩
 have gs:=@oz bs A F _ w6 (lq [_,_] (shL bs A F) h6)
 have H7:=zh h6
 clear h6 hF hl5 h0 hz hz0 hwc HPL hcl hcm
 have hk1:=HK1.out
 clear HK1
 subst hk1
 have hres:=HRES.out
 rw [if_pos rfl] at hres
 by_cases hfi : Fo F file = false
 ·rw [if_pos hfi] at hres
  subst hres
  have hnf : ¬lx F file:=fun h=>absurd (Cb.2 h) (by rw [hfi]; decide)
  clear hfi HRES
  by_cases hf0 : file < 0
  ·have df : decide (file < 0) = true:=decide_eq_true hf0
   go_upto_region 17 with (fail)
   go_quiet (fail)
   go_wp2_with fail
   go_ret2
   exact yQ.no rfl (HX.out.drewN _) (HBAD _)
  ·have df : decide (file < 0) = false:=decide_eq_false hf0
   by_cases hf5 : 5 <= file
   ·have dg : decide (5 <= file) = true:=decide_eq_true hf5
    go_upto_region 17 with (fail)
    go_quiet (fail)
    go_wp2_with fail
    go_ret2
    exact yQ.no rfl (HX.out.drewN _) (HBAD _)
   ·have dg : decide (5 <= file) = false:=decide_eq_false hf5
    obtain ⟨q,rfl⟩ : ∃q : Nat,file = (q : Int):=⟨file.toNat,by omega⟩
    have q1 : (0 : Int) <= (q : Int):=by omega
    have q2 : (q : Int) < 5:=by omega
    have hFq : F q = none:=by
     cases e : F q with
     | none=>rfl
     | some x=>exact (hnf ⟨by omega,by omega,x,by rw [zn]; exact e⟩).elim
    have gq:=gs (k:=q) (by omega)
    rw [CW hFq] at gq
    clear gs hnf
    go_upto_region 17 with (fail)
    go_quiet (fail)
    go_wp2_with fail
    go_ret2
    exact yQ.no rfl (HX.out.drewN _) (HBAD _)
 ·rw [if_neg hfi] at hres
  obtain ⟨hq0,hq5',m2,hFq'⟩:=(Cb.1 (by simpa using hfi) : lx F file)
  obtain ⟨q,rfl⟩ : ∃q : Nat,file = (q : Int):=⟨file.toNat,by omega⟩
  have hq5 : q < 5:=by omega
  have hFq : F q = some m2:=by rw [zn] at hFq'; exact hFq'
  have df : decide ((q : Int) < 0) = false:=decide_eq_false (by omega)
  have dg : decide (5 <= (q : Int)) = false:=decide_eq_false (by omega)
  have q1 : (0 : Int) <= (q : Int):=by omega
  have q2 : (q : Int) < 5:=by omega
  have gq:=gs (k:=q) hq5
  rw [oa hFq] at gq
  have hbk : bkOf F (q : Int) = m2.b:=by unfold bkOf; rw [zn,hFq]
  have hcl2 : clus F (q : Int) = m2.c:=yo hFq
  have hclk : clus F (k : Int) = m.c:=yo hFk
  rw [hbk,hcl2,hclk] at hres
  have HH2:=zh (fun R' w' h=>AZ (b:=bs) (A:=A) hq5 hFq R' w' h)
  have HRES2:=zh hres
  clear gs hfi hq0 hq5' hFq' hbk hcl2 hclk HRES hres
  go_upto_region 17 with (fail)
  go_quiet (fail)
  have h8 : own (w6.drewN nq) _:=lm nq H7.out
  have hx8:=zh (HX.out.drewN nq)
  have HB8:=zh (HBAD nq)
  have e1:=(ld 10 h8 rfl).1 2
  clear d1 d2 gq HBAD HX
  generalize w6.drewN nq = w8 at *
  have gq : w8.cell? ⟨bs,q,none⟩ = some (.pointer (some ⟨(A q).1,0,none⟩)):=by have:=oz (lq [_,_] (shL bs A F) h8) hq5; rw [oa hFq] at this; exact this
  by_cases hp0 : 0 <= pl
  ·rw [if_pos (.inl hp0)] at HRES2
   have dp : decide (0 <= pl) = true:=decide_eq_true hp0
   clear hp0
   go_upto_region 19 with (fail)
   go_quiet (fail)
   go_wp2_with fail
   go_ret2
   rw [<- HRES2.out]
   exact yQ.no rfl (hx8.out.drewN _) (lm _ HB8.out)
  ·have dp : decide (0 <= pl) = false:=decide_eq_false hp0
   have HP0:=zh hp0
   clear hp0
   have hx9:=zh hx8.out.drew
   have h9:=lq [_,_] (shL bs A F) (lj h8)
   have hgq:=fun (w' : World) (L : List SL.HP) (h : own w' (shL bs A F++L))=>oz h hq5
   rw [oa hFq] at hgq
   have HGQ:=zh hgq
   clear hx8 HB8 e1 gq hgq
   have f2:=KX m2.c m2.p m2.b
   have f0:=C4 m2.c m2.p m2.b
   unfold lM at HH2
   go_upto_region 19 with (fail)
   refine wp_region_held_drew (S:=(fun w'=>w'.cell? ⟨g,2,none⟩ = some (.int .i64 (q : Int)) /\ w'.cell? ⟨bs,q,none⟩ = some (.pointer (some ⟨(A q).1,0,none⟩)))) (by kernel_rfl) ⟨(ld 10 h9 rfl).1 2,HGQ.out _ _ h9⟩ (fun hHeld=>?_)
   refine tk 0 ?_
   refine tk 1 ?_
   refine tk 2 ?_
   refine tk 3 ?_
   refine tk 4 ?_
   refine tk 5 ?_
   refine tk 6 ?_
   refine tk 7 ?_
   refine tk 8 ?_
   try simp only [Act.put,tA,tB,tC,tD,tE,tF]
   refine rd 9 rfl fun K hK=>?_
   go_simp
   go_at_call 71
   refine (HH2.out _ _ h9).mono ?_
   rintro e wa ⟨rfl,hxa,ha⟩
   go_simp
   refine hK.out _ _ ⟨(ld 10 ha rfl).1 2,HGQ.out _ _ ha⟩ (fun _=>?_)
   clear hK K h9
   try simp only [Act.put,tA,tB,tC,tD,tE,tF]
   by_cases hbb : m2.b = -1
   ·have db : (m2.b != -1) = false:=by rw [hbb]; rfl
    have HBB:=zh hbb
    clear hbb
    refine tk 10 ?_
    refine tk 11 ?_
    refine tk 12 ?_
    refine tk 13 ?_
    refine tk 14 ?_
    refine tk 15 ?_
    refine tk 16 ?_
    refine tk 17 ?_
    refine tk 18 ?_
    refine tk 19 ?_
    try simp only [Act.put,tA,tB,tC,tD,tE,tF]
    refine tk 22 ?_
    try simp only [Act.put,tA,tB,tC,tD,tE,tF]
    refine rd 20 rfl fun K hK=>?_
    go_simp
    go_at_call 71
    refine (HH2.out _ _ ha).mono ?_
    rintro e wb ⟨rfl,hxb,hb⟩
    go_simp
    refine hK.out _ _ ⟨(ld 10 hb rfl).1 2,HGQ.out _ _ hb⟩ (fun _=>?_)
    clear hK K ha
    try simp only [Act.put,tA,tB,tC,tD,tE,tF]
    by_cases hcc : m2.c = m.c
    ·have HCC:=zh hcc
     rw [if_neg (by rintro (h | h | h); exact HP0.out h; exact h HBB.out; exact h HCC.out)] at HRES2
     have dc : (m2.c != m.c) = false:=by rw [hcc]; simp
     clear hcc
     refine tk 21 ?_
     try simp only [Act.put,tA,tB,tC,tD,tE,tF]
     refine tk 23 ?_
     refine tk 24 ?_
     try simp only [Act.put,tA,tB,tC,tD,tE,tF]
     refine wpAnyH_done (by kernel_rfl) ?_ _
     have f4:=(ld 6 hb rfl).2 4
     have c4:=(ld 6 hb rfl).1 4
     have h10:=lg (i:=4) (v:=.int .i64 (l.length : Nat)) 6 hb rfl
     have hxt:=((hx9.out.trans hxa).trans hxb).setCell (⟨bj,4,none⟩ : Addr) (.int .i64 (l.length : Nat))
     clear hb f0 f2
     go_wp2_with fail
     have hjok:=zh (HOK.out _ (by simp) (by omega) : (zP F (jNew F (k : Int) 1 (q : Int) rate burst l 0)).Ok)
     have hx12:=zh hxt
     have hv12 : ∀w' L,own w' (L++(row 3 1 (.slice ao l.length cap) l.length (ln l)::(pts g (.cells #[.int .i64 (k : Int),.int .i64 1,.int .i64 (q : Int),.int .i64 rate,.int .i64 burst] 24 (0,0))::R))) -> lR w' (.slice ao l.length cap) (jNew F (k : Int) 1 (q : Int) rate burst l 0).list:=fun w' L h=>lY 0 (lq L [row 3 1 (.slice ao l.length cap) l.length (ln l)] h) rfl
     have HV12:=zh hv12
     have hnn : ((jNew F (k : Int) 1 (q : Int) rate burst l 0).n : Int) = m.c:=HCN.out
     have HJ0 : Hid (({ (jNew F (k : Int) 1 (q : Int) rate burst l 0) with x:=oX F (jNew F (k : Int) 1 (q : Int) rate burst l 0) 0 } : JobM) = (jNew F (k : Int) 1 (q : Int) rate burst l 0)):=zh rfl
     clear hxt hv12
     go_loopw [154] (fun iv wr=>∃z : Nat,z <= (jNew F (k : Int) 1 (q : Int) rate burst l 0).n /\ iv = .int .i64 z /\ Ext w wr /\ own wr (shL bs A F++(jobL bs bj bt bb (.slice ao l.length cap) { (jNew F (k : Int) 1 (q : Int) rate burst l 0) with x:=oX F (jNew F (k : Int) 1 (q : Int) rate burst l 0) z }++(row 3 1 (.slice ao l.length cap) l.length (ln l)::(pts g (.cells #[.int .i64 (k : Int),.int .i64 1,.int .i64 (q : Int),.int .i64 rate,.int .i64 burst] 24 (0,0))::R))))) (fun iv _=>(jNew F (k : Int) 1 (q : Int) rate burst l 0).n - (intOf iv).toNat)
     case atStart=>exact ⟨0,Nat.zero_le _,rfl,hx12.out,by rw [HJ0.out]; exact h10⟩
     case round=>
      obtain ⟨z,hq,rfl,hxr,hown⟩:=hrel
      by_cases hlt : z < (jNew F (k : Int) 1 (q : Int) rate burst l 0).n
      ·have j1 : (0 : Int) <= (z : Int):=by omega
       have j2 : (z : Int) < m.c:=by omega
       have j3 : (z : Int) < 64:=by have:=hjok.out.n; have : (jNew F (k : Int) 1 (q : Int) rate burst l 0).n <= 64:=this; omega
       go_wp2_with fail
       refine (CM bs A F HF.out bj bt bb _ _ (D9 hjok.out z) HFL.out (z : Int) _ wr HV12.out hown).mono ?_
       rintro e w12 ⟨rfl,nn,rfl⟩
       have hp:=Df bt (jNew F (k : Int) 1 (q : Int) rate burst l 0).n _ hjok.out.n (D9 hjok.out z).x (z : Int) (o5 F { (jNew F (k : Int) 1 (q : Int) rate burst l 0) with x:=oX F (jNew F (k : Int) 1 (q : Int) rate burst l 0) z } (z : Int)) 7 _ (lm nn hown) rfl
       have HPT:=zh hp
       clear hp
       generalize hwv : o5 F { (jNew F (k : Int) 1 (q : Int) rate burst l 0) with x:=oX F (jNew F (k : Int) 1 (q : Int) rate burst l 0) z } (z : Int) = wv at *
       go_wp2_with fail
       refine HPT.out.mono ?_
       rintro e w13 ⟨rfl,hx13,h13⟩
       go_wp2_with fail
       go_roundw
       case rel=>exact ⟨z + 1,by omega,by go_num,(hxr.drewN nn).trans hx13,ID (by rw [hwv]; exact h13)⟩
       case measure=>simp [intOf]; omega
      ·obtain rfl : z = (jNew F (k : Int) 1 (q : Int) rate burst l 0).n:=by omega
       have j2 : ¬(((jNew F (k : Int) 1 (q : Int) rate burst l 0).n : Int) < m.c):=by omega
       have dj : decide (((jNew F (k : Int) 1 (q : Int) rate burst l 0).n : Int) < m.c) = false:=decide_eq_false j2
       go_wp2_with fail
       refine (BP bs bj bt bb _ _ hjok.out _ wr (lq (shL bs A F) (jobL bs bj bt bb (.slice ao l.length cap) (zP F (jNew F (k : Int) 1 (q : Int) rate burst l 0))) hown)).mono ?_
       rintro e w12 ⟨rfl,hx12',h12⟩
       rw [Fc rfl] at h12
       go_wp2_with fail
       go_ret2
       rw [<- HRES2.out]
       exact yQ.yes bj bt bb (.slice ao l.length cap) rfl (hxr.trans hx12') (lh 10 (lq (jobL bs bj bt bb (.slice ao l.length cap) (zP F (jNew F (k : Int) 1 (q : Int) rate burst l 0))) (shL bs A F) h12) rfl)
    ·rw [if_pos (.inr (.inr hcc))] at HRES2
     have dc : (m2.c != m.c) = true:=bne_iff_ne.2 hcc
     refine tk 21 ?_
     try simp only [Act.put,tA,tB,tC,tD,tE,tF]
     refine tk 23 ?_
     refine tk 24 ?_
     try simp only [Act.put,tA,tB,tC,tD,tE,tF]
     refine wpAnyH_done (by kernel_rfl) ?_ _
     go_wp2_with fail
     go_ret2
     rw [<- HRES2.out]
     exact yQ.no rfl ((hx9.out.trans hxa).trans hxb) (lh 6 (lh 7 (lh 8 (lh 9 (lh 10 hb rfl) rfl) rfl) rfl) rfl)
   ·rw [if_pos (.inr (.inl hbb))] at HRES2
    have db : (m2.b != -1) = true:=bne_iff_ne.2 hbb
    refine tk 10 ?_
    refine tk 11 ?_
    refine tk 12 ?_
    refine tk 13 ?_
    try simp only [Act.put,tA,tB,tC,tD,tE,tF]
    refine sk 14 ?_
    refine sk 15 ?_
    refine sk 16 ?_
    refine sk 17 ?_
    refine sk 18 ?_
    refine sk 19 ?_
    refine sk 20 ?_
    refine sk 21 ?_
    refine sk 22 ?_
    refine sk 23 ?_
    try simp only [Act.put,tA,tB,tC,tD,tE,tF]
    refine tk 24 ?_
    try simp only [Act.put,tA,tB,tC,tD,tE,tF]
    refine wpAnyH_done (by kernel_rfl) ?_ _
    go_wp2_with fail
    go_ret2
    rw [<- HRES2.out]
    exact yQ.no rfl (hx9.out.trans hxa) (lh 6 (lh 7 (lh 8 (lh 9 (lh 10 ha rfl) rfl) rfl) rfl) rfl)
theorem Uc (bs : Nat) (A : Nat -> Nat×Nat×Nat) (F : ShM) (hF : ShOk F) (root kind file rate burst : Int) (hl5 : (ls F root).1.length <= 5) (hz : ¬(ls F root).2≠0) (h0 : ¬(ls F root).1.length = 0) (ho : ¬A9 rate burst = false) (hk1 : ¬kind = 1) (R : List SL.HP) (w : World) (H : own w (shL bs A F++R)) :
  Calls Tryz.prog 15 #[.pointer (some ⟨bs,0,none⟩),.agg #[.int .i64 root,.int .i64 kind,.int .i64 file,.int .i64 rate,.int .i64 burst]] w (yQ bs A F (newM F root kind file rate burst) R w):=by
 have HK1:=zh hk1
 clear hk1
 have ha:=li H (.cells #[.int .i64 root,.int .i64 kind,.int .i64 file,.int .i64 rate,.int .i64 burst] 24)
 have hxa:=(Ext.refl w).alloc (.cells #[.int .i64 root,.int .i64 kind,.int .i64 file,.int .i64 rate,.int .i64 burst] 24)
 have hb : own _ (shL bs A F++(_::R)):=lu (shL bs A F) ha
 have hwk:=fun R' w' h=>Cs bs A F hF root R' w' h
 have hfl:=zQ F root
 have hwc : 0 <= (ls F root).2:=zd
 have HWK:=zh hwk
 unfold zA at HWK
 generalize hres : newM F root kind file rate burst = res
 unfold newM at hres
 rw [if_neg hz] at hres
 have hz0 : (ls F root).2 = 0:=by omega
 rw [hz0,show errV 0 = .nilIface from rfl] at HWK
 rw [if_neg h0] at hres
 rw [if_neg ho] at hres
 have HRES:=zh hres
 clear hres
 have hroot:=EU h0
 obtain ⟨k,m,hxk,hk,hFk⟩:=lT hroot
 have hcl:=zB hF hroot
 have hcm : clus F root = m.c:=by rw [hxk]; exact yo hFk
 have HB:=zh (fun R' w' h=>FE rate burst R' w' (by simpa using ho) h)
 have HH:=zh (fun R' w' h=>AZ (b:=bs) (A:=A) hk hFk R' w' h)
 have HN:=zh (fun R' w' h=>MD (clus F root).toNat (by omega) R' w' h)
 have hcn : (((clus F root).toNat : Nat) : Int) = m.c:=by omega
 simp only [hcn] at HN
 have HCN:=zh hcn
 clear hcn
 have HF:=zh hF
 have HFL:=zh hfl
 have i1 : (0 : Int) <= (k : Int):=by omega
 have i2 : (k : Int) < 5:=by omega
 subst hxk
 have hok : ∀deep,kind = 1 \/ kind = 2 \/ kind = 3 -> deep <= (ls F (k : Int)).1.length -> (zP F (jNew F k kind file rate burst (ls F (k : Int)).1 deep)).Ok:=fun deep hkk hd=>Ej hF hroot hl5 h0 (by simpa using ho) hkk hd
 have HOK:=zh hok
 clear hok
 generalize hL : (ls F (k : Int)).1 = l at *
 have l0 : ((l.length : Int) == 0) = false:=by rw [beq_eq_false_iff_ne]; omega
 go_enter Tryz.func15,Tryz.ntmps15
 go_upto_region 1 with (fail)
 generalize w.heap.size = g at *
 generalize w.alloc (.cells #[.int .i64 (k : Int),.int .i64 kind,.int .i64 file,.int .i64 rate,.int .i64 burst] 24) = w1 at *
 have c0:=(ld 6 hb rfl).1 0
 go_wp2_with fail
 refine (HWK.out _ _ hb).mono ?_
 rintro e w2 ⟨v,rfl,hx2,h2⟩
 obtain ⟨ao,lb,off,cap,rfl,-,-,-,-⟩:=(lY 0 h2 rfl).form
 have d3:=(ld 7 h2 rfl).1 3
 have d4:=(ld 7 h2 rfl).1 4
 clear c0
 go_wp2_with fail
 refine (HB.out _ _ h2).mono ?_
 rintro e w3 ⟨rfl,hx3,h3⟩
 generalize w2.heap.size = bb at *
 have h3s:=lq [Ad bb rate burst burst,row 3 1 (.slice ao l.length cap) l.length (ln l)] (shL bs A F) h3
 clear d3 d4
 have d0:=(ld 8 h3s rfl).1 0
 have g1:=oz h3s hk
 rw [oa hFk] at g1
 go_upto_region 9 with (fail)
 go_still_tail 6,(by kernel_rfl)
 change wpList _ _ _ _ _ w3.drew
 go_wp2_with fail
 refine (HH.out _ _ (lj h3s)).mono ?_
 rintro e w4 ⟨rfl,hx4,h4⟩
 unfold lM
 have hf0:=C4 m.c m.p m.b
 clear d0 g1
 go_wp2_with fail
 refine (HN.out _ _ h4).mono ?_
 rintro e w5 ⟨bt,rfl,hx5,h5⟩
 have d1:=(ld 9 h5 rfl).1 1
 have d2:=(ld 9 h5 rfl).1 2
 go_upto_region 14 with (fail)
 have h6:=li h5 (.cells #[.pointer (some ⟨bs,0,none⟩),.int .i64 kind,.int .i64 file,.slice ao l.length cap,.int .i64 0,.pointer (some ⟨bt,0,none⟩),.int .i64 0,.int .i64 2,.pointer (some ⟨bb,0,none⟩)] 137)
 have hx6:=(hx5.alloc (.cells #[.pointer (some ⟨bs,0,none⟩),.int .i64 kind,.int .i64 file,.slice ao l.length cap,.int .i64 0,.pointer (some ⟨bt,0,none⟩),.int .i64 0,.int .i64 2,.pointer (some ⟨bb,0,none⟩)] 137))
 generalize w5.heap.size = bj at *
 generalize w5.alloc (.cells #[.pointer (some ⟨bs,0,none⟩),.int .i64 kind,.int .i64 file,.slice ao l.length cap,.int .i64 0,.pointer (some ⟨bt,0,none⟩),.int .i64 0,.int .i64 2,.pointer (some ⟨bb,0,none⟩)] 137) = w6 at *
 clear d1 d2
 have d1:=(ld 10 h6 rfl).1 1
 have d2:=(ld 10 h6 rfl).1 2
 have f4:=(ld 0 h6 rfl).2 4
 have hrow:=lY 9 h6 rfl
 have HPL:=zh (LH _ l file hl5 w6 hrow)
 have hX:=(((hxa.trans hx2).trans hx3).drew.trans hx4).trans hx6
 have HX:=zh hX
 have H6:=zh h6
 have HBAD : ∀n,own (w6.drewN n) (shL bs A F++R):=fun n=>lm n (le (le (lh 8 (lh 9 (lh 10 h6 rfl) rfl) rfl)))
 have hpr:=Dt l file
 have HP:=zh hL
 clear hL
 generalize zM l file = pl at *
 clear hrow hX hx2 hx3 hx4 hx5 hx6 hxa h2 h3 h3s h4 h5 hb ha H HWK HB HN HH hwk
 go_wp2_with fail
 refine HPL.out.mono ?_
 rintro e w7 ⟨rfl,rfl⟩
 have gs:=@oz bs A F _ w6 (lq [_,_] (shL bs A F) h6)
 have H7:=zh h6
 clear h6 hF hl5 h0 hz hz0 hwc HPL hcl hcm
 have hk1:=HK1.out
 clear HK1
 have hres:=HRES.out
 rw [if_neg hk1] at hres
 have e1 : (kind == 1) = false:=by rw [beq_eq_false_iff_ne]; exact hk1
 have h9:=lq [_,_] (shL bs A F) H7.out
 have f4:=(ld 6 h9 rfl).2 4
 have c4:=(ld 6 h9 rfl).1 4
 have HB0 : own w6 (shL bs A F++R):=le (le (lh 8 (lh 9 (lh 10 H7.out rfl) rfl) rfl))
 by_cases hk2 : kind = 2 /\ file = -1
 ·rw [if_pos hk2] at hres
  obtain ⟨rfl,rfl⟩:=hk2
  have HRES2:=zh hres
  have h10:=lg (i:=4) (v:=.int .i64 (l.length : Nat)) 6 h9 rfl
  have hxt:=HX.out.setCell (⟨bj,4,none⟩ : Addr) (.int .i64 (l.length : Nat))
  clear hres HRES hk1 e1 h9 HB0 HBAD
  go_wp2_with fail
  have hjok:=zh (HOK.out _ (by simp) (by omega) : (zP F (jNew F (k : Int) 2 (-1) rate burst l l.length)).Ok)
  have hx12:=zh hxt
  have hv12 : ∀w' L,own w' (L++(row 3 1 (.slice ao l.length cap) l.length (ln l)::(pts g (.cells #[.int .i64 (k : Int),.int .i64 2,.int .i64 (-1),.int .i64 rate,.int .i64 burst] 24 (0,0))::R))) -> lR w' (.slice ao l.length cap) (jNew F (k : Int) 2 (-1) rate burst l l.length).list:=fun w' L h=>lY 0 (lq L [row 3 1 (.slice ao l.length cap) l.length (ln l)] h) rfl
  have HV12:=zh hv12
  have hnn : ((jNew F (k : Int) 2 (-1) rate burst l l.length).n : Int) = m.c:=HCN.out
  clear hxt hv12
  go_loopw [154] (fun iv wr=>∃q : Nat,q <= (jNew F (k : Int) 2 (-1) rate burst l l.length).n /\ iv = .int .i64 q /\ Ext w wr /\ own wr (shL bs A F++(jobL bs bj bt bb (.slice ao l.length cap) { (jNew F (k : Int) 2 (-1) rate burst l l.length) with x:=oX F (jNew F (k : Int) 2 (-1) rate burst l l.length) q }++(row 3 1 (.slice ao l.length cap) l.length (ln l)::(pts g (.cells #[.int .i64 (k : Int),.int .i64 2,.int .i64 (-1),.int .i64 rate,.int .i64 burst] 24 (0,0))::R))))) (fun iv _=>(jNew F (k : Int) 2 (-1) rate burst l l.length).n - (intOf iv).toNat)
  case atStart=>exact ⟨0,Nat.zero_le _,rfl,hx12.out,h10⟩
  case round=>
   obtain ⟨q,hq,rfl,hxr,hown⟩:=hrel
   by_cases hlt : q < (jNew F (k : Int) 2 (-1) rate burst l l.length).n
   ·have j1 : (0 : Int) <= (q : Int):=by omega
    have j2 : (q : Int) < m.c:=by omega
    have j3 : (q : Int) < 64:=by have:=hjok.out.n; have : (jNew F (k : Int) 2 (-1) rate burst l l.length).n <= 64:=this; omega
    go_wp2_with fail
    refine (CM bs A F HF.out bj bt bb _ _ (D9 hjok.out q) HFL.out (q : Int) _ wr HV12.out hown).mono ?_
    rintro e w12 ⟨rfl,nn,rfl⟩
    have hp:=Df bt (jNew F (k : Int) 2 (-1) rate burst l l.length).n _ hjok.out.n (D9 hjok.out q).x (q : Int) (o5 F { (jNew F (k : Int) 2 (-1) rate burst l l.length) with x:=oX F (jNew F (k : Int) 2 (-1) rate burst l l.length) q } (q : Int)) 7 _ (lm nn hown) rfl
    have HPT:=zh hp
    clear hp
    generalize hwv : o5 F { (jNew F (k : Int) 2 (-1) rate burst l l.length) with x:=oX F (jNew F (k : Int) 2 (-1) rate burst l l.length) q } (q : Int) = wv at *
    go_wp2_with fail
    refine HPT.out.mono ?_
    rintro e w13 ⟨rfl,hx13,h13⟩
    go_wp2_with fail
    go_roundw
    case rel=>exact ⟨q + 1,by omega,by go_num,(hxr.drewN nn).trans hx13,ID (by rw [hwv]; exact h13)⟩
    case measure=>simp [intOf]; omega
   ·obtain rfl : q = (jNew F (k : Int) 2 (-1) rate burst l l.length).n:=by omega
    have j2 : ¬(((jNew F (k : Int) 2 (-1) rate burst l l.length).n : Int) < m.c):=by omega
    have dj : decide (((jNew F (k : Int) 2 (-1) rate burst l l.length).n : Int) < m.c) = false:=decide_eq_false j2
    go_wp2_with fail
    refine (BP bs bj bt bb _ _ hjok.out _ wr (lq (shL bs A F) (jobL bs bj bt bb (.slice ao l.length cap) (zP F (jNew F (k : Int) 2 (-1) rate burst l l.length))) hown)).mono ?_
    rintro e w12 ⟨rfl,hx12',h12⟩
    rw [Fc rfl] at h12
    go_wp2_with fail
    go_ret2
    rw [<- HRES2.out]
    exact yQ.yes bj bt bb (.slice ao l.length cap) rfl (hxr.trans hx12') (lh 10 (lq (jobL bs bj bt bb (.slice ao l.length cap) (zP F (jNew F (k : Int) 2 (-1) rate burst l l.length))) (shL bs A F) h12) rfl)
 ·rw [if_neg hk2] at hres
  by_cases hk3 : kind = 2 \/ kind = 3
  ·rw [if_pos hk3] at hres
   by_cases hpl : pl < 1
   ·rw [if_pos hpl] at hres
    subst hres
    rcases hk3 with rfl | rfl
    ·have hf1 : (file == -1) = false:=by rw [beq_eq_false_iff_ne]; omega
     clear hk1 hk2 HRES
     go_wp2_with fail
     go_ret2
     exact yQ.no rfl HX.out HB0
    ·clear hk1 hk2 HRES
     go_wp2_with fail
     go_ret2
     exact yQ.no rfl HX.out HB0
   ·rw [if_neg hpl] at hres
    obtain ⟨p,rfl⟩ : ∃p : Nat,pl = (p : Int):=⟨pl.toNat,by omega⟩
    rw [zn] at hres
    have HRES2:=zh hres
    have hp1 : ¬((p : Int) < 1):=hpl
    have h10:=lg (i:=4) (v:=.int .i64 (p : Nat)) 6 h9 rfl
    have hxt:=HX.out.setCell (⟨bj,4,none⟩ : Addr) (.int .i64 (p : Nat))
    clear hres HRES h9 HB0 HBAD
    rcases hk3 with rfl | rfl
    ·have hf1 : (file == -1) = false:=by rw [beq_eq_false_iff_ne]; omega
     clear hk1 hk2 e1
     go_wp2_with fail
     have hjok:=zh (HOK.out _ (by simp) (by omega) : (zP F (jNew F (k : Int) 2 file rate burst l p)).Ok)
     have hx12:=zh hxt
     have hv12 : ∀w' L,own w' (L++(row 3 1 (.slice ao l.length cap) l.length (ln l)::(pts g (.cells #[.int .i64 (k : Int),.int .i64 2,.int .i64 file,.int .i64 rate,.int .i64 burst] 24 (0,0))::R))) -> lR w' (.slice ao l.length cap) (jNew F (k : Int) 2 file rate burst l p).list:=fun w' L h=>lY 0 (lq L [row 3 1 (.slice ao l.length cap) l.length (ln l)] h) rfl
     have HV12:=zh hv12
     have hnn : ((jNew F (k : Int) 2 file rate burst l p).n : Int) = m.c:=HCN.out
     clear hxt hv12
     go_loopw [154] (fun iv wr=>∃q : Nat,q <= (jNew F (k : Int) 2 file rate burst l p).n /\ iv = .int .i64 q /\ Ext w wr /\ own wr (shL bs A F++(jobL bs bj bt bb (.slice ao l.length cap) { (jNew F (k : Int) 2 file rate burst l p) with x:=oX F (jNew F (k : Int) 2 file rate burst l p) q }++(row 3 1 (.slice ao l.length cap) l.length (ln l)::(pts g (.cells #[.int .i64 (k : Int),.int .i64 2,.int .i64 file,.int .i64 rate,.int .i64 burst] 24 (0,0))::R))))) (fun iv _=>(jNew F (k : Int) 2 file rate burst l p).n - (intOf iv).toNat)
     case atStart=>exact ⟨0,Nat.zero_le _,rfl,hx12.out,h10⟩
     case round=>
      obtain ⟨q,hq,rfl,hxr,hown⟩:=hrel
      by_cases hlt : q < (jNew F (k : Int) 2 file rate burst l p).n
      ·have j1 : (0 : Int) <= (q : Int):=by omega
       have j2 : (q : Int) < m.c:=by omega
       have j3 : (q : Int) < 64:=by have:=hjok.out.n; have : (jNew F (k : Int) 2 file rate burst l p).n <= 64:=this; omega
       go_wp2_with fail
       refine (CM bs A F HF.out bj bt bb _ _ (D9 hjok.out q) HFL.out (q : Int) _ wr HV12.out hown).mono ?_
       rintro e w12 ⟨rfl,nn,rfl⟩
       have hp:=Df bt (jNew F (k : Int) 2 file rate burst l p).n _ hjok.out.n (D9 hjok.out q).x (q : Int) (o5 F { (jNew F (k : Int) 2 file rate burst l p) with x:=oX F (jNew F (k : Int) 2 file rate burst l p) q } (q : Int)) 7 _ (lm nn hown) rfl
       have HPT:=zh hp
       clear hp
       generalize hwv : o5 F { (jNew F (k : Int) 2 file rate burst l p) with x:=oX F (jNew F (k : Int) 2 file rate burst l p) q } (q : Int) = wv at *
       go_wp2_with fail
       refine HPT.out.mono ?_
       rintro e w13 ⟨rfl,hx13,h13⟩
       go_wp2_with fail
       go_roundw
       case rel=>exact ⟨q + 1,by omega,by go_num,(hxr.drewN nn).trans hx13,ID (by rw [hwv]; exact h13)⟩
       case measure=>simp [intOf]; omega
      ·obtain rfl : q = (jNew F (k : Int) 2 file rate burst l p).n:=by omega
       have j2 : ¬(((jNew F (k : Int) 2 file rate burst l p).n : Int) < m.c):=by omega
       have dj : decide (((jNew F (k : Int) 2 file rate burst l p).n : Int) < m.c) = false:=decide_eq_false j2
       go_wp2_with fail
       refine (BP bs bj bt bb _ _ hjok.out _ wr (lq (shL bs A F) (jobL bs bj bt bb (.slice ao l.length cap) (zP F (jNew F (k : Int) 2 file rate burst l p))) hown)).mono ?_
       rintro e w12 ⟨rfl,hx12',h12⟩
       rw [Fc rfl] at h12
       go_wp2_with fail
       go_ret2
       rw [<- HRES2.out]
       exact yQ.yes bj bt bb (.slice ao l.length cap) rfl (hxr.trans hx12') (lh 10 (lq (jobL bs bj bt bb (.slice ao l.length cap) (zP F (jNew F (k : Int) 2 file rate burst l p))) (shL bs A F) h12) rfl)
    ·clear hk1 hk2 e1
     go_wp2_with fail
     have hjok:=zh (HOK.out _ (by simp) (by omega) : (zP F (jNew F (k : Int) 3 file rate burst l p)).Ok)
     have hx12:=zh hxt
     have hv12 : ∀w' L,own w' (L++(row 3 1 (.slice ao l.length cap) l.length (ln l)::(pts g (.cells #[.int .i64 (k : Int),.int .i64 3,.int .i64 file,.int .i64 rate,.int .i64 burst] 24 (0,0))::R))) -> lR w' (.slice ao l.length cap) (jNew F (k : Int) 3 file rate burst l p).list:=fun w' L h=>lY 0 (lq L [row 3 1 (.slice ao l.length cap) l.length (ln l)] h) rfl
     have HV12:=zh hv12
     have hnn : ((jNew F (k : Int) 3 file rate burst l p).n : Int) = m.c:=HCN.out
     clear hxt hv12
     go_loopw [154] (fun iv wr=>∃q : Nat,q <= (jNew F (k : Int) 3 file rate burst l p).n /\ iv = .int .i64 q /\ Ext w wr /\ own wr (shL bs A F++(jobL bs bj bt bb (.slice ao l.length cap) { (jNew F (k : Int) 3 file rate burst l p) with x:=oX F (jNew F (k : Int) 3 file rate burst l p) q }++(row 3 1 (.slice ao l.length cap) l.length (ln l)::(pts g (.cells #[.int .i64 (k : Int),.int .i64 3,.int .i64 file,.int .i64 rate,.int .i64 burst] 24 (0,0))::R))))) (fun iv _=>(jNew F (k : Int) 3 file rate burst l p).n - (intOf iv).toNat)
     case atStart=>exact ⟨0,Nat.zero_le _,rfl,hx12.out,h10⟩
     case round=>
      obtain ⟨q,hq,rfl,hxr,hown⟩:=hrel
      by_cases hlt : q < (jNew F (k : Int) 3 file rate burst l p).n
      ·have j1 : (0 : Int) <= (q : Int):=by omega
       have j2 : (q : Int) < m.c:=by omega
       have j3 : (q : Int) < 64:=by have:=hjok.out.n; have : (jNew F (k : Int) 3 file rate burst l p).n <= 64:=this; omega
       go_wp2_with fail
       refine (CM bs A F HF.out bj bt bb _ _ (D9 hjok.out q) HFL.out (q : Int) _ wr HV12.out hown).mono ?_
       rintro e w12 ⟨rfl,nn,rfl⟩
       have hp:=Df bt (jNew F (k : Int) 3 file rate burst l p).n _ hjok.out.n (D9 hjok.out q).x (q : Int) (o5 F { (jNew F (k : Int) 3 file rate burst l p) with x:=oX F (jNew F (k : Int) 3 file rate burst l p) q } (q : Int)) 7 _ (lm nn hown) rfl
       have HPT:=zh hp
       clear hp
       generalize hwv : o5 F { (jNew F (k : Int) 3 file rate burst l p) with x:=oX F (jNew F (k : Int) 3 file rate burst l p) q } (q : Int) = wv at *
       go_wp2_with fail
       refine HPT.out.mono ?_
       rintro e w13 ⟨rfl,hx13,h13⟩
       go_wp2_with fail
       go_roundw
       case rel=>exact ⟨q + 1,by omega,by go_num,(hxr.drewN nn).trans hx13,ID (by rw [hwv]; exact h13)⟩
       case measure=>simp [intOf]; omega
      ·obtain rfl : q = (jNew F (k : Int) 3 file rate burst l p).n:=by omega
       have j2 : ¬(((jNew F (k : Int) 3 file rate burst l p).n : Int) < m.c):=by omega
       have dj : decide (((jNew F (k : Int) 3 file rate burst l p).n : Int) < m.c) = false:=decide_eq_false j2
       go_wp2_with fail
       refine (BP bs bj bt bb _ _ hjok.out _ wr (lq (shL bs A F) (jobL bs bj bt bb (.slice ao l.length cap) (zP F (jNew F (k : Int) 3 file rate burst l p))) hown)).mono ?_
       rintro e w12 ⟨rfl,hx12',h12⟩
       rw [Fc rfl] at h12
       go_wp2_with fail
       go_ret2
       rw [<- HRES2.out]
       exact yQ.yes bj bt bb (.slice ao l.length cap) rfl (hxr.trans hx12') (lh 10 (lq (jobL bs bj bt bb (.slice ao l.length cap) (zP F (jNew F (k : Int) 3 file rate burst l p))) (shL bs A F) h12) rfl)
  ·rw [if_neg hk3] at hres
   subst hres
   have e2 : (kind == 2) = false:=by rw [beq_eq_false_iff_ne]; omega
   have e3 : (kind == 3) = false:=by rw [beq_eq_false_iff_ne]; omega
   clear hk1 hk2 hk3 HRES
   go_wp2_with fail
   go_ret2
   exact yQ.no rfl HX.out HB0
theorem Nd (bs : Nat) (A : Nat -> Nat×Nat×Nat) (F : ShM) (hF : ShOk F) (root kind file rate burst : Int) (hl5 : (ls F root).1.length <= 5) (R : List SL.HP) (w : World) (H : own w (shL bs A F++R)) :
  Calls Tryz.prog 15 #[.pointer (some ⟨bs,0,none⟩),.agg #[.int .i64 root,.int .i64 kind,.int .i64 file,.int .i64 rate,.int .i64 burst]] w (yQ bs A F (newM F root kind file rate burst) R w):=by
 by_cases hgood : ¬(ls F root).2≠0 /\ ¬(ls F root).1.length = 0 /\ ¬A9 rate burst = false
 ·by_cases hk1 : kind = 1
  ·exact Vn bs A F hF root kind file rate burst hl5 hgood.1 hgood.2.1 hgood.2.2 hk1 R w H
  ·exact Uc bs A F hF root kind file rate burst hl5 hgood.1 hgood.2.1 hgood.2.2 hk1 R w H
 have ha:=li H (.cells #[.int .i64 root,.int .i64 kind,.int .i64 file,.int .i64 rate,.int .i64 burst] 24)
 have hxa:=(Ext.refl w).alloc (.cells #[.int .i64 root,.int .i64 kind,.int .i64 file,.int .i64 rate,.int .i64 burst] 24)
 have hb : own _ (shL bs A F++(_::R)):=lu (shL bs A F) ha
 have hwk:=fun R' w' h=>Cs bs A F hF root R' w' h
 have hfl:=zQ F root
 have hwc : 0 <= (ls F root).2:=zd
 have HWK:=zh hwk
 unfold zA at HWK
 have HGD:=zh hgood
 clear hgood
 generalize hres : newM F root kind file rate burst = res
 unfold newM at hres
 by_cases hz : (ls F root).2≠0
 ·rw [if_pos hz] at hres
  subst hres
  have hp : 0 < (ls F root).2:=by omega
  show Calls _ _ _ _ (fun e w'=>e = .returned (.tuple #[.pointer none,errV (ls F root).2]) /\ Ext w w' /\ own w' (shL bs A F++R))
  rw [ly hp] at HWK ⊢
  generalize ls F root = S at *
  obtain ⟨l,wc⟩:=S
  dsimp only at hwc HWK ⊢
  clear hz hwk hfl ha
  go_enter Tryz.func15,Tryz.ntmps15
  go_upto_region 1 with (fail)
  generalize w.heap.size = g at *
  generalize w.alloc (.cells #[.int .i64 root,.int .i64 kind,.int .i64 file,.int .i64 rate,.int .i64 burst] 24) = w1 at *
  have c0:=(ld 6 hb rfl).1 0
  go_wp2_with fail
  refine (HWK.out _ _ hb).mono ?_
  rintro e w2 ⟨v,rfl,hx2,h2⟩
  go_wp2_with fail
  go_ret2
  exact ⟨rfl,hxa.trans hx2,lh 6 (le h2) rfl⟩
 ·rw [if_neg hz] at hres
  have hz0 : (ls F root).2 = 0:=by omega
  rw [hz0,show errV 0 = .nilIface from rfl] at HWK
  by_cases h0 : (ls F root).1.length = 0
  ·rw [if_pos h0] at hres
   subst hres
   show Calls _ _ _ _ (fun e w'=>e = .returned (.tuple #[.pointer none,errV 4]) /\ Ext w w' /\ own w' (shL bs A F++R))
   have hl0 : (ls F root).1 = []:=List.length_eq_zero_iff.1 h0
   rw [hl0] at HWK
   clear hz hwk hfl ha h0 hl0 hz0 hwc
   go_enter Tryz.func15,Tryz.ntmps15
   go_upto_region 1 with (fail)
   generalize w.heap.size = g at *
   generalize w.alloc (.cells #[.int .i64 root,.int .i64 kind,.int .i64 file,.int .i64 rate,.int .i64 burst] 24) = w1 at *
   have c0:=(ld 6 hb rfl).1 0
   go_wp2_with fail
   refine (HWK.out _ _ hb).mono ?_
   rintro e w2 ⟨v,rfl,hx2,h2⟩
   obtain ⟨ao,lb,off,cap,rfl,-,-,-,-⟩:=(lY 0 h2 rfl).form
   go_wp2_with fail
   go_ret2
   exact ⟨rfl,hxa.trans hx2,lh 6 (le h2) rfl⟩
  ·rw [if_neg h0] at hres
   by_cases ho : A9 rate burst = false
   ·rw [if_pos ho] at hres
    subst hres
    show Calls _ _ _ _ (fun e w'=>e = .returned (.tuple #[.pointer none,errV 1]) /\ Ext w w' /\ own w' (shL bs A F++R))
    have HB:=zh (fun w'=>Mh rate burst w' ho)
    rw [show errV 1 = .iface 128 (.int .i64 1) from rfl] at HB ⊢
    generalize (ls F root).1 = l at *
    have l0 : ((l.length : Int) == 0) = false:=by rw [beq_eq_false_iff_ne]; omega
    clear hz hwk hfl ha h0 hz0 hwc ho
    go_enter Tryz.func15,Tryz.ntmps15
    go_upto_region 1 with (fail)
    generalize w.heap.size = g at *
    generalize w.alloc (.cells #[.int .i64 root,.int .i64 kind,.int .i64 file,.int .i64 rate,.int .i64 burst] 24) = w1 at *
    have c0:=(ld 6 hb rfl).1 0
    go_wp2_with fail
    refine (HWK.out _ _ hb).mono ?_
    rintro e w2 ⟨v,rfl,hx2,h2⟩
    obtain ⟨ao,lb,off,cap,rfl,-,-,-,-⟩:=(lY 0 h2 rfl).form
    have d3:=(ld 7 h2 rfl).1 3
    have d4:=(ld 7 h2 rfl).1 4
    clear c0
    go_wp2_with fail
    refine (HB.out _).mono ?_
    rintro e w' ⟨rfl,rfl⟩
    go_wp2_with fail
    go_ret2
    exact ⟨rfl,hxa.trans hx2,lh 6 (le h2) rfl⟩
   ·exact absurd ⟨hz,h0,ho⟩ HGD.out
def yp (bs : Nat) (A : Nat -> Nat×Nat) (F : ShM) (res : Option JobM×Int) (R : List SL.HP) (w : World) (e : Ending) (w' : World) : Prop:=
 match res with
 | (none,f)=>e = .returned (.tuple #[.pointer none,.int .i64 f]) /\ Ext w w' /\ own w' (rshL bs A F++R)
 | (some j,_)=>∃br v,e = .returned (.tuple #[.pointer (some ⟨br,0,none⟩),.int .i64 0]) /\ Ext w w' /\ own w' (rshL bs A F++(lA bs br v j::(row 3 1 v j.list.length (ln j.list)::R)))
theorem yp.no {bs : Nat} {A : Nat -> Nat×Nat} {F : ShM} {f : Int} {R : List SL.HP} {w : World} {e : Ending} {w' : World} (h1 : e = .returned (.tuple #[.pointer none,.int .i64 f])) (h2 : Ext w w') (h3 : own w' (rshL bs A F++R)) : yp bs A F (none,f) R w e w':=⟨h1,h2,h3⟩
theorem yp.yes {bs : Nat} {A : Nat -> Nat×Nat} {F : ShM} {j : JobM} {R : List SL.HP} {w : World} {e : Ending} {w' : World} (br : Nat) (v : Value) (h1 : e = .returned (.tuple #[.pointer (some ⟨br,0,none⟩),.int .i64 0])) (h2 : Ext w w') (h3 : own w' (rshL bs A F++(lA bs br v j::(row 3 1 v j.list.length (ln j.list)::R)))) : yp bs A F (some j,0) R w e w':=⟨br,v,h1,h2,h3⟩
def jBox (k kind file rate burst : Int) (l : List Int) : JobM:={ root:=k,kind:=kind,file:=file,rate:=rate,burst:=burst,list:=l,deep:=0,n:=0,x:=0,at_:=0,st:=2,level:=burst }
theorem Us (bs : Nat) (v : Value) (k kind file rate burst : Int) (l : List Int) :
  #[.pointer (some ⟨bs,0,none⟩),.int .i64 k,.int .i64 kind,.int .i64 file,.int .i64 rate,.int .i64 burst,v,.int .i64 0,.int .i64 0,.bool false,.bool false,.bool false,.bool false,.bool false,.bool false,.bool false,.bool false,.bool false,.bool false,.bool false,.bool false,.bool false,.bool false,.bool false,.bool false,.bool false,.bool false,.bool false,.bool false,.bool false,.bool false,.bool false,.bool false,.bool false,.bool false,.bool false,.bool false,.bool false,.bool false,.bool false,.bool false,.bool false,.bool false,.bool false,.bool false,.bool false,.bool false,.bool false,.bool false,.bool false,.bool false,.bool false,.bool false,.bool false,.bool false,.bool false,.bool false,.bool false,.bool false,.bool false,.bool false,.bool false,.bool false,.bool false,.bool false,.bool false,.bool false,.bool false,.bool false,.bool false,.bool false,.bool false,.bool false,.int .i64 (-1),.int .i64 2,.int .i64 rate,.int .i64 burst,.int .i64 burst] = AV bs v (jBox k kind file rate burst l):=by
 refine Array.ext_getElem? fun i=>?_
 by_cases hi : i < 78
 ·rw [Dp _ _ _ hi]
  by_cases h : 9 <= i /\ i < 73
  ·rw [Cz _ _ _ h.1 h.2,show (jBox k kind file rate burst l).x = 0 from rfl,Nat.zero_testBit]
   have : i = 9 \/ i = 10 \/ i = 11 \/ i = 12 \/ i = 13 \/ i = 14 \/ i = 15 \/ i = 16 \/ i = 17 \/ i = 18 \/ i = 19 \/ i = 20 \/ i = 21 \/ i = 22 \/ i = 23 \/ i = 24 \/ i = 25 \/ i = 26 \/ i = 27 \/ i = 28 \/ i = 29 \/ i = 30 \/ i = 31 \/ i = 32 \/ i = 33 \/ i = 34 \/ i = 35 \/ i = 36 \/ i = 37 \/ i = 38 \/ i = 39 \/ i = 40 \/ i = 41 \/ i = 42 \/ i = 43 \/ i = 44 \/ i = 45 \/ i = 46 \/ i = 47 \/ i = 48 \/ i = 49 \/ i = 50 \/ i = 51 \/ i = 52 \/ i = 53 \/ i = 54 \/ i = 55 \/ i = 56 \/ i = 57 \/ i = 58 \/ i = 59 \/ i = 60 \/ i = 61 \/ i = 62 \/ i = 63 \/ i = 64 \/ i = 65 \/ i = 66 \/ i = 67 \/ i = 68 \/ i = 69 \/ i = 70 \/ i = 71 \/ i = 72:=by omega
   rcases this with rfl | rfl | rfl | rfl | rfl | rfl | rfl | rfl | rfl | rfl | rfl | rfl | rfl | rfl | rfl | rfl | rfl | rfl | rfl | rfl | rfl | rfl | rfl | rfl | rfl | rfl | rfl | rfl | rfl | rfl | rfl | rfl | rfl | rfl | rfl | rfl | rfl | rfl | rfl | rfl | rfl | rfl | rfl | rfl | rfl | rfl | rfl | rfl | rfl | rfl | rfl | rfl | rfl | rfl | rfl | rfl | rfl | rfl | rfl | rfl | rfl | rfl | rfl | rfl <;> rfl
  ·have : i = 0 \/ i = 1 \/ i = 2 \/ i = 3 \/ i = 4 \/ i = 5 \/ i = 6 \/ i = 7 \/ i = 8 \/ i = 73 \/ i = 74 \/ i = 75 \/ i = 76 \/ i = 77:=by omega
   rcases this with rfl | rfl | rfl | rfl | rfl | rfl | rfl | rfl | rfl | rfl | rfl | rfl | rfl | rfl
   all_goals first | rfl | (show some (Value.int .i64 0) = some (Value.int .i64 ((Gh (jBox k kind file rate burst l) : Nat) : Int)); unfold Gh; split <;> rfl)
 ·rw [Array.getElem?_eq_none (by show 78 <= i; omega),Array.getElem?_eq_none (by simp [AV]; omega)]
theorem Uz (bs : Nat) (v : Value) (k kind file rate burst : Int) (l : List Int) :
  ((((((((((((Tryz.zeroCells149.setIfInBounds 0 (.pointer (some ⟨bs,0,none⟩))).setIfInBounds 1 (.int .i64 k)).setIfInBounds 2 (.int .i64 kind)).setIfInBounds 3 (.int .i64 file)).setIfInBounds 4 (.int .i64 rate)).setIfInBounds 5 (.int .i64 burst)).setIfInBounds 6 v).setIfInBounds 73 (.int .i64 (-1))).setIfInBounds 74 (.int .i64 2)).setIfInBounds 75 (.int .i64 rate)).setIfInBounds 76 (.int .i64 burst)).setIfInBounds 77 (.int .i64 burst)) = AV bs v (jBox k kind file rate burst l):=(show ((((((((((((Tryz.zeroCells149.setIfInBounds 0 (.pointer (some ⟨bs,0,none⟩))).setIfInBounds 1 (.int .i64 k)).setIfInBounds 2 (.int .i64 kind)).setIfInBounds 3 (.int .i64 file)).setIfInBounds 4 (.int .i64 rate)).setIfInBounds 5 (.int .i64 burst)).setIfInBounds 6 v).setIfInBounds 73 (.int .i64 (-1))).setIfInBounds 74 (.int .i64 2)).setIfInBounds 75 (.int .i64 rate)).setIfInBounds 76 (.int .i64 burst)).setIfInBounds 77 (.int .i64 burst)) = #[.pointer (some ⟨bs,0,none⟩),.int .i64 k,.int .i64 kind,.int .i64 file,.int .i64 rate,.int .i64 burst,v,.int .i64 0,.int .i64 0,.bool false,.bool false,.bool false,.bool false,.bool false,.bool false,.bool false,.bool false,.bool false,.bool false,.bool false,.bool false,.bool false,.bool false,.bool false,.bool false,.bool false,.bool false,.bool false,.bool false,.bool false,.bool false,.bool false,.bool false,.bool false,.bool false,.bool false,.bool false,.bool false,.bool false,.bool false,.bool false,.bool false,.bool false,.bool false,.bool false,.bool false,.bool false,.bool false,.bool false,.bool false,.bool false,.bool false,.bool false,.bool false,.bool false,.bool false,.bool false,.bool false,.bool false,.bool false,.bool false,.bool false,.bool false,.bool false,.bool false,.bool false,.bool false,.bool false,.bool false,.bool false,.bool false,.bool false,.bool false,.int .i64 (-1),.int .i64 2,.int .i64 rate,.int .i64 burst,.int .i64 burst] by kernel_rfl).trans (Us bs v k kind file rate burst l)
theorem Wo (bs : Nat) (v : Value) (j : JobM) (s : Nat) : ∀q,q < 78 -> yx bs v { j with n:=s } q = if q = 8 then .int .i64 (s : Nat) else yx bs v j q:=by
 intro q _
 unfold yx
 by_cases h : q = 8
 ·subst h; rfl
 ·rw [if_neg h,if_neg h,if_neg h]; rfl
theorem K9 (bs : Nat) (v : Value) (j : JobM) (hk : j.kind≠1) (s : Nat) : ∀q,q < 78 -> yx bs v { j with deep:=s } q = if q = 7 then .int .i64 (s : Nat) else yx bs v j q:=by
 intro q _
 unfold yx
 by_cases h : q = 7
 ·subst h
  show Value.int .i64 ((Gh { j with deep:=s } : Nat) : Int) = _
  unfold Gh
  rw [if_neg hk]
  try rfl
 ·rw [if_neg h,if_neg h,if_neg h]; try rfl
theorem SC (bs : Nat) (v : Value) (F : ShM) (j : JobM) (hn : j.n <= 64) {c : Nat} (hc : c < j.n) : ∀q,q < 78 -> yx bs v { j with x:=oX F j (c + 1) } q = if q = 9 + c then .bool (o5 F j (c : Int)) else yx bs v { j with x:=oX F j c } q:=by
 intro q hq
 by_cases h : 9 <= q /\ q < 73
 ·rw [Cz _ _ _ h.1 h.2,Cz _ _ _ h.1 h.2]
  show Value.bool ((oX F j (c + 1)).testBit (q - 9)) = _
  rw [TY F j hn hc _ (by omega)]
  by_cases e : q - 9 = c
  ·rw [if_pos e,if_pos (by omega)]
  ·rw [if_neg e,if_neg (by omega)]
 ·rw [if_neg (by omega),FY bs v j (oX F j (c + 1)) h hq,FY bs v j (oX F j c) h hq]
theorem MA (bs : Nat) (A : Nat -> Nat×Nat) (F : ShM) (hF : ShOk F) (root kind file rate burst : Int) (hl5 : (ls F root).1.length <= 5) (R : List SL.HP) (w : World) (H : own w (rshL bs A F++R)) :
  Calls Tryz.prog 16 #[.pointer (some ⟨bs,0,none⟩),.agg #[.int .i64 root,.int .i64 kind,.int .i64 file,.int .i64 rate,.int .i64 burst]] w (yp bs A F (newM F root kind file rate burst) R w):=by
 have ha:=li H (.cells #[.int .i64 root,.int .i64 kind,.int .i64 file,.int .i64 rate,.int .i64 burst] 24)
 have hxa:=(Ext.refl w).alloc (.cells #[.int .i64 root,.int .i64 kind,.int .i64 file,.int .i64 rate,.int .i64 burst] 24)
 have hb : own _ (rshL bs A F++(_::R)):=lu (rshL bs A F) ha
 have hwk:=fun R' w' h=>DX bs A F hF root R' w' h
 have hfl:=zQ F root
 have hnd:=@Gv F root
 have hwc : 0 <= (ls F root).2:=zd
 have HWK:=zh hwk
 unfold zA at HWK
 generalize hres : newM F root kind file rate burst = res
 unfold newM at hres
 by_cases hz : (ls F root).2≠0
 ·rw [if_pos hz] at hres
  subst hres
  have hp : 0 < (ls F root).2:=by omega
  generalize ls F root = S at *
  obtain ⟨l,wc⟩:=S
  dsimp only at hwc HWK ⊢
  clear hz hwk hfl ha hnd
  go_enter Tryz.func16,Tryz.ntmps16
  go_upto_region 1 with (fail)
  generalize w.heap.size = g at *
  generalize w.alloc (.cells #[.int .i64 root,.int .i64 kind,.int .i64 file,.int .i64 rate,.int .i64 burst] 24) = w1 at *
  have c0:=(ld 6 hb rfl).1 0
  go_wp2_with fail
  refine (HWK.out _ _ hb).mono ?_
  rintro e w2 ⟨v,rfl,hx2,h2⟩
  go_wp2_with fail
  go_ret2
  exact yp.no rfl (hxa.trans hx2) (lh 6 (le h2) rfl)
 ·rw [if_neg hz] at hres
  have hz0 : (ls F root).2 = 0:=by omega
  rw [hz0] at HWK
  by_cases h0 : (ls F root).1.length = 0
  ·rw [if_pos h0] at hres
   subst hres
   have hl0 : (ls F root).1 = []:=List.length_eq_zero_iff.1 h0
   rw [hl0] at HWK
   clear hz hwk hfl ha h0 hl0 hz0 hwc hnd
   go_enter Tryz.func16,Tryz.ntmps16
   go_upto_region 1 with (fail)
   generalize w.heap.size = g at *
   generalize w.alloc (.cells #[.int .i64 root,.int .i64 kind,.int .i64 file,.int .i64 rate,.int .i64 burst] 24) = w1 at *
   have c0:=(ld 6 hb rfl).1 0
   go_wp2_with fail
   refine (HWK.out _ _ hb).mono ?_
   rintro e w2 ⟨v,rfl,hx2,h2⟩
   obtain ⟨ao,lb,off,cap,rfl,-,-,-,-⟩:=(lY 0 h2 rfl).form
   go_wp2_with fail
   go_ret2
   exact yp.no rfl (hxa.trans hx2) (lh 6 (le h2) rfl)
  ·rw [if_neg h0] at hres
   by_cases ho : A9 rate burst = false
   ·rw [if_pos ho] at hres
    subst hres
    generalize (ls F root).1 = l at *
    have l0 : ((l.length : Int) == 0) = false:=by rw [beq_eq_false_iff_ne]; omega
    simp only [A9,decide_eq_false_iff_not] at ho
    clear hz hwk hfl ha h0 hz0 hwc hnd
    go_enter Tryz.func16,Tryz.ntmps16
    go_upto_region 1 with (fail)
    generalize w.heap.size = g at *
    generalize w.alloc (.cells #[.int .i64 root,.int .i64 kind,.int .i64 file,.int .i64 rate,.int .i64 burst] 24) = w1 at *
    have c0:=(ld 6 hb rfl).1 0
    go_wp2_with fail
    refine (HWK.out _ _ hb).mono ?_
    rintro e w2 ⟨v,rfl,hx2,h2⟩
    obtain ⟨ao,lb,off,cap,rfl,-,-,-,-⟩:=(lY 0 h2 rfl).form
    have d3:=(ld 7 h2 rfl).1 3
    have d4:=(ld 7 h2 rfl).1 4
    have HQ : own w2 (rshL bs A F++R):=lh 6 (le h2) rfl
    have HX:=hxa.trans hx2
    clear c0 h2 hb hxa hx2
    by_cases q1 : rate < 0
    ·clear ho
     go_wp2_with fail
     go_ret2
     exact yp.no rfl HX HQ
    ·by_cases q2 : 1000 < rate
     ·clear ho
      go_wp2_with fail
      go_ret2
      exact yp.no rfl HX HQ
     ·by_cases q3 : burst < 0
      ·clear ho
       go_wp2_with fail
       go_ret2
       exact yp.no rfl HX HQ
      ·have q4 : 1000 < burst:=by omega
       clear ho
       go_wp2_with fail
       go_ret2
       exact yp.no rfl HX HQ
   ·rw [if_neg ho] at hres
    have HRES:=zh hres
    clear hres
    have ho : A9 rate burst = true:=by simpa using ho
    have hroot:=EU h0
    obtain ⟨k,m,hxk,hk,hFk⟩:=lT hroot
    have hcl:=zB hF hroot
    have hcm : clus F root = m.c:=by rw [hxk]; exact yo hFk
    have hcn : (((clus F root).toNat : Nat) : Int) = m.c:=by omega
    have HCN:=zh hcn
    clear hcn
    have HF:=zh hF
    have HFL:=zh hfl
    have HND:=zh (hnd hz0)
    have i1 : (0 : Int) <= (k : Int):=by omega
    have i2 : (k : Int) < 5:=by omega
    obtain ⟨r1,r2,r3,r4⟩:=Ln.1 ho
    have p1 : decide (rate < 0) = false:=decide_eq_false (by omega)
    have p2 : decide (1000 < rate) = false:=decide_eq_false (by omega)
    have p3 : decide (burst < 0) = false:=decide_eq_false (by omega)
    have p4 : decide (1000 < burst) = false:=decide_eq_false (by omega)
    subst hxk
    have hok : ∀deep,kind = 1 \/ kind = 2 \/ kind = 3 -> deep <= (ls F (k : Int)).1.length -> (zP F (jNew F k kind file rate burst (ls F (k : Int)).1 deep)).Ok:=fun deep hkk hd=>Ej hF hroot hl5 h0 ho hkk hd
    have HOK:=zh hok
    clear hok hnd
    generalize hL : (ls F (k : Int)).1 = l at *
    have l0 : ((l.length : Int) == 0) = false:=by rw [beq_eq_false_iff_ne]; omega
    go_enter Tryz.func16,Tryz.ntmps16
    go_upto_region 1 with (fail)
    generalize w.heap.size = g at *
    generalize w.alloc (.cells #[.int .i64 (k : Int),.int .i64 kind,.int .i64 file,.int .i64 rate,.int .i64 burst] 24) = w1 at *
    have c0:=(ld 6 hb rfl).1 0
    go_wp2_with fail
    refine (HWK.out _ _ hb).mono ?_
    rintro e w2 ⟨v,rfl,hx2,h2⟩
    obtain ⟨ao,lb,off,cap,rfl,-,-,hao,-⟩:=(lY 0 h2 rfl).form
    obtain rfl:=hao (by omega)
    have d0:=(ld 7 h2 rfl).1 0
    have d1:=(ld 7 h2 rfl).1 1
    have d2:=(ld 7 h2 rfl).1 2
    have d3:=(ld 7 h2 rfl).1 3
    have d4:=(ld 7 h2 rfl).1 4
    clear c0
    go_upto_region 9 with (fail)
    have h6:=li h2 (.cells ((((((((((((Tryz.zeroCells149.setIfInBounds 0 (.pointer (some ⟨bs,0,none⟩))).setIfInBounds 1 (.int .i64 (k : Int))).setIfInBounds 2 (.int .i64 kind)).setIfInBounds 3 (.int .i64 file)).setIfInBounds 4 (.int .i64 rate)).setIfInBounds 5 (.int .i64 burst)).setIfInBounds 6 (.slice (some ⟨lb,off,none⟩) l.length cap)).setIfInBounds 73 (.int .i64 (-1))).setIfInBounds 74 (.int .i64 2)).setIfInBounds 75 (.int .i64 rate)).setIfInBounds 76 (.int .i64 burst)).setIfInBounds 77 (.int .i64 burst)) 149)
    have hx6:=(hxa.trans hx2).alloc (.cells ((((((((((((Tryz.zeroCells149.setIfInBounds 0 (.pointer (some ⟨bs,0,none⟩))).setIfInBounds 1 (.int .i64 (k : Int))).setIfInBounds 2 (.int .i64 kind)).setIfInBounds 3 (.int .i64 file)).setIfInBounds 4 (.int .i64 rate)).setIfInBounds 5 (.int .i64 burst)).setIfInBounds 6 (.slice (some ⟨lb,off,none⟩) l.length cap)).setIfInBounds 73 (.int .i64 (-1))).setIfInBounds 74 (.int .i64 2)).setIfInBounds 75 (.int .i64 rate)).setIfInBounds 76 (.int .i64 burst)).setIfInBounds 77 (.int .i64 burst)) 149)
    generalize w2.heap.size = br at *
    generalize w2.alloc (.cells ((((((((((((Tryz.zeroCells149.setIfInBounds 0 (.pointer (some ⟨bs,0,none⟩))).setIfInBounds 1 (.int .i64 (k : Int))).setIfInBounds 2 (.int .i64 kind)).setIfInBounds 3 (.int .i64 file)).setIfInBounds 4 (.int .i64 rate)).setIfInBounds 5 (.int .i64 burst)).setIfInBounds 6 (.slice (some ⟨lb,off,none⟩) l.length cap)).setIfInBounds 73 (.int .i64 (-1))).setIfInBounds 74 (.int .i64 2)).setIfInBounds 75 (.int .i64 rate)).setIfInBounds 76 (.int .i64 burst)).setIfInBounds 77 (.int .i64 burst)) 149) = w6 at *
    rw [Uz bs (.slice (some ⟨lb,off,none⟩) l.length cap) (k : Int) kind file rate burst l] at h6
    generalize hV : Value.slice (some ⟨lb,off,none⟩) l.length cap = V at *
    have h7 : own w6 (rshL bs A F++(lA bs br V (jBox (k : Int) kind file rate burst l)::(row 3 1 V l.length (ln l)::(pts g (.cells #[.int .i64 (k : Int),.int .i64 kind,.int .i64 file,.int .i64 rate,.int .i64 burst] 24 (0,0))::R)))):=lq [_,_] (rshL bs A F) h6
    have HX:=zh hx6
    have HV:=zh hV
    clear hV hx6 hxa hx2 h2 h6 hb ha d0 d1 d2 d3 d4 hwk hfl HWK h0 hz hz0 hwc ho hroot hcl hcm hao r1 r2 r3 r4 p1 p2 p3 p4 hF
    have d0:=(ld 8 h7 rfl).1 0
    have g1:=yl h7 hk
    rw [oS hFk] at g1
    obtain ⟨-,-,-,x1,-,-,-,-,-⟩:=AJ hk hFk h7
    go_quiet (fail)
    have h8:=lm nq h7
    have hx8:=HX.out.drewN nq
    clear d0 g1 x1 h7 HX
    generalize w6.drewN nq = w8 at *
    have hf8:=oU 6 h8 rfl 8
    have chf8:=lp 6 h8 rfl 8 (by decide)
    have h9:=yV (i:=8) (a:=.int .i64 ((clus F (k : Int)).toNat : Nat)) 6 h8 rfl (Wo bs V _ (clus F (k : Int)).toNat)
    rw [HCN.out] at h9
    have h9 : own _ (rshL bs A F++(lA bs br V (jNew F (k : Int) kind file rate burst l 0)::(row 3 1 V l.length (ln l)::(pts g (.cells #[.int .i64 (k : Int),.int .i64 kind,.int .i64 file,.int .i64 rate,.int .i64 burst] 24 (0,0))::R)))):=h9
    have hx9:=hx8.setCell ⟨br,8,none⟩ (.int .i64 m.c)
    have H9:=zh h9
    have HX9:=zh hx9
    have hlg:=@Qh file l 0 HND.out
    have HP:=zh hL
    clear hL
    have hpr:=Dt l file
    rw [show zI file 0 l = zM l file from rfl] at hlg
    generalize zM l file = pl at *
    have HLG:=zh hlg
    clear hlg h8 hx8 h9 hx9
    have hV:=HV.out
    subst hV
    go_wp2_with fail
    generalize w8.setCell ⟨br,8,none⟩ (.int .i64 m.c) = w9 at *
    clear hf8 chf8
    go_loopw [10,11] (fun av iv wr=>∃(q : Nat) (a : Int),q <= l.length /\ av = .int .i64 a /\ iv = .int .i64 q /\ EJ file q (l.drop q) a = pl /\ Ext w wr /\ own wr (rshL bs A F++(lA bs br (.slice (some ⟨lb,off,none⟩) l.length cap) (jNew F (k : Int) kind file rate burst l 0)::(row 3 1 (.slice (some ⟨lb,off,none⟩) l.length cap) l.length (ln l)::(pts g (.cells #[.int .i64 (k : Int),.int .i64 kind,.int .i64 file,.int .i64 rate,.int .i64 burst] 24 (0,0))::R))))) (fun _ iv _=>l.length - (intOf iv).toNat)
    case atStart=>exact ⟨0,-1,Nat.zero_le _,rfl,rfl,HLG.out,HX9.out,H9.out⟩
    case round=>
     clear H9 HX9 HLG
     obtain ⟨q,a,hq,rfl,rfl,hgo,hxr,hown⟩:=hrel
     by_cases hlt : q < l.length
     ·have c1:=oo (lY 7 hown rfl) hlt
      have d2:=(ld 8 hown rfl).1 2
      rw [zJ 0 hlt,EJ] at hgo
      have j1 : (0 : Int) <= (q : Int):=by omega
      have j2 : (q : Int) < (l.length : Int):=by omega
      generalize l.getD q 0 = x at *
      by_cases hx : x = file
      ·rw [if_pos hx] at hgo
       have HGO:=zh hgo
       have d0 : (x == file) = true:=by rw [hx]; simp
       clear hgo hx
       go_upto_region 15 with (fail)
       go_quiet (fail)
       go_wp2_with fail
       go_roundw
       case rel=>exact ⟨q + 1,(q : Int),by omega,rfl,by go_num,HGO.out,hxr.drewN _,lm _ hown⟩
       case measure=>simp [intOf]; omega
      ·rw [if_neg hx] at hgo
       have HGO:=zh hgo
       have d0 : (x == file) = false:=by rw [beq_eq_false_iff_ne]; exact hx
       clear hgo hx
       go_upto_region 15 with (fail)
       go_quiet (fail)
       go_wp2_with fail
       go_roundw
       case rel=>exact ⟨q + 1,a,by omega,rfl,by go_num,HGO.out,hxr.drewN _,lm _ hown⟩
       case measure=>simp [intOf]; omega
     ·obtain rfl : l.length = q:=by omega
      rw [List.drop_of_length_le (Nat.le_refl _)] at hgo
      have hgo' : a = pl:=hgo
      subst hgo'
      clear hgo hq hlt
      have d1:=(ld 8 hown rfl).1 1
      have d2:=(ld 8 hown rfl).1 2
      have HBAD : ∀n,own (wr.drewN n) (rshL bs A F++R):=fun n=>lm n (lh 6 (lh 7 (lh 8 hown rfl) rfl) rfl)
      by_cases hk1 : kind = 1
      case' pos=>
       subst hk1
       have hres:=HRES.out
       rw [if_pos rfl] at hres
       by_cases hfi : Fo F file = false
       ·rw [if_pos hfi] at hres
        subst hres
        have hnf : ¬lx F file:=fun h=>absurd (Cb.2 h) (by rw [hfi]; decide)
        clear hfi HRES
        by_cases hf0 : file < 0
        ·have df : decide (file < 0) = true:=decide_eq_true hf0
         go_upto_region 20 with (fail)
         go_quiet (fail)
         go_wp2_with fail
         go_ret2
         exact yp.no rfl (hxr.drewN _) (HBAD _)
        ·have df : decide (file < 0) = false:=decide_eq_false hf0
         by_cases hf5 : 5 <= file
         ·have dg : decide (5 <= file) = true:=decide_eq_true hf5
          go_upto_region 20 with (fail)
          go_quiet (fail)
          go_wp2_with fail
          go_ret2
          exact yp.no rfl (hxr.drewN _) (HBAD _)
         ·have dg : decide (5 <= file) = false:=decide_eq_false hf5
          obtain ⟨q,rfl⟩ : ∃q : Nat,file = (q : Int):=⟨file.toNat,by omega⟩
          have q1 : (0 : Int) <= (q : Int):=by omega
          have q2 : (q : Int) < 5:=by omega
          have hFq : F q = none:=by
           cases e : F q with
           | none=>rfl
           | some x=>exact (hnf ⟨by omega,by omega,x,by rw [zn]; exact e⟩).elim
          have gq:=yl hown (k:=q) (by omega)
          rw [Ci hFq] at gq
          clear hnf
          go_upto_region 20 with (fail)
          go_quiet (fail)
          go_wp2_with fail
          go_ret2
          exact yp.no rfl (hxr.drewN _) (HBAD _)
       rw [if_neg hfi] at hres
       obtain ⟨hq0,hq5',m2,hFq'⟩:=(Cb.1 (by simpa using hfi) : lx F file)
       obtain ⟨q,rfl⟩ : ∃q : Nat,file = (q : Int):=⟨file.toNat,by omega⟩
       have hq5 : q < 5:=by omega
       have hFq : F q = some m2:=by rw [zn] at hFq'; exact hFq'
       have df : decide ((q : Int) < 0) = false:=decide_eq_false (by omega)
       have dg : decide (5 <= (q : Int)) = false:=decide_eq_false (by omega)
       have q1 : (0 : Int) <= (q : Int):=by omega
       have q2 : (q : Int) < 5:=by omega
       have gq:=yl hown hq5
       rw [oS hFq] at gq
       have hbk : bkOf F (q : Int) = m2.b:=by unfold bkOf; rw [zn,hFq]
       have hcl2 : clus F (q : Int) = m2.c:=yo hFq
       have hclk : clus F (k : Int) = m.c:=yo hFk
       rw [hbk,hcl2,hclk] at hres
       have HRES2:=zh hres
       clear hfi hq0 hq5' hFq' hbk hcl2 hclk HRES hres
       go_upto_region 20 with (fail)
       go_quiet (fail)
       have h8:=lm nq hown
       have hx8:=hxr.drewN nq
       clear d1 d2 gq HBAD hown hxr
       generalize wr.drewN nq = w8 at *
       have d2:=(ld 8 h8 rfl).1 2
       have HBAD : ∀n,own (w8.drewN n) (rshL bs A F++R):=fun n=>lm n (lh 6 (lh 7 (lh 8 h8 rfl) rfl) rfl)
       have gq:=yl h8 hq5
       rw [oS hFq] at gq
       obtain ⟨-,-,-,x1,-,x3,-,-,-⟩:=AJ hq5 hFq h8
       by_cases hp0 : 0 <= a
       ·rw [if_pos (.inl hp0)] at HRES2
        have dp : decide (0 <= a) = true:=decide_eq_true hp0
        clear hp0
        go_upto_region 22 with (fail)
        go_quiet (fail)
        go_wp2_with fail
        go_ret2
        rw [<- HRES2.out]
        exact yp.no rfl (hx8.drewN _) (HBAD _)
       have dp : decide (0 <= a) = false:=decide_eq_false hp0
       by_cases hbb : m2.b = -1
       rotate_left
       ·rw [if_pos (.inr (.inl hbb))] at HRES2
        have db : (m2.b != -1) = true:=bne_iff_ne.2 hbb
        clear hp0 hbb
        go_upto_region 22 with (fail)
        go_quiet (fail)
        go_wp2_with fail
        go_ret2
        rw [<- HRES2.out]
        exact yp.no rfl (hx8.drewN _) (HBAD _)
       have db : (m2.b != -1) = false:=by rw [hbb]; rfl
       by_cases hcc : m2.c = m.c
       rotate_left
       ·rw [if_pos (.inr (.inr hcc))] at HRES2
        have dc : (m2.c != m.c) = true:=bne_iff_ne.2 hcc
        clear hp0 hbb hcc
        go_upto_region 22 with (fail)
        go_quiet (fail)
        go_wp2_with fail
        go_ret2
        rw [<- HRES2.out]
        exact yp.no rfl (hx8.drewN _) (HBAD _)
       rw [if_neg (by rintro (h | h | h); exact hp0 h; exact h hbb; exact h hcc)] at HRES2
       have dc : (m2.c != m.c) = false:=by rw [hcc]; simp
       clear hp0 hbb hcc
       go_upto_region 22 with (fail)
       go_quiet (fail)
       have h10:=lm nq h8
       have hxt:=hx8.drewN nq
       clear HBAD d2 gq x1 x3
       go_wp2_with fail
       obtain ⟨J,hJ⟩ : ∃J,jNew F (k : Int) 1 (q : Int) rate burst l 0 = J:=⟨_,rfl⟩
       have hj:=HOK.out 0 (by simp) (by omega)
      case' neg=>
       have hres:=HRES.out
       rw [if_neg hk1] at hres
       have e1 : (kind == 1) = false:=by rw [beq_eq_false_iff_ne]; exact hk1
       have f7:=oU 6 hown rfl 7
       have cf7:=lp 6 hown rfl 7 (by decide)
       have HB0 : own wr (rshL bs A F++R):=lh 6 (lh 7 (lh 8 hown rfl) rfl) rfl
       by_cases hk2 : kind = 2 /\ file = -1
       case' pos=>
        rw [if_pos hk2] at hres
        obtain ⟨rfl,rfl⟩:=hk2
        have HRES2:=zh hres
        have h10:=yV (i:=7) (a:=.int .i64 (l.length : Nat)) 6 hown rfl (K9 bs _ (jNew F (k : Int) 2 (-1) rate burst l 0) (show (2 : Int)≠1 by decide) l.length)
        have hxt:=hxr.setCell (⟨br,7,none⟩ : Addr) (.int .i64 (l.length : Nat))
        have hln : ¬((l.length : Int) < 1):=by rw [beq_eq_false_iff_ne] at l0; omega
        clear hres HRES hk1 e1 HB0 HBAD hown hxr
        go_wp2_with fail
        obtain ⟨J,hJ⟩ : ∃J,jNew F (k : Int) 2 (-1) rate burst l l.length = J:=⟨_,rfl⟩
        have hj:=HOK.out l.length (by simp) (by omega)
        replace h10 : own _ (rshL bs A F++(lA bs br (.slice (some ⟨lb,off,none⟩) l.length cap) (jNew F (k : Int) 2 (-1) rate burst l l.length)::_)):=h10
       case' neg=>
        rw [if_neg hk2] at hres
        by_cases hk3 : kind = 2 \/ kind = 3
        rotate_left
        ·rw [if_neg hk3] at hres
         subst hres
         have e2 : (kind == 2) = false:=by rw [beq_eq_false_iff_ne]; omega
         have e3 : (kind == 3) = false:=by rw [beq_eq_false_iff_ne]; omega
         clear hk1 hk2 hk3 HRES HBAD
         go_wp2_with fail
         go_ret2
         exact yp.no rfl hxr HB0
        rw [if_pos hk3] at hres
        by_cases hpl : a < 1
        ·rw [if_pos hpl] at hres
         subst hres
         rcases hk3 with rfl | rfl
         all_goals
          try have hf1 : (file == -1) = false:=by rw [beq_eq_false_iff_ne]; omega
          clear hk1 hk2 HRES HBAD
          go_wp2_with fail
          go_ret2
          exact yp.no rfl hxr HB0
        rw [if_neg hpl] at hres
        obtain ⟨p,rfl⟩ : ∃p : Nat,a = (p : Int):=⟨a.toNat,by omega⟩
        rw [zn] at hres
        have HRES2:=zh hres
        have hp1 : ¬((p : Int) < 1):=hpl
        have hxt:=hxr.setCell (⟨br,7,none⟩ : Addr) (.int .i64 (p : Nat))
        have h10:=yV (i:=7) (a:=.int .i64 (p : Nat)) 6 hown rfl (K9 bs _ (jNew F (k : Int) kind file rate burst l 0) hk1 p)
        obtain ⟨J,hJ⟩ : ∃J,jNew F (k : Int) kind file rate burst l p = J:=⟨_,rfl⟩
        have hj:=HOK.out p (by omega) (by omega)
        replace h10 : own _ (rshL bs A F++(lA bs br (.slice (some ⟨lb,off,none⟩) l.length cap) (jNew F (k : Int) kind file rate burst l p)::_)):=h10
        clear hres HRES HB0 HBAD
        rcases hk3 with rfl | rfl
        all_goals
         try have hf1 : (file == -1) = false:=by rw [beq_eq_false_iff_ne]; omega
         clear hk1 hk2 e1 hown hxr
         go_wp2_with fail
      all_goals
       have hx12:=zh hxt
       rw [hJ] at hj h10 HRES2
       have hjok:=zh hj
       have hjl : J.list = l:=by rw [<- hJ]; rfl
       have hnn : (J.n : Int) = m.c:=by rw [<- hJ]; exact HCN.out
       have HJ0 : Hid (({ J with x:=oX F J 0 } : JobM) = J):=zh (by rw [<- hJ]; rfl)
       obtain ⟨P,h10⟩ : ∃P,own _ (rshL bs A F++(lA bs br (.slice (some ⟨lb,off,none⟩) l.length cap) J::(row 3 1 (.slice (some ⟨lb,off,none⟩) l.length cap) l.length (ln l)::(P::R)))):=⟨_,h10⟩
       have hv12 : ∀w' L,own w' (L++(row 3 1 (.slice (some ⟨lb,off,none⟩) l.length cap) l.length (ln l)::(P::R))) -> lR w' (.slice (some ⟨lb,off,none⟩) l.length cap) J.list:=fun w' L h=>by rw [hjl]; exact lY 0 (lq L [row 3 1 (.slice (some ⟨lb,off,none⟩) l.length cap) l.length (ln l)] h) rfl
       have HV12:=zh hv12
       have HJL:=zh hjl
       clear hj hjl hJ hv12
       clear hxt
       go_loopw [12] (fun iv wr=>∃z : Nat,z <= J.n /\ iv = .int .i64 z /\ Ext w wr /\ own wr (rshL bs A F++(lA bs br (.slice (some ⟨lb,off,none⟩) l.length cap) { J with x:=oX F J z }::(row 3 1 (.slice (some ⟨lb,off,none⟩) l.length cap) l.length (ln l)::(P::R))))) (fun iv _=>J.n - (intOf iv).toNat)
       case atStart=>exact ⟨0,Nat.zero_le _,rfl,hx12.out,by rw [HJ0.out]; exact h10⟩
       case round=>
        obtain ⟨z,hq,rfl,hxr,hown⟩:=hrel
        by_cases hlt : z < J.n
        ·have j1 : (0 : Int) <= (z : Int):=by omega
         have j2 : (z : Int) < m.c:=by omega
         have j3 : (z : Int) < 64:=by have:=hjok.out.n; have : J.n <= 64:=this; omega
         have hown2:=lj hown
         have hcq:=I4 bs A F HF.out br _ _ (D9 hjok.out z) (show ∀x∈J.list,lx F x by rw [HJL.out]; exact HFL.out) (z : Int) _ wr.drew HV12.out hown2
         have HFI:=zh (SC bs (.slice (some ⟨lb,off,none⟩) l.length cap) F J hjok.out.n hlt)
         have hwx : o5 F { J with x:=oX F J z } (z : Int) = o5 F J (z : Int):=rfl
         rw [hwx] at hcq
         generalize o5 F J (z : Int) = wv at *
         have HCQ:=zh hcq
         clear hcq hwx
         go_upto_region 34 with (fail)
         refine wp_region_held_drew (S:=fun _=>True) (by kernel_rfl) trivial (fun hHeld=>?_)
         refine tk 0 ?_
         refine tk 1 ?_
         refine tk 2 ?_
         refine tk 3 ?_
         try simp only [Act.put,tA,tB,tC,tD,tE,tF]
         refine tk 5 ?_
         refine tk 6 ?_
         refine tk 7 ?_
         try simp only [Act.put,tA,tB,tC,tD,tE,tF]
         refine rd 4 rfl fun K hK=>?_
         go_simp
         go_at_call 78
         refine HCQ.out.mono ?_
         rintro e w12 ⟨rfl,nw,rfl⟩
         go_simp
         refine hK.out _ _ trivial (fun _=>?_)
         clear hK K
         try simp only [Act.put,tA,tB,tC,tD,tE,tF]
         refine tk 8 ?_
         try simp only [Act.put,tA,tB,tC,tD,tE,tF]
         have h13:=lm (1 + nw) hown
         have hx13:=hxr.drewN (1 + nw)
         have hf:=oU 6 hown rfl (9 + z)
         have chf:=lp 6 hown rfl (9 + z) (by omega)
         have h14:=yV (i:=9 + z) (a:=.bool wv) 6 h13 rfl HFI.out
         refine rd 9 rfl fun K hK=>?_
         go_simp
         refine hK.out _ _ trivial (fun _=>?_)
         clear hK K
         try simp only [Act.put,tA,tB,tC,tD,tE,tF]
         refine wpAnyH_done (by kernel_rfl) ?_ _
         go_wp2_with fail
         go_roundw
         case rel=>exact ⟨z + 1,by omega,by go_num,hx13.setCell _ _,h14⟩
         case measure=>simp [intOf]; omega
        ·obtain rfl : z = J.n:=by omega
         have j2 : ¬((J.n : Int) < m.c):=by omega
         have dj : decide ((J.n : Int) < m.c) = false:=decide_eq_false j2
         go_wp2_with fail
         go_ret2
         rw [<- HRES2.out]
         exact yp.yes br (.slice (some ⟨lb,off,none⟩) l.length cap) rfl hxr (show own wr (rshL bs A F++(lA bs br (.slice (some ⟨lb,off,none⟩) l.length cap) (zP F J)::(row 3 1 (.slice (some ⟨lb,off,none⟩) l.length cap) J.list.length (ln J.list)::R))) by rw [HJL.out]; exact lh 8 hown rfl)

theorem Vg (a b c d : Int) (w : World) : (Instr.field 47 (.agg #[.int .i64 a,.int .i64 b,.int .i64 c,.int .i64 d]) 2).run Tryz.prog w = .ok (.int .i64 c) w:=by kernel_rfl
theorem DZ (F : ShM) (root kind file rate burst : Int) : 0 <= (newM F root kind file rate burst).2:=by
 have : 0 <= (ls F root).2:=zd
 unfold newM
 repeat' split
 all_goals first | exact this | simp
theorem TB {w : World} (a c d : List SL.HP) {R : List SL.HP} (H : own w (a++(c++(d++R)))) : own w (a++(d++(c++R))):=by
 have h1:=lq a (c++d) (R:=R) (by simpa only [zp] using H)
 have h2:=lq c (d++a) (R:=R) (by simpa only [zp] using h1)
 have h3:=lq d a (R:=c++R) (by simpa only [zp] using h2)
 exact h3
end Go.Proofs.YtbpblokfiajpjabGreatDoor
