/- Lemmas on which YardSays stands: the texts Yard8 YardP2 Yard9 Jobs13 Jobs13a Jobs13b Jobs13c Jobs14. No conditions. -/
import Derived.Test.YtbpblokfiajpjabGreatDoorPk5cf0b60dd2
set_option linter.all false
set_option maxRecDepth 1000000
set_option maxHeartbeats 32000000
namespace Go.Proofs.YtbpblokfiajpjabGreatDoor
open Go.RowKit Go.SL Go.Crc
attribute [local go_sem ↓] Go.wp_at_zero Go.wp_at_succ
theorem Ii (N : Nat) (Y : YA) (m : lf) (hm : YOk N m) (hN : N < 900000) (fr n : Int) (hfr : lR fr) (hn : lR n) (R : List SL.HP) (w : World) (H : own w (yL Y m R)) :
  Calls Tryz.prog 42 #[.pointer (some ⟨Y.y,0,none⟩),.int .i64 fr,.int .i64 n] w fun e w'=>e = .returned (.tuple #[.string (getM m.F m.list fr n).1,errV (getM m.F m.list fr n).2]) /\ Ext w w' /\ own w' (yL Y m R):=by
 have HG:=zh (fun w' h=>VO Y.bs Y.A m.F (hm.sh.sh hN) Y.v m.list hm.files hm.list5 fr n hfr hn (yT Y m++R) w' y_hv h)
 have HS:=zh (fun w' (h : own w' (yL Y m R))=>(⟨y_bs h,Cg h⟩ : w'.cell? ⟨Y.y,6,none⟩ = some (.pointer (some ⟨Y.bs,0,none⟩)) /\ w'.cell? ⟨Y.y,12,none⟩ = some Y.v))
 have hz:=lj H
 have hxz:=(zR w).drew
 generalize getM m.F m.list fr n = S at *
 obtain ⟨s,c⟩:=S
 dsimp only at HG ⊢
 clear hm hfr hn
 go_enter Tryz.func42,Tryz.ntmps42
 go_upto_region 1 with (fail)
 go_region_held3 (fun w'=>w'.cell? ⟨Y.y,6,none⟩ = some (.pointer (some ⟨Y.bs,0,none⟩)) /\ w'.cell? ⟨Y.y,12,none⟩ = some Y.v) (exact HS.out _ hz) ((go_at_call 142; refine (HG.out _ hz).mono ?_; rintro e w5 ⟨rfl,hx5,hz'⟩; have hxz:=hxz.trans hx5; have hz:=hz'))
 all_goals
  go_wp2_with fail
  go_ret2
  exact ⟨rfl,hxz,hz⟩
theorem yokF {N : Nat} {m : lf} (hm : YOk N m) {F' : ShM} {n : Nat} (s : lL n m.F F') : ∀k,k < 5 -> (F' k = none↔m.F k = none):=fun k hk=>s.same.none hk
theorem FC {N : Nat} {m : lf} (hm : YOk N m) : topI m.list < 5:=by
 obtain ⟨s,hs⟩:=hm.head
 obtain ⟨k,i,hx,hk,-⟩:=lT hm.root
 unfold topI
 rw [hs,List.getD_cons_zero,hx]
 omega
theorem Mm (N : Nat) (Y : YA) (m : lf) (hm : YOk N m) (hN : N + 1000 < 900000) (fr n : Int) (hfr : lR fr) (hn : lR n) (R : List SL.HP) (w : World) (H : own w (yL Y m R)) :
  Calls Tryz.prog 104 #[.pointer (some ⟨Y.y,0,none⟩),.int .i64 fr,.int .i64 n] w (zH Y (Aa m fr n) R w):=by
 have HWI:=zh (Jh N Y m hm (by omega) fr n R w H)
 generalize hres : Aa m fr n = res
 unfold Aa at hres
 have hwy:=FG hm fr n
 have hcr:=zI (hm.sh.sh (by omega)) hm.root
 by_cases hc : 0 <= fr /\ 0 <= n /\ fr <= clus m.F m.dk.root * 4 /\ n <= clus m.F m.dk.root * 4 - fr
 ·rw [zt hc] at hwy
  rw [zq (by rw [hwy]; exact fun h=>h rfl)] at hres
  have hb : Gf (clus m.F m.dk.root * 4) fr n = true:=zg hc
  rw [hb] at HWI
  obtain ⟨a,rfl⟩ : ∃a : Nat,fr = (a : Int):=⟨fr.toNat,by omega⟩
  obtain ⟨b,rfl⟩ : ∃b : Nat,n = (b : Int):=⟨n.toNat,by omega⟩
  have hab : a + b <= 200:=by omega
  have hst:=Ev hm.sh (FC hm) (by omega) (a : Int) (b : Int) (by omega)
  have HP:=zh (fun w' h=>S5 Y.bs Y.A m.F N hm.sh (by omega) Y.v m.list hm.files hm.list5 (a : Int) (b : Int) hfr hn (yT Y m++R) w' y_hv h)
  have hcode : 0 <= (zM m.F m.list (a : Int) (b : Int)).1:=Ky m.F m.list (a : Int) (b : Int)
  have HF:=zh (yokF hm hst)
  have HJ:=zh hm.jok
  have HS:=zh (fun (m' : lf) w' (h : own w' (yL Y m' R))=>(⟨y_bs h,Cg h⟩ : w'.cell? ⟨Y.y,6,none⟩ = some (.pointer (some ⟨Y.bs,0,none⟩)) /\ w'.cell? ⟨Y.y,12,none⟩ = some Y.v))
  generalize zM m.F m.list (a : Int) (b : Int) = S at *
  obtain ⟨c,F2⟩:=S
  dsimp only at HP HF hres hcode
  have HRES:=zh hres
  have HD:=zh (fun w' h=>Ke Y { m with F:=F2 } HJ.out a b hab R w' h)
  clear hm hfr hn hres hc hwy hb hst hcr
  go_enter Tryz.func104,Tryz.ntmps104
  go_wp2_with fail
  refine HWI.out.mono ?_
  rintro e w2 ⟨rfl,hx2,h2⟩
  have hz:=lj h2
  have hxz:=hx2.drew
  go_upto_region 3 with (fail)
  clear h2 hx2
  have hg : (fun w' : World=>w'.cell? ⟨Y.y,6,none⟩ = some (.pointer (some ⟨Y.bs,0,none⟩)) /\ w'.cell? ⟨Y.y,12,none⟩ = some Y.v) w2.drew:=HS.out _ _ hz
  go_region_held3 (fun w'=>w'.cell? ⟨Y.y,6,none⟩ = some (.pointer (some ⟨Y.bs,0,none⟩)) /\ w'.cell? ⟨Y.y,12,none⟩ = some Y.v) (exact hg) ((go_at_call 207; refine (HP.out _ hz).mono ?_; rintro e w5 ⟨rfl,hx5,hz'⟩; have hxz:=hxz.trans hx5; have hz:=y_F HF.out hz'; have hg:=HS.out _ _ hz))
  all_goals
   clear hg
   go_wp2_with fail
   refine (HD.out _ hz).mono ?_
   rintro e w6 ⟨rfl,hx6,h6⟩
   go_wp2_with fail
   go_ret
   rw [<- HRES.out]
   exact ⟨Y,rfl,rfl,hxz.trans hx6,h6⟩
 ·rw [zq hc] at hwy
  rw [zt (by rw [hwy]; decide)] at hres
  have hb : Gf (clus m.F m.dk.root * 4) fr n = false:=zf hc
  rw [hb] at HWI
  subst hres
  clear hm hfr hn hc hwy hb hcr
  go_enter Tryz.func104,Tryz.ntmps104
  go_wp2_with fail
  refine HWI.out.mono ?_
  rintro e w2 ⟨rfl,hx2,h2⟩
  go_wp2_with fail
  go_ret
  exact ⟨Y,rfl,rfl,hx2,h2⟩
theorem PV (N : Nat) (Y : YA) (m : lf) (hm : YOk N m) (hN : N + 1000 < 900000) (fr : Int) (hfr : lR fr) (s : ByteArray) (hs : s.size <= 3200) (R : List SL.HP) (w : World) (H : own w (yL Y m R)) :
  Calls Tryz.prog 91 #[.pointer (some ⟨Y.y,0,none⟩),.int .i64 fr,.string s] w (zH Y (zQ m fr s) R w):=by
 have td:=FT s.size
 have tm:=F8 s.size
 have HWI:=zh (Jh N Y m hm (by omega) fr ((s.size / 16 : Nat) : Int) R w H)
 generalize hres : zQ m fr s = res
 unfold zQ at hres
 have hwy:=FG hm fr ((s.size / 16 : Nat) : Int)
 have hcr:=zI (hm.sh.sh (by omega)) hm.root
 by_cases h16 : s.size % 16 = 0
 ·have d16 : decide ((0 : Int) < (s.size : Int) % 16) = false:=zf (by omega)
  by_cases hc : 0 <= fr /\ 0 <= ((s.size / 16 : Nat) : Int) /\ fr <= clus m.F m.dk.root * 4 /\ ((s.size / 16 : Nat) : Int) <= clus m.F m.dk.root * 4 - fr
  ·rw [zt hc] at hwy
   rw [zq (by rw [hwy,h16]; rintro (h | h) <;> exact h rfl)] at hres
   have hb : Gf (clus m.F m.dk.root * 4) fr ((s.size / 16 : Nat) : Int) = true:=zg hc
   rw [hb] at HWI
   obtain ⟨a,rfl⟩ : ∃a : Nat,fr = (a : Int):=⟨fr.toNat,by omega⟩
   have hab : a + s.size / 16 <= 200:=by omega
   have hst:=Fz hm.sh (FC hm) (by omega) (a : Int) s hs
   have HP:=zh (fun w' h=>UO Y.bs Y.A m.F N hm.sh (by omega) Y.v m.list hm.files hm.list5 (a : Int) hfr s hs (yT Y m++R) w' y_hv h)
   have HF:=zh (yokF hm hst)
   have HJ:=zh hm.jok
   have HS:=zh (fun (m' : lf) w' (h : own w' (yL Y m' R))=>(⟨y_bs h,Cg h⟩ : w'.cell? ⟨Y.y,6,none⟩ = some (.pointer (some ⟨Y.bs,0,none⟩)) /\ w'.cell? ⟨Y.y,12,none⟩ = some Y.v))
   generalize putM m.F m.list (a : Int) s = S at *
   obtain ⟨c,F2⟩:=S
   dsimp only at HP HF hres
   have HRES:=zh hres
   have HD:=zh (fun w' h=>Ke Y { m with F:=F2 } HJ.out a (s.size / 16) hab R w' h)
   clear hm hfr hs hres hc hwy hb hst hcr h16
   go_enter Tryz.func91,Tryz.ntmps91
   go_wp2_with fail
   refine HWI.out.mono ?_
   rintro e w2 ⟨rfl,hx2,h2⟩
   have hz:=lj h2
   have hxz:=hx2.drew
   go_upto_region 3 with (fail)
   clear h2 hx2
   have hg : (fun w' : World=>w'.cell? ⟨Y.y,6,none⟩ = some (.pointer (some ⟨Y.bs,0,none⟩)) /\ w'.cell? ⟨Y.y,12,none⟩ = some Y.v) w2.drew:=HS.out _ _ hz
   go_region_held3 (fun w'=>w'.cell? ⟨Y.y,6,none⟩ = some (.pointer (some ⟨Y.bs,0,none⟩)) /\ w'.cell? ⟨Y.y,12,none⟩ = some Y.v) (exact hg) ((go_at_call 194; refine (HP.out _ hz).mono ?_; rintro e w5 ⟨rfl,hx5,hz'⟩; have hxz:=hxz.trans hx5; have hz:=y_F HF.out hz'; have hg:=HS.out _ _ hz))
   all_goals
    clear hg
    go_wp2_with fail
    refine (HD.out _ hz).mono ?_
    rintro e w6 ⟨rfl,hx6,h6⟩
    go_wp2_with fail
    go_ret
    rw [<- HRES.out]
    exact ⟨Y,rfl,rfl,hxz.trans hx6,h6⟩
  ·rw [zq hc] at hwy
   rw [zt (.inr (by rw [hwy]; decide))] at hres
   have hb : Gf (clus m.F m.dk.root * 4) fr ((s.size / 16 : Nat) : Int) = false:=zf hc
   rw [hb] at HWI
   subst hres
   have hs2 : (s.size : Int) <= 3200:=by omega
   clear hm hfr hc hwy hb hcr h16
   go_enter Tryz.func91,Tryz.ntmps91
   go_wp2_with fail
   refine HWI.out.mono ?_
   rintro e w2 ⟨rfl,hx2,h2⟩
   go_wp2_with fail
   go_ret
   exact ⟨Y,rfl,rfl,hx2,h2⟩
 ·have d16 : decide ((0 : Int) < (s.size : Int) % 16) = true:=zg (by omega)
  rw [zt (.inl h16)] at hres
  subst hres
  clear hm hfr hs hwy hcr h16 HWI
  go_enter Tryz.func91,Tryz.ntmps91
  go_wp2_with fail
  go_ret
  exact ⟨Y,rfl,rfl,zR w,H⟩
theorem Qw (N : Nat) (Y : YA) (m : lf) (hm : YOk N m) (hN : N < 900000) (R : List SL.HP) (w : World) (H : own w (yL Y m R)) :
  Calls Tryz.prog 106 #[.pointer (some ⟨Y.y,0,none⟩)] w fun e w'=>e = .returned (.tuple #[]) /\ Ext w w' /\ own w' (yL Y (Ar m) R):=by
 have cl:=Cg H
 obtain ⟨ao,lb,off,cap,hY,hlc,hcap,hao,-⟩:=(Ej H).form
 rw [hY] at cl
 have HAO:=zh hao
 have HL:=zh hm.files
 have hl5:=hm.list5
 have HYV:=zh hY
 have HW:=zh hm.sh
 have H0:=zh H
 unfold Ar
 clear hao hY hm H
 generalize hll : m.list = l at *
 have HLL:=zh hll
 clear hll
 go_enter Tryz.func106,Tryz.ntmps106
 go_wp2_with fail
 go_loopw [9] (fun iv wr=>∃(q : Nat) (F' : ShM),q <= l.length /\ iv = .int .i64 q /\ oL m.F F' /\ ShW N F' /\ yh F' (l.drop q) = yh m.F l /\ Ext w wr /\ own wr (yL Y { m with F:=F' } R)) (fun iv _=>l.length - (intOf iv).toNat)
 case atStart=>exact ⟨0,m.F,Nat.zero_le _,rfl,oL.refl _,HW.out,rfl,zR w,H0.out⟩
 case round=>
  clear H0 cl
  obtain ⟨q,F',hq,rfl,hsm,hW,hgo,hxr,hown⟩:=hrel
  by_cases hlt : q < l.length
  ·obtain rfl:=HAO.out (by omega)
   have j1 : (0 : Int) <= (q : Int):=by omega
   have j2 : (q : Int) < (l.length : Int):=by omega
   have hv:=Ej hown
   rw [HYV.out] at hv
   have c1:=oq (l:=m.list) hv (by rw [HLL.out]; exact hlt)
   rw [HLL.out] at c1
   rw [zY 0 hlt,yh] at hgo
   have hfx:=HL.out (l.getD q 0) (by simp [hlt])
   obtain ⟨x,mx,hx,hx5,-⟩:=lT hfx
   obtain ⟨mi,hmi⟩ : ∃mi,F' x = some mi:=by
    have h2:=hsm.file.2 hfx
    rw [hx] at h2
    obtain ⟨-,-,mi,h3⟩:=h2
    exact ⟨mi,by rw [zn] at h3; exact h3⟩
   rw [hx] at c1 hgo
   rw [zn] at hgo
   have hfi : AV F' x = put F' x mi.flush:=by unfold AV; rw [hmi]
   have hsm2:=hsm.trans (FH F' x)
   have hW2:=GP hW hx5
   rw [hfi] at hgo hsm2 hW2
   have i1 : (0 : Int) <= (x : Int):=by omega
   have i2 : (x : Int) < 5:=by omega
   have cb:=y_bs hown
   have cs:=oA hown hx5
   rw [od hmi] at cs
   have HFL:=zh (Kd hx5 hmi (hW.sh hN) (yT Y { m with F:=F' }++R) wr hown)
   have HGO:=zh hgo
   have HS2:=zh hsm2
   have HW2:=zh hW2
   have HP:=zh (fun w' h=>y_F (Y:=Y) (m:={ m with F:=F' }) (F':=put F' x mi.flush) (R:=R) (w:=w') (fun k hk=>(oL.put (m':=mi.flush) hmi rfl rfl).none hk) h)
   clear hgo hsm2 hW2 hfi hfx hx hmi hsm hW hv
   go_wp2_with fail
   refine HFL.out.mono ?_
   rintro e w3 ⟨rfl,hx3,h3⟩
   go_wp2_with fail
   go_roundw
   case rel=>exact ⟨q + 1,put F' x mi.flush,by omega,by go_num,HS2.out,HW2.out,HGO.out,hxr.trans hx3,HP.out _ h3⟩
   case measure=>simp [intOf]; omega
  ·obtain rfl : l.length = q:=by omega
   rw [List.drop_of_length_le (Nat.le_refl _)] at hgo
   replace hgo : F' = yh m.F l:=hgo
   subst hgo
   go_wp2_with fail
   go_end0
   have e:=HLL.out
   subst e
   exact ⟨rfl,hxr,hown⟩
end Go.Proofs.YtbpblokfiajpjabGreatDoor
namespace Go.Proofs.YtbpblokfiajpjabGreatDoor
open Go.RowKit Go.SL Go.Crc
structure lJ (N : Nat) (m : lf) : Prop where
 ok : YOk N m
 str : ∀j,m.job = some j -> j.st < 4 -> j.kind = 2 -> j.file = -1 \/ j.file∈m.list.tail
theorem YOk.mono {N M : Nat} {m : lf} (h : YOk N m) (hNM : N <= M) : YOk M m:=
 ⟨h.sh.mono hNM,fun k hk e=>by obtain ⟨a,b,c⟩:=h.dv k hk e; exact ⟨a,by omega,by omega⟩,by obtain ⟨a,b,c,d⟩:=h.tp; exact ⟨a,by omega,by omega,d⟩,h.walk,h.root,h.jok,h.job⟩
theorem lJ.mono {N M : Nat} {m : lf} (h : lJ N m) (hNM : N <= M) : lJ M m:=⟨h.ok.mono hNM,h.str⟩
theorem EA {N : Nat} {m : lf} (h : YOk N m) (hN : N < 900000) (d : lI) : (lw m d).2.top.Ok /\ (lw m d).2.top.writes <= (N + 1 : Nat) /\ (lw m d).2.top.pend.length <= N + 1 /\ 1 <= (lw m d).2.top.fl.length:=by
 obtain ⟨a,b,c,e⟩:=h.tp
 have h1:=DevM.write_ok a 0 d.s (by omega) (by omega)
 obtain ⟨h2,h3,h4⟩:=yE m.top 0 d.s
 unfold lw
 split
 ·exact ⟨h1,by dsimp only; omega,by dsimp only; omega,by dsimp only; omega⟩
 ·refine ⟨DevM.flush_ok h1,?_,?_,?_⟩
  ·simp only [DevM.flush]; omega
  ·simp [DevM.flush]
  ·simp only [DevM.flush,lK]; omega
theorem lJ.jobs {N : Nat} {m : lf} (h : lJ N m) {j j' : JobM} (hj : m.job = some j) (hok : j'.Ok) (hs : zm j j') (hst : j'.st < 4 -> j.st < 4) : lJ N { m with job:=some j' }:=by
 refine ⟨⟨h.ok.sh,h.ok.dv,h.ok.tp,h.ok.walk,h.ok.root,fun k hk=>by cases hk; exact hok,fun k hk h4=>?_⟩,fun k hk h4 h2=>?_⟩
 ·cases hk
  obtain ⟨h1,h2,h3,h5,h6⟩:=h.ok.job j hj (hst h4)
  exact ⟨h1.same hs,hs.1.trans h2,hs.2.1.trans h3,hs.2.2.1.trans h5,hs.2.2.2.1.trans h6⟩
 ·cases hk
  have:=h.str j hj (hst h4) (by rw [<- hs.2.1]; exact h2)
  rw [hs.2.2.1]
  exact this
theorem NW {N : Nat} {m : lf} (h : lJ N m) (on : Bool) : lJ N (zW m on).2:=by
 unfold zW
 cases hj : m.job with
 | none=>exact h
 | some j=>
  dsimp only
  split
  ·exact h
  ·exact h.jobs hj (LD (h.ok.jok j hj) on) (JD j on) (fun _=>by omega)
theorem O8 {N : Nat} {m : lf} (h : lJ N m) (n : Int) : lJ N (Az m n).2:=by
 unfold Az
 split
 ·exact h
 ·cases hj : m.job with
  | none=>exact h
  | some j=>
   dsimp only
   split
   ·exact h
   ·exact h.jobs hj (Uf (h.ok.jok j hj) n) (Oh j n) (fun _=>by omega)
theorem lJ.shelf {N M : Nat} {m : lf} (h : lJ N m) (hNM : N <= M) {F' : ShM} (hs : oL m.F F') (hW : ShW M F') : lJ M { m with F:=F' }:=by
 have hM:=h.mono hNM
 refine ⟨⟨hW,fun k hk e=>?_,hM.ok.tp,?_,?_,h.ok.jok,fun j hj h4=>?_⟩,h.str⟩
 ·exact hM.ok.dv k hk ((hs.none hk).1 e)
 ·exact LP hs h.ok.root h.ok.walk
 ·exact hs.file.2 h.ok.root
 ·obtain ⟨h1,h2⟩:=h.ok.job j hj h4
  exact ⟨h1.files fun x hx=>hs.file.2 hx,h2⟩
theorem T8 (n : Nat) : ∀(j : JobM) (c : Int),(oe j c n).st < 4 -> j.st < 4:=by
 induction n with
 | zero=>intro j c h; exact h
 | succ n ih=>
  intro j c h
  rw [oe] at h
  have h1:=ih _ _ h
  unfold zL at h1
  split at h1
  ·rename_i h2; exact h2.1
  ·exact h1
theorem Ig {N : Nat} {m : lf} (h : lJ N m) (a b : Int) : lJ N (yN m a b):=by
 unfold yN
 cases hj : m.job with
 | none=>exact h
 | some j=>
  dsimp only
  split
  ·exact h
  ·exact h.jobs hj (IN _ (h.ok.jok j hj) _) (Cz _ j _) (T8 _ j _)
theorem IE {N : Nat} {m : lf} (h : lJ N m) (hN : N + 1000 < 900000) (fr : Int) (s : ByteArray) (hs : s.size <= 3200) : lJ (N + 1000) (zQ m fr s).2:=by
 have hst:=Fz h.ok.sh (FC h.ok) (by omega) fr s hs
 unfold zQ
 split
 ·exact h.mono (by omega)
 ·exact Ig (h.shelf (by omega) hst.same (h.ok.sh.step hst)) _ _
theorem Pd {N : Nat} {m : lf} (h : lJ N m) (hN : N + 1000 < 900000) (fr n : Int) (hn : n <= 200) : lJ (N + 1000) (Aa m fr n).2:=by
 have hst:=Ev h.ok.sh (FC h.ok) (by omega) fr n hn
 unfold Aa
 split
 ·exact h.mono (by omega)
 ·exact Ig (h.shelf (by omega) hst.same (h.ok.sh.step hst)) _ _
theorem Fe {N : Nat} {m : lf} (h : lJ N m) : lJ N (Ar m):=
 h.shelf (Nat.le_refl N) BU (IL h.ok.sh h.ok.files)
theorem Lf {d : DevM} (h : d.Ok) {n : Int} (h0 : 0 <= n) (h1 : n <= 9223372036854775807) : ({ d with fail:=n } : DevM).Ok:=⟨h.n,h.fl,h.p,h.pend,⟨by dsimp only; omega,h1⟩,h.writes⟩
theorem SN {N : Nat} {m : lf} (h : lJ N m) (file n : Int) (hn : lR n) : lJ N (armM m file n).2:=by
 unfold armM
 split
 ·exact h
 ·rename_i hb
  have h0 : 0 <= n:=by omega
  have h1 : n <= 9223372036854775807:=hn.2
  split
  ·obtain ⟨a,b,c,e⟩:=h.ok.tp
   exact ⟨⟨h.ok.sh,h.ok.dv,⟨Lf a h0 h1,b,c,e⟩,h.ok.walk,h.ok.root,h.ok.jok,h.ok.job⟩,h.str⟩
  ·cases e : m.F file.toNat with
   | none=>
    refine ⟨⟨h.ok.sh,fun k hk e2=>?_,h.ok.tp,h.ok.walk,h.ok.root,h.ok.jok,h.ok.job⟩,h.str⟩
    dsimp only at e2 ⊢
    unfold setD
    by_cases hk2 : k = file.toNat
    ·rw [zt hk2]
     obtain ⟨a,b,c⟩:=h.ok.dv file.toNat (by omega) e
     exact ⟨Lf a h0 h1,b,c⟩
    ·rw [zq hk2]
     exact h.ok.dv k hk e2
   | some i=>
    have hi:=h.ok.sh.ok file.toNat i (by omega) e
    refine h.shelf (Nat.le_refl N) (oL.put e rfl rfl) ⟨fun k x hk hx=>?_,fun k x hk hx=>?_,fun k x hk hx=>?_⟩
    all_goals
     unfold put at hx
     by_cases hk2 : k = file.toNat
     ·rw [zt hk2] at hx
      cases hx
      first | exact { hi with d:=Lf hi.d h0 h1 } | exact h.ok.sh.wr file.toNat i (by omega) e | exact h.ok.sh.pend file.toNat i (by omega) e
     ·rw [zq hk2] at hx
      first | exact h.ok.sh.ok k x hk hx | exact h.ok.sh.wr k x hk hx | exact h.ok.sh.pend k x hk hx
theorem D4 {m : lf} {d : lI} (h : (lw m d).1≠0) : (lw m d).2 = { m with top:=(lw m d).2.top }:=by
 revert h
 unfold lw
 split
 ·exact fun _=>rfl
 ·exact fun h=>absurd rfl h
theorem Dn {m : lf} {d : lI} (h : (lw m d).1 = 0) : (lw m d).2 = { m with top:=(lw m d).2.top,dk:=d }:=by
 revert h
 unfold lw
 split
 ·rename_i h; exact fun h2=>absurd h2 h
 ·exact fun _=>rfl
theorem lJ.desk {N : Nat} {m : lf} (h : lJ N m) {t : DevM} (ht : t.Ok /\ t.writes <= (N + 1 : Nat) /\ t.pend.length <= N + 1 /\ 1 <= t.fl.length) : lJ (N + 1) { m with top:=t }:=
 have h1:=h.mono (Nat.le_succ N)
 ⟨⟨h1.ok.sh,h1.ok.dv,ht,h.ok.walk,h.ok.root,h.ok.jok,h.ok.job⟩,h.str⟩
theorem lJ.bare {N : Nat} {m : lf} (h : lJ N m) {t : DevM} (ht : t.Ok /\ t.writes <= (N + 1 : Nat) /\ t.pend.length <= N + 1 /\ 1 <= t.fl.length) {root : Int} (hr : ly m.F root) {l : List Int} (hw : lt m.F root = (l,0)) {oj : Option JobM} (ho : ∀j,oj = some j -> j.Ok /\ ¬j.st < 4) :
  lJ (N + 1) { m with top:=t,dk:=lz root,job:=oj,list:=l }:=
 have h1:=h.mono (Nat.le_succ N)
 ⟨⟨h1.ok.sh,h1.ok.dv,ht,hw,hr,fun j hj=>(ho j hj).1,fun j hj h4=>absurd h4 (ho j hj).2⟩,fun j hj h4=>absurd h4 (ho j hj).2⟩
theorem Lk (j : JobM) (b : Bool) : ¬(endM j b).st < 4:=by cases b <;> simp [endM]
theorem Km {N : Nat} {m : lf} (h : lJ N m) (hN : N < 900000) {j : JobM} (hj : m.job = some j) {root : Int} (hr : ly m.F root) (hw : (lt m.F root).2 = 0) (well : Bool) : lJ (N + 1) (B4 m j root well).2:=by
 have ht:=EA h.ok hN (lz root)
 unfold B4
 by_cases hc : (lw m (lz root)).1≠0
 ·rw [zt hc,D4 hc]
  exact h.desk ht
 ·rw [zq hc]
  have hc0 : (lw m (lz root)).1 = 0:=Decidable.not_not.1 hc
  have hy:=Dn hc0
  generalize (lw m (lz root)).2 = M at *
  rw [hy]
  exact h.bare ht hr (l:=(lt m.F root).1) (by rw [<- hw]) (oj:=some (endM j well)) (fun k hk=>by cases hk; exact ⟨PD (h.ok.jok j hj) well,Lk j well⟩)
theorem MN {N : Nat} {m : lf} (h : lJ N m) (hN : N < 900000) : lJ (N + 1) (zT m).2:=by
 unfold zT
 cases hj : m.job with
 | none=>exact h.mono (Nat.le_succ N)
 | some j=>
  dsimp only
  split
  ·exact h.mono (Nat.le_succ N)
  ·exact Km h hN hj h.ok.root (by rw [h.ok.walk]) false
theorem Mr {F : ShM} {j : JobM} (hk : j.kind≠2) : oL F (lA F j).2.1 /\ (lA F j).2.2 = j:=by
 unfold lA
 split
 ·exact ⟨oL.refl F,rfl⟩
 ·split
  ·exact ⟨oL.refl F,rfl⟩
  ·exact ⟨BU,rfl⟩
theorem On {N : Nat} {m : lf} (h : lJ N m) (hN : N + 1 < 900000) : lJ (N + 2) (AD m).2:=by
 unfold AD
 cases hj : m.job with
 | none=>exact h.mono (by omega)
 | some j=>
  dsimp only
  split
  ·exact h.mono (by omega)
  ·rename_i h4
   obtain ⟨hS,hl,hk,hf,hr⟩:=h.ok.job j hj (by omega)
   split
   ·exact h.mono (by omega)
   ·rename_i h2
    have hkj : j.kind≠2:=by rw [hk]; exact h2
    obtain ⟨hs,hjj⟩:=Mr (F:=m.F) hkj
    have hW:=BW h.ok.sh (by omega) (h.ok.jok j hj) hS
    have hg : lJ (N + 1) { m with F:=(lA m.F j).2.1,job:=some (lA m.F j).2.2 }:=by
     have:=h.shelf (Nat.le_succ N) hs hW
     rw [hjj]
     rw [show ({ m with F:=(lA m.F j).2.1,job:=some j } : lf) = { m with F:=(lA m.F j).2.1 } by rw [<- hj]]
     exact this
    split
    ·exact hg.mono (by omega)
    ·rename_i hc
     have hc0 : (lA m.F j).1 = 0:=Decidable.not_not.1 hc
     have hff:=hS.file hkj
     rw [hf] at hff
     have hwk:=(Id (hS.file hkj) hkj hc0).2.2
     rw [hf] at hwk
     exact Km hg (by omega) rfl (hs.file.2 hff) hwk true
end Go.Proofs.YtbpblokfiajpjabGreatDoor
namespace Go.Proofs.YtbpblokfiajpjabGreatDoor
open Go.RowKit Go.SL Go.Crc
attribute [local go_sem ↓] Go.wp_at_zero Go.wp_at_succ
theorem KM (m : lf) (f b : Int) : (oB m f b).2.top = m.top:=by
 unfold oB
 split
 ·rfl
 ·split
  ·rfl
  ·split <;> rfl
theorem Jv (m : lf) (f b : Int) : (oB m f b).2.list = m.list:=by
 unfold oB
 split
 ·rfl
 ·split
  ·rfl
  ·split <;> rfl
theorem Il {m : lf} {f b : Int} (h : (oB m f b).1 = 0) : 0 <= f /\ f < 5:=by
 unfold oB at h
 by_cases hb : f < 0 \/ 5 <= f
 ·rw [zt hb] at h; exact absurd h (by show ¬((1 : Int) = 0); decide)
 ·omega
theorem DW (m : lf) (f b : Int) : 0 <= (oB m f b).1:=by
 unfold oB
 split
 ·show (0 : Int) <= 1; decide
 ·split
  ·show (0 : Int) <= 5; decide
  ·split
   ·exact EQ _ _ _ _
   ·exact Int.le_refl 0
theorem Jc (m : lf) (d : lI) : (lw m d).2.list = m.list:=by unfold lw; split <;> rfl
theorem Ag (m : lf) (d : lI) : 0 <= (lw m d).1:=by
 unfold lw
 split
 ·exact ol _ _ _
 ·exact Int.le_refl 0
theorem JS (l : List Int) : ∀u∈lo l,u.oneCell' = true:=fun u hu=>by
 unfold lo at hu
 obtain ⟨x,-,rfl⟩:=List.mem_map.1 hu
 rfl
theorem Iv {w : World} {l : List Int} {ao : Option Addr} {cap : Nat} (h : lS w (.slice ao l.length cap) l) : ∀ad,ao = some ad -> ∀j u,(lo l)[j]? = some u -> w.cell? (ad.add j) = some u:=by
 intro ad had j u hu
 have hj : j < l.length:=by
  have:=(zS.1 hu).1
  simpa [lo] using this
 obtain ⟨ao',b,off,cap',hv,-,-,h4,h5⟩:=h.form
 simp only [Value.slice.injEq] at hv
 obtain ⟨rfl,-,-⟩:=hv
 have h6:=h4 (by omega)
 rw [had] at h6
 simp only [Option.some.injEq] at h6
 subst h6
 have h7:=h5 j hj
 have h8 : u = .int .i64 (l.getD j 0):=by
  unfold lo at hu
  rw [List.getElem?_map,List.getElem?_eq_getElem hj] at hu
  simp only [Option.map_some,Option.some.injEq] at hu
  rw [<- hu,List.getD_eq_getElem?_getD,List.getElem?_eq_getElem hj]
  rfl
 rw [h8,show (⟨b,off,none⟩ : Addr).add j = ⟨b,off + j,none⟩ by simp [Addr.add]]
 exact h7
theorem Ua (N : Nat) (Y : YA) (m : lf) (hm : YOk N m) (hN : N < 900000) (file : Int) (R : List SL.HP) (w : World) (H : own w (yL Y m R)) :
  Calls Tryz.prog 110 #[.pointer (some ⟨Y.y,0,none⟩),.int .i64 file] w (zH Y (Bt m file) R w):=by
 have HB:=zh (BB Y m R w H)
 generalize hres : Bt m file = res
 unfold Bt at hres
 cases hb : y8 m with
 | true=>
  rw [zt hb] at hres
  subst hres
  rw [hb] at HB
  clear hb
  go_enter Tryz.func110,Tryz.ntmps110
  go_wp2_with fail
  refine HB.out.mono ?_
  rintro e w' ⟨rfl,rfl⟩
  go_wp2_with fail
  go_ret
  exact ⟨Y,rfl,rfl,zR _,H⟩
 | false=>
  rw [zq (by rw [hb]; decide)] at hres
  rw [hb] at HB
  obtain ⟨ao,lb,off,cap,hY,hlc,hcap,hao,-⟩:=(Ej H).form
  have cl:=Cg H
  rw [hY] at cl
  have hl5:=hm.list5
  by_cases h4 : m.list.length = 4
  ·rw [zt h4] at hres
   subst hres
   rw [h4] at cl
   clear hb h4
   go_enter Tryz.func110,Tryz.ntmps110
   go_wp2_with fail
   refine HB.out.mono ?_
   rintro e w' ⟨rfl,rfl⟩
   go_wp2_with fail
   go_ret
   exact ⟨Y,rfl,rfl,zR _,H⟩
  ·rw [zq h4] at hres
   have d4 : ((m.list.length : Int) == 4) = false:=by rw [zb]; omega
   have cr:=yS H
   have HBL:=zh (Kl N Y m hm hN file m.dk.root R w H)
   have hcode:=DW m file m.dk.root
   have htop:=KM m file m.dk.root
   have hlist:=Jv m file m.dk.root
   have hrg:=@Il m file m.dk.root
   have htw:=hm.tp.2.1
   have htp:=hm.tp.2.2.1
   have hto:=hm.tp.1
   generalize oB m file m.dk.root = B at *
   obtain ⟨c,m1⟩:=B
   dsimp only at hcode htop hlist hrg hres
   have HRES:=zh hres
   have HRG:=zh hrg
   clear hb h4 hres hrg hm
   go_enter Tryz.func110,Tryz.ntmps110
   go_wp2_with fail
   refine HB.out.mono ?_
   rintro e w' ⟨rfl,rfl⟩
   go_wp2_with fail
   refine HBL.out.mono ?_
   rintro e w2 ⟨Y2,hy2,rfl,hx2,h2⟩
   dsimp only at h2
   clear cl cr d4
   by_cases hc : c = 0
   ·have hrg:=HRG.out hc
    subst hc
    rw [zq (by decide)] at HRES
    have HN:=zh (fun R' w' h=>CN file R' w' h)
    have HW:=zh (fun w' h=>BM Y2 m1 (by rw [htop]; exact hto) (by rw [htop]; omega) (by rw [htop]; omega) (lz file) (BQ hrg.1 hrg.2) R w' h)
    rw [hy2] at HW
    have hwc:=Ag m1 (lz file)
    have hwl:=Jc m1 (lz file)
    generalize lw m1 (lz file) = W at *
    obtain ⟨wc,m2⟩:=W
    dsimp only at hwc hwl HW HRES
    dsimp only
    rw [oa]
    clear HRG hrg htw htp hto
    go_wp2_with fail
    refine (HN.out _ _ h2).mono ?_
    rintro e w3 ⟨rfl,hx3,h3⟩
    go_wp2_with fail
    refine (HW.out _ h3).mono ?_
    rintro e w4 ⟨rfl,hx4,h4⟩
    by_cases hwz : wc = 0
    ·subst hwz
     rw [zq (by decide)] at HRES
     rw [oa]
     have hll : m2.list = m.list:=hwl.trans hlist
     have hv:=Ej h4
     obtain ⟨ao2,lb2,off2,cap2,hY2,-,-,hao2,-⟩:=hv.form
     have ha:=li h4 (.cells #[.int .i64 file] 3)
     have hxa:=(((hx2.trans hx3).trans hx4)).alloc (.cells #[.int .i64 file] 3)
     have hb : own _ (row 3 1 (.slice (some ⟨w4.heap.size,0,none⟩) 1 1) 1 [.int .i64 file]::yL Y2 m2 R):=yD (cap:=1) (n:=1) (sz:=1) 0 ha rfl (Nat.le_refl _) (by decide) rfl rfl
     have hvb:=Ej (Av hb)
     rw [hY2,hll] at hvb
     rw [hll] at hao2
     have cl:=Cg (Av hb)
     rw [hY2,hy2,hll] at cl
     have hm5 : 1 + m.list.length <= maxLen:=by simp only [maxLen]; omega
     have HNW:=zh (Iv hvb)
     have HAO2:=zh hao2
     clear hvb hao2 h2 h3 ha
     go_wp2_with (first | (at_builtin; refine lD rfl _ _ 95 rfl 0 3 Tryz.underlying95 Cb rfl (by decide) rfl hb rfl ao2 m.list.length cap2 (lo m.list) rfl (by simp [lo]) HNW.out (fun h=>by by_cases h0 : 0 < m.list.length; exact absurd (HAO2.out h0) (by rw [h]; simp); omega) (JS _) hm5 (by omega) ?_))
     intro v' w5 h5 hx5
     have hlen : (file::m.list).length = 1 + m.list.length:=by rw [List.length_cons]; omega
     have h6 : own w5 (yL Y2 m2 (row 3 1 v' (file::m.list).length (lo (file::m.list))::R)):=by
      have:=Av h5
      rw [hlen]
      exact this
     obtain ⟨vo,vb,vof,vcap,rfl,-,-,-,-⟩:=(l9 15 h6 rfl).form
     clear cl
     have cl:=Cg h6
     have fl:=Cd h6 12
     have h7:=GT h6
     rw [hy2] at cl fl
     have hx7:=(hxa.trans hx5).setCell (⟨Y.y,12,none⟩ : Addr) (.slice vo (file::m.list).length vcap)
     clear h5 h6 hb hlen
     go_wp2_with fail
     go_ret
     rw [<- HRES.out]
     exact ⟨{ Y2 with v:=.slice vo (file::m.list).length vcap },hy2,rfl,hx7,by rw [<- hy2]; exact h7⟩
    ·rw [zt hwz] at HRES
     rw [lx (e:=wc) (by omega)]
     go_wp2_with fail
     go_ret
     rw [<- HRES.out]
     exact ⟨Y2,hy2,by rw [lx (e:=wc) (by omega)]; rfl,(hx2.trans hx3).trans hx4,h4⟩
   ·rw [zt hc] at HRES
    dsimp only
    rw [lx (e:=c) (by omega)]
    go_wp2_with fail
    go_ret
    rw [<- HRES.out]
    exact ⟨Y2,hy2,by rw [lx (e:=c) (by omega)]; rfl,hx2,h2⟩
def yX (bs : Nat) (A : Nat -> Nat×Nat×Nat) (F : ShM) (res : Option JobM×Int) (R : List SL.HP) (w : World) (e : Ending) (w' : World) : Prop:=
 match res with
 | (none,f)=>e = .returned (.tuple #[.pointer none,errV f]) /\ Ext w w' /\ own w' (shL bs A F++R)
 | (some j,_)=>∃bj bt bb v,e = .returned (.tuple #[.pointer (some ⟨bj,0,none⟩),.nilIface]) /\ Ext w w' /\ own w' (shL bs A F++(jobL bs bj bt bb v j++(row 3 1 v j.list.length (lo j.list)::R)))
theorem yX.no {bs : Nat} {A : Nat -> Nat×Nat×Nat} {F : ShM} {f : Int} {R : List SL.HP} {w : World} {e : Ending} {w' : World} (h1 : e = .returned (.tuple #[.pointer none,errV f])) (h2 : Ext w w') (h3 : own w' (shL bs A F++R)) : yX bs A F (none,f) R w e w':=⟨h1,h2,h3⟩
theorem yX.yes {bs : Nat} {A : Nat -> Nat×Nat×Nat} {F : ShM} {j : JobM} {R : List SL.HP} {w : World} {e : Ending} {w' : World} (bj bt bb : Nat) (v : Value) (h1 : e = .returned (.tuple #[.pointer (some ⟨bj,0,none⟩),.nilIface])) (h2 : Ext w w') (h3 : own w' (shL bs A F++(jobL bs bj bt bb v j++(row 3 1 v j.list.length (lo j.list)::R)))) : yX bs A F (some j,0) R w e w':=⟨bj,bt,bb,v,h1,h2,h3⟩
theorem EC {F : ShM} {j : JobM} (h : (Ah F j).Ok) (q : Nat) : ({ j with x:=oY F j q } : JobM).Ok:={ h with x:=J2 F j h.n q }
theorem Fx {j : JobM} (h : j.st = 2) : zu j = j:=by unfold zu; rw [h]; rfl
theorem IZ {bs : Nat} {A : Nat -> Nat×Nat×Nat} {F : ShM} {bj bt bb : Nat} {v : Value} {j : JobM} {q : Nat} {L : List SL.HP} {w : World} (H : own w ((shL bs A F++(jobL bs bj bt bb v { j with x:=oY F j q }++L)).set 7 (D6 bt j.n (og j.n (oY F j q) (q : Int) (ya F { j with x:=oY F j q } (q : Int))).2))) :
  own w (shL bs A F++(jobL bs bj bt bb v { j with x:=oY F j (q + 1) }++L)):=H
theorem VB (bs : Nat) (A : Nat -> Nat×Nat×Nat) (F : ShM) (hF : ShOk F) (root kind file rate burst : Int) (hl5 : (lt F root).1.length <= 5) (hz : ¬(lt F root).2≠0) (h0 : ¬(lt F root).1.length = 0) (ho : ¬Bq rate burst = false) (hk1 : kind = 1) (R : List SL.HP) (w : World) (H : own w (shL bs A F++R)) :
  Calls Tryz.prog 15 #[.pointer (some ⟨bs,0,none⟩),.agg #[.int .i64 root,.int .i64 kind,.int .i64 file,.int .i64 rate,.int .i64 burst]] w (yX bs A F (newM F root kind file rate burst) R w):=by
 have HK1:=zh hk1
 clear hk1
 have ha:=li H (.cells #[.int .i64 root,.int .i64 kind,.int .i64 file,.int .i64 rate,.int .i64 burst] 24)
 have hxa:=(zR w).alloc (.cells #[.int .i64 root,.int .i64 kind,.int .i64 file,.int .i64 rate,.int .i64 burst] 24)
 have hb : own _ (shL bs A F++(_::R)):=lr (shL bs A F) ha
 have hwk:=fun R' w' h=>CP bs A F hF root R' w' h
 have hfl:=Ak F root
 have hwc : 0 <= (lt F root).2:=zv
 have HWK:=zh hwk
 unfold zO at HWK
 generalize hres : newM F root kind file rate burst = res
 unfold newM at hres
 rw [zq hz] at hres
 have hz0 : (lt F root).2 = 0:=by omega
 rw [hz0,show errV 0 = .nilIface from rfl] at HWK
 rw [zq h0] at hres
 rw [zq ho] at hres
 have HRES:=zh hres
 clear hres
 have hroot:=FA h0
 obtain ⟨k,m,hxk,hk,hFk⟩:=lT hroot
 have hcl:=zI hF hroot
 have hcm : clus F root = m.c:=by rw [hxk]; exact yr hFk
 have HB:=zh (fun R' w' h=>FU rate burst R' w' (by simpa using ho) h)
 have HH:=zh (fun R' w' h=>Bc (b:=bs) (A:=A) hk hFk R' w' h)
 have HN:=zh (fun R' w' h=>NS (clus F root).toNat (by omega) R' w' h)
 have hcn : (((clus F root).toNat : Nat) : Int) = m.c:=by omega
 simp only [hcn] at HN
 have HCN:=zh hcn
 clear hcn
 have HF:=zh hF
 have HFL:=zh hfl
 have i1 : (0 : Int) <= (k : Int):=by omega
 have i2 : (k : Int) < 5:=by omega
 subst hxk
 have hok : ∀deep,kind = 1 \/ kind = 2 \/ kind = 3 -> deep <= (lt F (k : Int)).1.length -> (Ah F (jNew F k kind file rate burst (lt F (k : Int)).1 deep)).Ok:=fun deep hkk hd=>ED hF hroot hl5 h0 (by simpa using ho) hkk hd
 have HOK:=zh hok
 clear hok
 generalize hL : (lt F (k : Int)).1 = l at *
 have l0 : ((l.length : Int) == 0) = false:=by rw [zb]; omega
 go_enter Tryz.func15,Tryz.ntmps15
 go_upto_region 1 with (fail)
 generalize w.heap.size = g at *
 generalize w.alloc (.cells #[.int .i64 (k : Int),.int .i64 kind,.int .i64 file,.int .i64 rate,.int .i64 burst] 24) = w1 at *
 have c0:=(ld 6 hb rfl).1 0
 go_wp2_with fail
 refine (HWK.out _ _ hb).mono ?_
 rintro e w2 ⟨v,rfl,hx2,h2⟩
 obtain ⟨ao,lb,off,cap,rfl,-,-,-,-⟩:=(l9 0 h2 rfl).form
 have d3:=(ld 7 h2 rfl).1 3
 have d4:=(ld 7 h2 rfl).1 4
 clear c0
 go_wp2_with fail
 refine (HB.out _ _ h2).mono ?_
 rintro e w3 ⟨rfl,hx3,h3⟩
 generalize w2.heap.size = bb at *
 have h3s:=lp [Aw bb rate burst burst,row 3 1 (.slice ao l.length cap) l.length (lo l)] (shL bs A F) h3
 clear d3 d4
 have d0:=(ld 8 h3s rfl).1 0
 have g1:=oA h3s hk
 rw [od hFk] at g1
 go_upto_region 9 with (fail)
 go_still_tail 6,(by kernel_rfl)
 change wpList _ _ _ _ _ w3.drew
 go_wp2_with fail
 refine (HH.out _ _ (lj h3s)).mono ?_
 rintro e w4 ⟨rfl,hx4,h4⟩
 unfold lM
 have hf0:=DB m.c m.p m.b
 clear d0 g1
 go_wp2_with fail
 refine (HN.out _ _ h4).mono ?_
 rintro e w5 ⟨bt,rfl,hx5,h5⟩
 have d1:=(ld 9 h5 rfl).1 1
 have d2:=(ld 9 h5 rfl).1 2
 go_upto_region 14 with (fail)
 have h6:=li h5 (.cells #[.pointer (some ⟨bs,0,none⟩),.int .i64 kind,.int .i64 file,.slice ao l.length cap,.int .i64 0,.pointer (some ⟨bt,0,none⟩),.int .i64 0,.int .i64 2,.pointer (some ⟨bb,0,none⟩)] 137)
 have hx6:=(hx5.alloc (.cells #[.pointer (some ⟨bs,0,none⟩),.int .i64 kind,.int .i64 file,.slice ao l.length cap,.int .i64 0,.pointer (some ⟨bt,0,none⟩),.int .i64 0,.int .i64 2,.pointer (some ⟨bb,0,none⟩)] 137))
 generalize w5.heap.size = bj at *
 generalize w5.alloc (.cells #[.pointer (some ⟨bs,0,none⟩),.int .i64 kind,.int .i64 file,.slice ao l.length cap,.int .i64 0,.pointer (some ⟨bt,0,none⟩),.int .i64 0,.int .i64 2,.pointer (some ⟨bb,0,none⟩)] 137) = w6 at *
 clear d1 d2
 have d1:=(ld 10 h6 rfl).1 1
 have d2:=(ld 10 h6 rfl).1 2
 have f4:=(ld 0 h6 rfl).2 4
 have hrow:=l9 9 h6 rfl
 have HPL:=zh (LM _ l file hl5 w6 hrow)
 have hX:=(((hxa.trans hx2).trans hx3).drew.trans hx4).trans hx6
 have HX:=zh hX
 have H6:=zh h6
 have HBAD : ∀n,own (w6.drewN n) (shL bs A F++R):=fun n=>ll n (le (le (lh 8 (lh 9 (lh 10 h6 rfl) rfl) rfl)))
 have hpr:=DY l file
 have HP:=zh hL
 clear hL
 generalize Ab l file = pl at *
 clear hrow hX hx2 hx3 hx4 hx5 hx6 hxa h2 h3 h3s h4 h5 hb ha H HWK HB HN HH hwk
 go_wp2_with fail
 refine HPL.out.mono ?_
 rintro e w7 ⟨rfl,rfl⟩
 have gs:=@oA bs A F _ w6 (lp [_,_] (shL bs A F) h6)
 have H7:=zh h6
 clear h6 hF hl5 h0 hz hz0 hwc HPL hcl hcm
 have hk1:=HK1.out
 clear HK1
 subst hk1
 have hres:=HRES.out
 rw [zt rfl] at hres
 by_cases hfi : FY F file = false
 ·rw [zt hfi] at hres
  subst hres
  have hnf : ¬ly F file:=fun h=>absurd (CB.2 h) (by rw [hfi]; decide)
  clear hfi HRES
  by_cases hf0 : file < 0
  ·have df : decide (file < 0) = true:=zg hf0
   go_upto_region 17 with (fail)
   go_quiet (fail)
   go_wp2_with fail
   go_ret2
   exact yX.no rfl (HX.out.drewN _) (HBAD _)
  ·have df : decide (file < 0) = false:=zf hf0
   by_cases hf5 : 5 <= file
   ·have dg : decide (5 <= file) = true:=zg hf5
    go_upto_region 17 with (fail)
    go_quiet (fail)
    go_wp2_with fail
    go_ret2
    exact yX.no rfl (HX.out.drewN _) (HBAD _)
   ·have dg : decide (5 <= file) = false:=zf hf5
    obtain ⟨q,rfl⟩ : ∃q : Nat,file = (q : Int):=⟨file.toNat,by omega⟩
    have q1 : (0 : Int) <= (q : Int):=by omega
    have q2 : (q : Int) < 5:=by omega
    have hFq : F q = none:=by
     cases e : F q with
     | none=>rfl
     | some x=>exact (hnf ⟨by omega,by omega,x,by rw [zn]; exact e⟩).elim
    have gq:=gs (k:=q) (by omega)
    rw [Dl hFq] at gq
    clear gs hnf
    go_upto_region 17 with (fail)
    go_quiet (fail)
    go_wp2_with fail
    go_ret2
    exact yX.no rfl (HX.out.drewN _) (HBAD _)
 ·rw [zq hfi] at hres
  obtain ⟨hq0,hq5',m2,hFq'⟩:=(CB.1 (by simpa using hfi) : ly F file)
  obtain ⟨q,rfl⟩ : ∃q : Nat,file = (q : Int):=⟨file.toNat,by omega⟩
  have hq5 : q < 5:=by omega
  have hFq : F q = some m2:=by rw [zn] at hFq'; exact hFq'
  have df : decide ((q : Int) < 0) = false:=zf (by omega)
  have dg : decide (5 <= (q : Int)) = false:=zf (by omega)
  have q1 : (0 : Int) <= (q : Int):=by omega
  have q2 : (q : Int) < 5:=by omega
  have gq:=gs (k:=q) hq5
  rw [od hFq] at gq
  have hbk : bkOf F (q : Int) = m2.b:=by unfold bkOf; rw [zn,hFq]
  have hcl2 : clus F (q : Int) = m2.c:=yr hFq
  have hclk : clus F (k : Int) = m.c:=yr hFk
  rw [hbk,hcl2,hclk] at hres
  have HH2:=zh (fun R' w' h=>Bc (b:=bs) (A:=A) hq5 hFq R' w' h)
  have HRES2:=zh hres
  clear gs hfi hq0 hq5' hFq' hbk hcl2 hclk HRES hres
  go_upto_region 17 with (fail)
  go_quiet (fail)
  have h8 : own (w6.drewN nq) _:=ll nq H7.out
  have hx8:=zh (HX.out.drewN nq)
  have HB8:=zh (HBAD nq)
  have e1:=(ld 10 h8 rfl).1 2
  clear d1 d2 gq HBAD HX
  generalize w6.drewN nq = w8 at *
  have gq : w8.cell? ⟨bs,q,none⟩ = some (.pointer (some ⟨(A q).1,0,none⟩)):=by have:=oA (lp [_,_] (shL bs A F) h8) hq5; rw [od hFq] at this; exact this
  by_cases hp0 : 0 <= pl
  ·rw [zt (.inl hp0)] at HRES2
   have dp : decide (0 <= pl) = true:=zg hp0
   clear hp0
   go_upto_region 19 with (fail)
   go_quiet (fail)
   go_wp2_with fail
   go_ret2
   rw [<- HRES2.out]
   exact yX.no rfl (hx8.out.drewN _) (ll _ HB8.out)
  ·have dp : decide (0 <= pl) = false:=zf hp0
   have HP0:=zh hp0
   clear hp0
   have hx9:=zh hx8.out.drew
   have h9:=lp [_,_] (shL bs A F) (lj h8)
   have hgq:=fun (w' : World) (L : List SL.HP) (h : own w' (shL bs A F++L))=>oA h hq5
   rw [od hFq] at hgq
   have HGQ:=zh hgq
   clear hx8 HB8 e1 gq hgq
   have f2:=Ld m2.c m2.p m2.b
   have f0:=DB m2.c m2.p m2.b
   unfold lM at HH2
   go_upto_region 19 with (fail)
   refine wp_region_held_drew (S:=(fun w'=>w'.cell? ⟨g,2,none⟩ = some (.int .i64 (q : Int)) /\ w'.cell? ⟨bs,q,none⟩ = some (.pointer (some ⟨(A q).1,0,none⟩)))) (by kernel_rfl) ⟨(ld 10 h9 rfl).1 2,HGQ.out _ _ h9⟩ (fun hHeld=>?_)
   refine tk 0 ?_
   refine tk 1 ?_
   refine tk 2 ?_
   refine tk 3 ?_
   refine tk 4 ?_
   refine tk 5 ?_
   refine tk 6 ?_
   refine tk 7 ?_
   refine tk 8 ?_
   try simp only [Act.put,tA,tB,tC,tD,tE,tF]
   refine rd 9 rfl fun K hK=>?_
   go_simp
   go_at_call 71
   refine (HH2.out _ _ h9).mono ?_
   rintro e wa ⟨rfl,hxa,ha⟩
   go_simp
   refine hK.out _ _ ⟨(ld 10 ha rfl).1 2,HGQ.out _ _ ha⟩ (fun _=>?_)
   clear hK K h9
   try simp only [Act.put,tA,tB,tC,tD,tE,tF]
   by_cases hbb : m2.b = -1
   ·have db : (m2.b != -1) = false:=by rw [hbb]; rfl
    have HBB:=zh hbb
    clear hbb
    refine tk 10 ?_
    refine tk 11 ?_
    refine tk 12 ?_
    refine tk 13 ?_
    refine tk 14 ?_
    refine tk 15 ?_
    refine tk 16 ?_
    refine tk 17 ?_
    refine tk 18 ?_
    refine tk 19 ?_
    try simp only [Act.put,tA,tB,tC,tD,tE,tF]
    refine tk 22 ?_
    try simp only [Act.put,tA,tB,tC,tD,tE,tF]
    refine rd 20 rfl fun K hK=>?_
    go_simp
    go_at_call 71
    refine (HH2.out _ _ ha).mono ?_
    rintro e wb ⟨rfl,hxb,hb⟩
    go_simp
    refine hK.out _ _ ⟨(ld 10 hb rfl).1 2,HGQ.out _ _ hb⟩ (fun _=>?_)
    clear hK K ha
    try simp only [Act.put,tA,tB,tC,tD,tE,tF]
    by_cases hcc : m2.c = m.c
    ·have HCC:=zh hcc
     rw [zq (by rintro (h | h | h); exact HP0.out h; exact h HBB.out; exact h HCC.out)] at HRES2
     have dc : (m2.c != m.c) = false:=by rw [hcc]; simp
     clear hcc
     refine tk 21 ?_
     try simp only [Act.put,tA,tB,tC,tD,tE,tF]
     refine tk 23 ?_
     refine tk 24 ?_
     try simp only [Act.put,tA,tB,tC,tD,tE,tF]
     refine wpAnyH_done (by kernel_rfl) ?_ _
     have f4:=(ld 6 hb rfl).2 4
     have c4:=(ld 6 hb rfl).1 4
     have h10:=lg (i:=4) (v:=.int .i64 (l.length : Nat)) 6 hb rfl
     have hxt:=((hx9.out.trans hxa).trans hxb).setCell (⟨bj,4,none⟩ : Addr) (.int .i64 (l.length : Nat))
     clear hb f0 f2
     go_wp2_with fail
     have hjok:=zh (HOK.out _ (by simp) (by omega) : (Ah F (jNew F (k : Int) 1 (q : Int) rate burst l 0)).Ok)
     have hx12:=zh hxt
     have hv12 : ∀w' L,own w' (L++(row 3 1 (.slice ao l.length cap) l.length (lo l)::(pts g (.cells #[.int .i64 (k : Int),.int .i64 1,.int .i64 (q : Int),.int .i64 rate,.int .i64 burst] 24 (0,0))::R))) -> lS w' (.slice ao l.length cap) (jNew F (k : Int) 1 (q : Int) rate burst l 0).list:=fun w' L h=>l9 0 (lp L [row 3 1 (.slice ao l.length cap) l.length (lo l)] h) rfl
     have HV12:=zh hv12
     have hnn : ((jNew F (k : Int) 1 (q : Int) rate burst l 0).n : Int) = m.c:=HCN.out
     have HJ0 : Hid (({ (jNew F (k : Int) 1 (q : Int) rate burst l 0) with x:=oY F (jNew F (k : Int) 1 (q : Int) rate burst l 0) 0 } : JobM) = (jNew F (k : Int) 1 (q : Int) rate burst l 0)):=zh rfl
     clear hxt hv12
     go_loopw [154] (fun iv wr=>∃z : Nat,z <= (jNew F (k : Int) 1 (q : Int) rate burst l 0).n /\ iv = .int .i64 z /\ Ext w wr /\ own wr (shL bs A F++(jobL bs bj bt bb (.slice ao l.length cap) { (jNew F (k : Int) 1 (q : Int) rate burst l 0) with x:=oY F (jNew F (k : Int) 1 (q : Int) rate burst l 0) z }++(row 3 1 (.slice ao l.length cap) l.length (lo l)::(pts g (.cells #[.int .i64 (k : Int),.int .i64 1,.int .i64 (q : Int),.int .i64 rate,.int .i64 burst] 24 (0,0))::R))))) (fun iv _=>(jNew F (k : Int) 1 (q : Int) rate burst l 0).n - (intOf iv).toNat)
     case atStart=>exact ⟨0,Nat.zero_le _,rfl,hx12.out,by rw [HJ0.out]; exact h10⟩
     case round=>
      obtain ⟨z,hq,rfl,hxr,hown⟩:=hrel
      by_cases hlt : z < (jNew F (k : Int) 1 (q : Int) rate burst l 0).n
      ·have j1 : (0 : Int) <= (z : Int):=by omega
       have j2 : (z : Int) < m.c:=by omega
       have j3 : (z : Int) < 64:=by have:=hjok.out.n; have : (jNew F (k : Int) 1 (q : Int) rate burst l 0).n <= 64:=this; omega
       go_wp2_with fail
       refine (Dp bs A F HF.out bj bt bb _ _ (EC hjok.out z) HFL.out (z : Int) _ wr HV12.out hown).mono ?_
       rintro e w12 ⟨rfl,nn,rfl⟩
       have hp:=Du bt (jNew F (k : Int) 1 (q : Int) rate burst l 0).n _ hjok.out.n (EC hjok.out z).x (z : Int) (ya F { (jNew F (k : Int) 1 (q : Int) rate burst l 0) with x:=oY F (jNew F (k : Int) 1 (q : Int) rate burst l 0) z } (z : Int)) 7 _ (ll nn hown) rfl
       have HPT:=zh hp
       clear hp
       generalize hwv : ya F { (jNew F (k : Int) 1 (q : Int) rate burst l 0) with x:=oY F (jNew F (k : Int) 1 (q : Int) rate burst l 0) z } (z : Int) = wv at *
       go_wp2_with fail
       refine HPT.out.mono ?_
       rintro e w13 ⟨rfl,hx13,h13⟩
       go_wp2_with fail
       go_roundw
       case rel=>exact ⟨z + 1,by omega,by go_num,(hxr.drewN nn).trans hx13,IZ (by rw [hwv]; exact h13)⟩
       case measure=>simp [intOf]; omega
      ·obtain rfl : z = (jNew F (k : Int) 1 (q : Int) rate burst l 0).n:=by omega
       have j2 : ¬(((jNew F (k : Int) 1 (q : Int) rate burst l 0).n : Int) < m.c):=by omega
       have dj : decide (((jNew F (k : Int) 1 (q : Int) rate burst l 0).n : Int) < m.c) = false:=zf j2
       go_wp2_with fail
       refine (B7 bs bj bt bb _ _ hjok.out _ wr (lp (shL bs A F) (jobL bs bj bt bb (.slice ao l.length cap) (Ah F (jNew F (k : Int) 1 (q : Int) rate burst l 0))) hown)).mono ?_
       rintro e w12 ⟨rfl,hx12',h12⟩
       rw [Fx rfl] at h12
       go_wp2_with fail
       go_ret2
       rw [<- HRES2.out]
       exact yX.yes bj bt bb (.slice ao l.length cap) rfl (hxr.trans hx12') (lh 10 (lp (jobL bs bj bt bb (.slice ao l.length cap) (Ah F (jNew F (k : Int) 1 (q : Int) rate burst l 0))) (shL bs A F) h12) rfl)
    ·rw [zt (.inr (.inr hcc))] at HRES2
     have dc : (m2.c != m.c) = true:=bne_iff_ne.2 hcc
     refine tk 21 ?_
     try simp only [Act.put,tA,tB,tC,tD,tE,tF]
     refine tk 23 ?_
     refine tk 24 ?_
     try simp only [Act.put,tA,tB,tC,tD,tE,tF]
     refine wpAnyH_done (by kernel_rfl) ?_ _
     go_wp2_with fail
     go_ret2
     rw [<- HRES2.out]
     exact yX.no rfl ((hx9.out.trans hxa).trans hxb) (lh 6 (lh 7 (lh 8 (lh 9 (lh 10 hb rfl) rfl) rfl) rfl) rfl)
   ·rw [zt (.inr (.inl hbb))] at HRES2
    have db : (m2.b != -1) = true:=bne_iff_ne.2 hbb
    refine tk 10 ?_
    refine tk 11 ?_
    refine tk 12 ?_
    refine tk 13 ?_
    try simp only [Act.put,tA,tB,tC,tD,tE,tF]
    refine sk 14 ?_
    refine sk 15 ?_
    refine sk 16 ?_
    refine sk 17 ?_
    refine sk 18 ?_
    refine sk 19 ?_
    refine sk 20 ?_
    refine sk 21 ?_
    refine sk 22 ?_
    refine sk 23 ?_
    try simp only [Act.put,tA,tB,tC,tD,tE,tF]
    refine tk 24 ?_
    try simp only [Act.put,tA,tB,tC,tD,tE,tF]
    refine wpAnyH_done (by kernel_rfl) ?_ _
    go_wp2_with fail
    go_ret2
    rw [<- HRES2.out]
    exact yX.no rfl (hx9.out.trans hxa) (lh 6 (lh 7 (lh 8 (lh 9 (lh 10 ha rfl) rfl) rfl) rfl) rfl)
theorem UW (bs : Nat) (A : Nat -> Nat×Nat×Nat) (F : ShM) (hF : ShOk F) (root kind file rate burst : Int) (hl5 : (lt F root).1.length <= 5) (hz : ¬(lt F root).2≠0) (h0 : ¬(lt F root).1.length = 0) (ho : ¬Bq rate burst = false) (hk1 : ¬kind = 1) (R : List SL.HP) (w : World) (H : own w (shL bs A F++R)) :
  Calls Tryz.prog 15 #[.pointer (some ⟨bs,0,none⟩),.agg #[.int .i64 root,.int .i64 kind,.int .i64 file,.int .i64 rate,.int .i64 burst]] w (yX bs A F (newM F root kind file rate burst) R w):=by
 have HK1:=zh hk1
 clear hk1
 have ha:=li H (.cells #[.int .i64 root,.int .i64 kind,.int .i64 file,.int .i64 rate,.int .i64 burst] 24)
 have hxa:=(zR w).alloc (.cells #[.int .i64 root,.int .i64 kind,.int .i64 file,.int .i64 rate,.int .i64 burst] 24)
 have hb : own _ (shL bs A F++(_::R)):=lr (shL bs A F) ha
 have hwk:=fun R' w' h=>CP bs A F hF root R' w' h
 have hfl:=Ak F root
 have hwc : 0 <= (lt F root).2:=zv
 have HWK:=zh hwk
 unfold zO at HWK
 generalize hres : newM F root kind file rate burst = res
 unfold newM at hres
 rw [zq hz] at hres
 have hz0 : (lt F root).2 = 0:=by omega
 rw [hz0,show errV 0 = .nilIface from rfl] at HWK
 rw [zq h0] at hres
 rw [zq ho] at hres
 have HRES:=zh hres
 clear hres
 have hroot:=FA h0
 obtain ⟨k,m,hxk,hk,hFk⟩:=lT hroot
 have hcl:=zI hF hroot
 have hcm : clus F root = m.c:=by rw [hxk]; exact yr hFk
 have HB:=zh (fun R' w' h=>FU rate burst R' w' (by simpa using ho) h)
 have HH:=zh (fun R' w' h=>Bc (b:=bs) (A:=A) hk hFk R' w' h)
 have HN:=zh (fun R' w' h=>NS (clus F root).toNat (by omega) R' w' h)
 have hcn : (((clus F root).toNat : Nat) : Int) = m.c:=by omega
 simp only [hcn] at HN
 have HCN:=zh hcn
 clear hcn
 have HF:=zh hF
 have HFL:=zh hfl
 have i1 : (0 : Int) <= (k : Int):=by omega
 have i2 : (k : Int) < 5:=by omega
 subst hxk
 have hok : ∀deep,kind = 1 \/ kind = 2 \/ kind = 3 -> deep <= (lt F (k : Int)).1.length -> (Ah F (jNew F k kind file rate burst (lt F (k : Int)).1 deep)).Ok:=fun deep hkk hd=>ED hF hroot hl5 h0 (by simpa using ho) hkk hd
 have HOK:=zh hok
 clear hok
 generalize hL : (lt F (k : Int)).1 = l at *
 have l0 : ((l.length : Int) == 0) = false:=by rw [zb]; omega
 go_enter Tryz.func15,Tryz.ntmps15
 go_upto_region 1 with (fail)
 generalize w.heap.size = g at *
 generalize w.alloc (.cells #[.int .i64 (k : Int),.int .i64 kind,.int .i64 file,.int .i64 rate,.int .i64 burst] 24) = w1 at *
 have c0:=(ld 6 hb rfl).1 0
 go_wp2_with fail
 refine (HWK.out _ _ hb).mono ?_
 rintro e w2 ⟨v,rfl,hx2,h2⟩
 obtain ⟨ao,lb,off,cap,rfl,-,-,-,-⟩:=(l9 0 h2 rfl).form
 have d3:=(ld 7 h2 rfl).1 3
 have d4:=(ld 7 h2 rfl).1 4
 clear c0
 go_wp2_with fail
 refine (HB.out _ _ h2).mono ?_
 rintro e w3 ⟨rfl,hx3,h3⟩
 generalize w2.heap.size = bb at *
 have h3s:=lp [Aw bb rate burst burst,row 3 1 (.slice ao l.length cap) l.length (lo l)] (shL bs A F) h3
 clear d3 d4
 have d0:=(ld 8 h3s rfl).1 0
 have g1:=oA h3s hk
 rw [od hFk] at g1
 go_upto_region 9 with (fail)
 go_still_tail 6,(by kernel_rfl)
 change wpList _ _ _ _ _ w3.drew
 go_wp2_with fail
 refine (HH.out _ _ (lj h3s)).mono ?_
 rintro e w4 ⟨rfl,hx4,h4⟩
 unfold lM
 have hf0:=DB m.c m.p m.b
 clear d0 g1
 go_wp2_with fail
 refine (HN.out _ _ h4).mono ?_
 rintro e w5 ⟨bt,rfl,hx5,h5⟩
 have d1:=(ld 9 h5 rfl).1 1
 have d2:=(ld 9 h5 rfl).1 2
 go_upto_region 14 with (fail)
 have h6:=li h5 (.cells #[.pointer (some ⟨bs,0,none⟩),.int .i64 kind,.int .i64 file,.slice ao l.length cap,.int .i64 0,.pointer (some ⟨bt,0,none⟩),.int .i64 0,.int .i64 2,.pointer (some ⟨bb,0,none⟩)] 137)
 have hx6:=(hx5.alloc (.cells #[.pointer (some ⟨bs,0,none⟩),.int .i64 kind,.int .i64 file,.slice ao l.length cap,.int .i64 0,.pointer (some ⟨bt,0,none⟩),.int .i64 0,.int .i64 2,.pointer (some ⟨bb,0,none⟩)] 137))
 generalize w5.heap.size = bj at *
 generalize w5.alloc (.cells #[.pointer (some ⟨bs,0,none⟩),.int .i64 kind,.int .i64 file,.slice ao l.length cap,.int .i64 0,.pointer (some ⟨bt,0,none⟩),.int .i64 0,.int .i64 2,.pointer (some ⟨bb,0,none⟩)] 137) = w6 at *
 clear d1 d2
 have d1:=(ld 10 h6 rfl).1 1
 have d2:=(ld 10 h6 rfl).1 2
 have f4:=(ld 0 h6 rfl).2 4
 have hrow:=l9 9 h6 rfl
 have HPL:=zh (LM _ l file hl5 w6 hrow)
 have hX:=(((hxa.trans hx2).trans hx3).drew.trans hx4).trans hx6
 have HX:=zh hX
 have H6:=zh h6
 have HBAD : ∀n,own (w6.drewN n) (shL bs A F++R):=fun n=>ll n (le (le (lh 8 (lh 9 (lh 10 h6 rfl) rfl) rfl)))
 have hpr:=DY l file
 have HP:=zh hL
 clear hL
 generalize Ab l file = pl at *
 clear hrow hX hx2 hx3 hx4 hx5 hx6 hxa h2 h3 h3s h4 h5 hb ha H HWK HB HN HH hwk
 go_wp2_with fail
 refine HPL.out.mono ?_
 rintro e w7 ⟨rfl,rfl⟩
 have gs:=@oA bs A F _ w6 (lp [_,_] (shL bs A F) h6)
 have H7:=zh h6
 clear h6 hF hl5 h0 hz hz0 hwc HPL hcl hcm
 have hk1:=HK1.out
 clear HK1
 have hres:=HRES.out
 rw [zq hk1] at hres
 have e1 : (kind == 1) = false:=by rw [zb]; exact hk1
 have h9:=lp [_,_] (shL bs A F) H7.out
 have f4:=(ld 6 h9 rfl).2 4
 have c4:=(ld 6 h9 rfl).1 4
 have HB0 : own w6 (shL bs A F++R):=le (le (lh 8 (lh 9 (lh 10 H7.out rfl) rfl) rfl))
 by_cases hk2 : kind = 2 /\ file = -1
 ·rw [zt hk2] at hres
  obtain ⟨rfl,rfl⟩:=hk2
  have HRES2:=zh hres
  have h10:=lg (i:=4) (v:=.int .i64 (l.length : Nat)) 6 h9 rfl
  have hxt:=HX.out.setCell (⟨bj,4,none⟩ : Addr) (.int .i64 (l.length : Nat))
  clear hres HRES hk1 e1 h9 HB0 HBAD
  go_wp2_with fail
  have hjok:=zh (HOK.out _ (by simp) (by omega) : (Ah F (jNew F (k : Int) 2 (-1) rate burst l l.length)).Ok)
  have hx12:=zh hxt
  have hv12 : ∀w' L,own w' (L++(row 3 1 (.slice ao l.length cap) l.length (lo l)::(pts g (.cells #[.int .i64 (k : Int),.int .i64 2,.int .i64 (-1),.int .i64 rate,.int .i64 burst] 24 (0,0))::R))) -> lS w' (.slice ao l.length cap) (jNew F (k : Int) 2 (-1) rate burst l l.length).list:=fun w' L h=>l9 0 (lp L [row 3 1 (.slice ao l.length cap) l.length (lo l)] h) rfl
  have HV12:=zh hv12
  have hnn : ((jNew F (k : Int) 2 (-1) rate burst l l.length).n : Int) = m.c:=HCN.out
  clear hxt hv12
  go_loopw [154] (fun iv wr=>∃q : Nat,q <= (jNew F (k : Int) 2 (-1) rate burst l l.length).n /\ iv = .int .i64 q /\ Ext w wr /\ own wr (shL bs A F++(jobL bs bj bt bb (.slice ao l.length cap) { (jNew F (k : Int) 2 (-1) rate burst l l.length) with x:=oY F (jNew F (k : Int) 2 (-1) rate burst l l.length) q }++(row 3 1 (.slice ao l.length cap) l.length (lo l)::(pts g (.cells #[.int .i64 (k : Int),.int .i64 2,.int .i64 (-1),.int .i64 rate,.int .i64 burst] 24 (0,0))::R))))) (fun iv _=>(jNew F (k : Int) 2 (-1) rate burst l l.length).n - (intOf iv).toNat)
  case atStart=>exact ⟨0,Nat.zero_le _,rfl,hx12.out,h10⟩
  case round=>
   obtain ⟨q,hq,rfl,hxr,hown⟩:=hrel
   by_cases hlt : q < (jNew F (k : Int) 2 (-1) rate burst l l.length).n
   ·have j1 : (0 : Int) <= (q : Int):=by omega
    have j2 : (q : Int) < m.c:=by omega
    have j3 : (q : Int) < 64:=by have:=hjok.out.n; have : (jNew F (k : Int) 2 (-1) rate burst l l.length).n <= 64:=this; omega
    go_wp2_with fail
    refine (Dp bs A F HF.out bj bt bb _ _ (EC hjok.out q) HFL.out (q : Int) _ wr HV12.out hown).mono ?_
    rintro e w12 ⟨rfl,nn,rfl⟩
    have hp:=Du bt (jNew F (k : Int) 2 (-1) rate burst l l.length).n _ hjok.out.n (EC hjok.out q).x (q : Int) (ya F { (jNew F (k : Int) 2 (-1) rate burst l l.length) with x:=oY F (jNew F (k : Int) 2 (-1) rate burst l l.length) q } (q : Int)) 7 _ (ll nn hown) rfl
    have HPT:=zh hp
    clear hp
    generalize hwv : ya F { (jNew F (k : Int) 2 (-1) rate burst l l.length) with x:=oY F (jNew F (k : Int) 2 (-1) rate burst l l.length) q } (q : Int) = wv at *
    go_wp2_with fail
    refine HPT.out.mono ?_
    rintro e w13 ⟨rfl,hx13,h13⟩
    go_wp2_with fail
    go_roundw
    case rel=>exact ⟨q + 1,by omega,by go_num,(hxr.drewN nn).trans hx13,IZ (by rw [hwv]; exact h13)⟩
    case measure=>simp [intOf]; omega
   ·obtain rfl : q = (jNew F (k : Int) 2 (-1) rate burst l l.length).n:=by omega
    have j2 : ¬(((jNew F (k : Int) 2 (-1) rate burst l l.length).n : Int) < m.c):=by omega
    have dj : decide (((jNew F (k : Int) 2 (-1) rate burst l l.length).n : Int) < m.c) = false:=zf j2
    go_wp2_with fail
    refine (B7 bs bj bt bb _ _ hjok.out _ wr (lp (shL bs A F) (jobL bs bj bt bb (.slice ao l.length cap) (Ah F (jNew F (k : Int) 2 (-1) rate burst l l.length))) hown)).mono ?_
    rintro e w12 ⟨rfl,hx12',h12⟩
    rw [Fx rfl] at h12
    go_wp2_with fail
    go_ret2
    rw [<- HRES2.out]
    exact yX.yes bj bt bb (.slice ao l.length cap) rfl (hxr.trans hx12') (lh 10 (lp (jobL bs bj bt bb (.slice ao l.length cap) (Ah F (jNew F (k : Int) 2 (-1) rate burst l l.length))) (shL bs A F) h12) rfl)
 ·rw [zq hk2] at hres
  by_cases hk3 : kind = 2 \/ kind = 3
  ·rw [zt hk3] at hres
   by_cases hpl : pl < 1
   ·rw [zt hpl] at hres
    subst hres
    rcases hk3 with rfl | rfl
    ·have hf1 : (file == -1) = false:=by rw [zb]; omega
     clear hk1 hk2 HRES
     go_wp2_with fail
     go_ret2
     exact yX.no rfl HX.out HB0
    ·clear hk1 hk2 HRES
     go_wp2_with fail
     go_ret2
     exact yX.no rfl HX.out HB0
   ·rw [zq hpl] at hres
    obtain ⟨p,rfl⟩ : ∃p : Nat,pl = (p : Int):=⟨pl.toNat,by omega⟩
    rw [zn] at hres
    have HRES2:=zh hres
    have hp1 : ¬((p : Int) < 1):=hpl
    have h10:=lg (i:=4) (v:=.int .i64 (p : Nat)) 6 h9 rfl
    have hxt:=HX.out.setCell (⟨bj,4,none⟩ : Addr) (.int .i64 (p : Nat))
    clear hres HRES h9 HB0 HBAD
    rcases hk3 with rfl | rfl
    ·have hf1 : (file == -1) = false:=by rw [zb]; omega
     clear hk1 hk2 e1
     go_wp2_with fail
     have hjok:=zh (HOK.out _ (by simp) (by omega) : (Ah F (jNew F (k : Int) 2 file rate burst l p)).Ok)
     have hx12:=zh hxt
     have hv12 : ∀w' L,own w' (L++(row 3 1 (.slice ao l.length cap) l.length (lo l)::(pts g (.cells #[.int .i64 (k : Int),.int .i64 2,.int .i64 file,.int .i64 rate,.int .i64 burst] 24 (0,0))::R))) -> lS w' (.slice ao l.length cap) (jNew F (k : Int) 2 file rate burst l p).list:=fun w' L h=>l9 0 (lp L [row 3 1 (.slice ao l.length cap) l.length (lo l)] h) rfl
     have HV12:=zh hv12
     have hnn : ((jNew F (k : Int) 2 file rate burst l p).n : Int) = m.c:=HCN.out
     clear hxt hv12
     go_loopw [154] (fun iv wr=>∃q : Nat,q <= (jNew F (k : Int) 2 file rate burst l p).n /\ iv = .int .i64 q /\ Ext w wr /\ own wr (shL bs A F++(jobL bs bj bt bb (.slice ao l.length cap) { (jNew F (k : Int) 2 file rate burst l p) with x:=oY F (jNew F (k : Int) 2 file rate burst l p) q }++(row 3 1 (.slice ao l.length cap) l.length (lo l)::(pts g (.cells #[.int .i64 (k : Int),.int .i64 2,.int .i64 file,.int .i64 rate,.int .i64 burst] 24 (0,0))::R))))) (fun iv _=>(jNew F (k : Int) 2 file rate burst l p).n - (intOf iv).toNat)
     case atStart=>exact ⟨0,Nat.zero_le _,rfl,hx12.out,h10⟩
     case round=>
      obtain ⟨q,hq,rfl,hxr,hown⟩:=hrel
      by_cases hlt : q < (jNew F (k : Int) 2 file rate burst l p).n
      ·have j1 : (0 : Int) <= (q : Int):=by omega
       have j2 : (q : Int) < m.c:=by omega
       have j3 : (q : Int) < 64:=by have:=hjok.out.n; have : (jNew F (k : Int) 2 file rate burst l p).n <= 64:=this; omega
       go_wp2_with fail
       refine (Dp bs A F HF.out bj bt bb _ _ (EC hjok.out q) HFL.out (q : Int) _ wr HV12.out hown).mono ?_
       rintro e w12 ⟨rfl,nn,rfl⟩
       have hp:=Du bt (jNew F (k : Int) 2 file rate burst l p).n _ hjok.out.n (EC hjok.out q).x (q : Int) (ya F { (jNew F (k : Int) 2 file rate burst l p) with x:=oY F (jNew F (k : Int) 2 file rate burst l p) q } (q : Int)) 7 _ (ll nn hown) rfl
       have HPT:=zh hp
       clear hp
       generalize hwv : ya F { (jNew F (k : Int) 2 file rate burst l p) with x:=oY F (jNew F (k : Int) 2 file rate burst l p) q } (q : Int) = wv at *
       go_wp2_with fail
       refine HPT.out.mono ?_
       rintro e w13 ⟨rfl,hx13,h13⟩
       go_wp2_with fail
       go_roundw
       case rel=>exact ⟨q + 1,by omega,by go_num,(hxr.drewN nn).trans hx13,IZ (by rw [hwv]; exact h13)⟩
       case measure=>simp [intOf]; omega
      ·obtain rfl : q = (jNew F (k : Int) 2 file rate burst l p).n:=by omega
       have j2 : ¬(((jNew F (k : Int) 2 file rate burst l p).n : Int) < m.c):=by omega
       have dj : decide (((jNew F (k : Int) 2 file rate burst l p).n : Int) < m.c) = false:=zf j2
       go_wp2_with fail
       refine (B7 bs bj bt bb _ _ hjok.out _ wr (lp (shL bs A F) (jobL bs bj bt bb (.slice ao l.length cap) (Ah F (jNew F (k : Int) 2 file rate burst l p))) hown)).mono ?_
       rintro e w12 ⟨rfl,hx12',h12⟩
       rw [Fx rfl] at h12
       go_wp2_with fail
       go_ret2
       rw [<- HRES2.out]
       exact yX.yes bj bt bb (.slice ao l.length cap) rfl (hxr.trans hx12') (lh 10 (lp (jobL bs bj bt bb (.slice ao l.length cap) (Ah F (jNew F (k : Int) 2 file rate burst l p))) (shL bs A F) h12) rfl)
    ·clear hk1 hk2 e1
     go_wp2_with fail
     have hjok:=zh (HOK.out _ (by simp) (by omega) : (Ah F (jNew F (k : Int) 3 file rate burst l p)).Ok)
     have hx12:=zh hxt
     have hv12 : ∀w' L,own w' (L++(row 3 1 (.slice ao l.length cap) l.length (lo l)::(pts g (.cells #[.int .i64 (k : Int),.int .i64 3,.int .i64 file,.int .i64 rate,.int .i64 burst] 24 (0,0))::R))) -> lS w' (.slice ao l.length cap) (jNew F (k : Int) 3 file rate burst l p).list:=fun w' L h=>l9 0 (lp L [row 3 1 (.slice ao l.length cap) l.length (lo l)] h) rfl
     have HV12:=zh hv12
     have hnn : ((jNew F (k : Int) 3 file rate burst l p).n : Int) = m.c:=HCN.out
     clear hxt hv12
     go_loopw [154] (fun iv wr=>∃q : Nat,q <= (jNew F (k : Int) 3 file rate burst l p).n /\ iv = .int .i64 q /\ Ext w wr /\ own wr (shL bs A F++(jobL bs bj bt bb (.slice ao l.length cap) { (jNew F (k : Int) 3 file rate burst l p) with x:=oY F (jNew F (k : Int) 3 file rate burst l p) q }++(row 3 1 (.slice ao l.length cap) l.length (lo l)::(pts g (.cells #[.int .i64 (k : Int),.int .i64 3,.int .i64 file,.int .i64 rate,.int .i64 burst] 24 (0,0))::R))))) (fun iv _=>(jNew F (k : Int) 3 file rate burst l p).n - (intOf iv).toNat)
     case atStart=>exact ⟨0,Nat.zero_le _,rfl,hx12.out,h10⟩
     case round=>
      obtain ⟨q,hq,rfl,hxr,hown⟩:=hrel
      by_cases hlt : q < (jNew F (k : Int) 3 file rate burst l p).n
      ·have j1 : (0 : Int) <= (q : Int):=by omega
       have j2 : (q : Int) < m.c:=by omega
       have j3 : (q : Int) < 64:=by have:=hjok.out.n; have : (jNew F (k : Int) 3 file rate burst l p).n <= 64:=this; omega
       go_wp2_with fail
       refine (Dp bs A F HF.out bj bt bb _ _ (EC hjok.out q) HFL.out (q : Int) _ wr HV12.out hown).mono ?_
       rintro e w12 ⟨rfl,nn,rfl⟩
       have hp:=Du bt (jNew F (k : Int) 3 file rate burst l p).n _ hjok.out.n (EC hjok.out q).x (q : Int) (ya F { (jNew F (k : Int) 3 file rate burst l p) with x:=oY F (jNew F (k : Int) 3 file rate burst l p) q } (q : Int)) 7 _ (ll nn hown) rfl
       have HPT:=zh hp
       clear hp
       generalize hwv : ya F { (jNew F (k : Int) 3 file rate burst l p) with x:=oY F (jNew F (k : Int) 3 file rate burst l p) q } (q : Int) = wv at *
       go_wp2_with fail
       refine HPT.out.mono ?_
       rintro e w13 ⟨rfl,hx13,h13⟩
       go_wp2_with fail
       go_roundw
       case rel=>exact ⟨q + 1,by omega,by go_num,(hxr.drewN nn).trans hx13,IZ (by rw [hwv]; exact h13)⟩
       case measure=>simp [intOf]; omega
      ·obtain rfl : q = (jNew F (k : Int) 3 file rate burst l p).n:=by omega
       have j2 : ¬(((jNew F (k : Int) 3 file rate burst l p).n : Int) < m.c):=by omega
       have dj : decide (((jNew F (k : Int) 3 file rate burst l p).n : Int) < m.c) = false:=zf j2
       go_wp2_with fail
       refine (B7 bs bj bt bb _ _ hjok.out _ wr (lp (shL bs A F) (jobL bs bj bt bb (.slice ao l.length cap) (Ah F (jNew F (k : Int) 3 file rate burst l p))) hown)).mono ?_
       rintro e w12 ⟨rfl,hx12',h12⟩
       rw [Fx rfl] at h12
       go_wp2_with fail
       go_ret2
       rw [<- HRES2.out]
       exact yX.yes bj bt bb (.slice ao l.length cap) rfl (hxr.trans hx12') (lh 10 (lp (jobL bs bj bt bb (.slice ao l.length cap) (Ah F (jNew F (k : Int) 3 file rate burst l p))) (shL bs A F) h12) rfl)
  ·rw [zq hk3] at hres
   subst hres
   have e2 : (kind == 2) = false:=by rw [zb]; omega
   have e3 : (kind == 3) = false:=by rw [zb]; omega
   clear hk1 hk2 hk3 HRES
   go_wp2_with fail
   go_ret2
   exact yX.no rfl HX.out HB0
theorem MQ (bs : Nat) (A : Nat -> Nat×Nat×Nat) (F : ShM) (hF : ShOk F) (root kind file rate burst : Int) (hl5 : (lt F root).1.length <= 5) (R : List SL.HP) (w : World) (H : own w (shL bs A F++R)) :
  Calls Tryz.prog 15 #[.pointer (some ⟨bs,0,none⟩),.agg #[.int .i64 root,.int .i64 kind,.int .i64 file,.int .i64 rate,.int .i64 burst]] w (yX bs A F (newM F root kind file rate burst) R w):=by
 by_cases hgood : ¬(lt F root).2≠0 /\ ¬(lt F root).1.length = 0 /\ ¬Bq rate burst = false
 ·by_cases hk1 : kind = 1
  ·exact VB bs A F hF root kind file rate burst hl5 hgood.1 hgood.2.1 hgood.2.2 hk1 R w H
  ·exact UW bs A F hF root kind file rate burst hl5 hgood.1 hgood.2.1 hgood.2.2 hk1 R w H
 have ha:=li H (.cells #[.int .i64 root,.int .i64 kind,.int .i64 file,.int .i64 rate,.int .i64 burst] 24)
 have hxa:=(zR w).alloc (.cells #[.int .i64 root,.int .i64 kind,.int .i64 file,.int .i64 rate,.int .i64 burst] 24)
 have hb : own _ (shL bs A F++(_::R)):=lr (shL bs A F) ha
 have hwk:=fun R' w' h=>CP bs A F hF root R' w' h
 have hfl:=Ak F root
 have hwc : 0 <= (lt F root).2:=zv
 have HWK:=zh hwk
 unfold zO at HWK
 have HGD:=zh hgood
 clear hgood
 generalize hres : newM F root kind file rate burst = res
 unfold newM at hres
 by_cases hz : (lt F root).2≠0
 ·rw [zt hz] at hres
  subst hres
  have hp : 0 < (lt F root).2:=by omega
  show Calls _ _ _ _ (fun e w'=>e = .returned (.tuple #[.pointer none,errV (lt F root).2]) /\ Ext w w' /\ own w' (shL bs A F++R))
  rw [lx hp] at HWK ⊢
  generalize lt F root = S at *
  obtain ⟨l,wc⟩:=S
  dsimp only at hwc HWK ⊢
  clear hz hwk hfl ha
  go_enter Tryz.func15,Tryz.ntmps15
  go_upto_region 1 with (fail)
  generalize w.heap.size = g at *
  generalize w.alloc (.cells #[.int .i64 root,.int .i64 kind,.int .i64 file,.int .i64 rate,.int .i64 burst] 24) = w1 at *
  have c0:=(ld 6 hb rfl).1 0
  go_wp2_with fail
  refine (HWK.out _ _ hb).mono ?_
  rintro e w2 ⟨v,rfl,hx2,h2⟩
  go_wp2_with fail
  go_ret2
  exact ⟨rfl,hxa.trans hx2,lh 6 (le h2) rfl⟩
 ·rw [zq hz] at hres
  have hz0 : (lt F root).2 = 0:=by omega
  rw [hz0,show errV 0 = .nilIface from rfl] at HWK
  by_cases h0 : (lt F root).1.length = 0
  ·rw [zt h0] at hres
   subst hres
   show Calls _ _ _ _ (fun e w'=>e = .returned (.tuple #[.pointer none,errV 4]) /\ Ext w w' /\ own w' (shL bs A F++R))
   have hl0 : (lt F root).1 = []:=List.length_eq_zero_iff.1 h0
   rw [hl0] at HWK
   clear hz hwk hfl ha h0 hl0 hz0 hwc
   go_enter Tryz.func15,Tryz.ntmps15
   go_upto_region 1 with (fail)
   generalize w.heap.size = g at *
   generalize w.alloc (.cells #[.int .i64 root,.int .i64 kind,.int .i64 file,.int .i64 rate,.int .i64 burst] 24) = w1 at *
   have c0:=(ld 6 hb rfl).1 0
   go_wp2_with fail
   refine (HWK.out _ _ hb).mono ?_
   rintro e w2 ⟨v,rfl,hx2,h2⟩
   obtain ⟨ao,lb,off,cap,rfl,-,-,-,-⟩:=(l9 0 h2 rfl).form
   go_wp2_with fail
   go_ret2
   exact ⟨rfl,hxa.trans hx2,lh 6 (le h2) rfl⟩
  ·rw [zq h0] at hres
   by_cases ho : Bq rate burst = false
   ·rw [zt ho] at hres
    subst hres
    show Calls _ _ _ _ (fun e w'=>e = .returned (.tuple #[.pointer none,errV 1]) /\ Ext w w' /\ own w' (shL bs A F++R))
    have HB:=zh (fun w'=>Mu rate burst w' ho)
    rw [show errV 1 = .iface 128 (.int .i64 1) from rfl] at HB ⊢
    generalize (lt F root).1 = l at *
    have l0 : ((l.length : Int) == 0) = false:=by rw [zb]; omega
    clear hz hwk hfl ha h0 hz0 hwc ho
    go_enter Tryz.func15,Tryz.ntmps15
    go_upto_region 1 with (fail)
    generalize w.heap.size = g at *
    generalize w.alloc (.cells #[.int .i64 root,.int .i64 kind,.int .i64 file,.int .i64 rate,.int .i64 burst] 24) = w1 at *
    have c0:=(ld 6 hb rfl).1 0
    go_wp2_with fail
    refine (HWK.out _ _ hb).mono ?_
    rintro e w2 ⟨v,rfl,hx2,h2⟩
    obtain ⟨ao,lb,off,cap,rfl,-,-,-,-⟩:=(l9 0 h2 rfl).form
    have d3:=(ld 7 h2 rfl).1 3
    have d4:=(ld 7 h2 rfl).1 4
    clear c0
    go_wp2_with fail
    refine (HB.out _).mono ?_
    rintro e w' ⟨rfl,rfl⟩
    go_wp2_with fail
    go_ret2
    exact ⟨rfl,hxa.trans hx2,lh 6 (le h2) rfl⟩
   ·exact absurd ⟨hz,h0,ho⟩ HGD.out
def yq (bs : Nat) (A : Nat -> Nat×Nat) (F : ShM) (res : Option JobM×Int) (R : List SL.HP) (w : World) (e : Ending) (w' : World) : Prop:=
 match res with
 | (none,f)=>e = .returned (.tuple #[.pointer none,.int .i64 f]) /\ Ext w w' /\ own w' (rshL bs A F++R)
 | (some j,_)=>∃br v,e = .returned (.tuple #[.pointer (some ⟨br,0,none⟩),.int .i64 0]) /\ Ext w w' /\ own w' (rshL bs A F++(lB bs br v j::(row 3 1 v j.list.length (lo j.list)::R)))
theorem yq.no {bs : Nat} {A : Nat -> Nat×Nat} {F : ShM} {f : Int} {R : List SL.HP} {w : World} {e : Ending} {w' : World} (h1 : e = .returned (.tuple #[.pointer none,.int .i64 f])) (h2 : Ext w w') (h3 : own w' (rshL bs A F++R)) : yq bs A F (none,f) R w e w':=⟨h1,h2,h3⟩
theorem yq.yes {bs : Nat} {A : Nat -> Nat×Nat} {F : ShM} {j : JobM} {R : List SL.HP} {w : World} {e : Ending} {w' : World} (br : Nat) (v : Value) (h1 : e = .returned (.tuple #[.pointer (some ⟨br,0,none⟩),.int .i64 0])) (h2 : Ext w w') (h3 : own w' (rshL bs A F++(lB bs br v j::(row 3 1 v j.list.length (lo j.list)::R)))) : yq bs A F (some j,0) R w e w':=⟨br,v,h1,h2,h3⟩
def jBox (k kind file rate burst : Int) (l : List Int) : JobM:={ root:=k,kind:=kind,file:=file,rate:=rate,burst:=burst,list:=l,deep:=0,n:=0,x:=0,at_:=0,st:=2,level:=burst }
theorem Vk (bs : Nat) (v : Value) (k kind file rate burst : Int) (l : List Int) :
  #[.pointer (some ⟨bs,0,none⟩),.int .i64 k,.int .i64 kind,.int .i64 file,.int .i64 rate,.int .i64 burst,v,.int .i64 0,.int .i64 0,.bool false,.bool false,.bool false,.bool false,.bool false,.bool false,.bool false,.bool false,.bool false,.bool false,.bool false,.bool false,.bool false,.bool false,.bool false,.bool false,.bool false,.bool false,.bool false,.bool false,.bool false,.bool false,.bool false,.bool false,.bool false,.bool false,.bool false,.bool false,.bool false,.bool false,.bool false,.bool false,.bool false,.bool false,.bool false,.bool false,.bool false,.bool false,.bool false,.bool false,.bool false,.bool false,.bool false,.bool false,.bool false,.bool false,.bool false,.bool false,.bool false,.bool false,.bool false,.bool false,.bool false,.bool false,.bool false,.bool false,.bool false,.bool false,.bool false,.bool false,.bool false,.bool false,.bool false,.bool false,.int .i64 (-1),.int .i64 2,.int .i64 rate,.int .i64 burst,.int .i64 burst] = A9 bs v (jBox k kind file rate burst l):=by
 refine Array.ext_getElem? fun i=>?_
 by_cases hi : i < 78
 ·rw [DA _ _ _ hi]
  by_cases h : 9 <= i /\ i < 73
  ·rw [CY _ _ _ h.1 h.2,show (jBox k kind file rate burst l).x = 0 from rfl,Nat.zero_testBit]
   have : i = 9 \/ i = 10 \/ i = 11 \/ i = 12 \/ i = 13 \/ i = 14 \/ i = 15 \/ i = 16 \/ i = 17 \/ i = 18 \/ i = 19 \/ i = 20 \/ i = 21 \/ i = 22 \/ i = 23 \/ i = 24 \/ i = 25 \/ i = 26 \/ i = 27 \/ i = 28 \/ i = 29 \/ i = 30 \/ i = 31 \/ i = 32 \/ i = 33 \/ i = 34 \/ i = 35 \/ i = 36 \/ i = 37 \/ i = 38 \/ i = 39 \/ i = 40 \/ i = 41 \/ i = 42 \/ i = 43 \/ i = 44 \/ i = 45 \/ i = 46 \/ i = 47 \/ i = 48 \/ i = 49 \/ i = 50 \/ i = 51 \/ i = 52 \/ i = 53 \/ i = 54 \/ i = 55 \/ i = 56 \/ i = 57 \/ i = 58 \/ i = 59 \/ i = 60 \/ i = 61 \/ i = 62 \/ i = 63 \/ i = 64 \/ i = 65 \/ i = 66 \/ i = 67 \/ i = 68 \/ i = 69 \/ i = 70 \/ i = 71 \/ i = 72:=by omega
   rcases this with rfl | rfl | rfl | rfl | rfl | rfl | rfl | rfl | rfl | rfl | rfl | rfl | rfl | rfl | rfl | rfl | rfl | rfl | rfl | rfl | rfl | rfl | rfl | rfl | rfl | rfl | rfl | rfl | rfl | rfl | rfl | rfl | rfl | rfl | rfl | rfl | rfl | rfl | rfl | rfl | rfl | rfl | rfl | rfl | rfl | rfl | rfl | rfl | rfl | rfl | rfl | rfl | rfl | rfl | rfl | rfl | rfl | rfl | rfl | rfl | rfl | rfl | rfl | rfl <;> rfl
  ·have : i = 0 \/ i = 1 \/ i = 2 \/ i = 3 \/ i = 4 \/ i = 5 \/ i = 6 \/ i = 7 \/ i = 8 \/ i = 73 \/ i = 74 \/ i = 75 \/ i = 76 \/ i = 77:=by omega
   rcases this with rfl | rfl | rfl | rfl | rfl | rfl | rfl | rfl | rfl | rfl | rfl | rfl | rfl | rfl
   all_goals first | rfl | (show some (Value.int .i64 0) = some (Value.int .i64 ((GG (jBox k kind file rate burst l) : Nat) : Int)); unfold GG; split <;> rfl)
 ·rw [Array.getElem?_eq_none (by show 78 <= i; omega),Array.getElem?_eq_none (by simp [A9]; omega)]
theorem Va (bs : Nat) (v : Value) (k kind file rate burst : Int) (l : List Int) :
  ((((((((((((Tryz.zeroCells149.setIfInBounds 0 (.pointer (some ⟨bs,0,none⟩))).setIfInBounds 1 (.int .i64 k)).setIfInBounds 2 (.int .i64 kind)).setIfInBounds 3 (.int .i64 file)).setIfInBounds 4 (.int .i64 rate)).setIfInBounds 5 (.int .i64 burst)).setIfInBounds 6 v).setIfInBounds 73 (.int .i64 (-1))).setIfInBounds 74 (.int .i64 2)).setIfInBounds 75 (.int .i64 rate)).setIfInBounds 76 (.int .i64 burst)).setIfInBounds 77 (.int .i64 burst)) = A9 bs v (jBox k kind file rate burst l):=(show ((((((((((((Tryz.zeroCells149.setIfInBounds 0 (.pointer (some ⟨bs,0,none⟩))).setIfInBounds 1 (.int .i64 k)).setIfInBounds 2 (.int .i64 kind)).setIfInBounds 3 (.int .i64 file)).setIfInBounds 4 (.int .i64 rate)).setIfInBounds 5 (.int .i64 burst)).setIfInBounds 6 v).setIfInBounds 73 (.int .i64 (-1))).setIfInBounds 74 (.int .i64 2)).setIfInBounds 75 (.int .i64 rate)).setIfInBounds 76 (.int .i64 burst)).setIfInBounds 77 (.int .i64 burst)) = #[.pointer (some ⟨bs,0,none⟩),.int .i64 k,.int .i64 kind,.int .i64 file,.int .i64 rate,.int .i64 burst,v,.int .i64 0,.int .i64 0,.bool false,.bool false,.bool false,.bool false,.bool false,.bool false,.bool false,.bool false,.bool false,.bool false,.bool false,.bool false,.bool false,.bool false,.bool false,.bool false,.bool false,.bool false,.bool false,.bool false,.bool false,.bool false,.bool false,.bool false,.bool false,.bool false,.bool false,.bool false,.bool false,.bool false,.bool false,.bool false,.bool false,.bool false,.bool false,.bool false,.bool false,.bool false,.bool false,.bool false,.bool false,.bool false,.bool false,.bool false,.bool false,.bool false,.bool false,.bool false,.bool false,.bool false,.bool false,.bool false,.bool false,.bool false,.bool false,.bool false,.bool false,.bool false,.bool false,.bool false,.bool false,.bool false,.bool false,.bool false,.int .i64 (-1),.int .i64 2,.int .i64 rate,.int .i64 burst,.int .i64 burst] by kernel_rfl).trans (Vk bs v k kind file rate burst l)
theorem WU (bs : Nat) (v : Value) (j : JobM) (s : Nat) : ∀q,q < 78 -> yH bs v { j with n:=s } q = if q = 8 then .int .i64 (s : Nat) else yH bs v j q:=by
 intro q _
 unfold yH
 by_cases h : q = 8
 ·subst h; rfl
 ·rw [zq h,zq h,zq h]; rfl
theorem Mj (bs : Nat) (v : Value) (j : JobM) (hk : j.kind≠1) (s : Nat) : ∀q,q < 78 -> yH bs v { j with deep:=s } q = if q = 7 then .int .i64 (s : Nat) else yH bs v j q:=by
 intro q _
 unfold yH
 by_cases h : q = 7
 ·subst h
  show Value.int .i64 ((GG { j with deep:=s } : Nat) : Int) = _
  unfold GG
  rw [zq hk]
  try rfl
 ·rw [zq h,zq h,zq h]; try rfl
theorem Uj (bs : Nat) (v : Value) (F : ShM) (j : JobM) (hn : j.n <= 64) {c : Nat} (hc : c < j.n) : ∀q,q < 78 -> yH bs v { j with x:=oY F j (c + 1) } q = if q = 9 + c then .bool (ya F j (c : Int)) else yH bs v { j with x:=oY F j c } q:=by
 intro q hq
 by_cases h : 9 <= q /\ q < 73
 ·rw [CY _ _ _ h.1 h.2,CY _ _ _ h.1 h.2]
  show Value.bool ((oY F j (c + 1)).testBit (q - 9)) = _
  rw [UD F j hn hc _ (by omega)]
  by_cases e : q - 9 = c
  ·rw [zt e,zt (by omega)]
  ·rw [zq e,zq (by omega)]
 ·rw [zq (by omega),Gn bs v j (oY F j (c + 1)) h hq,Gn bs v j (oY F j c) h hq]
end Go.Proofs.YtbpblokfiajpjabGreatDoor
