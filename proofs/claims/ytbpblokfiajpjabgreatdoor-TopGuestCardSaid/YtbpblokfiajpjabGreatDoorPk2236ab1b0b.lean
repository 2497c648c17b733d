/- Lemmas on which TopGuest stands: the texts Chain13 Chain14 Chain15 Bits1 Bits2 Bucket RBucket Jobs1 Jobs2 Jobs3 Jobs4 Opens Chain16 Chain17. No conditions. -/
import Derived.Test.YtbpblokfiajpjabGreatDoorPkb22c13eb3e
import Derived.Lib.TrailingZeros
import Derived.Lib.SmallJoins
set_option linter.all false
set_option maxRecDepth 1000000
set_option maxHeartbeats 32000000
namespace Go.Proofs.YtbpblokfiajpjabGreatDoor
open Go.RowKit Go.SL Go.Crc
attribute [local go_sem ↓] Go.wp_at_zero Go.wp_at_succ
theorem LC {n m : Nat} (h : m <= n) : (zs n).extract 0 m = zs m:=by
 apply Go.WideShapes.bytes_inj
 rw [zH]
 simp [zs,h]
theorem Mn {F : ShM} {l : List Int} {m : ImgM} (h : F (topI l) = some m) (c : Nat) : AH F l c = ((m.clear c).1,put F (topI l) (m.clear c).2):=by unfold AH; rw [h]
theorem OP {F : ShM} {l : List Int} {m : ImgM} (h : F (topI l) = some m) (c : Nat) : Gn F l c = m.kind (c : Int):=by unfold Gn; rw [h]
theorem Nq (b : Nat) (A : Nat -> Nat×Nat×Nat) (F : ShM) (N : Nat) (hW : ShW N F) (hN : N + 1000 < 900000) (v : Value) (l : List Int) (hl : ∀x∈l,ll F x) (hl5 : l.length <= 5) (fr n : Int) (hfr : oG fr) (hn : oG n) (R : List SL.HP) (w : World) (hv : ∀w' L,own w' (L++R) -> lU w' v l) (H : own w (shL b A F++R)) :
  Calls Tryz.prog 207 #[.pointer (some ⟨b,0,none⟩),v,.int .i64 fr,.int .i64 n] w fun e w'=>e = .returned (errV (yQ F l fr n).1) /\ Ext w w' /\ own w' (shL b A (yQ F l fr n).2++R):=by
 have hF : ShOk F:=hW.sh (by omega)
 have hps:=En b A F hF v l hl hl5 fr n hfr hn R w hv H
 unfold Cu at hps
 have HPS:=zh hps
 clear hps
 by_cases hw : lK F l fr n = 0
 ·have eg : yQ F l fr n = oY (AN l fr.toNat) n.toNat F fr.toNat 0 n.toNat:=by unfold yQ; rw [zq (by rw [hw]; decide)]
  have ep : yX F l fr n = yK fr.toNat n.toNat:=by unfold yX; rw [zt hw]
  rw [eg]
  rw [hw,ep,lR] at HPS
  obtain ⟨hp0,hp1,hp2,hp3⟩:=yx hw
  obtain ⟨fn,rfl⟩:=ze hp1
  obtain ⟨nn,rfl⟩:=ze hp2
  rw [zn,zn] at HPS ⊢
  have hcl:=K0 hF hl hp0
  have hsum : fn + nn <= 128:=by omega
  have HCL:=zh hp3
  have hf0:=hl _ (mem0 hp0)
  have HP0:=zh hp0
  have HV:=zh hv
  have HSTEP:=zh (fun (F' : ShM) (n : Nat) (hn : n <= 1000) (hs : lB n F F')=>(show ShOk F' /\ (∀x∈l,ll F' x) /\ clus F' (l.getD 0 0) = clus F (l.getD 0 0) from ⟨(hW.step hs).sh (by omega),fun x hx=>hs.file (hl x hx),hs.clus_eq hf0⟩))
  obtain ⟨ao,lb,off,cap,rfl,hlc,hcap,hao,-⟩:=(hv w _ H).form
  obtain rfl:=hao (by omega)
  have hpos : 0 < l.length:=by omega
  have j2 : (0 : Int) < (l.length : Int):=by omega
  have HLAY:=zh (fun (F' : ShM) (hF' : ShOk F') (hl' : ∀x∈l,ll F' x) (c fr n : Nat) (hc : (c : Int) < clus F' (l.getD 0 0)) (hfn : fr + n <= 4) (t : ByteArray) (ht : t.size = 16 * n) (R' : List SL.HP) (w : World) (hv' : ∀w' L,own w' (L++R') -> lU w' (.slice (some ⟨lb,off,none⟩) l.length cap) l) (H : own w (shL b A F'++R'))=>K3 b A F' hF' (.slice (some ⟨lb,off,none⟩) l.length cap) l hl' hp0 hl5 c fr n hc hfn t ht R' w hv' H)
  generalize hres : oY (AN l fn) nn F fn 0 nn = res
  have HRES:=zh hres
  have hrf : lB 0 F F:=lB.refl hF 0
  have HRF:=zh hrf
  obtain ⟨m00,h5,-,hx0⟩:=Er hl hp0
  have HX0:=zh hx0
  clear hres hv hw eg ep hp0 hp1 hp3 hcl hao hfr hF hl hf0 hW hrf hn hx0
  go_enter Tryz.func207,Tryz.ntmps207
  go_wp2_with fail
  refine HPS.out.mono ?_
  rintro e w2 ⟨vp,rfl,hx2,h2⟩
  obtain ⟨po,pg,pcap,rfl,r1,r2,r3,-,-,-,-⟩:=li 0 h2 rfl
  clear HPS H r3
  generalize hq : yK fn nn = ps at *
  have HQ:=zh hq
  clear hq
  have h3:=lE (shL b A F) h2
  clear h2
  go_wp2_with fail
  go_loopw [28] (fun iv wr=>∃(k : Nat) (p1 : List Part) (F' : ShM),k <= nn /\ p1.length + (nn - k) <= nn /\ iv = .int .i64 p1.length /\ ps = p1++yK (fn + k) (nn - k) /\ lB (5 * p1.length) F F' /\ oY (AN l fn) (nn - p1.length) F' fn k nn = res /\ Ext w wr /\ own wr (shL b A F'++(row 271 3 (.slice po ps.length pcap) ps.length (ot ps)::R))) (fun iv _=>ps.length - (intOf iv).toNat)
  case atStart=>exact ⟨0,[],F,by omega,by simp,rfl,HQ.out.symm,HRF.out,HRES.out,hx2,h3⟩
  case round=>
   clear h3 hx2
   obtain ⟨k,p1,F',hk,hp1,rfl,hpp,hst,hgo,hxr,hown⟩:=hrel
   by_cases hlt : k < nn
   ·rw [Bx _ (show 0 < nn - k by omega)] at hpp
    have hlen : p1.length < ps.length:=by rw [hpp]; simp
    obtain ⟨d0,d1,d2⟩:=BQ hlen
    have hget : ps.getD p1.length (0,0,0) = ((fn + k) / 4,(fn + k) % 4,min (nn - k) (4 - (fn + k) % 4)):=by rw [hpp]; simp
    rw [hget] at d0 d1 d2
    rw [show nn - p1.length = (nn - p1.length - 1) + 1 by omega,EF _ _ hlt] at hgo
    have hco:=F7 l fn F' k (min (nn - k) (4 - (fn + k) % 4))
    obtain ⟨hok',hl',hcl'⟩:=HSTEP.out F' _ (by omega) hst
    have hst2:=hst.trans (Da hok' l h5 fn k (min (nn - k) (4 - (fn + k) % 4)))
    have hm1 : 1 <= min (nn - k) (4 - (fn + k) % 4):=by omega
    have hm2 : min (nn - k) (4 - (fn + k) % 4) <= nn - k:=by omega
    have hm3 : (fn + k) % 4 + min (nn - k) (4 - (fn + k) % 4) <= 4:=by omega
    have hqc : (((fn + k) / 4 : Nat) : Int) < clus F' (l.getD 0 0):=by rw [hcl']; have:=HCL.out; omega
    have hfq : (fn + k) / 4 <= 32:=by omega
    have hfm : (fn + k) % 4 < 4:=by omega
    have hwa : AN l fn F' k (min (nn - k) (4 - (fn + k) % 4)) = if min (nn - k) (4 - (fn + k) % 4) = 4 then AH F' l ((fn + k) / 4) else if Gn F' l ((fn + k) / 4)≠1 then layM F' l ((fn + k) / 4) ((fn + k) % 4) (zs (16 * min (nn - k) (4 - (fn + k) % 4))) else (0,F'):=rfl
    generalize min (nn - k) (4 - (fn + k) % 4) = mm at *
    have hlay:=HLAY.out F' hok' hl' ((fn + k) / 4) ((fn + k) % 4) mm hqc hm3 (zs (16 * mm)) (y7 _)
    generalize AN l fn F' k mm = r at *
    obtain ⟨m,hk5,hFk,hx⟩:=Er hl' HP0.out
    have htc:=Fz hl' HP0.out (Int.natCast_nonneg ((fn + k) / 4)) hqc
    rw [hx,Cm hFk] at htc
    rw [Mn hFk,OP hFk] at hwa
    generalize (fn + k) / 4 = q at *
    generalize (fn + k) % 4 = fm at *
    generalize topI l = t0 at *
    have HKI:=zh (fun (R : List SL.HP) (w : World) (H : own w (shL b A F'++R))=>D4 hk5 hFk (hok'.ok t0 m hk5 hFk) (q : Int) htc R w H)
    have hclr:=fun (R : List SL.HP) (w : World) (H : own w (shL b A F'++R))=>GD hk5 hFk hok' (q : Int) R w H
    have i1 : (0 : Int) <= (t0 : Int):=by omega
    have i2 : (t0 : Int) < 5:=by omega
    have u1:=Fv (zs 64) ((mm : Int) * 16) (16 * mm) (by omega) (by rw [y7]; omega)
    rw [LC (by omega)] at u1
    have U1:=zh u1
    have e1 : IntKind.i64.wrap ((mm : Int) * 16) = (mm : Int) * 16:=zi _ (by omega)
    obtain ⟨po',pg',pcap',hv',-,-,r3',-,-,-,-⟩:=li 6 hown rfl
    simp only [Value.slice.injEq,true_and] at hv'
    obtain ⟨rfl,rfl⟩:=hv'
    obtain rfl:=r3' (by omega)
    obtain ⟨k2,-⟩:=lZ 6 hown rfl
    have c0:=k2 _ _ d0
    have c1:=k2 _ _ d1
    have c2:=k2 _ _ d2
    have HPP:=zh hpp
    have HST:=zh hst2
    have HFK:=zh hFk
    have HWA:=zh hwa
    have HGO:=zh hgo
    have HLAY2:=zh hlay
    have HCLR:=zh hclr
    clear k2 d0 d1 d2 r3' hget hpp hst2 hst u1 hclr hlay hwa hFk hgo htc hqc hcl' hl' hok' hx
    go_upto_region 7 with (fail)
    have ha:=lE (shL b A F') (lf hown (.cells #[.int .i64 (q : Int),.int .i64 (fm : Int),.int .i64 (mm : Int)] 271))
    have hxa:=hxr.alloc (.cells #[.int .i64 (q : Int),.int .i64 (fm : Int),.int .i64 (mm : Int)] 271)
    clear c0 c1 c2 hown hxr
    generalize wr.heap.size = gx at *
    generalize wr.alloc (.cells #[.int .i64 (q : Int),.int .i64 (fm : Int),.int .i64 (mm : Int)] 271) = wa at *
    obtain ⟨cc,-⟩:=la 6 ha rfl
    have c0:=cc 0
    have g1 : wa.cell? ⟨lb,off,none⟩ = some (.int .i64 (l.getD 0 0)):=yh (yi HV.out [_,_] _ (shL b A F') ha) hpos
    rw [HX0.out] at g1
    have g2:=l4 ha hk5
    rw [lJ HFK.out] at g2
    have HOW:=zh ha
    clear cc
    go_quiet ((go_at_call 151; exact Calls.quiet_of_same ((HKI.out _ _ (by first | exact HOW.out | exact lh HOW.out | exact lH _ HOW.out)).mono fun e w' h=>⟨h.1,h.2.symm⟩)))
    have hb:=lH nq ha
    have hxb:=hxa.drewN nq
    clear ha hxa c0 g1 g2 HOW
    generalize wa.drewN nq = wb at *
    obtain ⟨cc,-⟩:=la 6 hb rfl
    have c0:=cc 0
    have c1:=cc 1
    have c2:=cc 2
    clear cc
    by_cases h4 : mm = 4
    ·subst h4
     have t4 : (((4 : Nat) : Int) == 4) = true:=rfl
     have hr : r = ((m.clear (q : Int)).1,put F' t0 (m.clear (q : Int)).2):=by rw [HWA.out,zt rfl]
     have hra : (m.clear (q : Int)).1 = r.1:=by rw [hr]
     have hrb : put F' t0 (m.clear (q : Int)).2 = r.2:=by rw [hr]
     rw [hra,hrb] at HCLR
     clear hr hra hrb HWA
     by_cases hr0 : r.1 = 0
     ·have hg:=HGO.out
      rw [zq (by rw [hr0]; decide)] at hg
      have hl3:=HCLR.out
      rw [hr0,lR] at hl3
      have HL:=zh hl3
      have HG:=zh hg
      clear hl3 hg hr0 hco
      go_upto_region 10 with (fail)
      have g1 : wb.cell? ⟨lb,off,none⟩ = some (.int .i64 (l.getD 0 0)):=yh (yi HV.out [_,_] _ (shL b A F') hb) hpos
      rw [HX0.out] at g1
      have g2:=l4 hb hk5
      rw [lJ HFK.out] at g2
      go_still_tail 9,(by kernel_rfl)
      change wpList _ _ _ _ _ wb.drew
      go_wp2_with fail
      refine (HL.out _ _ (lh hb)).mono ?_
      rintro e w5 ⟨rfl,hx5,h5'⟩
      have hx6:=hxb.drew.trans hx5
      go_wp2_with fail
      go_roundw
      case rel=>
       refine ⟨k + 4,p1++[(q,fm,4)],_,by omega,by simp; omega,by simp,?_,?_,?_,hx6,le 6 h5' rfl⟩
       ·rw [HPP.out,zp,show fn + (k + 4) = fn + k + 4 by omega,show nn - (k + 4) = nn - k - 4 by omega]; rfl
       ·rw [List.length_append]; exact HST.out.mono (by simp; omega)
       ·rw [<- HG.out,List.length_append]; rfl
      case measure=>simp [intOf]; omega
     ·have hg:=HGO.out
      rw [zt hr0] at hg
      subst hg
      have hep:=lu (e:=r.1) (by omega)
      have hl3:=HCLR.out
      rw [hep] at hl3
      have HEP:=zh hep
      have HL:=zh hl3
      clear hl3 hep HRES hr0 hco
      go_upto_region 10 with (fail)
      have g1 : wb.cell? ⟨lb,off,none⟩ = some (.int .i64 (l.getD 0 0)):=yh (yi HV.out [_,_] _ (shL b A F') hb) hpos
      rw [HX0.out] at g1
      have g2:=l4 hb hk5
      rw [lJ HFK.out] at g2
      go_still_tail 9,(by kernel_rfl)
      change wpList _ _ _ _ _ wb.drew
      go_wp2_with fail
      refine (HL.out _ _ (lh hb)).mono ?_
      rintro e w5 ⟨rfl,hx5,h5'⟩
      have hx6:=hxb.drew.trans hx5
      go_wp2_with fail
      go_ret
      exact ⟨by rw [HEP.out]; rfl,hx6,le 6 (le 6 h5' rfl) rfl⟩
    ·have t4 : ((mm : Int) == 4) = false:=by rw [zb]; omega
     by_cases hk1 : m.kind (q : Int) = 1
     ·have hr : r = (0,F'):=by rw [HWA.out,zq h4,zq (by simpa using hk1)]
      subst hr
      have t1 : (m.kind (q : Int) != 1) = false:=by simp [hk1]
      have hg:=HGO.out
      rw [zq (by simp)] at hg
      have HG:=zh hg
      clear h4 hk1 hg hco
      go_wp2_with fail
      go_roundw
      case rel=>
       refine ⟨k + mm,p1++[(q,fm,mm)],_,by omega,by simp; omega,by simp,?_,?_,?_,hxb,le 6 hb rfl⟩
       ·rw [HPP.out,zp,show fn + (k + mm) = fn + k + mm by omega,show nn - (k + mm) = nn - k - mm by omega]; rfl
       ·rw [List.length_append]; exact HST.out.mono (by simp; omega)
       ·rw [<- HG.out,List.length_append]; rfl
      case measure=>simp [intOf]; omega
     ·have hr : r = layM F' l q fm (zs (16 * mm)):=by rw [HWA.out,zq h4,zt hk1]
      rw [<- hr] at HLAY2
      have t1 : (m.kind (q : Int) != 1) = true:=by simp [hk1]
      clear hr HWA
      by_cases hr0 : r.1 = 0
      ·have hg:=HGO.out
       rw [zq (by rw [hr0]; decide)] at hg
       have hl3:=HLAY2.out
       rw [hr0,lR] at hl3
       have HL:=zh hl3
       have HG:=zh hg
       clear hl3 hg hr0 hco h4 hk1
       go_upto_region 12 with (fail)
       have u1:=U1.out
       rw [Jf] at u1
       go_still_tail 7,(by kernel_rfl)
       change wpList _ _ _ _ _ wb.drew
       go_wp2_with fail
       refine (HL.out _ _ (yi HV.out [_,_]) (lh hb)).mono ?_
       rintro e w5 ⟨rfl,hx5,h5'⟩
       have hx6:=hxb.drew.trans hx5
       go_wp2_with fail
       go_roundw
       case rel=>
        refine ⟨k + mm,p1++[(q,fm,mm)],_,by omega,by simp; omega,by simp,?_,?_,?_,hx6,le 6 h5' rfl⟩
        ·rw [HPP.out,zp,show fn + (k + mm) = fn + k + mm by omega,show nn - (k + mm) = nn - k - mm by omega]; rfl
        ·rw [List.length_append]; exact HST.out.mono (by simp; omega)
        ·rw [<- HG.out,List.length_append]; rfl
       case measure=>simp [intOf]; omega
      ·have hg:=HGO.out
       rw [zt hr0] at hg
       subst hg
       have hep:=lu (e:=r.1) (by omega)
       have hl3:=HLAY2.out
       rw [hep] at hl3
       have HEP:=zh hep
       have HL:=zh hl3
       clear hl3 hep HRES hr0 hco h4 hk1
       go_upto_region 12 with (fail)
       have u1:=U1.out
       rw [Jf] at u1
       go_still_tail 7,(by kernel_rfl)
       change wpList _ _ _ _ _ wb.drew
       go_wp2_with fail
       refine (HL.out _ _ (yi HV.out [_,_]) (lh hb)).mono ?_
       rintro e w5 ⟨rfl,hx5,h5'⟩
       have hx6:=hxb.drew.trans hx5
       go_wp2_with fail
       go_ret
       exact ⟨by rw [HEP.out]; rfl,hx6,le 6 (le 6 h5' rfl) rfl⟩
   ·obtain rfl : k = nn:=by omega
    rw [ET] at hgo
    rw [Nat.sub_self,BA,List.append_nil] at hpp
    subst hgo hpp
    go_wp2_with fail
    go_ret
    exact ⟨rfl,hxr,le 6 hown rfl⟩
 ·have eg : yQ F l fr n = (lK F l fr n,F):=by unfold yQ; rw [zt hw]
  have ep : yX F l fr n = []:=by unfold yX; rw [zq hw]
  have hc:=Ah F l fr n
  rw [eg]
  rw [ep] at HPS
  generalize lK F l fr n = res at *
  have hep:=lu (e:=res) (by omega)
  dsimp only
  rw [hep] at HPS ⊢
  clear hw eg ep hc hfr hn hep
  go_enter Tryz.func207,Tryz.ntmps207
  go_wp2_with fail
  refine HPS.out.mono ?_
  rintro e w2 ⟨vp,rfl,hx2,h2⟩
  go_wp2_with fail
  go_ret
  exact ⟨rfl,hx2,lg h2⟩

theorem Iv : (zs 64).toList = [0,0,0,0,0,0,0,0,0,0,0,0,0,0,0,0,0,0,0,0,0,0,0,0,0,0,0,0,0,0,0,0,0,0,0,0,0,0,0,0,0,0,0,0,0,0,0,0,0,0,0,0,0,0,0,0,0,0,0,0,0,0,0,0]:=by rw [ByteArray.toList_eq]; rfl
theorem N4 {s z : ByteArray} (h : s = z) : (s.toList == z.toList) = true:=by rw [h]; simp
theorem Mp {s z : ByteArray} (h : ¬s = z) : (s.toList == z.toList) = false:=by
 rw [zb]
 exact fun e=>h (FZ e)
theorem MN (b : Nat) (A : Nat -> Nat×Nat×Nat) (F : ShM) (hF : ShOk F) (k : Nat) (m : ImgM) (hk : k < 5) (hFk : F k = some m) (c : Int) (s : ByteArray) (hs : s.size <= 3200) (R : List SL.HP) (w : World) (H : own w (shL b A F++R)) :
  Calls Tryz.prog 231 #[.pointer (some ⟨b,0,none⟩),.int .i64 k,.int .i64 c,.string s] w fun e w'=>e = .returned (errV (yk F k c s).1) /\ Ext w w' /\ own w' (shL b A (yk F k c s).2++R):=by
 have e0 : yk F k c s = if s = zs 64 then ((m.clear c).1,put F k (m.clear c).2) else if m.there c = false then (1,F) else if m.kind c = 2 then ((m.wr c 0 s).1,put F k (m.wr c 0 s).2) else ((m.fill c s).1,put F k (m.fill c s).2):=by unfold yk; rw [hFk]
 rw [e0]
 have cell:=l4 H hk
 rw [lJ hFk] at cell
 have i1 : (0 : Int) <= (k : Int):=by omega
 have i2 : (k : Int) < 5:=by omega
 by_cases hz : s = zs 64
 ·rw [zt hz]
  have HC:=zh (GD hk hFk hF c R w H)
  have hq:=N4 hz
  rw [Iv] at hq
  clear hz e0 hF hFk
  go_enter Tryz.func231,Tryz.ntmps231
  go_wp2_with fail
  refine HC.out.mono ?_
  rintro e w5 ⟨rfl,hx5,h5⟩
  go_wp2_with fail
  go_ret
  exact ⟨rfl,hx5,h5⟩
 ·rw [zq hz]
  have hq:=Mp hz
  rw [Iv] at hq
  have HZ:=zh hz
  clear hz e0
  cases ht : m.there c
  ·rw [zt rfl]
   have HK:=zh (KF hk hFk (hF.ok k m hk hFk) c ht R w H)
   clear hF hFk ht
   go_enter Tryz.func231,Tryz.ntmps231
   go_wp2_with fail
   refine HK.out.mono ?_
   rintro e w5 ⟨rfl,rfl⟩
   go_wp2_with fail
   go_ret
   exact ⟨rfl,zR _,H⟩
  ·rw [zq (by decide)]
   have HK:=zh (D4 hk hFk (hF.ok k m hk hFk) c ht R w H)
   by_cases h2 : m.kind c = 2
   ·rw [zt h2]
    rw [h2] at HK
    have HW:=zh (FV hk hFk hF c 0 ⟨by omega,by omega⟩ s (by omega) R w H)
    clear hF hFk ht h2
    go_enter Tryz.func231,Tryz.ntmps231
    go_wp2_with fail
    refine HK.out.mono ?_
    rintro e w5 ⟨rfl,rfl⟩
    go_wp2_with fail
    refine HW.out.mono ?_
    rintro e w6 ⟨rfl,hx6,h6⟩
    go_wp2_with fail
    go_ret
    exact ⟨rfl,hx6,h6⟩
   ·rw [zq h2]
    have t2 : (m.kind c == 2) = false:=zb.2 h2
    have HW:=zh (Ie hk hFk hF c s (by omega) R w H)
    clear hF hFk ht h2
    go_enter Tryz.func231,Tryz.ntmps231
    go_wp2_with fail
    refine HK.out.mono ?_
    rintro e w5 ⟨rfl,rfl⟩
    go_wp2_with fail
    refine HW.out.mono ?_
    rintro e w6 ⟨rfl,hx6,h6⟩
    go_wp2_with fail
    go_ret
    exact ⟨rfl,hx6,h6⟩
theorem B9 (n : Nat) (h : n < 2 ^ 64) : IntKind.u64.wrap (n : Int) = (n : Int):=by rw [IntKind.wrap_u64]; omega
theorem Fx (a b : Nat) (ha : a < 9223372036854775808) (hb : b < 9223372036854775808) : bits .and .i64 (a : Int) (b : Int) = ((a &&& b : Nat) : Int):=by
 have hx : a &&& b < 2 ^ 63:=Nat.and_lt_two_pow _ (by omega)
 have h1 : (BitVec.ofInt 64 (a : Int)).toNat = a:=by
  rw [BitVec.ofInt_natCast,BitVec.toNat_ofNat]; exact Nat.mod_eq_of_lt (by omega)
 have h2 : (BitVec.ofInt 64 (b : Int)).toNat = b:=by
  rw [BitVec.ofInt_natCast,BitVec.toNat_ofNat]; exact Nat.mod_eq_of_lt (by omega)
 show IntKind.i64.wrap ((BitVec.ofInt 64 (a : Int) &&& BitVec.ofInt 64 (b : Int)).toNat : Int) = _
 rw [BitVec.toNat_and,h1,h2]
 exact zi _ (by omega)
theorem PX (n : Nat) : n &&& 127 = n % 128:=Nat.and_two_pow_sub_one_eq_mod n 7
theorem OC (x : Nat) (hx : x < 2 ^ 64) (w : World) : Calls Tryz.prog 188 #[.int .u64 x] w fun e w'=>e = .returned (.int .i64 (Ones.popc 64 x : Nat)) /\ w = w':=by
 obtain ⟨y1,y2,y3,h1,h2,h3,h4,h5,h6,h7,h8,h9,h10⟩:=Ones.ones_all hx
 go_enter Tryz.func188,Tryz.ntmps188
 have E1 : IntKind.u64.wrap (bits BinOp.and IntKind.u64 ((x : Int) / 2) 6148914691236517205 + bits BinOp.and IntKind.u64 (x : Int) 6148914691236517205) = ((Ones.s1 x : Nat) : Int):=by
  have a1:=bits_and_u64_nat (x / 2) 6148914691236517205 (by omega) (by omega)
  have a2:=bits_and_u64_nat x 6148914691236517205 (by omega) (by omega)
  rw [show ((x : Int) / 2) = ((x / 2 : Nat) : Int) by omega,show (6148914691236517205 : Int) = ((6148914691236517205 : Nat) : Int) from rfl,a1,a2,<- Int.natCast_add]
  exact B9 _ h8
 have E2 : IntKind.u64.wrap (bits BinOp.and IntKind.u64 (((Ones.s1 x : Nat) : Int) / 4) 3689348814741910323 + bits BinOp.and IntKind.u64 ((Ones.s1 x : Nat) : Int) 3689348814741910323) = ((Ones.s2 (Ones.s1 x) : Nat) : Int):=by
  have a1:=bits_and_u64_nat (Ones.s1 x / 4) 3689348814741910323 (by omega) (by omega)
  have a2:=bits_and_u64_nat (Ones.s1 x) 3689348814741910323 (by omega) (by omega)
  rw [show (((Ones.s1 x : Nat) : Int) / 4) = ((Ones.s1 x / 4 : Nat) : Int) by omega,show (3689348814741910323 : Int) = ((3689348814741910323 : Nat) : Int) from rfl,a1,a2,<- Int.natCast_add]
  exact B9 _ h9
 have E3a : IntKind.u64.wrap (((Ones.s2 (Ones.s1 x) : Nat) : Int) / 16 + ((Ones.s2 (Ones.s1 x) : Nat) : Int)) = ((Ones.s2 (Ones.s1 x) : Nat) : Int) / 16 + ((Ones.s2 (Ones.s1 x) : Nat) : Int):=by
  rw [show (((Ones.s2 (Ones.s1 x) : Nat) : Int) / 16 + ((Ones.s2 (Ones.s1 x) : Nat) : Int)) = ((Ones.s2 (Ones.s1 x) / 16 + Ones.s2 (Ones.s1 x) : Nat) : Int) by omega]
  exact B9 _ h10
 have E3 : bits BinOp.and IntKind.u64 (((Ones.s2 (Ones.s1 x) : Nat) : Int) / 16 + ((Ones.s2 (Ones.s1 x) : Nat) : Int)) 1085102592571150095 = ((Ones.s3 (Ones.s2 (Ones.s1 x)) : Nat) : Int):=by
  rw [show (((Ones.s2 (Ones.s1 x) : Nat) : Int) / 16 + ((Ones.s2 (Ones.s1 x) : Nat) : Int)) = ((Ones.s2 (Ones.s1 x) / 16 + Ones.s2 (Ones.s1 x) : Nat) : Int) by omega]
  exact bits_and_u64_nat _ 1085102592571150095 h10 (by omega)
 have E4 : IntKind.u64.wrap (((Ones.s3 (Ones.s2 (Ones.s1 x)) : Nat) : Int) + ((Ones.s3 (Ones.s2 (Ones.s1 x)) : Nat) : Int) / 256) = (y1 : Int):=by
  rw [show (((Ones.s3 (Ones.s2 (Ones.s1 x)) : Nat) : Int) + ((Ones.s3 (Ones.s2 (Ones.s1 x)) : Nat) : Int) / 256) = (y1 : Int) by omega]
  exact B9 _ h5
 have E5 : IntKind.u64.wrap ((y1 : Int) + (y1 : Int) / 65536) = (y2 : Int):=by
  rw [show ((y1 : Int) + (y1 : Int) / 65536) = (y2 : Int) by omega]
  exact B9 _ h6
 have E6 : IntKind.u64.wrap ((y2 : Int) + (y2 : Int) / 4294967296) = (y3 : Int):=by
  rw [show ((y2 : Int) + (y2 : Int) / 4294967296) = (y3 : Int) by omega]
  exact B9 _ (by omega)
 have E7 : bits BinOp.and IntKind.i64 (y3 : Int) 127 = ((Ones.popc 64 x : Nat) : Int):=by
  rw [show (127 : Int) = ((127 : Nat) : Int) from rfl,Fx _ _ h7 (by omega),PX,h4]
 generalize Ones.s3 (Ones.s2 (Ones.s1 x)) = z3 at *
 generalize Ones.s2 (Ones.s1 x) = z2 at *
 generalize Ones.s1 x = z1 at *
 have H7:=zh h7
 clear h1 h2 h3 h4 h5 h6 h8 h9 h10
 have b1 : (0 : Int) <= (y3 : Int):=by omega
 have b2 : (y3 : Int) <= 9223372036854775807:=by have:=H7.out; omega
 go_wp2_with fail
 go_ret
 exact ⟨rfl,rfl⟩
def Ac (w : World) : Prop:=∀j,j < 64 -> w.cell? ⟨0,j,none⟩ = some (.int .u8 ((Lib.deBruijn64tab.getD j 0 : Nat) : Int))
theorem Ac.later {w w' : World} {L : List SL.HP} (h : Ac w) (k : Nat) (H : own w' L) (hk : L[k]? = some (yq w)) : Ac w':=fun j hj=>oQ k H hk (h j hj)
theorem C8 (x : Nat) (h0 : x≠0) (hx : x < 2 ^ 64) : ∃pw idx : Nat,idx < 64 /\ x &&& (2 ^ 64 - x) = pw /\ pw * 285870213051353865 % 18446744073709551616 / 288230376151711744 = idx /\ Lib.deBruijn64tab.getD idx 0 = Lib.ctz 64 x /\ Lib.ctz 64 x < 64:=by
 obtain ⟨hlow,hk⟩:=Lib.lowest_bit 64 x h0 hx
 obtain ⟨hi,htab⟩:=Lib.deBruijn64_at _ hk
 exact ⟨_,_,hi,hlow,rfl,htab,hk⟩
theorem NB (x : Nat) (hx : x < 2 ^ 64) (h0 : x≠0) (w : World) (hT : Ac w) : Calls Tryz.prog 230 #[.int .u64 x] w fun e w'=>e = .returned (.int .i64 (Lib.ctz 64 x : Nat)) /\ w = w':=by
 obtain ⟨pw,idx,hi,hlow,hix,htab,hk⟩:=C8 x h0 hx
 have hcell:=hT _ hi
 rw [htab] at hcell
 generalize Lib.ctz 64 x = k at *
 have e1 : IntKind.u64.wrap (-(x : Int)) = ((18446744073709551616 - x : Nat) : Int):=by rw [IntKind.wrap_u64]; omega
 have E1 : bits BinOp.and IntKind.u64 (x : Int) (IntKind.u64.wrap (-(x : Int))) = (pw : Int):=by
  rw [e1,bits_and_u64_nat x _ hx (by omega)]
  exact congrArg _ hlow
 have E2 : IntKind.u64.wrap ((pw : Int) * 285870213051353865) / 288230376151711744 = (idx : Int):=by
  rw [IntKind.wrap_u64,<- hix,Int.natCast_ediv,Int.natCast_emod,Int.natCast_mul]
  rfl
 have w1 : ((x : Int) == 0) = false:=by rw [zb]; omega
 have w2 : (0 : Int) <= (idx : Int):=by omega
 have w3 : (idx : Int) < 64:=by omega
 clear e1 htab hlow hT hix
 go_enter Tryz.func230,Tryz.ntmps230
 go_wp2_with fail
 go_ret
 exact ⟨rfl,rfl⟩
theorem GV (w i : Nat) : (w : Int) / 2 ^ i = ((w / 2 ^ i : Nat) : Int):=by rw [Int.natCast_ediv,Int.natCast_pow]; rfl
theorem Oh (w i : Nat) (h : w < 2 ^ 64) : bits BinOp.and IntKind.u64 ((w : Int) / 2 ^ i) 1 = ((w / 2 ^ i % 2 : Nat) : Int):=by
 rw [GV]
 have hd : w / 2 ^ i < 2 ^ 64:=Nat.lt_of_le_of_lt (Nat.div_le_self _ _) h
 rw [show (1 : Int) = ((1 : Nat) : Int) from rfl,bits_and_u64_nat _ 1 hd (by omega),Ones.and1]
theorem Bt (w i : Nat) : w.testBit i = decide (w / 2 ^ i % 2 = 1):=by
 rw [Nat.testBit_eq_decide_div_mod_eq]
def BN (b n x : Nat) : SL.HP:=pts b (.cells #[.int .i64 n,.int .u64 x] 230 (0,0))
theorem Fo {w : World} {l : List SL.HP} {k : Nat} {P : SL.HP} (H : own w l) (hk : l[k]? = some P) : own w (l.set k P):=by
 have : l.set k P = l:=by
  refine List.ext_getElem? fun i=>?_
  rw [List.getElem?_set]
  by_cases h : k = i
  ·subst h; rw [zt rfl,hk]; have:=(zS.1 hk).1; simp [this]
  ·rw [zq h]
 rw [this]; exact H
def hasM (n x : Nat) (i : Int) : Bool:=decide (0 <= i) && decide (i < n) && x.testBit i.toNat
theorem OB (b n x : Nat) (hn : n <= 64) (hx : x < 2 ^ 64) (i : Int) {l : List SL.HP} (k : Nat) (w : World) (H : own w l) (hk : l[k]? = some (BN b n x)) :
  Calls Tryz.prog 177 #[.pointer (some ⟨b,0,none⟩),.int .i64 i] w fun e w'=>e = .returned (.bool (hasM n x i)) /\ w = w':=by
 obtain ⟨c,-⟩:=la k H hk
 have c0:=c 0
 have c1:=c 1
 clear c
 by_cases h0 : i < 0
 ·have d0 : decide (0 <= i) = false:=zf (by omega)
  have hr : hasM n x i = false:=by simp [hasM,d0]
  rw [hr]
  clear hr h0
  go_enter Tryz.func177,Tryz.ntmps177
  go_wp2_with fail
  go_ret
  exact ⟨rfl,rfl⟩
 ·obtain ⟨j,rfl⟩:=ze (show 0 <= i by omega)
  have d0 : decide (0 <= (j : Int)) = true:=zg (by omega)
  by_cases h1 : j < n
  ·have d1 : decide ((j : Int) < (n : Int)) = true:=zg (by omega)
   have hr : hasM n x (j : Int) = x.testBit j:=by simp [hasM,h1]
   rw [hr,Bt]
   have e1:=Oh x j hx
   have w1 : (j : Int) < 64:=by omega
   have w2 : (0 : Int) <= (j : Int):=by omega
   clear hr h0
   go_enter Tryz.func177,Tryz.ntmps177
   go_wp2_with fail
   go_ret
   exact ⟨zK (by rw [Bool.eq_iff_iff]; simp only [beq_iff_eq,decide_eq_true_eq]; rw [GV]; generalize x / 2 ^ j = q; omega),rfl⟩
  ·have d1 : decide ((j : Int) < (n : Int)) = false:=zf (by omega)
   have hr : hasM n x (j : Int) = false:=by simp [hasM,h1]
   rw [hr]
   clear hr h0
   go_enter Tryz.func177,Tryz.ntmps177
   go_wp2_with fail
   go_ret
   exact ⟨rfl,rfl⟩
def oD (n x : Nat) (i : Int) (b : Bool) : Bool×Nat:=if 0 <= i /\ i < n /\ x.testBit i.toNat≠b then (true,x ^^^ 2 ^ i.toNat) else (false,x)
theorem CR {n x : Nat} (hn : n <= 64) (hx : x < 2 ^ n) (i : Int) (b : Bool) : (oD n x i b).2 < 2 ^ n:=by
 unfold oD
 split
 ·rename_i h
  have hj : i.toNat < n:=by have h1:=h.1; have h2:=h.2.1; omega
  exact Nat.xor_lt_two_pow hx (Nat.pow_lt_pow_right (by decide) hj)
 ·exact hx
theorem lt64 {n x : Nat} (hn : n <= 64) (hx : x < 2 ^ n) : x < 2 ^ 64:=Nat.lt_of_lt_of_le hx (Nat.pow_le_pow_right (by omega) hn)
theorem Bp (b n x : Nat) (hn : n <= 64) (hx : x < 2 ^ n) (i : Int) (v : Bool) {l : List SL.HP} (k : Nat) (w : World) (H : own w l) (hk : l[k]? = some (BN b n x)) :
  Calls Tryz.prog 74 #[.pointer (some ⟨b,0,none⟩),.int .i64 i,.bool v] w fun e w'=>e = .returned (.bool (oD n x i v).1) /\ Ext w w' /\ own w' (l.set k (BN b n (oD n x i v).2)):=by
 have hx64:=lt64 hn hx
 obtain ⟨c,f⟩:=la k H hk
 have c0:=c 0
 have c1:=c 1
 have f1:=f 1
 clear c f
 by_cases h0 : i < 0
 ·have d0 : decide (i < 0) = true:=zg h0
  have hr : oD n x i v = (false,x):=by unfold oD; rw [zq (by omega)]
  rw [hr]
  clear hr h0
  go_enter Tryz.func74,Tryz.ntmps74
  go_wp2_with fail
  go_ret
  exact ⟨rfl,zR _,Fo H hk⟩
 ·obtain ⟨j,rfl⟩:=ze (show 0 <= i by omega)
  have d0 : decide ((j : Int) < 0) = false:=zf (by omega)
  by_cases h1 : j < n
  ·have d1 : decide ((n : Int) <= (j : Int)) = false:=zf (by omega)
   have HH:=zh (OB b n x hn hx64 (j : Int) k w H hk)
   rw [show hasM n x (j : Int) = x.testBit j by simp [hasM,h1]] at HH
   have e0 : oD n x (j : Int) v = if x.testBit j≠v then (true,x ^^^ 2 ^ j) else (false,x):=by
    unfold oD
    by_cases h : x.testBit j≠v
    ·rw [zt ⟨by omega,by omega,h⟩,zt h]; rfl
    ·rw [zq (fun g=>h g.2.2),zq h]
   rw [e0]
   have w1 : (j : Int) < 64:=by omega
   have w2 : (0 : Int) <= (j : Int):=by omega
   have hp : 2 ^ j < 2 ^ 64:=Nat.pow_lt_pow_right (by decide) (by omega)
   have E0 : IntKind.u64.wrap ((2 : Int) ^ j) = ((2 ^ j : Nat) : Int):=by
    rw [show (2 : Int) ^ j = ((2 ^ j : Nat) : Int) by rw [Int.natCast_pow]; rfl]
    exact B9 _ hp
   have E1 : bits BinOp.xor IntKind.u64 (x : Int) (IntKind.u64.wrap ((2 : Int) ^ j)) = ((x ^^^ 2 ^ j : Nat) : Int):=by
    rw [E0]; exact bits_xor_u64_nat x (2 ^ j) hx64 hp
   clear hp E0
   generalize x.testBit j = tb at *
   by_cases ht : tb = v
   ·subst ht
    rw [zq (by simp)]
    have t1 : (tb == tb) = true:=by simp
    clear e0 h0
    go_enter Tryz.func74,Tryz.ntmps74
    go_wp2_with fail
    refine HH.out.mono ?_
    rintro e w' ⟨rfl,rfl⟩
    go_wp2_with fail
    go_ret
    exact ⟨rfl,zR _,Fo H hk⟩
   ·rw [zt ht]
    have t1 : (tb == v) = false:=by rw [zb]; exact ht
    clear e0 h0
    go_enter Tryz.func74,Tryz.ntmps74
    go_wp2_with fail
    refine HH.out.mono ?_
    rintro e w' ⟨rfl,rfl⟩
    go_upto_region 3 with (fail)
    go_still_tail 9,(by kernel_rfl)
    change wpList _ _ _ _ _ w.drew
    have H1:=lh H
    have g1:=(la k H1 hk).2 1
    go_wp2_with fail
    go_ret
    exact ⟨rfl,(zR w).drew.setCell _ _,lt (i:=1) k H1 hk⟩
  ·have d1 : decide ((n : Int) <= (j : Int)) = true:=zg (by omega)
   have hr : oD n x (j : Int) v = (false,x):=by unfold oD; rw [zq (by omega)]
   rw [hr]
   clear hr h0
   go_enter Tryz.func74,Tryz.ntmps74
   go_wp2_with fail
   go_ret
   exact ⟨rfl,zR _,Fo H hk⟩
theorem Jq (n : Nat) (hn : n <= 64) (R : List SL.HP) (w : World) (H : own w R) :
  Calls Tryz.prog 72 #[.int .i64 n] w fun e w'=>∃b,e = .returned (.tuple #[.pointer (some ⟨b,0,none⟩),.nilIface]) /\ Ext w w' /\ own w' (BN b n 0::R):=by
 have w1 : (0 : Int) <= (n : Int):=by omega
 have w2 : (n : Int) <= 64:=by omega
 go_enter Tryz.func72,Tryz.ntmps72
 go_wp2_with fail
 go_ret2
 exact ⟨_,rfl,(zR _).alloc _,lf H _⟩
theorem FF (b n x : Nat) (hx : x < 2 ^ 64) {l : List SL.HP} (k : Nat) (w : World) (H : own w l) (hk : l[k]? = some (BN b n x)) :
  Calls Tryz.prog 88 #[.pointer (some ⟨b,0,none⟩)] w fun e w'=>e = .returned (.int .i64 (Ones.popc 64 x : Nat)) /\ w = w':=by
 obtain ⟨c,-⟩:=la k H hk
 have c1:=c 1
 clear c
 have HO:=zh (OC x hx w)
 go_enter Tryz.func88,Tryz.ntmps88
 go_wp2_with fail
 refine HO.out.mono ?_
 rintro e w' ⟨rfl,rfl⟩
 go_wp2_with fail
 go_ret
 exact ⟨rfl,rfl⟩
def zB (n x : Nat) (fr : Int) : Nat×Bool:=
 if x = 0 then (0,false) else if 0 < fr /\ fr < n /\ x / 2 ^ fr.toNat≠0 then (fr.toNat + Lib.ctz 64 (x / 2 ^ fr.toNat),true) else (Lib.ctz 64 x,true)
theorem NM (b n x : Nat) (hn : n <= 64) (hx : x < 2 ^ 64) (fr : Int) {l : List SL.HP} (k : Nat) (w : World) (hT : Ac w) (H : own w l) (hk : l[k]? = some (BN b n x)) :
  Calls Tryz.prog 148 #[.pointer (some ⟨b,0,none⟩),.int .i64 fr] w fun e w'=>e = .returned (.tuple #[.int .i64 (zB n x fr).1,.bool (zB n x fr).2]) /\ w = w':=by
 have H1:=lh H
 obtain ⟨c,-⟩:=la k H hk
 obtain ⟨d,-⟩:=la k H1 hk
 have c0:=c 0
 have c1:=c 1
 have d0:=d 0
 have d1:=d 1
 clear c d
 by_cases h0 : x = 0
 ·subst h0
  have hr : zB n 0 fr = (0,false):=rfl
  rw [hr]
  clear hr
  go_enter Tryz.func148,Tryz.ntmps148
  go_wp2_with fail
  go_ret2
  exact ⟨rfl,rfl⟩
 ·have z1 : ((x : Int) == 0) = false:=by rw [zb]; omega
  have HZ:=zh (fun w'=>NB x hx h0 w')
  have ha : zB n x fr = if 0 < fr /\ fr < n /\ x / 2 ^ fr.toNat≠0 then (fr.toNat + Lib.ctz 64 (x / 2 ^ fr.toNat),true) else (Lib.ctz 64 x,true):=zq h0
  by_cases h1 : 0 < fr
  ·obtain ⟨j,rfl⟩:=ze (show 0 <= fr by omega)
   have t1 : decide (0 < (j : Int)) = true:=zg h1
   by_cases h2 : j < n
   ·have t2 : decide ((j : Int) < (n : Int)) = true:=zg (by omega)
    have hd : x / 2 ^ j < 2 ^ 64:=Nat.lt_of_le_of_lt (Nat.div_le_self _ _) hx
    have e1:=GV x j
    have w1 : (j : Int) < 64:=by omega
    have w2 : (0 : Int) <= (j : Int):=by omega
    by_cases h3 : x / 2 ^ j = 0
    ·have hr : zB n x (j : Int) = (Lib.ctz 64 x,true):=by rw [ha,zq (fun h=>h.2.2 h3)]
     rw [hr]
     rw [h3] at e1
     clear hr ha
     go_enter Tryz.func148,Tryz.ntmps148
     go_wp2_with fail
     refine (HZ.out _ hT).mono ?_
     rintro e w' ⟨rfl,rfl⟩
     go_wp2_with fail
     go_ret2
     exact ⟨rfl,rfl⟩
    ·have hr : zB n x (j : Int) = (j + Lib.ctz 64 (x / 2 ^ j),true):=by rw [ha,zt ⟨by omega,by omega,h3⟩]; rfl
     rw [hr]
     have HZ2:=zh (fun w'=>NB (x / 2 ^ j) hd h3 w')
     have hz:=(C8 (x / 2 ^ j) h3 hd)
     obtain ⟨-,-,-,-,-,-,hz⟩:=hz
     clear hr ha
     generalize x / 2 ^ j = q at *
     have z2 : ((q : Int) == 0) = false:=by rw [zb]; omega
     generalize Lib.ctz 64 q = t at *
     have w3 : (j : Int) + (t : Int) <= 9223372036854775807:=by omega
     have w4 : (-9223372036854775808 : Int) <= (j : Int) + (t : Int):=by omega
     clear h3 h0
     go_enter Tryz.func148,Tryz.ntmps148
     go_wp2_with fail
     refine (HZ2.out _ hT).mono ?_
     rintro e w' ⟨rfl,rfl⟩
     go_wp2_with fail
     go_ret2
     exact ⟨rfl,rfl⟩
   ·have t2 : decide ((j : Int) < (n : Int)) = false:=zf (by omega)
    have hr : zB n x (j : Int) = (Lib.ctz 64 x,true):=by rw [ha,zq (by omega)]
    rw [hr]
    clear hr ha
    go_enter Tryz.func148,Tryz.ntmps148
    go_wp2_with fail
    refine (HZ.out _ hT).mono ?_
    rintro e w' ⟨rfl,rfl⟩
    go_wp2_with fail
    go_ret2
    exact ⟨rfl,rfl⟩
  ·have t1 : decide (0 < fr) = false:=zf h1
   have hr : zB n x fr = (Lib.ctz 64 x,true):=by rw [ha,zq (by omega)]
   rw [hr]
   clear hr ha
   go_enter Tryz.func148,Tryz.ntmps148
   go_wp2_with fail
   refine (HZ.out _ hT).mono ?_
   rintro e w' ⟨rfl,rfl⟩
   go_wp2_with fail
   go_ret2
   exact ⟨rfl,rfl⟩
structure Eo (w : World) (b o n x : Nat) : Prop where
 n : w.cell? ⟨b,o,none⟩ = some (.int .i64 n)
 at_ : ∀i,i < 64 -> w.cell? ⟨b,o + 1 + i,none⟩ = some (.bool (x.testBit i))
theorem Eo.drew {w : World} {b o n x : Nat} (h : Eo w b o n x) : Eo w.drew b o n x:=⟨h.n,h.at_⟩
theorem Eo.drewN {w : World} {b o n x : Nat} (k : Nat) (h : Eo w b o n x) : Eo (w.drewN k) b o n x:=⟨h.n,h.at_⟩
theorem Ps (x j i : Nat) (hj : i < 64) : (x ^^^ 2 ^ j).testBit i = if i = j then !x.testBit j else x.testBit i:=by
 rw [Nat.testBit_xor,Nat.testBit_two_pow]
 by_cases h : i = j
 ·subst h; simp
 ·have : ¬j = i:=fun e=>h e.symm
  simp [h,this]
theorem Ig {n x : Nat} {i : Int} {v : Bool} {q : Nat} (hq : q < 64) (h : (oD n x i v).1 = true) : (oD n x i v).2.testBit q = if q = i.toNat then v else x.testBit q:=by
 unfold oD at h ⊢
 split at h
 ·rename_i hc
  rw [zt hc]
  show (x ^^^ 2 ^ i.toNat).testBit q = _
  rw [Ps _ _ _ hq]
  have:=hc.2.2
  split
  ·revert this; cases x.testBit i.toNat <;> cases v <;> simp
  ·rfl
 ·cases h
theorem LT : ∀{q f x : Nat},q < f -> x.testBit q = true -> (∀r,r < q -> x.testBit r = false) -> Lib.ctzFrom f x = q:=by
 intro q
 induction q with
 | zero=>
  intro f x hf h _
  obtain ⟨f,rfl⟩ : ∃k,f = k + 1:=⟨f - 1,by omega⟩
  rw [Lib.ctzFrom,zt (by rw [Bt] at h; simpa using h)]
 | succ q ih=>
  intro f x hf h hr
  obtain ⟨f,rfl⟩ : ∃k,f = k + 1:=⟨f - 1,by omega⟩
  have h0:=hr 0 (by omega)
  rw [Bt] at h0
  rw [Lib.ctzFrom,zq (by simpa using h0),ih (by omega) (by rw [Nat.testBit_div_two]; exact h) (fun r hrq=>by rw [Nat.testBit_div_two]; exact hr (r + 1) (by omega))]
  omega
theorem Nd {q x : Nat} (hq : q < 64) (h : x.testBit q = true) (hr : ∀r,r < q -> x.testBit r = false) : Lib.ctz 64 x = q:=by
 have h0 : x≠0:=by rintro rfl; simp at h
 rw [Lib.ctz,zq h0]
 exact LT hq h hr
theorem Py {n x : Nat} (hx : x < 2 ^ n) {k : Nat} (h : ∀r,k <= r -> r < n -> x.testBit r = false) : x / 2 ^ k = 0:=by
 refine Nat.eq_of_testBit_eq fun i=>?_
 rw [Nat.zero_testBit,Nat.testBit_div_two_pow]
 by_cases hi : i + k < n
 ·exact h _ (by omega) hi
 ·exact Nat.testBit_lt_two_pow (Nat.lt_of_lt_of_le hx (Nat.pow_le_pow_right (by decide) (by omega)))
end Go.Proofs.YtbpblokfiajpjabGreatDoor
namespace Go.Proofs.YtbpblokfiajpjabGreatDoor
open Go.RowKit Go.SL
def yI (b : Nat) (r u l : Int) : HP:=pts b (.cells #[.int .i64 r,.int .i64 u,.int .i64 l] 227 (0,0))
theorem Kr (b : Nat) (r u l n : Int) (R : List HP) (w : World) (hl2 : l <= 1000) (H : own w (yI b r u l::R)) :
 Calls Tryz.prog 149 #[.pointer (some ⟨b,0,none⟩),.int .i64 n] w fun e w'=>e = .returned (.bool (decide (0 <= n /\ n <= l))) /\ Ext w w' /\ own w' (yI b r u (if 0 <= n /\ n <= l then l - n else l)::R):=by
 obtain ⟨c,f⟩:=la 0 H rfl
 by_cases h : 0 <= n /\ n <= l
 ·simp only [h,and_self,decide_true,if_true]
  obtain ⟨h1,h2⟩:=h
  go_enter Tryz.func149,Tryz.ntmps149
  go_wp2
  go_ret
  exact ⟨rfl,(zR _).setCell _ _,lt 0 H rfl⟩
 ·simp only [h,decide_false,if_false]
  go_enter Tryz.func149,Tryz.ntmps149
  go_wp2
  all_goals go_ret
  all_goals exact ⟨rfl,zR _,H⟩
theorem Qf (n r : Int) (hn : 0 <= n) (hn2 : n <= 100000) (hr : 0 <= r) (hr2 : r <= 1000) : 0 <= n * r /\ n * r <= 100000000:=by
 have:=Int.mul_le_mul hn2 hr2 hr (by omega)
 exact ⟨Int.mul_nonneg hn hr,by omega⟩
theorem Kz (b : Nat) (r u l n : Int) (R : List HP) (w : World) (H : own w (yI b r u l::R)) (hl : 0 <= l) (hl2 : l <= 1000) (hr : 0 <= r) (hr2 : r <= 1000) (hu : u <= 1000) :
 Calls Tryz.prog 185 #[.pointer (some ⟨b,0,none⟩),.int .i64 n] w fun e w'=>e = .returned (errV (if 0 <= n /\ n <= 100000 then 0 else 1)) /\ Ext w w' /\
  own w' (yI b r u (if 0 <= n /\ n <= 100000 then min u (l + n * r) else l)::R):=by
 obtain ⟨c,f⟩:=la 0 H rfl
 by_cases h : 0 <= n /\ n <= 100000
 ·simp only [h,and_self,if_true]
  obtain ⟨hn,hn2⟩:=h
  obtain ⟨hm,hm2⟩:=Qf n r hn hn2 hr hr2
  have e1 : IntKind.i64.wrap (n * r) = n * r:=zi _ (by omega)
  have e2 : IntKind.i64.wrap (l + n * r) = l + n * r:=zi _ (by omega)
  by_cases hmin : l + n * r < u
  ·have hmm : min u (l + n * r) = l + n * r:=by omega
   simp only [hmm]
   go_enter Tryz.func185,Tryz.ntmps185
   go_wp2
   go_still_tail 17,(by kernel_rfl)
   change wpList _ _ _ _ _ w.drew
   go_wp2
   all_goals go_ret
   all_goals exact ⟨rfl,((zR _).setCell _ _).drew,lh (lt 0 H rfl)⟩
  ·have hmm : min u (l + n * r) = u:=by omega
   have hmin' : u <= l + n * r:=by omega
   simp only [hmm]
   go_enter Tryz.func185,Tryz.ntmps185
   go_wp2
   go_still_tail 17,(by kernel_rfl)
   change wpList _ _ _ _ _ w.drew
   go_wp2
   all_goals go_ret
   all_goals exact ⟨rfl,((zR _).setCell _ _).drew,lh (lt 0 H rfl)⟩
 ·simp only [h,if_false]
  go_enter Tryz.func185,Tryz.ntmps185
  go_wp2
  all_goals go_ret
  all_goals exact ⟨rfl,zR _,H⟩
def Aq (r u : Int) : Bool:=decide (0 <= r /\ r <= 1000 /\ 0 <= u /\ u <= 1000)
theorem C1 (r u : Int) (R : List HP) (w : World) (h : Aq r u = true) (H : own w R) :
 Calls Tryz.prog 70 #[.int .i64 r,.int .i64 u] w fun e w'=>e = .returned (.tuple #[.pointer (some ⟨w.heap.size,0,none⟩),.nilIface]) /\ Ext w w' /\ own w' (yI w.heap.size r u u::R):=by
 simp only [Aq,decide_eq_true_eq] at h
 obtain ⟨h1,h2,h3,h4⟩:=h
 go_enter Tryz.func70,Tryz.ntmps70
 go_wp2
 go_ret2
 exact ⟨rfl,(zR _).alloc _,lf H _⟩
theorem I2 (r u : Int) (w : World) (h : Aq r u = false) :
 Calls Tryz.prog 70 #[.int .i64 r,.int .i64 u] w fun e w'=>e = .returned (.tuple #[.pointer none,errV 1]) /\ w = w':=by
 simp only [Aq,decide_eq_false_iff_not] at h
 go_enter Tryz.func70,Tryz.ntmps70
 go_wp2
 all_goals go_ret2
 all_goals exact ⟨rfl,rfl⟩

end Go.Proofs.YtbpblokfiajpjabGreatDoor
namespace Go.Proofs.YtbpblokfiajpjabGreatDoor
open Go.RowKit Go.SL Go.Crc
attribute [local go_sem ↓] Go.wp_at_zero Go.wp_at_succ
def Mb (l n : Int) : Int:=if 0 <= n /\ n <= l then l - n else l
theorem Lc {b : Nat} {r u l n : Int} {L : List SL.HP} (k : Nat) (w : World) (hl2 : l <= 1000) (H : own w L) (hk : L[k]? = some (yI b r u l)) :
  Calls Tryz.prog 149 #[.pointer (some ⟨b,0,none⟩),.int .i64 n] w fun e w'=>e = .returned (.bool (decide (0 <= n /\ n <= l))) /\ Ext w w' /\ own w' (L.set k (yI b r u (Mb l n))):=by
 refine (Kr b r u l n _ w hl2 (lG k H hk)).mono ?_
 rintro e w' ⟨h1,h2,h3⟩
 exact ⟨h1,h2,om H k hk h3⟩
def LV (r u l n : Int) : Int:=min u (l + n * r)
theorem Pg {b : Nat} {r u l n : Int} {L : List SL.HP} (k : Nat) (w : World) (H : own w L) (hk : L[k]? = some (yI b r u l)) (hl : 0 <= l) (hl2 : l <= 1000) (hr : 0 <= r) (hr2 : r <= 1000) (hu : u <= 1000) :
  Calls Tryz.prog 185 #[.pointer (some ⟨b,0,none⟩),.int .i64 n] w fun e w'=>e = .returned (errV (if 0 <= n /\ n <= 100000 then 0 else 1)) /\ Ext w w' /\ own w' (L.set k (yI b r u (if 0 <= n /\ n <= 100000 then LV r u l n else l))):=by
 refine (Kz b r u l n _ w (lG k H hk) hl hl2 hr hr2 hu).mono ?_
 rintro e w' ⟨h1,h2,h3⟩
 exact ⟨h1,h2,om H k hk h3⟩
structure BkAt (C : Array Value) (o : Nat) (r u : Int) : Prop where
 r : C[o]? = some (.int .i64 r)
 u : C[o + 1]? = some (.int .i64 u)
 s : o + 2 < C.size
structure JobM where
 root : Int
 kind : Int
 file : Int
 rate : Int
 burst : Int
 list : List Int
 deep : Nat
 n : Nat
 x : Nat
 at_ : Nat
 st : Int
 level : Int
structure JobM.Ok (j : JobM) : Prop where
 kind : j.kind = 1 \/ j.kind = 2 \/ j.kind = 3
 n : j.n <= 64
 x : j.x < 2 ^ j.n
 len : j.list.length <= 5
 pos : j.list.length≠0
 deep : j.deep <= j.list.length
 rate : 0 <= j.rate /\ j.rate <= 1000
 burst : 0 <= j.burst /\ j.burst <= 1000
 level : 0 <= j.level /\ j.level <= j.burst
 at_ : j.at_ <= 200
 st : 1 <= j.st /\ j.st <= 5
theorem JobM.Ok.x64 {j : JobM} (h : j.Ok) : j.x < 2 ^ 64:=lt64 h.n h.x
def AK (j : JobM) : Nat:=if j.kind = 1 then j.list.length else j.deep
def QH (j : JobM) : Nat:=if j.kind = 1 then 0 else j.deep
def cnt (x : Nat) : Nat:=Ones.popc 64 x
theorem Qa (x : Nat) : cnt x <= 64:=Ones.popc_le 64 x
theorem Ji (x : Nat) : Ones.popc 64 x = cnt x:=rfl
attribute [irreducible] cnt
def jobP (bs bj bt bb : Nat) (v : Value) (j : JobM) : SL.HP:=pts bj (.cells #[.pointer (some ⟨bs,0,none⟩),.int .i64 j.kind,.int .i64 j.file,v,.int .i64 (AK j : Nat),.pointer (some ⟨bt,0,none⟩),.int .i64 (j.at_ : Nat),.int .i64 j.st,.pointer (some ⟨bb,0,none⟩)] 137 (0,0))
def jobL (bs bj bt bb : Nat) (v : Value) (j : JobM) : List SL.HP:=[jobP bs bj bt bb v j,BN bt j.n j.x,yI bb j.rate j.burst j.level]
def y9 (j : JobM) : JobM:=if j.st = 1 /\ cnt j.x = 0 then { j with st:=3 } else if j.st = 3 /\ 0 < cnt j.x then { j with st:=1 } else j
theorem Fj {j : JobM} (h : j.Ok) : (y9 j).Ok:=by
 unfold y9
 split
 ·exact { h with st:=by simp }
 ·split
  ·exact { h with st:=by simp }
  ·exact h
theorem Ai (bs bj bt bb : Nat) (v : Value) (j : JobM) (hj : j.Ok) (L : List SL.HP) (w : World) (H : own w (jobL bs bj bt bb v j++L)) :
  Calls Tryz.prog 76 #[.pointer (some ⟨bj,0,none⟩)] w fun e w'=>e = .returned (.tuple #[]) /\ Ext w w' /\ own w' (jobL bs bj bt bb v (y9 j)++L):=by
 obtain ⟨c,f⟩:=la 0 H rfl
 have c5:=c 5
 have f7:=f 7
 have hs : ∀s : Int,own (w.setCell ⟨bj,7,none⟩ (.int .i64 s)) (jobL bs bj bt bb v { j with st:=s }++L):=fun s=>lt (i:=7) 0 H rfl
 have HC : ∀w',own w' (jobL bs bj bt bb v j++L) -> Calls Tryz.prog 88 #[.pointer (some ⟨bt,0,none⟩)] w' fun e w''=>e = .returned (.int .i64 (cnt j.x : Nat)) /\ w' = w'':=fun w' h=>by have:=FF bt j.n j.x hj.x64 1 w' h rfl; rw [Ji] at this; exact this
 have HC:=zh HC
 have HS:=zh hs
 have HH:=zh H
 have hq:=Qa j.x
 clear hs
 unfold y9
 by_cases h1 : j.st = 1
 ·have c7 : w.cell? ⟨bj,7,none⟩ = some (.int .i64 1):=by rw [<- h1]; exact c 7
  by_cases h0 : cnt j.x = 0
  ·rw [zt ⟨h1,h0⟩]
   rw [h0] at HC
   clear c f h1 h0 hq H
   go_enter Tryz.func76,Tryz.ntmps76
   go_wp2_with fail
   refine (HC.out _ HH.out).mono ?_
   rintro e w' ⟨rfl,rfl⟩
   go_wp2_with fail
   go_end0
   exact ⟨rfl,(zR _).setCell _ _,HS.out 3⟩
  ·rw [zq (fun h=>h0 h.2),zq (by rw [h1]; intro h; exact absurd h.1 (by decide))]
   generalize cnt j.x = q at *
   have d0 : ((q : Int) == 0) = false:=by rw [zb]; omega
   clear c f h1 h0 hq H
   go_enter Tryz.func76,Tryz.ntmps76
   go_wp2_with fail
   refine (HC.out _ HH.out).mono ?_
   rintro e w' ⟨rfl,rfl⟩
   go_wp2_with fail
   go_end0
   exact ⟨rfl,zR _,HH.out⟩
 ·rw [zq (fun h=>h1 h.1)]
  by_cases h3 : j.st = 3
  ·have c7 : w.cell? ⟨bj,7,none⟩ = some (.int .i64 3):=by rw [<- h3]; exact c 7
   by_cases h0 : 0 < cnt j.x
   ·rw [zt ⟨h3,h0⟩]
    generalize cnt j.x = q at *
    have d0 : decide (0 < (q : Int)) = true:=zg (by omega)
    clear c f h1 h3 hq H
    go_enter Tryz.func76,Tryz.ntmps76
    go_wp2_with fail
    refine (HC.out _ HH.out).mono ?_
    rintro e w' ⟨rfl,rfl⟩
    go_wp2_with fail
    go_end0
    exact ⟨rfl,(zR _).setCell _ _,HS.out 1⟩
   ·rw [zq (fun h=>h0 h.2)]
    generalize cnt j.x = q at *
    have d0 : decide (0 < (q : Int)) = false:=zf (by omega)
    clear c f h1 h3 hq H
    go_enter Tryz.func76,Tryz.ntmps76
    go_wp2_with fail
    refine (HC.out _ HH.out).mono ?_
    rintro e w' ⟨rfl,rfl⟩
    go_wp2_with fail
    go_end0
    exact ⟨rfl,zR _,HH.out⟩
  ·rw [zq (fun h=>h3 h.1)]
   have c7:=c 7
   have d1 : (j.st == 1) = false:=by rw [zb]; exact h1
   have d3 : (j.st == 3) = false:=by rw [zb]; exact h3
   clear c f h1 h3 hq H
   go_enter Tryz.func76,Tryz.ntmps76
   go_wp2_with fail
   go_end0
   exact ⟨rfl,zR _,HH.out⟩
theorem DX (bs bj bt bb : Nat) (v : Value) (j : JobM) (L : List SL.HP) (w : World) (H : own w (jobL bs bj bt bb v j++L)) :
  Calls Tryz.prog 21 #[.pointer (some ⟨bj,0,none⟩)] w fun e w'=>e = .returned (.bool (decide (j.st < 4))) /\ w = w':=by
 have c7:=(la 0 H rfl).1 7
 go_enter Tryz.func21,Tryz.ntmps21
 go_wp2_with fail
 go_ret
 exact ⟨rfl,rfl⟩
def endM (j : JobM) (well : Bool) : JobM:={ j with st:=if well then 4 else 5 }
theorem Le {j : JobM} (h : j.Ok) (b : Bool) : (endM j b).Ok:={ h with st:=by cases b <;> simp [endM] }
theorem Jv (bs bj bt bb : Nat) (v : Value) (j : JobM) (well : Bool) (L : List SL.HP) (w : World) (H : own w (jobL bs bj bt bb v j++L)) :
  Calls Tryz.prog 87 #[.pointer (some ⟨bj,0,none⟩),.bool well] w fun e w'=>e = .returned (.tuple #[]) /\ Ext w w' /\ own w' (jobL bs bj bt bb v (endM j well)++L):=by
 have c7:=(la 0 H rfl).1 7
 have f7:=(la 0 H rfl).2 7
 have H1 : own (w.setCell ⟨bj,7,none⟩ (.int .i64 5)) (jobL bs bj bt bb v { j with st:=5 }++L):=lt (i:=7) 0 H rfl
 cases well
 ·go_enter Tryz.func87,Tryz.ntmps87
  go_wp2_with fail
  go_end0
  exact ⟨rfl,(zR _).setCell _ _,H1⟩
 ·have d7:=(la 0 H1 rfl).1 7
  have g7:=(la 0 H1 rfl).2 7
  have H2 : own ((w.setCell ⟨bj,7,none⟩ (.int .i64 5)).setCell ⟨bj,7,none⟩ (.int .i64 4)) (jobL bs bj bt bb v { j with st:=4 }++L):=lt (i:=7) 0 H1 rfl
  go_enter Tryz.func87,Tryz.ntmps87
  go_wp2_with fail
  go_end0
  exact ⟨rfl,((zR _).setCell _ _).setCell _ _,H2⟩
def zM (j : JobM) (n : Int) : JobM:=if 0 <= n /\ n <= 100000 then { j with level:=LV j.rate j.burst j.level n } else j
theorem Ms {j : JobM} (h : j.Ok) (n : Int) : (zM j n).Ok:=by
 unfold zM
 split
 ·rename_i hn
  have:=h.level
  have h2 : 0 <= n * j.rate:=Int.mul_nonneg hn.1 h.rate.1
  exact { h with level:=by simp only [LV]; omega }
 ·exact h
theorem Nb (bs bj bt bb : Nat) (v : Value) (j : JobM) (hj : j.Ok) (n : Int) (L : List SL.HP) (w : World) (H : own w (jobL bs bj bt bb v j++L)) :
  Calls Tryz.prog 83 #[.pointer (some ⟨bj,0,none⟩),.int .i64 n] w fun e w'=>e = .returned (errV (if 0 <= n /\ n <= 100000 then 0 else 1)) /\ Ext w w' /\ own w' (jobL bs bj bt bb v (zM j n)++L):=by
 have c8:=(la 0 H rfl).1 8
 have hT:=Pg (b:=bb) (r:=j.rate) (u:=j.burst) (l:=j.level) (n:=n) 2 w H rfl hj.level.1 (by have:=hj.level; have:=hj.burst; omega) hj.rate.1 hj.rate.2 hj.burst.2
 unfold zM
 by_cases hn : 0 <= n /\ n <= 100000
 all_goals
  first
  |rw [zt hn,zt hn] at hT
   rw [zt hn,zt hn]
  |rw [zq hn,zq hn] at hT
   rw [zq hn,zq hn]
  have HT:=zh hT
  clear hT hn
  go_enter Tryz.func83,Tryz.ntmps83
  go_wp2_with fail
  refine HT.out.mono ?_
  rintro e w' ⟨rfl,hx,h⟩
  go_wp2_with fail
  go_ret
  exact ⟨rfl,hx,h⟩
def yp (j : JobM) (c : Int) : JobM:=if j.st < 4 /\ j.kind≠2 then y9 { j with x:=(oD j.n j.x c true).2 } else j
theorem D8 {j : JobM} (h : j.Ok) (c : Int) : (yp j c).Ok:=by
 unfold yp
 split
 ·exact Fj { h with x:=CR h.n h.x c true }
 ·exact h
theorem Ll (bs bj bt bb : Nat) (v : Value) (j : JobM) (hj : j.Ok) (c : Int) (L : List SL.HP) (w : World) (H : own w (jobL bs bj bt bb v j++L)) :
  Calls Tryz.prog 80 #[.pointer (some ⟨bj,0,none⟩),.int .i64 c] w fun e w'=>e = .returned (.tuple #[]) /\ Ext w w' /\ own w' (jobL bs bj bt bb v (yp j c)++L):=by
 have hG:=DX bs bj bt bb v j L w H
 have c1:=(la 0 H rfl).1 1
 have c5:=(la 0 H rfl).1 5
 unfold yp
 by_cases h4 : j.st < 4
 ·rw [zg h4] at hG
  have HG:=zh hG
  by_cases h2 : j.kind = 2
  ·rw [zq (fun h=>h.2 h2)]
   have d2 : w.cell? ⟨bj,1,none⟩ = some (.int .i64 2):=by rw [<- h2]; exact c1
   clear hG c1
   go_enter Tryz.func80,Tryz.ntmps80
   go_wp2_with fail
   refine HG.out.mono ?_
   rintro e w' ⟨rfl,rfl⟩
   go_wp2_with fail
   refine bodyPost_ret (results_none rfl _ _ _) rfl ?_
   exact ⟨rfl,zR _,H⟩
  ·rw [zt ⟨h4,h2⟩]
   have d2 : (j.kind == 2) = false:=by rw [zb]; exact h2
   have HP:=zh (Bp bt j.n j.x hj.n hj.x c true 1 w H rfl)
   have HT:=zh (fun w' h=>Ai bs bj bt bb v { j with x:=(oD j.n j.x c true).2 } { hj with x:=CR hj.n hj.x c true } L w' h)
   clear hG
   go_enter Tryz.func80,Tryz.ntmps80
   go_wp2_with fail
   refine HG.out.mono ?_
   rintro e w' ⟨rfl,rfl⟩
   go_wp2_with fail
   refine HP.out.mono ?_
   rintro e w2 ⟨rfl,hx2,h2'⟩
   have h3 : own w2 (jobL bs bj bt bb v { j with x:=(oD j.n j.x c true).2 }++L):=h2'
   go_wp2_with fail
   refine (HT.out w2 h3).mono ?_
   rintro e w3 ⟨rfl,hx3,h4'⟩
   go_wp2_with fail
   go_end0
   exact ⟨rfl,hx2.trans hx3,h4'⟩
 ·rw [zf h4] at hG
  have HG:=zh hG
  rw [zq (fun h=>h4 h.1)]
  clear hG
  go_enter Tryz.func80,Tryz.ntmps80
  go_wp2_with fail
  refine HG.out.mono ?_
  rintro e w' ⟨rfl,rfl⟩
  go_wp2_with fail
  refine bodyPost_ret (results_none rfl _ _ _) rfl ?_
  exact ⟨rfl,zR _,H⟩
def yv (j : JobM) (on : Bool) : Int×JobM:=
 if on then (if j.st = 1 \/ j.st = 3 then (0,{ j with st:=2 }) else (9,j))
 else (if j.st = 2 then (0,y9 { j with st:=1 }) else (9,j))
theorem IC {j : JobM} (h : j.Ok) (on : Bool) : (yv j on).2.Ok:=by
 unfold yv
 split
 ·split
  ·exact { h with st:=by simp }
  ·exact h
 ·split
  ·exact Fj (j:={ j with st:=1 }) { h with st:=by simp }
  ·exact h
theorem Gm (bs bj bt bb : Nat) (v : Value) (j : JobM) (hj : j.Ok) (on : Bool) (L : List SL.HP) (w : World) (H : own w (jobL bs bj bt bb v j++L)) :
  Calls Tryz.prog 57 #[.pointer (some ⟨bj,0,none⟩),.bool on] w fun e w'=>e = .returned (errV (yv j on).1) /\ Ext w w' /\ own w' (jobL bs bj bt bb v (yv j on).2++L):=by
 have c7:=(la 0 H rfl).1 7
 have f7:=(la 0 H rfl).2 7
 have hs : ∀s : Int,own (w.setCell ⟨bj,7,none⟩ (.int .i64 s)) (jobL bs bj bt bb v { j with st:=s }++L):=fun s=>lt (i:=7) 0 H rfl
 have H1:=hs 1
 have H2:=hs 2
 have HT:=zh (fun w' h=>Ai bs bj bt bb v { j with st:=1 } { hj with st:=by simp } L w' h)
 clear hs
 unfold yv
 cases on
 ·rw [zq (by decide)]
  by_cases h2 : j.st = 2
  ·rw [zt h2]
   have d2 : w.cell? ⟨bj,7,none⟩ = some (.int .i64 2):=by rw [<- h2]; exact c7
   clear c7 h2
   go_enter Tryz.func57,Tryz.ntmps57
   go_wp2_with fail
   refine (HT.out _ H1).mono ?_
   rintro e w' ⟨rfl,hx,h⟩
   go_wp2_with fail
   go_ret
   exact ⟨rfl,((zR _).setCell _ _).trans hx,h⟩
  ·rw [zq h2]
   have d2 : (j.st == 2) = false:=by rw [zb]; exact h2
   clear h2
   go_enter Tryz.func57,Tryz.ntmps57
   go_wp2_with fail
   go_ret
   exact ⟨rfl,zR _,H⟩
 ·rw [zt rfl]
  by_cases h1 : j.st = 1
  ·rw [zt (.inl h1)]
   have d2 : w.cell? ⟨bj,7,none⟩ = some (.int .i64 1):=by rw [<- h1]; exact c7
   clear c7 h1
   go_enter Tryz.func57,Tryz.ntmps57
   go_wp2_with fail
   go_ret
   exact ⟨rfl,(zR _).setCell _ _,H2⟩
  ·have d1 : (j.st == 1) = false:=by rw [zb]; exact h1
   by_cases h3 : j.st = 3
   ·rw [zt (.inr h3)]
    have d2 : w.cell? ⟨bj,7,none⟩ = some (.int .i64 3):=by rw [<- h3]; exact c7
    clear c7 h1 h3 d1
    go_enter Tryz.func57,Tryz.ntmps57
    go_wp2_with fail
    go_ret
    exact ⟨rfl,(zR _).setCell _ _,H2⟩
   ·rw [zq (by rintro (h | h); exact h1 h; exact h3 h)]
    have d3 : (j.st == 3) = false:=by rw [zb]; exact h3
    clear h1 h3
    go_enter Tryz.func57,Tryz.ntmps57
    go_wp2_with fail
    go_ret
    exact ⟨rfl,zR _,H⟩
theorem lU.take {w : World} {ao : Option Addr} {n cap : Nat} {l : List Int} (h : lU w (.slice ao n cap) l) (d : Nat) (hd : d <= l.length) : lU w (.slice ao d cap) (l.take d):=by
 obtain ⟨ao',b,off,cap',hv,h1,h2,h3,h4⟩:=h.form
 simp only [Value.slice.injEq] at hv
 obtain ⟨rfl,rfl,rfl⟩:=hv
 have hlen : (l.take d).length = d:=by simp; omega
 refine ⟨ao,b,off,cap,by rw [hlen],by omega,h2,fun h0=>h3 (by omega),fun i hi=>?_⟩
 have hi2 : i < d:=by omega
 have:=h4 i (by omega)
 dsimp only
 rw [this]
 simp [List.getElem?_take,hi2]
def oB (F : ShM) (j : JobM) (c : Int) : Bool:=if j.kind = 1 then true else if j.kind = 2 then decide (0 < oV F (j.list.take j.deep) c) else decide (0 <= oV F (j.list.take j.deep) c)
theorem Bd (bs : Nat) (A : Nat -> Nat×Nat×Nat) (F : ShM) (hF : ShOk F) (bj bt bb : Nat) (v : Value) (j : JobM) (hj : j.Ok) (hl : ∀x∈j.list,ll F x) (c : Int) (R : List SL.HP) (w : World)
  (hv : ∀w' L,own w' (L++R) -> lU w' v j.list) (H : own w (shL bs A F++(jobL bs bj bt bb v j++R))) :
  Calls Tryz.prog 75 #[.pointer (some ⟨bj,0,none⟩),.int .i64 c] w fun e w'=>e = .returned (.bool (oB F j c)) /\ ∃n,w' = w.drewN n:=by
 have hvw:=yi hv (jobL bs bj bt bb v j)
 obtain ⟨ao,lb,off,cap,rfl,hlc,hcap,hao,-⟩:=(hvw w _ H).form
 have hd : AK j <= j.list.length:=by unfold AK; split; exact Nat.le_refl _; exact hj.deep
 have hf : ∀w',own w' (shL bs A F++(jobL bs bj bt bb (.slice ao j.list.length cap) j++R)) -> Calls Tryz.prog 152 #[.pointer (some ⟨bs,0,none⟩),.slice ao (AK j) cap,.int .i64 c] w' fun e w''=>e = .returned (.int .i64 (oV F (j.list.take (AK j)) c)) /\ w' = w'':=fun w' h=>
  Ix bs A F hF _ _ (fun x hx=>hl x (List.mem_of_mem_take hx)) (by rw [List.length_take]; have:=hj.len; omega) c _ w' ((hvw w' _ h).take _ hd) h
 obtain ⟨cc,-⟩:=la 6 H rfl
 have c0:=cc 0
 have c1:=cc 1
 have c3:=cc 3
 have c4:=cc 4
 have i1 : (0 : Int) <= (AK j : Nat):=by omega
 have i2 : ((AK j : Nat) : Int) <= (cap : Int):=by omega
 have hr : oB F j c = if j.kind = 1 then true else if j.kind = 2 then decide (0 < oV F (j.list.take (AK j)) c) else decide (0 <= oV F (j.list.take (AK j)) c):=by
  unfold oB AK
  by_cases h : j.kind = 1
  ·rw [zt h,zt h]
  ·rw [zq h,zq h,zq h]
 rw [hr]
 have hk:=hj.kind
 have HF:=zh hf
 have HOW:=zh H
 generalize oV F (j.list.take (AK j)) c = fi at *
 generalize AK j = dp at *
 have hkk : ∀n,(w.drewN n).cell? ⟨bj,1,none⟩ = some (.int .i64 j.kind):=fun n=>c1
 clear hr hf hl hv hvw hao H cc hd hlc c1
 generalize j.kind = kd at *
 rcases hk with rfl | rfl | rfl
 all_goals
  first
  | rw [zt rfl]
  | rw [zq (by decide),zt rfl]
  | rw [zq (by decide),zq (by decide)]
  go_enter Tryz.func75,Tryz.ntmps75
  go_upto_region 1 with (fail)
  go_quiet ((go_at_call 152; exact Calls.quiet_of_same ((HF.out _ (by first | exact HOW.out | exact lh HOW.out | exact lH _ HOW.out)).mono fun e w' h=>⟨h.1,h.2.symm⟩)))
  have k1:=hkk nq
  clear hkk c0 c3 c4
  go_wp2_with fail
  go_ret
  exact ⟨rfl,_,rfl⟩
def GR (j : JobM) : Value:=.agg #[.int .i64 j.kind,.int .i64 j.file,.int .i64 j.st,.int .i64 (cnt j.x : Nat)]
theorem GJ {fn : Func} {t : Tmp} (h : fn.results = #[.cell t 47]) (tmps : Array Value) (w : World) (g : Nat) (a b c d : Int) (hg : tmps.getD t undef = .pointer (some ⟨g,0,none⟩))
  (h0 : w.cell? ⟨g,0,none⟩ = some (.int .i64 a)) (h1 : w.cell? ⟨g,1,none⟩ = some (.int .i64 b)) (h2 : w.cell? ⟨g,2,none⟩ = some (.int .i64 c)) (h3 : w.cell? ⟨g,3,none⟩ = some (.int .i64 d)) :
  (results fn tmps).run Tryz.prog w = .ok (.agg #[.int .i64 a,.int .i64 b,.int .i64 c,.int .i64 d]) w:=by
 rw [BS h,hg]
 go_simp
theorem KP (bs bj bt bb : Nat) (v : Value) (j : JobM) (hj : j.Ok) (L : List SL.HP) (w : World) (H : own w (jobL bs bj bt bb v j++L)) :
  Calls Tryz.prog 19 #[.pointer (some ⟨bj,0,none⟩)] w fun e w'=>e = .returned (GR j) /\ Ext w w' /\ own w' (jobL bs bj bt bb v j++L):=by
 have ha:=lf H (.cells #[.int .i64 0,.int .i64 0,.int .i64 0,.int .i64 0] 47)
 have hxa:=(zR w).alloc (.cells #[.int .i64 0,.int .i64 0,.int .i64 0,.int .i64 0] 47)
 have hc : ∀g w',own w' (pts g (.cells #[.int .i64 0,.int .i64 0,.int .i64 0,.int .i64 0] 47 (0,0))::(jobL bs bj bt bb v j++L)) -> Calls Tryz.prog 88 #[.pointer (some ⟨bt,0,none⟩)] w' fun e w''=>e = .returned (.int .i64 (cnt j.x : Nat)) /\ w' = w'':=
  fun g w' h=>by have:=FF bt j.n j.x hj.x64 2 w' h rfl; rw [Ji] at this; exact this
 have HC:=zh hc
 unfold GR
 generalize cnt j.x = q at *
 clear hc H
 go_enter Tryz.func19,Tryz.ntmps19
 go_upto_region 1 with (fail)
 generalize w.heap.size = g at *
 generalize w.alloc (.cells #[.int .i64 0,.int .i64 0,.int .i64 0,.int .i64 0] 47) = w1 at *
 obtain ⟨cc,ff⟩:=la 1 ha rfl
 have c1:=cc 1
 have c2:=cc 2
 have c5:=cc 5
 have c7:=cc 7
 clear cc ff
 have hb:=lh ha
 have hxb:=hxa.drew
 have hcq:=(HC.out _ _ hb).mono fun e w' h=>(⟨h.1,h.2.symm⟩ : e = .returned (.int .i64 (q : Int)) /\ w' = w1.drew)
 go_still_tail 18,(by kernel_rfl)
 still_call hcq
 repeat still_step
 refine wpStill_nil ?_
 change wpList _ _ _ _ _ w1.drew
 clear ha hxa c1 c2 c5 c7 hcq
 generalize w1.drew = w2 at *
 obtain ⟨cg,fg⟩:=la 0 hb rfl
 go_wp2_with fail
 have h5:=lt (i:=3) (v:=.int .i64 (q : Int)) 0 (lt (i:=2) (v:=.int .i64 j.st) 0 (lt (i:=1) (v:=.int .i64 j.file) 0 (lt (i:=0) (v:=.int .i64 j.kind) 0 hb rfl) rfl) rfl) rfl
 obtain ⟨c3,-⟩:=la 0 h5 rfl
 refine bodyPost_ret (GJ rfl _ _ g j.kind j.file j.st (q : Int) rfl (c3 0) (c3 1) (c3 2) (c3 3)) rfl ?_
 exact ⟨rfl,(((hxb.setCell _ _).setCell _ _).setCell _ _).setCell _ _,lg h5⟩
structure JobS (F : ShM) (j : JobM) : Prop where
 list : ∀x∈j.list,ll F x
 file : j.kind≠2 -> ll F j.file
def toM (j : JobM) : Int:=if j.kind = 2 then j.list.getD 0 0 else j.file
theorem Jh {F : ShM} {j : JobM} (hj : j.Ok) (h : JobS F j) : ll F (toM j):=by
 unfold toM
 split
 ·exact h.list _ (mem0 hj.pos)
 ·rename_i h2; exact h.file h2
theorem JobS.step {F F' : ShM} {j : JobM} {n : Nat} (h : JobS F j) (s : lB n F F') : JobS F' j:=⟨fun x hx=>s.file (h.list x hx),fun h2=>s.file (h.file h2)⟩
theorem Li {F : ShM} (hF : ShOk F) {l : List Int} (hl : ∀x∈l,ll F x) (c : Int) : (oe F l c).1.size <= 64:=by
 by_cases h0 : l.length = 0
 ·unfold oe; rw [zt h0]; exact Nat.zero_le _
 ·by_cases hc : Bc F (l.getD 0 0) c = true
  ·rw [(Dq hF hl h0 hc).2]; exact Nat.le_refl _
  ·unfold oe; rw [zq h0,zt (by simpa using hc)]; exact Nat.zero_le _
def oU (F : ShM) (j : JobM) (c : Int) : Int×ShM:=
 if oB F j c = false then (0,F) else if (oe F j.list c).2≠0 then ((oe F j.list c).2,F) else yk F (toM j).toNat c (oe F j.list c).1
theorem CJ {F : ShM} (hF : ShOk F) {j : JobM} (hj : j.Ok) (h : JobS F j) (c : Int) : lB 5 F (oU F j c).2:=by
 unfold oU
 split
 ·exact lB.refl hF 5
 ·split
  ·exact lB.refl hF 5
  ·obtain ⟨h0,h1,-⟩:=Jh hj h
   exact L9 hF (by omega) c _
theorem EB (F : ShM) (j : JobM) (c : Int) : 0 <= (oU F j c).1:=by
 unfold oU
 split
 ·simp
 ·split
  ·exact Gv F _ _
  ·exact Gu F _ _ _
theorem MQ (bs : Nat) (A : Nat -> Nat×Nat×Nat) (F : ShM) (hF : ShOk F) (bj bt bb : Nat) (v : Value) (j : JobM) (hj : j.Ok) (hS : JobS F j) (c : Int) (R : List SL.HP) (w : World)
  (hv : ∀w' L,own w' (L++R) -> lU w' v j.list) (H : own w (shL bs A F++(jobL bs bj bt bb v j++R))) :
  Calls Tryz.prog 150 #[.pointer (some ⟨bj,0,none⟩),.int .i64 c] w fun e w'=>e = .returned (errV (oU F j c).1) /\ Ext w w' /\ own w' (shL bs A (oU F j c).2++(jobL bs bj bt bb v j++R)):=by
 have HW:=zh (Bd bs A F hF bj bt bb v j hj hS.list c R w hv H)
 have hvw:=yi hv (jobL bs bj bt bb v j)
 have HR:=zh (fun w' h=>Dv bs A F hF v j.list hS.list hj.len c (jobL bs bj bt bb v j++R) w' hvw h)
 have hto:=Jh hj hS
 obtain ⟨k,m,hxk,hk,hFk⟩:=od hto
 have hsz:=Li hF hS.list c
 have HM:=zh (fun w' h=>MN bs A F hF k m hk hFk c (oe F j.list c).1 (by omega) (jobL bs bj bt bb v j++R) w' h)
 have e0 : oU F j c = if oB F j c = false then (0,F) else if (oe F j.list c).2≠0 then ((oe F j.list c).2,F) else yk F k c (oe F j.list c).1:=by
  unfold oU; rw [hxk,zn]
 have hcode:=Gv F j.list c
 have hmc:=Gu F k c (oe F j.list c).1
 rw [e0]
 generalize oe F j.list c = rd at *
 obtain ⟨t,rc⟩:=rd
 dsimp only at *
 generalize yk F k c t = mv at *
 obtain ⟨mc,F'⟩:=mv
 dsimp only at *
 have HOW:=zh H
 clear e0 hFk hsz hto
 cases hw : oB F j c
 ·rw [hw] at HW
  rw [zt rfl]
  clear hw
  go_enter Tryz.func150,Tryz.ntmps150
  go_wp2_with fail
  refine HW.out.mono ?_
  rintro e w2 ⟨rfl,n2,rfl⟩
  go_wp2_with fail
  go_ret
  exact ⟨rfl,(zR _).drewN _,lH _ HOW.out⟩
 ·rw [hw] at HW
  rw [zq (by decide)]
  obtain ⟨ao,lb,off,cap,rfl,hlc,hcap,hao,-⟩:=(hvw w _ H).form
  obtain rfl:=hao (by have:=hj.pos; omega)
  have HV:=zh hvw
  have hpos : 0 < j.list.length:=by have:=hj.pos; omega
  have hlen : j.list.length <= cap:=hlc
  unfold toM at hxk
  clear hw hlc hao hvw hv
  by_cases hrc : rc = 0
  ·subst hrc
   rw [zq (by decide)]
   by_cases hkd : j.kind = 2
   ·rw [zt hkd] at hxk
    have HX:=zh hxk
    have HKD:=zh hkd
    rw [show errV 0 = .nilIface from rfl] at HR
    have l0 : (0 : Int) < (j.list.length : Int):=by omega
    clear hxk hkd
    go_enter Tryz.func150,Tryz.ntmps150
    go_wp2_with fail
    refine HW.out.mono ?_
    rintro e w2 ⟨rfl,n2,rfl⟩
    have h2:=lH n2 H
    have hx2:=(zR w).drewN n2
    clear H
    generalize w.drewN n2 = w3 at *
    go_upto_region 3 with (fail)
    have hd:=lh h2
    have hxd:=hx2.drew
    clear h2 hx2
    go_region_held3 (fun w'=>w'.cell? ⟨bj,0,none⟩ = some (.pointer (some ⟨bs,0,none⟩)) /\ w'.cell? ⟨bj,3,none⟩ = some (.slice (some ⟨lb,off,none⟩) j.list.length cap)) (first | exact ⟨(la 6 hd rfl).1 0,(la 6 hd rfl).1 3⟩ | exact ⟨(la 6 h4 rfl).1 0,(la 6 h4 rfl).1 3⟩) ((go_at_call 59; refine (HR.out _ hd).mono ?_; rintro e w4 ⟨rfl,hx4,h4⟩))
    have hx5:=hxd.trans hx4
    clear hd hxd hx4
    have c0:=(la 6 h4 rfl).1 0
    have c1 : w4.cell? ⟨bj,1,none⟩ = some (.int .i64 2):=by rw [<- HKD.out]; exact (la 6 h4 rfl).1 1
    have c2:=(la 6 h4 rfl).1 2
    have c3:=(la 6 h4 rfl).1 3
    have c9 : w4.cell? ⟨lb,off,none⟩ = some (.int .i64 (k : Int)):=by rw [<- HX.out]; exact yh (HV.out _ _ h4) hpos
    go_wp2_with fail
    refine (HM.out _ h4).mono ?_
    rintro e w5 ⟨rfl,hx6,h6⟩
    go_wp2_with fail
    go_ret
    exact ⟨rfl,hx5.trans hx6,h6⟩
   ·rw [zq hkd] at hxk
    have HX:=zh hxk
    have d2 : (j.kind == 2) = false:=by rw [zb]; exact hkd
    rw [show errV 0 = .nilIface from rfl] at HR
    clear hxk hkd
    go_enter Tryz.func150,Tryz.ntmps150
    go_wp2_with fail
    refine HW.out.mono ?_
    rintro e w2 ⟨rfl,n2,rfl⟩
    have h2:=lH n2 H
    have hx2:=(zR w).drewN n2
    clear H
    generalize w.drewN n2 = w3 at *
    go_upto_region 3 with (fail)
    have hd:=lh h2
    have hxd:=hx2.drew
    clear h2 hx2
    go_region_held3 (fun w'=>w'.cell? ⟨bj,0,none⟩ = some (.pointer (some ⟨bs,0,none⟩)) /\ w'.cell? ⟨bj,3,none⟩ = some (.slice (some ⟨lb,off,none⟩) j.list.length cap)) (first | exact ⟨(la 6 hd rfl).1 0,(la 6 hd rfl).1 3⟩ | exact ⟨(la 6 h4 rfl).1 0,(la 6 h4 rfl).1 3⟩) ((go_at_call 59; refine (HR.out _ hd).mono ?_; rintro e w4 ⟨rfl,hx4,h4⟩))
    have hx5:=hxd.trans hx4
    clear hd hxd hx4
    have c0:=(la 6 h4 rfl).1 0
    have c1:=(la 6 h4 rfl).1 1
    have c2 : w4.cell? ⟨bj,2,none⟩ = some (.int .i64 (k : Int)):=by rw [<- HX.out]; exact (la 6 h4 rfl).1 2
    go_wp2_with fail
    refine (HM.out _ h4).mono ?_
    rintro e w5 ⟨rfl,hx6,h6⟩
    go_wp2_with fail
    go_ret
    exact ⟨rfl,hx5.trans hx6,h6⟩
  ·rw [zt hrc]
   have hp : 0 < rc:=by omega
   rw [lu hp] at HR ⊢
   clear hxk hrc
   go_enter Tryz.func150,Tryz.ntmps150
   go_wp2_with fail
   refine HW.out.mono ?_
   rintro e w2 ⟨rfl,n2,rfl⟩
   have h2:=lH n2 H
   have hx2:=(zR w).drewN n2
   clear H
   generalize w.drewN n2 = w3 at *
   go_upto_region 3 with (fail)
   have hd:=lh h2
   have hxd:=hx2.drew
   clear h2 hx2
   go_region_held3 (fun w'=>w'.cell? ⟨bj,0,none⟩ = some (.pointer (some ⟨bs,0,none⟩)) /\ w'.cell? ⟨bj,3,none⟩ = some (.slice (some ⟨lb,off,none⟩) j.list.length cap)) (first | exact ⟨(la 6 hd rfl).1 0,(la 6 hd rfl).1 3⟩ | exact ⟨(la 6 h4 rfl).1 0,(la 6 h4 rfl).1 3⟩) ((go_at_call 59; refine (HR.out _ hd).mono ?_; rintro e w4 ⟨rfl,hx4,h4⟩))
   have hx5:=hxd.trans hx4
   clear hd hxd hx4
   go_wp2_with fail
   go_ret
   exact ⟨rfl,hx5,h4⟩
end Go.Proofs.YtbpblokfiajpjabGreatDoor
namespace Go.Proofs.YtbpblokfiajpjabGreatDoor
open Go.RowKit Go.SL Go.Deep Go.ChangeShapes Go.WideShapes Go.Joins
section
variable {H : Type} {enc : TypeId×Value -> H} {w : World} {base : Nat} {spare : Nat -> Bool} {held : Bool}
end
end Go.Proofs.YtbpblokfiajpjabGreatDoor
namespace Go.Proofs.YtbpblokfiajpjabGreatDoor
open Go.RowKit Go.SL Go.Crc Go.Deep Go.ChangeShapes Go.WideShapes
attribute [local go_sem ↓] Go.wp_at_zero Go.wp_at_succ
structure Do where
 there : Bool
 c : Int
 p : Int
 b : Int
 iv : Value
 is : List Int
def Ff : Do:=⟨false,0,0,0,.slice none 0 0,[]⟩
instance : Inhabited Do:=⟨Ff⟩
def Ij (w : World) (b o : Nat) (f : Do) : Prop:=
 w.cell? ⟨b,o,none⟩ = some (.bool f.there) /\ w.cell? ⟨b,o + 1,none⟩ = some (.int .i64 f.c) /\ w.cell? ⟨b,o + 2,none⟩ = some (.int .i64 f.p) /\ w.cell? ⟨b,o + 3,none⟩ = some (.int .i64 f.b) /\ w.cell? ⟨b,o + 4,none⟩ = some f.iv
structure Qj (w : World) (f : Do) : Prop where
 c : oG f.c
 p : oG f.p
 b : oG f.b
 is : lU w f.iv f.is
 all : ∀x∈f.is,oG x
def CP (w : World) (v : Value) (l : List Do) : Prop:=
 SlAt v l.length (fun b off i=>Ij w b (off + i * 5) (l.getD i Ff)) /\ ∀f∈l,Qj w f
theorem CP.form {w : World} {v : Value} {l : List Do} (h : CP w v l) : ∃ao b off cap,v = .slice ao l.length cap /\ l.length <= cap /\ cap <= 9223372036854775807 /\ (0 < l.length -> ao = some ⟨b,off,none⟩) /\
  ∀i,i < l.length -> Ij w b (off + i * 5) (l.getD i Ff):=by
 obtain ⟨⟨ao,b,off,cap,hv,h1,h2,h3,h4⟩,-⟩:=h
 exact ⟨ao,b,off,cap,hv,h1,h2,h3,h4⟩
theorem LE {w w' : World} {L : List HP} (k : Nat) (H : own w' L) (hk : L[k]? = some (yq w)) {v : Value} {l : List Int} (h : lU w v l) : lU w' v l:=by
 obtain ⟨ao,b,off,cap,hv,h1,h2,h3,h4⟩:=h
 exact ⟨ao,b,off,cap,hv,h1,h2,h3,fun i hi=>oQ k H hk (h4 i hi)⟩
theorem CP.later {w w' : World} {L : List HP} (k : Nat) (H : own w' L) (hk : L[k]? = some (yq w)) {v : Value} {l : List Do} (h : CP w v l) : CP w' v l:=by
 obtain ⟨⟨ao,b,off,cap,hv,h1,h2,h3,h4⟩,h5⟩:=h
 refine ⟨⟨ao,b,off,cap,hv,h1,h2,h3,fun i hi=>?_⟩,fun f hf=>?_⟩
 ·obtain ⟨c0,c1,c2,c3,c4⟩:=h4 i hi
  exact ⟨oQ k H hk c0,oQ k H hk c1,oQ k H hk c2,oQ k H hk c3,oQ k H hk c4⟩
 ·have ok:=h5 f hf
  exact ⟨ok.c,ok.p,ok.b,LE k H hk ok.is,ok.all⟩
section
variable {H : Type} {enc : TypeId×Value -> H} {w : World} {base : Nat} {spare : Nat -> Bool} {held : Bool}
end
end Go.Proofs.YtbpblokfiajpjabGreatDoor
namespace Go.Proofs.YtbpblokfiajpjabGreatDoor
open Go.RowKit Go.SL Go.Crc
attribute [local go_sem ↓] Go.wp_at_zero Go.wp_at_succ
theorem zv {w : World} {L : List HP} (H : own w L) : own w (emp::L):=
 yo (l:=L) (fun h hh=>⟨fun _=>none,h,fun _=>.inl ⟨rfl,rfl⟩,fun _=>rfl,hh⟩) H
theorem Ql {w : World} {R : List SL.HP} (A : Nat -> Nat×Nat×Nat) (H : own w R) : own (w.alloc (.cells #[.pointer none,.pointer none,.pointer none,.pointer none,.pointer none] 111)) (shL w.heap.size A (fun _=>none)++R):=by
 have h1:=lf H (.cells #[.pointer none,.pointer none,.pointer none,.pointer none,.pointer none] 111)
 exact lG 5 (zv (zv (zv (zv (zv h1))))) rfl
end Go.Proofs.YtbpblokfiajpjabGreatDoor
