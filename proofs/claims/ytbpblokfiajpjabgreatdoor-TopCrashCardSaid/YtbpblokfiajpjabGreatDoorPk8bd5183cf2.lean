/- Lemmas on which TopAlone and TopCrash stands: the texts Chain13 Chain14 Chain15 Bits1 Bits2 Bucket RBucket Jobs1 Jobs2 Jobs3 Jobs4 Opens Chain16 Chain17 Image18 Chain18 Jobs5. No conditions. -/
import Derived.Test.YtbpblokfiajpjabGreatDoorPk42b703874e
import Derived.Lib.TrailingZeros
import Derived.Lib.SmallJoins
set_option linter.all false
set_option maxRecDepth 1000000
set_option maxHeartbeats 32000000
namespace Go.Proofs.YtbpblokfiajpjabGreatDoor
open Go.RowKit Go.SL Go.Crc
attribute [local go_sem ↓] Go.wp_at_zero Go.wp_at_succ
theorem QT {n m : Nat} (h : m <= n) : (zs n).extract 0 m = zs m:=by
 apply Go.WideShapes.bytes_inj
 rw [Bh]
 simp [zs,h]
theorem UQ {F : ShM} {l : List Int} {m : ImgM} (h : F (topI l) = some m) (c : Nat) : Br F l c = ((m.clear c).1,put F (topI l) (m.clear c).2):=by unfold Br; rw [h]
theorem Wf {F : ShM} {l : List Int} {m : ImgM} (h : F (topI l) = some m) (c : Nat) : KV F l c = m.kind (c : Int):=by unfold KV; rw [h]
theorem TO (b : Nat) (A : Nat -> Nat×Nat×Nat) (F : ShM) (N : Nat) (hW : ShW N F) (hN : N + 1000 < 900000) (v : Value) (l : List Int) (hl : ∀x∈l,lz F x) (hl5 : l.length <= 5) (fr n : Int) (hfr : yb fr) (hn : yb n) (R : List SL.HP) (w : World) (hv : ∀w' L,own w' (L++R) -> lW w' v l) (H : own w (shL b A F++R)) :
  Calls Tryz.prog 207 #[.pointer (some ⟨b,0,none⟩),v,.int .i64 fr,.int .i64 n] w fun e w'=>e = .returned (errV (zu F l fr n).1) /\ Ext w w' /\ own w' (shL b A (zu F l fr n).2++R):=by
 have hF : ShOk F:=hW.sh (by omega)
 have hps:=GA b A F hF v l hl hl5 fr n hfr hn R w hv H
 unfold ER at hps
 have HPS:=zh hps
 clear hps
 by_cases hw : lV F l fr n = 0
 ·have eg : zu F l fr n = yz (Bj l fr.toNat) n.toNat F fr.toNat 0 n.toNat:=by unfold zu; rw [zq (by rw [hw]; decide)]
  have ep : AA F l fr n = Am fr.toNat n.toNat:=by unfold AA; rw [zt hw]
  rw [eg]
  rw [hw,ep,lS] at HPS
  obtain ⟨hp0,hp1,hp2,hp3⟩:=yN hw
  obtain ⟨fn,rfl⟩:=ze hp1
  obtain ⟨nn,rfl⟩:=ze hp2
  rw [zn,zn] at HPS ⊢
  have hcl:=Qs hF hl hp0
  have hsum : fn + nn <= 128:=by omega
  have HCL:=zh hp3
  have hf0:=hl _ (mem0 hp0)
  have HP0:=zh hp0
  have HV:=zh hv
  have HSTEP:=zh (fun (F' : ShM) (n : Nat) (hn : n <= 1000) (hs : lJ n F F')=>(show ShOk F' /\ (∀x∈l,lz F' x) /\ clus F' (l.getD 0 0) = clus F (l.getD 0 0) from ⟨(hW.step hs).sh (by omega),fun x hx=>hs.file (hl x hx),hs.clus_eq hf0⟩))
  obtain ⟨ao,lb,off,cap,rfl,hlc,hcap,hao,-⟩:=(hv w _ H).form
  obtain rfl:=hao (by omega)
  have hpos : 0 < l.length:=by omega
  have j2 : (0 : Int) < (l.length : Int):=by omega
  have HLAY:=zh (fun (F' : ShM) (hF' : ShOk F') (hl' : ∀x∈l,lz F' x) (c fr n : Nat) (hc : (c : Int) < clus F' (l.getD 0 0)) (hfn : fr + n <= 4) (t : ByteArray) (ht : t.size = 16 * n) (R' : List SL.HP) (w : World) (hv' : ∀w' L,own w' (L++R') -> lW w' (.slice (some ⟨lb,off,none⟩) l.length cap) l) (H : own w (shL b A F'++R'))=>Qy b A F' hF' (.slice (some ⟨lb,off,none⟩) l.length cap) l hl' hp0 hl5 c fr n hc hfn t ht R' w hv' H)
  generalize hres : yz (Bj l fn) nn F fn 0 nn = res
  have HRES:=zh hres
  have hrf : lJ 0 F F:=lJ.refl hF 0
  have HRF:=zh hrf
  obtain ⟨m00,h5,-,hx0⟩:=IA hl hp0
  have HX0:=zh hx0
  clear hres hv hw eg ep hp0 hp1 hp3 hcl hao hfr hF hl hf0 hW hrf hn hx0
  go_enter Tryz.func207,Tryz.ntmps207
  go_wp2_with fail
  refine HPS.out.mono ?_
  rintro e w2 ⟨vp,rfl,hx2,h2⟩
  obtain ⟨po,pg,pcap,rfl,r1,r2,r3,-,-,-,-⟩:=lm 0 h2 rfl
  clear HPS H r3
  generalize hq : Am fn nn = ps at *
  have HQ:=zh hq
  clear hq
  have h3:=lC (shL b A F) h2
  clear h2
  go_wp2_with fail
  go_loopw [28] (fun iv wr=>∃(k : Nat) (p1 : List Part) (F' : ShM),k <= nn /\ p1.length + (nn - k) <= nn /\ iv = .int .i64 p1.length /\ ps = p1++Am (fn + k) (nn - k) /\ lJ (5 * p1.length) F F' /\ yz (Bj l fn) (nn - p1.length) F' fn k nn = res /\ Ext w wr /\ own wr (shL b A F'++(row 271 3 (.slice po ps.length pcap) ps.length (yf ps)::R))) (fun iv _=>ps.length - (intOf iv).toNat)
  case atStart=>exact ⟨0,[],F,by omega,by simp,rfl,HQ.out.symm,HRF.out,HRES.out,hx2,h3⟩
  case round=>
   clear h3 hx2
   obtain ⟨k,p1,F',hk,hp1,rfl,hpp,hst,hgo,hxr,hown⟩:=hrel
   by_cases hlt : k < nn
   ·rw [Dz _ (show 0 < nn - k by omega)] at hpp
    have hlen : p1.length < ps.length:=by rw [hpp]; simp
    obtain ⟨d0,d1,d2⟩:=DX hlen
    have hget : ps.getD p1.length (0,0,0) = ((fn + k) / 4,(fn + k) % 4,min (nn - k) (4 - (fn + k) % 4)):=by rw [hpp]; simp
    rw [hget] at d0 d1 d2
    rw [show nn - p1.length = (nn - p1.length - 1) + 1 by omega,Jd _ _ hlt] at hgo
    have hco:=KB l fn F' k (min (nn - k) (4 - (fn + k) % 4))
    obtain ⟨hok',hl',hcl'⟩:=HSTEP.out F' _ (by omega) hst
    have hst2:=hst.trans (Ed hok' l h5 fn k (min (nn - k) (4 - (fn + k) % 4)))
    have hm1 : 1 <= min (nn - k) (4 - (fn + k) % 4):=by omega
    have hm2 : min (nn - k) (4 - (fn + k) % 4) <= nn - k:=by omega
    have hm3 : (fn + k) % 4 + min (nn - k) (4 - (fn + k) % 4) <= 4:=by omega
    have hqc : (((fn + k) / 4 : Nat) : Int) < clus F' (l.getD 0 0):=by rw [hcl']; have:=HCL.out; omega
    have hfq : (fn + k) / 4 <= 32:=by omega
    have hfm : (fn + k) % 4 < 4:=by omega
    have hwa : Bj l fn F' k (min (nn - k) (4 - (fn + k) % 4)) = if min (nn - k) (4 - (fn + k) % 4) = 4 then Br F' l ((fn + k) / 4) else if KV F' l ((fn + k) / 4)≠1 then layM F' l ((fn + k) / 4) ((fn + k) % 4) (zs (16 * min (nn - k) (4 - (fn + k) % 4))) else (0,F'):=rfl
    generalize min (nn - k) (4 - (fn + k) % 4) = mm at *
    have hlay:=HLAY.out F' hok' hl' ((fn + k) / 4) ((fn + k) % 4) mm hqc hm3 (zs (16 * mm)) (AG _)
    generalize Bj l fn F' k mm = r at *
    obtain ⟨m,hk5,hFk,hx⟩:=IA hl' HP0.out
    have htc:=Jz hl' HP0.out (Int.natCast_nonneg ((fn + k) / 4)) hqc
    rw [hx,EH hFk] at htc
    rw [UQ hFk,Wf hFk] at hwa
    generalize (fn + k) / 4 = q at *
    generalize (fn + k) % 4 = fm at *
    generalize topI l = t0 at *
    have HKI:=zh (fun (R : List SL.HP) (w : World) (H : own w (shL b A F'++R))=>G2 hk5 hFk (hok'.ok t0 m hk5 hFk) (q : Int) htc R w H)
    have hclr:=fun (R : List SL.HP) (w : World) (H : own w (shL b A F'++R))=>J1 hk5 hFk hok' (q : Int) R w H
    have i1 : (0 : Int) <= (t0 : Int):=by omega
    have i2 : (t0 : Int) < 5:=by omega
    have u1:=Jq (zs 64) ((mm : Int) * 16) (16 * mm) (by omega) (by rw [AG]; omega)
    rw [QT (by omega)] at u1
    have U1:=zh u1
    have e1 : IntKind.i64.wrap ((mm : Int) * 16) = (mm : Int) * 16:=zi _ (by omega)
    obtain ⟨po',pg',pcap',hv',-,-,r3',-,-,-,-⟩:=lm 6 hown rfl
    simp only [Value.slice.injEq,true_and] at hv'
    obtain ⟨rfl,rfl⟩:=hv'
    obtain rfl:=r3' (by omega)
    obtain ⟨k2,-⟩:=oa 6 hown rfl
    have c0:=k2 _ _ d0
    have c1:=k2 _ _ d1
    have c2:=k2 _ _ d2
    have HPP:=zh hpp
    have HST:=zh hst2
    have HFK:=zh hFk
    have HWA:=zh hwa
    have HGO:=zh hgo
    have HLAY2:=zh hlay
    have HCLR:=zh hclr
    clear k2 d0 d1 d2 r3' hget hpp hst2 hst u1 hclr hlay hwa hFk hgo htc hqc hcl' hl' hok' hx
    go_upto_region 7 with (fail)
    have ha:=lC (shL b A F') (lh hown (.cells #[.int .i64 (q : Int),.int .i64 (fm : Int),.int .i64 (mm : Int)] 271))
    have hxa:=hxr.alloc (.cells #[.int .i64 (q : Int),.int .i64 (fm : Int),.int .i64 (mm : Int)] 271)
    clear c0 c1 c2 hown hxr
    generalize wr.heap.size = gx at *
    generalize wr.alloc (.cells #[.int .i64 (q : Int),.int .i64 (fm : Int),.int .i64 (mm : Int)] 271) = wa at *
    obtain ⟨cc,-⟩:=ld 6 ha rfl
    have c0:=cc 0
    have g1 : wa.cell? ⟨lb,off,none⟩ = some (.int .i64 (l.getD 0 0)):=zx (zw HV.out [_,_] _ (shL b A F') ha) hpos
    rw [HX0.out] at g1
    have g2:=ou ha hk5
    rw [lU HFK.out] at g2
    have HOW:=zh ha
    clear cc
    go_quiet ((go_at_call 151; exact Calls.quiet_of_same ((HKI.out _ _ (by first | exact HOW.out | exact ln HOW.out | exact lI _ HOW.out)).mono fun e w' h=>⟨h.1,h.2.symm⟩)))
    have hb:=lI nq ha
    have hxb:=hxa.drewN nq
    clear ha hxa c0 g1 g2 HOW
    generalize wa.drewN nq = wb at *
    obtain ⟨cc,-⟩:=ld 6 hb rfl
    have c0:=cc 0
    have c1:=cc 1
    have c2:=cc 2
    clear cc
    by_cases h4 : mm = 4
    ·subst h4
     have t4 : (((4 : Nat) : Int) == 4) = true:=rfl
     have hr : r = ((m.clear (q : Int)).1,put F' t0 (m.clear (q : Int)).2):=by rw [HWA.out,zt rfl]
     have hra : (m.clear (q : Int)).1 = r.1:=by rw [hr]
     have hrb : put F' t0 (m.clear (q : Int)).2 = r.2:=by rw [hr]
     rw [hra,hrb] at HCLR
     clear hr hra hrb HWA
     by_cases hr0 : r.1 = 0
     ·have hg:=HGO.out
      rw [zq (by rw [hr0]; decide)] at hg
      have hl3:=HCLR.out
      rw [hr0,lS] at hl3
      have HL:=zh hl3
      have HG:=zh hg
      clear hl3 hg hr0 hco
      go_upto_region 10 with (fail)
      have g1 : wb.cell? ⟨lb,off,none⟩ = some (.int .i64 (l.getD 0 0)):=zx (zw HV.out [_,_] _ (shL b A F') hb) hpos
      rw [HX0.out] at g1
      have g2:=ou hb hk5
      rw [lU HFK.out] at g2
      go_still_tail 9,(by kernel_rfl)
      change wpList _ _ _ _ _ wb.drew
      go_wp2_with fail
      refine (HL.out _ _ (ln hb)).mono ?_
      rintro e w5 ⟨rfl,hx5,h5'⟩
      have hx6:=hxb.drew.trans hx5
      go_wp2_with fail
      go_roundw
      case rel=>
       refine ⟨k + 4,p1++[(q,fm,4)],_,by omega,by simp; omega,by simp,?_,?_,?_,hx6,li 6 h5' rfl⟩
       ·rw [HPP.out,zp,show fn + (k + 4) = fn + k + 4 by omega,show nn - (k + 4) = nn - k - 4 by omega]; rfl
       ·rw [List.length_append]; exact HST.out.mono (by simp; omega)
       ·rw [<- HG.out,List.length_append]; rfl
      case measure=>simp [intOf]; omega
     ·have hg:=HGO.out
      rw [zt hr0] at hg
      subst hg
      have hep:=lv (e:=r.1) (by omega)
      have hl3:=HCLR.out
      rw [hep] at hl3
      have HEP:=zh hep
      have HL:=zh hl3
      clear hl3 hep HRES hr0 hco
      go_upto_region 10 with (fail)
      have g1 : wb.cell? ⟨lb,off,none⟩ = some (.int .i64 (l.getD 0 0)):=zx (zw HV.out [_,_] _ (shL b A F') hb) hpos
      rw [HX0.out] at g1
      have g2:=ou hb hk5
      rw [lU HFK.out] at g2
      go_still_tail 9,(by kernel_rfl)
      change wpList _ _ _ _ _ wb.drew
      go_wp2_with fail
      refine (HL.out _ _ (ln hb)).mono ?_
      rintro e w5 ⟨rfl,hx5,h5'⟩
      have hx6:=hxb.drew.trans hx5
      go_wp2_with fail
      go_ret
      exact ⟨by rw [HEP.out]; rfl,hx6,li 6 (li 6 h5' rfl) rfl⟩
    ·have t4 : ((mm : Int) == 4) = false:=by rw [zb]; omega
     by_cases hk1 : m.kind (q : Int) = 1
     ·have hr : r = (0,F'):=by rw [HWA.out,zq h4,zq (by simpa using hk1)]
      subst hr
      have t1 : (m.kind (q : Int) != 1) = false:=by simp [hk1]
      have hg:=HGO.out
      rw [zq (by simp)] at hg
      have HG:=zh hg
      clear h4 hk1 hg hco
      go_wp2_with fail
      go_roundw
      case rel=>
       refine ⟨k + mm,p1++[(q,fm,mm)],_,by omega,by simp; omega,by simp,?_,?_,?_,hxb,li 6 hb rfl⟩
       ·rw [HPP.out,zp,show fn + (k + mm) = fn + k + mm by omega,show nn - (k + mm) = nn - k - mm by omega]; rfl
       ·rw [List.length_append]; exact HST.out.mono (by simp; omega)
       ·rw [<- HG.out,List.length_append]; rfl
      case measure=>simp [intOf]; omega
     ·have hr : r = layM F' l q fm (zs (16 * mm)):=by rw [HWA.out,zq h4,zt hk1]
      rw [<- hr] at HLAY2
      have t1 : (m.kind (q : Int) != 1) = true:=by simp [hk1]
      clear hr HWA
      by_cases hr0 : r.1 = 0
      ·have hg:=HGO.out
       rw [zq (by rw [hr0]; decide)] at hg
       have hl3:=HLAY2.out
       rw [hr0,lS] at hl3
       have HL:=zh hl3
       have HG:=zh hg
       clear hl3 hg hr0 hco h4 hk1
       go_upto_region 12 with (fail)
       have u1:=U1.out
       rw [M8] at u1
       go_still_tail 7,(by kernel_rfl)
       change wpList _ _ _ _ _ wb.drew
       go_wp2_with fail
       refine (HL.out _ _ (zw HV.out [_,_]) (ln hb)).mono ?_
       rintro e w5 ⟨rfl,hx5,h5'⟩
       have hx6:=hxb.drew.trans hx5
       go_wp2_with fail
       go_roundw
       case rel=>
        refine ⟨k + mm,p1++[(q,fm,mm)],_,by omega,by simp; omega,by simp,?_,?_,?_,hx6,li 6 h5' rfl⟩
        ·rw [HPP.out,zp,show fn + (k + mm) = fn + k + mm by omega,show nn - (k + mm) = nn - k - mm by omega]; rfl
        ·rw [List.length_append]; exact HST.out.mono (by simp; omega)
        ·rw [<- HG.out,List.length_append]; rfl
       case measure=>simp [intOf]; omega
      ·have hg:=HGO.out
       rw [zt hr0] at hg
       subst hg
       have hep:=lv (e:=r.1) (by omega)
       have hl3:=HLAY2.out
       rw [hep] at hl3
       have HEP:=zh hep
       have HL:=zh hl3
       clear hl3 hep HRES hr0 hco h4 hk1
       go_upto_region 12 with (fail)
       have u1:=U1.out
       rw [M8] at u1
       go_still_tail 7,(by kernel_rfl)
       change wpList _ _ _ _ _ wb.drew
       go_wp2_with fail
       refine (HL.out _ _ (zw HV.out [_,_]) (ln hb)).mono ?_
       rintro e w5 ⟨rfl,hx5,h5'⟩
       have hx6:=hxb.drew.trans hx5
       go_wp2_with fail
       go_ret
       exact ⟨by rw [HEP.out]; rfl,hx6,li 6 (li 6 h5' rfl) rfl⟩
   ·obtain rfl : k = nn:=by omega
    rw [IV] at hgo
    rw [Nat.sub_self,DA,List.append_nil] at hpp
    subst hgo hpp
    go_wp2_with fail
    go_ret
    exact ⟨rfl,hxr,li 6 hown rfl⟩
 ·have eg : zu F l fr n = (lV F l fr n,F):=by unfold zu; rw [zt hw]
  have ep : AA F l fr n = []:=by unfold AA; rw [zq hw]
  have hc:=BV F l fr n
  rw [eg]
  rw [ep] at HPS
  generalize lV F l fr n = res at *
  have hep:=lv (e:=res) (by omega)
  dsimp only
  rw [hep] at HPS ⊢
  clear hw eg ep hc hfr hn hep
  go_enter Tryz.func207,Tryz.ntmps207
  go_wp2_with fail
  refine HPS.out.mono ?_
  rintro e w2 ⟨vp,rfl,hx2,h2⟩
  go_wp2_with fail
  go_ret
  exact ⟨rfl,hx2,lg h2⟩

theorem LY : (zs 64).toList = [0,0,0,0,0,0,0,0,0,0,0,0,0,0,0,0,0,0,0,0,0,0,0,0,0,0,0,0,0,0,0,0,0,0,0,0,0,0,0,0,0,0,0,0,0,0,0,0,0,0,0,0,0,0,0,0,0,0,0,0,0,0,0,0]:=by rw [ByteArray.toList_eq]; rfl
theorem Vy {s z : ByteArray} (h : s = z) : (s.toList == z.toList) = true:=by rw [h]; simp
theorem Uk {s z : ByteArray} (h : ¬s = z) : (s.toList == z.toList) = false:=by
 rw [zb]
 exact fun e=>h (C2 e)
theorem UT (b : Nat) (A : Nat -> Nat×Nat×Nat) (F : ShM) (hF : ShOk F) (k : Nat) (m : ImgM) (hk : k < 5) (hFk : F k = some m) (c : Int) (s : ByteArray) (hs : s.size <= 3200) (R : List SL.HP) (w : World) (H : own w (shL b A F++R)) :
  Calls Tryz.prog 231 #[.pointer (some ⟨b,0,none⟩),.int .i64 k,.int .i64 c,.string s] w fun e w'=>e = .returned (errV (y8 F k c s).1) /\ Ext w w' /\ own w' (shL b A (y8 F k c s).2++R):=by
 have e0 : y8 F k c s = if s = zs 64 then ((m.clear c).1,put F k (m.clear c).2) else if m.there c = false then (1,F) else if m.kind c = 2 then ((m.wr c 0 s).1,put F k (m.wr c 0 s).2) else ((m.fill c s).1,put F k (m.fill c s).2):=by unfold y8; rw [hFk]
 rw [e0]
 have cell:=ou H hk
 rw [lU hFk] at cell
 have i1 : (0 : Int) <= (k : Int):=by omega
 have i2 : (k : Int) < 5:=by omega
 by_cases hz : s = zs 64
 ·rw [zt hz]
  have HC:=zh (J1 hk hFk hF c R w H)
  have hq:=Vy hz
  rw [LY] at hq
  clear hz e0 hF hFk
  go_enter Tryz.func231,Tryz.ntmps231
  go_wp2_with fail
  refine HC.out.mono ?_
  rintro e w5 ⟨rfl,hx5,h5⟩
  go_wp2_with fail
  go_ret
  exact ⟨rfl,hx5,h5⟩
 ·rw [zq hz]
  have hq:=Uk hz
  rw [LY] at hq
  have HZ:=zh hz
  clear hz e0
  cases ht : m.there c
  ·rw [zt rfl]
   have HK:=zh (P5 hk hFk (hF.ok k m hk hFk) c ht R w H)
   clear hF hFk ht
   go_enter Tryz.func231,Tryz.ntmps231
   go_wp2_with fail
   refine HK.out.mono ?_
   rintro e w5 ⟨rfl,rfl⟩
   go_wp2_with fail
   go_ret
   exact ⟨rfl,zR _,H⟩
  ·rw [zq (by decide)]
   have HK:=zh (G2 hk hFk (hF.ok k m hk hFk) c ht R w H)
   by_cases h2 : m.kind c = 2
   ·rw [zt h2]
    rw [h2] at HK
    have HW:=zh (JY hk hFk hF c 0 ⟨by omega,by omega⟩ s (by omega) R w H)
    clear hF hFk ht h2
    go_enter Tryz.func231,Tryz.ntmps231
    go_wp2_with fail
    refine HK.out.mono ?_
    rintro e w5 ⟨rfl,rfl⟩
    go_wp2_with fail
    refine HW.out.mono ?_
    rintro e w6 ⟨rfl,hx6,h6⟩
    go_wp2_with fail
    go_ret
    exact ⟨rfl,hx6,h6⟩
   ·rw [zq h2]
    have t2 : (m.kind c == 2) = false:=zb.2 h2
    have HW:=zh (Lx hk hFk hF c s (by omega) R w H)
    clear hF hFk ht h2
    go_enter Tryz.func231,Tryz.ntmps231
    go_wp2_with fail
    refine HK.out.mono ?_
    rintro e w5 ⟨rfl,rfl⟩
    go_wp2_with fail
    refine HW.out.mono ?_
    rintro e w6 ⟨rfl,hx6,h6⟩
    go_wp2_with fail
    go_ret
    exact ⟨rfl,hx6,h6⟩
theorem EF (n : Nat) (h : n < 2 ^ 64) : IntKind.u64.wrap (n : Int) = (n : Int):=by rw [IntKind.wrap_u64]; omega
theorem JF (a b : Nat) (ha : a < 9223372036854775808) (hb : b < 9223372036854775808) : bits .and .i64 (a : Int) (b : Int) = ((a &&& b : Nat) : Int):=by
 have hx : a &&& b < 2 ^ 63:=Nat.and_lt_two_pow _ (by omega)
 have h1 : (BitVec.ofInt 64 (a : Int)).toNat = a:=by
  rw [BitVec.ofInt_natCast,BitVec.toNat_ofNat]; exact Nat.mod_eq_of_lt (by omega)
 have h2 : (BitVec.ofInt 64 (b : Int)).toNat = b:=by
  rw [BitVec.ofInt_natCast,BitVec.toNat_ofNat]; exact Nat.mod_eq_of_lt (by omega)
 show IntKind.i64.wrap ((BitVec.ofInt 64 (a : Int) &&& BitVec.ofInt 64 (b : Int)).toNat : Int) = _
 rw [BitVec.toNat_and,h1,h2]
 exact zi _ (by omega)
theorem X0 (n : Nat) : n &&& 127 = n % 128:=Nat.and_two_pow_sub_one_eq_mod n 7
theorem V9 (x : Nat) (hx : x < 2 ^ 64) (w : World) : Calls Tryz.prog 188 #[.int .u64 x] w fun e w'=>e = .returned (.int .i64 (Ones.popc 64 x : Nat)) /\ w = w':=by
 obtain ⟨y1,y2,y3,h1,h2,h3,h4,h5,h6,h7,h8,h9,h10⟩:=Ones.ones_all hx
 go_enter Tryz.func188,Tryz.ntmps188
 have E1 : IntKind.u64.wrap (bits BinOp.and IntKind.u64 ((x : Int) / 2) 6148914691236517205 + bits BinOp.and IntKind.u64 (x : Int) 6148914691236517205) = ((Ones.s1 x : Nat) : Int):=by
  have a1:=bits_and_u64_nat (x / 2) 6148914691236517205 (by omega) (by omega)
  have a2:=bits_and_u64_nat x 6148914691236517205 (by omega) (by omega)
  rw [show ((x : Int) / 2) = ((x / 2 : Nat) : Int) by omega,show (6148914691236517205 : Int) = ((6148914691236517205 : Nat) : Int) from rfl,a1,a2,<- Int.natCast_add]
  exact EF _ h8
 have E2 : IntKind.u64.wrap (bits BinOp.and IntKind.u64 (((Ones.s1 x : Nat) : Int) / 4) 3689348814741910323 + bits BinOp.and IntKind.u64 ((Ones.s1 x : Nat) : Int) 3689348814741910323) = ((Ones.s2 (Ones.s1 x) : Nat) : Int):=by
  have a1:=bits_and_u64_nat (Ones.s1 x / 4) 3689348814741910323 (by omega) (by omega)
  have a2:=bits_and_u64_nat (Ones.s1 x) 3689348814741910323 (by omega) (by omega)
  rw [show (((Ones.s1 x : Nat) : Int) / 4) = ((Ones.s1 x / 4 : Nat) : Int) by omega,show (3689348814741910323 : Int) = ((3689348814741910323 : Nat) : Int) from rfl,a1,a2,<- Int.natCast_add]
  exact EF _ h9
 have E3a : IntKind.u64.wrap (((Ones.s2 (Ones.s1 x) : Nat) : Int) / 16 + ((Ones.s2 (Ones.s1 x) : Nat) : Int)) = ((Ones.s2 (Ones.s1 x) : Nat) : Int) / 16 + ((Ones.s2 (Ones.s1 x) : Nat) : Int):=by
  rw [show (((Ones.s2 (Ones.s1 x) : Nat) : Int) / 16 + ((Ones.s2 (Ones.s1 x) : Nat) : Int)) = ((Ones.s2 (Ones.s1 x) / 16 + Ones.s2 (Ones.s1 x) : Nat) : Int) by omega]
  exact EF _ h10
 have E3 : bits BinOp.and IntKind.u64 (((Ones.s2 (Ones.s1 x) : Nat) : Int) / 16 + ((Ones.s2 (Ones.s1 x) : Nat) : Int)) 1085102592571150095 = ((Ones.s3 (Ones.s2 (Ones.s1 x)) : Nat) : Int):=by
  rw [show (((Ones.s2 (Ones.s1 x) : Nat) : Int) / 16 + ((Ones.s2 (Ones.s1 x) : Nat) : Int)) = ((Ones.s2 (Ones.s1 x) / 16 + Ones.s2 (Ones.s1 x) : Nat) : Int) by omega]
  exact bits_and_u64_nat _ 1085102592571150095 h10 (by omega)
 have E4 : IntKind.u64.wrap (((Ones.s3 (Ones.s2 (Ones.s1 x)) : Nat) : Int) + ((Ones.s3 (Ones.s2 (Ones.s1 x)) : Nat) : Int) / 256) = (y1 : Int):=by
  rw [show (((Ones.s3 (Ones.s2 (Ones.s1 x)) : Nat) : Int) + ((Ones.s3 (Ones.s2 (Ones.s1 x)) : Nat) : Int) / 256) = (y1 : Int) by omega]
  exact EF _ h5
 have E5 : IntKind.u64.wrap ((y1 : Int) + (y1 : Int) / 65536) = (y2 : Int):=by
  rw [show ((y1 : Int) + (y1 : Int) / 65536) = (y2 : Int) by omega]
  exact EF _ h6
 have E6 : IntKind.u64.wrap ((y2 : Int) + (y2 : Int) / 4294967296) = (y3 : Int):=by
  rw [show ((y2 : Int) + (y2 : Int) / 4294967296) = (y3 : Int) by omega]
  exact EF _ (by omega)
 have E7 : bits BinOp.and IntKind.i64 (y3 : Int) 127 = ((Ones.popc 64 x : Nat) : Int):=by
  rw [show (127 : Int) = ((127 : Nat) : Int) from rfl,JF _ _ h7 (by omega),X0,h4]
 generalize Ones.s3 (Ones.s2 (Ones.s1 x)) = z3 at *
 generalize Ones.s2 (Ones.s1 x) = z2 at *
 generalize Ones.s1 x = z1 at *
 have H7:=zh h7
 clear h1 h2 h3 h4 h5 h6 h8 h9 h10
 have b1 : (0 : Int) <= (y3 : Int):=by omega
 have b2 : (y3 : Int) <= 9223372036854775807:=by have:=H7.out; omega
 go_wp2_with fail
 go_ret
 exact ⟨rfl,rfl⟩
def A0 (w : World) : Prop:=∀j,j < 64 -> w.cell? ⟨0,j,none⟩ = some (.int .u8 ((Lib.deBruijn64tab.getD j 0 : Nat) : Int))
theorem A0.later {w w' : World} {L : List SL.HP} (h : A0 w) (k : Nat) (H : own w' L) (hk : L[k]? = some (oX w)) : A0 w':=fun j hj=>yI k H hk (h j hj)
theorem FU (x : Nat) (h0 : x≠0) (hx : x < 2 ^ 64) : ∃pw idx : Nat,idx < 64 /\ x &&& (2 ^ 64 - x) = pw /\ pw * 285870213051353865 % 18446744073709551616 / 288230376151711744 = idx /\ Lib.deBruijn64tab.getD idx 0 = Lib.ctz 64 x /\ Lib.ctz 64 x < 64:=by
 obtain ⟨hlow,hk⟩:=Lib.lowest_bit 64 x h0 hx
 obtain ⟨hi,htab⟩:=Lib.deBruijn64_at _ hk
 exact ⟨_,_,hi,hlow,rfl,htab,hk⟩
theorem TB (x : Nat) (hx : x < 2 ^ 64) (h0 : x≠0) (w : World) (hT : A0 w) : Calls Tryz.prog 230 #[.int .u64 x] w fun e w'=>e = .returned (.int .i64 (Lib.ctz 64 x : Nat)) /\ w = w':=by
 obtain ⟨pw,idx,hi,hlow,hix,htab,hk⟩:=FU x h0 hx
 have hcell:=hT _ hi
 rw [htab] at hcell
 generalize Lib.ctz 64 x = k at *
 have e1 : IntKind.u64.wrap (-(x : Int)) = ((18446744073709551616 - x : Nat) : Int):=by rw [IntKind.wrap_u64]; omega
 have E1 : bits BinOp.and IntKind.u64 (x : Int) (IntKind.u64.wrap (-(x : Int))) = (pw : Int):=by
  rw [e1,bits_and_u64_nat x _ hx (by omega)]
  exact congrArg _ hlow
 have E2 : IntKind.u64.wrap ((pw : Int) * 285870213051353865) / 288230376151711744 = (idx : Int):=by
  rw [IntKind.wrap_u64,<- hix,Int.natCast_ediv,Int.natCast_emod,Int.natCast_mul]
  rfl
 have w1 : ((x : Int) == 0) = false:=by rw [zb]; omega
 have w2 : (0 : Int) <= (idx : Int):=by omega
 have w3 : (idx : Int) < 64:=by omega
 clear e1 htab hlow hT hix
 go_enter Tryz.func230,Tryz.ntmps230
 go_wp2_with fail
 go_ret
 exact ⟨rfl,rfl⟩
theorem Ll (w i : Nat) : (w : Int) / 2 ^ i = ((w / 2 ^ i : Nat) : Int):=by rw [Int.natCast_ediv,Int.natCast_pow]; rfl
theorem V0 (w i : Nat) (h : w < 2 ^ 64) : bits BinOp.and IntKind.u64 ((w : Int) / 2 ^ i) 1 = ((w / 2 ^ i % 2 : Nat) : Int):=by
 rw [Ll]
 have hd : w / 2 ^ i < 2 ^ 64:=Nat.lt_of_le_of_lt (Nat.div_le_self _ _) h
 rw [show (1 : Int) = ((1 : Nat) : Int) from rfl,bits_and_u64_nat _ 1 hd (by omega),Ones.and1]
theorem DH (w i : Nat) : w.testBit i = decide (w / 2 ^ i % 2 = 1):=by
 rw [Nat.testBit_eq_decide_div_mod_eq]
def DP (b n x : Nat) : SL.HP:=pts b (.cells #[.int .i64 n,.int .u64 x] 230 (0,0))
theorem JD {w : World} {l : List SL.HP} {k : Nat} {P : SL.HP} (H : own w l) (hk : l[k]? = some P) : own w (l.set k P):=by
 have : l.set k P = l:=by
  refine List.ext_getElem? fun i=>?_
  rw [List.getElem?_set]
  by_cases h : k = i
  ·subst h; rw [zt rfl,hk]; have:=(zS.1 hk).1; simp [this]
  ·rw [zq h]
 rw [this]; exact H
def hasM (n x : Nat) (i : Int) : Bool:=decide (0 <= i) && decide (i < n) && x.testBit i.toNat
theorem VV (b n x : Nat) (hn : n <= 64) (hx : x < 2 ^ 64) (i : Int) {l : List SL.HP} (k : Nat) (w : World) (H : own w l) (hk : l[k]? = some (DP b n x)) :
  Calls Tryz.prog 177 #[.pointer (some ⟨b,0,none⟩),.int .i64 i] w fun e w'=>e = .returned (.bool (hasM n x i)) /\ w = w':=by
 obtain ⟨c,-⟩:=ld k H hk
 have c0:=c 0
 have c1:=c 1
 clear c
 by_cases h0 : i < 0
 ·have d0 : decide (0 <= i) = false:=zf (by omega)
  have hr : hasM n x i = false:=by simp [hasM,d0]
  rw [hr]
  clear hr h0
  go_enter Tryz.func177,Tryz.ntmps177
  go_wp2_with fail
  go_ret
  exact ⟨rfl,rfl⟩
 ·obtain ⟨j,rfl⟩:=ze (show 0 <= i by omega)
  have d0 : decide (0 <= (j : Int)) = true:=zg (by omega)
  by_cases h1 : j < n
  ·have d1 : decide ((j : Int) < (n : Int)) = true:=zg (by omega)
   have hr : hasM n x (j : Int) = x.testBit j:=by simp [hasM,h1]
   rw [hr,DH]
   have e1:=V0 x j hx
   have w1 : (j : Int) < 64:=by omega
   have w2 : (0 : Int) <= (j : Int):=by omega
   clear hr h0
   go_enter Tryz.func177,Tryz.ntmps177
   go_wp2_with fail
   go_ret
   exact ⟨Ai (by rw [Bool.eq_iff_iff]; simp only [beq_iff_eq,decide_eq_true_eq]; rw [Ll]; generalize x / 2 ^ j = q; omega),rfl⟩
  ·have d1 : decide ((j : Int) < (n : Int)) = false:=zf (by omega)
   have hr : hasM n x (j : Int) = false:=by simp [hasM,h1]
   rw [hr]
   clear hr h0
   go_enter Tryz.func177,Tryz.ntmps177
   go_wp2_with fail
   go_ret
   exact ⟨rfl,rfl⟩
def oY (n x : Nat) (i : Int) (b : Bool) : Bool×Nat:=if 0 <= i /\ i < n /\ x.testBit i.toNat≠b then (true,x ^^^ 2 ^ i.toNat) else (false,x)
theorem Fu {n x : Nat} (hn : n <= 64) (hx : x < 2 ^ n) (i : Int) (b : Bool) : (oY n x i b).2 < 2 ^ n:=by
 unfold oY
 split
 ·rename_i h
  have hj : i.toNat < n:=by have h1:=h.1; have h2:=h.2.1; omega
  exact Nat.xor_lt_two_pow hx (Nat.pow_lt_pow_right (by decide) hj)
 ·exact hx
theorem lt64 {n x : Nat} (hn : n <= 64) (hx : x < 2 ^ n) : x < 2 ^ 64:=Nat.lt_of_lt_of_le hx (Nat.pow_le_pow_right (by omega) hn)
theorem Dq (b n x : Nat) (hn : n <= 64) (hx : x < 2 ^ n) (i : Int) (v : Bool) {l : List SL.HP} (k : Nat) (w : World) (H : own w l) (hk : l[k]? = some (DP b n x)) :
  Calls Tryz.prog 74 #[.pointer (some ⟨b,0,none⟩),.int .i64 i,.bool v] w fun e w'=>e = .returned (.bool (oY n x i v).1) /\ Ext w w' /\ own w' (l.set k (DP b n (oY n x i v).2)):=by
 have hx64:=lt64 hn hx
 obtain ⟨c,f⟩:=ld k H hk
 have c0:=c 0
 have c1:=c 1
 have f1:=f 1
 clear c f
 by_cases h0 : i < 0
 ·have d0 : decide (i < 0) = true:=zg h0
  have hr : oY n x i v = (false,x):=by unfold oY; rw [zq (by omega)]
  rw [hr]
  clear hr h0
  go_enter Tryz.func74,Tryz.ntmps74
  go_wp2_with fail
  go_ret
  exact ⟨rfl,zR _,JD H hk⟩
 ·obtain ⟨j,rfl⟩:=ze (show 0 <= i by omega)
  have d0 : decide ((j : Int) < 0) = false:=zf (by omega)
  by_cases h1 : j < n
  ·have d1 : decide ((n : Int) <= (j : Int)) = false:=zf (by omega)
   have HH:=zh (VV b n x hn hx64 (j : Int) k w H hk)
   rw [show hasM n x (j : Int) = x.testBit j by simp [hasM,h1]] at HH
   have e0 : oY n x (j : Int) v = if x.testBit j≠v then (true,x ^^^ 2 ^ j) else (false,x):=by
    unfold oY
    by_cases h : x.testBit j≠v
    ·rw [zt ⟨by omega,by omega,h⟩,zt h]; rfl
    ·rw [zq (fun g=>h g.2.2),zq h]
   rw [e0]
   have w1 : (j : Int) < 64:=by omega
   have w2 : (0 : Int) <= (j : Int):=by omega
   have hp : 2 ^ j < 2 ^ 64:=Nat.pow_lt_pow_right (by decide) (by omega)
   have E0 : IntKind.u64.wrap ((2 : Int) ^ j) = ((2 ^ j : Nat) : Int):=by
    rw [show (2 : Int) ^ j = ((2 ^ j : Nat) : Int) by rw [Int.natCast_pow]; rfl]
    exact EF _ hp
   have E1 : bits BinOp.xor IntKind.u64 (x : Int) (IntKind.u64.wrap ((2 : Int) ^ j)) = ((x ^^^ 2 ^ j : Nat) : Int):=by
    rw [E0]; exact bits_xor_u64_nat x (2 ^ j) hx64 hp
   clear hp E0
   generalize x.testBit j = tb at *
   by_cases ht : tb = v
   ·subst ht
    rw [zq (by simp)]
    have t1 : (tb == tb) = true:=by simp
    clear e0 h0
    go_enter Tryz.func74,Tryz.ntmps74
    go_wp2_with fail
    refine HH.out.mono ?_
    rintro e w' ⟨rfl,rfl⟩
    go_wp2_with fail
    go_ret
    exact ⟨rfl,zR _,JD H hk⟩
   ·rw [zt ht]
    have t1 : (tb == v) = false:=by rw [zb]; exact ht
    clear e0 h0
    go_enter Tryz.func74,Tryz.ntmps74
    go_wp2_with fail
    refine HH.out.mono ?_
    rintro e w' ⟨rfl,rfl⟩
    go_upto_region 3 with (fail)
    go_still_tail 9,(by kernel_rfl)
    change wpList _ _ _ _ _ w.drew
    have H1:=ln H
    have g1:=(ld k H1 hk).2 1
    go_wp2_with fail
    go_ret
    exact ⟨rfl,(zR w).drew.setCell _ _,lp (i:=1) k H1 hk⟩
  ·have d1 : decide ((n : Int) <= (j : Int)) = true:=zg (by omega)
   have hr : oY n x (j : Int) v = (false,x):=by unfold oY; rw [zq (by omega)]
   rw [hr]
   clear hr h0
   go_enter Tryz.func74,Tryz.ntmps74
   go_wp2_with fail
   go_ret
   exact ⟨rfl,zR _,JD H hk⟩
theorem Oo (n : Nat) (hn : n <= 64) (R : List SL.HP) (w : World) (H : own w R) :
  Calls Tryz.prog 72 #[.int .i64 n] w fun e w'=>∃b,e = .returned (.tuple #[.pointer (some ⟨b,0,none⟩),.nilIface]) /\ Ext w w' /\ own w' (DP b n 0::R):=by
 have w1 : (0 : Int) <= (n : Int):=by omega
 have w2 : (n : Int) <= 64:=by omega
 go_enter Tryz.func72,Tryz.ntmps72
 go_wp2_with fail
 go_ret2
 exact ⟨_,rfl,(zR _).alloc _,lh H _⟩
theorem KR (b n x : Nat) (hx : x < 2 ^ 64) {l : List SL.HP} (k : Nat) (w : World) (H : own w l) (hk : l[k]? = some (DP b n x)) :
  Calls Tryz.prog 88 #[.pointer (some ⟨b,0,none⟩)] w fun e w'=>e = .returned (.int .i64 (Ones.popc 64 x : Nat)) /\ w = w':=by
 obtain ⟨c,-⟩:=ld k H hk
 have c1:=c 1
 clear c
 have HO:=zh (V9 x hx w)
 go_enter Tryz.func88,Tryz.ntmps88
 go_wp2_with fail
 refine HO.out.mono ?_
 rintro e w' ⟨rfl,rfl⟩
 go_wp2_with fail
 go_ret
 exact ⟨rfl,rfl⟩
def Bo (n x : Nat) (fr : Int) : Nat×Bool:=
 if x = 0 then (0,false) else if 0 < fr /\ fr < n /\ x / 2 ^ fr.toNat≠0 then (fr.toNat + Lib.ctz 64 (x / 2 ^ fr.toNat),true) else (Lib.ctz 64 x,true)
theorem Up (b n x : Nat) (hn : n <= 64) (hx : x < 2 ^ 64) (fr : Int) {l : List SL.HP} (k : Nat) (w : World) (hT : A0 w) (H : own w l) (hk : l[k]? = some (DP b n x)) :
  Calls Tryz.prog 148 #[.pointer (some ⟨b,0,none⟩),.int .i64 fr] w fun e w'=>e = .returned (.tuple #[.int .i64 (Bo n x fr).1,.bool (Bo n x fr).2]) /\ w = w':=by
 have H1:=ln H
 obtain ⟨c,-⟩:=ld k H hk
 obtain ⟨d,-⟩:=ld k H1 hk
 have c0:=c 0
 have c1:=c 1
 have d0:=d 0
 have d1:=d 1
 clear c d
 by_cases h0 : x = 0
 ·subst h0
  have hr : Bo n 0 fr = (0,false):=rfl
  rw [hr]
  clear hr
  go_enter Tryz.func148,Tryz.ntmps148
  go_wp2_with fail
  go_ret2
  exact ⟨rfl,rfl⟩
 ·have z1 : ((x : Int) == 0) = false:=by rw [zb]; omega
  have HZ:=zh (fun w'=>TB x hx h0 w')
  have ha : Bo n x fr = if 0 < fr /\ fr < n /\ x / 2 ^ fr.toNat≠0 then (fr.toNat + Lib.ctz 64 (x / 2 ^ fr.toNat),true) else (Lib.ctz 64 x,true):=zq h0
  by_cases h1 : 0 < fr
  ·obtain ⟨j,rfl⟩:=ze (show 0 <= fr by omega)
   have t1 : decide (0 < (j : Int)) = true:=zg h1
   by_cases h2 : j < n
   ·have t2 : decide ((j : Int) < (n : Int)) = true:=zg (by omega)
    have hd : x / 2 ^ j < 2 ^ 64:=Nat.lt_of_le_of_lt (Nat.div_le_self _ _) hx
    have e1:=Ll x j
    have w1 : (j : Int) < 64:=by omega
    have w2 : (0 : Int) <= (j : Int):=by omega
    by_cases h3 : x / 2 ^ j = 0
    ·have hr : Bo n x (j : Int) = (Lib.ctz 64 x,true):=by rw [ha,zq (fun h=>h.2.2 h3)]
     rw [hr]
     rw [h3] at e1
     clear hr ha
     go_enter Tryz.func148,Tryz.ntmps148
     go_wp2_with fail
     refine (HZ.out _ hT).mono ?_
     rintro e w' ⟨rfl,rfl⟩
     go_wp2_with fail
     go_ret2
     exact ⟨rfl,rfl⟩
    ·have hr : Bo n x (j : Int) = (j + Lib.ctz 64 (x / 2 ^ j),true):=by rw [ha,zt ⟨by omega,by omega,h3⟩]; rfl
     rw [hr]
     have HZ2:=zh (fun w'=>TB (x / 2 ^ j) hd h3 w')
     have hz:=(FU (x / 2 ^ j) h3 hd)
     obtain ⟨-,-,-,-,-,-,hz⟩:=hz
     clear hr ha
     generalize x / 2 ^ j = q at *
     have z2 : ((q : Int) == 0) = false:=by rw [zb]; omega
     generalize Lib.ctz 64 q = t at *
     have w3 : (j : Int) + (t : Int) <= 9223372036854775807:=by omega
     have w4 : (-9223372036854775808 : Int) <= (j : Int) + (t : Int):=by omega
     clear h3 h0
     go_enter Tryz.func148,Tryz.ntmps148
     go_wp2_with fail
     refine (HZ2.out _ hT).mono ?_
     rintro e w' ⟨rfl,rfl⟩
     go_wp2_with fail
     go_ret2
     exact ⟨rfl,rfl⟩
   ·have t2 : decide ((j : Int) < (n : Int)) = false:=zf (by omega)
    have hr : Bo n x (j : Int) = (Lib.ctz 64 x,true):=by rw [ha,zq (by omega)]
    rw [hr]
    clear hr ha
    go_enter Tryz.func148,Tryz.ntmps148
    go_wp2_with fail
    refine (HZ.out _ hT).mono ?_
    rintro e w' ⟨rfl,rfl⟩
    go_wp2_with fail
    go_ret2
    exact ⟨rfl,rfl⟩
  ·have t1 : decide (0 < fr) = false:=zf h1
   have hr : Bo n x fr = (Lib.ctz 64 x,true):=by rw [ha,zq (by omega)]
   rw [hr]
   clear hr ha
   go_enter Tryz.func148,Tryz.ntmps148
   go_wp2_with fail
   refine (HZ.out _ hT).mono ?_
   rintro e w' ⟨rfl,rfl⟩
   go_wp2_with fail
   go_ret2
   exact ⟨rfl,rfl⟩
structure IF (w : World) (b o n x : Nat) : Prop where
 n : w.cell? ⟨b,o,none⟩ = some (.int .i64 n)
 at_ : ∀i,i < 64 -> w.cell? ⟨b,o + 1 + i,none⟩ = some (.bool (x.testBit i))
theorem IF.drew {w : World} {b o n x : Nat} (h : IF w b o n x) : IF w.drew b o n x:=⟨h.n,h.at_⟩
theorem IF.drewN {w : World} {b o n x : Nat} (k : Nat) (h : IF w b o n x) : IF (w.drewN k) b o n x:=⟨h.n,h.at_⟩
theorem W6 (x j i : Nat) (hj : i < 64) : (x ^^^ 2 ^ j).testBit i = if i = j then !x.testBit j else x.testBit i:=by
 rw [Nat.testBit_xor,Nat.testBit_two_pow]
 by_cases h : i = j
 ·subst h; simp
 ·have : ¬j = i:=fun e=>h e.symm
  simp [h,this]
theorem MA {n x : Nat} {i : Int} {v : Bool} {q : Nat} (hq : q < 64) (h : (oY n x i v).1 = true) : (oY n x i v).2.testBit q = if q = i.toNat then v else x.testBit q:=by
 unfold oY at h ⊢
 split at h
 ·rename_i hc
  rw [zt hc]
  show (x ^^^ 2 ^ i.toNat).testBit q = _
  rw [W6 _ _ _ hq]
  have:=hc.2.2
  split
  ·revert this; cases x.testBit i.toNat <;> cases v <;> simp
  ·rfl
 ·cases h
theorem QL : ∀{q f x : Nat},q < f -> x.testBit q = true -> (∀r,r < q -> x.testBit r = false) -> Lib.ctzFrom f x = q:=by
 intro q
 induction q with
 | zero=>
  intro f x hf h _
  obtain ⟨f,rfl⟩ : ∃k,f = k + 1:=⟨f - 1,by omega⟩
  rw [Lib.ctzFrom,zt (by rw [DH] at h; simpa using h)]
 | succ q ih=>
  intro f x hf h hr
  obtain ⟨f,rfl⟩ : ∃k,f = k + 1:=⟨f - 1,by omega⟩
  have h0:=hr 0 (by omega)
  rw [DH] at h0
  rw [Lib.ctzFrom,zq (by simpa using h0),ih (by omega) (by rw [Nat.testBit_div_two]; exact h) (fun r hrq=>by rw [Nat.testBit_div_two]; exact hr (r + 1) (by omega))]
  omega
theorem Uu {q x : Nat} (hq : q < 64) (h : x.testBit q = true) (hr : ∀r,r < q -> x.testBit r = false) : Lib.ctz 64 x = q:=by
 have h0 : x≠0:=by rintro rfl; simp at h
 rw [Lib.ctz,zq h0]
 exact QL hq h hr
theorem WU {n x : Nat} (hx : x < 2 ^ n) {k : Nat} (h : ∀r,k <= r -> r < n -> x.testBit r = false) : x / 2 ^ k = 0:=by
 refine Nat.eq_of_testBit_eq fun i=>?_
 rw [Nat.zero_testBit,Nat.testBit_div_two_pow]
 by_cases hi : i + k < n
 ·exact h _ (by omega) hi
 ·exact Nat.testBit_lt_two_pow (Nat.lt_of_lt_of_le hx (Nat.pow_le_pow_right (by decide) (by omega)))
end Go.Proofs.YtbpblokfiajpjabGreatDoor
namespace Go.Proofs.YtbpblokfiajpjabGreatDoor
open Go.RowKit Go.SL
def Ag (b : Nat) (r u l : Int) : HP:=pts b (.cells #[.int .i64 r,.int .i64 u,.int .i64 l] 227 (0,0))
theorem PI (b : Nat) (r u l n : Int) (R : List HP) (w : World) (hl2 : l <= 1000) (H : own w (Ag b r u l::R)) :
 Calls Tryz.prog 149 #[.pointer (some ⟨b,0,none⟩),.int .i64 n] w fun e w'=>e = .returned (.bool (decide (0 <= n /\ n <= l))) /\ Ext w w' /\ own w' (Ag b r u (if 0 <= n /\ n <= l then l - n else l)::R):=by
 obtain ⟨c,f⟩:=ld 0 H rfl
 by_cases h : 0 <= n /\ n <= l
 ·simp only [h,and_self,decide_true,if_true]
  obtain ⟨h1,h2⟩:=h
  go_enter Tryz.func149,Tryz.ntmps149
  go_wp2
  go_ret
  exact ⟨rfl,(zR _).setCell _ _,lp 0 H rfl⟩
 ·simp only [h,decide_false,if_false]
  go_enter Tryz.func149,Tryz.ntmps149
  go_wp2
  all_goals go_ret
  all_goals exact ⟨rfl,zR _,H⟩
theorem XU (n r : Int) (hn : 0 <= n) (hn2 : n <= 100000) (hr : 0 <= r) (hr2 : r <= 1000) : 0 <= n * r /\ n * r <= 100000000:=by
 have:=Int.mul_le_mul hn2 hr2 hr (by omega)
 exact ⟨Int.mul_nonneg hn hr,by omega⟩
theorem Py (b : Nat) (r u l n : Int) (R : List HP) (w : World) (H : own w (Ag b r u l::R)) (hl : 0 <= l) (hl2 : l <= 1000) (hr : 0 <= r) (hr2 : r <= 1000) (hu : u <= 1000) :
 Calls Tryz.prog 185 #[.pointer (some ⟨b,0,none⟩),.int .i64 n] w fun e w'=>e = .returned (errV (if 0 <= n /\ n <= 100000 then 0 else 1)) /\ Ext w w' /\
  own w' (Ag b r u (if 0 <= n /\ n <= 100000 then min u (l + n * r) else l)::R):=by
 obtain ⟨c,f⟩:=ld 0 H rfl
 by_cases h : 0 <= n /\ n <= 100000
 ·simp only [h,and_self,if_true]
  obtain ⟨hn,hn2⟩:=h
  obtain ⟨hm,hm2⟩:=XU n r hn hn2 hr hr2
  have e1 : IntKind.i64.wrap (n * r) = n * r:=zi _ (by omega)
  have e2 : IntKind.i64.wrap (l + n * r) = l + n * r:=zi _ (by omega)
  by_cases hmin : l + n * r < u
  ·have hmm : min u (l + n * r) = l + n * r:=by omega
   simp only [hmm]
   go_enter Tryz.func185,Tryz.ntmps185
   go_wp2
   go_still_tail 17,(by kernel_rfl)
   change wpList _ _ _ _ _ w.drew
   go_wp2
   all_goals go_ret
   all_goals exact ⟨rfl,((zR _).setCell _ _).drew,ln (lp 0 H rfl)⟩
  ·have hmm : min u (l + n * r) = u:=by omega
   have hmin' : u <= l + n * r:=by omega
   simp only [hmm]
   go_enter Tryz.func185,Tryz.ntmps185
   go_wp2
   go_still_tail 17,(by kernel_rfl)
   change wpList _ _ _ _ _ w.drew
   go_wp2
   all_goals go_ret
   all_goals exact ⟨rfl,((zR _).setCell _ _).drew,ln (lp 0 H rfl)⟩
 ·simp only [h,if_false]
  go_enter Tryz.func185,Tryz.ntmps185
  go_wp2
  all_goals go_ret
  all_goals exact ⟨rfl,zR _,H⟩
def BZ (r u : Int) : Bool:=decide (0 <= r /\ r <= 1000 /\ 0 <= u /\ u <= 1000)
theorem Fi (r u : Int) (R : List HP) (w : World) (h : BZ r u = true) (H : own w R) :
 Calls Tryz.prog 70 #[.int .i64 r,.int .i64 u] w fun e w'=>e = .returned (.tuple #[.pointer (some ⟨w.heap.size,0,none⟩),.nilIface]) /\ Ext w w' /\ own w' (Ag w.heap.size r u u::R):=by
 simp only [BZ,decide_eq_true_eq] at h
 obtain ⟨h1,h2,h3,h4⟩:=h
 go_enter Tryz.func70,Tryz.ntmps70
 go_wp2
 go_ret2
 exact ⟨rfl,(zR _).alloc _,lh H _⟩
theorem MS (r u : Int) (w : World) (h : BZ r u = false) :
 Calls Tryz.prog 70 #[.int .i64 r,.int .i64 u] w fun e w'=>e = .returned (.tuple #[.pointer none,errV 1]) /\ w = w':=by
 simp only [BZ,decide_eq_false_iff_not] at h
 go_enter Tryz.func70,Tryz.ntmps70
 go_wp2
 all_goals go_ret2
 all_goals exact ⟨rfl,rfl⟩

end Go.Proofs.YtbpblokfiajpjabGreatDoor
namespace Go.Proofs.YtbpblokfiajpjabGreatDoor
open Go.RowKit Go.SL Go.Crc
attribute [local go_sem ↓] Go.wp_at_zero Go.wp_at_succ
def So (l n : Int) : Int:=if 0 <= n /\ n <= l then l - n else l
theorem Qa {b : Nat} {r u l n : Int} {L : List SL.HP} (k : Nat) (w : World) (hl2 : l <= 1000) (H : own w L) (hk : L[k]? = some (Ag b r u l)) :
  Calls Tryz.prog 149 #[.pointer (some ⟨b,0,none⟩),.int .i64 n] w fun e w'=>e = .returned (.bool (decide (0 <= n /\ n <= l))) /\ Ext w w' /\ own w' (L.set k (Ag b r u (So l n))):=by
 refine (PI b r u l n _ w hl2 (lE k H hk)).mono ?_
 rintro e w' ⟨h1,h2,h3⟩
 exact ⟨h1,h2,oT H k hk h3⟩
def Sc (r u l n : Int) : Int:=min u (l + n * r)
theorem Xm {b : Nat} {r u l n : Int} {L : List SL.HP} (k : Nat) (w : World) (H : own w L) (hk : L[k]? = some (Ag b r u l)) (hl : 0 <= l) (hl2 : l <= 1000) (hr : 0 <= r) (hr2 : r <= 1000) (hu : u <= 1000) :
  Calls Tryz.prog 185 #[.pointer (some ⟨b,0,none⟩),.int .i64 n] w fun e w'=>e = .returned (errV (if 0 <= n /\ n <= 100000 then 0 else 1)) /\ Ext w w' /\ own w' (L.set k (Ag b r u (if 0 <= n /\ n <= 100000 then Sc r u l n else l))):=by
 refine (Py b r u l n _ w (lE k H hk) hl hl2 hr hr2 hu).mono ?_
 rintro e w' ⟨h1,h2,h3⟩
 exact ⟨h1,h2,oT H k hk h3⟩
structure BkAt (C : Array Value) (o : Nat) (r u : Int) : Prop where
 r : C[o]? = some (.int .i64 r)
 u : C[o + 1]? = some (.int .i64 u)
 s : o + 2 < C.size
structure JobM where
 root : Int
 kind : Int
 file : Int
 rate : Int
 burst : Int
 list : List Int
 deep : Nat
 n : Nat
 x : Nat
 at_ : Nat
 st : Int
 level : Int
structure JobM.Ok (j : JobM) : Prop where
 kind : j.kind = 1 \/ j.kind = 2 \/ j.kind = 3
 n : j.n <= 64
 x : j.x < 2 ^ j.n
 len : j.list.length <= 5
 pos : j.list.length≠0
 deep : j.deep <= j.list.length
 rate : 0 <= j.rate /\ j.rate <= 1000
 burst : 0 <= j.burst /\ j.burst <= 1000
 level : 0 <= j.level /\ j.level <= j.burst
 at_ : j.at_ <= 200
 st : 1 <= j.st /\ j.st <= 5
theorem JobM.Ok.x64 {j : JobM} (h : j.Ok) : j.x < 2 ^ 64:=lt64 h.n h.x
def Ck (j : JobM) : Nat:=if j.kind = 1 then j.list.length else j.deep
def X9 (j : JobM) : Nat:=if j.kind = 1 then 0 else j.deep
def cnt (x : Nat) : Nat:=Ones.popc 64 x
theorem XO (x : Nat) : cnt x <= 64:=Ones.popc_le 64 x
theorem OU (x : Nat) : Ones.popc 64 x = cnt x:=rfl
attribute [irreducible] cnt
def jobP (bs bj bt bb : Nat) (v : Value) (j : JobM) : SL.HP:=pts bj (.cells #[.pointer (some ⟨bs,0,none⟩),.int .i64 j.kind,.int .i64 j.file,v,.int .i64 (Ck j : Nat),.pointer (some ⟨bt,0,none⟩),.int .i64 (j.at_ : Nat),.int .i64 j.st,.pointer (some ⟨bb,0,none⟩)] 137 (0,0))
def jobL (bs bj bt bb : Nat) (v : Value) (j : JobM) : List SL.HP:=[jobP bs bj bt bb v j,DP bt j.n j.x,Ag bb j.rate j.burst j.level]
def An (j : JobM) : JobM:=if j.st = 1 /\ cnt j.x = 0 then { j with st:=3 } else if j.st = 3 /\ 0 < cnt j.x then { j with st:=1 } else j
theorem JI {j : JobM} (h : j.Ok) : (An j).Ok:=by
 unfold An
 split
 ·exact { h with st:=by simp }
 ·split
  ·exact { h with st:=by simp }
  ·exact h
theorem BK (bs bj bt bb : Nat) (v : Value) (j : JobM) (hj : j.Ok) (L : List SL.HP) (w : World) (H : own w (jobL bs bj bt bb v j++L)) :
  Calls Tryz.prog 76 #[.pointer (some ⟨bj,0,none⟩)] w fun e w'=>e = .returned (.tuple #[]) /\ Ext w w' /\ own w' (jobL bs bj bt bb v (An j)++L):=by
 obtain ⟨c,f⟩:=ld 0 H rfl
 have c5:=c 5
 have f7:=f 7
 have hs : ∀s : Int,own (w.setCell ⟨bj,7,none⟩ (.int .i64 s)) (jobL bs bj bt bb v { j with st:=s }++L):=fun s=>lp (i:=7) 0 H rfl
 have HC : ∀w',own w' (jobL bs bj bt bb v j++L) -> Calls Tryz.prog 88 #[.pointer (some ⟨bt,0,none⟩)] w' fun e w''=>e = .returned (.int .i64 (cnt j.x : Nat)) /\ w' = w'':=fun w' h=>by have:=KR bt j.n j.x hj.x64 1 w' h rfl; rw [OU] at this; exact this
 have HC:=zh HC
 have HS:=zh hs
 have HH:=zh H
 have hq:=XO j.x
 clear hs
 unfold An
 by_cases h1 : j.st = 1
 ·have c7 : w.cell? ⟨bj,7,none⟩ = some (.int .i64 1):=by rw [<- h1]; exact c 7
  by_cases h0 : cnt j.x = 0
  ·rw [zt ⟨h1,h0⟩]
   rw [h0] at HC
   clear c f h1 h0 hq H
   go_enter Tryz.func76,Tryz.ntmps76
   go_wp2_with fail
   refine (HC.out _ HH.out).mono ?_
   rintro e w' ⟨rfl,rfl⟩
   go_wp2_with fail
   go_end0
   exact ⟨rfl,(zR _).setCell _ _,HS.out 3⟩
  ·rw [zq (fun h=>h0 h.2),zq (by rw [h1]; intro h; exact absurd h.1 (by decide))]
   generalize cnt j.x = q at *
   have d0 : ((q : Int) == 0) = false:=by rw [zb]; omega
   clear c f h1 h0 hq H
   go_enter Tryz.func76,Tryz.ntmps76
   go_wp2_with fail
   refine (HC.out _ HH.out).mono ?_
   rintro e w' ⟨rfl,rfl⟩
   go_wp2_with fail
   go_end0
   exact ⟨rfl,zR _,HH.out⟩
 ·rw [zq (fun h=>h1 h.1)]
  by_cases h3 : j.st = 3
  ·have c7 : w.cell? ⟨bj,7,none⟩ = some (.int .i64 3):=by rw [<- h3]; exact c 7
   by_cases h0 : 0 < cnt j.x
   ·rw [zt ⟨h3,h0⟩]
    generalize cnt j.x = q at *
    have d0 : decide (0 < (q : Int)) = true:=zg (by omega)
    clear c f h1 h3 hq H
    go_enter Tryz.func76,Tryz.ntmps76
    go_wp2_with fail
    refine (HC.out _ HH.out).mono ?_
    rintro e w' ⟨rfl,rfl⟩
    go_wp2_with fail
    go_end0
    exact ⟨rfl,(zR _).setCell _ _,HS.out 1⟩
   ·rw [zq (fun h=>h0 h.2)]
    generalize cnt j.x = q at *
    have d0 : decide (0 < (q : Int)) = false:=zf (by omega)
    clear c f h1 h3 hq H
    go_enter Tryz.func76,Tryz.ntmps76
    go_wp2_with fail
    refine (HC.out _ HH.out).mono ?_
    rintro e w' ⟨rfl,rfl⟩
    go_wp2_with fail
    go_end0
    exact ⟨rfl,zR _,HH.out⟩
  ·rw [zq (fun h=>h3 h.1)]
   have c7:=c 7
   have d1 : (j.st == 1) = false:=by rw [zb]; exact h1
   have d3 : (j.st == 3) = false:=by rw [zb]; exact h3
   clear c f h1 h3 hq H
   go_enter Tryz.func76,Tryz.ntmps76
   go_wp2_with fail
   go_end0
   exact ⟨rfl,zR _,HH.out⟩
theorem Ic (bs bj bt bb : Nat) (v : Value) (j : JobM) (L : List SL.HP) (w : World) (H : own w (jobL bs bj bt bb v j++L)) :
  Calls Tryz.prog 21 #[.pointer (some ⟨bj,0,none⟩)] w fun e w'=>e = .returned (.bool (decide (j.st < 4))) /\ w = w':=by
 have c7:=(ld 0 H rfl).1 7
 go_enter Tryz.func21,Tryz.ntmps21
 go_wp2_with fail
 go_ret
 exact ⟨rfl,rfl⟩
def endM (j : JobM) (well : Bool) : JobM:={ j with st:=if well then 4 else 5 }
theorem Qu {j : JobM} (h : j.Ok) (b : Bool) : (endM j b).Ok:={ h with st:=by cases b <;> simp [endM] }
theorem N9 (bs bj bt bb : Nat) (v : Value) (j : JobM) (well : Bool) (L : List SL.HP) (w : World) (H : own w (jobL bs bj bt bb v j++L)) :
  Calls Tryz.prog 87 #[.pointer (some ⟨bj,0,none⟩),.bool well] w fun e w'=>e = .returned (.tuple #[]) /\ Ext w w' /\ own w' (jobL bs bj bt bb v (endM j well)++L):=by
 have c7:=(ld 0 H rfl).1 7
 have f7:=(ld 0 H rfl).2 7
 have H1 : own (w.setCell ⟨bj,7,none⟩ (.int .i64 5)) (jobL bs bj bt bb v { j with st:=5 }++L):=lp (i:=7) 0 H rfl
 cases well
 ·go_enter Tryz.func87,Tryz.ntmps87
  go_wp2_with fail
  go_end0
  exact ⟨rfl,(zR _).setCell _ _,H1⟩
 ·have d7:=(ld 0 H1 rfl).1 7
  have g7:=(ld 0 H1 rfl).2 7
  have H2 : own ((w.setCell ⟨bj,7,none⟩ (.int .i64 5)).setCell ⟨bj,7,none⟩ (.int .i64 4)) (jobL bs bj bt bb v { j with st:=4 }++L):=lp (i:=7) 0 H1 rfl
  go_enter Tryz.func87,Tryz.ntmps87
  go_wp2_with fail
  go_end0
  exact ⟨rfl,((zR _).setCell _ _).setCell _ _,H2⟩
def AP (j : JobM) (n : Int) : JobM:=if 0 <= n /\ n <= 100000 then { j with level:=Sc j.rate j.burst j.level n } else j
theorem UP {j : JobM} (h : j.Ok) (n : Int) : (AP j n).Ok:=by
 unfold AP
 split
 ·rename_i hn
  have:=h.level
  have h2 : 0 <= n * j.rate:=Int.mul_nonneg hn.1 h.rate.1
  exact { h with level:=by simp only [Sc]; omega }
 ·exact h
theorem UL (bs bj bt bb : Nat) (v : Value) (j : JobM) (hj : j.Ok) (n : Int) (L : List SL.HP) (w : World) (H : own w (jobL bs bj bt bb v j++L)) :
  Calls Tryz.prog 83 #[.pointer (some ⟨bj,0,none⟩),.int .i64 n] w fun e w'=>e = .returned (errV (if 0 <= n /\ n <= 100000 then 0 else 1)) /\ Ext w w' /\ own w' (jobL bs bj bt bb v (AP j n)++L):=by
 have c8:=(ld 0 H rfl).1 8
 have hT:=Xm (b:=bb) (r:=j.rate) (u:=j.burst) (l:=j.level) (n:=n) 2 w H rfl hj.level.1 (by have:=hj.level; have:=hj.burst; omega) hj.rate.1 hj.rate.2 hj.burst.2
 unfold AP
 by_cases hn : 0 <= n /\ n <= 100000
 all_goals
  first
  |rw [zt hn,zt hn] at hT
   rw [zt hn,zt hn]
  |rw [zq hn,zq hn] at hT
   rw [zq hn,zq hn]
  have HT:=zh hT
  clear hT hn
  go_enter Tryz.func83,Tryz.ntmps83
  go_wp2_with fail
  refine HT.out.mono ?_
  rintro e w' ⟨rfl,hx,h⟩
  go_wp2_with fail
  go_ret
  exact ⟨rfl,hx,h⟩
def zl (j : JobM) (c : Int) : JobM:=if j.st < 4 /\ j.kind≠2 then An { j with x:=(oY j.n j.x c true).2 } else j
theorem It {j : JobM} (h : j.Ok) (c : Int) : (zl j c).Ok:=by
 unfold zl
 split
 ·exact JI { h with x:=Fu h.n h.x c true }
 ·exact h
theorem Tc (bs bj bt bb : Nat) (v : Value) (j : JobM) (hj : j.Ok) (c : Int) (L : List SL.HP) (w : World) (H : own w (jobL bs bj bt bb v j++L)) :
  Calls Tryz.prog 80 #[.pointer (some ⟨bj,0,none⟩),.int .i64 c] w fun e w'=>e = .returned (.tuple #[]) /\ Ext w w' /\ own w' (jobL bs bj bt bb v (zl j c)++L):=by
 have hG:=Ic bs bj bt bb v j L w H
 have c1:=(ld 0 H rfl).1 1
 have c5:=(ld 0 H rfl).1 5
 unfold zl
 by_cases h4 : j.st < 4
 ·rw [zg h4] at hG
  have HG:=zh hG
  by_cases h2 : j.kind = 2
  ·rw [zq (fun h=>h.2 h2)]
   have d2 : w.cell? ⟨bj,1,none⟩ = some (.int .i64 2):=by rw [<- h2]; exact c1
   clear hG c1
   go_enter Tryz.func80,Tryz.ntmps80
   go_wp2_with fail
   refine HG.out.mono ?_
   rintro e w' ⟨rfl,rfl⟩
   go_wp2_with fail
   refine bodyPost_ret (results_none rfl _ _ _) rfl ?_
   exact ⟨rfl,zR _,H⟩
  ·rw [zt ⟨h4,h2⟩]
   have d2 : (j.kind == 2) = false:=by rw [zb]; exact h2
   have HP:=zh (Dq bt j.n j.x hj.n hj.x c true 1 w H rfl)
   have HT:=zh (fun w' h=>BK bs bj bt bb v { j with x:=(oY j.n j.x c true).2 } { hj with x:=Fu hj.n hj.x c true } L w' h)
   clear hG
   go_enter Tryz.func80,Tryz.ntmps80
   go_wp2_with fail
   refine HG.out.mono ?_
   rintro e w' ⟨rfl,rfl⟩
   go_wp2_with fail
   refine HP.out.mono ?_
   rintro e w2 ⟨rfl,hx2,h2'⟩
   have h3 : own w2 (jobL bs bj bt bb v { j with x:=(oY j.n j.x c true).2 }++L):=h2'
   go_wp2_with fail
   refine (HT.out w2 h3).mono ?_
   rintro e w3 ⟨rfl,hx3,h4'⟩
   go_wp2_with fail
   go_end0
   exact ⟨rfl,hx2.trans hx3,h4'⟩
 ·rw [zf h4] at hG
  have HG:=zh hG
  rw [zq (fun h=>h4 h.1)]
  clear hG
  go_enter Tryz.func80,Tryz.ntmps80
  go_wp2_with fail
  refine HG.out.mono ?_
  rintro e w' ⟨rfl,rfl⟩
  go_wp2_with fail
  refine bodyPost_ret (results_none rfl _ _ _) rfl ?_
  exact ⟨rfl,zR _,H⟩
def yX (j : JobM) (on : Bool) : Int×JobM:=
 if on then (if j.st = 1 \/ j.st = 3 then (0,{ j with st:=2 }) else (9,j))
 else (if j.st = 2 then (0,An { j with st:=1 }) else (9,j))
theorem Ms {j : JobM} (h : j.Ok) (on : Bool) : (yX j on).2.Ok:=by
 unfold yX
 split
 ·split
  ·exact { h with st:=by simp }
  ·exact h
 ·split
  ·exact JI (j:={ j with st:=1 }) { h with st:=by simp }
  ·exact h
theorem KP (bs bj bt bb : Nat) (v : Value) (j : JobM) (hj : j.Ok) (on : Bool) (L : List SL.HP) (w : World) (H : own w (jobL bs bj bt bb v j++L)) :
  Calls Tryz.prog 57 #[.pointer (some ⟨bj,0,none⟩),.bool on] w fun e w'=>e = .returned (errV (yX j on).1) /\ Ext w w' /\ own w' (jobL bs bj bt bb v (yX j on).2++L):=by
 have c7:=(ld 0 H rfl).1 7
 have f7:=(ld 0 H rfl).2 7
 have hs : ∀s : Int,own (w.setCell ⟨bj,7,none⟩ (.int .i64 s)) (jobL bs bj bt bb v { j with st:=s }++L):=fun s=>lp (i:=7) 0 H rfl
 have H1:=hs 1
 have H2:=hs 2
 have HT:=zh (fun w' h=>BK bs bj bt bb v { j with st:=1 } { hj with st:=by simp } L w' h)
 clear hs
 unfold yX
 cases on
 ·rw [zq (by decide)]
  by_cases h2 : j.st = 2
  ·rw [zt h2]
   have d2 : w.cell? ⟨bj,7,none⟩ = some (.int .i64 2):=by rw [<- h2]; exact c7
   clear c7 h2
   go_enter Tryz.func57,Tryz.ntmps57
   go_wp2_with fail
   refine (HT.out _ H1).mono ?_
   rintro e w' ⟨rfl,hx,h⟩
   go_wp2_with fail
   go_ret
   exact ⟨rfl,((zR _).setCell _ _).trans hx,h⟩
  ·rw [zq h2]
   have d2 : (j.st == 2) = false:=by rw [zb]; exact h2
   clear h2
   go_enter Tryz.func57,Tryz.ntmps57
   go_wp2_with fail
   go_ret
   exact ⟨rfl,zR _,H⟩
 ·rw [zt rfl]
  by_cases h1 : j.st = 1
  ·rw [zt (.inl h1)]
   have d2 : w.cell? ⟨bj,7,none⟩ = some (.int .i64 1):=by rw [<- h1]; exact c7
   clear c7 h1
   go_enter Tryz.func57,Tryz.ntmps57
   go_wp2_with fail
   go_ret
   exact ⟨rfl,(zR _).setCell _ _,H2⟩
  ·have d1 : (j.st == 1) = false:=by rw [zb]; exact h1
   by_cases h3 : j.st = 3
   ·rw [zt (.inr h3)]
    have d2 : w.cell? ⟨bj,7,none⟩ = some (.int .i64 3):=by rw [<- h3]; exact c7
    clear c7 h1 h3 d1
    go_enter Tryz.func57,Tryz.ntmps57
    go_wp2_with fail
    go_ret
    exact ⟨rfl,(zR _).setCell _ _,H2⟩
   ·rw [zq (by rintro (h | h); exact h1 h; exact h3 h)]
    have d3 : (j.st == 3) = false:=by rw [zb]; exact h3
    clear h1 h3
    go_enter Tryz.func57,Tryz.ntmps57
    go_wp2_with fail
    go_ret
    exact ⟨rfl,zR _,H⟩
theorem lW.take {w : World} {ao : Option Addr} {n cap : Nat} {l : List Int} (h : lW w (.slice ao n cap) l) (d : Nat) (hd : d <= l.length) : lW w (.slice ao d cap) (l.take d):=by
 obtain ⟨ao',b,off,cap',hv,h1,h2,h3,h4⟩:=h.form
 simp only [Value.slice.injEq] at hv
 obtain ⟨rfl,rfl,rfl⟩:=hv
 have hlen : (l.take d).length = d:=by simp; omega
 refine ⟨ao,b,off,cap,by rw [hlen],by omega,h2,fun h0=>h3 (by omega),fun i hi=>?_⟩
 have hi2 : i < d:=by omega
 have:=h4 i (by omega)
 dsimp only
 rw [this]
 simp [List.getElem?_take,hi2]
def oQ (F : ShM) (j : JobM) (c : Int) : Bool:=if j.kind = 1 then true else if j.kind = 2 then decide (0 < yK F (j.list.take j.deep) c) else decide (0 <= yK F (j.list.take j.deep) c)
theorem CM (bs : Nat) (A : Nat -> Nat×Nat×Nat) (F : ShM) (hF : ShOk F) (bj bt bb : Nat) (v : Value) (j : JobM) (hj : j.Ok) (hl : ∀x∈j.list,lz F x) (c : Int) (R : List SL.HP) (w : World)
  (hv : ∀w' L,own w' (L++R) -> lW w' v j.list) (H : own w (shL bs A F++(jobL bs bj bt bb v j++R))) :
  Calls Tryz.prog 75 #[.pointer (some ⟨bj,0,none⟩),.int .i64 c] w fun e w'=>e = .returned (.bool (oQ F j c)) /\ ∃n,w' = w.drewN n:=by
 have hvw:=zw hv (jobL bs bj bt bb v j)
 obtain ⟨ao,lb,off,cap,rfl,hlc,hcap,hao,-⟩:=(hvw w _ H).form
 have hd : Ck j <= j.list.length:=by unfold Ck; split; exact Nat.le_refl _; exact hj.deep
 have hf : ∀w',own w' (shL bs A F++(jobL bs bj bt bb (.slice ao j.list.length cap) j++R)) -> Calls Tryz.prog 152 #[.pointer (some ⟨bs,0,none⟩),.slice ao (Ck j) cap,.int .i64 c] w' fun e w''=>e = .returned (.int .i64 (yK F (j.list.take (Ck j)) c)) /\ w' = w'':=fun w' h=>
  L4 bs A F hF _ _ (fun x hx=>hl x (List.mem_of_mem_take hx)) (by rw [List.length_take]; have:=hj.len; omega) c _ w' ((hvw w' _ h).take _ hd) h
 obtain ⟨cc,-⟩:=ld 6 H rfl
 have c0:=cc 0
 have c1:=cc 1
 have c3:=cc 3
 have c4:=cc 4
 have i1 : (0 : Int) <= (Ck j : Nat):=by omega
 have i2 : ((Ck j : Nat) : Int) <= (cap : Int):=by omega
 have hr : oQ F j c = if j.kind = 1 then true else if j.kind = 2 then decide (0 < yK F (j.list.take (Ck j)) c) else decide (0 <= yK F (j.list.take (Ck j)) c):=by
  unfold oQ Ck
  by_cases h : j.kind = 1
  ·rw [zt h,zt h]
  ·rw [zq h,zq h,zq h]
 rw [hr]
 have hk:=hj.kind
 have HF:=zh hf
 have HOW:=zh H
 generalize yK F (j.list.take (Ck j)) c = fi at *
 generalize Ck j = dp at *
 have hkk : ∀n,(w.drewN n).cell? ⟨bj,1,none⟩ = some (.int .i64 j.kind):=fun n=>c1
 clear hr hf hl hv hvw hao H cc hd hlc c1
 generalize j.kind = kd at *
 rcases hk with rfl | rfl | rfl
 all_goals
  first
  | rw [zt rfl]
  | rw [zq (by decide),zt rfl]
  | rw [zq (by decide),zq (by decide)]
  go_enter Tryz.func75,Tryz.ntmps75
  go_upto_region 1 with (fail)
  go_quiet ((go_at_call 152; exact Calls.quiet_of_same ((HF.out _ (by first | exact HOW.out | exact ln HOW.out | exact lI _ HOW.out)).mono fun e w' h=>⟨h.1,h.2.symm⟩)))
  have k1:=hkk nq
  clear hkk c0 c3 c4
  go_wp2_with fail
  go_ret
  exact ⟨rfl,_,rfl⟩
def Fq (j : JobM) : Value:=.agg #[.int .i64 j.kind,.int .i64 j.file,.int .i64 j.st,.int .i64 (cnt j.x : Nat)]
theorem Ds {fn : Func} {t : Tmp} (h : fn.results = #[.cell t 47]) (tmps : Array Value) (w : World) (g : Nat) (a b c d : Int) (hg : tmps.getD t undef = .pointer (some ⟨g,0,none⟩))
  (h0 : w.cell? ⟨g,0,none⟩ = some (.int .i64 a)) (h1 : w.cell? ⟨g,1,none⟩ = some (.int .i64 b)) (h2 : w.cell? ⟨g,2,none⟩ = some (.int .i64 c)) (h3 : w.cell? ⟨g,3,none⟩ = some (.int .i64 d)) :
  (results fn tmps).run Tryz.prog w = .ok (.agg #[.int .i64 a,.int .i64 b,.int .i64 c,.int .i64 d]) w:=by
 rw [D1 h,hg]
 go_simp
theorem I2 (bs bj bt bb : Nat) (v : Value) (j : JobM) (hj : j.Ok) (L : List SL.HP) (w : World) (H : own w (jobL bs bj bt bb v j++L)) :
  Calls Tryz.prog 19 #[.pointer (some ⟨bj,0,none⟩)] w fun e w'=>e = .returned (Fq j) /\ Ext w w' /\ own w' (jobL bs bj bt bb v j++L):=by
 have ha:=lh H (.cells #[.int .i64 0,.int .i64 0,.int .i64 0,.int .i64 0] 47)
 have hxa:=(zR w).alloc (.cells #[.int .i64 0,.int .i64 0,.int .i64 0,.int .i64 0] 47)
 have hc : ∀g w',own w' (pts g (.cells #[.int .i64 0,.int .i64 0,.int .i64 0,.int .i64 0] 47 (0,0))::(jobL bs bj bt bb v j++L)) -> Calls Tryz.prog 88 #[.pointer (some ⟨bt,0,none⟩)] w' fun e w''=>e = .returned (.int .i64 (cnt j.x : Nat)) /\ w' = w'':=
  fun g w' h=>by have:=KR bt j.n j.x hj.x64 2 w' h rfl; rw [OU] at this; exact this
 have HC:=zh hc
 unfold Fq
 generalize cnt j.x = q at *
 clear hc H
 go_enter Tryz.func19,Tryz.ntmps19
 go_upto_region 1 with (fail)
 generalize w.heap.size = g at *
 generalize w.alloc (.cells #[.int .i64 0,.int .i64 0,.int .i64 0,.int .i64 0] 47) = w1 at *
 obtain ⟨cc,ff⟩:=ld 1 ha rfl
 have c1:=cc 1
 have c2:=cc 2
 have c5:=cc 5
 have c7:=cc 7
 clear cc ff
 have hb:=ln ha
 have hxb:=hxa.drew
 have hcq:=(HC.out _ _ hb).mono fun e w' h=>(⟨h.1,h.2.symm⟩ : e = .returned (.int .i64 (q : Int)) /\ w' = w1.drew)
 go_still_tail 18,(by kernel_rfl)
 still_call hcq
 repeat still_step
 refine wpStill_nil ?_
 change wpList _ _ _ _ _ w1.drew
 clear ha hxa c1 c2 c5 c7 hcq
 generalize w1.drew = w2 at *
 obtain ⟨cg,fg⟩:=ld 0 hb rfl
 go_wp2_with fail
 have h5:=lp (i:=3) (v:=.int .i64 (q : Int)) 0 (lp (i:=2) (v:=.int .i64 j.st) 0 (lp (i:=1) (v:=.int .i64 j.file) 0 (lp (i:=0) (v:=.int .i64 j.kind) 0 hb rfl) rfl) rfl) rfl
 obtain ⟨c3,-⟩:=ld 0 h5 rfl
 refine bodyPost_ret (Ds rfl _ _ g j.kind j.file j.st (q : Int) rfl (c3 0) (c3 1) (c3 2) (c3 3)) rfl ?_
 exact ⟨rfl,(((hxb.setCell _ _).setCell _ _).setCell _ _).setCell _ _,lg h5⟩
structure JobS (F : ShM) (j : JobM) : Prop where
 list : ∀x∈j.list,lz F x
 file : j.kind≠2 -> lz F j.file
def toM (j : JobM) : Int:=if j.kind = 2 then j.list.getD 0 0 else j.file
theorem Nx {F : ShM} {j : JobM} (hj : j.Ok) (h : JobS F j) : lz F (toM j):=by
 unfold toM
 split
 ·exact h.list _ (mem0 hj.pos)
 ·rename_i h2; exact h.file h2
theorem JobS.step {F F' : ShM} {j : JobM} {n : Nat} (h : JobS F j) (s : lJ n F F') : JobS F' j:=⟨fun x hx=>s.file (h.list x hx),fun h2=>s.file (h.file h2)⟩
theorem Sl {F : ShM} (hF : ShOk F) {l : List Int} (hl : ∀x∈l,lz F x) (c : Int) : (oJ F l c).1.size <= 64:=by
 by_cases h0 : l.length = 0
 ·unfold oJ; rw [zt h0]; exact Nat.zero_le _
 ·by_cases hc : CN F (l.getD 0 0) c = true
  ·rw [(FB hF hl h0 hc).2]; exact Nat.le_refl _
  ·unfold oJ; rw [zq h0,zt (by simpa using hc)]; exact Nat.zero_le _
def yr (F : ShM) (j : JobM) (c : Int) : Int×ShM:=
 if oQ F j c = false then (0,F) else if (oJ F j.list c).2≠0 then ((oJ F j.list c).2,F) else y8 F (toM j).toNat c (oJ F j.list c).1
theorem Fa {F : ShM} (hF : ShOk F) {j : JobM} (hj : j.Ok) (h : JobS F j) (c : Int) : lJ 5 F (yr F j c).2:=by
 unfold yr
 split
 ·exact lJ.refl hF 5
 ·split
  ·exact lJ.refl hF 5
  ·obtain ⟨h0,h1,-⟩:=Nx hj h
   exact Tn hF (by omega) c _
theorem Jj (F : ShM) (j : JobM) (c : Int) : 0 <= (yr F j c).1:=by
 unfold yr
 split
 ·simp
 ·split
  ·exact J8 F _ _
  ·exact JV F _ _ _
theorem Ux (bs : Nat) (A : Nat -> Nat×Nat×Nat) (F : ShM) (hF : ShOk F) (bj bt bb : Nat) (v : Value) (j : JobM) (hj : j.Ok) (hS : JobS F j) (c : Int) (R : List SL.HP) (w : World)
  (hv : ∀w' L,own w' (L++R) -> lW w' v j.list) (H : own w (shL bs A F++(jobL bs bj bt bb v j++R))) :
  Calls Tryz.prog 150 #[.pointer (some ⟨bj,0,none⟩),.int .i64 c] w fun e w'=>e = .returned (errV (yr F j c).1) /\ Ext w w' /\ own w' (shL bs A (yr F j c).2++(jobL bs bj bt bb v j++R)):=by
 have HW:=zh (CM bs A F hF bj bt bb v j hj hS.list c R w hv H)
 have hvw:=zw hv (jobL bs bj bt bb v j)
 have HR:=zh (fun w' h=>FJ bs A F hF v j.list hS.list hj.len c (jobL bs bj bt bb v j++R) w' hvw h)
 have hto:=Nx hj hS
 obtain ⟨k,m,hxk,hk,hFk⟩:=oF hto
 have hsz:=Sl hF hS.list c
 have HM:=zh (fun w' h=>UT bs A F hF k m hk hFk c (oJ F j.list c).1 (by omega) (jobL bs bj bt bb v j++R) w' h)
 have e0 : yr F j c = if oQ F j c = false then (0,F) else if (oJ F j.list c).2≠0 then ((oJ F j.list c).2,F) else y8 F k c (oJ F j.list c).1:=by
  unfold yr; rw [hxk,zn]
 have hcode:=J8 F j.list c
 have hmc:=JV F k c (oJ F j.list c).1
 rw [e0]
 generalize oJ F j.list c = rd at *
 obtain ⟨t,rc⟩:=rd
 dsimp only at *
 generalize y8 F k c t = mv at *
 obtain ⟨mc,F'⟩:=mv
 dsimp only at *
 have HOW:=zh H
 clear e0 hFk hsz hto
 cases hw : oQ F j c
 ·rw [hw] at HW
  rw [zt rfl]
  clear hw
  go_enter Tryz.func150,Tryz.ntmps150
  go_wp2_with fail
  refine HW.out.mono ?_
  rintro e w2 ⟨rfl,n2,rfl⟩
  go_wp2_with fail
  go_ret
  exact ⟨rfl,(zR _).drewN _,lI _ HOW.out⟩
 ·rw [hw] at HW
  rw [zq (by decide)]
  obtain ⟨ao,lb,off,cap,rfl,hlc,hcap,hao,-⟩:=(hvw w _ H).form
  obtain rfl:=hao (by have:=hj.pos; omega)
  have HV:=zh hvw
  have hpos : 0 < j.list.length:=by have:=hj.pos; omega
  have hlen : j.list.length <= cap:=hlc
  unfold toM at hxk
  clear hw hlc hao hvw hv
  by_cases hrc : rc = 0
  ·subst hrc
   rw [zq (by decide)]
   by_cases hkd : j.kind = 2
   ·rw [zt hkd] at hxk
    have HX:=zh hxk
    have HKD:=zh hkd
    rw [show errV 0 = .nilIface from rfl] at HR
    have l0 : (0 : Int) < (j.list.length : Int):=by omega
    clear hxk hkd
    go_enter Tryz.func150,Tryz.ntmps150
    go_wp2_with fail
    refine HW.out.mono ?_
    rintro e w2 ⟨rfl,n2,rfl⟩
    have h2:=lI n2 H
    have hx2:=(zR w).drewN n2
    clear H
    generalize w.drewN n2 = w3 at *
    go_upto_region 3 with (fail)
    have hd:=ln h2
    have hxd:=hx2.drew
    clear h2 hx2
    go_region_held3 (fun w'=>w'.cell? ⟨bj,0,none⟩ = some (.pointer (some ⟨bs,0,none⟩)) /\ w'.cell? ⟨bj,3,none⟩ = some (.slice (some ⟨lb,off,none⟩) j.list.length cap)) (first | exact ⟨(ld 6 hd rfl).1 0,(ld 6 hd rfl).1 3⟩ | exact ⟨(ld 6 h4 rfl).1 0,(ld 6 h4 rfl).1 3⟩) ((go_at_call 59; refine (HR.out _ hd).mono ?_; rintro e w4 ⟨rfl,hx4,h4⟩))
    have hx5:=hxd.trans hx4
    clear hd hxd hx4
    have c0:=(ld 6 h4 rfl).1 0
    have c1 : w4.cell? ⟨bj,1,none⟩ = some (.int .i64 2):=by rw [<- HKD.out]; exact (ld 6 h4 rfl).1 1
    have c2:=(ld 6 h4 rfl).1 2
    have c3:=(ld 6 h4 rfl).1 3
    have c9 : w4.cell? ⟨lb,off,none⟩ = some (.int .i64 (k : Int)):=by rw [<- HX.out]; exact zx (HV.out _ _ h4) hpos
    go_wp2_with fail
    refine (HM.out _ h4).mono ?_
    rintro e w5 ⟨rfl,hx6,h6⟩
    go_wp2_with fail
    go_ret
    exact ⟨rfl,hx5.trans hx6,h6⟩
   ·rw [zq hkd] at hxk
    have HX:=zh hxk
    have d2 : (j.kind == 2) = false:=by rw [zb]; exact hkd
    rw [show errV 0 = .nilIface from rfl] at HR
    clear hxk hkd
    go_enter Tryz.func150,Tryz.ntmps150
    go_wp2_with fail
    refine HW.out.mono ?_
    rintro e w2 ⟨rfl,n2,rfl⟩
    have h2:=lI n2 H
    have hx2:=(zR w).drewN n2
    clear H
    generalize w.drewN n2 = w3 at *
    go_upto_region 3 with (fail)
    have hd:=ln h2
    have hxd:=hx2.drew
    clear h2 hx2
    go_region_held3 (fun w'=>w'.cell? ⟨bj,0,none⟩ = some (.pointer (some ⟨bs,0,none⟩)) /\ w'.cell? ⟨bj,3,none⟩ = some (.slice (some ⟨lb,off,none⟩) j.list.length cap)) (first | exact ⟨(ld 6 hd rfl).1 0,(ld 6 hd rfl).1 3⟩ | exact ⟨(ld 6 h4 rfl).1 0,(ld 6 h4 rfl).1 3⟩) ((go_at_call 59; refine (HR.out _ hd).mono ?_; rintro e w4 ⟨rfl,hx4,h4⟩))
    have hx5:=hxd.trans hx4
    clear hd hxd hx4
    have c0:=(ld 6 h4 rfl).1 0
    have c1:=(ld 6 h4 rfl).1 1
    have c2 : w4.cell? ⟨bj,2,none⟩ = some (.int .i64 (k : Int)):=by rw [<- HX.out]; exact (ld 6 h4 rfl).1 2
    go_wp2_with fail
    refine (HM.out _ h4).mono ?_
    rintro e w5 ⟨rfl,hx6,h6⟩
    go_wp2_with fail
    go_ret
    exact ⟨rfl,hx5.trans hx6,h6⟩
  ·rw [zt hrc]
   have hp : 0 < rc:=by omega
   rw [lv hp] at HR ⊢
   clear hxk hrc
   go_enter Tryz.func150,Tryz.ntmps150
   go_wp2_with fail
   refine HW.out.mono ?_
   rintro e w2 ⟨rfl,n2,rfl⟩
   have h2:=lI n2 H
   have hx2:=(zR w).drewN n2
   clear H
   generalize w.drewN n2 = w3 at *
   go_upto_region 3 with (fail)
   have hd:=ln h2
   have hxd:=hx2.drew
   clear h2 hx2
   go_region_held3 (fun w'=>w'.cell? ⟨bj,0,none⟩ = some (.pointer (some ⟨bs,0,none⟩)) /\ w'.cell? ⟨bj,3,none⟩ = some (.slice (some ⟨lb,off,none⟩) j.list.length cap)) (first | exact ⟨(ld 6 hd rfl).1 0,(ld 6 hd rfl).1 3⟩ | exact ⟨(ld 6 h4 rfl).1 0,(ld 6 h4 rfl).1 3⟩) ((go_at_call 59; refine (HR.out _ hd).mono ?_; rintro e w4 ⟨rfl,hx4,h4⟩))
   have hx5:=hxd.trans hx4
   clear hd hxd hx4
   go_wp2_with fail
   go_ret
   exact ⟨rfl,hx5,h4⟩
end Go.Proofs.YtbpblokfiajpjabGreatDoor
namespace Go.Proofs.YtbpblokfiajpjabGreatDoor
open Go.RowKit Go.SL Go.Deep Go.ChangeShapes Go.WideShapes Go.Joins
section
variable {H : Type} {enc : TypeId×Value -> H} {w : World} {base : Nat} {spare : Nat -> Bool} {held : Bool}
end
end Go.Proofs.YtbpblokfiajpjabGreatDoor
namespace Go.Proofs.YtbpblokfiajpjabGreatDoor
open Go.RowKit Go.SL Go.Crc Go.Deep Go.ChangeShapes Go.WideShapes
attribute [local go_sem ↓] Go.wp_at_zero Go.wp_at_succ
structure FV where
 there : Bool
 c : Int
 p : Int
 b : Int
 iv : Value
 is : List Int
def JC : FV:=⟨false,0,0,0,.slice none 0 0,[]⟩
instance : Inhabited FV:=⟨JC⟩
def L5 (w : World) (b o : Nat) (f : FV) : Prop:=
 w.cell? ⟨b,o,none⟩ = some (.bool f.there) /\ w.cell? ⟨b,o + 1,none⟩ = some (.int .i64 f.c) /\ w.cell? ⟨b,o + 2,none⟩ = some (.int .i64 f.p) /\ w.cell? ⟨b,o + 3,none⟩ = some (.int .i64 f.b) /\ w.cell? ⟨b,o + 4,none⟩ = some f.iv
structure X6 (w : World) (f : FV) : Prop where
 c : yb f.c
 p : yb f.p
 b : yb f.b
 is : lW w f.iv f.is
 all : ∀x∈f.is,yb x
def Fj (w : World) (v : Value) (l : List FV) : Prop:=
 SlAt v l.length (fun b off i=>L5 w b (off + i * 5) (l.getD i JC)) /\ ∀f∈l,X6 w f
theorem Fj.form {w : World} {v : Value} {l : List FV} (h : Fj w v l) : ∃ao b off cap,v = .slice ao l.length cap /\ l.length <= cap /\ cap <= 9223372036854775807 /\ (0 < l.length -> ao = some ⟨b,off,none⟩) /\
  ∀i,i < l.length -> L5 w b (off + i * 5) (l.getD i JC):=by
 obtain ⟨⟨ao,b,off,cap,hv,h1,h2,h3,h4⟩,-⟩:=h
 exact ⟨ao,b,off,cap,hv,h1,h2,h3,h4⟩
theorem Th {w w' : World} {L : List HP} (k : Nat) (H : own w' L) (hk : L[k]? = some (oX w)) {v : Value} {l : List Int} (h : lW w v l) : lW w' v l:=by
 obtain ⟨ao,b,off,cap,hv,h1,h2,h3,h4⟩:=h
 exact ⟨ao,b,off,cap,hv,h1,h2,h3,fun i hi=>yI k H hk (h4 i hi)⟩
theorem Fj.later {w w' : World} {L : List HP} (k : Nat) (H : own w' L) (hk : L[k]? = some (oX w)) {v : Value} {l : List FV} (h : Fj w v l) : Fj w' v l:=by
 obtain ⟨⟨ao,b,off,cap,hv,h1,h2,h3,h4⟩,h5⟩:=h
 refine ⟨⟨ao,b,off,cap,hv,h1,h2,h3,fun i hi=>?_⟩,fun f hf=>?_⟩
 ·obtain ⟨c0,c1,c2,c3,c4⟩:=h4 i hi
  exact ⟨yI k H hk c0,yI k H hk c1,yI k H hk c2,yI k H hk c3,yI k H hk c4⟩
 ·have ok:=h5 f hf
  exact ⟨ok.c,ok.p,ok.b,Th k H hk ok.is,ok.all⟩
section
variable {H : Type} {enc : TypeId×Value -> H} {w : World} {base : Nat} {spare : Nat -> Bool} {held : Bool}
end
end Go.Proofs.YtbpblokfiajpjabGreatDoor
namespace Go.Proofs.YtbpblokfiajpjabGreatDoor
open Go.RowKit Go.SL Go.Crc
attribute [local go_sem ↓] Go.wp_at_zero Go.wp_at_succ
theorem Ba {w : World} {L : List HP} (H : own w L) : own w (emp::L):=
 y7 (l:=L) (fun h hh=>⟨fun _=>none,h,fun _=>.inl ⟨rfl,rfl⟩,fun _=>rfl,hh⟩) H
def setA {α : Type} (A : Nat -> α) (k : Nat) (x : α) : Nat -> α:=fun j=>if j = k then x else A j
theorem Iw {α : Type} (A : Nat -> α) (k : Nat) (x : α) : setA A k x k = x:=zt rfl
theorem IE {α : Type} (A : Nat -> α) {k j : Nat} (x : α) (h : j≠k) : setA A k x j = A j:=zq h
theorem XT {w : World} {b bi bd bh k : Nat} {A : Nat -> Nat×Nat×Nat} {F : ShM} {m : ImgM} {R : List SL.HP} (hk : k < 5) (hF : F k = none) (H : own w (lL bi bd bh m::lj bd m.d::(shL b A F++R))) :
  own (w.setCell ⟨b,k,none⟩ (.pointer (some ⟨bi,0,none⟩))) (shL b (setA A k (bi,bd,bh)) (put F k m)++R):=by
 have h1:=lp (i:=k) (v:=.pointer (some ⟨bi,0,none⟩)) 2 H rfl
 have h2:=AV [lL bi bd bh m,lj bd m.d] h1
 have hs : ∀j,j≠k -> oG (setA A k (bi,bd,bh)) (put F k m) j = oG A F j:=fun j hj=>by unfold oG; rw [Ak F m hj,IE A _ hj]
 have hv : ∀j,j≠k -> yE (setA A k (bi,bd,bh)) (put F k m) j = yE A F j:=fun j hj=>by unfold yE; rw [Ak F m hj,IE A _ hj]
 have hs' : oG (setA A k (bi,bd,bh)) (put F k m) k = star [lL bi bd bh m,lj bd m.d]:=by unfold oG; rw [oU,Iw]
 have hv' : yE (setA A k (bi,bd,bh)) (put F k m) k = .pointer (some ⟨bi,0,none⟩):=by unfold yE; rw [oU,Iw]
 have hg : ∀P0 : SL.HP,(P0::oG A F 0::oG A F 1::oG A F 2::oG A F 3::oG A F 4::R)[1 + k]? = some (oG A F k):=fun P0=>by
  rcases k with _ | _ | _ | _ | _ | k
  ·rfl
  ·rfl
  ·rfl
  ·rfl
  ·rfl
  ·omega
 have h3:=oT (lg h2) (1 + k) (hg _) (li ((1 + k) + 1) h2 (hg _))
 refine (congrArg (own _) ?_).mp h3
 rcases k with _ | _ | _ | _ | _ | k
 case succ.succ.succ.succ.succ=>omega
 all_goals
  unfold shL yk
  rw [hs',hv']
  simp [hs,hv]
theorem SS {w : World} {b k : Nat} {A : Nat -> Nat×Nat×Nat} {F : ShM} {R : List SL.HP} (hk : k < 5) (hF : F k = none) (H : own w (shL b A F++R)) : own (w.setCell ⟨b,k,none⟩ (.pointer none)) (shL b A F++R):=by
 have h1:=lp (i:=k) (v:=.pointer none) 0 H rfl
 have hv:=CV (A:=A) hF
 refine (congrArg (own _) ?_).mp h1
 rcases k with _ | _ | _ | _ | _ | k
 case succ.succ.succ.succ.succ=>omega
 all_goals
  unfold shL yk
  rw [hv]
  rfl
theorem UC {w : World} {R : List SL.HP} (A : Nat -> Nat×Nat×Nat) (H : own w R) : own (w.alloc (.cells #[.pointer none,.pointer none,.pointer none,.pointer none,.pointer none] 111)) (shL w.heap.size A (fun _=>none)++R):=by
 have h1:=lh H (.cells #[.pointer none,.pointer none,.pointer none,.pointer none,.pointer none] 111)
 exact lE 5 (Ba (Ba (Ba (Ba (Ba h1))))) rfl

theorem lu {w : World} (l m : List SL.HP) {R : List SL.HP} (H : own w (l++(m++R))) : own w (m++(l++R)):=y7 (fun _=>G8 (List.perm_append_comm_assoc l m R)) H
theorem ON {w : World} {l m : List SL.HP} (p : l.Perm m) (H : own w l) : own w m:=y7 (fun _=>G8 p) H
theorem In (d : DevM) (c p b : Int) : 0 <= (oE d c p b).1:=by
 unfold oE
 split
 ·simp
 ·split
  ·exact By
  ·split
   ·exact o5 _ _ _
   ·simp
theorem Qj {n x : Nat} (hn : n <= 64) (hx : x < 2 ^ 64) (fr : Int) : (Bo n x fr).1 <= 127:=by
 unfold Bo
 split
 ·exact Nat.zero_le _
 ·rename_i h0
  split
  ·rename_i h
   have hd : x / 2 ^ fr.toNat < 2 ^ 64:=Nat.lt_of_le_of_lt (Nat.div_le_self _ _) hx
   obtain ⟨-,-,-,-,-,-,hk⟩:=FU _ h.2.2 hd
   have:=h.2.1
   dsimp only
   omega
  ·obtain ⟨-,-,-,-,-,-,hk⟩:=FU _ h0 hx
   dsimp only
   omega
def oo (j : JobM) : Nat×Bool:=Bo j.n j.x (j.at_ : Nat)
def jdid (j : JobM) : JobM:=An { j with level:=j.level - 4,x:=(oY j.n j.x ((oo j).1 : Nat) false).2,at_:=(oo j).1 + 1 }
def lk (F : ShM) (j : JobM) : (Bool×Int)×ShM×JobM:=
 if j.st≠1 /\ j.st≠3 then ((false,9),F,j) else if (oo j).2 = false \/ j.level < 4 then ((false,0),F,j)
 else if (yr F j ((oo j).1 : Nat)).1≠0 then ((false,(yr F j ((oo j).1 : Nat)).1),(yr F j ((oo j).1 : Nat)).2,{ j with level:=j.level - 4,st:=5 })
 else ((true,0),(yr F j ((oo j).1 : Nat)).2,jdid j)
theorem Xl {j : JobM} (h : j.Ok) (h4 : ¬j.level < 4) : (jdid j).Ok:=by
 unfold jdid
 have:=h.level
 exact JI { h with x:=Fu h.n h.x _ false,level:=(by dsimp only; omega),at_:=(by have:=Qj h.n h.x64 (j.at_ : Nat); dsimp only [oo]; omega) }
theorem NI {F : ShM} {j : JobM} (h : j.Ok) : (lk F j).2.2.Ok:=by
 unfold lk
 have:=h.level
 split
 ·exact h
 ·split
  ·exact h
  ·rename_i h4
   have h4 : ¬j.level < 4:=fun e=>h4 (.inr e)
   split
   ·exact { h with level:=(by dsimp only; omega),st:=(by dsimp only; omega) }
   ·exact Xl h h4
theorem Bm {F : ShM} (hF : ShOk F) {j : JobM} (hj : j.Ok) (h : JobS F j) : lJ 5 F (lk F j).2.1:=by
 unfold lk
 split
 ·exact lJ.refl hF 5
 ·split
  ·exact lJ.refl hF 5
  ·split <;> exact Fa hF hj h _
theorem QW (F : ShM) (j : JobM) : 0 <= (lk F j).1.2:=by
 unfold lk
 split
 ·simp
 ·split
  ·simp
  ·split
   ·exact Jj F j _
   ·simp
theorem Um (bs : Nat) (A : Nat -> Nat×Nat×Nat) (F : ShM) (hF : ShOk F) (bj bt bb : Nat) (v : Value) (j : JobM) (hj : j.Ok) (hS : JobS F j) (R : List SL.HP) (w : World)
  (hv : ∀w' L,own w' (L++R) -> lW w' v j.list) (hT : ∀w' L,own w' (L++R) -> A0 w') (H : own w (shL bs A F++(jobL bs bj bt bb v j++R))) :
  Calls Tryz.prog 58 #[.pointer (some ⟨bj,0,none⟩)] w fun e w'=>e = .returned (.tuple #[.bool (lk F j).1.1,errV (lk F j).1.2]) /\ Ext w w' /\ own w' (shL bs A (lk F j).2.1++(jobL bs bj bt bb v (lk F j).2.2++R)):=by
 unfold lk
 by_cases hst : j.st≠1 /\ j.st≠3
 ·rw [zt hst]
  have d1 : (j.st != 1) = true:=bne_iff_ne.2 hst.1
  have d3 : (j.st != 3) = true:=bne_iff_ne.2 hst.2
  have c7:=(ld 6 H rfl).1 7
  clear hst
  go_enter Tryz.func58,Tryz.ntmps58
  go_wp2_with fail
  go_ret2
  exact ⟨rfl,zR _,H⟩
 ·rw [zq hst]
  have hst' : j.st = 1 \/ j.st = 3:=by omega
  have hNX : ∀w',own w' (shL bs A F++(jobL bs bj bt bb v j++R)) -> Calls Tryz.prog 148 #[.pointer (some ⟨bt,0,none⟩),.int .i64 (j.at_ : Nat)] w' fun e w''=>e = .returned (.tuple #[.int .i64 ((oo j).1 : Nat),.bool (oo j).2]) /\ w' = w'':=fun w' h=>
   Up bt j.n j.x hj.n hj.x64 (j.at_ : Nat) 7 w' (hT w' (shL bs A F++jobL bs bj bt bb v j) (by rwa [zp])) h rfl
  have HNX:=zh hNX
  have hle : (oo j).1 <= 127:=Qj hj.n hj.x64 _
  have HOW:=zh H
  have c5:=(ld 6 H rfl).1 5
  have c6:=(ld 6 H rfl).1 6
  by_cases hsm : (oo j).2 = false
  ·rw [zt (.inl hsm)]
   rw [hsm] at HNX
   generalize (oo j).1 = cn at *
   rcases hst' with h1 | h1
   all_goals
    have c7 : w.cell? ⟨bj,7,none⟩ = some (.int .i64 j.st):=(ld 6 H rfl).1 7
    rw [h1] at c7
    clear hst hNX hsm
    go_enter Tryz.func58,Tryz.ntmps58
    go_upto_region 3 with (fail)
    go_quiet ((go_at_call 148; exact Calls.quiet_of_same ((HNX.out _ (by first | exact HOW.out | exact ln HOW.out | exact lI _ HOW.out)).mono fun e w' h=>⟨h.1,h.2.symm⟩)))
    have h2:=lI nq H
    have hx2:=(zR w).drewN nq
    clear H HNX c5 c6 c7
    generalize w.drewN nq = w2 at *
    go_wp2_with fail
    go_ret2
    exact ⟨rfl,hx2,h2⟩
  ·have hsm' : (oo j).2 = true:=by simpa using hsm
   rw [hsm'] at HNX
   by_cases h4 : j.level < 4
   ·rw [zt (.inr h4)]
    have hTK : ∀w',own w' (shL bs A F++(jobL bs bj bt bb v j++R)) -> Calls Tryz.prog 149 #[.pointer (some ⟨bb,0,none⟩),.int .i64 4] w' fun e w''=>e = .returned (.bool false) /\ Ext w' w'' /\ own w'' (shL bs A F++(jobL bs bj bt bb v j++R)):=fun w' h=>by
     have:=Qa (b:=bb) (r:=j.rate) (u:=j.burst) (l:=j.level) (n:=4) (L:=shL bs A F++(jobL bs bj bt bb v j++R)) 8 w' (by have:=hj.level; have:=hj.burst; omega) h rfl
     rw [show So j.level 4 = j.level from zq (by omega),show decide ((0 : Int) <= 4 /\ 4 <= j.level) = false from zf (by omega)] at this
     exact this
    have HTK:=zh hTK
    generalize (oo j).1 = cn at *
    rcases hst' with h1 | h1
    all_goals
     have c7 : w.cell? ⟨bj,7,none⟩ = some (.int .i64 j.st):=(ld 6 H rfl).1 7
     rw [h1] at c7
     clear hst hNX hsm hsm' hTK h4
     go_enter Tryz.func58,Tryz.ntmps58
     go_upto_region 3 with (fail)
     go_quiet ((go_at_call 148; exact Calls.quiet_of_same ((HNX.out _ (by first | exact HOW.out | exact ln HOW.out | exact lI _ HOW.out)).mono fun e w' h=>⟨h.1,h.2.symm⟩)))
     have h2:=lI nq H
     have hx2:=(zR w).drewN nq
     clear H HNX c5 c6 c7
     generalize w.drewN nq = w2 at *
     have c8:=(ld 6 h2 rfl).1 8
     go_wp2_with fail
     refine (HTK.out _ h2).mono ?_
     rintro e w3 ⟨rfl,hx3,h3⟩
     go_wp2_with fail
     go_ret2
     exact ⟨rfl,hx2.trans hx3,h3⟩
   ·rw [zq (by rintro (h | h); exact hsm h; exact h4 h)]
    have hTK : ∀w',own w' (shL bs A F++(jobL bs bj bt bb v j++R)) -> Calls Tryz.prog 149 #[.pointer (some ⟨bb,0,none⟩),.int .i64 4] w' fun e w''=>e = .returned (.bool true) /\ Ext w' w'' /\ own w'' (shL bs A F++(jobL bs bj bt bb v { j with level:=j.level - 4 }++R)):=fun w' h=>by
     have:=Qa (b:=bb) (r:=j.rate) (u:=j.burst) (l:=j.level) (n:=4) (L:=shL bs A F++(jobL bs bj bt bb v j++R)) 8 w' (by have:=hj.level; have:=hj.burst; omega) h rfl
     rw [show So j.level 4 = j.level - 4 from zt (by omega),show decide ((0 : Int) <= 4 /\ 4 <= j.level) = true from zg (by omega)] at this
     exact this
    have HTK:=zh hTK
    have hj1 : ({ j with level:=j.level - 4 } : JobM).Ok:={ hj with level:=by have:=hj.level; dsimp only; omega }
    have HMV:=zh (fun w' h=>Ux bs A F hF bj bt bb v { j with level:=j.level - 4 } hj1 ⟨hS.list,hS.file⟩ ((oo j).1 : Nat) R w' hv h)
    rw [show yr F { j with level:=j.level - 4 } ((oo j).1 : Nat) = yr F j ((oo j).1 : Nat) from rfl] at HMV
    have hmc:=Jj F j ((oo j).1 : Nat)
    have hms:=Fa hF hj hS ((oo j).1 : Nat)
    unfold jdid
    generalize yr F j ((oo j).1 : Nat) = mv at *
    obtain ⟨mc,F'⟩:=mv
    dsimp only at *
    by_cases hm : mc = 0
    ·subst hm
     rw [zq (by decide)]
     rw [show errV 0 = .nilIface from rfl] at HMV
     generalize (oo j).1 = cn at *
     have hjp : ∀b,({ j with level:=j.level - 4,x:=(oY j.n j.x (cn : Nat) false).2,at_:=b } : JobM).x < 2 ^ j.n:=fun b=>Fu hj.n hj.x _ false
     have HPT:=zh (fun (L : List SL.HP) w' h hk=>Dq (l:=L) bt j.n j.x hj.n hj.x (cn : Nat) false 7 w' h hk)
     have HTN:=zh (fun w' h=>BK bs bj bt bb v { j with level:=j.level - 4,x:=(oY j.n j.x (cn : Nat) false).2,at_:=cn + 1 } { hj1 with x:=hjp 0,at_:=(by dsimp only; omega) } (shL bs A F'++R) w' h)
     generalize (oY j.n j.x (cn : Nat) false).1 = pb at *
     generalize (oY j.n j.x (cn : Nat) false).2 = px at *
     have w9 : (cn : Int) <= 127:=by omega
     rcases hst' with h1 | h1
     all_goals
      have c7 : w.cell? ⟨bj,7,none⟩ = some (.int .i64 j.st):=(ld 6 H rfl).1 7
      rw [h1] at c7
      clear hst hNX hsm hsm' hTK h4 hjp
      go_enter Tryz.func58,Tryz.ntmps58
      go_upto_region 3 with (fail)
      go_quiet ((go_at_call 148; exact Calls.quiet_of_same ((HNX.out _ (by first | exact HOW.out | exact ln HOW.out | exact lI _ HOW.out)).mono fun e w' h=>⟨h.1,h.2.symm⟩)))
      have h2:=lI nq H
      have hx2:=(zR w).drewN nq
      clear H HNX c5 c6 c7
      generalize w.drewN nq = w2 at *
      have c8:=(ld 6 h2 rfl).1 8
      go_wp2_with fail
      refine (HTK.out _ h2).mono ?_
      rintro e w3 ⟨rfl,hx3,h3⟩
      go_wp2_with fail
      refine (HMV.out _ h3).mono ?_
      rintro e w4 ⟨rfl,hx4,h4⟩
      have c5:=(ld 6 h4 rfl).1 5
      go_wp2_with fail
      refine (HPT.out _ _ h4 rfl).mono ?_
      rintro e w5 ⟨rfl,hx5,h5'⟩
      have h5 : own w5 (shL bs A F'++(jobL bs bj bt bb v { j with level:=j.level - 4,x:=px }++R)):=h5'
      have c6:=(ld 6 h5 rfl).1 6
      have f6:=(ld 6 h5 rfl).2 6
      have h6 : own (w5.setCell ⟨bj,6,none⟩ (.int .i64 ((cn : Int) + 1))) (shL bs A F'++(jobL bs bj bt bb v { j with level:=j.level - 4,x:=px,at_:=cn + 1 }++R)):=lp (i:=6) (v:=.int .i64 ((cn : Int) + 1)) 6 h5 rfl
      go_wp2_with fail
      refine (HTN.out _ (lu (shL bs A F') (jobL bs bj bt bb v _) h6)).mono ?_
      rintro e w7 ⟨rfl,hx7,h7⟩
      go_wp2_with fail
      go_ret2
      exact ⟨rfl,(((((hx2.trans hx3).trans hx4).trans hx5).setCell _ _).trans hx7),lu (jobL bs bj bt bb v _) (shL bs A F') h7⟩
    ·rw [zt hm]
     have hp : 0 < mc:=by omega
     rw [lv hp] at HMV ⊢
     generalize (oo j).1 = cn at *
     rcases hst' with h1 | h1
     all_goals
      have c7 : w.cell? ⟨bj,7,none⟩ = some (.int .i64 j.st):=(ld 6 H rfl).1 7
      rw [h1] at c7
      clear hst hNX hsm hsm' hTK h4 hm
      go_enter Tryz.func58,Tryz.ntmps58
      go_upto_region 3 with (fail)
      go_quiet ((go_at_call 148; exact Calls.quiet_of_same ((HNX.out _ (by first | exact HOW.out | exact ln HOW.out | exact lI _ HOW.out)).mono fun e w' h=>⟨h.1,h.2.symm⟩)))
      have h2:=lI nq H
      have hx2:=(zR w).drewN nq
      clear H HNX c5 c6 c7
      generalize w.drewN nq = w2 at *
      have c8:=(ld 6 h2 rfl).1 8
      go_wp2_with fail
      refine (HTK.out _ h2).mono ?_
      rintro e w3 ⟨rfl,hx3,h3⟩
      go_wp2_with fail
      refine (HMV.out _ h3).mono ?_
      rintro e w4 ⟨rfl,hx4,h4⟩
      have c7:=(ld 6 h4 rfl).1 7
      have f7:=(ld 6 h4 rfl).2 7
      have h6 : own (w4.setCell ⟨bj,7,none⟩ (.int .i64 5)) (shL bs A F'++(jobL bs bj bt bb v { j with level:=j.level - 4,st:=5 }++R)):=lp (i:=7) (v:=.int .i64 5) 6 h4 rfl
      go_wp2_with fail
      go_ret2
      exact ⟨rfl,((hx2.trans hx3).trans hx4).setCell _ _,h6⟩
end Go.Proofs.YtbpblokfiajpjabGreatDoor
