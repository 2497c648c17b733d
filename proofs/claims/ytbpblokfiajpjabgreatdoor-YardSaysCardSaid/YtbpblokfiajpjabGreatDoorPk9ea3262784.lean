/- Lemmas on which YardSays stands: the texts Chain11 Chain12 Chain13 Chain14 Chain15 Bits1 Bits2 Bucket RBucket. No conditions. -/
import Derived.Test.YtbpblokfiajpjabGreatDoorPkfdf9cb361a
import Derived.Lib.TrailingZeros
set_option linter.all false
set_option maxRecDepth 1000000
set_option maxHeartbeats 32000000
namespace Go.Proofs.YtbpblokfiajpjabGreatDoor
open Go.RowKit Go.SL Go.Crc
attribute [local go_sem ↓] Go.wp_at_zero Go.wp_at_succ
theorem LQ (F : ShM) (l : List Int) (c fr : Nat) (s : ByteArray) : 0 <= (layM F l c fr s).1:=by
 unfold layM
 split
 ·simp
 ·split
  ·exact LT _ _ _ _
  ·exact Jd _ _ _
theorem Ph (F : ShM) (l : List Int) (c : Nat) : 0 <= (C3 F l c).1:=by
 unfold C3
 split
 ·simp
 ·exact IQ _ _
theorem Gl (l : List Int) (fr : Nat) (F : ShM) (k m : Nat) : 0 <= (BG l fr F k m).1:=by
 unfold BG
 split
 ·exact Ph _ _ _
 ·split
  ·exact LQ _ _ _ _ _
  ·simp
theorem ID (l : List Int) (fr : Nat) (s : ByteArray) (F : ShM) (k m : Nat) : 0 <= (putA l fr s F k m).1:=LQ _ _ _ _ _
theorem I9 {act : ShM -> Nat -> Nat -> Int×ShM} (ha : ∀F k m,0 <= (act F k m).1) : ∀{q : Nat} {F : ShM} {fr k n : Nat},0 <= (yG act q F fr k n).1:=by
 intro q
 induction q with
 | zero=>intro F fr k n; simp [yG]
 | succ q ih=>
  intro F fr k n
  rw [yG]
  split
  ·simp
  ·split
   ·exact ha _ _ _
   ·exact ih
theorem TK (F : ShM) (l : List Int) (fr : Int) (s : ByteArray) : 0 <= (putM F l fr s).1:=by
 unfold putM
 split
 ·simp
 ·split
  ·exact zJ _ _ _ _
  ·exact I9 fun F k m=>ID l _ s F k m
theorem Ky (F : ShM) (l : List Int) (fr n : Int) : 0 <= (zM F l fr n).1:=by
 unfold zM
 split
 ·exact zJ _ _ _ _
 ·exact I9 fun F k m=>Gl l _ F k m
theorem GV (F : ShM) (x : Nat) (c : Int) (s : ByteArray) : 0 <= (Bj F x c s).1:=by
 unfold Bj
 split
 ·simp
 ·split
  ·exact IQ _ _
  ·split
   ·simp
   ·split
    ·exact LT _ _ _ _
    ·exact Jd _ _ _
theorem P9 (s : ByteArray) (a m : Nat) (h : a + m <= s.size) : (s.extract a s.size).extract 0 m = s.extract a (a + m):=by
 rw [ByteArray.extract_extract,Nat.add_zero]
 congr 1
 omega
theorem M9 (s : ByteArray) (a m : Nat) (h : a + m <= s.size) : (s.extract a s.size).extract m (s.extract a s.size).size = s.extract (a + m) s.size:=by
 rw [ByteArray.extract_extract,ByteArray.size_extract]
 congr 1
 omega
theorem DR (act : ShM -> Nat -> Nat -> Int×ShM) {q : Nat} (F : ShM) {fr k n : Nat} (h : k < n) : yG act (q + 1) F fr k n = if (act F k (min (n - k) (4 - (fr + k) % 4))).1≠0 then act F k (min (n - k) (4 - (fr + k) % 4)) else
   yG act q (act F k (min (n - k) (4 - (fr + k) % 4))).2 fr (k + min (n - k) (4 - (fr + k) % 4)) n:=by
 rw [yG,zq (by omega)]
theorem D0 (act : ShM -> Nat -> Nat -> Int×ShM) (q : Nat) (F : ShM) (fr n : Nat) : yG act q F fr n n = (0,F):=by
 cases q with
 | zero=>rfl
 | succ q=>rw [yG,zt (Nat.le_refl _)]
theorem I1 {F : ShM} (hF : ShOk F) {l : List Int} (hl : ∀x∈l,ly F x) (h0 : l.length≠0) : clus F (l.getD 0 0) <= 32:=by
 obtain ⟨k,m,hxk,hk,hFk⟩:=lT (hl (l.getD 0 0) (by simp [show 0 < l.length by omega]))
 rw [hxk,yr hFk]
 obtain ⟨C,hC,q1,q2,-,-,-,-,-,-⟩:=(hF.ok k m hk hFk).nat
 omega
theorem mem0 {l : List Int} (h0 : l.length≠0) : l.getD 0 0∈l:=by simp [show 0 < l.length by omega]
theorem UO (b : Nat) (A : Nat -> Nat×Nat×Nat) (F : ShM) (N : Nat) (hW : ShW N F) (hN : N + 1000 < 900000) (v : Value) (l : List Int) (hl : ∀x∈l,ly F x) (hl5 : l.length <= 5) (fr : Int) (hfr : lR fr) (s : ByteArray) (hs : s.size <= 3200) (R : List SL.HP) (w : World) (hv : ∀w' L,own w' (L++R) -> lS w' v l) (H : own w (shL b A F++R)) :
  Calls Tryz.prog 194 #[.pointer (some ⟨b,0,none⟩),v,.int .i64 fr,.string s] w fun e w'=>e = .returned (errV (putM F l fr s).1) /\ Ext w w' /\ own w' (shL b A (putM F l fr s).2++R):=by
 have td:=FT s.size
 have tm:=F8 s.size
 have hF : ShOk F:=hW.sh (by omega)
 by_cases hm : s.size % 16≠0
 ·have e1 : putM F l fr s = (1,F):=by unfold putM; rw [zt hm]
  rw [e1]
  have w1 : (0 : Int) < ((s.size % 16 : Nat) : Int):=by omega
  generalize s.size % 16 = sm at *
  clear hm hv hl
  go_enter Tryz.func194,Tryz.ntmps194
  go_wp2_with fail
  go_ret
  exact ⟨rfl,zR _,H⟩
 ·have hm0 : s.size % 16 = 0:=Decidable.not_not.1 hm
  have hps:=IM b A F hF v l hl hl5 fr ((s.size / 16 : Nat) : Int) hfr ⟨by omega,by omega⟩ R w hv H
  unfold Fo at hps
  have HPS:=zh hps
  have ht0 : ((s.size : Int)).tmod 16 = 0:=by rw [tm,hm0]; rfl
  have hsz : s.size = 16 * (s.size / 16):=by omega
  have hsn : s.size / 16 <= 200:=by omega
  clear hps tm
  by_cases hw : lV F l fr ((s.size / 16 : Nat) : Int) = 0
  ·have eg : putM F l fr s = yG (putA l fr.toNat s) (s.size / 16) F fr.toNat 0 (s.size / 16):=by unfold putM; rw [zq hm,zq (by rw [hw]; decide)]
   have ep : AW F l fr ((s.size / 16 : Nat) : Int) = AA fr.toNat (s.size / 16):=by unfold AW; rw [zt hw,zn]
   rw [eg]
   rw [hw,ep,oa] at HPS
   obtain ⟨hp0,hp1,-,hp3⟩:=Bd hw
   obtain ⟨fn,rfl⟩:=ze hp1
   rw [zn] at HPS ⊢
   generalize s.size / 16 = nn at *
   have hcl:=I1 hF hl hp0
   have hsum : fn + nn <= 128:=by omega
   have HCL:=zh hp3
   have hf0:=hl _ (mem0 hp0)
   have HV:=zh hv
   have HSTEP:=zh (fun (F' : ShM) (n : Nat) (hn : n <= 1000) (hs : lL n F F')=>(show ShOk F' /\ (∀x∈l,ly F' x) /\ clus F' (l.getD 0 0) = clus F (l.getD 0 0) from ⟨(hW.step hs).sh (by omega),fun x hx=>hs.file (hl x hx),hs.clus_eq hf0⟩))
   obtain ⟨ao,lb,off,cap,rfl,hlc,hcap,hao,-⟩:=(hv w _ H).form
   have HLAY:=zh (fun (F' : ShM) (hF' : ShOk F') (hl' : ∀x∈l,ly F' x) (c fr n : Nat) (hc : (c : Int) < clus F' (l.getD 0 0)) (hfn : fr + n <= 4) (t : ByteArray) (ht : t.size = 16 * n) (R' : List SL.HP) (w : World) (hv' : ∀w' L,own w' (L++R') -> lS w' (.slice ao l.length cap) l) (H : own w (shL b A F'++R'))=>PW b A F' hF' (.slice ao l.length cap) l hl' hp0 hl5 c fr n hc hfn t ht R' w hv' H)
   generalize hres : yG (putA l fn s) nn F fn 0 nn = res
   have HRES:=zh hres
   have hrf : lL 0 F F:=lL.refl hF 0
   have HRF:=zh hrf
   have h5 : topI l < 5:=by obtain ⟨m0,hk0,-⟩:=CW hl hp0; exact hk0
   clear hres hv hw eg ep hp0 hp1 hp3 hcl hao hfr hF hl hm hm0 hf0 hW hrf
   go_enter Tryz.func194,Tryz.ntmps194
   go_wp2_with fail
   refine HPS.out.mono ?_
   rintro e w2 ⟨vp,rfl,hx2,h2⟩
   obtain ⟨po,pg,pcap,rfl,r1,r2,r3,-,-,-,-⟩:=lk 0 h2 rfl
   clear HPS H r3 ht0 td
   generalize hq : AA fn nn = ps at *
   have HQ:=zh hq
   clear hq
   have h3:=lr (shL b A F) h2
   clear h2
   go_wp2_with fail
   have hT0 : s.extract (16 * 0) s.size = s:=by rw [Nat.mul_zero]; exact ByteArray.extract_zero_size
   go_loopw [3,33] (fun tv iv wr=>∃(k : Nat) (p1 : List Part) (F' : ShM),k <= nn /\ p1.length + (nn - k) <= nn /\ tv = .string (s.extract (16 * k) s.size) /\ iv = .int .i64 p1.length /\ ps = p1++AA (fn + k) (nn - k) /\ lL (5 * p1.length) F F' /\ yG (putA l fn s) (nn - p1.length) F' fn k nn = res /\ Ext w wr /\ own wr (shL b A F'++(row 271 3 (.slice po ps.length pcap) ps.length (yc ps)::R))) (fun _ iv _=>ps.length - (intOf iv).toNat)
   case atStart=>exact ⟨0,[],F,by omega,by simp,by rw [hT0],rfl,HQ.out.symm,HRF.out,HRES.out,hx2,h3⟩
   case round=>
    clear h3 hx2 hT0
    obtain ⟨k,p1,F',hk,hp1,rfl,rfl,hpp,hst,hgo,hxr,hown⟩:=hrel
    by_cases hlt : k < nn
    ·rw [DM _ (show 0 < nn - k by omega)] at hpp
     have hlen : p1.length < ps.length:=by rw [hpp]; simp
     obtain ⟨d0,d1,d2⟩:=Ek hlen
     have hget : ps.getD p1.length (0,0,0) = ((fn + k) / 4,(fn + k) % 4,min (nn - k) (4 - (fn + k) % 4)):=by rw [hpp]; simp
     rw [hget] at d0 d1 d2
     rw [show nn - p1.length = (nn - p1.length - 1) + 1 by omega,DR _ _ hlt] at hgo
     have hco:=ID l fn s F' k (min (nn - k) (4 - (fn + k) % 4))
     obtain ⟨hok',hl',hcl'⟩:=HSTEP.out F' _ (by omega) hst
     have hpst : lL 5 F' (putA l fn s F' k (min (nn - k) (4 - (fn + k) % 4))).2:=IR hok' l h5 fn s k _
     have hst2:=hst.trans hpst
     have hm1 : 1 <= min (nn - k) (4 - (fn + k) % 4):=by omega
     have hm2 : min (nn - k) (4 - (fn + k) % 4) <= nn - k:=by omega
     have hm3 : (fn + k) % 4 + min (nn - k) (4 - (fn + k) % 4) <= 4:=by omega
     have hqc : (((fn + k) / 4 : Nat) : Int) < clus F' (l.getD 0 0):=by rw [hcl']; have:=HCL.out; omega
     have hfq : (fn + k) / 4 <= 32:=by omega
     have hfm : (fn + k) % 4 < 4:=by omega
     generalize min (nn - k) (4 - (fn + k) % 4) = mm at *
     have hts : (s.extract (16 * k) (16 * (k + mm))).size = 16 * mm:=by rw [ByteArray.size_extract]; omega
     have hlay:=HLAY.out F' hok' hl' ((fn + k) / 4) ((fn + k) % 4) mm hqc hm3 (s.extract (16 * k) (16 * (k + mm))) hts
     have hpe : layM F' l ((fn + k) / 4) ((fn + k) % 4) (s.extract (16 * k) (16 * (k + mm))) = putA l fn s F' k mm:=rfl
     rw [hpe] at hlay
     clear hpe hqc hok' hl' hcl' hpst hst
     generalize putA l fn s F' k mm = r at *
     have x1 : (s.extract (16 * k) s.size).extract 0 (16 * mm) = s.extract (16 * k) (16 * (k + mm)):=by rw [P9 _ _ _ (by omega),Nat.mul_add]
     have x2 : (s.extract (16 * k) s.size).extract (16 * mm) (s.extract (16 * k) s.size).size = s.extract (16 * (k + mm)) s.size:=by rw [M9 _ _ _ (by omega),Nat.mul_add]
     have x3 : (s.extract (16 * k) s.size).size = s.size - 16 * k:=by rw [ByteArray.size_extract]; omega
     have u1:=GX (s.extract (16 * k) s.size) ((mm : Int) * 16) (16 * mm) (by omega) (by omega)
     have u2:=GZ (s.extract (16 * k) s.size) ((mm : Int) * 16) (16 * mm) (by omega) (by omega)
     rw [x1] at u1
     rw [x2] at u2
     have e1 : IntKind.i64.wrap ((mm : Int) * 16) = (mm : Int) * 16:=zi _ (by omega)
     generalize (fn + k) / 4 = q at *
     generalize (fn + k) % 4 = fm at *
     generalize s.extract (16 * k) s.size = tv at *
     generalize s.extract (16 * k) (16 * (k + mm)) = tw at *
     generalize htx : s.extract (16 * (k + mm)) s.size = tx at *
     have HTX:=zh htx
     obtain ⟨po',pg',pcap',hv',-,-,r3',-,-,-,-⟩:=lk 6 hown rfl
     simp only [Value.slice.injEq,true_and] at hv'
     obtain ⟨rfl,rfl⟩:=hv'
     obtain rfl:=r3' (by omega)
     obtain ⟨k2,-⟩:=lH 6 hown rfl
     have c0:=k2 _ _ d0
     have c1:=k2 _ _ d1
     have c2:=k2 _ _ d2
     have HPP:=zh hpp
     have HST:=zh hst2
     clear k2 d0 d1 d2 r3' hget hpp hst2 x1 x2 x3 htx hts
     by_cases hr0 : r.1 = 0
     ·rw [zq (by rw [hr0]; decide)] at hgo
      rw [hr0,oa] at hlay
      have HL:=zh hlay
      have HGO:=zh hgo
      clear hlay hgo hr0 hco
      go_upto_region 9 with (fail)
      have ha:=lr (shL b A F') (li hown (.cells #[.int .i64 (q : Int),.int .i64 (fm : Int),.int .i64 (mm : Int)] 271))
      have hxa:=hxr.alloc (.cells #[.int .i64 (q : Int),.int .i64 (fm : Int),.int .i64 (mm : Int)] 271)
      clear c0 c1 c2 hown hxr
      generalize wr.heap.size = gx at *
      generalize wr.alloc (.cells #[.int .i64 (q : Int),.int .i64 (fm : Int),.int .i64 (mm : Int)] 271) = wa at *
      obtain ⟨cc,-⟩:=ld 6 ha rfl
      have c0:=cc 0
      have c1:=cc 1
      have c2:=cc 2
      clear cc
      go_still_tail 8,(by kernel_rfl)
      change wpList _ _ _ _ _ wa.drew
      go_wp2_with fail
      refine (HL.out _ _ (yO HV.out [_,_]) (lj ha)).mono ?_
      rintro e w5 ⟨rfl,hx5,h5'⟩
      have hx6:=hxa.drew.trans hx5
      clear ha c0 c1 c2
      have c2:=(ld 6 h5' rfl).1 2
      go_wp2_with fail
      go_roundw
      case rel=>
       refine ⟨k + mm,p1++[(q,fm,mm)],r.2,by omega,by simp; omega,by rw [HTX.out],by simp,?_,?_,?_,hx6,lh 6 h5' rfl⟩
       ·rw [HPP.out,zp,show fn + (k + mm) = fn + k + mm by omega,show nn - (k + mm) = nn - k - mm by omega]; rfl
       ·rw [List.length_append]; exact HST.out.mono (by simp; omega)
       ·rw [<- HGO.out,List.length_append]; rfl
      case measure=>simp [intOf]; omega
     ·rw [zt hr0] at hgo
      subst hgo
      have hep:=lx (e:=r.1) (by omega)
      rw [hep] at hlay
      have HEP:=zh hep
      have HL:=zh hlay
      clear hlay hr0 hco HRES hep
      go_upto_region 9 with (fail)
      have ha:=lr (shL b A F') (li hown (.cells #[.int .i64 (q : Int),.int .i64 (fm : Int),.int .i64 (mm : Int)] 271))
      have hxa:=hxr.alloc (.cells #[.int .i64 (q : Int),.int .i64 (fm : Int),.int .i64 (mm : Int)] 271)
      clear c0 c1 c2 hown hxr
      generalize wr.heap.size = gx at *
      generalize wr.alloc (.cells #[.int .i64 (q : Int),.int .i64 (fm : Int),.int .i64 (mm : Int)] 271) = wa at *
      obtain ⟨cc,-⟩:=ld 6 ha rfl
      have c0:=cc 0
      have c1:=cc 1
      have c2:=cc 2
      clear cc
      go_still_tail 8,(by kernel_rfl)
      change wpList _ _ _ _ _ wa.drew
      go_wp2_with fail
      refine (HL.out _ _ (yO HV.out [_,_]) (lj ha)).mono ?_
      rintro e w5 ⟨rfl,hx5,h5'⟩
      have hx6:=hxa.drew.trans hx5
      clear ha c0 c1 c2
      go_wp2_with fail
      go_ret
      exact ⟨by rw [HEP.out]; rfl,hx6,lh 6 (lh 6 h5' rfl) rfl⟩
    ·obtain rfl : k = nn:=by omega
     rw [D0] at hgo
     rw [Nat.sub_self,DV,List.append_nil] at hpp
     subst hgo hpp
     go_wp2_with fail
     go_ret
     exact ⟨rfl,hxr,lh 6 hown rfl⟩
  ·have eg : putM F l fr s = (lV F l fr ((s.size / 16 : Nat) : Int),F):=by unfold putM; rw [zq hm,zt hw]
   have ep : AW F l fr ((s.size / 16 : Nat) : Int) = []:=by unfold AW; rw [zq hw]
   have hc:=zJ F l fr ((s.size / 16 : Nat) : Int)
   rw [eg]
   rw [ep] at HPS
   generalize lV F l fr ((s.size / 16 : Nat) : Int) = res at *
   generalize s.size / 16 = nn at *
   have hep:=lx (e:=res) (by omega)
   dsimp only
   rw [hep] at HPS ⊢
   clear hw eg ep hc hfr hm hm0 hep
   go_enter Tryz.func194,Tryz.ntmps194
   go_wp2_with fail
   refine HPS.out.mono ?_
   rintro e w2 ⟨vp,rfl,hx2,h2⟩
   go_wp2_with fail
   go_ret
   exact ⟨rfl,hx2,le h2⟩
theorem TE (a b : Nat) : ((a : Int) + (b : Int)).tdiv 4 = (((a + b) / 4 : Nat) : Int):=by rw [<- Int.natCast_add]; exact NO _
theorem Ur (a b : Nat) : ((a : Int) + (b : Int)).tmod 4 = (((a + b) % 4 : Nat) : Int):=by rw [<- Int.natCast_add]; exact NG _
theorem U5 (b : Nat) (A : Nat -> Nat×Nat) (F : ShM) (N : Nat) (hW : ShW N F) (hN : N + 1000 < 900000) (v : Value) (l : List Int) (hl : ∀x∈l,ly F x) (hl5 : l.length <= 5) (fr : Int) (hfr : lR fr) (s : ByteArray) (hs : s.size <= 3200) (R : List SL.HP) (w : World) (hv : ∀w' L,own w' (L++R) -> lS w' v l) (H : own w (rshL b A F++R)) :
  Calls Tryz.prog 206 #[.pointer (some ⟨b,0,none⟩),v,.int .i64 fr,.string s,.bool false] w fun e w'=>e = .returned (.int .i64 (putM F l fr s).1) /\ Ext w w' /\ own w' (rshL b A (putM F l fr s).2++R):=by
 have td:=FT s.size
 have tm:=F8 s.size
 have hF : ShOk F:=hW.sh (by omega)
 by_cases hm : s.size % 16≠0
 ·have e1 : putM F l fr s = (1,F):=by unfold putM; rw [zt hm]
  rw [e1]
  have w1 : (0 : Int) < ((s.size % 16 : Nat) : Int):=by omega
  generalize s.size % 16 = sm at *
  clear hm hv hl
  go_enter Tryz.func206,Tryz.ntmps206
  go_wp2_with fail
  go_ret
  exact ⟨rfl,zR _,H⟩
 ·have hm0 : s.size % 16 = 0:=Decidable.not_not.1 hm
  have HPS:=zh (DS b A F hF v l hl hl5 fr ((s.size / 16 : Nat) : Int) hfr ⟨by omega,by omega⟩ R w (hv w _ H) H)
  have ht0 : ((s.size : Int)).tmod 16 = 0:=by rw [tm,hm0]; rfl
  have hsz : s.size = 16 * (s.size / 16):=by omega
  have hsn : s.size / 16 <= 200:=by omega
  clear tm
  by_cases hw : lV F l fr ((s.size / 16 : Nat) : Int) = 0
  ·have eg : putM F l fr s = yG (putA l fr.toNat s) (s.size / 16) F fr.toNat 0 (s.size / 16):=by unfold putM; rw [zq hm,zq (by rw [hw]; decide)]
   rw [eg]
   rw [hw] at HPS
   obtain ⟨hp0,hp1,-,hp3⟩:=Bd hw
   obtain ⟨fn,rfl⟩:=ze hp1
   rw [zn]
   generalize s.size / 16 = nn at *
   have hcl:=I1 hF hl hp0
   have hsum : fn + nn <= 128:=by omega
   have HCL:=zh hp3
   have hf0:=hl _ (mem0 hp0)
   have HV:=zh hv
   have HSTEP:=zh (fun (F' : ShM) (n : Nat) (hn : n <= 1000) (hs : lL n F F')=>(show ShOk F' /\ (∀x∈l,ly F' x) /\ clus F' (l.getD 0 0) = clus F (l.getD 0 0) from ⟨(hW.step hs).sh (by omega),fun x hx=>hs.file (hl x hx),hs.clus_eq hf0⟩))
   obtain ⟨ao,lb,off,cap,rfl,hlc,hcap,hao,-⟩:=(hv w _ H).form
   have HLAY:=zh (fun (F' : ShM) (hF' : ShOk F') (hl' : ∀x∈l,ly F' x) (c fr n : Nat) (hc : (c : Int) < clus F' (l.getD 0 0)) (hfn : fr + n <= 4) (t : ByteArray) (ht : t.size = 16 * n) (R' : List SL.HP) (w : World) (hv' : ∀w' L,own w' (L++R') -> lS w' (.slice ao l.length cap) l) (H : own w (rshL b A F'++R'))=>Nr b A F' hF' (.slice ao l.length cap) l hl' hp0 hl5 c fr n hc hfn t ht R' w hv' H)
   generalize hres : yG (putA l fn s) nn F fn 0 nn = res
   have HRES:=zh hres
   have hrf : lL 0 F F:=lL.refl hF 0
   have HRF:=zh hrf
   have h5 : topI l < 5:=by obtain ⟨m0,hk0,-⟩:=CW hl hp0; exact hk0
   clear hres hv hw eg hp0 hp1 hp3 hcl hao hfr hF hl hm hm0 hf0 hW hrf
   go_enter Tryz.func206,Tryz.ntmps206
   go_wp2_with fail
   refine HPS.out.mono ?_
   rintro e w2 ⟨rfl,n2,rfl⟩
   have h2:=ll n2 H
   have hx2:=(zR w).drewN n2
   clear HPS H ht0 td
   generalize w.drewN n2 = w2 at *
   go_wp2_with fail
   go_loopw [13] (fun kv wr=>∃(k p : Nat) (F' : ShM),k <= nn /\ p <= k /\ kv = .int .i64 k /\ lL (5 * p) F F' /\ yG (putA l fn s) (nn - p) F' fn k nn = res /\ Ext w wr /\ own wr (rshL b A F'++R)) (fun kv _=>nn - (intOf kv).toNat)
   case atStart=>exact ⟨0,0,F,by omega,by omega,rfl,HRF.out,HRES.out,hx2,h2⟩
   case round=>
    clear h2 hx2
    obtain ⟨k,p,F',hk,hp,rfl,hst,hgo,hxr,hown⟩:=hrel
    by_cases hlt : k < nn
    ·rw [show nn - p = (nn - p - 1) + 1 by omega,DR _ _ hlt] at hgo
     have hco:=ID l fn s F' k (min (nn - k) (4 - (fn + k) % 4))
     obtain ⟨hok',hl',hcl'⟩:=HSTEP.out F' _ (by omega) hst
     have hst2:=hst.trans (IR hok' l h5 fn s k (min (nn - k) (4 - (fn + k) % 4)))
     have hm1 : 1 <= min (nn - k) (4 - (fn + k) % 4):=by omega
     have hm2 : min (nn - k) (4 - (fn + k) % 4) <= nn - k:=by omega
     have hm3 : (fn + k) % 4 + min (nn - k) (4 - (fn + k) % 4) <= 4:=by omega
     have hqc : (((fn + k) / 4 : Nat) : Int) < clus F' (l.getD 0 0):=by rw [hcl']; have:=HCL.out; omega
     have hfq : (fn + k) / 4 <= 32:=by omega
     have hfm : (fn + k) % 4 < 4:=by omega
     have tq:=TE fn k
     have tr:=Ur fn k
     have e0 : IntKind.i64.wrap ((fn : Int) + (k : Int)) = (fn : Int) + (k : Int):=zi _ (by omega)
     have tmin : min (4 - (((fn + k) % 4 : Nat) : Int)) ((nn : Int) - (k : Int)) = ((min (nn - k) (4 - (fn + k) % 4) : Nat) : Int):=by omega
     generalize min (nn - k) (4 - (fn + k) % 4) = mm at *
     have hts : (s.extract (16 * k) (16 * (k + mm))).size = 16 * mm:=by rw [ByteArray.size_extract]; omega
     have hlay:=HLAY.out F' hok' hl' ((fn + k) / 4) ((fn + k) % 4) mm hqc hm3 (s.extract (16 * k) (16 * (k + mm))) hts
     have hpe : layM F' l ((fn + k) / 4) ((fn + k) % 4) (s.extract (16 * k) (16 * (k + mm))) = putA l fn s F' k mm:=rfl
     rw [hpe] at hlay
     clear hpe hqc hok' hl' hcl' hst
     generalize putA l fn s F' k mm = r at *
     generalize (fn + k) / 4 = q at *
     generalize (fn + k) % 4 = fm at *
     have e1 : IntKind.i64.wrap (4 - (fm : Int)) = 4 - (fm : Int):=zi _ (by omega)
     have e2 : IntKind.i64.wrap ((nn : Int) - (k : Int)) = (nn : Int) - (k : Int):=zi _ (by omega)
     have e3 : IntKind.i64.wrap (16 * (k : Int)) = 16 * (k : Int):=zi _ (by omega)
     have e4 : IntKind.i64.wrap ((k : Int) + (mm : Int)) = (k : Int) + (mm : Int):=zi _ (by omega)
     have e5 : IntKind.i64.wrap (16 * ((k : Int) + (mm : Int))) = 16 * ((k : Int) + (mm : Int)):=zi _ (by omega)
     have b1 : (0 : Int) <= 16 * (k : Int):=by omega
     have b2 : 16 * (k : Int) <= 16 * ((k : Int) + (mm : Int)):=by omega
     have b3 : 16 * ((k : Int) + (mm : Int)) <= (s.size : Int):=by omega
     have hsl : ∀wx : World,(Instr.slice 9 (.string s) (some (.int .i64 (16 * (k : Int)))) (some (.int .i64 (16 * ((k : Int) + (mm : Int))))) none).run Tryz.prog wx = .ok (.string (s.extract (16 * k) (16 * (k + mm)))) wx:=fun wx=>by
      have:=run_slice_string (P:=Tryz.prog) wx 9 s .i64 .i64 (16 * (k : Int)) (16 * ((k : Int) + (mm : Int))) Tryz.underlying9 b1 b2 b3
      rw [this,show (16 * (k : Int)).toNat = 16 * k from by omega,show (16 * ((k : Int) + (mm : Int))).toNat = 16 * (k + mm) from by omega]
     generalize s.extract (16 * k) (16 * (k + mm)) = tw at *
     have HST:=zh hst2
     clear hst2
     by_cases hr0 : r.1 = 0
     ·rw [zq (by rw [hr0]; decide)] at hgo
      rw [hr0] at hlay
      have HL:=zh hlay
      have HGO:=zh hgo
      clear hlay hgo hr0 hco
      go_wp2_with fail
      refine (HL.out _ _ HV.out hown).mono ?_
      rintro e w5 ⟨rfl,hx5,h5'⟩
      go_wp2_with fail
      go_roundw
      case rel=>exact ⟨k + mm,p + 1,r.2,by omega,by omega,by simp,HST.out.mono (by omega),by rw [<- HGO.out]; rfl,hxr.trans hx5,h5'⟩
      case measure=>simp [intOf]; omega
     ·rw [zt hr0] at hgo
      subst hgo
      have w9 : 0 < r.1:=by omega
      have HL:=zh hlay
      clear hlay hr0 hco HRES
      go_wp2_with fail
      refine (HL.out _ _ HV.out hown).mono ?_
      rintro e w5 ⟨rfl,hx5,h5'⟩
      go_wp2_with fail
      go_ret
      exact ⟨rfl,hxr.trans hx5,h5'⟩
    ·obtain rfl : k = nn:=by omega
     rw [D0] at hgo
     subst hgo
     go_wp2_with fail
     go_ret
     exact ⟨rfl,hxr,hown⟩
  ·have eg : putM F l fr s = (lV F l fr ((s.size / 16 : Nat) : Int),F):=by unfold putM; rw [zq hm,zt hw]
   have hc:=zJ F l fr ((s.size / 16 : Nat) : Int)
   rw [eg]
   generalize lV F l fr ((s.size / 16 : Nat) : Int) = res at *
   generalize s.size / 16 = nn at *
   have w9 : 0 < res:=by omega
   clear hw eg hc hfr hm hm0
   go_enter Tryz.func206,Tryz.ntmps206
   go_wp2_with fail
   refine HPS.out.mono ?_
   rintro e w2 ⟨rfl,n2,rfl⟩
   go_wp2_with fail
   go_ret
   exact ⟨rfl,(zR w).drewN n2,ll n2 H⟩
theorem Sk {n m : Nat} (h : m <= n) : (zs n).extract 0 m = zs m:=by
 apply Go.WideShapes.bytes_inj
 rw [EW]
 simp [zs,h]
theorem L0 {F : ShM} {l : List Int} {m : ImgM} (h : F (topI l) = some m) (c : Nat) : C3 F l c = ((m.clear c).1,put F (topI l) (m.clear c).2):=by unfold C3; rw [h]
theorem Ny {F : ShM} {l : List Int} {m : ImgM} (h : F (topI l) = some m) (c : Nat) : Kt F l c = m.kind (c : Int):=by unfold Kt; rw [h]
theorem S5 (b : Nat) (A : Nat -> Nat×Nat×Nat) (F : ShM) (N : Nat) (hW : ShW N F) (hN : N + 1000 < 900000) (v : Value) (l : List Int) (hl : ∀x∈l,ly F x) (hl5 : l.length <= 5) (fr n : Int) (hfr : lR fr) (hn : lR n) (R : List SL.HP) (w : World) (hv : ∀w' L,own w' (L++R) -> lS w' v l) (H : own w (shL b A F++R)) :
  Calls Tryz.prog 207 #[.pointer (some ⟨b,0,none⟩),v,.int .i64 fr,.int .i64 n] w fun e w'=>e = .returned (errV (zM F l fr n).1) /\ Ext w w' /\ own w' (shL b A (zM F l fr n).2++R):=by
 have hF : ShOk F:=hW.sh (by omega)
 have hps:=IM b A F hF v l hl hl5 fr n hfr hn R w hv H
 unfold Fo at hps
 have HPS:=zh hps
 clear hps
 by_cases hw : lV F l fr n = 0
 ·have eg : zM F l fr n = yG (BG l fr.toNat) n.toNat F fr.toNat 0 n.toNat:=by unfold zM; rw [zq (by rw [hw]; decide)]
  have ep : AW F l fr n = AA fr.toNat n.toNat:=by unfold AW; rw [zt hw]
  rw [eg]
  rw [hw,ep,oa] at HPS
  obtain ⟨hp0,hp1,hp2,hp3⟩:=Bd hw
  obtain ⟨fn,rfl⟩:=ze hp1
  obtain ⟨nn,rfl⟩:=ze hp2
  rw [zn,zn] at HPS ⊢
  have hcl:=I1 hF hl hp0
  have hsum : fn + nn <= 128:=by omega
  have HCL:=zh hp3
  have hf0:=hl _ (mem0 hp0)
  have HP0:=zh hp0
  have HV:=zh hv
  have HSTEP:=zh (fun (F' : ShM) (n : Nat) (hn : n <= 1000) (hs : lL n F F')=>(show ShOk F' /\ (∀x∈l,ly F' x) /\ clus F' (l.getD 0 0) = clus F (l.getD 0 0) from ⟨(hW.step hs).sh (by omega),fun x hx=>hs.file (hl x hx),hs.clus_eq hf0⟩))
  obtain ⟨ao,lb,off,cap,rfl,hlc,hcap,hao,-⟩:=(hv w _ H).form
  obtain rfl:=hao (by omega)
  have hpos : 0 < l.length:=by omega
  have j2 : (0 : Int) < (l.length : Int):=by omega
  have HLAY:=zh (fun (F' : ShM) (hF' : ShOk F') (hl' : ∀x∈l,ly F' x) (c fr n : Nat) (hc : (c : Int) < clus F' (l.getD 0 0)) (hfn : fr + n <= 4) (t : ByteArray) (ht : t.size = 16 * n) (R' : List SL.HP) (w : World) (hv' : ∀w' L,own w' (L++R') -> lS w' (.slice (some ⟨lb,off,none⟩) l.length cap) l) (H : own w (shL b A F'++R'))=>PW b A F' hF' (.slice (some ⟨lb,off,none⟩) l.length cap) l hl' hp0 hl5 c fr n hc hfn t ht R' w hv' H)
  generalize hres : yG (BG l fn) nn F fn 0 nn = res
  have HRES:=zh hres
  have hrf : lL 0 F F:=lL.refl hF 0
  have HRF:=zh hrf
  obtain ⟨m00,h5,-,hx0⟩:=CW hl hp0
  have HX0:=zh hx0
  clear hres hv hw eg ep hp0 hp1 hp3 hcl hao hfr hF hl hf0 hW hrf hn hx0
  go_enter Tryz.func207,Tryz.ntmps207
  go_wp2_with fail
  refine HPS.out.mono ?_
  rintro e w2 ⟨vp,rfl,hx2,h2⟩
  obtain ⟨po,pg,pcap,rfl,r1,r2,r3,-,-,-,-⟩:=lk 0 h2 rfl
  clear HPS H r3
  generalize hq : AA fn nn = ps at *
  have HQ:=zh hq
  clear hq
  have h3:=lr (shL b A F) h2
  clear h2
  go_wp2_with fail
  go_loopw [28] (fun iv wr=>∃(k : Nat) (p1 : List Part) (F' : ShM),k <= nn /\ p1.length + (nn - k) <= nn /\ iv = .int .i64 p1.length /\ ps = p1++AA (fn + k) (nn - k) /\ lL (5 * p1.length) F F' /\ yG (BG l fn) (nn - p1.length) F' fn k nn = res /\ Ext w wr /\ own wr (shL b A F'++(row 271 3 (.slice po ps.length pcap) ps.length (yc ps)::R))) (fun iv _=>ps.length - (intOf iv).toNat)
  case atStart=>exact ⟨0,[],F,by omega,by simp,rfl,HQ.out.symm,HRF.out,HRES.out,hx2,h3⟩
  case round=>
   clear h3 hx2
   obtain ⟨k,p1,F',hk,hp1,rfl,hpp,hst,hgo,hxr,hown⟩:=hrel
   by_cases hlt : k < nn
   ·rw [DM _ (show 0 < nn - k by omega)] at hpp
    have hlen : p1.length < ps.length:=by rw [hpp]; simp
    obtain ⟨d0,d1,d2⟩:=Ek hlen
    have hget : ps.getD p1.length (0,0,0) = ((fn + k) / 4,(fn + k) % 4,min (nn - k) (4 - (fn + k) % 4)):=by rw [hpp]; simp
    rw [hget] at d0 d1 d2
    rw [show nn - p1.length = (nn - p1.length - 1) + 1 by omega,DR _ _ hlt] at hgo
    have hco:=Gl l fn F' k (min (nn - k) (4 - (fn + k) % 4))
    obtain ⟨hok',hl',hcl'⟩:=HSTEP.out F' _ (by omega) hst
    have hst2:=hst.trans (Gx hok' l h5 fn k (min (nn - k) (4 - (fn + k) % 4)))
    have hm1 : 1 <= min (nn - k) (4 - (fn + k) % 4):=by omega
    have hm2 : min (nn - k) (4 - (fn + k) % 4) <= nn - k:=by omega
    have hm3 : (fn + k) % 4 + min (nn - k) (4 - (fn + k) % 4) <= 4:=by omega
    have hqc : (((fn + k) / 4 : Nat) : Int) < clus F' (l.getD 0 0):=by rw [hcl']; have:=HCL.out; omega
    have hfq : (fn + k) / 4 <= 32:=by omega
    have hfm : (fn + k) % 4 < 4:=by omega
    have hwa : BG l fn F' k (min (nn - k) (4 - (fn + k) % 4)) = if min (nn - k) (4 - (fn + k) % 4) = 4 then C3 F' l ((fn + k) / 4) else if Kt F' l ((fn + k) / 4)≠1 then layM F' l ((fn + k) / 4) ((fn + k) % 4) (zs (16 * min (nn - k) (4 - (fn + k) % 4))) else (0,F'):=rfl
    generalize min (nn - k) (4 - (fn + k) % 4) = mm at *
    have hlay:=HLAY.out F' hok' hl' ((fn + k) / 4) ((fn + k) % 4) mm hqc hm3 (zs (16 * mm)) (EF _)
    generalize BG l fn F' k mm = r at *
    obtain ⟨m,hk5,hFk,hx⟩:=CW hl' HP0.out
    have htc:=EZ hl' HP0.out (Int.natCast_nonneg ((fn + k) / 4)) hqc
    rw [hx,Ca hFk] at htc
    rw [L0 hFk,Ny hFk] at hwa
    generalize (fn + k) / 4 = q at *
    generalize (fn + k) % 4 = fm at *
    generalize topI l = t0 at *
    have HKI:=zh (fun (R : List SL.HP) (w : World) (H : own w (shL b A F'++R))=>IF hk5 hFk (hok'.ok t0 m hk5 hFk) (q : Int) htc R w H)
    have hclr:=fun (R : List SL.HP) (w : World) (H : own w (shL b A F'++R))=>KL hk5 hFk hok' (q : Int) R w H
    have i1 : (0 : Int) <= (t0 : Int):=by omega
    have i2 : (t0 : Int) < 5:=by omega
    have u1:=GX (zs 64) ((mm : Int) * 16) (16 * mm) (by omega) (by rw [EF]; omega)
    rw [Sk (by omega)] at u1
    have U1:=zh u1
    have e1 : IntKind.i64.wrap ((mm : Int) * 16) = (mm : Int) * 16:=zi _ (by omega)
    obtain ⟨po',pg',pcap',hv',-,-,r3',-,-,-,-⟩:=lk 6 hown rfl
    simp only [Value.slice.injEq,true_and] at hv'
    obtain ⟨rfl,rfl⟩:=hv'
    obtain rfl:=r3' (by omega)
    obtain ⟨k2,-⟩:=lH 6 hown rfl
    have c0:=k2 _ _ d0
    have c1:=k2 _ _ d1
    have c2:=k2 _ _ d2
    have HPP:=zh hpp
    have HST:=zh hst2
    have HFK:=zh hFk
    have HWA:=zh hwa
    have HGO:=zh hgo
    have HLAY2:=zh hlay
    have HCLR:=zh hclr
    clear k2 d0 d1 d2 r3' hget hpp hst2 hst u1 hclr hlay hwa hFk hgo htc hqc hcl' hl' hok' hx
    go_upto_region 7 with (fail)
    have ha:=lr (shL b A F') (li hown (.cells #[.int .i64 (q : Int),.int .i64 (fm : Int),.int .i64 (mm : Int)] 271))
    have hxa:=hxr.alloc (.cells #[.int .i64 (q : Int),.int .i64 (fm : Int),.int .i64 (mm : Int)] 271)
    clear c0 c1 c2 hown hxr
    generalize wr.heap.size = gx at *
    generalize wr.alloc (.cells #[.int .i64 (q : Int),.int .i64 (fm : Int),.int .i64 (mm : Int)] 271) = wa at *
    obtain ⟨cc,-⟩:=ld 6 ha rfl
    have c0:=cc 0
    have g1 : wa.cell? ⟨lb,off,none⟩ = some (.int .i64 (l.getD 0 0)):=oq (yO HV.out [_,_] _ (shL b A F') ha) hpos
    rw [HX0.out] at g1
    have g2:=oA ha hk5
    rw [od HFK.out] at g2
    have HOW:=zh ha
    clear cc
    go_quiet ((go_at_call 151; exact Calls.quiet_of_same ((HKI.out _ _ (by first | exact HOW.out | exact lj HOW.out | exact ll _ HOW.out)).mono fun e w' h=>⟨h.1,h.2.symm⟩)))
    have hb:=ll nq ha
    have hxb:=hxa.drewN nq
    clear ha hxa c0 g1 g2 HOW
    generalize wa.drewN nq = wb at *
    obtain ⟨cc,-⟩:=ld 6 hb rfl
    have c0:=cc 0
    have c1:=cc 1
    have c2:=cc 2
    clear cc
    by_cases h4 : mm = 4
    ·subst h4
     have t4 : (((4 : Nat) : Int) == 4) = true:=rfl
     have hr : r = ((m.clear (q : Int)).1,put F' t0 (m.clear (q : Int)).2):=by rw [HWA.out,zt rfl]
     have hra : (m.clear (q : Int)).1 = r.1:=by rw [hr]
     have hrb : put F' t0 (m.clear (q : Int)).2 = r.2:=by rw [hr]
     rw [hra,hrb] at HCLR
     clear hr hra hrb HWA
     by_cases hr0 : r.1 = 0
     ·have hg:=HGO.out
      rw [zq (by rw [hr0]; decide)] at hg
      have hl3:=HCLR.out
      rw [hr0,oa] at hl3
      have HL:=zh hl3
      have HG:=zh hg
      clear hl3 hg hr0 hco
      go_upto_region 10 with (fail)
      have g1 : wb.cell? ⟨lb,off,none⟩ = some (.int .i64 (l.getD 0 0)):=oq (yO HV.out [_,_] _ (shL b A F') hb) hpos
      rw [HX0.out] at g1
      have g2:=oA hb hk5
      rw [od HFK.out] at g2
      go_still_tail 9,(by kernel_rfl)
      change wpList _ _ _ _ _ wb.drew
      go_wp2_with fail
      refine (HL.out _ _ (lj hb)).mono ?_
      rintro e w5 ⟨rfl,hx5,h5'⟩
      have hx6:=hxb.drew.trans hx5
      go_wp2_with fail
      go_roundw
      case rel=>
       refine ⟨k + 4,p1++[(q,fm,4)],_,by omega,by simp; omega,by simp,?_,?_,?_,hx6,lh 6 h5' rfl⟩
       ·rw [HPP.out,zp,show fn + (k + 4) = fn + k + 4 by omega,show nn - (k + 4) = nn - k - 4 by omega]; rfl
       ·rw [List.length_append]; exact HST.out.mono (by simp; omega)
       ·rw [<- HG.out,List.length_append]; rfl
      case measure=>simp [intOf]; omega
     ·have hg:=HGO.out
      rw [zt hr0] at hg
      subst hg
      have hep:=lx (e:=r.1) (by omega)
      have hl3:=HCLR.out
      rw [hep] at hl3
      have HEP:=zh hep
      have HL:=zh hl3
      clear hl3 hep HRES hr0 hco
      go_upto_region 10 with (fail)
      have g1 : wb.cell? ⟨lb,off,none⟩ = some (.int .i64 (l.getD 0 0)):=oq (yO HV.out [_,_] _ (shL b A F') hb) hpos
      rw [HX0.out] at g1
      have g2:=oA hb hk5
      rw [od HFK.out] at g2
      go_still_tail 9,(by kernel_rfl)
      change wpList _ _ _ _ _ wb.drew
      go_wp2_with fail
      refine (HL.out _ _ (lj hb)).mono ?_
      rintro e w5 ⟨rfl,hx5,h5'⟩
      have hx6:=hxb.drew.trans hx5
      go_wp2_with fail
      go_ret
      exact ⟨by rw [HEP.out]; rfl,hx6,lh 6 (lh 6 h5' rfl) rfl⟩
    ·have t4 : ((mm : Int) == 4) = false:=by rw [zb]; omega
     by_cases hk1 : m.kind (q : Int) = 1
     ·have hr : r = (0,F'):=by rw [HWA.out,zq h4,zq (by simpa using hk1)]
      subst hr
      have t1 : (m.kind (q : Int) != 1) = false:=by simp [hk1]
      have hg:=HGO.out
      rw [zq (by simp)] at hg
      have HG:=zh hg
      clear h4 hk1 hg hco
      go_wp2_with fail
      go_roundw
      case rel=>
       refine ⟨k + mm,p1++[(q,fm,mm)],_,by omega,by simp; omega,by simp,?_,?_,?_,hxb,lh 6 hb rfl⟩
       ·rw [HPP.out,zp,show fn + (k + mm) = fn + k + mm by omega,show nn - (k + mm) = nn - k - mm by omega]; rfl
       ·rw [List.length_append]; exact HST.out.mono (by simp; omega)
       ·rw [<- HG.out,List.length_append]; rfl
      case measure=>simp [intOf]; omega
     ·have hr : r = layM F' l q fm (zs (16 * mm)):=by rw [HWA.out,zq h4,zt hk1]
      rw [<- hr] at HLAY2
      have t1 : (m.kind (q : Int) != 1) = true:=by simp [hk1]
      clear hr HWA
      by_cases hr0 : r.1 = 0
      ·have hg:=HGO.out
       rw [zq (by rw [hr0]; decide)] at hg
       have hl3:=HLAY2.out
       rw [hr0,oa] at hl3
       have HL:=zh hl3
       have HG:=zh hg
       clear hl3 hg hr0 hco h4 hk1
       go_upto_region 12 with (fail)
       have u1:=U1.out
       rw [N2] at u1
       go_still_tail 7,(by kernel_rfl)
       change wpList _ _ _ _ _ wb.drew
       go_wp2_with fail
       refine (HL.out _ _ (yO HV.out [_,_]) (lj hb)).mono ?_
       rintro e w5 ⟨rfl,hx5,h5'⟩
       have hx6:=hxb.drew.trans hx5
       go_wp2_with fail
       go_roundw
       case rel=>
        refine ⟨k + mm,p1++[(q,fm,mm)],_,by omega,by simp; omega,by simp,?_,?_,?_,hx6,lh 6 h5' rfl⟩
        ·rw [HPP.out,zp,show fn + (k + mm) = fn + k + mm by omega,show nn - (k + mm) = nn - k - mm by omega]; rfl
        ·rw [List.length_append]; exact HST.out.mono (by simp; omega)
        ·rw [<- HG.out,List.length_append]; rfl
       case measure=>simp [intOf]; omega
      ·have hg:=HGO.out
       rw [zt hr0] at hg
       subst hg
       have hep:=lx (e:=r.1) (by omega)
       have hl3:=HLAY2.out
       rw [hep] at hl3
       have HEP:=zh hep
       have HL:=zh hl3
       clear hl3 hep HRES hr0 hco h4 hk1
       go_upto_region 12 with (fail)
       have u1:=U1.out
       rw [N2] at u1
       go_still_tail 7,(by kernel_rfl)
       change wpList _ _ _ _ _ wb.drew
       go_wp2_with fail
       refine (HL.out _ _ (yO HV.out [_,_]) (lj hb)).mono ?_
       rintro e w5 ⟨rfl,hx5,h5'⟩
       have hx6:=hxb.drew.trans hx5
       go_wp2_with fail
       go_ret
       exact ⟨by rw [HEP.out]; rfl,hx6,lh 6 (lh 6 h5' rfl) rfl⟩
   ·obtain rfl : k = nn:=by omega
    rw [D0] at hgo
    rw [Nat.sub_self,DV,List.append_nil] at hpp
    subst hgo hpp
    go_wp2_with fail
    go_ret
    exact ⟨rfl,hxr,lh 6 hown rfl⟩
 ·have eg : zM F l fr n = (lV F l fr n,F):=by unfold zM; rw [zt hw]
  have ep : AW F l fr n = []:=by unfold AW; rw [zq hw]
  have hc:=zJ F l fr n
  rw [eg]
  rw [ep] at HPS
  generalize lV F l fr n = res at *
  have hep:=lx (e:=res) (by omega)
  dsimp only
  rw [hep] at HPS ⊢
  clear hw eg ep hc hfr hn hep
  go_enter Tryz.func207,Tryz.ntmps207
  go_wp2_with fail
  refine HPS.out.mono ?_
  rintro e w2 ⟨vp,rfl,hx2,h2⟩
  go_wp2_with fail
  go_ret
  exact ⟨rfl,hx2,le h2⟩
theorem TB (b : Nat) (A : Nat -> Nat×Nat) (F : ShM) (N : Nat) (hW : ShW N F) (hN : N + 1000 < 900000) (v : Value) (l : List Int) (hl : ∀x∈l,ly F x) (hl5 : l.length <= 5) (fr : Int) (hfr : lR fr) (nn : Nat) (hnn : nn <= 200) (s : ByteArray) (hsz : s.size = 16 * nn) (R : List SL.HP) (w : World) (hv : ∀w' L,own w' (L++R) -> lS w' v l) (H : own w (rshL b A F++R)) :
  Calls Tryz.prog 206 #[.pointer (some ⟨b,0,none⟩),v,.int .i64 fr,.string s,.bool true] w fun e w'=>e = .returned (.int .i64 (zM F l fr nn).1) /\ Ext w w' /\ own w' (rshL b A (zM F l fr nn).2++R):=by
 have td:=FT s.size
 have tm:=F8 s.size
 have hF : ShOk F:=hW.sh (by omega)
 have HPS:=zh (DS b A F hF v l hl hl5 fr (nn : Int) hfr ⟨by omega,by omega⟩ R w (hv w _ H) H)
 rw [show s.size % 16 = 0 by omega] at tm
 rw [show s.size / 16 = nn by omega] at td
 have ht0 : ((s.size : Int)).tmod 16 = 0:=tm
 clear tm
 by_cases hw : lV F l fr (nn : Int) = 0
 ·have eg : zM F l fr nn = yG (BG l fr.toNat) nn F fr.toNat 0 nn:=by unfold zM; rw [zq (by rw [hw]; decide),zn]
  rw [eg]
  rw [hw] at HPS
  obtain ⟨hp0,hp1,-,hp3⟩:=Bd hw
  obtain ⟨fn,rfl⟩:=ze hp1
  rw [zn]
  have hcl:=I1 hF hl hp0
  have hsum : fn + nn <= 128:=by omega
  have HCL:=zh hp3
  have hf0:=hl _ (mem0 hp0)
  have HP0:=zh hp0
  have HV:=zh hv
  have HSTEP:=zh (fun (F' : ShM) (n : Nat) (hn : n <= 1000) (hs : lL n F F')=>(show ShOk F' /\ (∀x∈l,ly F' x) /\ clus F' (l.getD 0 0) = clus F (l.getD 0 0) from ⟨(hW.step hs).sh (by omega),fun x hx=>hs.file (hl x hx),hs.clus_eq hf0⟩))
  obtain ⟨ao,lb,off,cap,rfl,hlc,hcap,hao,-⟩:=(hv w _ H).form
  obtain rfl:=hao (by omega)
  have hpos : 0 < l.length:=by omega
  have j2 : (0 : Int) < (l.length : Int):=by omega
  have HLAY:=zh (fun (F' : ShM) (hF' : ShOk F') (hl' : ∀x∈l,ly F' x) (c fr n : Nat) (hc : (c : Int) < clus F' (l.getD 0 0)) (hfn : fr + n <= 4) (t : ByteArray) (ht : t.size = 16 * n) (R' : List SL.HP) (w : World) (hv' : ∀w' L,own w' (L++R') -> lS w' (.slice (some ⟨lb,off,none⟩) l.length cap) l) (H : own w (rshL b A F'++R'))=>Nr b A F' hF' (.slice (some ⟨lb,off,none⟩) l.length cap) l hl' hp0 hl5 c fr n hc hfn t ht R' w hv' H)
  generalize hres : yG (BG l fn) nn F fn 0 nn = res
  have HRES:=zh hres
  have hrf : lL 0 F F:=lL.refl hF 0
  have HRF:=zh hrf
  obtain ⟨m00,h5,-,hx0⟩:=CW hl hp0
  have HX0:=zh hx0
  clear hres hv hw eg hp0 hp1 hp3 hcl hao hfr hF hl hf0 hW hrf hx0
  go_enter Tryz.func206,Tryz.ntmps206
  go_wp2_with fail
  refine HPS.out.mono ?_
  rintro e w2 ⟨rfl,n2,rfl⟩
  have h2:=ll n2 H
  have hx2:=(zR w).drewN n2
  clear HPS H ht0 td
  generalize w.drewN n2 = w2 at *
  go_wp2_with fail
  go_loopw [13] (fun kv wr=>∃(k p : Nat) (F' : ShM),k <= nn /\ p <= k /\ kv = .int .i64 k /\ lL (5 * p) F F' /\ yG (BG l fn) (nn - p) F' fn k nn = res /\ Ext w wr /\ own wr (rshL b A F'++R)) (fun kv _=>nn - (intOf kv).toNat)
  case atStart=>exact ⟨0,0,F,by omega,by omega,rfl,HRF.out,HRES.out,hx2,h2⟩
  case round=>
   clear h2 hx2
   obtain ⟨k,p,F',hk,hp,rfl,hst,hgo,hxr,hown⟩:=hrel
   by_cases hlt : k < nn
   ·rw [show nn - p = (nn - p - 1) + 1 by omega,DR _ _ hlt] at hgo
    have hco:=Gl l fn F' k (min (nn - k) (4 - (fn + k) % 4))
    obtain ⟨hok',hl',hcl'⟩:=HSTEP.out F' _ (by omega) hst
    have hst2:=hst.trans (Gx hok' l h5 fn k (min (nn - k) (4 - (fn + k) % 4)))
    have hm1 : 1 <= min (nn - k) (4 - (fn + k) % 4):=by omega
    have hm2 : min (nn - k) (4 - (fn + k) % 4) <= nn - k:=by omega
    have hm3 : (fn + k) % 4 + min (nn - k) (4 - (fn + k) % 4) <= 4:=by omega
    have hqc : (((fn + k) / 4 : Nat) : Int) < clus F' (l.getD 0 0):=by rw [hcl']; have:=HCL.out; omega
    have hfq : (fn + k) / 4 <= 32:=by omega
    have hfm : (fn + k) % 4 < 4:=by omega
    have tq:=TE fn k
    have tr:=Ur fn k
    have e0 : IntKind.i64.wrap ((fn : Int) + (k : Int)) = (fn : Int) + (k : Int):=zi _ (by omega)
    have tmin : min (4 - (((fn + k) % 4 : Nat) : Int)) ((nn : Int) - (k : Int)) = ((min (nn - k) (4 - (fn + k) % 4) : Nat) : Int):=by omega
    have hwa : BG l fn F' k (min (nn - k) (4 - (fn + k) % 4)) = if min (nn - k) (4 - (fn + k) % 4) = 4 then C3 F' l ((fn + k) / 4) else if Kt F' l ((fn + k) / 4)≠1 then layM F' l ((fn + k) / 4) ((fn + k) % 4) (zs (16 * min (nn - k) (4 - (fn + k) % 4))) else (0,F'):=rfl
    generalize min (nn - k) (4 - (fn + k) % 4) = mm at *
    have hlay:=HLAY.out F' hok' hl' ((fn + k) / 4) ((fn + k) % 4) mm hqc hm3 (zs (16 * mm)) (EF _)
    generalize BG l fn F' k mm = r at *
    obtain ⟨m,hk5,hFk,hx⟩:=CW hl' HP0.out
    have htc:=EZ hl' HP0.out (Int.natCast_nonneg ((fn + k) / 4)) hqc
    rw [hx,Ca hFk] at htc
    obtain ⟨-,-,hkl⟩:=o6 (hok'.ok (topI l) m hk5 hFk) htc
    rw [zn] at hkl
    rw [L0 hFk,Ny hFk] at hwa
    generalize (fn + k) / 4 = q at *
    generalize (fn + k) % 4 = fm at *
    generalize topI l = t0 at *
    have hclr:=fun (R : List SL.HP) (w : World) (H : own w (rshL b A F'++R))=>Ji hk5 hFk hok' (q : Int) R w H
    have HIMG:=zh (fun (w : World) (H : own w (rshL b A F'++R))=>A7 hk5 hFk H)
    have i1 : (0 : Int) <= (t0 : Int):=by omega
    have i2 : (t0 : Int) < 5:=by omega
    have l1 : (q : Int) < (m.t.length : Int):=by omega
    have l2 : (0 : Int) <= (q : Int):=by omega
    have e1 : IntKind.i64.wrap (4 - (fm : Int)) = 4 - (fm : Int):=zi _ (by omega)
    have e2 : IntKind.i64.wrap ((nn : Int) - (k : Int)) = (nn : Int) - (k : Int):=zi _ (by omega)
    have e4 : IntKind.i64.wrap ((k : Int) + (mm : Int)) = (k : Int) + (mm : Int):=zi _ (by omega)
    have e5 : IntKind.i64.wrap (16 * (mm : Int)) = ((16 * mm : Nat) : Int):=by rw [zi _ (by omega)]; omega
    have g1 : wr.cell? ⟨lb,off,none⟩ = some (.int .i64 (l.getD 0 0)):=oq (HV.out _ _ hown) hpos
    rw [HX0.out] at g1
    have g2:=yo hown hk5
    rw [oT hFk] at g2
    have HST:=zh hst2
    have HFK:=zh hFk
    have HWA:=zh hwa
    have HGO:=zh hgo
    have HLAY2:=zh hlay
    have HCLR:=zh hclr
    clear hst2 hst hclr hlay hwa hFk hgo htc hqc hcl' hl' hok' hx
    by_cases h4 : mm = 4
    ·subst h4
     have t4 : (((4 : Nat) : Int) == 4) = true:=rfl
     have hr : r = ((m.clear (q : Int)).1,put F' t0 (m.clear (q : Int)).2):=by rw [HWA.out,zt rfl]
     have hra : (m.clear (q : Int)).1 = r.1:=by rw [hr]
     have hrb : put F' t0 (m.clear (q : Int)).2 = r.2:=by rw [hr]
     rw [hra,hrb] at HCLR
     clear hr hra hrb HWA
     by_cases hr0 : r.1 = 0
     ·have hg:=HGO.out
      have hl3:=HCLR.out
      rw [zq (by rw [hr0]; decide)] at hg
      rw [hr0] at hl3
      have HG:=zh hg
      have HL:=zh hl3
      clear hl3 hg hr0 hco
      go_upto_region 16 with (fail)
      go_still_tail 8,(by kernel_rfl)
      change wpList _ _ _ _ _ wr.drew
      go_wp2_with fail
      refine (HL.out _ _ (lj hown)).mono ?_
      rintro e w5 ⟨rfl,hx5,h5'⟩
      have hx6:=hxr.drew.trans hx5
      go_wp2_with fail
      go_roundw
      case rel=>exact ⟨k + 4,p + 1,r.2,by omega,by omega,by simp,HST.out.mono (by omega),by rw [<- HG.out]; rfl,hx6,h5'⟩
      case measure=>simp [intOf]; omega
     ·have hg:=HGO.out
      have hl3:=HCLR.out
      rw [zt hr0] at hg
      subst hg
      have w9 : 0 < r.1:=by omega
      have HL:=zh hl3
      clear hl3 HRES hr0 hco
      go_upto_region 16 with (fail)
      go_still_tail 8,(by kernel_rfl)
      change wpList _ _ _ _ _ wr.drew
      go_wp2_with fail
      refine (HL.out _ _ (lj hown)).mono ?_
      rintro e w5 ⟨rfl,hx5,h5'⟩
      have hx6:=hxr.drew.trans hx5
      go_wp2_with fail
      go_ret
      exact ⟨rfl,hx6,h5'⟩
    ·have t4 : ((mm : Int) == 4) = false:=by rw [zb]; omega
     obtain ⟨vt,vh,-,-,-,-,x4,-,x6⟩:=HIMG.out wr hown
     obtain ⟨eo,eb,eoff,ecap,rfl,-,-,g3⟩:=x6.form
     obtain rfl:=g3 (by omega)
     have y1 : wr.cell? ⟨eb,eoff + q * 2,none⟩ = some (.int .i64 (m.kind (q : Int))):=(x6.cells hkl).1
     clear x6 g3
     by_cases hk1 : m.kind (q : Int) = 1
     ·have hr : r = (0,F'):=by rw [HWA.out,zq h4,zq (by simpa using hk1)]
      subst hr
      rw [hk1] at y1
      have hg:=HGO.out
      rw [zq (by simp)] at hg
      have HG:=zh hg
      clear h4 hk1 hg hco
      go_upto_region 17 with (fail)
      go_quiet (fail)
      have hb:=ll nq hown
      have hxb:=hxr.drewN nq
      clear hown hxr x4 y1 g1 g2
      generalize wr.drewN nq = wb at *
      go_wp2_with fail
      go_roundw
      case rel=>exact ⟨k + mm,p + 1,F',by omega,by omega,by simp,HST.out.mono (by omega),by rw [<- HG.out]; rfl,hxb,hb⟩
      case measure=>simp [intOf]; omega
     ·have hr : r = layM F' l q fm (zs (16 * mm)):=by rw [HWA.out,zq h4,zt hk1]
      rw [<- hr] at HLAY2
      have t1 : (m.kind (q : Int) != 1) = true:=by simp [hk1]
      clear hr HWA
      by_cases hr0 : r.1 = 0
      ·have hg:=HGO.out
       have hl3:=HLAY2.out
       rw [zq (by rw [hr0]; decide)] at hg
       rw [hr0] at hl3
       have HG:=zh hg
       have HL:=zh hl3
       clear hl3 hg hr0 hco h4 hk1
       go_upto_region 17 with (fail)
       go_quiet (fail)
       have hb:=ll nq hown
       have hxb:=hxr.drewN nq
       clear hown hxr x4 y1 g1 g2
       generalize wr.drewN nq = wb at *
       go_wp2_with fail
       refine (Bm (16 * mm) (by omega) _ _ hb).mono ?_
       rintro e w4 ⟨rfl,hx4,h4'⟩
       go_wp2_with fail
       refine (HL.out _ _ HV.out h4').mono ?_
       rintro e w5 ⟨rfl,hx5,h5'⟩
       have hx6:=(hxb.trans hx4).trans hx5
       go_wp2_with fail
       go_roundw
       case rel=>exact ⟨k + mm,p + 1,r.2,by omega,by omega,by simp,HST.out.mono (by omega),by rw [<- HG.out]; rfl,hx6,h5'⟩
       case measure=>simp [intOf]; omega
      ·have hg:=HGO.out
       have hl3:=HLAY2.out
       rw [zt hr0] at hg
       subst hg
       have w9 : 0 < r.1:=by omega
       have HL:=zh hl3
       clear hl3 HRES hr0 hco h4 hk1
       go_upto_region 17 with (fail)
       go_quiet (fail)
       have hb:=ll nq hown
       have hxb:=hxr.drewN nq
       clear hown hxr x4 y1 g1 g2
       generalize wr.drewN nq = wb at *
       go_wp2_with fail
       refine (Bm (16 * mm) (by omega) _ _ hb).mono ?_
       rintro e w4 ⟨rfl,hx4,h4'⟩
       go_wp2_with fail
       refine (HL.out _ _ HV.out h4').mono ?_
       rintro e w5 ⟨rfl,hx5,h5'⟩
       have hx6:=(hxb.trans hx4).trans hx5
       go_wp2_with fail
       go_ret
       exact ⟨rfl,hx6,h5'⟩
   ·obtain rfl : k = nn:=by omega
    rw [D0] at hgo
    subst hgo
    go_wp2_with fail
    go_ret
    exact ⟨rfl,hxr,hown⟩
 ·have eg : zM F l fr nn = (lV F l fr nn,F):=by unfold zM; rw [zt hw]
  have hc:=zJ F l fr nn
  rw [eg]
  generalize lV F l fr nn = res at *
  have w9 : 0 < res:=by omega
  clear hw eg hc hfr
  go_enter Tryz.func206,Tryz.ntmps206
  go_wp2_with fail
  refine HPS.out.mono ?_
  rintro e w2 ⟨rfl,n2,rfl⟩
  go_wp2_with fail
  go_ret
  exact ⟨rfl,(zR w).drewN n2,ll n2 H⟩
theorem Ma : (zs 64).toList = [0,0,0,0,0,0,0,0,0,0,0,0,0,0,0,0,0,0,0,0,0,0,0,0,0,0,0,0,0,0,0,0,0,0,0,0,0,0,0,0,0,0,0,0,0,0,0,0,0,0,0,0,0,0,0,0,0,0,0,0,0,0,0,0]:=by rw [ByteArray.toList_eq]; rfl
theorem MT {s z : ByteArray} (h : s = z) : (s.toList == z.toList) = true:=by rw [h]; simp
theorem LB {s z : ByteArray} (h : ¬s = z) : (s.toList == z.toList) = false:=by
 rw [zb]
 exact fun e=>h (BI e)
theorem TA (b : Nat) (A : Nat -> Nat×Nat×Nat) (F : ShM) (hF : ShOk F) (k : Nat) (m : ImgM) (hk : k < 5) (hFk : F k = some m) (c : Int) (s : ByteArray) (hs : s.size <= 3200) (R : List SL.HP) (w : World) (H : own w (shL b A F++R)) :
  Calls Tryz.prog 231 #[.pointer (some ⟨b,0,none⟩),.int .i64 k,.int .i64 c,.string s] w fun e w'=>e = .returned (errV (Bj F k c s).1) /\ Ext w w' /\ own w' (shL b A (Bj F k c s).2++R):=by
 have e0 : Bj F k c s = if s = zs 64 then ((m.clear c).1,put F k (m.clear c).2) else if m.there c = false then (1,F) else if m.kind c = 2 then ((m.wr c 0 s).1,put F k (m.wr c 0 s).2) else ((m.fill c s).1,put F k (m.fill c s).2):=by unfold Bj; rw [hFk]
 rw [e0]
 have cell:=oA H hk
 rw [od hFk] at cell
 have i1 : (0 : Int) <= (k : Int):=by omega
 have i2 : (k : Int) < 5:=by omega
 by_cases hz : s = zs 64
 ·rw [zt hz]
  have HC:=zh (KL hk hFk hF c R w H)
  have hq:=MT hz
  rw [Ma] at hq
  clear hz e0 hF hFk
  go_enter Tryz.func231,Tryz.ntmps231
  go_wp2_with fail
  refine HC.out.mono ?_
  rintro e w5 ⟨rfl,hx5,h5⟩
  go_wp2_with fail
  go_ret
  exact ⟨rfl,hx5,h5⟩
 ·rw [zq hz]
  have hq:=LB hz
  rw [Ma] at hq
  have HZ:=zh hz
  clear hz e0
  cases ht : m.there c
  ·rw [zt rfl]
   have HK:=zh (OO hk hFk (hF.ok k m hk hFk) c ht R w H)
   clear hF hFk ht
   go_enter Tryz.func231,Tryz.ntmps231
   go_wp2_with fail
   refine HK.out.mono ?_
   rintro e w5 ⟨rfl,rfl⟩
   go_wp2_with fail
   go_ret
   exact ⟨rfl,zR _,H⟩
  ·rw [zq (by decide)]
   have HK:=zh (IF hk hFk (hF.ok k m hk hFk) c ht R w H)
   by_cases h2 : m.kind c = 2
   ·rw [zt h2]
    rw [h2] at HK
    have HW:=zh (KU hk hFk hF c 0 ⟨by omega,by omega⟩ s (by omega) R w H)
    clear hF hFk ht h2
    go_enter Tryz.func231,Tryz.ntmps231
    go_wp2_with fail
    refine HK.out.mono ?_
    rintro e w5 ⟨rfl,rfl⟩
    go_wp2_with fail
    refine HW.out.mono ?_
    rintro e w6 ⟨rfl,hx6,h6⟩
    go_wp2_with fail
    go_ret
    exact ⟨rfl,hx6,h6⟩
   ·rw [zq h2]
    have t2 : (m.kind c == 2) = false:=zb.2 h2
    have HW:=zh (L5 hk hFk hF c s (by omega) R w H)
    clear hF hFk ht h2
    go_enter Tryz.func231,Tryz.ntmps231
    go_wp2_with fail
    refine HK.out.mono ?_
    rintro e w5 ⟨rfl,rfl⟩
    go_wp2_with fail
    refine HW.out.mono ?_
    rintro e w6 ⟨rfl,hx6,h6⟩
    go_wp2_with fail
    go_ret
    exact ⟨rfl,hx6,h6⟩
theorem Sz (b : Nat) (A : Nat -> Nat×Nat) (F : ShM) (hF : ShOk F) (k : Nat) (m : ImgM) (hk : k < 5) (hFk : F k = some m) (c : Int) (s : ByteArray) (hs : s.size <= 3200) (R : List SL.HP) (w : World) (H : own w (rshL b A F++R)) :
  Calls Tryz.prog 182 #[.pointer (some ⟨b,0,none⟩),.int .i64 k,.int .i64 c,.string s] w fun e w'=>e = .returned (.int .i64 (Bj F k c s).1) /\ Ext w w' /\ own w' (rshL b A (Bj F k c s).2++R):=by
 have e0 : Bj F k c s = if s = zs 64 then ((m.clear c).1,put F k (m.clear c).2) else if m.there c = false then (1,F) else if m.kind c = 2 then ((m.wr c 0 s).1,put F k (m.wr c 0 s).2) else ((m.fill c s).1,put F k (m.fill c s).2):=by unfold Bj; rw [hFk]
 rw [e0]
 have cell:=yo H hk
 rw [oT hFk] at cell
 have i1 : (0 : Int) <= (k : Int):=by omega
 have i2 : (k : Int) < 5:=by omega
 have HN:=zh (Bm 64 (by decide) _ w H)
 have HTH:=zh (fun (w : World) (H : own w (rshL b A F++R))=>BL (A k).1 (A k).2 m c _ w (AZ hk hFk H))
 by_cases hz : s = zs 64
 ·rw [zt hz]
  have HC:=zh (fun (w : World) (H : own w (rshL b A F++R))=>Ji hk hFk hF c R w H)
  have hq:=MT hz
  clear hz e0 hF hFk
  generalize zs 64 = z at *
  go_enter Tryz.func182,Tryz.ntmps182
  go_wp2_with fail
  refine HN.out.mono ?_
  rintro e w4 ⟨rfl,hx4,h4⟩
  go_wp2_with fail
  refine (HC.out _ h4).mono ?_
  rintro e w5 ⟨rfl,hx5,h5⟩
  go_wp2_with fail
  go_ret
  exact ⟨rfl,hx4.trans hx5,h5⟩
 ·rw [zq hz]
  have hq:=LB hz
  have HZ:=zh hz
  clear hz e0
  generalize zs 64 = z at *
  cases ht : m.there c
  ·rw [zt rfl]
   rw [ht] at HTH
   clear hF hFk ht
   go_enter Tryz.func182,Tryz.ntmps182
   go_wp2_with fail
   refine HN.out.mono ?_
   rintro e w4 ⟨rfl,hx4,h4⟩
   go_wp2_with fail
   refine (HTH.out _ h4).mono ?_
   rintro e w5 ⟨rfl,rfl⟩
   go_wp2_with fail
   go_ret
   exact ⟨rfl,hx4,h4⟩
  ·rw [zq (by decide)]
   have hm:=hF.ok k m hk hFk
   obtain ⟨k0,-,hkl⟩:=o6 hm ht
   obtain ⟨cn,rfl⟩:=ze k0
   rw [zn] at hkl
   rw [ht] at HTH
   have HIMG:=zh (fun (w : World) (H : own w (rshL b A F++R))=>A7 hk hFk H)
   have l1 : (cn : Int) < (m.t.length : Int):=by omega
   by_cases h2 : m.kind (cn : Int) = 2
   ·rw [zt h2]
    have HW:=zh (fun (w : World) (H : own w (rshL b A F++R))=>Ju hk hFk hF (cn : Int) 0 ⟨by omega,by omega⟩ s (by omega) R w H)
    have HK2:=zh h2
    clear hF hFk ht h2 hm
    go_enter Tryz.func182,Tryz.ntmps182
    go_wp2_with fail
    refine HN.out.mono ?_
    rintro e w4 ⟨rfl,hx4,h4⟩
    go_wp2_with fail
    refine (HTH.out _ h4).mono ?_
    rintro e w5 ⟨rfl,rfl⟩
    obtain ⟨vt,vh,-,-,-,-,x4,-,x6⟩:=HIMG.out _ h4
    obtain ⟨eo,eb,eoff,ecap,rfl,-,-,g3⟩:=x6.form
    obtain rfl:=g3 (by omega)
    have y1 : w4.cell? ⟨eb,eoff + cn * 2,none⟩ = some (.int .i64 (m.kind (cn : Int))):=(x6.cells hkl).1
    rw [HK2.out] at y1
    clear x6 g3
    go_wp2_with fail
    refine (HW.out _ h4).mono ?_
    rintro e w6 ⟨rfl,hx6,h6⟩
    go_wp2_with fail
    go_ret
    exact ⟨rfl,hx4.trans hx6,h6⟩
   ·rw [zq h2]
    have t2 : (m.kind (cn : Int) == 2) = false:=zb.2 h2
    have HW:=zh (fun (w : World) (H : own w (rshL b A F++R))=>KE hk hFk hF (cn : Int) s (by omega) R w H)
    clear hF hFk ht h2 hm
    go_enter Tryz.func182,Tryz.ntmps182
    go_wp2_with fail
    refine HN.out.mono ?_
    rintro e w4 ⟨rfl,hx4,h4⟩
    go_wp2_with fail
    refine (HTH.out _ h4).mono ?_
    rintro e w5 ⟨rfl,rfl⟩
    obtain ⟨vt,vh,-,-,-,-,x4,-,x6⟩:=HIMG.out _ h4
    obtain ⟨eo,eb,eoff,ecap,rfl,-,-,g3⟩:=x6.form
    obtain rfl:=g3 (by omega)
    have y1 : w4.cell? ⟨eb,eoff + cn * 2,none⟩ = some (.int .i64 (m.kind (cn : Int))):=(x6.cells hkl).1
    clear x6 g3
    go_wp2_with fail
    refine (HW.out _ h4).mono ?_
    rintro e w6 ⟨rfl,hx6,h6⟩
    go_wp2_with fail
    go_ret
    exact ⟨rfl,hx4.trans hx6,h6⟩
theorem ET (n : Nat) (h : n < 2 ^ 64) : IntKind.u64.wrap (n : Int) = (n : Int):=by rw [IntKind.wrap_u64]; omega
theorem J6 (a b : Nat) (ha : a < 9223372036854775808) (hb : b < 9223372036854775808) : bits .and .i64 (a : Int) (b : Int) = ((a &&& b : Nat) : Int):=by
 have hx : a &&& b < 2 ^ 63:=Nat.and_lt_two_pow _ (by omega)
 have h1 : (BitVec.ofInt 64 (a : Int)).toNat = a:=by
  rw [BitVec.ofInt_natCast,BitVec.toNat_ofNat]; exact Nat.mod_eq_of_lt (by omega)
 have h2 : (BitVec.ofInt 64 (b : Int)).toNat = b:=by
  rw [BitVec.ofInt_natCast,BitVec.toNat_ofNat]; exact Nat.mod_eq_of_lt (by omega)
 show IntKind.i64.wrap ((BitVec.ofInt 64 (a : Int) &&& BitVec.ofInt 64 (b : Int)).toNat : Int) = _
 rw [BitVec.toNat_and,h1,h2]
 exact zi _ (by omega)
theorem Wk (n : Nat) : n &&& 127 = n % 128:=Nat.and_two_pow_sub_one_eq_mod n 7
theorem UY (x : Nat) (hx : x < 2 ^ 64) (w : World) : Calls Tryz.prog 188 #[.int .u64 x] w fun e w'=>e = .returned (.int .i64 (Ones.popc 64 x : Nat)) /\ w = w':=by
 obtain ⟨y1,y2,y3,h1,h2,h3,h4,h5,h6,h7,h8,h9,h10⟩:=Ones.ones_all hx
 go_enter Tryz.func188,Tryz.ntmps188
 have E1 : IntKind.u64.wrap (bits BinOp.and IntKind.u64 ((x : Int) / 2) 6148914691236517205 + bits BinOp.and IntKind.u64 (x : Int) 6148914691236517205) = ((Ones.s1 x : Nat) : Int):=by
  have a1:=bits_and_u64_nat (x / 2) 6148914691236517205 (by omega) (by omega)
  have a2:=bits_and_u64_nat x 6148914691236517205 (by omega) (by omega)
  rw [show ((x : Int) / 2) = ((x / 2 : Nat) : Int) by omega,show (6148914691236517205 : Int) = ((6148914691236517205 : Nat) : Int) from rfl,a1,a2,<- Int.natCast_add]
  exact ET _ h8
 have E2 : IntKind.u64.wrap (bits BinOp.and IntKind.u64 (((Ones.s1 x : Nat) : Int) / 4) 3689348814741910323 + bits BinOp.and IntKind.u64 ((Ones.s1 x : Nat) : Int) 3689348814741910323) = ((Ones.s2 (Ones.s1 x) : Nat) : Int):=by
  have a1:=bits_and_u64_nat (Ones.s1 x / 4) 3689348814741910323 (by omega) (by omega)
  have a2:=bits_and_u64_nat (Ones.s1 x) 3689348814741910323 (by omega) (by omega)
  rw [show (((Ones.s1 x : Nat) : Int) / 4) = ((Ones.s1 x / 4 : Nat) : Int) by omega,show (3689348814741910323 : Int) = ((3689348814741910323 : Nat) : Int) from rfl,a1,a2,<- Int.natCast_add]
  exact ET _ h9
 have E3a : IntKind.u64.wrap (((Ones.s2 (Ones.s1 x) : Nat) : Int) / 16 + ((Ones.s2 (Ones.s1 x) : Nat) : Int)) = ((Ones.s2 (Ones.s1 x) : Nat) : Int) / 16 + ((Ones.s2 (Ones.s1 x) : Nat) : Int):=by
  rw [show (((Ones.s2 (Ones.s1 x) : Nat) : Int) / 16 + ((Ones.s2 (Ones.s1 x) : Nat) : Int)) = ((Ones.s2 (Ones.s1 x) / 16 + Ones.s2 (Ones.s1 x) : Nat) : Int) by omega]
  exact ET _ h10
 have E3 : bits BinOp.and IntKind.u64 (((Ones.s2 (Ones.s1 x) : Nat) : Int) / 16 + ((Ones.s2 (Ones.s1 x) : Nat) : Int)) 1085102592571150095 = ((Ones.s3 (Ones.s2 (Ones.s1 x)) : Nat) : Int):=by
  rw [show (((Ones.s2 (Ones.s1 x) : Nat) : Int) / 16 + ((Ones.s2 (Ones.s1 x) : Nat) : Int)) = ((Ones.s2 (Ones.s1 x) / 16 + Ones.s2 (Ones.s1 x) : Nat) : Int) by omega]
  exact bits_and_u64_nat _ 1085102592571150095 h10 (by omega)
 have E4 : IntKind.u64.wrap (((Ones.s3 (Ones.s2 (Ones.s1 x)) : Nat) : Int) + ((Ones.s3 (Ones.s2 (Ones.s1 x)) : Nat) : Int) / 256) = (y1 : Int):=by
  rw [show (((Ones.s3 (Ones.s2 (Ones.s1 x)) : Nat) : Int) + ((Ones.s3 (Ones.s2 (Ones.s1 x)) : Nat) : Int) / 256) = (y1 : Int) by omega]
  exact ET _ h5
 have E5 : IntKind.u64.wrap ((y1 : Int) + (y1 : Int) / 65536) = (y2 : Int):=by
  rw [show ((y1 : Int) + (y1 : Int) / 65536) = (y2 : Int) by omega]
  exact ET _ h6
 have E6 : IntKind.u64.wrap ((y2 : Int) + (y2 : Int) / 4294967296) = (y3 : Int):=by
  rw [show ((y2 : Int) + (y2 : Int) / 4294967296) = (y3 : Int) by omega]
  exact ET _ (by omega)
 have E7 : bits BinOp.and IntKind.i64 (y3 : Int) 127 = ((Ones.popc 64 x : Nat) : Int):=by
  rw [show (127 : Int) = ((127 : Nat) : Int) from rfl,J6 _ _ h7 (by omega),Wk,h4]
 generalize Ones.s3 (Ones.s2 (Ones.s1 x)) = z3 at *
 generalize Ones.s2 (Ones.s1 x) = z2 at *
 generalize Ones.s1 x = z1 at *
 have H7:=zh h7
 clear h1 h2 h3 h4 h5 h6 h8 h9 h10
 have b1 : (0 : Int) <= (y3 : Int):=by omega
 have b2 : (y3 : Int) <= 9223372036854775807:=by have:=H7.out; omega
 go_wp2_with fail
 go_ret
 exact ⟨rfl,rfl⟩
def yR (w : World) : Prop:=∀j,j < 64 -> w.cell? ⟨0,j,none⟩ = some (.int .u8 ((Lib.deBruijn64tab.getD j 0 : Nat) : Int))
theorem yR.later {w w' : World} {L : List SL.HP} (h : yR w) (k : Nat) (H : own w' L) (hk : L[k]? = some (y9 w)) : yR w':=fun j hj=>BK k H hk (h j hj)
theorem GH (x : Nat) (h0 : x≠0) (hx : x < 2 ^ 64) : ∃pw idx : Nat,idx < 64 /\ x &&& (2 ^ 64 - x) = pw /\ pw * 285870213051353865 % 18446744073709551616 / 288230376151711744 = idx /\ Lib.deBruijn64tab.getD idx 0 = Lib.ctz 64 x /\ Lib.ctz 64 x < 64:=by
 obtain ⟨hlow,hk⟩:=Lib.lowest_bit 64 x h0 hx
 obtain ⟨hi,htab⟩:=Lib.deBruijn64_at _ hk
 exact ⟨_,_,hi,hlow,rfl,htab,hk⟩
theorem SF (x : Nat) (hx : x < 2 ^ 64) (h0 : x≠0) (w : World) (hT : yR w) : Calls Tryz.prog 230 #[.int .u64 x] w fun e w'=>e = .returned (.int .i64 (Lib.ctz 64 x : Nat)) /\ w = w':=by
 obtain ⟨pw,idx,hi,hlow,hix,htab,hk⟩:=GH x h0 hx
 have hcell:=hT _ hi
 rw [htab] at hcell
 generalize Lib.ctz 64 x = k at *
 have e1 : IntKind.u64.wrap (-(x : Int)) = ((18446744073709551616 - x : Nat) : Int):=by rw [IntKind.wrap_u64]; omega
 have E1 : bits BinOp.and IntKind.u64 (x : Int) (IntKind.u64.wrap (-(x : Int))) = (pw : Int):=by
  rw [e1,bits_and_u64_nat x _ hx (by omega)]
  exact congrArg _ hlow
 have E2 : IntKind.u64.wrap ((pw : Int) * 285870213051353865) / 288230376151711744 = (idx : Int):=by
  rw [IntKind.wrap_u64,<- hix,Int.natCast_ediv,Int.natCast_emod,Int.natCast_mul]
  rfl
 have w1 : ((x : Int) == 0) = false:=by rw [zb]; omega
 have w2 : (0 : Int) <= (idx : Int):=by omega
 have w3 : (idx : Int) < 64:=by omega
 clear e1 htab hlow hT hix
 go_enter Tryz.func230,Tryz.ntmps230
 go_wp2_with fail
 go_ret
 exact ⟨rfl,rfl⟩
theorem Lm (w i : Nat) : (w : Int) / 2 ^ i = ((w / 2 ^ i : Nat) : Int):=by rw [Int.natCast_ediv,Int.natCast_pow]; rfl
theorem U4 (w i : Nat) (h : w < 2 ^ 64) : bits BinOp.and IntKind.u64 ((w : Int) / 2 ^ i) 1 = ((w / 2 ^ i % 2 : Nat) : Int):=by
 rw [Lm]
 have hd : w / 2 ^ i < 2 ^ 64:=Nat.lt_of_le_of_lt (Nat.div_le_self _ _) h
 rw [show (1 : Int) = ((1 : Nat) : Int) from rfl,bits_and_u64_nat _ 1 hd (by omega),Ones.and1]
theorem DN (w i : Nat) : w.testBit i = decide (w / 2 ^ i % 2 = 1):=by
 rw [Nat.testBit_eq_decide_div_mod_eq]
def D6 (b n x : Nat) : SL.HP:=pts b (.cells #[.int .i64 n,.int .u64 x] 230 (0,0))
theorem Dw {w : World} {l : List SL.HP} {k : Nat} {P : SL.HP} (H : own w l) (hk : l[k]? = some P) : own w (l.set k P):=by
 have : l.set k P = l:=by
  refine List.ext_getElem? fun i=>?_
  rw [List.getElem?_set]
  by_cases h : k = i
  ·subst h; rw [zt rfl,hk]; have:=(zS.1 hk).1; simp [this]
  ·rw [zq h]
 rw [this]; exact H
def hasM (n x : Nat) (i : Int) : Bool:=decide (0 <= i) && decide (i < n) && x.testBit i.toNat
theorem Vl (b n x : Nat) (hn : n <= 64) (hx : x < 2 ^ 64) (i : Int) {l : List SL.HP} (k : Nat) (w : World) (H : own w l) (hk : l[k]? = some (D6 b n x)) :
  Calls Tryz.prog 177 #[.pointer (some ⟨b,0,none⟩),.int .i64 i] w fun e w'=>e = .returned (.bool (hasM n x i)) /\ w = w':=by
 obtain ⟨c,-⟩:=ld k H hk
 have c0:=c 0
 have c1:=c 1
 clear c
 by_cases h0 : i < 0
 ·have d0 : decide (0 <= i) = false:=zf (by omega)
  have hr : hasM n x i = false:=by simp [hasM,d0]
  rw [hr]
  clear hr h0
  go_enter Tryz.func177,Tryz.ntmps177
  go_wp2_with fail
  go_ret
  exact ⟨rfl,rfl⟩
 ·obtain ⟨j,rfl⟩:=ze (show 0 <= i by omega)
  have d0 : decide (0 <= (j : Int)) = true:=zg (by omega)
  by_cases h1 : j < n
  ·have d1 : decide ((j : Int) < (n : Int)) = true:=zg (by omega)
   have hr : hasM n x (j : Int) = x.testBit j:=by simp [hasM,h1]
   rw [hr,DN]
   have e1:=U4 x j hx
   have w1 : (j : Int) < 64:=by omega
   have w2 : (0 : Int) <= (j : Int):=by omega
   clear hr h0
   go_enter Tryz.func177,Tryz.ntmps177
   go_wp2_with fail
   go_ret
   exact ⟨yi (by rw [Bool.eq_iff_iff]; simp only [beq_iff_eq,decide_eq_true_eq]; rw [Lm]; generalize x / 2 ^ j = q; omega),rfl⟩
  ·have d1 : decide ((j : Int) < (n : Int)) = false:=zf (by omega)
   have hr : hasM n x (j : Int) = false:=by simp [hasM,h1]
   rw [hr]
   clear hr h0
   go_enter Tryz.func177,Tryz.ntmps177
   go_wp2_with fail
   go_ret
   exact ⟨rfl,rfl⟩
def og (n x : Nat) (i : Int) (b : Bool) : Bool×Nat:=if 0 <= i /\ i < n /\ x.testBit i.toNat≠b then (true,x ^^^ 2 ^ i.toNat) else (false,x)
theorem F5 {n x : Nat} (hn : n <= 64) (hx : x < 2 ^ n) (i : Int) (b : Bool) : (og n x i b).2 < 2 ^ n:=by
 unfold og
 split
 ·rename_i h
  have hj : i.toNat < n:=by have h1:=h.1; have h2:=h.2.1; omega
  exact Nat.xor_lt_two_pow hx (Nat.pow_lt_pow_right (by decide) hj)
 ·exact hx
theorem lt64 {n x : Nat} (hn : n <= 64) (hx : x < 2 ^ n) : x < 2 ^ 64:=Nat.lt_of_lt_of_le hx (Nat.pow_le_pow_right (by omega) hn)
theorem Du (b n x : Nat) (hn : n <= 64) (hx : x < 2 ^ n) (i : Int) (v : Bool) {l : List SL.HP} (k : Nat) (w : World) (H : own w l) (hk : l[k]? = some (D6 b n x)) :
  Calls Tryz.prog 74 #[.pointer (some ⟨b,0,none⟩),.int .i64 i,.bool v] w fun e w'=>e = .returned (.bool (og n x i v).1) /\ Ext w w' /\ own w' (l.set k (D6 b n (og n x i v).2)):=by
 have hx64:=lt64 hn hx
 obtain ⟨c,f⟩:=ld k H hk
 have c0:=c 0
 have c1:=c 1
 have f1:=f 1
 clear c f
 by_cases h0 : i < 0
 ·have d0 : decide (i < 0) = true:=zg h0
  have hr : og n x i v = (false,x):=by unfold og; rw [zq (by omega)]
  rw [hr]
  clear hr h0
  go_enter Tryz.func74,Tryz.ntmps74
  go_wp2_with fail
  go_ret
  exact ⟨rfl,zR _,Dw H hk⟩
 ·obtain ⟨j,rfl⟩:=ze (show 0 <= i by omega)
  have d0 : decide ((j : Int) < 0) = false:=zf (by omega)
  by_cases h1 : j < n
  ·have d1 : decide ((n : Int) <= (j : Int)) = false:=zf (by omega)
   have HH:=zh (Vl b n x hn hx64 (j : Int) k w H hk)
   rw [show hasM n x (j : Int) = x.testBit j by simp [hasM,h1]] at HH
   have e0 : og n x (j : Int) v = if x.testBit j≠v then (true,x ^^^ 2 ^ j) else (false,x):=by
    unfold og
    by_cases h : x.testBit j≠v
    ·rw [zt ⟨by omega,by omega,h⟩,zt h]; rfl
    ·rw [zq (fun g=>h g.2.2),zq h]
   rw [e0]
   have w1 : (j : Int) < 64:=by omega
   have w2 : (0 : Int) <= (j : Int):=by omega
   have hp : 2 ^ j < 2 ^ 64:=Nat.pow_lt_pow_right (by decide) (by omega)
   have E0 : IntKind.u64.wrap ((2 : Int) ^ j) = ((2 ^ j : Nat) : Int):=by
    rw [show (2 : Int) ^ j = ((2 ^ j : Nat) : Int) by rw [Int.natCast_pow]; rfl]
    exact ET _ hp
   have E1 : bits BinOp.xor IntKind.u64 (x : Int) (IntKind.u64.wrap ((2 : Int) ^ j)) = ((x ^^^ 2 ^ j : Nat) : Int):=by
    rw [E0]; exact bits_xor_u64_nat x (2 ^ j) hx64 hp
   clear hp E0
   generalize x.testBit j = tb at *
   by_cases ht : tb = v
   ·subst ht
    rw [zq (by simp)]
    have t1 : (tb == tb) = true:=by simp
    clear e0 h0
    go_enter Tryz.func74,Tryz.ntmps74
    go_wp2_with fail
    refine HH.out.mono ?_
    rintro e w' ⟨rfl,rfl⟩
    go_wp2_with fail
    go_ret
    exact ⟨rfl,zR _,Dw H hk⟩
   ·rw [zt ht]
    have t1 : (tb == v) = false:=by rw [zb]; exact ht
    clear e0 h0
    go_enter Tryz.func74,Tryz.ntmps74
    go_wp2_with fail
    refine HH.out.mono ?_
    rintro e w' ⟨rfl,rfl⟩
    go_upto_region 3 with (fail)
    go_still_tail 9,(by kernel_rfl)
    change wpList _ _ _ _ _ w.drew
    have H1:=lj H
    have g1:=(ld k H1 hk).2 1
    go_wp2_with fail
    go_ret
    exact ⟨rfl,(zR w).drew.setCell _ _,lg (i:=1) k H1 hk⟩
  ·have d1 : decide ((n : Int) <= (j : Int)) = true:=zg (by omega)
   have hr : og n x (j : Int) v = (false,x):=by unfold og; rw [zq (by omega)]
   rw [hr]
   clear hr h0
   go_enter Tryz.func74,Tryz.ntmps74
   go_wp2_with fail
   go_ret
   exact ⟨rfl,zR _,Dw H hk⟩
theorem NS (n : Nat) (hn : n <= 64) (R : List SL.HP) (w : World) (H : own w R) :
  Calls Tryz.prog 72 #[.int .i64 n] w fun e w'=>∃b,e = .returned (.tuple #[.pointer (some ⟨b,0,none⟩),.nilIface]) /\ Ext w w' /\ own w' (D6 b n 0::R):=by
 have w1 : (0 : Int) <= (n : Int):=by omega
 have w2 : (n : Int) <= 64:=by omega
 go_enter Tryz.func72,Tryz.ntmps72
 go_wp2_with fail
 go_ret2
 exact ⟨_,rfl,(zR _).alloc _,li H _⟩
theorem Kj (b n x : Nat) (hx : x < 2 ^ 64) {l : List SL.HP} (k : Nat) (w : World) (H : own w l) (hk : l[k]? = some (D6 b n x)) :
  Calls Tryz.prog 88 #[.pointer (some ⟨b,0,none⟩)] w fun e w'=>e = .returned (.int .i64 (Ones.popc 64 x : Nat)) /\ w = w':=by
 obtain ⟨c,-⟩:=ld k H hk
 have c1:=c 1
 clear c
 have HO:=zh (UY x hx w)
 go_enter Tryz.func88,Tryz.ntmps88
 go_wp2_with fail
 refine HO.out.mono ?_
 rintro e w' ⟨rfl,rfl⟩
 go_wp2_with fail
 go_ret
 exact ⟨rfl,rfl⟩
def AG (n x : Nat) (fr : Int) : Nat×Bool:=
 if x = 0 then (0,false) else if 0 < fr /\ fr < n /\ x / 2 ^ fr.toNat≠0 then (fr.toNat + Lib.ctz 64 (x / 2 ^ fr.toNat),true) else (Lib.ctz 64 x,true)
theorem Tk (b n x : Nat) (hn : n <= 64) (hx : x < 2 ^ 64) (fr : Int) {l : List SL.HP} (k : Nat) (w : World) (hT : yR w) (H : own w l) (hk : l[k]? = some (D6 b n x)) :
  Calls Tryz.prog 148 #[.pointer (some ⟨b,0,none⟩),.int .i64 fr] w fun e w'=>e = .returned (.tuple #[.int .i64 (AG n x fr).1,.bool (AG n x fr).2]) /\ w = w':=by
 have H1:=lj H
 obtain ⟨c,-⟩:=ld k H hk
 obtain ⟨d,-⟩:=ld k H1 hk
 have c0:=c 0
 have c1:=c 1
 have d0:=d 0
 have d1:=d 1
 clear c d
 by_cases h0 : x = 0
 ·subst h0
  have hr : AG n 0 fr = (0,false):=rfl
  rw [hr]
  clear hr
  go_enter Tryz.func148,Tryz.ntmps148
  go_wp2_with fail
  go_ret2
  exact ⟨rfl,rfl⟩
 ·have z1 : ((x : Int) == 0) = false:=by rw [zb]; omega
  have HZ:=zh (fun w'=>SF x hx h0 w')
  have ha : AG n x fr = if 0 < fr /\ fr < n /\ x / 2 ^ fr.toNat≠0 then (fr.toNat + Lib.ctz 64 (x / 2 ^ fr.toNat),true) else (Lib.ctz 64 x,true):=zq h0
  by_cases h1 : 0 < fr
  ·obtain ⟨j,rfl⟩:=ze (show 0 <= fr by omega)
   have t1 : decide (0 < (j : Int)) = true:=zg h1
   by_cases h2 : j < n
   ·have t2 : decide ((j : Int) < (n : Int)) = true:=zg (by omega)
    have hd : x / 2 ^ j < 2 ^ 64:=Nat.lt_of_le_of_lt (Nat.div_le_self _ _) hx
    have e1:=Lm x j
    have w1 : (j : Int) < 64:=by omega
    have w2 : (0 : Int) <= (j : Int):=by omega
    by_cases h3 : x / 2 ^ j = 0
    ·have hr : AG n x (j : Int) = (Lib.ctz 64 x,true):=by rw [ha,zq (fun h=>h.2.2 h3)]
     rw [hr]
     rw [h3] at e1
     clear hr ha
     go_enter Tryz.func148,Tryz.ntmps148
     go_wp2_with fail
     refine (HZ.out _ hT).mono ?_
     rintro e w' ⟨rfl,rfl⟩
     go_wp2_with fail
     go_ret2
     exact ⟨rfl,rfl⟩
    ·have hr : AG n x (j : Int) = (j + Lib.ctz 64 (x / 2 ^ j),true):=by rw [ha,zt ⟨by omega,by omega,h3⟩]; rfl
     rw [hr]
     have HZ2:=zh (fun w'=>SF (x / 2 ^ j) hd h3 w')
     have hz:=(GH (x / 2 ^ j) h3 hd)
     obtain ⟨-,-,-,-,-,-,hz⟩:=hz
     clear hr ha
     generalize x / 2 ^ j = q at *
     have z2 : ((q : Int) == 0) = false:=by rw [zb]; omega
     generalize Lib.ctz 64 q = t at *
     have w3 : (j : Int) + (t : Int) <= 9223372036854775807:=by omega
     have w4 : (-9223372036854775808 : Int) <= (j : Int) + (t : Int):=by omega
     clear h3 h0
     go_enter Tryz.func148,Tryz.ntmps148
     go_wp2_with fail
     refine (HZ2.out _ hT).mono ?_
     rintro e w' ⟨rfl,rfl⟩
     go_wp2_with fail
     go_ret2
     exact ⟨rfl,rfl⟩
   ·have t2 : decide ((j : Int) < (n : Int)) = false:=zf (by omega)
    have hr : AG n x (j : Int) = (Lib.ctz 64 x,true):=by rw [ha,zq (by omega)]
    rw [hr]
    clear hr ha
    go_enter Tryz.func148,Tryz.ntmps148
    go_wp2_with fail
    refine (HZ.out _ hT).mono ?_
    rintro e w' ⟨rfl,rfl⟩
    go_wp2_with fail
    go_ret2
    exact ⟨rfl,rfl⟩
  ·have t1 : decide (0 < fr) = false:=zf h1
   have hr : AG n x fr = (Lib.ctz 64 x,true):=by rw [ha,zq (by omega)]
   rw [hr]
   clear hr ha
   go_enter Tryz.func148,Tryz.ntmps148
   go_wp2_with fail
   refine (HZ.out _ hT).mono ?_
   rintro e w' ⟨rfl,rfl⟩
   go_wp2_with fail
   go_ret2
   exact ⟨rfl,rfl⟩
structure DU (w : World) (b o n x : Nat) : Prop where
 n : w.cell? ⟨b,o,none⟩ = some (.int .i64 n)
 at_ : ∀i,i < 64 -> w.cell? ⟨b,o + 1 + i,none⟩ = some (.bool (x.testBit i))
theorem DU.drew {w : World} {b o n x : Nat} (h : DU w b o n x) : DU w.drew b o n x:=⟨h.n,h.at_⟩
theorem DU.drewN {w : World} {b o n x : Nat} (k : Nat) (h : DU w b o n x) : DU (w.drewN k) b o n x:=⟨h.n,h.at_⟩
theorem NM (b o n : Nat) (i : Int) (w : World) (hn : w.cell? ⟨b,o,none⟩ = some (.int .i64 n)) :
  Calls Tryz.prog 240 #[.pointer (some ⟨b,o,none⟩),.int .i64 i] w fun e w'=>e = .returned (.bool (decide (0 <= i) && decide (i < n))) /\ w = w':=by
 go_enter Tryz.func240,Tryz.ntmps240
 by_cases h0 : 0 <= i
 ·have d0 : decide (0 <= i) = true:=zg h0
  go_wp2_with fail
  go_ret
  exact ⟨yi (by simp [d0]),rfl⟩
 ·have d0 : decide (0 <= i) = false:=zf h0
  go_wp2_with fail
  go_ret
  exact ⟨yi (by simp [d0]),rfl⟩
theorem KN (b o n x : Nat) (w : World) (h : DU w b o n x) :
  Calls Tryz.prog 89 #[.pointer (some ⟨b,o,none⟩)] w fun e w'=>e = .returned (.int .i64 (Ones.popc 64 x : Nat)) /\ w = w':=by
 have HA:=zh h.at_
 have HB:=zh (fun q=>Ones.popc_le q x)
 have HE:=zh (fun q=>Ones.popc_end q x)
 generalize hres : Ones.popc 64 x = res
 have HRES:=zh hres
 clear h hres
 go_enter Tryz.func89,Tryz.ntmps89
 go_wp2_with fail
 go_loop [3,4] (fun t i=>∃q : Nat,q <= 64 /\ i = .int .i64 q /\ ∃p : Nat,t = .int .i64 p /\ Ones.popc q x = p) (fun _ i=>64 - (intOf i).toNat)
 case atStart=>exact ⟨0,Nat.zero_le _,rfl,0,rfl,rfl⟩
 case round=>
  obtain ⟨q,hq,rfl,pq,rfl,hg⟩:=hrel
  by_cases hlt : q < 64
  ·have c1:=HA.out q hlt
   have i1 : (0 : Int) <= (q : Int):=by omega
   have i2 : (q : Int) < 64:=by omega
   have hb:=HB.out q
   have HQ:=zh (HE.out q)
   have HT:=zh (DN x q)
   have HP:=zh hlt
   rw [hg] at hb HQ
   have HG:=zh hg
   generalize x.testBit q = tb at *
   clear hg
   cases tb
   ·go_wp2_with fail
    go_round
    case rel=>exact ⟨q + 1,by omega,by go_num,pq,rfl,by have:=HT.out; simp at this; rw [HQ.out,this]; rfl⟩
    case measure=>simp [intOf]; omega
   ·have p1 : (pq : Int) <= 64:=by omega
    go_wp2_with fail
    go_round
    case rel=>exact ⟨q + 1,by omega,by go_num,pq + 1,by go_num,by have:=HT.out; simp at this; rw [HQ.out,this]⟩
    case measure=>simp [intOf]; omega
  ·obtain rfl : q = 64:=by omega
   have hb:=HB.out 64
   rw [HRES.out] at hg hb
   subst hg
   have p1 : (res : Int) <= 64:=by omega
   go_wp2_with fail
   go_ret
   exact ⟨rfl,rfl⟩
theorem VP (x j i : Nat) (hj : i < 64) : (x ^^^ 2 ^ j).testBit i = if i = j then !x.testBit j else x.testBit i:=by
 rw [Nat.testBit_xor,Nat.testBit_two_pow]
 by_cases h : i = j
 ·subst h; simp
 ·have : ¬j = i:=fun e=>h e.symm
  simp [h,this]
theorem If {n x : Nat} {i : Int} {v : Bool} {q : Nat} (hq : q < 64) (h : (og n x i v).1 = true) : (og n x i v).2.testBit q = if q = i.toNat then v else x.testBit q:=by
 unfold og at h ⊢
 split at h
 ·rename_i hc
  rw [zt hc]
  show (x ^^^ 2 ^ i.toNat).testBit q = _
  rw [VP _ _ _ hq]
  have:=hc.2.2
  split
  ·revert this; cases x.testBit i.toNat <;> cases v <;> simp
  ·rfl
 ·cases h
theorem US (b o n x : Nat) (hn : n <= 64) (i : Int) (v : Bool) (w : World) (h : DU w b o n x) (hf : ∀j,j < 64 -> w.frozen? ⟨b,o + 1 + j,none⟩ = false) :
  Calls Tryz.prog 183 #[.pointer (some ⟨b,o,none⟩),.int .i64 i,.bool v] w fun e w'=>e = .returned (.bool (og n x i v).1) /\ w' = if (og n x i v).1 = true then w.setCell ⟨b,o + 1 + i.toNat,none⟩ (.bool v) else w:=by
 have HM:=zh (NM b o n i w h.n)
 by_cases h0 : 0 <= i /\ i < n
 ·obtain ⟨j,rfl⟩:=ze (show 0 <= i by omega)
  have hj : j < 64:=by omega
  have d0 : (decide (0 <= (j : Int)) && decide ((j : Int) < n)) = true:=by simp; omega
  rw [d0] at HM
  have c1:=h.at_ j hj
  have f1:=hf j hj
  have w1 : (j : Int) < 64:=by omega
  have w2 : (0 : Int) <= (j : Int):=by omega
  have e0 : og n x (j : Int) v = if x.testBit j≠v then (true,x ^^^ 2 ^ j) else (false,x):=by
   unfold og
   by_cases h : x.testBit j≠v
   ·rw [zt ⟨by omega,by omega,h⟩,zt h]; rfl
   ·rw [zq (fun k=>h k.2.2),zq h]
  rw [e0,zn]
  clear h0 d0 e0 h hf
  generalize x ^^^ 2 ^ j = z at *
  generalize x.testBit j = tb at *
  by_cases ht : tb = v
  ·subst ht
   rw [zq (by simp)]
   have t1 : (tb == tb) = true:=by simp
   go_enter Tryz.func183,Tryz.ntmps183
   go_wp2_with fail
   refine HM.out.mono ?_
   rintro e w' ⟨rfl,rfl⟩
   go_wp2_with fail
   go_ret
   exact ⟨rfl,rfl⟩
  ·rw [zt ht]
   have t1 : (tb == v) = false:=by rw [zb]; exact ht
   go_enter Tryz.func183,Tryz.ntmps183
   go_wp2_with fail
   refine HM.out.mono ?_
   rintro e w' ⟨rfl,rfl⟩
   go_wp2_with fail
   go_ret
   exact ⟨rfl,rfl⟩
 ·have d0 : (decide (0 <= i) && decide (i < n)) = false:=by simp; omega
  have hr : og n x i v = (false,x):=by unfold og; rw [zq (fun k=>h0 ⟨k.1,k.2.1⟩)]
  rw [hr]
  rw [d0] at HM
  clear h0 d0 hr h
  go_enter Tryz.func183,Tryz.ntmps183
  go_wp2_with fail
  refine HM.out.mono ?_
  rintro e w' ⟨rfl,rfl⟩
  go_wp2_with fail
  go_ret
  exact ⟨rfl,rfl⟩
theorem QC : ∀{q f x : Nat},q < f -> x.testBit q = true -> (∀r,r < q -> x.testBit r = false) -> Lib.ctzFrom f x = q:=by
 intro q
 induction q with
 | zero=>
  intro f x hf h _
  obtain ⟨f,rfl⟩ : ∃k,f = k + 1:=⟨f - 1,by omega⟩
  rw [Lib.ctzFrom,zt (by rw [DN] at h; simpa using h)]
 | succ q ih=>
  intro f x hf h hr
  obtain ⟨f,rfl⟩ : ∃k,f = k + 1:=⟨f - 1,by omega⟩
  have h0:=hr 0 (by omega)
  rw [DN] at h0
  rw [Lib.ctzFrom,zq (by simpa using h0),ih (by omega) (by rw [Nat.testBit_div_two]; exact h) (fun r hrq=>by rw [Nat.testBit_div_two]; exact hr (r + 1) (by omega))]
  omega
theorem N3 {q x : Nat} (hq : q < 64) (h : x.testBit q = true) (hr : ∀r,r < q -> x.testBit r = false) : Lib.ctz 64 x = q:=by
 have h0 : x≠0:=by rintro rfl; simp at h
 rw [Lib.ctz,zq h0]
 exact QC hq h hr
theorem Pz {n x : Nat} (hx : x < 2 ^ n) {k : Nat} (h : ∀r,k <= r -> r < n -> x.testBit r = false) : x / 2 ^ k = 0:=by
 refine Nat.eq_of_testBit_eq fun i=>?_
 rw [Nat.zero_testBit,Nat.testBit_div_two_pow]
 by_cases hi : i + k < n
 ·exact h _ (by omega) hi
 ·exact Nat.testBit_lt_two_pow (Nat.lt_of_lt_of_le hx (Nat.pow_le_pow_right (by decide) (by omega)))
theorem Ub {n x : Nat} (hn : n <= 64) {fr : Int} {q : Nat} (h0 : 0 <= fr) (h1 : fr <= q) (h2 : q < n) (hr : ∀r : Nat,fr <= r -> (r : Int) < q -> x.testBit r = false) (hb : x.testBit q = true) : AG n x fr = (q,true):=by
 have hx0 : x≠0:=by rintro rfl; simp at hb
 obtain ⟨f,rfl⟩:=ze h0
 unfold AG
 rw [zq hx0,zn]
 by_cases hf : f = 0
 ·subst hf
  rw [zq (by simp),N3 (by omega) hb (fun r h=>hr r (by omega) (by omega))]
 ·have hb' : (x / 2 ^ f).testBit (q - f) = true:=by rw [Nat.testBit_div_two_pow,show q - f + f = q by omega]; exact hb
  have hd : x / 2 ^ f≠0:=by intro e; rw [e] at hb'; simp at hb'
  rw [zt ⟨by omega,by omega,hd⟩,N3 (q:=q - f) (by omega) hb' (fun r h=>by rw [Nat.testBit_div_two_pow]; exact hr (r + f) (by omega) (by omega)),show f + (q - f) = q by omega]
theorem SJ {n x : Nat} (hn : n <= 64) (hx : x < 2 ^ n) {fr : Int} {q : Nat} (h2 : q < n) (hf : 0 <= fr -> ∀r : Nat,fr <= r -> r < n -> x.testBit r = false) (hr : ∀r,r < q -> x.testBit r = false) (hb : x.testBit q = true) : AG n x fr = (q,true):=by
 have hx0 : x≠0:=by rintro rfl; simp at hb
 unfold AG
 rw [zq hx0,N3 (by omega) hb hr,zq]
 rintro ⟨a,b,c⟩
 exact c (Pz hx fun r h1 h2=>hf (by omega) r (by omega) h2)
theorem TS {n x : Nat} (hx : x < 2 ^ n) {fr : Int} (hr : ∀r,r < n -> x.testBit r = false) : AG n x fr = (0,false):=by
 have:=Pz hx (k:=0) (fun r _ h=>hr r h)
 rw [Nat.pow_zero,Nat.div_one] at this
 rw [this]
 rfl
theorem Th (b o n x : Nat) (hn : n <= 64) (hx : x < 2 ^ n) (fr : Int) (w : World) (h : DU w b o n x) :
  Calls Tryz.prog 179 #[.pointer (some ⟨b,o,none⟩),.int .i64 fr] w fun e w'=>e = .returned (.tuple #[.int .i64 (AG n x fr).1,.bool (AG n x fr).2]) /\ w = w':=by
 have HM:=zh (fun i=>NM b o n i w h.n)
 have HA:=zh h.at_
 have cn:=h.n
 have H1:=zh (fun q=>Ub (x:=x) hn (fr:=fr) (q:=q))
 have H2:=zh (fun q=>SJ hn hx (fr:=fr) (q:=q))
 have H3:=zh (TS hx (fr:=fr))
 generalize hres : AG n x fr = res at *
 obtain ⟨r1,r2⟩:=res
 clear h hres hx
 go_enter Tryz.func179,Tryz.ntmps179
 go_wp2_with fail
 go_loop [6] (fun i=>∃q : Int,i = .int .i64 q /\ fr <= q /\ (q < 0 -> q = fr) /\ (fr < 0 -> q = fr) /\ (∀r : Nat,fr <= r -> (r : Int) < q -> x.testBit r = false)) (fun i=>((n : Int) - intOf i).toNat)
 case atStart=>exact ⟨fr,rfl,by omega,fun _=>rfl,fun _=>rfl,fun r _ _=>by omega⟩
 case round=>
  obtain ⟨q,rfl,hq1,hq2,hq3,hr⟩:=hrel
  have HR:=zh hr
  by_cases hq : 0 <= q /\ q < n
  ·obtain ⟨q,rfl⟩:=ze hq.1
   have hqn : q < n:=by omega
   have hm:=HM.out (q : Int)
   rw [show (decide (0 <= (q : Int)) && decide ((q : Int) < n)) = true by simp; omega] at hm
   have HK:=zh hm
   have c1:=HA.out q (by omega)
   have i1 : (0 : Int) <= (q : Int):=by omega
   have i2 : (q : Int) < 64:=by omega
   have HP:=zh hqn
   have HQ:=zh (And.intro hq1 hq3)
   clear hm hq hr hq1 hq2 hq3
   cases hb : x.testBit q
   ·have HB:=zh hb
    rw [hb] at c1
    clear hb
    go_wp2_with fail
    refine HK.out.mono ?_
    rintro e w' ⟨rfl,rfl⟩
    go_wp2_with fail
    go_round
    case rel=>
     refine ⟨(q : Int) + 1,by go_num,by have:=HQ.out.1; omega,fun h=>by omega,fun h=>by have:=HQ.out.2 h; omega,fun r h1 h2=>?_⟩
     by_cases e : r = q
     ·subst e; exact HB.out
     ·exact HR.out r h1 (by omega)
    case measure=>have:=HP.out; simp [intOf]; omega
   ·have hx:=H1.out q (by have:=HQ.out; omega) HQ.out.1 HP.out HR.out hb
    rw [hb] at c1
    obtain ⟨rfl,rfl⟩:=Prod.mk.inj hx
    clear hb hx
    go_wp2_with fail
    refine HK.out.mono ?_
    rintro e w' ⟨rfl,rfl⟩
    go_wp2_with fail
    go_ret2
    exact ⟨rfl,rfl⟩
  ·have hm:=HM.out q
   rw [show (decide (0 <= q) && decide (q < n)) = false by simp; omega] at hm
   have HK:=zh hm
   have HF:=zh (show 0 <= fr -> ∀r : Nat,fr <= r -> r < n -> x.testBit r = false from fun h0 r h1 h2=>hr r h1 (by omega))
   clear hm hq hr hq1 hq2 hq3
   go_wp2_with fail
   refine HK.out.mono ?_
   rintro e w' ⟨rfl,rfl⟩
   go_wp2_with fail
   go_loop [7] (fun i=>∃q : Nat,i = .int .i64 q /\ q <= n /\ (∀r : Nat,r < q -> x.testBit r = false)) (fun i=>((n : Int) - intOf i).toNat)
   case atStart=>exact ⟨0,rfl,Nat.zero_le _,fun r h=>by omega⟩
   case round=>
    obtain ⟨q,rfl,hq1,hr⟩:=hrel
    have HR:=zh hr
    by_cases hqn : q < n
    ·have c1:=HA.out q (by omega)
     have i1 : (0 : Int) <= (q : Int):=by omega
     have i2 : (q : Int) < 64:=by omega
     have i3 : (q : Int) < (n : Int):=by omega
     clear hr hq1
     cases hb : x.testBit q
     ·have HB:=zh hb
      rw [hb] at c1
      clear hb
      go_wp2_with fail
      go_round
      case rel=>
       refine ⟨q + 1,by go_num,by omega,fun r h2=>?_⟩
       by_cases e : r = q
       ·subst e; exact HB.out
       ·exact HR.out r (by omega)
      case measure=>simp [intOf]; omega
     ·have hx:=H2.out q hqn HF.out HR.out hb
      rw [hb] at c1
      obtain ⟨rfl,rfl⟩:=Prod.mk.inj hx
      clear hb hx
      go_wp2_with fail
      go_ret2
      exact ⟨rfl,rfl⟩
    ·obtain rfl : q = n:=by omega
     have hx:=H3.out hr
     obtain ⟨rfl,rfl⟩:=Prod.mk.inj hx
     clear hr hx hq1
     go_wp2_with fail
     go_ret2
     exact ⟨rfl,rfl⟩
end Go.Proofs.YtbpblokfiajpjabGreatDoor
namespace Go.Proofs.YtbpblokfiajpjabGreatDoor
open Go.RowKit Go.SL
def Aw (b : Nat) (r u l : Int) : HP:=pts b (.cells #[.int .i64 r,.int .i64 u,.int .i64 l] 227 (0,0))
theorem Pa (b : Nat) (r u l n : Int) (R : List HP) (w : World) (hl2 : l <= 1000) (H : own w (Aw b r u l::R)) :
 Calls Tryz.prog 149 #[.pointer (some ⟨b,0,none⟩),.int .i64 n] w fun e w'=>e = .returned (.bool (decide (0 <= n /\ n <= l))) /\ Ext w w' /\ own w' (Aw b r u (if 0 <= n /\ n <= l then l - n else l)::R):=by
 obtain ⟨c,f⟩:=ld 0 H rfl
 by_cases h : 0 <= n /\ n <= l
 ·simp only [h,and_self,decide_true,if_true]
  obtain ⟨h1,h2⟩:=h
  go_enter Tryz.func149,Tryz.ntmps149
  go_wp2
  go_ret
  exact ⟨rfl,(zR _).setCell _ _,lg 0 H rfl⟩
 ·simp only [h,decide_false,if_false]
  go_enter Tryz.func149,Tryz.ntmps149
  go_wp2
  all_goals go_ret
  all_goals exact ⟨rfl,zR _,H⟩
theorem WV (n r : Int) (hn : 0 <= n) (hn2 : n <= 100000) (hr : 0 <= r) (hr2 : r <= 1000) : 0 <= n * r /\ n * r <= 100000000:=by
 have:=Int.mul_le_mul hn2 hr2 hr (by omega)
 exact ⟨Int.mul_nonneg hn hr,by omega⟩
theorem OW (b : Nat) (r u l n : Int) (R : List HP) (w : World) (H : own w (Aw b r u l::R)) (hl : 0 <= l) (hl2 : l <= 1000) (hr : 0 <= r) (hr2 : r <= 1000) (hu : u <= 1000) :
 Calls Tryz.prog 185 #[.pointer (some ⟨b,0,none⟩),.int .i64 n] w fun e w'=>e = .returned (errV (if 0 <= n /\ n <= 100000 then 0 else 1)) /\ Ext w w' /\
  own w' (Aw b r u (if 0 <= n /\ n <= 100000 then min u (l + n * r) else l)::R):=by
 obtain ⟨c,f⟩:=ld 0 H rfl
 by_cases h : 0 <= n /\ n <= 100000
 ·simp only [h,and_self,if_true]
  obtain ⟨hn,hn2⟩:=h
  obtain ⟨hm,hm2⟩:=WV n r hn hn2 hr hr2
  have e1 : IntKind.i64.wrap (n * r) = n * r:=zi _ (by omega)
  have e2 : IntKind.i64.wrap (l + n * r) = l + n * r:=zi _ (by omega)
  by_cases hmin : l + n * r < u
  ·have hmm : min u (l + n * r) = l + n * r:=by omega
   simp only [hmm]
   go_enter Tryz.func185,Tryz.ntmps185
   go_wp2
   go_still_tail 17,(by kernel_rfl)
   change wpList _ _ _ _ _ w.drew
   go_wp2
   all_goals go_ret
   all_goals exact ⟨rfl,((zR _).setCell _ _).drew,lj (lg 0 H rfl)⟩
  ·have hmm : min u (l + n * r) = u:=by omega
   have hmin' : u <= l + n * r:=by omega
   simp only [hmm]
   go_enter Tryz.func185,Tryz.ntmps185
   go_wp2
   go_still_tail 17,(by kernel_rfl)
   change wpList _ _ _ _ _ w.drew
   go_wp2
   all_goals go_ret
   all_goals exact ⟨rfl,((zR _).setCell _ _).drew,lj (lg 0 H rfl)⟩
 ·simp only [h,if_false]
  go_enter Tryz.func185,Tryz.ntmps185
  go_wp2
  all_goals go_ret
  all_goals exact ⟨rfl,zR _,H⟩
def Bq (r u : Int) : Bool:=decide (0 <= r /\ r <= 1000 /\ 0 <= u /\ u <= 1000)
theorem FU (r u : Int) (R : List HP) (w : World) (h : Bq r u = true) (H : own w R) :
 Calls Tryz.prog 70 #[.int .i64 r,.int .i64 u] w fun e w'=>e = .returned (.tuple #[.pointer (some ⟨w.heap.size,0,none⟩),.nilIface]) /\ Ext w w' /\ own w' (Aw w.heap.size r u u::R):=by
 simp only [Bq,decide_eq_true_eq] at h
 obtain ⟨h1,h2,h3,h4⟩:=h
 go_enter Tryz.func70,Tryz.ntmps70
 go_wp2
 go_ret2
 exact ⟨rfl,(zR _).alloc _,li H _⟩
theorem Mu (r u : Int) (w : World) (h : Bq r u = false) :
 Calls Tryz.prog 70 #[.int .i64 r,.int .i64 u] w fun e w'=>e = .returned (.tuple #[.pointer none,errV 1]) /\ w = w':=by
 simp only [Bq,decide_eq_false_iff_not] at h
 go_enter Tryz.func70,Tryz.ntmps70
 go_wp2
 all_goals go_ret2
 all_goals exact ⟨rfl,rfl⟩
theorem Vm (u l r n k : Int) (hk : k <= n) (h0 : 0 <= k) (hr : 0 <= r) (hl : l <= u) (h : ¬(k < n /\ min u (l + k * r) < u /\ 0 < r)) : min u (l + k * r) = min u (l + n * r):=by
 by_cases hkn : k = n
 ·rw [hkn]
 ·by_cases hr0 : r = 0
  ·subst hr0; simp
  ·have h1 : k * r <= n * r:=Int.mul_le_mul_of_nonneg_right hk hr
   omega
theorem Vi (u l r k : Int) (hr : 0 <= r) (h : min u (l + k * r) < u) : min u (min u (l + k * r) + r) = min u (l + (k + 1) * r):=by
 have : (k + 1) * r = k * r + r:=by rw [Int.add_mul]; simp
 omega
end Go.Proofs.YtbpblokfiajpjabGreatDoor
