/- Lemmas on which TopAlone and TopCrash stands: the texts Jobs13b Jobs13c Jobs14 Jobs15 Chain21 Jobs16 JobsSaysLaw Yard10 Yard11 Yard12 Yard13 YardP3. No conditions. -/
import Derived.Test.YtbpblokfiajpjabGreatDoorPk53a3ff43fe
set_option linter.all false
set_option maxRecDepth 1000000
set_option maxHeartbeats 32000000
namespace Go.Proofs.YtbpblokfiajpjabGreatDoor
open Go.RowKit Go.SL Go.Crc
attribute [local go_sem ↓] Go.wp_at_zero Go.wp_at_succ
theorem VR (bs : Nat) (A : Nat -> Nat×Nat×Nat) (F : ShM) (hF : ShOk F) (root kind file rate burst : Int) (hl5 : (lr F root).1.length <= 5) (hz : ¬(lr F root).2≠0) (h0 : ¬(lr F root).1.length = 0) (ho : ¬BZ rate burst = false) (hk1 : ¬kind = 1) (R : List SL.HP) (w : World) (H : own w (shL bs A F++R)) :
  Calls Tryz.prog 15 #[.pointer (some ⟨bs,0,none⟩),.agg #[.int .i64 root,.int .i64 kind,.int .i64 file,.int .i64 rate,.int .i64 burst]] w (yO bs A F (newM F root kind file rate burst) R w):=by
 have HK1:=zh hk1
 clear hk1
 have ha:=lh H (.cells #[.int .i64 root,.int .i64 kind,.int .i64 file,.int .i64 rate,.int .i64 burst] 24)
 have hxa:=(zR w).alloc (.cells #[.int .i64 root,.int .i64 kind,.int .i64 file,.int .i64 rate,.int .i64 burst] 24)
 have hb : own _ (shL bs A F++(_::R)):=lC (shL bs A F) ha
 have hwk:=fun R' w' h=>Cq bs A F hF root R' w' h
 have hfl:=zo F root
 have hwc : 0 <= (lr F root).2:=Ar
 have HWK:=zh hwk
 unfold BH at HWK
 generalize hres : newM F root kind file rate burst = res
 unfold newM at hres
 rw [zq hz] at hres
 have hz0 : (lr F root).2 = 0:=by omega
 rw [hz0,show errV 0 = .nilIface from rfl] at HWK
 rw [zq h0] at hres
 rw [zq ho] at hres
 have HRES:=zh hres
 clear hres
 have hroot:=If h0
 obtain ⟨k,m,hxk,hk,hFk⟩:=oF hroot
 have hcl:=zZ hF hroot
 have hcm : clus F root = m.c:=by rw [hxk]; exact Au hFk
 have HB:=zh (fun R' w' h=>Fi rate burst R' w' (by simpa using ho) h)
 have HH:=zh (fun R' w' h=>AT (b:=bs) (A:=A) hk hFk R' w' h)
 have HN:=zh (fun R' w' h=>Oo (clus F root).toNat (by omega) R' w' h)
 have hcn : (((clus F root).toNat : Nat) : Int) = m.c:=by omega
 simp only [hcn] at HN
 have HCN:=zh hcn
 clear hcn
 have HF:=zh hF
 have HFL:=zh hfl
 have i1 : (0 : Int) <= (k : Int):=by omega
 have i2 : (k : Int) < 5:=by omega
 subst hxk
 have hok : ∀deep,kind = 1 \/ kind = 2 \/ kind = 3 -> deep <= (lr F (k : Int)).1.length -> (zK F (jNew F k kind file rate burst (lr F (k : Int)).1 deep)).Ok:=fun deep hkk hd=>Fk hF hroot hl5 h0 (by simpa using ho) hkk hd
 have HOK:=zh hok
 clear hok
 generalize hL : (lr F (k : Int)).1 = l at *
 have l0 : ((l.length : Int) == 0) = false:=by rw [zb]; omega
 go_enter Tryz.func15,Tryz.ntmps15
 go_upto_region 1 with (fail)
 generalize w.heap.size = g at *
 generalize w.alloc (.cells #[.int .i64 (k : Int),.int .i64 kind,.int .i64 file,.int .i64 rate,.int .i64 burst] 24) = w1 at *
 have c0:=(ld 6 hb rfl).1 0
 go_wp2_with fail
 refine (HWK.out _ _ hb).mono ?_
 rintro e w2 ⟨v,rfl,hx2,h2⟩
 obtain ⟨ao,lb,off,cap,rfl,-,-,-,-⟩:=(oz 0 h2 rfl).form
 have d3:=(ld 7 h2 rfl).1 3
 have d4:=(ld 7 h2 rfl).1 4
 clear c0
 go_wp2_with fail
 refine (HB.out _ _ h2).mono ?_
 rintro e w3 ⟨rfl,hx3,h3⟩
 generalize w2.heap.size = bb at *
 have h3s:=lu [Ag bb rate burst burst,row 3 1 (.slice ao l.length cap) l.length (lq l)] (shL bs A F) h3
 clear d3 d4
 have d0:=(ld 8 h3s rfl).1 0
 have g1:=ou h3s hk
 rw [lU hFk] at g1
 go_upto_region 9 with (fail)
 go_still_tail 6,(by kernel_rfl)
 change wpList _ _ _ _ _ w3.drew
 go_wp2_with fail
 refine (HH.out _ _ (ln h3s)).mono ?_
 rintro e w4 ⟨rfl,hx4,h4⟩
 unfold ol
 have hf0:=Dm m.c m.p m.b
 clear d0 g1
 go_wp2_with fail
 refine (HN.out _ _ h4).mono ?_
 rintro e w5 ⟨bt,rfl,hx5,h5⟩
 have d1:=(ld 9 h5 rfl).1 1
 have d2:=(ld 9 h5 rfl).1 2
 go_upto_region 14 with (fail)
 have h6:=lh h5 (.cells #[.pointer (some ⟨bs,0,none⟩),.int .i64 kind,.int .i64 file,.slice ao l.length cap,.int .i64 0,.pointer (some ⟨bt,0,none⟩),.int .i64 0,.int .i64 2,.pointer (some ⟨bb,0,none⟩)] 137)
 have hx6:=(hx5.alloc (.cells #[.pointer (some ⟨bs,0,none⟩),.int .i64 kind,.int .i64 file,.slice ao l.length cap,.int .i64 0,.pointer (some ⟨bt,0,none⟩),.int .i64 0,.int .i64 2,.pointer (some ⟨bb,0,none⟩)] 137))
 generalize w5.heap.size = bj at *
 generalize w5.alloc (.cells #[.pointer (some ⟨bs,0,none⟩),.int .i64 kind,.int .i64 file,.slice ao l.length cap,.int .i64 0,.pointer (some ⟨bt,0,none⟩),.int .i64 0,.int .i64 2,.pointer (some ⟨bb,0,none⟩)] 137) = w6 at *
 clear d1 d2
 have d1:=(ld 10 h6 rfl).1 1
 have d2:=(ld 10 h6 rfl).1 2
 have f4:=(ld 0 h6 rfl).2 4
 have hrow:=oz 9 h6 rfl
 have HPL:=zh (LN _ l file hl5 w6 hrow)
 have hX:=(((hxa.trans hx2).trans hx3).drew.trans hx4).trans hx6
 have HX:=zh hX
 have H6:=zh h6
 have HBAD : ∀n,own (w6.drewN n) (shL bs A F++R):=fun n=>lI n (lg (lg (li 8 (li 9 (li 10 h6 rfl) rfl) rfl)))
 have hpr:=Fc l file
 have HP:=zh hL
 clear hL
 generalize zy l file = pl at *
 clear hrow hX hx2 hx3 hx4 hx5 hx6 hxa h2 h3 h3s h4 h5 hb ha H HWK HB HN HH hwk
 go_wp2_with fail
 refine HPL.out.mono ?_
 rintro e w7 ⟨rfl,rfl⟩
 have gs:=@ou bs A F _ w6 (lu [_,_] (shL bs A F) h6)
 have H7:=zh h6
 clear h6 hF hl5 h0 hz hz0 hwc HPL hcl hcm
 have hk1:=HK1.out
 clear HK1
 have hres:=HRES.out
 rw [zq hk1] at hres
 have e1 : (kind == 1) = false:=by rw [zb]; exact hk1
 have h9:=lu [_,_] (shL bs A F) H7.out
 have f4:=(ld 6 h9 rfl).2 4
 have c4:=(ld 6 h9 rfl).1 4
 have HB0 : own w6 (shL bs A F++R):=lg (lg (li 8 (li 9 (li 10 H7.out rfl) rfl) rfl))
 by_cases hk2 : kind = 2 /\ file = -1
 ·rw [zt hk2] at hres
  obtain ⟨rfl,rfl⟩:=hk2
  have HRES2:=zh hres
  have h10:=lp (i:=4) (v:=.int .i64 (l.length : Nat)) 6 h9 rfl
  have hxt:=HX.out.setCell (⟨bj,4,none⟩ : Addr) (.int .i64 (l.length : Nat))
  clear hres HRES hk1 e1 h9 HB0 HBAD
  go_wp2_with fail
  have hjok:=zh (HOK.out _ (by simp) (by omega) : (zK F (jNew F (k : Int) 2 (-1) rate burst l l.length)).Ok)
  have hx12:=zh hxt
  have hv12 : ∀w' L,own w' (L++(row 3 1 (.slice ao l.length cap) l.length (lq l)::(pts g (.cells #[.int .i64 (k : Int),.int .i64 2,.int .i64 (-1),.int .i64 rate,.int .i64 burst] 24 (0,0))::R))) -> lW w' (.slice ao l.length cap) (jNew F (k : Int) 2 (-1) rate burst l l.length).list:=fun w' L h=>oz 0 (lu L [row 3 1 (.slice ao l.length cap) l.length (lq l)] h) rfl
  have HV12:=zh hv12
  have hnn : ((jNew F (k : Int) 2 (-1) rate burst l l.length).n : Int) = m.c:=HCN.out
  clear hxt hv12
  go_loopw [154] (fun iv wr=>∃q : Nat,q <= (jNew F (k : Int) 2 (-1) rate burst l l.length).n /\ iv = .int .i64 q /\ Ext w wr /\ own wr (shL bs A F++(jobL bs bj bt bb (.slice ao l.length cap) { (jNew F (k : Int) 2 (-1) rate burst l l.length) with x:=ya F (jNew F (k : Int) 2 (-1) rate burst l l.length) q }++(row 3 1 (.slice ao l.length cap) l.length (lq l)::(pts g (.cells #[.int .i64 (k : Int),.int .i64 2,.int .i64 (-1),.int .i64 rate,.int .i64 burst] 24 (0,0))::R))))) (fun iv _=>(jNew F (k : Int) 2 (-1) rate burst l l.length).n - (intOf iv).toNat)
  case atStart=>exact ⟨0,Nat.zero_le _,rfl,hx12.out,h10⟩
  case round=>
   obtain ⟨q,hq,rfl,hxr,hown⟩:=hrel
   by_cases hlt : q < (jNew F (k : Int) 2 (-1) rate burst l l.length).n
   ·have j1 : (0 : Int) <= (q : Int):=by omega
    have j2 : (q : Int) < m.c:=by omega
    have j3 : (q : Int) < 64:=by have:=hjok.out.n; have : (jNew F (k : Int) 2 (-1) rate burst l l.length).n <= 64:=this; omega
    go_wp2_with fail
    refine (CM bs A F HF.out bj bt bb _ _ (ES hjok.out q) HFL.out (q : Int) _ wr HV12.out hown).mono ?_
    rintro e w12 ⟨rfl,nn,rfl⟩
    have hp:=Dq bt (jNew F (k : Int) 2 (-1) rate burst l l.length).n _ hjok.out.n (ES hjok.out q).x (q : Int) (oQ F { (jNew F (k : Int) 2 (-1) rate burst l l.length) with x:=ya F (jNew F (k : Int) 2 (-1) rate burst l l.length) q } (q : Int)) 7 _ (lI nn hown) rfl
    have HPT:=zh hp
    clear hp
    generalize hwv : oQ F { (jNew F (k : Int) 2 (-1) rate burst l l.length) with x:=ya F (jNew F (k : Int) 2 (-1) rate burst l l.length) q } (q : Int) = wv at *
    go_wp2_with fail
    refine HPT.out.mono ?_
    rintro e w13 ⟨rfl,hx13,h13⟩
    go_wp2_with fail
    go_roundw
    case rel=>exact ⟨q + 1,by omega,by go_num,(hxr.drewN nn).trans hx13,IB (by rw [hwv]; exact h13)⟩
    case measure=>simp [intOf]; omega
   ·obtain rfl : q = (jNew F (k : Int) 2 (-1) rate burst l l.length).n:=by omega
    have j2 : ¬(((jNew F (k : Int) 2 (-1) rate burst l l.length).n : Int) < m.c):=by omega
    have dj : decide (((jNew F (k : Int) 2 (-1) rate burst l l.length).n : Int) < m.c) = false:=zf j2
    go_wp2_with fail
    refine (BK bs bj bt bb _ _ hjok.out _ wr (lu (shL bs A F) (jobL bs bj bt bb (.slice ao l.length cap) (zK F (jNew F (k : Int) 2 (-1) rate burst l l.length))) hown)).mono ?_
    rintro e w12 ⟨rfl,hx12',h12⟩
    rw [EL rfl] at h12
    go_wp2_with fail
    go_ret2
    rw [<- HRES2.out]
    exact yO.yes bj bt bb (.slice ao l.length cap) rfl (hxr.trans hx12') (li 10 (lu (jobL bs bj bt bb (.slice ao l.length cap) (zK F (jNew F (k : Int) 2 (-1) rate burst l l.length))) (shL bs A F) h12) rfl)
 ·rw [zq hk2] at hres
  by_cases hk3 : kind = 2 \/ kind = 3
  ·rw [zt hk3] at hres
   by_cases hpl : pl < 1
   ·rw [zt hpl] at hres
    subst hres
    rcases hk3 with rfl | rfl
    ·have hf1 : (file == -1) = false:=by rw [zb]; omega
     clear hk1 hk2 HRES
     go_wp2_with fail
     go_ret2
     exact yO.no rfl HX.out HB0
    ·clear hk1 hk2 HRES
     go_wp2_with fail
     go_ret2
     exact yO.no rfl HX.out HB0
   ·rw [zq hpl] at hres
    obtain ⟨p,rfl⟩ : ∃p : Nat,pl = (p : Int):=⟨pl.toNat,by omega⟩
    rw [zn] at hres
    have HRES2:=zh hres
    have hp1 : ¬((p : Int) < 1):=hpl
    have h10:=lp (i:=4) (v:=.int .i64 (p : Nat)) 6 h9 rfl
    have hxt:=HX.out.setCell (⟨bj,4,none⟩ : Addr) (.int .i64 (p : Nat))
    clear hres HRES h9 HB0 HBAD
    rcases hk3 with rfl | rfl
    ·have hf1 : (file == -1) = false:=by rw [zb]; omega
     clear hk1 hk2 e1
     go_wp2_with fail
     have hjok:=zh (HOK.out _ (by simp) (by omega) : (zK F (jNew F (k : Int) 2 file rate burst l p)).Ok)
     have hx12:=zh hxt
     have hv12 : ∀w' L,own w' (L++(row 3 1 (.slice ao l.length cap) l.length (lq l)::(pts g (.cells #[.int .i64 (k : Int),.int .i64 2,.int .i64 file,.int .i64 rate,.int .i64 burst] 24 (0,0))::R))) -> lW w' (.slice ao l.length cap) (jNew F (k : Int) 2 file rate burst l p).list:=fun w' L h=>oz 0 (lu L [row 3 1 (.slice ao l.length cap) l.length (lq l)] h) rfl
     have HV12:=zh hv12
     have hnn : ((jNew F (k : Int) 2 file rate burst l p).n : Int) = m.c:=HCN.out
     clear hxt hv12
     go_loopw [154] (fun iv wr=>∃q : Nat,q <= (jNew F (k : Int) 2 file rate burst l p).n /\ iv = .int .i64 q /\ Ext w wr /\ own wr (shL bs A F++(jobL bs bj bt bb (.slice ao l.length cap) { (jNew F (k : Int) 2 file rate burst l p) with x:=ya F (jNew F (k : Int) 2 file rate burst l p) q }++(row 3 1 (.slice ao l.length cap) l.length (lq l)::(pts g (.cells #[.int .i64 (k : Int),.int .i64 2,.int .i64 file,.int .i64 rate,.int .i64 burst] 24 (0,0))::R))))) (fun iv _=>(jNew F (k : Int) 2 file rate burst l p).n - (intOf iv).toNat)
     case atStart=>exact ⟨0,Nat.zero_le _,rfl,hx12.out,h10⟩
     case round=>
      obtain ⟨q,hq,rfl,hxr,hown⟩:=hrel
      by_cases hlt : q < (jNew F (k : Int) 2 file rate burst l p).n
      ·have j1 : (0 : Int) <= (q : Int):=by omega
       have j2 : (q : Int) < m.c:=by omega
       have j3 : (q : Int) < 64:=by have:=hjok.out.n; have : (jNew F (k : Int) 2 file rate burst l p).n <= 64:=this; omega
       go_wp2_with fail
       refine (CM bs A F HF.out bj bt bb _ _ (ES hjok.out q) HFL.out (q : Int) _ wr HV12.out hown).mono ?_
       rintro e w12 ⟨rfl,nn,rfl⟩
       have hp:=Dq bt (jNew F (k : Int) 2 file rate burst l p).n _ hjok.out.n (ES hjok.out q).x (q : Int) (oQ F { (jNew F (k : Int) 2 file rate burst l p) with x:=ya F (jNew F (k : Int) 2 file rate burst l p) q } (q : Int)) 7 _ (lI nn hown) rfl
       have HPT:=zh hp
       clear hp
       generalize hwv : oQ F { (jNew F (k : Int) 2 file rate burst l p) with x:=ya F (jNew F (k : Int) 2 file rate burst l p) q } (q : Int) = wv at *
       go_wp2_with fail
       refine HPT.out.mono ?_
       rintro e w13 ⟨rfl,hx13,h13⟩
       go_wp2_with fail
       go_roundw
       case rel=>exact ⟨q + 1,by omega,by go_num,(hxr.drewN nn).trans hx13,IB (by rw [hwv]; exact h13)⟩
       case measure=>simp [intOf]; omega
      ·obtain rfl : q = (jNew F (k : Int) 2 file rate burst l p).n:=by omega
       have j2 : ¬(((jNew F (k : Int) 2 file rate burst l p).n : Int) < m.c):=by omega
       have dj : decide (((jNew F (k : Int) 2 file rate burst l p).n : Int) < m.c) = false:=zf j2
       go_wp2_with fail
       refine (BK bs bj bt bb _ _ hjok.out _ wr (lu (shL bs A F) (jobL bs bj bt bb (.slice ao l.length cap) (zK F (jNew F (k : Int) 2 file rate burst l p))) hown)).mono ?_
       rintro e w12 ⟨rfl,hx12',h12⟩
       rw [EL rfl] at h12
       go_wp2_with fail
       go_ret2
       rw [<- HRES2.out]
       exact yO.yes bj bt bb (.slice ao l.length cap) rfl (hxr.trans hx12') (li 10 (lu (jobL bs bj bt bb (.slice ao l.length cap) (zK F (jNew F (k : Int) 2 file rate burst l p))) (shL bs A F) h12) rfl)
    ·clear hk1 hk2 e1
     go_wp2_with fail
     have hjok:=zh (HOK.out _ (by simp) (by omega) : (zK F (jNew F (k : Int) 3 file rate burst l p)).Ok)
     have hx12:=zh hxt
     have hv12 : ∀w' L,own w' (L++(row 3 1 (.slice ao l.length cap) l.length (lq l)::(pts g (.cells #[.int .i64 (k : Int),.int .i64 3,.int .i64 file,.int .i64 rate,.int .i64 burst] 24 (0,0))::R))) -> lW w' (.slice ao l.length cap) (jNew F (k : Int) 3 file rate burst l p).list:=fun w' L h=>oz 0 (lu L [row 3 1 (.slice ao l.length cap) l.length (lq l)] h) rfl
     have HV12:=zh hv12
     have hnn : ((jNew F (k : Int) 3 file rate burst l p).n : Int) = m.c:=HCN.out
     clear hxt hv12
     go_loopw [154] (fun iv wr=>∃q : Nat,q <= (jNew F (k : Int) 3 file rate burst l p).n /\ iv = .int .i64 q /\ Ext w wr /\ own wr (shL bs A F++(jobL bs bj bt bb (.slice ao l.length cap) { (jNew F (k : Int) 3 file rate burst l p) with x:=ya F (jNew F (k : Int) 3 file rate burst l p) q }++(row 3 1 (.slice ao l.length cap) l.length (lq l)::(pts g (.cells #[.int .i64 (k : Int),.int .i64 3,.int .i64 file,.int .i64 rate,.int .i64 burst] 24 (0,0))::R))))) (fun iv _=>(jNew F (k : Int) 3 file rate burst l p).n - (intOf iv).toNat)
     case atStart=>exact ⟨0,Nat.zero_le _,rfl,hx12.out,h10⟩
     case round=>
      obtain ⟨q,hq,rfl,hxr,hown⟩:=hrel
      by_cases hlt : q < (jNew F (k : Int) 3 file rate burst l p).n
      ·have j1 : (0 : Int) <= (q : Int):=by omega
       have j2 : (q : Int) < m.c:=by omega
       have j3 : (q : Int) < 64:=by have:=hjok.out.n; have : (jNew F (k : Int) 3 file rate burst l p).n <= 64:=this; omega
       go_wp2_with fail
       refine (CM bs A F HF.out bj bt bb _ _ (ES hjok.out q) HFL.out (q : Int) _ wr HV12.out hown).mono ?_
       rintro e w12 ⟨rfl,nn,rfl⟩
       have hp:=Dq bt (jNew F (k : Int) 3 file rate burst l p).n _ hjok.out.n (ES hjok.out q).x (q : Int) (oQ F { (jNew F (k : Int) 3 file rate burst l p) with x:=ya F (jNew F (k : Int) 3 file rate burst l p) q } (q : Int)) 7 _ (lI nn hown) rfl
       have HPT:=zh hp
       clear hp
       generalize hwv : oQ F { (jNew F (k : Int) 3 file rate burst l p) with x:=ya F (jNew F (k : Int) 3 file rate burst l p) q } (q : Int) = wv at *
       go_wp2_with fail
       refine HPT.out.mono ?_
       rintro e w13 ⟨rfl,hx13,h13⟩
       go_wp2_with fail
       go_roundw
       case rel=>exact ⟨q + 1,by omega,by go_num,(hxr.drewN nn).trans hx13,IB (by rw [hwv]; exact h13)⟩
       case measure=>simp [intOf]; omega
      ·obtain rfl : q = (jNew F (k : Int) 3 file rate burst l p).n:=by omega
       have j2 : ¬(((jNew F (k : Int) 3 file rate burst l p).n : Int) < m.c):=by omega
       have dj : decide (((jNew F (k : Int) 3 file rate burst l p).n : Int) < m.c) = false:=zf j2
       go_wp2_with fail
       refine (BK bs bj bt bb _ _ hjok.out _ wr (lu (shL bs A F) (jobL bs bj bt bb (.slice ao l.length cap) (zK F (jNew F (k : Int) 3 file rate burst l p))) hown)).mono ?_
       rintro e w12 ⟨rfl,hx12',h12⟩
       rw [EL rfl] at h12
       go_wp2_with fail
       go_ret2
       rw [<- HRES2.out]
       exact yO.yes bj bt bb (.slice ao l.length cap) rfl (hxr.trans hx12') (li 10 (lu (jobL bs bj bt bb (.slice ao l.length cap) (zK F (jNew F (k : Int) 3 file rate burst l p))) (shL bs A F) h12) rfl)
  ·rw [zq hk3] at hres
   subst hres
   have e2 : (kind == 2) = false:=by rw [zb]; omega
   have e3 : (kind == 3) = false:=by rw [zb]; omega
   clear hk1 hk2 hk3 HRES
   go_wp2_with fail
   go_ret2
   exact yO.no rfl HX.out HB0
theorem Nz (bs : Nat) (A : Nat -> Nat×Nat×Nat) (F : ShM) (hF : ShOk F) (root kind file rate burst : Int) (hl5 : (lr F root).1.length <= 5) (R : List SL.HP) (w : World) (H : own w (shL bs A F++R)) :
  Calls Tryz.prog 15 #[.pointer (some ⟨bs,0,none⟩),.agg #[.int .i64 root,.int .i64 kind,.int .i64 file,.int .i64 rate,.int .i64 burst]] w (yO bs A F (newM F root kind file rate burst) R w):=by
 by_cases hgood : ¬(lr F root).2≠0 /\ ¬(lr F root).1.length = 0 /\ ¬BZ rate burst = false
 ·by_cases hk1 : kind = 1
  ·exact Xg bs A F hF root kind file rate burst hl5 hgood.1 hgood.2.1 hgood.2.2 hk1 R w H
  ·exact VR bs A F hF root kind file rate burst hl5 hgood.1 hgood.2.1 hgood.2.2 hk1 R w H
 have ha:=lh H (.cells #[.int .i64 root,.int .i64 kind,.int .i64 file,.int .i64 rate,.int .i64 burst] 24)
 have hxa:=(zR w).alloc (.cells #[.int .i64 root,.int .i64 kind,.int .i64 file,.int .i64 rate,.int .i64 burst] 24)
 have hb : own _ (shL bs A F++(_::R)):=lC (shL bs A F) ha
 have hwk:=fun R' w' h=>Cq bs A F hF root R' w' h
 have hfl:=zo F root
 have hwc : 0 <= (lr F root).2:=Ar
 have HWK:=zh hwk
 unfold BH at HWK
 have HGD:=zh hgood
 clear hgood
 generalize hres : newM F root kind file rate burst = res
 unfold newM at hres
 by_cases hz : (lr F root).2≠0
 ·rw [zt hz] at hres
  subst hres
  have hp : 0 < (lr F root).2:=by omega
  show Calls _ _ _ _ (fun e w'=>e = .returned (.tuple #[.pointer none,errV (lr F root).2]) /\ Ext w w' /\ own w' (shL bs A F++R))
  rw [lv hp] at HWK ⊢
  generalize lr F root = S at *
  obtain ⟨l,wc⟩:=S
  dsimp only at hwc HWK ⊢
  clear hz hwk hfl ha
  go_enter Tryz.func15,Tryz.ntmps15
  go_upto_region 1 with (fail)
  generalize w.heap.size = g at *
  generalize w.alloc (.cells #[.int .i64 root,.int .i64 kind,.int .i64 file,.int .i64 rate,.int .i64 burst] 24) = w1 at *
  have c0:=(ld 6 hb rfl).1 0
  go_wp2_with fail
  refine (HWK.out _ _ hb).mono ?_
  rintro e w2 ⟨v,rfl,hx2,h2⟩
  go_wp2_with fail
  go_ret2
  exact ⟨rfl,hxa.trans hx2,li 6 (lg h2) rfl⟩
 ·rw [zq hz] at hres
  have hz0 : (lr F root).2 = 0:=by omega
  rw [hz0,show errV 0 = .nilIface from rfl] at HWK
  by_cases h0 : (lr F root).1.length = 0
  ·rw [zt h0] at hres
   subst hres
   show Calls _ _ _ _ (fun e w'=>e = .returned (.tuple #[.pointer none,errV 4]) /\ Ext w w' /\ own w' (shL bs A F++R))
   have hl0 : (lr F root).1 = []:=List.length_eq_zero_iff.1 h0
   rw [hl0] at HWK
   clear hz hwk hfl ha h0 hl0 hz0 hwc
   go_enter Tryz.func15,Tryz.ntmps15
   go_upto_region 1 with (fail)
   generalize w.heap.size = g at *
   generalize w.alloc (.cells #[.int .i64 root,.int .i64 kind,.int .i64 file,.int .i64 rate,.int .i64 burst] 24) = w1 at *
   have c0:=(ld 6 hb rfl).1 0
   go_wp2_with fail
   refine (HWK.out _ _ hb).mono ?_
   rintro e w2 ⟨v,rfl,hx2,h2⟩
   obtain ⟨ao,lb,off,cap,rfl,-,-,-,-⟩:=(oz 0 h2 rfl).form
   go_wp2_with fail
   go_ret2
   exact ⟨rfl,hxa.trans hx2,li 6 (lg h2) rfl⟩
  ·rw [zq h0] at hres
   by_cases ho : BZ rate burst = false
   ·rw [zt ho] at hres
    subst hres
    show Calls _ _ _ _ (fun e w'=>e = .returned (.tuple #[.pointer none,errV 1]) /\ Ext w w' /\ own w' (shL bs A F++R))
    have HB:=zh (fun w'=>MS rate burst w' ho)
    rw [show errV 1 = .iface 128 (.int .i64 1) from rfl] at HB ⊢
    generalize (lr F root).1 = l at *
    have l0 : ((l.length : Int) == 0) = false:=by rw [zb]; omega
    clear hz hwk hfl ha h0 hz0 hwc ho
    go_enter Tryz.func15,Tryz.ntmps15
    go_upto_region 1 with (fail)
    generalize w.heap.size = g at *
    generalize w.alloc (.cells #[.int .i64 root,.int .i64 kind,.int .i64 file,.int .i64 rate,.int .i64 burst] 24) = w1 at *
    have c0:=(ld 6 hb rfl).1 0
    go_wp2_with fail
    refine (HWK.out _ _ hb).mono ?_
    rintro e w2 ⟨v,rfl,hx2,h2⟩
    obtain ⟨ao,lb,off,cap,rfl,-,-,-,-⟩:=(oz 0 h2 rfl).form
    have d3:=(ld 7 h2 rfl).1 3
    have d4:=(ld 7 h2 rfl).1 4
    clear c0
    go_wp2_with fail
    refine (HB.out _).mono ?_
    rintro e w' ⟨rfl,rfl⟩
    go_wp2_with fail
    go_ret2
    exact ⟨rfl,hxa.trans hx2,li 6 (lg h2) rfl⟩
   ·exact absurd ⟨hz,h0,ho⟩ HGD.out
def FH (bs : Nat) (A : Nat -> Nat×Nat) (F : ShM) (res : Option JobM×Int) (R : List SL.HP) (w : World) (e : Ending) (w' : World) : Prop:=
 match res with
 | (none,f)=>e = .returned (.tuple #[.pointer none,.int .i64 f]) /\ Ext w w' /\ own w' (rshL bs A F++R)
 | (some j,_)=>∃br v,e = .returned (.tuple #[.pointer (some ⟨br,0,none⟩),.int .i64 0]) /\ Ext w w' /\ own w' (rshL bs A F++(Ww bs br v j::(row 3 1 v j.list.length (lq j.list)::R)))
theorem FH.no {bs : Nat} {A : Nat -> Nat×Nat} {F : ShM} {f : Int} {R : List SL.HP} {w : World} {e : Ending} {w' : World} (h1 : e = .returned (.tuple #[.pointer none,.int .i64 f])) (h2 : Ext w w') (h3 : own w' (rshL bs A F++R)) : FH bs A F (none,f) R w e w':=⟨h1,h2,h3⟩
theorem FH.yes {bs : Nat} {A : Nat -> Nat×Nat} {F : ShM} {j : JobM} {R : List SL.HP} {w : World} {e : Ending} {w' : World} (br : Nat) (v : Value) (h1 : e = .returned (.tuple #[.pointer (some ⟨br,0,none⟩),.int .i64 0])) (h2 : Ext w w') (h3 : own w' (rshL bs A F++(Ww bs br v j::(row 3 1 v j.list.length (lq j.list)::R)))) : FH bs A F (some j,0) R w e w':=⟨br,v,h1,h2,h3⟩


theorem Xb (a b c d : Int) (w : World) : (Instr.field 47 (.agg #[.int .i64 a,.int .i64 b,.int .i64 c,.int .i64 d]) 2).run Tryz.prog w = .ok (.int .i64 c) w:=by kernel_rfl
theorem LW (F : ShM) (root kind file rate burst : Int) : 0 <= (newM F root kind file rate burst).2:=by
 have : 0 <= (lr F root).2:=Ar
 unfold newM
 repeat' split
 all_goals first | exact this | simp
theorem XK {w : World} (a c d : List SL.HP) {R : List SL.HP} (H : own w (a++(c++(d++R)))) : own w (a++(d++(c++R))):=by
 have h1:=lu a (c++d) (R:=R) (by simpa only [zp] using H)
 have h2:=lu c (d++a) (R:=R) (by simpa only [zp] using h1)
 have h3:=lu d a (R:=c++R) (by simpa only [zp] using h2)
 exact h3
theorem WQ {w : World} (a c d : List SL.HP) {R : List SL.HP} (H : own w (a++(c++(d++R)))) : own w (a++(d++(c++R))):=by
 have h1:=lu a (c++d) (R:=R) (by simpa only [zp] using H)
 have h2:=lu c (d++a) (R:=R) (by simpa only [zp] using h1)
 have h3:=lu d a (R:=c++R) (by simpa only [zp] using h2)
 exact h3
theorem GD {Y : YA} {m : le} {j : JobM} {bj bt bb : Nat} {v : Value} {R : List SL.HP} {w : World}
  (H : own w (yL Y m (jobL Y.bs bj bt bb v j++(row 3 1 v j.list.length (lq j.list)::R)))) :
  own (w.setCell ⟨Y.y,13,none⟩ (.pointer (some ⟨bj,0,none⟩))) (yL { Y with bj:=bj,bt:=bt,bb:=bb,vj:=v } { m with job:=some j } R):=by
 have h1:=lp (i:=13) (v:=.pointer (some ⟨bj,0,none⟩)) 6 H rfl
 have h2:=li 14 h1 rfl
 have h3 : own (w.setCell ⟨Y.y,13,none⟩ (.pointer (some ⟨bj,0,none⟩))) ((yL { Y with bj:=bj,bt:=bt,bb:=bb,vj:=v } { m with job:=some j } R).take 14++((jobL Y.bs bj bt bb v j++[row 3 1 v j.list.length (lq j.list)])++R)):=by
  rw [zp]
  exact h2
 have h4:=lu _ (jobL Y.bs bj bt bb v j++[row 3 1 v j.list.length (lq j.list)]) h3
 have h5:=AV (jobL Y.bs bj bt bb v j++[row 3 1 v j.list.length (lq j.list)]) h4
 exact lC ((yL { Y with bj:=bj,bt:=bt,bb:=bb,vj:=v } { m with job:=some j } R).take 14) h5
theorem Qv {F : ShM} {root kind file rate burst : Int} (h : (newM F root kind file rate burst).1 = none) : (newM F root kind file rate burst).2≠0:=by
 revert h
 unfold newM
 repeat' split
 all_goals intro h
 all_goals first | assumption | (cases h; done) | simp
theorem SV (r k f a b : Int) : 0 <= yH r k f a b:=by
 unfold yH
 split
 ·decide
 ·split <;> decide
theorem Sw (N : Nat) (Y : YA) (m : le) (hm : YOk N m) (hN : N < 900000) (kind file rate burst : Int) (R : List SL.HP) (w : World) (H : own w (yL Y m R)) :
  Calls Tryz.prog 46 #[.pointer (some ⟨Y.y,0,none⟩),.int .i64 kind,.int .i64 file,.int .i64 rate,.int .i64 burst] w (zL Y (zP m kind file rate burst) R w):=by
 have HB:=zh (Bc Y m R w H)
 generalize hres : zP m kind file rate burst = res
 unfold zP at hres
 cases hb : Ae m with
 | true=>
  rw [zt hb] at hres
  subst hres
  rw [hb] at HB
  clear hb
  go_enter Tryz.func46,Tryz.ntmps46
  go_wp2_with fail
  refine HB.out.mono ?_
  rintro e w' ⟨rfl,rfl⟩
  go_wp2_with fail
  go_ret
  exact ⟨Y,rfl,rfl,zR _,H⟩
 | false=>
  rw [zq (by rw [hb]; decide)] at hres
  rw [hb] at HB
  have cr:=yM H
  have h1:=IC (.cells #[.int .i64 m.dk.root,.int .i64 kind,.int .i64 file,.int .i64 rate,.int .i64 burst] 24) H
  have hx1:=(zR w).alloc (.cells #[.int .i64 m.dk.root,.int .i64 kind,.int .i64 file,.int .i64 rate,.int .i64 burst] 24)
  have HRES:=zh hres
  have HM:=zh hm
  clear hb hres hm
  go_enter Tryz.func46,Tryz.ntmps46
  go_wp2_with fail
  refine HB.out.mono ?_
  rintro e w' ⟨rfl,rfl⟩
  go_upto_region 4 with (fail)
  generalize w.heap.size = g at *
  generalize w.alloc (.cells #[.int .i64 m.dk.root,.int .i64 kind,.int .i64 file,.int .i64 rate,.int .i64 burst] 24) = w1 at *
  by_cases hk : kind = 0
  ·have d0 : (kind == 0) = true:=by rw [hk]; rfl
   rw [zt hk] at HRES
   clear hk cr
   go_wp2_with fail
   go_ret
   rw [<- HRES.out]
   exact ⟨Y,rfl,rfl,hx1,A8 h1⟩
  ·have d0 : (kind == 0) = false:=by rw [zb]; exact hk
   rw [zq hk] at HRES
   have HCD:=zh (fun R' w' h=>Gi m.dk.root kind file rate burst R' w' h)
   have hdc:=SV m.dk.root kind file rate burst
   have HK:=zh hk
   have c0:=(ld 15 h1 rfl).1 0
   have c1:=(ld 15 h1 rfl).1 1
   have c2:=(ld 15 h1 rfl).1 2
   have c3:=(ld 15 h1 rfl).1 3
   have c4:=(ld 15 h1 rfl).1 4
   unfold zO at HCD
   have HDF : Hid ((lR.mk m.dk.root kind file rate burst).f = yH m.dk.root kind file rate burst):=zh rfl
   generalize hdf : yH m.dk.root kind file rate burst = df at *
   clear hk cr hdf
   go_wp2_with fail
   refine (HCD.out _ _ h1).mono ?_
   rintro e w2 ⟨rfl,hx2,h2⟩
   clear c0 c1 c2 c3 c4
   by_cases hd : df = 0
   ·subst hd
    rw [zq (by decide)] at HRES
    rw [lS]
    have hm:=HM.out
    have hl5 : (lr m.F m.dk.root).1.length <= 5:=Co
    have hsh:=hm.sh.sh hN
    have HNW:=zh (fun R' w' h=>Nz Y.bs Y.A m.F hsh m.dk.root kind file rate burst hl5 R' w' h)
    have hnc:=LW m.F m.dk.root kind file rate burst
    have hgood : ∀j,(newM m.F m.dk.root kind file rate burst).1 = some j -> j.Ok /\ JobS m.F j:=fun j h=>G6 hsh hl5 h
    have hnz:=@Qv m.F m.dk.root kind file rate burst
    generalize newM m.F m.dk.root kind file rate burst = NJ at *
    obtain ⟨oj,nf⟩:=NJ
    dsimp only at HRES hnc hgood hnz
    have HGOOD:=zh hgood
    have NZ:=zh hnz
    have hz:=ln h2
    have hxz:=(hx1.trans hx2).drew
    have s6:=y_bs hz
    have s0:=(ld 15 hz rfl).1 0
    have s1:=(ld 15 hz rfl).1 1
    have s2:=(ld 15 hz rfl).1 2
    have s3:=(ld 15 hz rfl).1 3
    have s4:=(ld 15 hz rfl).1 4
    clear hgood hnz hm hl5 hsh h1 hx1 h2 hx2
    go_upto_region 9 with (fail)
    refine wp_region_held_drew (S:=fun w'=>w'.cell? ⟨Y.y,6,none⟩ = some (.pointer (some ⟨Y.bs,0,none⟩)) /\ w'.cell? ⟨g,0,none⟩ = some (.int .i64 m.dk.root) /\ w'.cell? ⟨g,1,none⟩ = some (.int .i64 kind) /\ w'.cell? ⟨g,2,none⟩ = some (.int .i64 file) /\ w'.cell? ⟨g,3,none⟩ = some (.int .i64 rate) /\ w'.cell? ⟨g,4,none⟩ = some (.int .i64 burst)) (by kernel_rfl) ⟨s6,s0,s1,s2,s3,s4⟩ (fun hHeld=>?_)
    refine tk 0 ?_
    refine tk 1 ?_
    refine tk 2 ?_
    refine tk 3 ?_
    refine tk 4 ?_
    try simp only [Act.put,tA,tB,tC,tD,tE,tF]
    refine rd 5 rfl fun K hK=>?_
    clear s6 s0 s1 s2 s3 s4
    go_simp
    go_at_call 15
    refine (HNW.out _ _ hz).mono ?_
    cases oj with
    | none=>
     rintro e w3 ⟨rfl,hx3,h3'⟩
     have h3 : own w3 (yL Y m (pts g (.cells #[.int .i64 m.dk.root,.int .i64 kind,.int .i64 file,.int .i64 rate,.int .i64 burst] 24 (0,0))::R)):=h3'
     have s6:=y_bs h3
     have s0:=(ld 15 h3 rfl).1
     go_simp
     refine hK.out _ _ ⟨s6,s0 0,s0 1,s0 2,s0 3,s0 4⟩ (fun _=>?_)
     clear hK K s6 s0
     try simp only [Act.put,tA,tB,tC,tD,tE,tF]
     refine tk 6 ?_
     refine tk 7 ?_
     refine tk 8 ?_
     refine tk 9 ?_
     refine tk 10 ?_
     try simp only [Act.put,tA,tB,tC,tD,tE,tF]
     refine wpAnyH_done (by kernel_rfl) ?_ _
     have hnz : nf≠0:=NZ.out rfl
     dsimp only at HRES
     rw [lv (e:=nf) (by omega)]
     go_wp2_with fail
     go_ret
     rw [<- HRES.out]
     exact ⟨Y,rfl,by rw [lv (e:=nf) (by omega)]; rfl,hxz.trans hx3,A8 h3⟩
    | some j=>
     rintro e w3 ⟨bj,bt,bb,v,rfl,hx3,h3'⟩
     have h3 : own w3 (yL Y m (jobL Y.bs bj bt bb v j++(row 3 1 v j.list.length (lq j.list)::(pts g (.cells #[.int .i64 m.dk.root,.int .i64 kind,.int .i64 file,.int .i64 rate,.int .i64 burst] 24 (0,0))::R)))):=by
      have:=WQ (shL Y.bs Y.A m.F) (jobL Y.bs bj bt bb v j++[row 3 1 v j.list.length (lq j.list)]) (yT Y m) (R:=pts g (.cells #[.int .i64 m.dk.root,.int .i64 kind,.int .i64 file,.int .i64 rate,.int .i64 burst] 24 (0,0))::R) (by rw [zp]; exact h3')
      rw [zp] at this
      exact this
     have s6:=y_bs h3
     have s0:=(ld 19 h3 rfl).1
     go_simp
     refine hK.out _ _ ⟨s6,s0 0,s0 1,s0 2,s0 3,s0 4⟩ (fun _=>?_)
     clear hK K s6 h3'
     try simp only [Act.put,tA,tB,tC,tD,tE,tF]
     refine tk 6 ?_
     refine tk 7 ?_
     refine tk 8 ?_
     refine tk 9 ?_
     refine tk 10 ?_
     try simp only [Act.put,tA,tB,tC,tD,tE,tF]
     refine wpAnyH_done (by kernel_rfl) ?_ _
     have c0:=s0 0
     have c1:=s0 1
     have c2:=s0 2
     have c3:=s0 3
     have c4:=s0 4
     clear s0
     obtain ⟨hjo,hjs⟩:=HGOOD.out j rfl
     have hto:=HM.out.tp.1
     have htw:=HM.out.tp.2.1
     have htp:=HM.out.tp.2.2.1
     have HW:=zh (fun R' w' h=>Bk Y m hto (by omega) (by omega) ⟨m.dk.root,kind,file,rate,burst⟩ HDF.out R' w' h)
     have hwc:=EY m ⟨m.dk.root,kind,file,rate,burst⟩
     dsimp only at HRES
     unfold lR.v zO at HW
     generalize lx m ⟨m.dk.root,kind,file,rate,burst⟩ = W at *
     obtain ⟨wc,m2⟩:=W
     dsimp only at hwc HW HRES
     have hx4:=hxz.trans hx3
     clear hz hxz hx3 hto htw htp
     go_wp2_with fail
     refine (HW.out _ _ h3).mono ?_
     rintro e w4 ⟨rfl,hx5,h4⟩
     clear c0 c1 c2 c3 c4 h3
     by_cases hwz : wc = 0
     ·subst hwz
      rw [zq (by decide)] at HRES
      rw [lS]
      have cj:=FC h4
      have fj:=BO h4 13
      have h5:=GD h4
      have hx6:=(hx4.trans hx5).setCell (⟨Y.y,13,none⟩ : Addr) (.pointer (some ⟨bj,0,none⟩))
      have HPU:=zh (fun w' (h : own w' (yL { Y with bj:=bj,bt:=bt,bb:=bb,vj:=v } { m2 with job:=some j } (pts g (.cells #[.int .i64 m.dk.root,.int .i64 kind,.int .i64 file,.int .i64 rate,.int .i64 burst] 24 (0,0))::R)))=>KP Y.bs bj bt bb v j hjo false _ w' (lu (shL Y.bs Y.A m2.F) (jobL Y.bs bj bt bb v j) (Bq (Y:={ Y with bj:=bj,bt:=bt,bb:=bb,vj:=v }) (m:={ m2 with job:=some j }) (j:=j) rfl h)))
      have hpl:=Jf j false
      have HPT:=zh (fun w' h=>AH (Y:={ Y with bj:=bj,bt:=bt,bb:=bb,vj:=v }) (m:={ m2 with job:=some j }) (F':=m2.F) (j:=j) (j':=(yX j false).2) (R:=pts g (.cells #[.int .i64 m.dk.root,.int .i64 kind,.int .i64 file,.int .i64 rate,.int .i64 burst] 24 (0,0))::R) (w:=w') rfl hpl (fun _ _=>Iff.rfl) h)
      have H5:=zh h5
      clear h4 h5
      generalize yX j false = PJ at *
      obtain ⟨pc,j2⟩:=PJ
      dsimp only at HPU HPT HRES hpl
      go_wp2_with fail
      refine (HPU.out _ H5.out).mono ?_
      rintro e w6 ⟨rfl,hx7,h6⟩
      have h7:=HPT.out _ (lu (jobL Y.bs bj bt bb v j2) (shL Y.bs Y.A m2.F) h6)
      go_wp2_with fail
      go_ret
      rw [<- HRES.out]
      exact ⟨{ Y with bj:=bj,bt:=bt,bb:=bb,vj:=v },rfl,rfl,hx6.trans hx7,A8 h7⟩
     ·rw [zt hwz] at HRES
      rw [lv (e:=wc) (by omega)]
      go_wp2_with fail
      go_ret
      rw [<- HRES.out]
      exact ⟨Y,rfl,by rw [lv (e:=wc) (by omega)]; rfl,hx4.trans hx5,li 15 (li 16 (li 17 (li 18 (li 19 h4 rfl) rfl) rfl) rfl) rfl⟩
   ·rw [zt hd] at HRES
    rw [lv (e:=df) (by omega)]
    go_wp2_with fail
    go_ret
    rw [<- HRES.out]
    exact ⟨Y,rfl,by rw [lv (e:=df) (by omega)]; rfl,hx1.trans hx2,A8 h2⟩
def TY (Y : YA) (S : (Bool×Int)×le) (R : List SL.HP) (w : World) (e : Ending) (w' : World) : Prop:=
 ∃Y' : YA,Y'.y = Y.y /\ e = .returned (.tuple #[.bool S.1.1,errV S.1.2]) /\ Ext w w' /\ own w' (yL Y' S.2 R)
def UF (m : le) : Prop:=∀j,m.job = some j -> j.st < 4 -> m.dk.kind = 2 -> (ll (lk m.F j).2.1 (lk m.F j).2.2).1 = 0 -> (lr (ll (lk m.F j).2.1 (lk m.F j).2.2).2.1 m.dk.root).2 = 0
theorem Ub (m : le) (d : lR) (h : (lx m d).1 = 0) : (lx m d).2.dk = d:=by
 revert h
 unfold lx
 split
 ·rename_i h; exact fun h2=>absurd h2 h
 ·exact fun _=>rfl
theorem OH (m : le) (d : lR) (h : (lx m d).1≠0) : (lx m d).2.dk = m.dk:=by
 revert h
 unfold lx
 split
 ·exact fun _=>rfl
 ·exact fun h=>absurd rfl h
theorem WV (m : le) (d : lR) (h : m.dk = d) : ({ m with dk:=d } : le) = m:=by rw [<- h]
theorem TX (N : Nat) (Y : YA) (m : le) (hm : YOk N m) (hN : N + 100 < 890000) (hlk : UF m) (R : List SL.HP) (hT : ∀w' L,own w' (L++R) -> A0 w') (w : World) (H : own w (yL Y m R)) :
  Calls Tryz.prog 48 #[.pointer (some ⟨Y.y,0,none⟩)] w (TY Y (zU m) R w):=by
 have HB:=zh (Bc Y m R w H)
 generalize hres : zU m = res
 unfold zU at hres
 unfold Ae at HB
 cases hj : m.job with
 | none=>
  rw [hj] at HB hres
  dsimp only at HB hres
  subst hres
  clear hj hlk
  go_enter Tryz.func48,Tryz.ntmps48
  go_wp2_with fail
  refine HB.out.mono ?_
  rintro e w' ⟨rfl,rfl⟩
  go_wp2_with fail
  go_ret2
  exact ⟨Y,rfl,rfl,zR _,H⟩
 | some j=>
  rw [hj] at HB hres
  dsimp only at HB hres
  by_cases h4 : 4 <= j.st
  ·rw [zt h4] at hres
   subst hres
   rw [zf (by omega)] at HB
   clear hj h4 hlk
   go_enter Tryz.func48,Tryz.ntmps48
   go_wp2_with fail
   refine HB.out.mono ?_
   rintro e w' ⟨rfl,rfl⟩
   go_wp2_with fail
   go_ret2
   exact ⟨Y,rfl,rfl,zR _,H⟩
  ·rw [zq h4] at hres
   rw [zg (by omega)] at HB
   obtain ⟨hS,hl,hk,hf,hr⟩:=hm.job j hj (by omega)
   have hjo:=hm.jok j hj
   have hsh:=hm.sh.sh (by omega)
   have cj:=Ad hj H
   have hv : ∀w' L,own w' (L++(row 3 1 Y.vj j.list.length (lq j.list)::((yT Y m).take 8++R))) -> lW w' Y.vj j.list:=fun w' L h=>oz 0 (lu L [row 3 1 Y.vj j.list.length (lq j.list)] h) rfl
   have hT2 : ∀w' L,own w' (L++(row 3 1 Y.vj j.list.length (lq j.list)::((yT Y m).take 8++R))) -> A0 w':=fun w' L h=>hT w' (L++(row 3 1 Y.vj j.list.length (lq j.list)::(yT Y m).take 8)) (by rw [zp]; exact h)
   have HST:=zh (Um Y.bs Y.A m.F hsh Y.bj Y.bt Y.bb Y.vj j hjo hS (row 3 1 Y.vj j.list.length (lq j.list)::((yT Y m).take 8++R)) w hv hT2 (Bq hj H))
   have hcode:=QW m.F j
   have hst:=Bm hsh hjo hS
   have hsm:=Bl m.F j
   have hok2:=NI (F:=m.F) hjo
   have hS2:=(hS.step hst).same hsm
   have hW2:=hm.sh.step hst
   have hlk2:=hlk j hj (by omega)
   have HPUT:=zh (fun w' h=>AH (w:=w') (Y:=Y) (m:=m) (R:=R) (F':=(lk m.F j).2.1) (j':=(lk m.F j).2.2) hj hsm.1 (fun k hk=>hst.same.none hk) h)
   have hr5:=hm.root5
   have hto:=hm.tp.1
   have htw:=hm.tp.2.1
   have htp:=hm.tp.2.2.1
   have hlist:=hsm.1
   generalize lk m.F j = SP at *
   obtain ⟨⟨did,c⟩,F1,j1⟩:=SP
   dsimp only at HST hcode hok2 hS2 hW2 hlk2 HPUT hres hlist
   have HN:=zh (fun R' w' h=>Cx m.dk.root R' w' h)
   have HRES:=zh hres
   have HOK:=zh hok2
   have HS2:=zh hS2
   have HW2:=zh hW2
   have HLK:=zh hlk2
   have HLI:=zh hlist
   clear hres hm hlk hlk2 hS hl hk hf hr hjo hsh hv hT2 hst hsm hok2 hS2 hW2 hlist h4 hj
   go_enter Tryz.func48,Tryz.ntmps48
   go_wp2_with fail
   refine HB.out.mono ?_
   rintro e w' ⟨rfl,rfl⟩
   go_wp2_with fail
   refine HST.out.mono ?_
   rintro e w2 ⟨rfl,hx2,h2'⟩
   have h2:=HPUT.out _ h2'
   clear cj h2' HST HPUT HB
   have cj:=Ad (m:={ m with F:=F1,job:=some j1 }) rfl h2
   have cr:=yM h2
   by_cases hc : c = 0
   ·subst hc
    rw [zq (by decide)] at HRES
    rw [lS]
    have ck:=Cb h2
    by_cases hk2 : m.dk.kind = 2
    ·have d2 : (m.dk.kind != 2) = false:=by rw [hk2]; rfl
     have hstat:=(I2 Y.bs Y.bj Y.bt Y.bb Y.vj j1 HOK.out _ w2 (lu (shL Y.bs Y.A F1) (jobL Y.bs Y.bj Y.bt Y.bb Y.vj j1) (Bq (m:={ m with F:=F1,job:=some j1 }) rfl h2)))
     have hf2:=Xb j1.kind j1.file j1.st (cnt j1.x : Nat)
     unfold Fq at hstat
     generalize hcn : (cnt j1.x : Nat) = cn at hstat hf2
     clear hcn
     have HSTA:=zh hstat
     have HLK:=zh (HLK.out hk2)
     have HK2:=zh hk2
     clear hk2 hstat
     by_cases h3 : j1.st = 3
     ·have d3 : (j1.st != 3) = false:=by rw [h3]; rfl
      rw [zq (by rintro (h | h); exact h HK2.out; exact h h3)] at HRES
      clear h3
      have hv : ∀w' L,own w' (L++(row 3 1 Y.vj j1.list.length (lq j1.list)::((yT Y { m with F:=F1,job:=some j1 }).take 8++R))) -> lW w' Y.vj j1.list:=fun w' L h=>oz 0 (lu L [row 3 1 Y.vj j1.list.length (lq j1.list)] h) rfl
      have HSE:=zh (fun w' h=>IT Y.bs Y.A F1 (N + 5) HW2.out (by omega) Y.bj Y.bt Y.bb Y.vj j1 HOK.out HS2.out (row 3 1 Y.vj j1.list.length (lq j1.list)::((yT Y { m with F:=F1,job:=some j1 }).take 8++R)) w' hv h)
      have hsc:=Gw F1 j1
      have HPUT:=zh (fun w' h=>AH (w:=w') (Y:=Y) (m:={ m with F:=F1,job:=some j1 }) (R:=R) (F':=(ll F1 j1).2.1) (j:=j1) (j':=(ll F1 j1).2.2) rfl (Es F1 j1).1 (fun k hk=>Ep hk) h)
      have HSH:=zh ((AW (N:=N + 5) HW2.out (by omega) HOK.out HS2.out).sh (by omega))
      generalize ll F1 j1 = SE at *
      obtain ⟨sc,F2,j2⟩:=SE
      dsimp only at HSE hsc HPUT HSH HLK HRES
      clear hv HW2 HS2
      go_wp2_with fail
      refine HSTA.out.mono ?_
      rintro e w3 ⟨rfl,hx3,h3'⟩
      have h3:=lu (jobL Y.bs Y.bj Y.bt Y.bb Y.vj j1) (shL Y.bs Y.A F1) h3'
      clear h2 cr ck cj h3'
      have cj:=Ad (m:={ m with F:=F1,job:=some j1 }) rfl (II (m:={ m with F:=F1,job:=some j1 }) (j:=j1) rfl h3)
      go_wp2_with fail
      refine (HSE.out _ h3).mono ?_
      rintro e w4 ⟨rfl,hx4,h4'⟩
      have h4 : own w4 (yL Y { m with F:=F2,job:=some j2 } R):=HPUT.out _ h4'
      clear cj h3 h4'
      have cr:=yM h4
      have hx5:=(hx2.trans hx3).trans hx4
      by_cases hsz : sc = 0
      ·have HLK2:=zh (HLK.out hsz)
       clear HLK
       subst hsz
       rw [zq (by decide)] at HRES
       rw [lS]
       have HWK:=zh (fun R' w' h=>Cq Y.bs Y.A F2 HSH.out m.dk.root R' w' h)
       unfold BH at HWK
       rw [HLK2.out,lS] at HWK
       generalize (lr F2 m.dk.root).1 = l at *
       clear HLK2 cr
       have HS:=zh (fun (m' : le) w' R' (h : own w' (yL Y m' R'))=>(⟨y_bs h,yM h⟩ : w'.cell? ⟨Y.y,6,none⟩ = some (.pointer (some ⟨Y.bs,0,none⟩)) /\ w'.cell? ⟨Y.y,7,none⟩ = some (.int .i64 m'.dk.root)))
       have h5:=ln h4
       have hx5:=hx5.drew
       have hg:=HS.out _ _ _ h5
       go_upto_region 14 with (fail)
       refine wp_region_held_drew (S:=fun w'=>w'.cell? ⟨Y.y,6,none⟩ = some (.pointer (some ⟨Y.bs,0,none⟩)) /\ w'.cell? ⟨Y.y,7,none⟩ = some (.int .i64 m.dk.root)) (by kernel_rfl) hg (fun hHeld=>?_)
       refine tk 0 ?_
       refine tk 1 ?_
       refine tk 2 ?_
       refine tk 3 ?_
       refine tk 4 ?_
       refine tk 5 ?_
       refine tk 6 ?_
       refine tk 7 ?_
       refine tk 8 ?_
       refine tk 9 ?_
       try simp only [Act.put,tA,tB,tC,tD,tE,tF]
       refine rd 10 rfl fun K hK=>?_
       go_simp
       go_at_call 69
       refine (HWK.out _ _ h5).mono ?_
       rintro e w6 ⟨v,rfl,hx6,h6⟩
       obtain ⟨vo,vb,vof,vcap,rfl,-,-,-,-⟩:=(oz 0 h6 rfl).form
       have h7:=oD (Y:=Y) (m:={ m with F:=F2,job:=some j2 }) h6
       go_simp
       refine hK.out _ _ (HS.out { m with F:=F2,job:=some j2 } _ _ h7) (fun _=>?_)
       clear hK K h4 h5 h6 hg
       try simp only [Act.put,tA,tB,tC,tD,tE,tF]
       refine tk 11 ?_
       refine tk 12 ?_
       refine tk 13 ?_
       refine tk 14 ?_
       refine tk 15 ?_
       try simp only [Act.put,tA,tB,tC,tD,tE,tF]
       refine rd 16 rfl fun K hK=>?_
       have cl:=BQ h7
       have fl:=BO h7 12
       have h8:=FW h7
       have hx8:=(hx5.trans hx6).setCell (⟨Y.y,12,none⟩ : Addr) (.slice vo l.length vcap)
       have z6:=y_bs h8
       have z7:=yM h8
       go_simp
       refine hK.out _ _ ⟨z6,z7⟩ (fun _=>?_)
       clear hK K h7 cl fl z6 z7
       try simp only [Act.put,tA,tB,tC,tD,tE,tF]
       refine tk 17 ?_
       try simp only [Act.put,tA,tB,tC,tD,tE,tF]
       refine wpAnyH_done (by kernel_rfl) ?_ _
       generalize w6.setCell ⟨Y.y,12,none⟩ (.slice vo l.length vcap) = w8 at *
       have cj:=Ad (m:={ m with F:=F2,job:=some j2,list:=l }) (j:=j2) rfl h8
       have HE:=zh (N9 Y.bs Y.bj Y.bt Y.bb Y.vj j2 true _ w8 (lu (shL Y.bs Y.A F2) (jobL Y.bs Y.bj Y.bt Y.bb Y.vj j2) (Bq (Y:={ Y with v:=.slice vo l.length vcap }) (m:={ m with F:=F2,job:=some j2,list:=l }) (j:=j2) rfl h8)))
       go_wp2_with fail
       refine HE.out.mono ?_
       rintro e w9 ⟨rfl,hx9,h9'⟩
       have h9 : own w9 (yL { Y with v:=.slice vo l.length vcap } { m with F:=F2,job:=some (endM j2 true),list:=l } R):=AH (Y:={ Y with v:=.slice vo l.length vcap }) (m:={ m with F:=F2,job:=some j2,list:=l }) (j:=j2) rfl (show (endM j2 true).list = j2.list from rfl) (fun _ _=>Iff.rfl) (lu (jobL Y.bs Y.bj Y.bt Y.bb Y.vj (endM j2 true)) (shL Y.bs Y.A F2) h9')
       clear cj h8 h9'
       have cr:=yM h9
       have HW:=zh (fun R' w' h=>Bk { Y with v:=.slice vo l.length vcap } { m with F:=F2,job:=some (endM j2 true),list:=l } hto (by dsimp only; omega) (by dsimp only; omega) (lA m.dk.root) (DU hr5.1 hr5.2) R' w' h)
       have hwc:=EY { m with F:=F2,job:=some (endM j2 true),list:=l } (lA m.dk.root)
       have hwd:=Ub { m with F:=F2,job:=some (endM j2 true),list:=l } (lA m.dk.root)
       have hwn:=OH { m with F:=F2,job:=some (endM j2 true),list:=l } (lA m.dk.root)
       generalize lx { m with F:=F2,job:=some (endM j2 true),list:=l } (lA m.dk.root) = W at *
       obtain ⟨wc,m2⟩:=W
       dsimp only at HW hwc hwd hwn HRES
       have HWD:=zh hwd
       have HWN:=zh hwn
       have hx10:=hx8.trans hx9
       clear hwd hwn hx8 hx9
       go_wp2_with fail
       refine (HN.out _ _ h9).mono ?_
       rintro e w10 ⟨rfl,hx11,h10⟩
       go_wp2_with fail
       refine (HW.out _ _ h10).mono ?_
       rintro e w11 ⟨rfl,hx12,h11⟩
       have hx13:=(hx10.trans hx11).trans hx12
       clear cr h9 h10 hx10 hx11 hx12
       by_cases hwz : wc = 0
       ·have hdk:=HWD.out hwz
        subst hwz
        rw [lS]
        rw [WV m2 (lA m.dk.root) hdk] at HRES
        clear hdk HWD
        go_wp2_with fail
        go_ret2
        rw [<- HRES.out]
        exact ⟨{ Y with v:=.slice vo l.length vcap },rfl,rfl,hx13,h11⟩
       ·rw [lv (e:=wc) (by omega)]
        have hdk:=HWN.out hwz
        have cr:=yM h11
        rw [hdk] at cr
        have HN2:=zh (fun R' w' h=>Cx m.dk.root R' w' h)
        unfold lR.v zO lA at HN2
        clear hdk HWD HWN
        go_wp2_with fail
        refine (HN2.out _ _ h11).mono ?_
        rintro e w12 ⟨rfl,hx14,h12⟩
        clear cr h11
        have fy:=BO h12
        have e7:=yM h12
        have e8:=Cb h12
        have e9:=Ca h12
        have e10:=Ev h12
        have e11:=Dn h12
        have h13:=lp (i:=11) (v:=.int .i64 0) 6 (lp (i:=10) (v:=.int .i64 0) 6 (lp (i:=9) (v:=.int .i64 (-1)) 6 (lp (i:=8) (v:=.int .i64 0) 6 (lp (i:=7) (v:=.int .i64 m.dk.root) 6 h12 rfl) rfl) rfl) rfl) rfl
        have h14 : own _ (yL { Y with v:=.slice vo l.length vcap } { m2 with dk:=lA m.dk.root } R):=h13
        have hx15:=((((((hx13.trans hx14).setCell (⟨Y.y,7,none⟩ : Addr) (.int .i64 m.dk.root)).setCell (⟨Y.y,8,none⟩ : Addr) (.int .i64 0)).setCell (⟨Y.y,9,none⟩ : Addr) (.int .i64 (-1))).setCell (⟨Y.y,10,none⟩ : Addr) (.int .i64 0)).setCell (⟨Y.y,11,none⟩ : Addr) (.int .i64 0))
        clear h12 h13
        go_wp2_with fail
        go_ret2
        rw [<- HRES.out]
        exact ⟨{ Y with v:=.slice vo l.length vcap },rfl,rfl,hx15,h14⟩
      ·rw [zt hsz] at HRES
       rw [lv (e:=sc) (by omega)]
       have HW:=zh (fun R' w' h=>Bk Y { m with F:=F2,job:=some j2 } hto (by dsimp only; omega) (by dsimp only; omega) (lA m.dk.root) (DU hr5.1 hr5.2) R' w' h)
       generalize lx { m with F:=F2,job:=some j2 } (lA m.dk.root) = W at *
       obtain ⟨wc,m2⟩:=W
       dsimp only at HW HRES
       go_wp2_with fail
       refine (HN.out _ _ h4).mono ?_
       rintro e w6 ⟨rfl,hx6,h6⟩
       go_wp2_with fail
       refine (HW.out _ _ h6).mono ?_
       rintro e w7 ⟨rfl,hx7,h7⟩
       go_wp2_with fail
       go_ret2
       rw [<- HRES.out]
       exact ⟨Y,rfl,by rw [lv (e:=sc) (by omega)]; rfl,(hx5.trans hx6).trans hx7,h7⟩
     ·have d3 : (j1.st != 3) = true:=bne_iff_ne.2 h3
      rw [zt (.inr h3)] at HRES
      clear h3
      go_wp2_with fail
      refine HSTA.out.mono ?_
      rintro e w3 ⟨rfl,hx3,h3'⟩
      have h3:=II (m:={ m with F:=F1,job:=some j1 }) (j:=j1) rfl (lu (jobL Y.bs Y.bj Y.bt Y.bb Y.vj j1) (shL Y.bs Y.A F1) h3')
      go_wp2_with fail
      go_ret2
      rw [<- HRES.out]
      exact ⟨Y,rfl,rfl,hx2.trans hx3,h3⟩
    ·have d2 : (m.dk.kind != 2) = true:=bne_iff_ne.2 hk2
     rw [zt (.inl hk2)] at HRES
     clear hk2
     go_wp2_with fail
     go_ret2
     rw [<- HRES.out]
     exact ⟨Y,rfl,rfl,hx2,h2⟩
   ·rw [zt hc] at HRES
    rw [lv (e:=c) (by omega)]
    have HG:=zh (Ic Y.bs Y.bj Y.bt Y.bb Y.vj j1 _ w2 (lu (shL Y.bs Y.A F1) (jobL Y.bs Y.bj Y.bt Y.bb Y.vj j1) (Bq (m:={ m with F:=F1,job:=some j1 }) rfl h2)))
    by_cases h1 : j1.st < 4
    ·rw [zt h1] at HRES
     rw [zg h1] at HG
     clear h1
     go_wp2_with fail
     refine HG.out.mono ?_
     rintro e w' ⟨rfl,rfl⟩
     go_wp2_with fail
     go_ret2
     rw [<- HRES.out]
     exact ⟨Y,rfl,by rw [lv (e:=c) (by omega)]; rfl,hx2,h2⟩
    ·rw [zq h1] at HRES
     rw [zf h1] at HG
     clear h1
     have HW:=zh (fun R' w' h=>Bk Y { m with F:=F1,job:=some j1 } hto (by dsimp only; omega) (by dsimp only; omega) (lA m.dk.root) (DU hr5.1 hr5.2) R' w' h)
     generalize lx { m with F:=F1,job:=some j1 } (lA m.dk.root) = W at *
     obtain ⟨wc,m2⟩:=W
     dsimp only at HW HRES
     go_wp2_with fail
     refine HG.out.mono ?_
     rintro e w' ⟨rfl,rfl⟩
     go_wp2_with fail
     refine (HN.out _ _ h2).mono ?_
     rintro e w3 ⟨rfl,hx3,h3⟩
     go_wp2_with fail
     refine (HW.out _ _ h3).mono ?_
     rintro e w4 ⟨rfl,hx4,h4⟩
     go_wp2_with fail
     go_ret2
     rw [<- HRES.out]
     exact ⟨Y,rfl,by rw [lv (e:=c) (by omega)]; rfl,(hx2.trans hx3).trans hx4,h4⟩
theorem FL (Y : YA) (m : le) (hl5 : m.list.length <= 5) (R : List SL.HP) (w : World) (H : own w (yL Y m R)) :
  Calls Tryz.prog 51 #[.pointer (some ⟨Y.y,0,none⟩)] w fun e w'=>∃v,e = .returned v /\ Ext w w' /\ own w' (yL Y m (row 3 1 v m.list.length (lq m.list)::R)):=by
 have hb:=lF 3 1 H
 obtain ⟨ao2,lb2,off2,cap2,hY2,-,-,hao2,-⟩:=(DQ H).form
 have cl:=BQ H
 have hvb:=DQ H
 rw [hY2] at cl hvb
 have HNW:=zh (Mm hvb)
 have HAO2:=zh hao2
 have hm5 : 0 + m.list.length <= maxLen:=by simp only [maxLen]; omega
 clear hvb hao2
 go_enter Tryz.func51,Tryz.ntmps51
 go_wp2_with (first | (at_builtin; refine lX rfl _ _ 95 rfl 0 3 Tryz.underlying95 F7 rfl (by decide) rfl hb rfl ao2 m.list.length cap2 (lq m.list) rfl (by simp [lq]) HNW.out (fun h=>by by_cases h0 : 0 < m.list.length; exact absurd (HAO2.out h0) (by rw [h]; simp); omega) (NQ _) hm5 (by omega) ?_))
 intro v' w5 h5 hx5
 have h6 : own w5 (yL Y m (row 3 1 v' m.list.length (lq m.list)::R)):=oD h5
 go_wp2_with fail
 go_ret
 exact ⟨v',rfl,hx5,h6⟩
def stN (B : Nat -> Nat) (k b : Nat) : Nat -> Nat:=fun j=>if j = k then b else B j
def ptrs (B : Nat -> Nat) (q : Nat) : List Value:=(List.range q).map fun k=>.pointer (some ⟨B k,0,none⟩)
theorem Li (B : Nat -> Nat) (q b : Nat) : ptrs (stN B q b) (q + 1) = ptrs B q++[.pointer (some ⟨b,0,none⟩)]:=by
 unfold ptrs
 rw [List.range_succ,List.map_append]
 congr 1
 ·refine List.map_congr_left fun k hk=>?_
  rw [stN,zq (by have:=List.mem_range.1 hk; omega)]
 ·simp [stN]
def devL (B : Nat -> Nat) (D : Nat -> DevM) : Nat -> List SL.HP
 | 0=>[]
 | q + 1=>lj (B q) (D q)::devL B D q
theorem Xw {B : Nat -> Nat} {D : Nat -> DevM} {k b : Nat} : ∀{q : Nat},q <= k -> devL (stN B k b) D q = devL B D q:=by
 intro q
 induction q with
 | zero=>intro _; rfl
 | succ q ih=>
  intro h
  rw [devL,devL,ih (by omega),stN,zq (by omega)]
theorem JH {B : Nat -> Nat} {D : Nat -> DevM} {q c : Nat} : devL (stN B q c) D (q + 1) = lj c (D q)::devL B D q:=by
 rw [devL,Xw (Nat.le_refl q)]
 simp [stN]
theorem Jr : Elem Tryz.prog 53 1 8 (.pointer none):=by unfold Elem; kernel_rfl
theorem Le (b : Nat) : ∀u∈[Value.pointer (some ⟨b,0,none⟩)],u.oneCell' = true:=fun u hu=>by simp at hu; subst hu; rfl
theorem Il (Y : YA) (m : le) (R : List SL.HP) {k : Nat} (hk : k < 5) : BB Y m R k = BB Y m [] k++R:=by
 have h1 : ∀R,yL Y m R = yL Y m []++R:=fun R=>by
  show shL _ _ _++(yT _ _++R) = (shL _ _ _++(yT _ _++[]))++R
  rw [List.append_nil,zp]
 have h2 : (yL Y m []).length = 15:=rfl
 unfold BB
 rw [h1 R]
 cases m.F k with
 | none=>dsimp only; rw [List.set_append_left _ _ (by omega)]
 | some i=>dsimp only; rw [List.eraseIdx_append_of_lt_length (by omega)]; rfl
theorem EC {Y : YA} {m : le} {P Q : SL.HP} {R : List SL.HP} {w : World} {k : Nat} (hk : k < 5) (H : own w (P::Q::BB Y m R k)) : own w (Q::BB Y m (P::R) k):=by
 rw [Il Y m R hk] at H
 rw [Il Y m (P::R) hk]
 exact lC (Q::BB Y m [] k) H
theorem Pg (m : le) (k : Nat) : Da m k (devOf m k) = m:=by
 unfold Da devOf
 cases e : m.F k with
 | none=>dsimp only; rw [show setD m.D k (m.D k) = m.D from funext fun j=>by unfold setD; split <;> simp_all]
 | some i=>dsimp only; rw [FK (m:=i) e]
theorem BU {N : Nat} {m : le} (h : YOk N m) {k : Nat} (hk : k < 5) : (devOf m k).Ok /\ (devOf m k).writes <= N /\ (devOf m k).pend.length <= N:=by
 unfold devOf
 cases e : m.F k with
 | none=>exact h.dv k hk e
 | some i=>exact ⟨(h.sh.ok k i hk e).d,h.sh.wr k i hk e,h.sh.pend k i hk e⟩
theorem Aq {w : World} (l : List SL.HP) {m : List SL.HP} (H : own w (l++m)) : own w m:=lg (AV l H)
theorem J2 {w : World} {l : List SL.HP} (k : Nat) {P : SL.HP} (hk : l[k]? = some P) (H : own w (P::l.eraseIdx k)) : own w l:=y7 (fun _=>Bw k hk) H
theorem Gg {Y : YA} {m : le} {R : List SL.HP} {w : World} {k : Nat} (hk : k < 5) (H : own w (lj (Y.A k).2.1 (devOf m k)::BB Y m R k)) : own w (yL Y m R):=by
 have hs:=Pg m k
 unfold Da at hs
 unfold devOf BB at H
 cases e : m.F k with
 | none=>
  rw [e] at H hs
  dsimp only at hs
  unfold devOf at hs
  rw [e] at hs
  have h1:=Gf hk e H
  rwa [hs] at h1
 | some i=>
  rw [e] at H
  have h1:=AV [lL (Y.A k).1 (Y.A k).2.1 (Y.A k).2.2 i,lj (Y.A k).2.1 i.d] (Ei H)
  exact J2 (1 + k) (by rw [Ka Y m R hk]; unfold oG; rw [e]) h1
def IK (Y : YA) : Value:=.agg #[.pointer (some ⟨(Y.A 0).2.1,0,none⟩),.pointer (some ⟨(Y.A 1).2.1,0,none⟩),.pointer (some ⟨(Y.A 2).2.1,0,none⟩),.pointer (some ⟨(Y.A 3).2.1,0,none⟩),.pointer (some ⟨(Y.A 4).2.1,0,none⟩)]
theorem XM (a b c d e : Nat) (w : World) : (Instr.index 54 (.agg #[.pointer (some ⟨a,0,none⟩),.pointer (some ⟨b,0,none⟩),.pointer (some ⟨c,0,none⟩),.pointer (some ⟨d,0,none⟩),.pointer (some ⟨e,0,none⟩)]) (.int .i64 ((0 : Nat) : Int))).run Tryz.prog w = .ok (.pointer (some ⟨a,0,none⟩)) w:=by kernel_rfl
theorem XH (a b c d e : Nat) (w : World) : (Instr.index 54 (.agg #[.pointer (some ⟨a,0,none⟩),.pointer (some ⟨b,0,none⟩),.pointer (some ⟨c,0,none⟩),.pointer (some ⟨d,0,none⟩),.pointer (some ⟨e,0,none⟩)]) (.int .i64 ((1 : Nat) : Int))).run Tryz.prog w = .ok (.pointer (some ⟨b,0,none⟩)) w:=by kernel_rfl
theorem XB (a b c d e : Nat) (w : World) : (Instr.index 54 (.agg #[.pointer (some ⟨a,0,none⟩),.pointer (some ⟨b,0,none⟩),.pointer (some ⟨c,0,none⟩),.pointer (some ⟨d,0,none⟩),.pointer (some ⟨e,0,none⟩)]) (.int .i64 ((2 : Nat) : Int))).run Tryz.prog w = .ok (.pointer (some ⟨c,0,none⟩)) w:=by kernel_rfl
theorem XP (a b c d e : Nat) (w : World) : (Instr.index 54 (.agg #[.pointer (some ⟨a,0,none⟩),.pointer (some ⟨b,0,none⟩),.pointer (some ⟨c,0,none⟩),.pointer (some ⟨d,0,none⟩),.pointer (some ⟨e,0,none⟩)]) (.int .i64 ((3 : Nat) : Int))).run Tryz.prog w = .ok (.pointer (some ⟨d,0,none⟩)) w:=by kernel_rfl
theorem XE (a b c d e : Nat) (w : World) : (Instr.index 54 (.agg #[.pointer (some ⟨a,0,none⟩),.pointer (some ⟨b,0,none⟩),.pointer (some ⟨c,0,none⟩),.pointer (some ⟨d,0,none⟩),.pointer (some ⟨e,0,none⟩)]) (.int .i64 ((4 : Nat) : Int))).run Tryz.prog w = .ok (.pointer (some ⟨e,0,none⟩)) w:=by kernel_rfl
theorem KG (Y : YA) {k : Nat} (hk : k < 5) (w : World) : (Instr.index 54 (IK Y) (.int .i64 (k : Int))).run Tryz.prog w = .ok (.pointer (some ⟨(Y.A k).2.1,0,none⟩)) w:=by
 unfold IK
 have h : k = 0 \/ k = 1 \/ k = 2 \/ k = 3 \/ k = 4:=by omega
 rcases h with rfl | rfl | rfl | rfl | rfl
 ·exact XM _ _ _ _ _ w
 ·exact XH _ _ _ _ _ w
 ·exact XB _ _ _ _ _ w
 ·exact XP _ _ _ _ _ w
 ·exact XE _ _ _ _ _ w
theorem Uz (N : Nat) (Y : YA) (m : le) (hm : YOk N m) (R : List SL.HP) (w : World) (H : own w (yL Y m R)) :
  Calls Tryz.prog 123 #[.pointer (some ⟨Y.y,0,none⟩)] w fun e w'=>∃v B bt,e = .returned (.tuple #[v,.pointer (some ⟨bt,0,none⟩)]) /\ Ext w w' /\ own w' (yL Y m (lj bt m.top::row 53 1 v 5 (ptrs B 5)::(devL B (devOf m) 5++R))):=by
 have hb:=oD (lF 53 1 H)
 have d0:=Bi H (k:=0) (by decide)
 have d1:=Bi H (k:=1) (by decide)
 have d2:=Bi H (k:=2) (by decide)
 have d3:=Bi H (k:=3) (by decide)
 have d4:=Bi H (k:=4) (by decide)
 have HIX:=zh (fun (k : Nat) (hk : k < 5) (w : World)=>KG Y hk w)
 unfold IK at HIX
 have HOK:=zh (fun (k : Nat) (hk : k < 5)=>(BU hm hk).1)
 have HTP:=zh hm.tp.1
 clear H hm
 go_enter Tryz.func123,Tryz.ntmps123
 go_wp2_with fail
 go_loopw [11,4] (fun iv v wr=>∃(q : Nat) (B : Nat -> Nat),q <= 5 /\ iv = .int .i64 q /\ Ext w wr /\ own wr (yL Y m (row 53 1 v q (ptrs B q)::(devL B (devOf m) q++R)))) (fun iv _ _=>6 - (intOf iv).toNat)
 case atStart=>exact ⟨0,fun _=>0,by omega,rfl,zR w,hb⟩
 case round=>
  clear hb d0 d1 d2 d3 d4
  obtain ⟨q,B,hq,rfl,hxr,hown⟩:=hrel
  by_cases hlt : q < 5
  ·have g1 : (q : Int) < 5:=by omega
   have g2 : (0 : Int) <= (q : Int):=by omega
   have hix:=HIX.out q hlt wr
   have hcp:=FZ (Y.A q).2.1 (devOf m q) (HOK.out q hlt) _ wr (FX hlt hown)
   have HCP:=zh hcp
   obtain ⟨ao,g,cap,rfl,r1,r2,r3,-,-,-,-⟩:=lm 15 hown rfl
   clear hcp
   go_wp2_with fail
   refine HCP.out.mono ?_
   rintro e w2 ⟨c,rfl,hx2,h2⟩
   have h3:=Gg hlt (EC hlt h2)
   have h4:=lE 16 h3 rfl
   have ha:=lh h4 (.cells #[.pointer (some ⟨c,0,none⟩)] 53)
   go_wp2_with (first | (at_builtin; refine lX rfl _ _ 62 rfl 1 53 Tryz.underlying62 Jr rfl (by decide) rfl ha rfl (some ⟨_,0,none⟩) 1 1 [.pointer (some ⟨c,0,none⟩)] rfl rfl (yl _ [.pointer (some ⟨c,0,none⟩)] _) (fun h=>by cases h) (Le _) (by simp only [maxLen]; omega) (by omega) ?_))
   intro v' w7 h7 hx7
   have h8:=oD (Y:=Y) (m:=m) (R:=lj c (devOf m q)::(devL B (devOf m) q++R)) (lg h7)
   have hx8:=((hxr.trans hx2).alloc (.cells #[.pointer (some ⟨c,0,none⟩)] 53)).trans hx7
   go_wp2_with fail
   go_roundw
   case rel=>exact ⟨q + 1,stN B q c,by omega,by go_num,hx8,by rw [Li,JH]; exact h8⟩
   case measure=>simp [intOf]; omega
  ·obtain rfl : q = 5:=by omega
   obtain ⟨ao,g,cap,rfl,-,-,-,-,-,-,-⟩:=lm 15 hown rfl
   have ct:=y_tp hown
   go_wp2_with fail
   refine (FZ Y.tp m.top HTP.out _ wr (KT hown)).mono ?_
   rintro e w2 ⟨bt,rfl,hx2,h2⟩
   have h3 : own w2 (lj Y.tp m.top::(yL Y m (lj bt m.top::row 53 1 (.slice ao 5 cap) 5 (ptrs B 5)::(devL B (devOf m) 5++R))).eraseIdx 12):=lC (lj Y.tp m.top::(yL Y m []).eraseIdx 12) h2
   have h4 : own w2 (yL Y m (lj bt m.top::row 53 1 (.slice ao 5 cap) 5 (ptrs B 5)::(devL B (devOf m) 5++R))):=lC ((yL Y m []).take 12) h3
   go_wp2_with fail
   go_ret2
   exact ⟨_,B,bt,rfl,hxr.trans hx2,h4⟩
end Go.Proofs.YtbpblokfiajpjabGreatDoor
namespace Go.Proofs.YtbpblokfiajpjabGreatDoor
open Go.RowKit Go.SL Go.Crc
theorem Wt : ∀(n : Nat) (l : List Int),l.Nodup -> (∀x∈l,0 <= x /\ x < n) -> l.length <= n:=by
 intro n
 induction n with
 | zero=>
  intro l _ h
  cases l with
  | nil=>exact Nat.le_refl 0
  | cons x l=>have:=h x (List.mem_cons_self ..); omega
 | succ n ih=>
  intro l hn h
  have h1:=ih (l.erase (n : Int)) (hn.erase _) fun x hx=>by
   obtain ⟨h2,h3⟩:=(List.Nodup.mem_erase_iff hn).1 hx
   have:=h x h3
   omega
  have h2:=List.length_erase (a:=(n : Int)) (l:=l)
  split at h2 <;> omega
theorem YOk.chn {N : Nat} {m : le} (h : YOk N m) : Chn m.F (clus m.F m.dk.root) m.list:=by
 have:=FG (F:=m.F) (root:=m.dk.root) (by rw [h.walk])
 rwa [h.walk] at this
theorem YOk.nodup {N : Nat} {m : le} (h : YOk N m) : m.list.Nodup:=by
 have:=KH (F:=m.F) (root:=m.dk.root) (by rw [h.walk])
 rwa [h.walk] at this
theorem ly.off {N M : Nat} {m : le} (h : ly N m) (hNM : N <= M) {file : Int} (h0 : 0 <= file) (hu : A1 m file = false) {F' : ShM} {D' : Nat -> DevM} (hF : ∀j,j≠file.toNat -> F' j = m.F j) (hD : ∀j,j≠file.toNat -> D' j = m.D j) (hW : ShW M F')
  (hDk : F' file.toNat = none -> (D' file.toNat).Ok /\ (D' file.toNat).writes <= M /\ (D' file.toNat).pend.length <= M) : ly M { m with F:=F',D:=D' }:=by
 have hM:=h.mono hNM
 unfold A1 at hu
 rw [Bool.or_eq_false_iff,decide_eq_false_iff_not] at hu
 obtain ⟨hnl,hnb⟩:=hu
 have hs : ∀x,0 <= x -> x≠file -> F' x.toNat = m.F x.toNat:=fun x hx hne=>hF _ (by omega)
 have hfk : ∀x,lz m.F x -> x≠file -> lz F' x:=fun x ⟨a,b,c⟩ hne=>⟨a,b,by rw [hs x a hne]; exact c⟩
 have hin:=h.ok.chn.file
 obtain ⟨s,hl⟩:=h.ok.head
 have hroot : m.dk.root∈m.list:=by rw [hl]; exact List.mem_cons_self ..
 have hne : ∀x∈m.list,x≠file:=fun x hx e=>hnl (e ▸ hx)
 refine ⟨⟨hW,fun k hk e=>?_,hM.ok.tp,?_,hfk _ h.ok.root (hne _ hroot),h.ok.jok,fun j hj h4=>?_⟩,h.str⟩
 ·by_cases hk2 : k = file.toNat
  ·subst hk2; exact hDk e
  ·dsimp only at e ⊢
   rw [hF k hk2] at e
   rw [hD k hk2]
   exact hM.ok.dv k hk e
 ·refine LK h.ok.root h.ok.walk fun x hx=>?_
  unfold shp
  dsimp only
  rw [hs x (hin x hx).1 (hne x hx)]
 ·obtain ⟨⟨a,b⟩,c,d,e,f⟩:=h.ok.job j hj h4
  refine ⟨⟨fun x hx=>hfk x (a x hx) (hne x (by rw [<- c]; exact hx)),fun h2=>hfk _ (b h2) ?_⟩,c,d,e,f⟩
  rw [e]
  intro he
  have : Ae m = true:=by unfold Ae; rw [hj]; exact zg h4
  rw [this,he] at hnb
  simp at hnb
theorem Ge {m : le} {file back : Int} (h : (lZ m file back).1 = 0) : 0 <= file /\ file < 5 /\ A1 m file = false /\ (yt m file.toNat back).1 = 0 /\ (lZ m file back).2 = { m with F:=put m.F file.toNat (yt m file.toNat back).2 }:=by
 revert h
 unfold lZ
 split
 ·exact fun h=>absurd h (by simp)
 ·split
  ·exact fun h=>absurd h (by simp)
  ·split
   ·rename_i h; exact fun h2=>absurd h2 h
   ·rename_i h1 h2 h3
    exact fun _=>⟨by omega,by omega,by simpa using h2,Decidable.not_not.1 h3,rfl⟩
theorem IR {N : Nat} {m : le} (h : ly N m) (hN : N + 10 < 900000) (file back : Int) : ly (N + 5) (lZ m file back).2:=by
 unfold lZ
 split
 ·exact h.mono (by omega)
 ·rename_i hb
  split
  ·exact h.mono (by omega)
  ·rename_i hu
   have hk : file.toNat < 5:=by omega
   obtain ⟨d1,d2,d3⟩:=BU h.ok hk
   have hc : (yt m file.toNat back).2.d.Ok /\ (yt m file.toNat back).2.d.fl.length = (devOf m file.toNat).fl.length /\ (yt m file.toNat back).2.d.pend.length <= (devOf m file.toNat).pend.length + 4 /\ (yt m file.toNat back).2.d.writes <= (devOf m file.toNat).writes + 5 /\
    ((yt m file.toNat back).1 = 0 -> (yt m file.toNat back).2.Ok /\ _ /\ (yt m file.toNat back).2.d.pend = [] /\ _):=AI d1 (by omega) (by omega)
   obtain ⟨c1,c2,c3,c4,c5⟩:=hc
   have hu' : A1 m file = false:=by simpa using hu
   split
   ·refine h.off (by omega) (by omega) hu' (fun j hj=>zq hj) (fun j hj=>zq hj) ⟨fun k x hk hx=>?_,fun k x hk hx=>?_,fun k x hk hx=>?_⟩ (fun _=>by unfold setD; rw [zt rfl]; exact ⟨c1,by omega,by omega⟩)
    all_goals
     unfold cut at hx
     by_cases hk2 : k = file.toNat
     ·rw [zt hk2] at hx; cases hx
     ·rw [zq hk2] at hx
      first | exact h.ok.sh.ok k x hk hx | (have:=h.ok.sh.wr k x hk hx; omega) | (have:=h.ok.sh.pend k x hk hx; omega)
   ·rename_i hc0
    have hc0:=c5 (Decidable.not_not.1 hc0)
    refine h.off (D':=m.D) (by omega) (by omega) hu' (fun j hj=>zq hj) (fun j hj=>rfl) ⟨fun k x hk hx=>?_,fun k x hk hx=>?_,fun k x hk hx=>?_⟩ (fun e=>by rw [oU] at e; cases e)
    all_goals
     unfold put at hx
     by_cases hk2 : k = file.toNat
     ·rw [zt hk2] at hx
      cases hx
      first | exact hc0.1 | omega
     ·rw [zq hk2] at hx
      first | exact h.ok.sh.ok k x hk hx | (have:=h.ok.sh.wr k x hk hx; omega) | (have:=h.ok.sh.pend k x hk hx; omega)
theorem Sd {N : Nat} {m : le} (h : ly N m) (hN : N + 10 < 900000) (file : Int) : ly (N + 6) (AC m file).2:=by
 unfold AC
 split
 ·exact h.mono (by omega)
 ·rename_i hbusy
  split
  ·exact h.mono (by omega)
  ·rename_i h4
   have hb:=IR h hN file m.dk.root
   split
   ·exact hb.mono (by omega)
   ·rename_i hc
    have ht:=Ee hb.ok (by omega) (lA file)
    split
    ·rename_i hw
     rw [DW hw]
     exact hb.desk ht
    ·rename_i hw
     obtain ⟨f0,f5,hu,hr,hM⟩:=Ge (Decidable.not_not.1 hc)
     have hy:=CZ (m:=(lZ m file m.dk.root).2) (d:=lA file) (Decidable.not_not.1 hw)
     generalize (lx (lZ m file m.dk.root).2 (lA file)).2 = W at *
     rw [hy]
     have his:=KO (devOf m file.toNat) (clus m.F m.dk.root) (yR (clus m.F m.dk.root) (devOf m file.toNat)) m.dk.root
     change (yt m file.toNat m.dk.root).2 = _ at his
     have hic : (yt m file.toNat m.dk.root).2.c = clus m.F m.dk.root:=by rw [his]; rfl
     have hib : (yt m file.toNat m.dk.root).2.b = m.dk.root:=by rw [his]; rfl
     have hjob : (lZ m file m.dk.root).2.job = m.job:=by rw [hM]
     have hF : (lZ m file m.dk.root).2.F = put m.F file.toNat (yt m file.toNat m.dk.root).2:=by rw [hM]
     generalize (lZ m file m.dk.root).2 = B at *
     generalize (yt m file.toNat m.dk.root).2 = i at *
     have hnl : file∉m.list:=by
      unfold A1 at hu
      rw [Bool.or_eq_false_iff,decide_eq_false_iff_not] at hu
      exact hu.1
     have hcn:=h.ok.chn
     obtain ⟨s,hl⟩:=h.ok.head
     have h5 : (file::m.list).length <= 5:=Wt 5 _ (List.nodup_cons.2 ⟨hnl,h.ok.nodup⟩) fun x hx=>by
      rcases List.mem_cons.1 hx with rfl | hx
      ·exact ⟨f0,f5⟩
      ·exact ⟨(hcn.file x hx).1,(hcn.file x hx).2.1⟩
     have hne : ∀x∈m.list,x≠file:=fun x hx e=>hnl (e ▸ hx)
     have hkeep : Chn B.F (clus m.F m.dk.root) m.list:=hcn.keep fun x hx=>by
      have:=(hcn.file x hx).1
      have:=hne x hx
      unfold shp
      rw [hF,Ak _ _ (by omega)]
     have hat : B.F file.toNat = some i:=by rw [hF,oU]
     have hfile : lz B.F file:=⟨f0,f5,i,hat⟩
     have hcl : clus B.F file = clus m.F m.dk.root:=by unfold clus at hic ⊢; rw [hat]; exact hic
     have hbk : bkOf B.F file = m.dk.root:=by unfold bkOf; rw [hat]; exact hib
     have hwk : lr B.F file = (file::m.list,0):=by
      refine CK ?_ h5
      rw [hcl]
      refine ⟨fun x hx=>?_,fun x hx=>?_,?_,hkeep.ch⟩
      ·rcases List.mem_cons.1 hx with rfl | hx
       ·exact hfile
       ·exact hkeep.file x hx
      ·rcases List.mem_cons.1 hx with rfl | hx
       ·exact hcl
       ·exact hkeep.cl x hx
      ·rw [hbk,hl]; rfl
     exact hb.bare ht hfile hwk (oj:=B.job) fun j hj=>by
      rw [hjob] at hj
      refine ⟨h.ok.jok j hj,fun h4=>?_⟩
      apply hbusy
      unfold Ae
      rw [hj]
      exact zg h4
theorem Lj {F : ShM} {root kind file rate burst : Int} {j : JobM} (h : (newM F root kind file rate burst).1 = some j) :
  (lr F root).2 = 0 /\ j.list = (lr F root).1 /\ j.kind = kind /\ j.file = file /\ j.root = root /\ j.st = 2 /\ (kind = 2 -> file = -1 \/ file∈(lr F root).1.tail):=by
 unfold newM at h
 split at h
 ·cases h
 ·rename_i h0
  have h0:=Decidable.not_not.1 h0
  split at h
  ·cases h
  ·split at h
   ·cases h
   ·split at h
    ·rename_i hk
     split at h
     ·cases h
     ·split at h
      ·cases h
      ·cases h
       exact ⟨h0,rfl,rfl,rfl,rfl,rfl,fun h2=>by omega⟩
    ·split at h
     ·rename_i hk
      cases h
      exact ⟨h0,rfl,rfl,rfl,rfl,rfl,fun _=>.inl hk.2⟩
     ·split at h
      ·split at h
       ·cases h
       ·rename_i hp
        cases h
        refine ⟨h0,rfl,rfl,rfl,rfl,rfl,fun _=>.inr ?_⟩
        have hp : ¬zy (lr F root).1 file < 1:=hp
        generalize (lr F root).1 = l at *
        cases l with
        | nil=>exact absurd (show zy [] file < 1 by show (-1 : Int) < 1; decide) hp
        | cons x l=>
         unfold zy zj at hp
         split at hp
         ·omega
         ·refine Decidable.byContradiction fun hn=>?_
          have hn : file∉l:=hn
          rw [NW hn] at hp
          omega
      ·cases h
theorem PH {N : Nat} {m : le} (h : ly N m) (hN : N + 10 < 900000) (kind file rate burst : Int) : ly (N + 1) (zP m kind file rate burst).2:=by
 unfold zP
 split
 ·exact h.mono (by omega)
 ·split
  ·exact h.mono (by omega)
  ·split
   ·exact h.mono (by omega)
   ·have hl5 : (lr m.F m.dk.root).1.length <= 5:=Co
    have hg:=fun j (hj : (newM m.F m.dk.root kind file rate burst).1 = some j)=>G6 (h.ok.sh.sh (by omega)) hl5 hj
    have hi:=fun j (hj : (newM m.F m.dk.root kind file rate burst).1 = some j)=>Lj hj
    have ht:=Ee h.ok (by omega) ⟨m.dk.root,kind,file,rate,burst⟩
    generalize newM m.F m.dk.root kind file rate burst = S at *
    obtain ⟨oj,f⟩:=S
    cases oj with
    | none=>exact h.mono (by omega)
    | some j=>
     obtain ⟨hj,hS⟩:=hg j rfl
     obtain ⟨-,i1,i2,i3,i4,-,i5⟩:=hi j rfl
     rw [h.ok.walk] at i1 i5
     dsimp only at i1 i5 ⊢
     split
     ·rename_i hw
      rw [DW hw]
      exact h.desk ht
     ·rename_i hw
      have hy:=CZ (m:=m) (d:=⟨m.dk.root,kind,file,rate,burst⟩) (Decidable.not_not.1 hw)
      generalize (lx m ⟨m.dk.root,kind,file,rate,burst⟩).2 = W at *
      have h1:=h.mono (Nat.le_succ N)
      have hs:=IQ j false
      rw [hy]
      exact ⟨⟨h1.ok.sh,h1.ok.dv,ht,h.ok.walk,h.ok.root,fun k hk=>by cases hk; exact Ms hj false,fun k hk _=>by cases hk; exact ⟨hS.same hs,hs.1.trans i1,hs.2.1.trans i2,hs.2.2.1.trans i3,hs.2.2.2.1.trans i4⟩⟩,
       fun k hk _ h2=>by cases hk; rw [hs.2.2.1,i3]; exact i5 (by rw [<- i2,<- hs.2.1]; exact h2)⟩
theorem Pc {N : Nat} {m : le} (h : m.top.Ok /\ m.top.writes <= N /\ m.top.pend.length <= N /\ 1 <= m.top.fl.length) (hN : N < 900000) (d : lR) : (lx m d).2.top.Ok /\ (lx m d).2.top.writes <= (N + 1 : Nat) /\ (lx m d).2.top.pend.length <= N + 1 /\ 1 <= (lx m d).2.top.fl.length:=by
 obtain ⟨a,b,c,e⟩:=h
 have h1:=DevM.write_ok a 0 d.s (by omega) (by omega)
 obtain ⟨h2,h3,h4⟩:=yJ m.top 0 d.s
 unfold lx
 split
 ·exact ⟨h1,by dsimp only; omega,by dsimp only; omega,by dsimp only; omega⟩
 ·refine ⟨DevM.flush_ok h1,?_,?_,?_⟩
  ·simp only [DevM.flush]; omega
  ·simp [DevM.flush]
  ·simp only [DevM.flush,lP]; omega
theorem PG (m : le) (d : lR) : ({ (lx m d).2 with dk:=d } : le) = { m with top:=(lx m d).2.top,dk:=d }:=by
 by_cases h : (lx m d).1 = 0
 ·have hy:=CZ h
  generalize (lx m d).2 = W at *
  rw [hy]
 ·have hy:=DW h
  generalize (lx m d).2 = W at *
  rw [hy]
theorem ly.stepJ {N : Nat} {m : le} (h : ly N m) (hN : N + 10 < 900000) {j : JobM} (hj : m.job = some j) (h4 : j.st < 4) : ly (N + 5) { m with F:=(lk m.F j).2.1,job:=some (lk m.F j).2.2 }:=by
 obtain ⟨hS,-⟩:=h.ok.job j hj h4
 have hst:=Bm (h.ok.sh.sh (by omega)) (h.ok.jok j hj) hS
 have h1:=h.shelf (Nat.le_add_right N 5) hst.same (h.ok.sh.step hst)
 exact h1.jobs hj (NI (h.ok.jok j hj)) (Bl m.F j) (fun _=>h4)
theorem ly.bareW {N : Nat} {m : le} (h : ly N m) (hN : N < 900000) (hn : ∀j,m.job = some j -> ¬j.st < 4) : ly (N + 1) (lx m (lA m.dk.root)).2:=by
 have ht:=Ee h.ok hN (lA m.dk.root)
 by_cases hc : (lx m (lA m.dk.root)).1 = 0
 ·have hy:=CZ hc
  generalize (lx m (lA m.dk.root)).2 = W at *
  rw [hy]
  exact h.bare ht h.ok.root h.ok.walk (oj:=m.job) fun j hj=>⟨h.ok.jok j hj,hn j hj⟩
 ·have hy:=DW hc
  generalize (lx m (lA m.dk.root)).2 = W at *
  rw [hy]
  exact h.desk ht
theorem Tu (i : ImgM) (k : Int) : (i.link k).2.c = i.c /\ ((i.link k).1≠0 -> (i.link k).2.b = i.b) /\ ((i.link k).1 = 0 -> (i.link k).2.b = k):=by
 unfold ImgM.link
 split
 ·exact ⟨rfl,fun _=>rfl,fun h=>absurd h (by simp)⟩
 ·split
  ·exact ⟨rfl,fun _=>rfl,fun h=>absurd h (by assumption)⟩
  ·exact ⟨rfl,fun h=>absurd rfl h,fun _=>rfl⟩
theorem Ps {F : ShM} {root : Int} {l : List Int} (hr : lz F root) (hw : lr F root = (l,0)) {file : Int} (hf : file = -1 \/ file∈l.tail) {F' : ShM} (hF : ∀k,k≠root.toNat -> F' k = F k) (hc : clus F' root = clus F root) (hb : bkOf F' root = file) (hr' : lz F' root) :
  ∃t,lr F' root = (root::t,0) /\ (file = -1 -> t = []) /\ (file≠-1 -> ∃p s,l = root::(p++file::s) /\ t = file::s):=by
 have hch:=FG (F:=F) (root:=root) (by rw [hw])
 have hnd:=KH (F:=F) (root:=root) (by rw [hw])
 obtain ⟨s,hl⟩:=Iv hr (by rw [hw])
 have h5:=Co (F:=F) (root:=root)
 rw [hw] at hch hnd hl h5
 dsimp only at hch hnd hl h5
 subst hl
 have hwalk : ∀t,Chn F (clus F root) t -> root∉t -> (root::t).length <= 5 -> file = t.headD (-1) -> lr F' root = (root::t,0):=fun t ht hnt h5 hh=>by
  have hk : Chn F' (clus F root) t:=ht.keep fun x hx=>by
   have h1:=(ht.file x hx).1
   have h2:=hr.1
   have h3 : x≠root:=fun e=>hnt (e ▸ hx)
   unfold shp
   rw [hF _ (by omega)]
  refine CK ?_ h5
  rw [hc]
  refine ⟨fun x hx=>?_,fun x hx=>?_,?_,hk.ch⟩
  ·rcases List.mem_cons.1 hx with rfl | hx
   ·exact hr'
   ·exact hk.file x hx
  ·rcases List.mem_cons.1 hx with rfl | hx
   ·exact hc
   ·exact hk.cl x hx
  ·rw [hb]; exact hh
 by_cases hn : file = -1
 ·refine ⟨[],hwalk [] ⟨fun x hx=>by (cases hx),fun x hx=>by (cases hx),trivial⟩ (fun h=>by (cases h)) (by simp) hn,fun _=>rfl,fun h=>absurd hn h⟩
 ·have hm:=hf.resolve_left hn
  dsimp only [List.tail] at hm
  obtain ⟨p,t,rfl⟩:=List.append_of_mem hm
  have hn2:=(List.nodup_cons.1 hnd).1
  refine ⟨file::t,hwalk (file::t) (Chn.drop (p:=root::p) (by simpa using hch)) (fun h=>hn2 (List.mem_append.2 (.inr h))) (by simp at h5 ⊢; omega) rfl,fun h=>absurd h hn,fun _=>⟨p,t,rfl,rfl⟩⟩
theorem ID {F : ShM} {j : JobM} (h2 : j.kind = 2) {root : Int} (hr : lz F root) (hl : j.list.getD 0 0 = root) :
  ((ll F j).1≠0 -> og F (ll F j).2.1 /\ (j.st = 3 -> (ll F j).2.2.st = 5)) /\
  ((ll F j).1 = 0 -> (∀k,k≠root.toNat -> (ll F j).2.1 k = F k) /\ clus (ll F j).2.1 root = clus F root /\ bkOf (ll F j).2.1 root = j.file /\ lz (ll F j).2.1 root):=by
 obtain ⟨r0,r5,i,hi⟩:=hr
 obtain ⟨l1,l2,l3⟩:=Tu i j.file
 have hL : linkI F root.toNat j.file = ((i.link j.file).1,put F root.toNat (i.link j.file).2):=by unfold linkI; rw [hi]
 unfold ll
 split
 ·rename_i h3
  exact ⟨fun _=>⟨og.refl F,fun h=>absurd h h3⟩,fun h=>absurd h (by simp)⟩
 ·rw [hl,hL]
  dsimp only
  by_cases hc : (i.link j.file).1≠0
  ·rw [zt hc]
   exact ⟨fun _=>⟨og.put hi l1 (l2 hc),fun _=>rfl⟩,fun h=>absurd h hc⟩
  ·rw [zq hc]
   refine ⟨fun h=>absurd rfl h,fun _=>⟨fun k hk=>Ak F _ hk,?_,?_,⟨r0,r5,_,oU ..⟩⟩⟩
   ·unfold clus; dsimp only; rw [oU,hi]; exact l1
   ·unfold bkOf; dsimp only; rw [oU]; exact l3 (Decidable.not_not.1 hc)
theorem DO {l : List Int} {x : Int} {s : List Int} (h : l = x::s) : l.getD 0 0 = x:=by rw [h]; rfl
theorem ly.linked {N : Nat} {m : le} (h : ly N m) (hN : N + 10 < 900000) {j : JobM} (hj : m.job = some j) (h4 : j.st < 4) (h2 : m.dk.kind = 2) (hc : (ll (lk m.F j).2.1 (lk m.F j).2.2).1 = 0) :
  ∃t,lr (ll (lk m.F j).2.1 (lk m.F j).2.2).2.1 m.dk.root = (m.dk.root::t,0) /\ (j.file = -1 -> t = []) /\ (j.file≠-1 -> ∃p s,m.list = m.dk.root::(p++j.file::s) /\ t = j.file::s):=by
 obtain ⟨hS,hl,hk,hf,hr⟩:=h.ok.job j hj h4
 have h1:=h.stepJ hN hj h4
 have hs:=Bl m.F j
 have hstr:=h.str j hj h4 (hk.trans h2)
 obtain ⟨s,hls⟩:=h.ok.head
 have hrt : lz (lk m.F j).2.1 m.dk.root:=h1.ok.root
 have hwk : lr (lk m.F j).2.1 m.dk.root = (m.list,0):=h1.ok.walk
 have hc2:=(ID (F:=(lk m.F j).2.1) (j:=(lk m.F j).2.2) (by rw [hs.2.1,hk,h2]) hrt (DO (by rw [hs.1,hl,hls]))).2 hc
 obtain ⟨a,b,c,d⟩:=hc2
 rw [hs.2.2.1] at c
 exact Ps hrt hwk hstr a b c d
theorem ly.linkOk {N : Nat} {m : le} (h : ly N m) (hN : N + 10 < 900000) : UF m:=fun j hj h4 h2 hc=>by
 obtain ⟨t,ht,-⟩:=h.linked hN hj h4 h2 hc
 rw [ht]
theorem O9 {N : Nat} {m : le} (h : ly N m) (hN : N + 20 < 900000) : ly (N + 10) (zU m).2:=by
 unfold zU
 cases hj : m.job with
 | none=>exact h.mono (by omega)
 | some j=>
  dsimp only
  split
  ·exact h.mono (by omega)
  ·rename_i h4
   have h4 : j.st < 4:=by omega
   have h1:=h.stepJ (by omega) hj h4
   split
   ·split
    ·exact h1.mono (by omega)
    ·rename_i hn
     exact (h1.bareW (by omega) fun k hk=>by cases hk; exact hn).mono (by omega)
   ·split
    ·exact h1.mono (by omega)
    ·rename_i hc0 hks
     have hk2 : m.dk.kind = 2:=Decidable.byContradiction fun hn=>hks (.inl hn)
     have hs3 : (lk m.F j).2.2.st = 3:=Decidable.byContradiction fun hn=>hks (.inr hn)
     obtain ⟨hS,hl,hk,hf,hr⟩:=h.ok.job j hj h4
     have hs:=Bl m.F j
     obtain ⟨s,hls⟩:=h.ok.head
     have hS1 : JobS (lk m.F j).2.1 (lk m.F j).2.2:=(h1.ok.job _ rfl (by omega)).1
     have hjo : (lk m.F j).2.2.Ok:=h1.ok.jok _ rfl
     have hst:=ID (F:=(lk m.F j).2.1) (j:=(lk m.F j).2.2) (by rw [hs.2.1,hk,hk2]) h1.ok.root (DO (by rw [hs.1,hl,hls]))
     have hlk:=h.linked (by omega) hj h4 hk2
     have hW:=AW h1.ok.sh (by omega) hjo hS1
     have hSJ:=Es (lk m.F j).2.1 (lk m.F j).2.2
     have hSO:=Sv (F:=(lk m.F j).2.1) hjo
     dsimp only at hW
     generalize (lk m.F j).2.1 = F1 at *
     generalize (lk m.F j).2.2 = j1 at *
     have hSt : (ll F1 j1).1 = 0 -> (ll F1 j1).2.2 = j1:=by
      unfold ll
      rw [zq (by omega),zt (by rw [hs.2.1,hk,hk2])]
      split
      ·exact fun h=>absurd h (by assumption)
      ·exact fun _=>rfl
     generalize ll F1 j1 = S at *
     obtain ⟨c,F2,j2⟩:=S
     dsimp only at *
     split
     ·rename_i hc
      obtain ⟨g1,g2⟩:=hst.1 hc
      have h2:=h1.shelf (M:=N + 5 + 1) (Nat.le_succ _) g1 hW
      have h3:=h2.jobs (j:=j1) (j':=j2) rfl hSO hSJ (fun _=>by omega)
      exact (h3.bareW (by omega) fun k hk=>by cases hk; have:=g2 hs3; omega).mono (by omega)
     ·rename_i hc
      have hc:=Decidable.not_not.1 hc
      obtain ⟨t,ht,-⟩:=hlk hc
      obtain ⟨g1,g2,g3,g4⟩:=hst.2 hc
      have hjj:=hSt hc
      subst hjj
      rw [PG]
      have ht2:=Pc (N:=N + 5) (m:={ m with F:=F2,list:=(lr F2 m.dk.root).1,job:=some (endM j2 true) }) h1.ok.tp (by omega) (lA m.dk.root)
      obtain ⟨t1,t2,t3,t4⟩:=ht2
      generalize (lx _ _).2.top = T at *
      refine ⟨⟨hW.mono (by omega),fun k hk5 e=>?_,⟨t1,by dsimp only; omega,by dsimp only; omega,t4⟩,by show lr F2 m.dk.root = ((lr F2 m.dk.root).1,0); rw [ht],g4,fun k hk=>by cases hk; exact Qu hjo true,fun k hk h=>by cases hk; exact absurd h (CH _ _)⟩,fun k hk h=>by cases hk; exact absurd h (CH _ _)⟩
      dsimp only at e ⊢
      have hkr : k≠m.dk.root.toNat:=fun e2=>by
       obtain ⟨-,-,i,hi⟩:=g4
       rw [e2,hi] at e
       cases e
      rw [g1 k hkr] at e
      obtain ⟨a,b,c⟩:=h1.ok.dv k hk5 e
      dsimp only at a b c
      exact ⟨a,by omega,by omega⟩
end Go.Proofs.YtbpblokfiajpjabGreatDoor
