/- A new job; the program's side: no mirror. A new job; the program's side, whole. Two shelves side by side; are they one? An act on the list of a root, answered by both shelves. A closed fact of shelves: what is below is seen. A closed fact of jobs: a mirror moves a cluster. The document's job steps. No conditions. -/
import Derived.Test.YtbpblokfiajpjabGreatDoorPkfb6c039b18
import Derived.Test.YtbpblokfiajpjabGreatDoorProg
namespace Go.Proofs.YtbpblokfiajpjabGreatDoor
open Go.RowKit Go.SL Go.Crc
attribute [local go_sem ↓] Go.wp_at_zero Go.wp_at_succ
set_option maxRecDepth 100000 in
set_option maxHeartbeats 8000000 in
theorem jnew_k23 (bs : Nat) (A : Nat→Nat×Nat×Nat) (F : ShM) (hF : ShOk F) (root kind file rate burst : Int) (hl5 : (walkM F root).1.length≤5) (hz : ¬(walkM F root).2≠0) (h0 : ¬(walkM F root).1.length = 0) (ho : ¬newOk rate burst = false) (hk1 : ¬kind = 1) (R : List SL.HP) (w : World) (H : own w (shL bs A F++R)) :
  Calls Tryz.prog 15 #[.pointer (some ⟨bs,0,none⟩),.agg #[.int .i64 root,.int .i64 kind,.int .i64 file,.int .i64 rate,.int .i64 burst]] w (NewPost bs A F (newM F root kind file rate burst) R w):=by
 have HK1:=Lib.hid hk1
 clear hk1
 have ha:=own_alloc H (.cells #[.int .i64 root,.int .i64 kind,.int .i64 file,.int .i64 rate,.int .i64 burst] 24)
 have hxa:=(Ext.refl w).alloc (.cells #[.int .i64 root,.int .i64 kind,.int .i64 file,.int .i64 rate,.int .i64 burst] 24)
 have hb : own _ (shL bs A F++(_::R)):=own_behind (shL bs A F) ha
 have hwk:=fun R' w' h=>walk_any bs A F hF root R' w' h
 have hfl:=walk_files F root
 have hwc : 0≤(walkM F root).2:=walkGo_code
 have HWK:=Lib.hid hwk
 unfold WalkPost at HWK
 generalize hres : newM F root kind file rate burst = res
 unfold newM at hres
 rw [if_neg hz] at hres
 have hz0 : (walkM F root).2 = 0:=by omega
 rw [hz0,show errV 0 = .nilIface from rfl] at HWK
 rw [if_neg h0] at hres
 rw [if_neg ho] at hres
 have HRES:=Lib.hid hres
 clear hres
 have hroot:=walk_root h0
 obtain ⟨k,m,hxk,hk,hFk⟩:=isFile_nat hroot
 have hcl:=clus_range hF hroot
 have hcm : clus F root = m.c:=by rw [hxk]; exact clus_of hFk
 have HB:=Lib.hid (fun R' w' h=>bucket_new_yes rate burst R' w' (by simpa using ho) h)
 have HH:=Lib.hid (fun R' w' h=>shead_any (b:=bs) (A:=A) hk hFk R' w' h)
 have HN:=Lib.hid (fun R' w' h=>bset_new (clus F root).toNat (by omega) R' w' h)
 have hcn : (((clus F root).toNat : Nat) : Int) = m.c:=by omega
 simp only [hcn] at HN
 have HCN:=Lib.hid hcn
 clear hcn
 have HF:=Lib.hid hF
 have HFL:=Lib.hid hfl
 have i1 : (0 : Int)≤(k : Int):=by omega
 have i2 : (k : Int) < 5:=by omega
 subst hxk
 have hok : ∀deep,kind = 1∨kind = 2∨kind = 3→deep≤(walkM F (k : Int)).1.length→(jFill F (jNew F k kind file rate burst (walkM F (k : Int)).1 deep)).Ok:=fun deep hkk hd=>jNew_ok hF hroot hl5 h0 (by simpa using ho) hkk hd
 have HOK:=Lib.hid hok
 clear hok
 generalize hL : (walkM F (k : Int)).1 = l at *
 have l0 : ((l.length : Int) == 0) = false:=by rw [beq_eq_false_iff_ne]; omega
 go_enter Tryz.func15,Tryz.ntmps15
 go_upto_region 1 with (fail)
 generalize w.heap.size = g at *
 generalize w.alloc (.cells #[.int .i64 (k : Int),.int .i64 kind,.int .i64 file,.int .i64 rate,.int .i64 burst] 24) = w1 at *
 have c0:=(own_cells 6 hb rfl).1 0
 go_wp2_with fail
 refine (HWK.out _ _ hb).mono ?_
 rintro e w2 ⟨v,rfl,hx2,h2⟩
 obtain ⟨ao,lb,off,cap,rfl,-,-,-,-⟩:=(ints_row 0 h2 rfl).form
 have d3:=(own_cells 7 h2 rfl).1 3
 have d4:=(own_cells 7 h2 rfl).1 4
 clear c0
 go_wp2_with fail
 refine (HB.out _ _ h2).mono ?_
 rintro e w3 ⟨rfl,hx3,h3⟩
 generalize w2.heap.size = bb at *
 have h3s:=own_swap2 [bucketAt bb rate burst burst,row 3 1 (.slice ao l.length cap) l.length (intVals l)] (shL bs A F) h3
 clear d3 d4
 have d0:=(own_cells 8 h3s rfl).1 0
 have g1:=sh_cell h3s hk
 rw [slotV_some hFk] at g1
 go_upto_region 9 with (fail)
 go_still_tail 6,(by kernel_rfl)
 change wpList _ _ _ _ _ w3.drew
 go_wp2_with fail
 refine (HH.out _ _ (own_drew h3s)).mono ?_
 rintro e w4 ⟨rfl,hx4,h4⟩
 unfold headV
 have hf0:=head_f0 m.c m.p m.b
 clear d0 g1
 go_wp2_with fail
 refine (HN.out _ _ h4).mono ?_
 rintro e w5 ⟨bt,rfl,hx5,h5⟩
 have d1:=(own_cells 9 h5 rfl).1 1
 have d2:=(own_cells 9 h5 rfl).1 2
 go_upto_region 14 with (fail)
 have h6:=own_alloc h5 (.cells #[.pointer (some ⟨bs,0,none⟩),.int .i64 kind,.int .i64 file,.slice ao l.length cap,.int .i64 0,.pointer (some ⟨bt,0,none⟩),.int .i64 0,.int .i64 2,.pointer (some ⟨bb,0,none⟩)] 137)
 have hx6:=(hx5.alloc (.cells #[.pointer (some ⟨bs,0,none⟩),.int .i64 kind,.int .i64 file,.slice ao l.length cap,.int .i64 0,.pointer (some ⟨bt,0,none⟩),.int .i64 0,.int .i64 2,.pointer (some ⟨bb,0,none⟩)] 137))
 generalize w5.heap.size = bj at *
 generalize w5.alloc (.cells #[.pointer (some ⟨bs,0,none⟩),.int .i64 kind,.int .i64 file,.slice ao l.length cap,.int .i64 0,.pointer (some ⟨bt,0,none⟩),.int .i64 0,.int .i64 2,.pointer (some ⟨bb,0,none⟩)] 137) = w6 at *
 clear d1 d2
 have d1:=(own_cells 10 h6 rfl).1 1
 have d2:=(own_cells 10 h6 rfl).1 2
 have f4:=(own_cells 0 h6 rfl).2 4
 have hrow:=ints_row 9 h6 rfl
 have HPL:=Lib.hid (place_any _ l file hl5 w6 hrow)
 have hX:=(((hxa.trans hx2).trans hx3).drew.trans hx4).trans hx6
 have HX:=Lib.hid hX
 have H6:=Lib.hid h6
 have HBAD : ∀n,own (w6.drewN n) (shL bs A F++R):=fun n=>own_drewN n (own_drop (own_drop (own_erase 8 (own_erase 9 (own_erase 10 h6 rfl) rfl) rfl)))
 have hpr:=place_range l file
 have HP:=Lib.hid hL
 clear hL
 generalize placeM l file = pl at *
 clear hrow hX hx2 hx3 hx4 hx5 hx6 hxa h2 h3 h3s h4 h5 hb ha H HWK HB HN HH hwk
 go_wp2_with fail
 refine HPL.out.mono ?_
 rintro e w7 ⟨rfl,rfl⟩
 have gs:=@sh_cell bs A F _ w6 (own_swap2 [_,_] (shL bs A F) h6)
 have H7:=Lib.hid h6
 clear h6 hF hl5 h0 hz hz0 hwc HPL hcl hcm
 have hk1:=HK1.out
 clear HK1
 have hres:=HRES.out
 rw [if_neg hk1] at hres
 have e1 : (kind == 1) = false:=by rw [beq_eq_false_iff_ne]; exact hk1
 have h9:=own_swap2 [_,_] (shL bs A F) H7.out
 have f4:=(own_cells 6 h9 rfl).2 4
 have c4:=(own_cells 6 h9 rfl).1 4
 have HB0 : own w6 (shL bs A F++R):=own_drop (own_drop (own_erase 8 (own_erase 9 (own_erase 10 H7.out rfl) rfl) rfl))
 by_cases hk2 : kind = 2∧file = -1
 ·rw [if_pos hk2] at hres
  obtain ⟨rfl,rfl⟩:=hk2
  have HRES2:=Lib.hid hres
  have h10:=own_set (i:=4) (v:=.int .i64 (l.length : Nat)) 6 h9 rfl
  have hxt:=HX.out.setCell (⟨bj,4,none⟩ : Addr) (.int .i64 (l.length : Nat))
  clear hres HRES hk1 e1 h9 HB0 HBAD
  go_wp2_with fail
  have hjok:=Lib.hid (HOK.out _ (by simp) (by omega) : (jFill F (jNew F (k : Int) 2 (-1) rate burst l l.length)).Ok)
  have hx12:=Lib.hid hxt
  have hv12 : ∀w' L,own w' (L++(row 3 1 (.slice ao l.length cap) l.length (intVals l)::(pts g (.cells #[.int .i64 (k : Int),.int .i64 2,.int .i64 (-1),.int .i64 rate,.int .i64 burst] 24 (0,0))::R)))→IntsAt w' (.slice ao l.length cap) (jNew F (k : Int) 2 (-1) rate burst l l.length).list:=fun w' L h=>ints_row 0 (own_swap2 L [row 3 1 (.slice ao l.length cap) l.length (intVals l)] h) rfl
  have HV12:=Lib.hid hv12
  have hnn : ((jNew F (k : Int) 2 (-1) rate burst l l.length).n : Int) = m.c:=HCN.out
  clear hxt hv12
  go_loopw [154] (fun iv wr=>∃q : Nat,q≤(jNew F (k : Int) 2 (-1) rate burst l l.length).n∧iv = .int .i64 q∧Ext w wr∧own wr (shL bs A F++(jobL bs bj bt bb (.slice ao l.length cap) { (jNew F (k : Int) 2 (-1) rate burst l l.length) with x:=fillX F (jNew F (k : Int) 2 (-1) rate burst l l.length) q }++(row 3 1 (.slice ao l.length cap) l.length (intVals l)::(pts g (.cells #[.int .i64 (k : Int),.int .i64 2,.int .i64 (-1),.int .i64 rate,.int .i64 burst] 24 (0,0))::R))))) (fun iv _=>(jNew F (k : Int) 2 (-1) rate burst l l.length).n - (intOf iv).toNat)
  case atStart=>exact ⟨0,Nat.zero_le _,rfl,hx12.out,h10⟩
  case round=>
   obtain ⟨q,hq,rfl,hxr,hown⟩:=hrel
   by_cases hlt : q < (jNew F (k : Int) 2 (-1) rate burst l l.length).n
   ·have j1 : (0 : Int)≤(q : Int):=by omega
    have j2 : (q : Int) < m.c:=by omega
    have j3 : (q : Int) < 64:=by have:=hjok.out.n; have : (jNew F (k : Int) 2 (-1) rate burst l l.length).n≤64:=this; omega
    go_wp2_with fail
    refine (jwants_any bs A F HF.out bj bt bb _ _ (jz_ok hjok.out q) HFL.out (q : Int) _ wr HV12.out hown).mono ?_
    rintro e w12 ⟨rfl,nn,rfl⟩
    have hp:=bset_put bt (jNew F (k : Int) 2 (-1) rate burst l l.length).n _ hjok.out.n (jz_ok hjok.out q).x (q : Int) (wantsM F { (jNew F (k : Int) 2 (-1) rate burst l l.length) with x:=fillX F (jNew F (k : Int) 2 (-1) rate burst l l.length) q } (q : Int)) 7 _ (own_drewN nn hown) rfl
    have HPT:=Lib.hid hp
    clear hp
    generalize hwv : wantsM F { (jNew F (k : Int) 2 (-1) rate burst l l.length) with x:=fillX F (jNew F (k : Int) 2 (-1) rate burst l l.length) q } (q : Int) = wv at *
    go_wp2_with fail
    refine HPT.out.mono ?_
    rintro e w13 ⟨rfl,hx13,h13⟩
    go_wp2_with fail
    go_roundw
    case rel=>exact ⟨q + 1,by omega,by go_num,(hxr.drewN nn).trans hx13,jz_next (by rw [hwv]; exact h13)⟩
    case measure=>simp [intOf]; omega
   ·obtain rfl : q = (jNew F (k : Int) 2 (-1) rate burst l l.length).n:=by omega
    have j2 : ¬(((jNew F (k : Int) 2 (-1) rate burst l l.length).n : Int) < m.c):=by omega
    have dj : decide (((jNew F (k : Int) 2 (-1) rate burst l l.length).n : Int) < m.c) = false:=decide_eq_false j2
    go_wp2_with fail
    refine (jturn_any bs bj bt bb _ _ hjok.out _ wr (own_swap2 (shL bs A F) (jobL bs bj bt bb (.slice ao l.length cap) (jFill F (jNew F (k : Int) 2 (-1) rate burst l l.length))) hown)).mono ?_
    rintro e w12 ⟨rfl,hx12',h12⟩
    rw [turnM_two rfl] at h12
    go_wp2_with fail
    go_ret2
    rw [← HRES2.out]
    exact NewPost.yes bj bt bb (.slice ao l.length cap) rfl (hxr.trans hx12') (own_erase 10 (own_swap2 (jobL bs bj bt bb (.slice ao l.length cap) (jFill F (jNew F (k : Int) 2 (-1) rate burst l l.length))) (shL bs A F) h12) rfl)
 ·rw [if_neg hk2] at hres
  by_cases hk3 : kind = 2∨kind = 3
  ·rw [if_pos hk3] at hres
   by_cases hpl : pl < 1
   ·rw [if_pos hpl] at hres
    subst hres
    rcases hk3 with rfl | rfl
    ·have hf1 : (file == -1) = false:=by rw [beq_eq_false_iff_ne]; omega
     clear hk1 hk2 HRES
     go_wp2_with fail
     go_ret2
     exact NewPost.no rfl HX.out HB0
    ·clear hk1 hk2 HRES
     go_wp2_with fail
     go_ret2
     exact NewPost.no rfl HX.out HB0
   ·rw [if_neg hpl] at hres
    obtain ⟨p,rfl⟩ : ∃p : Nat,pl = (p : Int):=⟨pl.toNat,by omega⟩
    rw [Int.toNat_natCast] at hres
    have HRES2:=Lib.hid hres
    have hp1 : ¬((p : Int) < 1):=hpl
    have h10:=own_set (i:=4) (v:=.int .i64 (p : Nat)) 6 h9 rfl
    have hxt:=HX.out.setCell (⟨bj,4,none⟩ : Addr) (.int .i64 (p : Nat))
    clear hres HRES h9 HB0 HBAD
    rcases hk3 with rfl | rfl
    ·have hf1 : (file == -1) = false:=by rw [beq_eq_false_iff_ne]; omega
     clear hk1 hk2 e1
     go_wp2_with fail
     have hjok:=Lib.hid (HOK.out _ (by simp) (by omega) : (jFill F (jNew F (k : Int) 2 file rate burst l p)).Ok)
     have hx12:=Lib.hid hxt
     have hv12 : ∀w' L,own w' (L++(row 3 1 (.slice ao l.length cap) l.length (intVals l)::(pts g (.cells #[.int .i64 (k : Int),.int .i64 2,.int .i64 file,.int .i64 rate,.int .i64 burst] 24 (0,0))::R)))→IntsAt w' (.slice ao l.length cap) (jNew F (k : Int) 2 file rate burst l p).list:=fun w' L h=>ints_row 0 (own_swap2 L [row 3 1 (.slice ao l.length cap) l.length (intVals l)] h) rfl
     have HV12:=Lib.hid hv12
     have hnn : ((jNew F (k : Int) 2 file rate burst l p).n : Int) = m.c:=HCN.out
     clear hxt hv12
     go_loopw [154] (fun iv wr=>∃q : Nat,q≤(jNew F (k : Int) 2 file rate burst l p).n∧iv = .int .i64 q∧Ext w wr∧own wr (shL bs A F++(jobL bs bj bt bb (.slice ao l.length cap) { (jNew F (k : Int) 2 file rate burst l p) with x:=fillX F (jNew F (k : Int) 2 file rate burst l p) q }++(row 3 1 (.slice ao l.length cap) l.length (intVals l)::(pts g (.cells #[.int .i64 (k : Int),.int .i64 2,.int .i64 file,.int .i64 rate,.int .i64 burst] 24 (0,0))::R))))) (fun iv _=>(jNew F (k : Int) 2 file rate burst l p).n - (intOf iv).toNat)
     case atStart=>exact ⟨0,Nat.zero_le _,rfl,hx12.out,h10⟩
     case round=>
      obtain ⟨q,hq,rfl,hxr,hown⟩:=hrel
      by_cases hlt : q < (jNew F (k : Int) 2 file rate burst l p).n
      ·have j1 : (0 : Int)≤(q : Int):=by omega
       have j2 : (q : Int) < m.c:=by omega
       have j3 : (q : Int) < 64:=by have:=hjok.out.n; have : (jNew F (k : Int) 2 file rate burst l p).n≤64:=this; omega
       go_wp2_with fail
       refine (jwants_any bs A F HF.out bj bt bb _ _ (jz_ok hjok.out q) HFL.out (q : Int) _ wr HV12.out hown).mono ?_
       rintro e w12 ⟨rfl,nn,rfl⟩
       have hp:=bset_put bt (jNew F (k : Int) 2 file rate burst l p).n _ hjok.out.n (jz_ok hjok.out q).x (q : Int) (wantsM F { (jNew F (k : Int) 2 file rate burst l p) with x:=fillX F (jNew F (k : Int) 2 file rate burst l p) q } (q : Int)) 7 _ (own_drewN nn hown) rfl
       have HPT:=Lib.hid hp
       clear hp
       generalize hwv : wantsM F { (jNew F (k : Int) 2 file rate burst l p) with x:=fillX F (jNew F (k : Int) 2 file rate burst l p) q } (q : Int) = wv at *
       go_wp2_with fail
       refine HPT.out.mono ?_
       rintro e w13 ⟨rfl,hx13,h13⟩
       go_wp2_with fail
       go_roundw
       case rel=>exact ⟨q + 1,by omega,by go_num,(hxr.drewN nn).trans hx13,jz_next (by rw [hwv]; exact h13)⟩
       case measure=>simp [intOf]; omega
      ·obtain rfl : q = (jNew F (k : Int) 2 file rate burst l p).n:=by omega
       have j2 : ¬(((jNew F (k : Int) 2 file rate burst l p).n : Int) < m.c):=by omega
       have dj : decide (((jNew F (k : Int) 2 file rate burst l p).n : Int) < m.c) = false:=decide_eq_false j2
       go_wp2_with fail
       refine (jturn_any bs bj bt bb _ _ hjok.out _ wr (own_swap2 (shL bs A F) (jobL bs bj bt bb (.slice ao l.length cap) (jFill F (jNew F (k : Int) 2 file rate burst l p))) hown)).mono ?_
       rintro e w12 ⟨rfl,hx12',h12⟩
       rw [turnM_two rfl] at h12
       go_wp2_with fail
       go_ret2
       rw [← HRES2.out]
       exact NewPost.yes bj bt bb (.slice ao l.length cap) rfl (hxr.trans hx12') (own_erase 10 (own_swap2 (jobL bs bj bt bb (.slice ao l.length cap) (jFill F (jNew F (k : Int) 2 file rate burst l p))) (shL bs A F) h12) rfl)
    ·clear hk1 hk2 e1
     go_wp2_with fail
     have hjok:=Lib.hid (HOK.out _ (by simp) (by omega) : (jFill F (jNew F (k : Int) 3 file rate burst l p)).Ok)
     have hx12:=Lib.hid hxt
     have hv12 : ∀w' L,own w' (L++(row 3 1 (.slice ao l.length cap) l.length (intVals l)::(pts g (.cells #[.int .i64 (k : Int),.int .i64 3,.int .i64 file,.int .i64 rate,.int .i64 burst] 24 (0,0))::R)))→IntsAt w' (.slice ao l.length cap) (jNew F (k : Int) 3 file rate burst l p).list:=fun w' L h=>ints_row 0 (own_swap2 L [row 3 1 (.slice ao l.length cap) l.length (intVals l)] h) rfl
     have HV12:=Lib.hid hv12
     have hnn : ((jNew F (k : Int) 3 file rate burst l p).n : Int) = m.c:=HCN.out
     clear hxt hv12
     go_loopw [154] (fun iv wr=>∃q : Nat,q≤(jNew F (k : Int) 3 file rate burst l p).n∧iv = .int .i64 q∧Ext w wr∧own wr (shL bs A F++(jobL bs bj bt bb (.slice ao l.length cap) { (jNew F (k : Int) 3 file rate burst l p) with x:=fillX F (jNew F (k : Int) 3 file rate burst l p) q }++(row 3 1 (.slice ao l.length cap) l.length (intVals l)::(pts g (.cells #[.int .i64 (k : Int),.int .i64 3,.int .i64 file,.int .i64 rate,.int .i64 burst] 24 (0,0))::R))))) (fun iv _=>(jNew F (k : Int) 3 file rate burst l p).n - (intOf iv).toNat)
     case atStart=>exact ⟨0,Nat.zero_le _,rfl,hx12.out,h10⟩
     case round=>
      obtain ⟨q,hq,rfl,hxr,hown⟩:=hrel
      by_cases hlt : q < (jNew F (k : Int) 3 file rate burst l p).n
      ·have j1 : (0 : Int)≤(q : Int):=by omega
       have j2 : (q : Int) < m.c:=by omega
       have j3 : (q : Int) < 64:=by have:=hjok.out.n; have : (jNew F (k : Int) 3 file rate burst l p).n≤64:=this; omega
       go_wp2_with fail
       refine (jwants_any bs A F HF.out bj bt bb _ _ (jz_ok hjok.out q) HFL.out (q : Int) _ wr HV12.out hown).mono ?_
       rintro e w12 ⟨rfl,nn,rfl⟩
       have hp:=bset_put bt (jNew F (k : Int) 3 file rate burst l p).n _ hjok.out.n (jz_ok hjok.out q).x (q : Int) (wantsM F { (jNew F (k : Int) 3 file rate burst l p) with x:=fillX F (jNew F (k : Int) 3 file rate burst l p) q } (q : Int)) 7 _ (own_drewN nn hown) rfl
       have HPT:=Lib.hid hp
       clear hp
       generalize hwv : wantsM F { (jNew F (k : Int) 3 file rate burst l p) with x:=fillX F (jNew F (k : Int) 3 file rate burst l p) q } (q : Int) = wv at *
       go_wp2_with fail
       refine HPT.out.mono ?_
       rintro e w13 ⟨rfl,hx13,h13⟩
       go_wp2_with fail
       go_roundw
       case rel=>exact ⟨q + 1,by omega,by go_num,(hxr.drewN nn).trans hx13,jz_next (by rw [hwv]; exact h13)⟩
       case measure=>simp [intOf]; omega
      ·obtain rfl : q = (jNew F (k : Int) 3 file rate burst l p).n:=by omega
       have j2 : ¬(((jNew F (k : Int) 3 file rate burst l p).n : Int) < m.c):=by omega
       have dj : decide (((jNew F (k : Int) 3 file rate burst l p).n : Int) < m.c) = false:=decide_eq_false j2
       go_wp2_with fail
       refine (jturn_any bs bj bt bb _ _ hjok.out _ wr (own_swap2 (shL bs A F) (jobL bs bj bt bb (.slice ao l.length cap) (jFill F (jNew F (k : Int) 3 file rate burst l p))) hown)).mono ?_
       rintro e w12 ⟨rfl,hx12',h12⟩
       rw [turnM_two rfl] at h12
       go_wp2_with fail
       go_ret2
       rw [← HRES2.out]
       exact NewPost.yes bj bt bb (.slice ao l.length cap) rfl (hxr.trans hx12') (own_erase 10 (own_swap2 (jobL bs bj bt bb (.slice ao l.length cap) (jFill F (jNew F (k : Int) 3 file rate burst l p))) (shL bs A F) h12) rfl)
  ·rw [if_neg hk3] at hres
   subst hres
   have e2 : (kind == 2) = false:=by rw [beq_eq_false_iff_ne]; omega
   have e3 : (kind == 3) = false:=by rw [beq_eq_false_iff_ne]; omega
   clear hk1 hk2 hk3 HRES
   go_wp2_with fail
   go_ret2
   exact NewPost.no rfl HX.out HB0
end Go.Proofs.YtbpblokfiajpjabGreatDoor

namespace Go.Proofs.YtbpblokfiajpjabGreatDoor
open Go.RowKit Go.SL Go.Crc
attribute [local go_sem ↓] Go.wp_at_zero Go.wp_at_succ
set_option maxRecDepth 100000 in
set_option maxHeartbeats 8000000 in
theorem jnew_any (bs : Nat) (A : Nat→Nat×Nat×Nat) (F : ShM) (hF : ShOk F) (root kind file rate burst : Int) (hl5 : (walkM F root).1.length≤5) (R : List SL.HP) (w : World) (H : own w (shL bs A F++R)) :
  Calls Tryz.prog 15 #[.pointer (some ⟨bs,0,none⟩),.agg #[.int .i64 root,.int .i64 kind,.int .i64 file,.int .i64 rate,.int .i64 burst]] w (NewPost bs A F (newM F root kind file rate burst) R w):=by
 by_cases hgood : ¬(walkM F root).2≠0∧¬(walkM F root).1.length = 0∧¬newOk rate burst = false
 ·by_cases hk1 : kind = 1
  ·exact jnew_k1 bs A F hF root kind file rate burst hl5 hgood.1 hgood.2.1 hgood.2.2 hk1 R w H
  ·exact jnew_k23 bs A F hF root kind file rate burst hl5 hgood.1 hgood.2.1 hgood.2.2 hk1 R w H
 have ha:=own_alloc H (.cells #[.int .i64 root,.int .i64 kind,.int .i64 file,.int .i64 rate,.int .i64 burst] 24)
 have hxa:=(Ext.refl w).alloc (.cells #[.int .i64 root,.int .i64 kind,.int .i64 file,.int .i64 rate,.int .i64 burst] 24)
 have hb : own _ (shL bs A F++(_::R)):=own_behind (shL bs A F) ha
 have hwk:=fun R' w' h=>walk_any bs A F hF root R' w' h
 have hfl:=walk_files F root
 have hwc : 0≤(walkM F root).2:=walkGo_code
 have HWK:=Lib.hid hwk
 unfold WalkPost at HWK
 have HGD:=Lib.hid hgood
 clear hgood
 generalize hres : newM F root kind file rate burst = res
 unfold newM at hres
 by_cases hz : (walkM F root).2≠0
 ·rw [if_pos hz] at hres
  subst hres
  have hp : 0 < (walkM F root).2:=by omega
  show Calls _ _ _ _ (fun e w'=>e = .returned (.tuple #[.pointer none,errV (walkM F root).2])∧Ext w w'∧own w' (shL bs A F++R))
  rw [errV_pos hp] at HWK ⊢
  generalize walkM F root = S at *
  obtain ⟨l,wc⟩:=S
  dsimp only at hwc HWK ⊢
  clear hz hwk hfl ha
  go_enter Tryz.func15,Tryz.ntmps15
  go_upto_region 1 with (fail)
  generalize w.heap.size = g at *
  generalize w.alloc (.cells #[.int .i64 root,.int .i64 kind,.int .i64 file,.int .i64 rate,.int .i64 burst] 24) = w1 at *
  have c0:=(own_cells 6 hb rfl).1 0
  go_wp2_with fail
  refine (HWK.out _ _ hb).mono ?_
  rintro e w2 ⟨v,rfl,hx2,h2⟩
  go_wp2_with fail
  go_ret2
  exact ⟨rfl,hxa.trans hx2,own_erase 6 (own_drop h2) rfl⟩
 ·rw [if_neg hz] at hres
  have hz0 : (walkM F root).2 = 0:=by omega
  rw [hz0,show errV 0 = .nilIface from rfl] at HWK
  by_cases h0 : (walkM F root).1.length = 0
  ·rw [if_pos h0] at hres
   subst hres
   show Calls _ _ _ _ (fun e w'=>e = .returned (.tuple #[.pointer none,errV 4])∧Ext w w'∧own w' (shL bs A F++R))
   have hl0 : (walkM F root).1 = []:=List.length_eq_zero_iff.1 h0
   rw [hl0] at HWK
   clear hz hwk hfl ha h0 hl0 hz0 hwc
   go_enter Tryz.func15,Tryz.ntmps15
   go_upto_region 1 with (fail)
   generalize w.heap.size = g at *
   generalize w.alloc (.cells #[.int .i64 root,.int .i64 kind,.int .i64 file,.int .i64 rate,.int .i64 burst] 24) = w1 at *
   have c0:=(own_cells 6 hb rfl).1 0
   go_wp2_with fail
   refine (HWK.out _ _ hb).mono ?_
   rintro e w2 ⟨v,rfl,hx2,h2⟩
   obtain ⟨ao,lb,off,cap,rfl,-,-,-,-⟩:=(ints_row 0 h2 rfl).form
   go_wp2_with fail
   go_ret2
   exact ⟨rfl,hxa.trans hx2,own_erase 6 (own_drop h2) rfl⟩
  ·rw [if_neg h0] at hres
   by_cases ho : newOk rate burst = false
   ·rw [if_pos ho] at hres
    subst hres
    show Calls _ _ _ _ (fun e w'=>e = .returned (.tuple #[.pointer none,errV 1])∧Ext w w'∧own w' (shL bs A F++R))
    have HB:=Lib.hid (fun w'=>bucket_new_no rate burst w' ho)
    rw [show errV 1 = .iface 128 (.int .i64 1) from rfl] at HB ⊢
    generalize (walkM F root).1 = l at *
    have l0 : ((l.length : Int) == 0) = false:=by rw [beq_eq_false_iff_ne]; omega
    clear hz hwk hfl ha h0 hz0 hwc ho
    go_enter Tryz.func15,Tryz.ntmps15
    go_upto_region 1 with (fail)
    generalize w.heap.size = g at *
    generalize w.alloc (.cells #[.int .i64 root,.int .i64 kind,.int .i64 file,.int .i64 rate,.int .i64 burst] 24) = w1 at *
    have c0:=(own_cells 6 hb rfl).1 0
    go_wp2_with fail
    refine (HWK.out _ _ hb).mono ?_
    rintro e w2 ⟨v,rfl,hx2,h2⟩
    obtain ⟨ao,lb,off,cap,rfl,-,-,-,-⟩:=(ints_row 0 h2 rfl).form
    have d3:=(own_cells 7 h2 rfl).1 3
    have d4:=(own_cells 7 h2 rfl).1 4
    clear c0
    go_wp2_with fail
    refine (HB.out _).mono ?_
    rintro e w' ⟨rfl,rfl⟩
    go_wp2_with fail
    go_ret2
    exact ⟨rfl,hxa.trans hx2,own_erase 6 (own_drop h2) rfl⟩
   ·exact absurd ⟨hz,h0,ho⟩ HGD.out
end Go.Proofs.YtbpblokfiajpjabGreatDoor

namespace Go.Proofs.YtbpblokfiajpjabGreatDoor
open Go.RowKit Go.SL Go.Crc
attribute [local go_sem ↓] Go.wp_at_zero Go.wp_at_succ
theorem own_put' {w : World} {l : List SL.HP} (k : Nat) {P Q : SL.HP} (hk : l[k]? = some P) (H : own w (Q::l.eraseIdx k)) : own w (l.set k Q):=by
 refine own_mono (fun h hh=>star_unpick k (P:=Q) ?_ ?_) H
 ·have:=(List.getElem?_eq_some_iff.1 hk).1
  simp [this]
 ·rw [List.eraseIdx_set_eq]; exact hh
theorem sh_put' {b : Nat} {A : Nat→Nat×Nat×Nat} {F : ShM} {R : List SL.HP} {w : World} {k : Nat} (hk : k < 5) {m m' : ImgM} (h : F k = some m)
  (H : own w (imgAt (A k).1 (A k).2.1 (A k).2.2 m'::devAt (A k).2.1 m'.d::(shL b A F++R).eraseIdx (1 + k))) : own w (shL b A (put F k m')++R):=by
 have h1:=own_star_mk [imgAt (A k).1 (A k).2.1 (A k).2.2 m',devAt (A k).2.1 m'.d] H
 have h2:=own_put' (1 + k) (shL_get hk) h1
 rwa [shL_put hk h] at h2
theorem rsh_put' {b : Nat} {A : Nat→Nat×Nat} {F : ShM} {R : List SL.HP} {w : World} {k : Nat} (hk : k < 5) {m m' : ImgM} (h : F k = some m)
  (H : own w (rimgAt (A k).1 (A k).2 m'::rdevAt (A k).2 m'.d::(rshL b A F++R).eraseIdx (1 + k))) : own w (rshL b A (put F k m')++R):=by
 have h1:=own_star_mk [rimgAt (A k).1 (A k).2 m',rdevAt (A k).2 m'.d] H
 have h2:=own_put' (1 + k) (rshL_get hk) h1
 rwa [rshL_put hk h] at h2
theorem erase_sh {b : Nat} {A : Nat→Nat×Nat×Nat} {F : ShM} {R : List SL.HP} {k : Nat} (hk : k < 5) : (shL b A F++R).eraseIdx (1 + k) = (shL b A F).eraseIdx (1 + k)++R:=
 List.eraseIdx_append_of_lt_length (by simp [shL]; omega) R
theorem erase_rsh {b : Nat} {A : Nat→Nat×Nat} {F : ShM} {R : List SL.HP} {k : Nat} (hk : k < 5) : (rshL b A F++R).eraseIdx (1 + k) = (rshL b A F).eraseIdx (1 + k)++R:=
 List.eraseIdx_append_of_lt_length (by simp [rshL]; omega) R
section
variable {b b2 : Nat} {A : Nat→Nat×Nat×Nat} {A2 : Nat→Nat×Nat} {F : ShM} {R : List SL.HP} {w : World} {k : Nat}
theorem both_take (hk : k < 5) {m : ImgM} (h : F k = some m) (H : own w (shL b A F++(rshL b2 A2 F++R))) :
  own w (imgAt (A k).1 (A k).2.1 (A k).2.2 m::devAt (A k).2.1 m.d::rimgAt (A2 k).1 (A2 k).2 m::rdevAt (A2 k).2 m.d::((shL b A F).eraseIdx (1 + k)++((rshL b2 A2 F).eraseIdx (1 + k)++R))):=by
 have h1:=rsh_take hk h (own_swap2 (shL b A F) (rshL b2 A2 F) H)
 rw [erase_rsh hk] at h1
 have h2 : own w (shL b A F++((rimgAt (A2 k).1 (A2 k).2 m::rdevAt (A2 k).2 m.d::(rshL b2 A2 F).eraseIdx (1 + k))++R)):=own_perm (List.perm_append_comm_assoc (rimgAt (A2 k).1 (A2 k).2 m::rdevAt (A2 k).2 m.d::(rshL b2 A2 F).eraseIdx (1 + k)) (shL b A F) R) h1
 have h3:=sh_take hk h h2
 rw [erase_sh hk] at h3
 exact own_perm (((List.perm_append_comm_assoc ((shL b A F).eraseIdx (1 + k)) [rimgAt (A2 k).1 (A2 k).2 m,rdevAt (A2 k).2 m.d] ((rshL b2 A2 F).eraseIdx (1 + k)++R)).cons _).cons _) h3
theorem both_put (hk : k < 5) {m m' : ImgM} (h : F k = some m) (H : own w (imgAt (A k).1 (A k).2.1 (A k).2.2 m'::devAt (A k).2.1 m'.d::rimgAt (A2 k).1 (A2 k).2 m'::rdevAt (A2 k).2 m'.d::((shL b A F).eraseIdx (1 + k)++((rshL b2 A2 F).eraseIdx (1 + k)++R)))) :
  own w (shL b A (put F k m')++(rshL b2 A2 (put F k m')++R)):=by
 have h1 : own w (imgAt (A k).1 (A k).2.1 (A k).2.2 m'::devAt (A k).2.1 m'.d::((shL b A F).eraseIdx (1 + k)++((rimgAt (A2 k).1 (A2 k).2 m'::rdevAt (A2 k).2 m'.d::(rshL b2 A2 F).eraseIdx (1 + k))++R))):=
  own_perm (((List.perm_append_comm_assoc [rimgAt (A2 k).1 (A2 k).2 m',rdevAt (A2 k).2 m'.d] ((shL b A F).eraseIdx (1 + k)) ((rshL b2 A2 F).eraseIdx (1 + k)++R)).cons _).cons _) H
 rw [← erase_sh hk] at h1
 have h2:=sh_put' hk h h1
 have h3 : own w (rimgAt (A2 k).1 (A2 k).2 m'::rdevAt (A2 k).2 m'.d::((rshL b2 A2 F).eraseIdx (1 + k)++(shL b A (put F k m')++R))):=own_perm (List.perm_append_comm_assoc (shL b A (put F k m')) (rimgAt (A2 k).1 (A2 k).2 m'::rdevAt (A2 k).2 m'.d::(rshL b2 A2 F).eraseIdx (1 + k)) R) h2
 rw [← erase_rsh hk] at h3
 exact own_swap2 (rshL b2 A2 (put F k m')) (shL b A (put F k m')) (rsh_put' hk h h3)
end
set_option maxRecDepth 100000 in
set_option maxHeartbeats 8000000 in
theorem asshelf_any (b b2 : Nat) (A : Nat→Nat×Nat×Nat) (A2 : Nat→Nat×Nat) (F : ShM) (hF : ShOk F) (R : List SL.HP) (w : World) (H : own w (shL b A F++(rshL b2 A2 F++R))) :
  Calls Tryz.prog 23 #[.pointer (some ⟨b,0,none⟩),.pointer (some ⟨b2,0,none⟩)] w fun e w'=>e = .returned (.bool true)∧Ext w w'∧own w' (shL b A F++(rshL b2 A2 F++R)):=by
 go_enter Tryz.func23,Tryz.ntmps23
 go_wp2_with fail
 go_loopw [5] (fun iv wr=>∃i : Nat,i≤5∧iv = .int .i64 i∧Ext w wr∧own wr (shL b A F++(rshL b2 A2 F++R))) (fun iv _=>5 - (intOf iv).toNat)
 case atStart=>exact ⟨0,by omega,rfl,Ext.refl _,H⟩
 case round=>
  obtain ⟨i,hi,rfl,hxr,hown⟩:=hrel
  by_cases hlt : i < 5
  ·have w1 : (i : Int) < 5:=by omega
   have w2 : (0 : Int)≤(i : Int):=by omega
   have g1:=sh_cell hown hlt
   have g2:=rsh_cell (own_swap2 (shL b A F) (rshL b2 A2 F) hown) hlt
   cases hFi : F i with
   | none=>
    rw [slotV_none hFi] at g1
    rw [rslotV_none hFi] at g2
    clear hFi
    go_upto_region 4 with (fail)
    go_quiet (fail)
    have hb:=own_drewN nq hown
    have hxb:=hxr.drewN nq
    clear g1 g2 hown hxr
    generalize wr.drewN nq = wb at *
    go_wp2_with fail
    go_roundw
    case rel=>exact ⟨i + 1,by omega,by go_num,hxb,hb⟩
    case measure=>simp [intOf]; omega
   | some m=>
    rw [slotV_some hFi] at g1
    rw [rslotV_some hFi] at g2
    have HFI:=Lib.hid hFi
    have HAS:=Lib.hid (fun (w : World) (H : own w (shL b A F++(rshL b2 A2 F++R)))=>(asimage_any (A i).1 (A i).2.1 (A i).2.2 (A2 i).1 (A2 i).2 m (hF.ok i m hlt hFi) _ w (both_take hlt hFi H)).mono fun e w' h=>show e = .returned (.bool true)∧Ext w w'∧own w' (shL b A F++(rshL b2 A2 F++R)) from ⟨h.1,h.2.1,by have:=both_put hlt hFi h.2.2; rwa [put_self hFi] at this⟩)
    have HG:=Lib.hid (fun (w : World) (H : own w (shL b A F++(rshL b2 A2 F++R)))=>show w.cell? ⟨b,i,none⟩ = some (.pointer (some ⟨(A i).1,0,none⟩))∧w.cell? ⟨b2,i,none⟩ = some (.pointer (some ⟨(A2 i).1,0,none⟩)) from ⟨by rw [sh_cell H hlt,slotV_some HFI.out],by rw [rsh_cell (own_swap2 (shL b A F) (rshL b2 A2 F) H) hlt,rslotV_some HFI.out]⟩)
    clear hFi g1 g2
    go_upto_region 4 with (fail)
    have hz:=own_drew hown
    have hxz:=hxr.drew
    clear hown hxr
    go_region_held3 (fun w'=>w'.cell? ⟨b,i,none⟩ = some (.pointer (some ⟨(A i).1,0,none⟩))∧w'.cell? ⟨b2,i,none⟩ = some (.pointer (some ⟨(A2 i).1,0,none⟩))) (exact HG.out _ hz) ((go_at_call 90; refine (HAS.out _ hz).mono ?_; rintro e w5 ⟨rfl,hx5,hz'⟩; have hxz:=hxz.trans hx5; have hz:=hz'))
    all_goals
     go_wp2_with fail
     go_roundw
     case rel=>exact ⟨i + 1,by omega,by go_num,hxz,hz⟩
     case measure=>simp [intOf]; omega
  ·obtain rfl : i = 5:=by omega
   clear hi hlt
   go_wp2_with fail
   go_ret
   exact ⟨rfl,hxr,hown⟩
end Go.Proofs.YtbpblokfiajpjabGreatDoor

namespace Go.Proofs.YtbpblokfiajpjabGreatDoor
open Go.RowKit Go.SL Go.Crc
attribute [local go_sem ↓] Go.wp_at_zero Go.wp_at_succ
open Classical in
theorem own_box {w : World} {l R : List SL.HP} (o : Obj) (H : own w (l++R)) : own (w.alloc o) (l++(pts w.heap.size o::R)):=own_behind l (own_alloc H o)
end Go.Proofs.YtbpblokfiajpjabGreatDoor

namespace Go.Proofs.YtbpblokfiajpjabGreatDoor
open Go.RowKit Go.SL Go.Crc
attribute [local go_sem ↓] Go.wp_at_zero Go.wp_at_succ
theorem own_tail {w : World} (l : List SL.HP) {R : List SL.HP} (H : own w (l++R)) : own w R:=by
 induction l with
 | nil=>exact H
 | cons a l ih=>exact ih (own_drop H)
end Go.Proofs.YtbpblokfiajpjabGreatDoor

namespace Go.Proofs.YtbpblokfiajpjabGreatDoor
open Go.RowKit Go.SL Go.Crc
attribute [local go_sem ↓] Go.wp_at_zero Go.wp_at_succ
def movL (g : Nat) : List FileM:=[⟨true,1,1,-1,.slice (some ⟨g,0,none⟩) 1 1,[5]⟩,⟨true,1,1,-1,.slice none 0 0,[]⟩]
def movJ (st : Int) : JobM:={ root:=0,kind:=1,file:=1,rate:=0,burst:=4,list:=[0],deep:=0,n:=1,x:=1,at_:=0,st:=st,level:=4 }
def movE : JobM:={ root:=0,kind:=1,file:=1,rate:=0,burst:=4,list:=[0],deep:=0,n:=1,x:=0,at_:=1,st:=3,level:=0 }
set_option maxRecDepth 1000000 in
theorem mov_walk (g : Nat) : walkM (laidM (movL g)) 0 = ([0],0):=by kernel_rfl
set_option maxRecDepth 1000000 in
theorem mov_new (g : Nat) : newM (laidM (movL g)) 0 1 1 0 4 = (some (movJ 2),0):=by kernel_rfl
set_option maxRecDepth 1000000 in
theorem mov_go : pauseM (movJ 2) false = (0,movJ 1):=by kernel_rfl
set_option maxRecDepth 1000000 in
theorem mov_step (g : Nat) : (stepM (laidM (movL g)) (movJ 1)).1 = (true,0)∧(stepM (laidM (movL g)) (movJ 1)).2.2 = movE:=⟨by kernel_rfl,by kernel_rfl⟩
set_option maxRecDepth 1000000 in
theorem mov_read (g : Nat) : readM (stepM (laidM (movL g)) (movJ 1)).2.1 [1] 0 = (clusS 5,0):=by kernel_rfl
theorem mov_at (g gf : Nat) (R : List SL.HP) : ∀w' L,own w' (L++([pts gf (.cells #[.bool true,.int .i64 1,.int .i64 1,.int .i64 (-1),.slice (some ⟨g,0,none⟩) 1 1,.bool true,.int .i64 1,.int .i64 1,.int .i64 (-1),.slice none 0 0] 105 (0,0)),pts g (.cells #[.int .i64 5] 3 (0,0))]++R))→FilesAt w' (.slice (some ⟨gf,0,none⟩) 2 2) (movL g):=by
 intro w' L H
 have c1:=(own_cells (L.length + 0) H (at_behind (l:=L) rfl)).1
 have c2:=(own_cells (L.length + 1) H (at_behind (l:=L) rfl)).1
 refine ⟨⟨some ⟨gf,0,none⟩,gf,0,2,rfl,Nat.le_refl _,by decide,fun _=>rfl,fun i hi=>?_⟩,fun f hf=>?_⟩
 ·match i,hi with
  | 0,_=>exact ⟨c1 0,c1 1,c1 2,c1 3,c1 4⟩
  | 1,_=>exact ⟨c1 5,c1 6,c1 7,c1 8,c1 9⟩
 ·simp only [movL,List.mem_cons,List.not_mem_nil,or_false] at hf
  rcases hf with rfl | rfl
  ·exact ⟨(show i64ok 1 from ⟨by decide,by decide⟩),(show i64ok 1 from ⟨by decide,by decide⟩),(show i64ok (-1) from ⟨by decide,by decide⟩),⟨some ⟨g,0,none⟩,g,0,1,rfl,Nat.le_refl _,by decide,fun _=>rfl,fun i h=>by
    match i,h with
    | 0,_=>exact c2 0⟩,fun x hx=>by
    rw [List.mem_singleton.1 hx]
    exact (show i64ok 5 from ⟨by decide,by decide⟩)⟩
  ·exact ⟨(show i64ok 1 from ⟨by decide,by decide⟩),(show i64ok 1 from ⟨by decide,by decide⟩),(show i64ok (-1) from ⟨by decide,by decide⟩),⟨none,0,0,0,rfl,Nat.le_refl _,by decide,fun h=>absurd h (by simp),fun i h=>absurd h (by simp)⟩,by simp⟩
theorem tab_more {R : List SL.HP} (hT : ∀w' L,own w' (L++R)→TabAt w') (X : List SL.HP) : ∀w' L,own w' (L++(X++R))→TabAt w':=fun w' L h=>hT w' (L++X) (by rwa [List.append_assoc])
theorem stat_f2 (a b c d : Int) (w : World) : (Instr.field 47 (.agg #[.int .i64 a,.int .i64 b,.int .i64 c,.int .i64 d]) 2).run Tryz.prog w = .ok (.int .i64 c) w:=by kernel_rfl
theorem mov_stat : statusV movE = .agg #[.int .i64 1,.int .i64 1,.int .i64 3,.int .i64 0]:=by kernel_rfl
set_option maxRecDepth 100000 in
set_option maxHeartbeats 8000000 in
theorem moves_any (R : List SL.HP) (hT : ∀w' L,own w' (L++R)→TabAt w') (w : World) (H : own w R) : Calls Tryz.prog 11 #[] w fun e w'=>e = .returned (.bool true)∧Ext w w'∧own w' R:=by
 have h1:=own_alloc H (.cells #[.int .i64 5] 3)
 have hx1:=(Ext.refl w).alloc (.cells #[.int .i64 5] 3)
 have h2:=own_alloc h1 (.cells #[.bool true,.int .i64 1,.int .i64 1,.int .i64 (-1),.slice (some ⟨w.heap.size,0,none⟩) 1 1,.bool true,.int .i64 1,.int .i64 1,.int .i64 (-1),.slice none 0 0] 105)
 have hx2:=hx1.alloc (.cells #[.bool true,.int .i64 1,.int .i64 1,.int .i64 (-1),.slice (some ⟨w.heap.size,0,none⟩) 1 1,.bool true,.int .i64 1,.int .i64 1,.int .i64 (-1),.slice none 0 0] 105)
 have hs : (w.alloc (.cells #[.int .i64 5] 3)).heap.size = w.heap.size + 1:=by simp
 rw [hs] at h2
 have HT:=Lib.hid hT
 clear hT
 go_enter Tryz.func11,Tryz.ntmps11
 go_wp2_with fail
 generalize w.heap.size = g at *
 generalize g + 1 = gf at *
 generalize (w.alloc (.cells #[.int .i64 5] 3)).alloc (.cells #[.bool true,.int .i64 1,.int .i64 1,.int .i64 (-1),.slice (some ⟨g,0,none⟩) 1 1,.bool true,.int .i64 1,.int .i64 1,.int .i64 (-1),.slice none 0 0] 105) = w2 at *
 clear hs hx1 h1 H
 have hlight : ∀f∈movL g,f.is.length≤40:=fun f hf=>by
  simp only [movL,List.mem_cons,List.not_mem_nil,or_false] at hf
  rcases hf with rfl | rfl <;> simp
 have hW:=laidTo_W hlight (movL g).length
 have hF : ShOk (laidM (movL g)):=hW.sh (by omega)
 refine (laid_any _ (movL g) (by simp [movL]) hlight _ w2 (mov_at g gf R) h2).mono ?_
 rintro e w3 ⟨bs,br,A,A2,rfl,hx3,h3⟩
 have hl5 : (walkM (laidM (movL g)) 0).1.length≤5:=by rw [mov_walk]; simp
 have hnw:=jnew_any bs A (laidM (movL g)) hF 0 1 1 0 4 hl5 _ w3 h3
 have hgd:=newM_good hF hl5 (root:=0) (kind:=1) (file:=1) (rate:=0) (burst:=4) (j:=movJ 2) (by rw [mov_new])
 rw [mov_new] at hnw
 have hj0:=hgd.1
 have hj1 : (movJ 1).Ok:=by have:=pauseM_ok hj0 false; rw [mov_go] at this; exact this
 have hS1 : JobS (laidM (movL g)) (movJ 1):=⟨fun x hx=>hgd.2.list x hx,fun h=>hgd.2.file h⟩
 have hst:=stepM_step hF hj1 hS1
 have HP:=Lib.hid (fun bj bt bb v L w H=>jpause_any bs bj bt bb v (movJ 2) hj0 false L w H)
 rw [mov_go,errV_0] at HP
 have HSTP:=Lib.hid (fun bj bt bb v R w hv hT H=>jstep_any bs A (laidM (movL g)) hF bj bt bb v (movJ 1) hj1 hS1 R w hv hT H)
 rw [(mov_step g).1,(mov_step g).2,errV_0] at HSTP
 have hjE : movE.Ok:=by have:=stepM_ok (F:=laidM (movL g)) hj1; rw [(mov_step g).2] at this; exact this
 have hf1 : isFile (stepM (laidM (movL g)) (movJ 1)).2.1 1:=hst.file (hS1.file (by decide))
 have HRD:=Lib.hid (fun (v : Value) (R : List SL.HP) (w : World) (hv : ∀w' L,own w' (L++R)→IntsAt w' v [1]) (H : own w (shL bs A (stepM (laidM (movL g)) (movJ 1)).2.1++R))=>shread_any bs A _ ((hW.step hst).sh (by omega)) v [1] (fun x hx=>by rw [List.mem_singleton.1 hx]; exact hf1) (by simp) 0 R w hv H)
 rw [mov_read,errV_0] at HRD
 have HSTA:=Lib.hid (fun bj bt bb v L w H=>jstatus_any bs bj bt bb v movE hjE L w H)
 rw [mov_stat] at HSTA
 dsimp only at HSTP HP HRD
 have HNW:=Lib.hid hnw
 have hz:=clusS_size 5
 have HCL:=Lib.hid (fun (R : List SL.HP) (w : World) (H : own w R)=>cluster_any 5 R w H)
 clear hnw hgd hj0 hj1 hS1 hst hjE hf1 hl5 hF hW hlight
 generalize stepM (laidM (movL g)) (movJ 1) = SM at *
 generalize laidM (movL g) = F at *
 generalize clusS 5 = cs at *
 go_wp2_with fail
 refine HNW.out.mono ?_
 rintro e w4 ⟨bj,bt,bb,v,rfl,hx4,h4⟩
 have hrow : ∀w' L,own w' (L++([row 3 1 v 1 (intVals [0])]++(rshL br A2 F++([pts gf (.cells #[.bool true,.int .i64 1,.int .i64 1,.int .i64 (-1),.slice (some ⟨g,0,none⟩) 1 1,.bool true,.int .i64 1,.int .i64 1,.int .i64 (-1),.slice none 0 0] 105 (0,0)),pts g (.cells #[.int .i64 5] 3 (0,0))]++R))))→IntsAt w' v [0]:=fun w' L h=>ints_row (l:=[0]) (L.length + 0) h (at_behind (l:=L) rfl)
 have HROW:=Lib.hid hrow
 clear hrow
 go_wp2_with fail
 refine (HP.out bj bt bb v _ w4 (own_swap2 (shL bs A F) (jobL bs bj bt bb v (movJ 2)) h4)).mono ?_
 rintro e w5 ⟨rfl,hx5,h5⟩
 go_wp2_with fail
 refine (HSTP.out bj bt bb v ([row 3 1 v 1 (intVals [0])]++(rshL br A2 F++([pts gf (.cells #[.bool true,.int .i64 1,.int .i64 1,.int .i64 (-1),.slice (some ⟨g,0,none⟩) 1 1,.bool true,.int .i64 1,.int .i64 1,.int .i64 (-1),.slice none 0 0] 105 (0,0)),pts g (.cells #[.int .i64 5] 3 (0,0))]++R))) w5 HROW.out (tab_more (tab_more (tab_more HT.out _) _) _) (own_swap2 (jobL bs bj bt bb v (movJ 1)) (shL bs A F) h5)).mono ?_
 rintro e w6 ⟨rfl,hx6,h6⟩
 have h7:=own_behind (shL bs A SM.2.1) (own_alloc h6 (.cells #[.int .i64 1] 3))
 have hx7:=((((hx2.trans hx3).trans hx4).trans hx5).trans hx6).alloc (.cells #[.int .i64 1] 3)
 clear h2 h3 h4 h5 h6 hx2 hx3 hx4 hx5 hx6
 go_wp2_with fail
 generalize w6.heap.size = gl at *
 generalize w6.alloc (.cells #[.int .i64 1] 3) = w7 at *
 have hone : ∀w' L,own w' (L++([pts gl (.cells #[.int .i64 1] 3 (0,0))]++(jobL bs bj bt bb v movE++([row 3 1 v 1 (intVals [0])]++(rshL br A2 F++([pts gf (.cells #[.bool true,.int .i64 1,.int .i64 1,.int .i64 (-1),.slice (some ⟨g,0,none⟩) 1 1,.bool true,.int .i64 1,.int .i64 1,.int .i64 (-1),.slice none 0 0] 105 (0,0)),pts g (.cells #[.int .i64 5] 3 (0,0))]++R))))))→IntsAt w' (.slice (some ⟨gl,0,none⟩) 1 1) [1]:=fun w' L h=>ints_own (L.length + 0) h (at_behind (l:=L) rfl) rfl (fun i hi=>by
  match i,hi with
  | 0,_=>rfl) (by decide)
 refine (HRD.out _ _ w7 hone h7).mono ?_
 rintro e w8 ⟨rfl,hx8,h8⟩
 go_wp2_with fail
 refine (same_any 0 0 w8 (by omega)).mono ?_
 rintro e w' ⟨rfl,rfl⟩
 go_wp2_with fail
 refine (same_any 0 0 w8 (by omega)).mono ?_
 rintro e w' ⟨rfl,rfl⟩
 go_wp2_with fail
 refine (HCL.out _ w8 h8).mono ?_
 rintro e w9 ⟨rfl,hx9,h9⟩
 have h10:=own_tail (shL bs A SM.2.1++[pts gl (.cells #[.int .i64 1] 3 (0,0))]) h9
 have hst:=stat_f2 1 1 3 0
 go_wp2_with fail
 refine (HSTA.out bj bt bb v _ w9 h10).mono ?_
 rintro e w10 ⟨rfl,hx10,h11⟩
 go_wp2_with fail
 go_ret
 refine ⟨by simp,((hx7.trans hx8).trans hx9).trans hx10,?_⟩
 exact own_tail (jobL bs bj bt bb v movE++[row 3 1 v 1 (intVals [0])]++rshL br A2 F++[pts gf (.cells #[.bool true,.int .i64 1,.int .i64 1,.int .i64 (-1),.slice (some ⟨g,0,none⟩) 1 1,.bool true,.int .i64 1,.int .i64 1,.int .i64 (-1),.slice none 0 0] 105 (0,0)),pts g (.cells #[.int .i64 5] 3 (0,0))]) h11
end Go.Proofs.YtbpblokfiajpjabGreatDoor

namespace Go.Proofs.YtbpblokfiajpjabGreatDoor
open Go.RowKit Go.SL Go.Crc
attribute [local go_sem ↓] Go.wp_at_zero Go.wp_at_succ
set_option maxRecDepth 100000 in
set_option maxHeartbeats 16000000 in
theorem rjstep_any (bs : Nat) (A : Nat→Nat×Nat) (F : ShM) (hF : ShOk F) (br : Nat) (v : Value) (j : JobM) (hj : j.Ok) (hS : JobS F j) (R : List SL.HP) (w : World)
  (hv : ∀w' L,own w' (L++R)→IntsAt w' v j.list) (H : own w (rshL bs A F++(rjobP bs br v j::R))) :
  Calls Tryz.prog 79 #[.pointer (some ⟨br,0,none⟩)] w fun e w'=>e = .returned (.tuple #[.bool (stepM F j).1.1,.int .i64 (stepM F j).1.2])∧Ext w w'∧own w' (rshL bs A (stepM F j).2.1++(rjobP bs br v (stepM F j).2.2::R)):=by
 have c7 : w.cell? ⟨br,74,none⟩ = some (.int .i64 j.st):=rjob_cell 6 H rfl 74 (by decide)
 have hat : ((j.at_ : Nat) - 1 : Int) + 1 = (j.at_ : Nat):=by omega
 have hat2 : (j.at_ : Int)≤200:=by have:=hj.at_; omega
 unfold stepM
 by_cases hst : j.st≠1∧j.st≠3
 ·rw [if_pos hst]
  have d1 : (j.st != 1) = true:=bne_iff_ne.2 hst.1
  have d3 : (j.st != 3) = true:=bne_iff_ne.2 hst.2
  clear hst
  go_enter Tryz.func79,Tryz.ntmps79
  go_wp2_with fail
  go_ret2
  exact ⟨rfl,Ext.refl _,H⟩
 ·rw [if_neg hst]
  have hst' : j.st = 1∨j.st = 3:=by omega
  have hNX : ∀w',own w' (rshL bs A F++(rjobP bs br v j::R))→Calls Tryz.prog 179 #[.pointer (some ⟨br,8,none⟩),.int .i64 (j.at_ : Nat)] w' fun e w''=>e = .returned (.tuple #[.int .i64 ((jnext j).1 : Nat),.bool (jnext j).2])∧w' = w'':=fun w' h=>
   rset_next br 8 j.n j.x hj.n hj.x (j.at_ : Nat) w' (rjob_setat 6 h rfl)
  have HNX:=Lib.hid hNX
  have hle : (jnext j).1≤127:=next_le hj.n hj.x64 _
  have HOW:=Lib.hid H
  have c6 : w.cell? ⟨br,73,none⟩ = some (.int .i64 ((j.at_ : Nat) - 1 : Int)):=rjob_cell 6 H rfl 73 (by decide)
  by_cases hsm : (jnext j).2 = false
  ·rw [if_pos (.inl hsm)]
   rw [hsm] at HNX
   generalize (jnext j).1 = cn at *
   rcases hst' with h1 | h1
   all_goals
    rw [h1] at c7
    clear hst hNX hsm
    go_enter Tryz.func79,Tryz.ntmps79
    go_upto_region 3 with (fail)
    go_quiet ((go_at_call 179; exact Calls.quiet_of_same ((HNX.out _ (by first | exact HOW.out | exact own_drew HOW.out | exact own_drewN _ HOW.out)).mono fun e w' h=>⟨h.1,h.2.symm⟩)))
    have h2:=own_drewN nq H
    have hx2:=(Ext.refl w).drewN nq
    clear H HNX c6 c7
    generalize w.drewN nq = w2 at *
    go_wp2_with fail
    go_ret2
    exact ⟨rfl,hx2,h2⟩
  ·have hsm' : (jnext j).2 = true:=by simpa using hsm
   rw [hsm'] at HNX
   by_cases h4 : j.level < 4
   ·rw [if_pos (.inr h4)]
    have hTK : ∀w',own w' (rshL bs A F++(rjobP bs br v j::R))→Calls Tryz.prog 180 #[.pointer (some ⟨br,75,none⟩),.int .i64 4] w' fun e w''=>e = .returned (.bool false)∧Ext w' w''∧own w'' (rshL bs A F++(rjobP bs br v j::R)):=fun w' h=>by
     have:=rbk_take (n:=4) (l:=j.level) (T:=149) (rjob_bkat bs v j) (L:=rshL bs A F++(rjobP bs br v j::R)) 6 w' (by have:=hj.level; have:=hj.burst; omega) h (by rw [← rjob_bk]; rfl)
     rw [show takeL j.level 4 = j.level from if_neg (by omega),show decide ((0 : Int)≤4∧4≤j.level) = false from decide_eq_false (by omega),← rjob_bk] at this
     exact this
    have HTK:=Lib.hid hTK
    generalize (jnext j).1 = cn at *
    rcases hst' with h1 | h1
    all_goals
     rw [h1] at c7
     clear hst hNX hsm hsm' hTK h4
     go_enter Tryz.func79,Tryz.ntmps79
     go_upto_region 3 with (fail)
     go_quiet ((go_at_call 179; exact Calls.quiet_of_same ((HNX.out _ (by first | exact HOW.out | exact own_drew HOW.out | exact own_drewN _ HOW.out)).mono fun e w' h=>⟨h.1,h.2.symm⟩)))
     have h2:=own_drewN nq H
     have hx2:=(Ext.refl w).drewN nq
     clear H HNX c6 c7
     generalize w.drewN nq = w2 at *
     go_wp2_with fail
     refine (HTK.out _ h2).mono ?_
     rintro e w3 ⟨rfl,hx3,h3⟩
     go_wp2_with fail
     go_ret2
     exact ⟨rfl,hx2.trans hx3,h3⟩
   ·rw [if_neg (by rintro (h | h); exact hsm h; exact h4 h)]
    have hTK : ∀w',own w' (rshL bs A F++(rjobP bs br v j::R))→Calls Tryz.prog 180 #[.pointer (some ⟨br,75,none⟩),.int .i64 4] w' fun e w''=>e = .returned (.bool true)∧Ext w' w''∧own w'' (rshL bs A F++(rjobP bs br v { j with level:=j.level - 4 }::R)):=fun w' h=>by
     have:=rbk_take (n:=4) (l:=j.level) (T:=149) (rjob_bkat bs v j) (L:=rshL bs A F++(rjobP bs br v j::R)) 6 w' (by have:=hj.level; have:=hj.burst; omega) h (by rw [← rjob_bk]; rfl)
     rw [show takeL j.level 4 = j.level - 4 from if_pos (by omega),show decide ((0 : Int)≤4∧4≤j.level) = true from decide_eq_true (by omega),← rjob_bk] at this
     exact this
    have HTK:=Lib.hid hTK
    have hj1 : ({ j with level:=j.level - 4 } : JobM).Ok:={ hj with level:=by have:=hj.level; dsimp only; omega }
    have hwa:=fun w' h=>rjwants_any bs A F hF br v { j with level:=j.level - 4 } hj1 hS.list ((jnext j).1 : Nat) R w' hv h
    rw [show wantsM F { j with level:=j.level - 4 } ((jnext j).1 : Nat) = wantsM F j ((jnext j).1 : Nat) from rfl] at hwa
    have HWA:=Lib.hid hwa
    have hvw:=ints_more hv [rjobP bs br v { j with level:=j.level - 4 }]
    have HRD:=Lib.hid (fun w' h=>rshread_any bs A F hF v j.list hS.list hj.len ((jnext j).1 : Nat) ([rjobP bs br v { j with level:=j.level - 4 }]++R) w' hvw h)
    have hto:=toM_file hj hS
    obtain ⟨k,m,hxk,hk,hFk⟩:=isFile_nat hto
    have hsz:=readM_size hF hS.list ((jnext j).1 : Nat)
    have HMV:=Lib.hid (fun w' h=>rmove_any bs A F hF k m hk hFk ((jnext j).1 : Nat) (readM F j.list ((jnext j).1 : Nat)).1 (by omega) (rjobP bs br v { j with level:=j.level - 4 }::R) w' h)
    have e0 : jmoveM F j ((jnext j).1 : Nat) = if wantsM F j ((jnext j).1 : Nat) = false then (0,F) else if (readM F j.list ((jnext j).1 : Nat)).2≠0 then ((readM F j.list ((jnext j).1 : Nat)).2,F) else moveM F k ((jnext j).1 : Nat) (readM F j.list ((jnext j).1 : Nat)).1:=by
     unfold jmoveM; rw [hxk,Int.toNat_natCast]
    have hcode:=readM_code F j.list ((jnext j).1 : Nat)
    have hmc:=moveM_code F k ((jnext j).1 : Nat) (readM F j.list ((jnext j).1 : Nat)).1
    unfold jdid
    rw [e0]
    generalize readM F j.list ((jnext j).1 : Nat) = rdd at *
    obtain ⟨t,rc⟩:=rdd
    dsimp only at *
    generalize moveM F k ((jnext j).1 : Nat) t = mv at *
    obtain ⟨mc,F'⟩:=mv
    dsimp only at *
    generalize wantsM F j ((jnext j).1 : Nat) = wt at *
    generalize (jnext j).1 = cn at *
    have hvv:=hvw
    have HPT:=Lib.hid (fun (L : List SL.HP) w' h hk=>rjob_put (L:=L) (bs:=bs) (br:=br) (v:=v) (j:={ j with level:=j.level - 4 }) hj.n (cn : Nat) false 6 w' h hk)
    have HTN:=Lib.hid (fun (FF : ShM) w' h=>rjturn_any bs br v { j with level:=j.level - 4,x:=(bputM j.n j.x (cn : Nat) false).2,at_:=cn + 1 } (rshL bs A FF++R) w' h)
    dsimp only at HPT
    generalize (bputM j.n j.x (cn : Nat) false).1 = pb at *
    generalize (bputM j.n j.x (cn : Nat) false).2 = px at *
    obtain ⟨ao,lb,off,cap,rfl,hlc,hcap,hao,-⟩:=(hv w (rshL bs A F++[rjobP bs br v j]) (by simpa using H)).form
    obtain rfl:=hao (by have:=hj.pos; omega)
    have HV:=Lib.hid hvv
    have hpos : 0 < j.list.length:=by have:=hj.pos; omega
    have l0 : (0 : Int) < (j.list.length : Int):=by omega
    unfold toM at hxk
    have w9 : (cn : Int)≤127:=by omega
    clear hv hvv hvw hwa hTK e0 hto hFk hsz hj1 hao hlc hNX hst hsm hsm' h4
    cases wt
    ·rw [if_pos (show false = false from rfl)]
     dsimp only
     rw [if_neg (show ¬((0 : Int)≠0) by decide)]
     rcases hst' with h1 | h1
     all_goals
      rw [h1] at c7
      go_enter Tryz.func79,Tryz.ntmps79
      go_upto_region 3 with (fail)
      go_quiet ((go_at_call 179; exact Calls.quiet_of_same ((HNX.out _ (by first | exact HOW.out | exact own_drew HOW.out | exact own_drewN _ HOW.out)).mono fun e w' h=>⟨h.1,h.2.symm⟩)))
      have h2:=own_drewN nq H
      have hx2:=(Ext.refl w).drewN nq
      clear H HNX c6 c7
      generalize w.drewN nq = w2 at *
      go_wp2_with fail
      refine (HTK.out _ h2).mono ?_
      rintro e w3 ⟨rfl,hx3,h3⟩
      go_wp2_with fail
      refine (HWA.out _ h3).mono ?_
      rintro e w4 ⟨rfl,n4,rfl⟩
      have h4:=own_drewN n4 h3
      have hx4:=((hx2.trans hx3).drewN n4)
      clear h2 h3 hx2 hx3
      generalize w3.drewN n4 = w5 at *
      have hx6:=hx4
      have h6:=h4
      go_wp2_with fail
      refine (HPT.out _ _ h6 rfl).mono ?_
      rintro e w8 ⟨rfl,hx8,h8'⟩
      have h8 : own w8 (rshL bs A F++(rjobP bs br (.slice (some ⟨lb,off,none⟩) j.list.length cap) { j with level:=j.level - 4,x:=px }::R)):=h8'
      have f73:=rjob_free 6 h8 rfl 73
      have c73 : w8.cell? ⟨br,73,none⟩ = some (.int .i64 ((j.at_ : Nat) - 1 : Int)):=rjob_cell 6 h8 rfl 73 (by decide)
      have h9 : own (w8.setCell ⟨br,73,none⟩ (.int .i64 (cn : Int))) (rshL bs A F++(rjobP bs br (.slice (some ⟨lb,off,none⟩) j.list.length cap) { j with level:=j.level - 4,x:=px,at_:=cn + 1 }::R)):=by
       have:=rjob_set (i:=73) (a:=.int .i64 (((cn + 1 : Nat) : Int) - 1)) 6 h8 rfl (rjob_last bs (.slice (some ⟨lb,off,none⟩) j.list.length cap) { j with level:=j.level - 4,x:=px } (cn + 1))
       rw [show (((cn + 1 : Nat) : Int) - 1) = (cn : Int) by omega] at this
       exact this
      go_wp2_with fail
      refine (HTN.out _ _ (own_swap2 (rshL bs A F) [rjobP bs br (.slice (some ⟨lb,off,none⟩) j.list.length cap) _] h9)).mono ?_
      rintro e w10 ⟨rfl,hx10,h10⟩
      go_wp2_with fail
      go_ret2
      exact ⟨rfl,((hx6.trans hx8).setCell _ _).trans hx10,own_swap2 [rjobP bs br (.slice (some ⟨lb,off,none⟩) j.list.length cap) _] (rshL bs A F) h10⟩
    ·rw [if_neg (show ¬(true = false) by decide)]
     by_cases hrc : rc = 0
     ·subst hrc
      rw [if_neg (show ¬((0 : Int)≠0) by decide)]
      dsimp only
      by_cases hm : mc = 0
      ·subst hm
       rw [if_neg (show ¬((0 : Int)≠0) by decide)]
       by_cases hkd : j.kind = 2
       ·rw [if_pos hkd] at hxk
        rcases hst' with h1 | h1
        all_goals
         rw [h1] at c7
         go_enter Tryz.func79,Tryz.ntmps79
         go_upto_region 3 with (fail)
         go_quiet ((go_at_call 179; exact Calls.quiet_of_same ((HNX.out _ (by first | exact HOW.out | exact own_drew HOW.out | exact own_drewN _ HOW.out)).mono fun e w' h=>⟨h.1,h.2.symm⟩)))
         have h2:=own_drewN nq H
         have hx2:=(Ext.refl w).drewN nq
         clear H HNX c6 c7
         generalize w.drewN nq = w2 at *
         go_wp2_with fail
         refine (HTK.out _ h2).mono ?_
         rintro e w3 ⟨rfl,hx3,h3⟩
         go_wp2_with fail
         refine (HWA.out _ h3).mono ?_
         rintro e w4 ⟨rfl,n4,rfl⟩
         have h4:=own_drewN n4 h3
         have hx4:=((hx2.trans hx3).drewN n4)
         clear h2 h3 hx2 hx3
         generalize w3.drewN n4 = w5 at *
         go_upto_region 11 with (fail)
         have hd:=own_drew h4
         have hxd:=hx4.drew
         clear h4 hx4
         go_region_held3 (fun w'=>w'.cell? ⟨br,0,none⟩ = some (.pointer (some ⟨bs,0,none⟩))∧w'.cell? ⟨br,6,none⟩ = some (.slice (some ⟨lb,off,none⟩) j.list.length cap)) (first | exact ⟨rjob_cell 6 hd rfl 0 (by decide),rjob_cell 6 hd rfl 6 (by decide)⟩ | exact ⟨rjob_cell 6 hr rfl 0 (by decide),rjob_cell 6 hr rfl 6 (by decide)⟩) ((go_at_call 181; refine (HRD.out _ hd).mono ?_; rintro e wr ⟨rfl,hxr,hr⟩))
         have hx5:=hxd.trans hxr
         clear hd hxd hxr
         have c0 : wr.cell? ⟨br,0,none⟩ = some (.pointer (some ⟨bs,0,none⟩)):=rjob_cell 6 hr rfl 0 (by decide)
         have c2 : wr.cell? ⟨br,2,none⟩ = some (.int .i64 j.kind):=rjob_cell 6 hr rfl 2 (by decide)
         have c3 : wr.cell? ⟨br,3,none⟩ = some (.int .i64 j.file):=rjob_cell 6 hr rfl 3 (by decide)
         have c6 : wr.cell? ⟨br,6,none⟩ = some (.slice (some ⟨lb,off,none⟩) j.list.length cap):=rjob_cell 6 hr rfl 6 (by decide)
         have c74 : wr.cell? ⟨br,74,none⟩ = some (.int .i64 j.st):=rjob_cell 6 hr rfl 74 (by decide)
         have f74:=rjob_free 6 hr rfl 74
         have c9 : wr.cell? ⟨lb,off,none⟩ = some (.int .i64 (j.list.getD 0 0)):=ints_cell (HV.out _ _ hr) hpos
         rw [hkd] at c2
         rw [hxk] at c9
         clear hkd h1
         go_wp2_with fail
         refine (HMV.out _ hr).mono ?_
         rintro e w6 ⟨rfl,hx6',h6⟩
         have hx6:=hx5.trans hx6'
         go_wp2_with fail
         refine (HPT.out _ _ h6 rfl).mono ?_
         rintro e w8 ⟨rfl,hx8,h8'⟩
         have h8 : own w8 (rshL bs A F'++(rjobP bs br (.slice (some ⟨lb,off,none⟩) j.list.length cap) { j with level:=j.level - 4,x:=px }::R)):=h8'
         have f73:=rjob_free 6 h8 rfl 73
         have c73 : w8.cell? ⟨br,73,none⟩ = some (.int .i64 ((j.at_ : Nat) - 1 : Int)):=rjob_cell 6 h8 rfl 73 (by decide)
         have h9 : own (w8.setCell ⟨br,73,none⟩ (.int .i64 (cn : Int))) (rshL bs A F'++(rjobP bs br (.slice (some ⟨lb,off,none⟩) j.list.length cap) { j with level:=j.level - 4,x:=px,at_:=cn + 1 }::R)):=by
          have:=rjob_set (i:=73) (a:=.int .i64 (((cn + 1 : Nat) : Int) - 1)) 6 h8 rfl (rjob_last bs (.slice (some ⟨lb,off,none⟩) j.list.length cap) { j with level:=j.level - 4,x:=px } (cn + 1))
          rw [show (((cn + 1 : Nat) : Int) - 1) = (cn : Int) by omega] at this
          exact this
         go_wp2_with fail
         refine (HTN.out _ _ (own_swap2 (rshL bs A F') [rjobP bs br (.slice (some ⟨lb,off,none⟩) j.list.length cap) _] h9)).mono ?_
         rintro e w10 ⟨rfl,hx10,h10⟩
         go_wp2_with fail
         go_ret2
         exact ⟨rfl,((hx6.trans hx8).setCell _ _).trans hx10,own_swap2 [rjobP bs br (.slice (some ⟨lb,off,none⟩) j.list.length cap) _] (rshL bs A F') h10⟩
       ·rw [if_neg hkd] at hxk
        have d2 : (j.kind == 2) = false:=by rw [beq_eq_false_iff_ne]; exact hkd
        rcases hst' with h1 | h1
        all_goals
         rw [h1] at c7
         go_enter Tryz.func79,Tryz.ntmps79
         go_upto_region 3 with (fail)
         go_quiet ((go_at_call 179; exact Calls.quiet_of_same ((HNX.out _ (by first | exact HOW.out | exact own_drew HOW.out | exact own_drewN _ HOW.out)).mono fun e w' h=>⟨h.1,h.2.symm⟩)))
         have h2:=own_drewN nq H
         have hx2:=(Ext.refl w).drewN nq
         clear H HNX c6 c7
         generalize w.drewN nq = w2 at *
         go_wp2_with fail
         refine (HTK.out _ h2).mono ?_
         rintro e w3 ⟨rfl,hx3,h3⟩
         go_wp2_with fail
         refine (HWA.out _ h3).mono ?_
         rintro e w4 ⟨rfl,n4,rfl⟩
         have h4:=own_drewN n4 h3
         have hx4:=((hx2.trans hx3).drewN n4)
         clear h2 h3 hx2 hx3
         generalize w3.drewN n4 = w5 at *
         go_upto_region 11 with (fail)
         have hd:=own_drew h4
         have hxd:=hx4.drew
         clear h4 hx4
         go_region_held3 (fun w'=>w'.cell? ⟨br,0,none⟩ = some (.pointer (some ⟨bs,0,none⟩))∧w'.cell? ⟨br,6,none⟩ = some (.slice (some ⟨lb,off,none⟩) j.list.length cap)) (first | exact ⟨rjob_cell 6 hd rfl 0 (by decide),rjob_cell 6 hd rfl 6 (by decide)⟩ | exact ⟨rjob_cell 6 hr rfl 0 (by decide),rjob_cell 6 hr rfl 6 (by decide)⟩) ((go_at_call 181; refine (HRD.out _ hd).mono ?_; rintro e wr ⟨rfl,hxr,hr⟩))
         have hx5:=hxd.trans hxr
         clear hd hxd hxr
         have c0 : wr.cell? ⟨br,0,none⟩ = some (.pointer (some ⟨bs,0,none⟩)):=rjob_cell 6 hr rfl 0 (by decide)
         have c2 : wr.cell? ⟨br,2,none⟩ = some (.int .i64 j.kind):=rjob_cell 6 hr rfl 2 (by decide)
         have c3 : wr.cell? ⟨br,3,none⟩ = some (.int .i64 j.file):=rjob_cell 6 hr rfl 3 (by decide)
         have c6 : wr.cell? ⟨br,6,none⟩ = some (.slice (some ⟨lb,off,none⟩) j.list.length cap):=rjob_cell 6 hr rfl 6 (by decide)
         have c74 : wr.cell? ⟨br,74,none⟩ = some (.int .i64 j.st):=rjob_cell 6 hr rfl 74 (by decide)
         have f74:=rjob_free 6 hr rfl 74
         have c9 : wr.cell? ⟨lb,off,none⟩ = some (.int .i64 (j.list.getD 0 0)):=ints_cell (HV.out _ _ hr) hpos
         rw [hxk] at c3
         clear hkd h1
         go_wp2_with fail
         refine (HMV.out _ hr).mono ?_
         rintro e w6 ⟨rfl,hx6',h6⟩
         have hx6:=hx5.trans hx6'
         go_wp2_with fail
         refine (HPT.out _ _ h6 rfl).mono ?_
         rintro e w8 ⟨rfl,hx8,h8'⟩
         have h8 : own w8 (rshL bs A F'++(rjobP bs br (.slice (some ⟨lb,off,none⟩) j.list.length cap) { j with level:=j.level - 4,x:=px }::R)):=h8'
         have f73:=rjob_free 6 h8 rfl 73
         have c73 : w8.cell? ⟨br,73,none⟩ = some (.int .i64 ((j.at_ : Nat) - 1 : Int)):=rjob_cell 6 h8 rfl 73 (by decide)
         have h9 : own (w8.setCell ⟨br,73,none⟩ (.int .i64 (cn : Int))) (rshL bs A F'++(rjobP bs br (.slice (some ⟨lb,off,none⟩) j.list.length cap) { j with level:=j.level - 4,x:=px,at_:=cn + 1 }::R)):=by
          have:=rjob_set (i:=73) (a:=.int .i64 (((cn + 1 : Nat) : Int) - 1)) 6 h8 rfl (rjob_last bs (.slice (some ⟨lb,off,none⟩) j.list.length cap) { j with level:=j.level - 4,x:=px } (cn + 1))
          rw [show (((cn + 1 : Nat) : Int) - 1) = (cn : Int) by omega] at this
          exact this
         go_wp2_with fail
         refine (HTN.out _ _ (own_swap2 (rshL bs A F') [rjobP bs br (.slice (some ⟨lb,off,none⟩) j.list.length cap) _] h9)).mono ?_
         rintro e w10 ⟨rfl,hx10,h10⟩
         go_wp2_with fail
         go_ret2
         exact ⟨rfl,((hx6.trans hx8).setCell _ _).trans hx10,own_swap2 [rjobP bs br (.slice (some ⟨lb,off,none⟩) j.list.length cap) _] (rshL bs A F') h10⟩
      ·rw [if_pos (show mc≠0 from hm)]
       have hp : 0 < mc:=by omega
       by_cases hkd : j.kind = 2
       ·rw [if_pos hkd] at hxk
        rcases hst' with h1 | h1
        all_goals
         rw [h1] at c7
         go_enter Tryz.func79,Tryz.ntmps79
         go_upto_region 3 with (fail)
         go_quiet ((go_at_call 179; exact Calls.quiet_of_same ((HNX.out _ (by first | exact HOW.out | exact own_drew HOW.out | exact own_drewN _ HOW.out)).mono fun e w' h=>⟨h.1,h.2.symm⟩)))
         have h2:=own_drewN nq H
         have hx2:=(Ext.refl w).drewN nq
         clear H HNX c6 c7
         generalize w.drewN nq = w2 at *
         go_wp2_with fail
         refine (HTK.out _ h2).mono ?_
         rintro e w3 ⟨rfl,hx3,h3⟩
         go_wp2_with fail
         refine (HWA.out _ h3).mono ?_
         rintro e w4 ⟨rfl,n4,rfl⟩
         have h4:=own_drewN n4 h3
         have hx4:=((hx2.trans hx3).drewN n4)
         clear h2 h3 hx2 hx3
         generalize w3.drewN n4 = w5 at *
         go_upto_region 11 with (fail)
         have hd:=own_drew h4
         have hxd:=hx4.drew
         clear h4 hx4
         go_region_held3 (fun w'=>w'.cell? ⟨br,0,none⟩ = some (.pointer (some ⟨bs,0,none⟩))∧w'.cell? ⟨br,6,none⟩ = some (.slice (some ⟨lb,off,none⟩) j.list.length cap)) (first | exact ⟨rjob_cell 6 hd rfl 0 (by decide),rjob_cell 6 hd rfl 6 (by decide)⟩ | exact ⟨rjob_cell 6 hr rfl 0 (by decide),rjob_cell 6 hr rfl 6 (by decide)⟩) ((go_at_call 181; refine (HRD.out _ hd).mono ?_; rintro e wr ⟨rfl,hxr,hr⟩))
         have hx5:=hxd.trans hxr
         clear hd hxd hxr
         have c0 : wr.cell? ⟨br,0,none⟩ = some (.pointer (some ⟨bs,0,none⟩)):=rjob_cell 6 hr rfl 0 (by decide)
         have c2 : wr.cell? ⟨br,2,none⟩ = some (.int .i64 j.kind):=rjob_cell 6 hr rfl 2 (by decide)
         have c3 : wr.cell? ⟨br,3,none⟩ = some (.int .i64 j.file):=rjob_cell 6 hr rfl 3 (by decide)
         have c6 : wr.cell? ⟨br,6,none⟩ = some (.slice (some ⟨lb,off,none⟩) j.list.length cap):=rjob_cell 6 hr rfl 6 (by decide)
         have c74 : wr.cell? ⟨br,74,none⟩ = some (.int .i64 j.st):=rjob_cell 6 hr rfl 74 (by decide)
         have f74:=rjob_free 6 hr rfl 74
         have c9 : wr.cell? ⟨lb,off,none⟩ = some (.int .i64 (j.list.getD 0 0)):=ints_cell (HV.out _ _ hr) hpos
         rw [hkd] at c2
         rw [hxk] at c9
         clear hkd h1 hm
         go_wp2_with fail
         refine (HMV.out _ hr).mono ?_
         rintro e w6 ⟨rfl,hx6',h6⟩
         have hx6:=hx5.trans hx6'
         have c74 : w6.cell? ⟨br,74,none⟩ = some (.int .i64 j.st):=rjob_cell 6 h6 rfl 74 (by decide)
         have f74:=rjob_free 6 h6 rfl 74
         have h9 : own (w6.setCell ⟨br,74,none⟩ (.int .i64 5)) (rshL bs A F'++(rjobP bs br (.slice (some ⟨lb,off,none⟩) j.list.length cap) { j with level:=j.level - 4,st:=5 }::R)):=rjob_set (i:=74) (a:=.int .i64 5) 6 h6 rfl (rjob_st bs (.slice (some ⟨lb,off,none⟩) j.list.length cap) { j with level:=j.level - 4 } 5)
         go_wp2_with fail
         go_ret2
         exact ⟨rfl,hx6.setCell _ _,h9⟩
       ·rw [if_neg hkd] at hxk
        have d2 : (j.kind == 2) = false:=by rw [beq_eq_false_iff_ne]; exact hkd
        rcases hst' with h1 | h1
        all_goals
         rw [h1] at c7
         go_enter Tryz.func79,Tryz.ntmps79
         go_upto_region 3 with (fail)
         go_quiet ((go_at_call 179; exact Calls.quiet_of_same ((HNX.out _ (by first | exact HOW.out | exact own_drew HOW.out | exact own_drewN _ HOW.out)).mono fun e w' h=>⟨h.1,h.2.symm⟩)))
         have h2:=own_drewN nq H
         have hx2:=(Ext.refl w).drewN nq
         clear H HNX c6 c7
         generalize w.drewN nq = w2 at *
         go_wp2_with fail
         refine (HTK.out _ h2).mono ?_
         rintro e w3 ⟨rfl,hx3,h3⟩
         go_wp2_with fail
         refine (HWA.out _ h3).mono ?_
         rintro e w4 ⟨rfl,n4,rfl⟩
         have h4:=own_drewN n4 h3
         have hx4:=((hx2.trans hx3).drewN n4)
         clear h2 h3 hx2 hx3
         generalize w3.drewN n4 = w5 at *
         go_upto_region 11 with (fail)
         have hd:=own_drew h4
         have hxd:=hx4.drew
         clear h4 hx4
         go_region_held3 (fun w'=>w'.cell? ⟨br,0,none⟩ = some (.pointer (some ⟨bs,0,none⟩))∧w'.cell? ⟨br,6,none⟩ = some (.slice (some ⟨lb,off,none⟩) j.list.length cap)) (first | exact ⟨rjob_cell 6 hd rfl 0 (by decide),rjob_cell 6 hd rfl 6 (by decide)⟩ | exact ⟨rjob_cell 6 hr rfl 0 (by decide),rjob_cell 6 hr rfl 6 (by decide)⟩) ((go_at_call 181; refine (HRD.out _ hd).mono ?_; rintro e wr ⟨rfl,hxr,hr⟩))
         have hx5:=hxd.trans hxr
         clear hd hxd hxr
         have c0 : wr.cell? ⟨br,0,none⟩ = some (.pointer (some ⟨bs,0,none⟩)):=rjob_cell 6 hr rfl 0 (by decide)
         have c2 : wr.cell? ⟨br,2,none⟩ = some (.int .i64 j.kind):=rjob_cell 6 hr rfl 2 (by decide)
         have c3 : wr.cell? ⟨br,3,none⟩ = some (.int .i64 j.file):=rjob_cell 6 hr rfl 3 (by decide)
         have c6 : wr.cell? ⟨br,6,none⟩ = some (.slice (some ⟨lb,off,none⟩) j.list.length cap):=rjob_cell 6 hr rfl 6 (by decide)
         have c74 : wr.cell? ⟨br,74,none⟩ = some (.int .i64 j.st):=rjob_cell 6 hr rfl 74 (by decide)
         have f74:=rjob_free 6 hr rfl 74
         have c9 : wr.cell? ⟨lb,off,none⟩ = some (.int .i64 (j.list.getD 0 0)):=ints_cell (HV.out _ _ hr) hpos
         rw [hxk] at c3
         clear hkd h1 hm
         go_wp2_with fail
         refine (HMV.out _ hr).mono ?_
         rintro e w6 ⟨rfl,hx6',h6⟩
         have hx6:=hx5.trans hx6'
         have c74 : w6.cell? ⟨br,74,none⟩ = some (.int .i64 j.st):=rjob_cell 6 h6 rfl 74 (by decide)
         have f74:=rjob_free 6 h6 rfl 74
         have h9 : own (w6.setCell ⟨br,74,none⟩ (.int .i64 5)) (rshL bs A F'++(rjobP bs br (.slice (some ⟨lb,off,none⟩) j.list.length cap) { j with level:=j.level - 4,st:=5 }::R)):=rjob_set (i:=74) (a:=.int .i64 5) 6 h6 rfl (rjob_st bs (.slice (some ⟨lb,off,none⟩) j.list.length cap) { j with level:=j.level - 4 } 5)
         go_wp2_with fail
         go_ret2
         exact ⟨rfl,hx6.setCell _ _,h9⟩
     ·rw [if_pos (show rc≠0 from hrc)]
      dsimp only
      rw [if_pos (show rc≠0 from hrc)]
      have hp : 0 < rc:=by omega
      have d0 : (rc == 0) = false:=by rw [beq_eq_false_iff_ne]; exact hrc
      by_cases hkd : j.kind = 2
      ·rw [if_pos hkd] at hxk
       rcases hst' with h1 | h1
       all_goals
        rw [h1] at c7
        go_enter Tryz.func79,Tryz.ntmps79
        go_upto_region 3 with (fail)
        go_quiet ((go_at_call 179; exact Calls.quiet_of_same ((HNX.out _ (by first | exact HOW.out | exact own_drew HOW.out | exact own_drewN _ HOW.out)).mono fun e w' h=>⟨h.1,h.2.symm⟩)))
        have h2:=own_drewN nq H
        have hx2:=(Ext.refl w).drewN nq
        clear H HNX c6 c7
        generalize w.drewN nq = w2 at *
        go_wp2_with fail
        refine (HTK.out _ h2).mono ?_
        rintro e w3 ⟨rfl,hx3,h3⟩
        go_wp2_with fail
        refine (HWA.out _ h3).mono ?_
        rintro e w4 ⟨rfl,n4,rfl⟩
        have h4:=own_drewN n4 h3
        have hx4:=((hx2.trans hx3).drewN n4)
        clear h2 h3 hx2 hx3
        generalize w3.drewN n4 = w5 at *
        go_upto_region 11 with (fail)
        have hd:=own_drew h4
        have hxd:=hx4.drew
        clear h4 hx4
        go_region_held3 (fun w'=>w'.cell? ⟨br,0,none⟩ = some (.pointer (some ⟨bs,0,none⟩))∧w'.cell? ⟨br,6,none⟩ = some (.slice (some ⟨lb,off,none⟩) j.list.length cap)) (first | exact ⟨rjob_cell 6 hd rfl 0 (by decide),rjob_cell 6 hd rfl 6 (by decide)⟩ | exact ⟨rjob_cell 6 hr rfl 0 (by decide),rjob_cell 6 hr rfl 6 (by decide)⟩) ((go_at_call 181; refine (HRD.out _ hd).mono ?_; rintro e wr ⟨rfl,hxr,hr⟩))
        have hx5:=hxd.trans hxr
        clear hd hxd hxr
        have c0 : wr.cell? ⟨br,0,none⟩ = some (.pointer (some ⟨bs,0,none⟩)):=rjob_cell 6 hr rfl 0 (by decide)
        have c2 : wr.cell? ⟨br,2,none⟩ = some (.int .i64 j.kind):=rjob_cell 6 hr rfl 2 (by decide)
        have c3 : wr.cell? ⟨br,3,none⟩ = some (.int .i64 j.file):=rjob_cell 6 hr rfl 3 (by decide)
        have c6 : wr.cell? ⟨br,6,none⟩ = some (.slice (some ⟨lb,off,none⟩) j.list.length cap):=rjob_cell 6 hr rfl 6 (by decide)
        have c74 : wr.cell? ⟨br,74,none⟩ = some (.int .i64 j.st):=rjob_cell 6 hr rfl 74 (by decide)
        have f74:=rjob_free 6 hr rfl 74
        have c9 : wr.cell? ⟨lb,off,none⟩ = some (.int .i64 (j.list.getD 0 0)):=ints_cell (HV.out _ _ hr) hpos
        rw [hkd] at c2
        rw [hxk] at c9
        clear hkd h1 hrc
        have c74 : wr.cell? ⟨br,74,none⟩ = some (.int .i64 j.st):=rjob_cell 6 hr rfl 74 (by decide)
        have f74:=rjob_free 6 hr rfl 74
        have h9 : own (wr.setCell ⟨br,74,none⟩ (.int .i64 5)) (rshL bs A F++(rjobP bs br (.slice (some ⟨lb,off,none⟩) j.list.length cap) { j with level:=j.level - 4,st:=5 }::R)):=rjob_set (i:=74) (a:=.int .i64 5) 6 hr rfl (rjob_st bs (.slice (some ⟨lb,off,none⟩) j.list.length cap) { j with level:=j.level - 4 } 5)
        go_wp2_with fail
        go_ret2
        exact ⟨rfl,hx5.setCell _ _,h9⟩
      ·rw [if_neg hkd] at hxk
       have d2 : (j.kind == 2) = false:=by rw [beq_eq_false_iff_ne]; exact hkd
       rcases hst' with h1 | h1
       all_goals
        rw [h1] at c7
        go_enter Tryz.func79,Tryz.ntmps79
        go_upto_region 3 with (fail)
        go_quiet ((go_at_call 179; exact Calls.quiet_of_same ((HNX.out _ (by first | exact HOW.out | exact own_drew HOW.out | exact own_drewN _ HOW.out)).mono fun e w' h=>⟨h.1,h.2.symm⟩)))
        have h2:=own_drewN nq H
        have hx2:=(Ext.refl w).drewN nq
        clear H HNX c6 c7
        generalize w.drewN nq = w2 at *
        go_wp2_with fail
        refine (HTK.out _ h2).mono ?_
        rintro e w3 ⟨rfl,hx3,h3⟩
        go_wp2_with fail
        refine (HWA.out _ h3).mono ?_
        rintro e w4 ⟨rfl,n4,rfl⟩
        have h4:=own_drewN n4 h3
        have hx4:=((hx2.trans hx3).drewN n4)
        clear h2 h3 hx2 hx3
        generalize w3.drewN n4 = w5 at *
        go_upto_region 11 with (fail)
        have hd:=own_drew h4
        have hxd:=hx4.drew
        clear h4 hx4
        go_region_held3 (fun w'=>w'.cell? ⟨br,0,none⟩ = some (.pointer (some ⟨bs,0,none⟩))∧w'.cell? ⟨br,6,none⟩ = some (.slice (some ⟨lb,off,none⟩) j.list.length cap)) (first | exact ⟨rjob_cell 6 hd rfl 0 (by decide),rjob_cell 6 hd rfl 6 (by decide)⟩ | exact ⟨rjob_cell 6 hr rfl 0 (by decide),rjob_cell 6 hr rfl 6 (by decide)⟩) ((go_at_call 181; refine (HRD.out _ hd).mono ?_; rintro e wr ⟨rfl,hxr,hr⟩))
        have hx5:=hxd.trans hxr
        clear hd hxd hxr
        have c0 : wr.cell? ⟨br,0,none⟩ = some (.pointer (some ⟨bs,0,none⟩)):=rjob_cell 6 hr rfl 0 (by decide)
        have c2 : wr.cell? ⟨br,2,none⟩ = some (.int .i64 j.kind):=rjob_cell 6 hr rfl 2 (by decide)
        have c3 : wr.cell? ⟨br,3,none⟩ = some (.int .i64 j.file):=rjob_cell 6 hr rfl 3 (by decide)
        have c6 : wr.cell? ⟨br,6,none⟩ = some (.slice (some ⟨lb,off,none⟩) j.list.length cap):=rjob_cell 6 hr rfl 6 (by decide)
        have c74 : wr.cell? ⟨br,74,none⟩ = some (.int .i64 j.st):=rjob_cell 6 hr rfl 74 (by decide)
        have f74:=rjob_free 6 hr rfl 74
        have c9 : wr.cell? ⟨lb,off,none⟩ = some (.int .i64 (j.list.getD 0 0)):=ints_cell (HV.out _ _ hr) hpos
        rw [hxk] at c3
        clear hkd h1 hrc
        have c74 : wr.cell? ⟨br,74,none⟩ = some (.int .i64 j.st):=rjob_cell 6 hr rfl 74 (by decide)
        have f74:=rjob_free 6 hr rfl 74
        have h9 : own (wr.setCell ⟨br,74,none⟩ (.int .i64 5)) (rshL bs A F++(rjobP bs br (.slice (some ⟨lb,off,none⟩) j.list.length cap) { j with level:=j.level - 4,st:=5 }::R)):=rjob_set (i:=74) (a:=.int .i64 5) 6 hr rfl (rjob_st bs (.slice (some ⟨lb,off,none⟩) j.list.length cap) { j with level:=j.level - 4 } 5)
        go_wp2_with fail
        go_ret2
        exact ⟨rfl,hx5.setCell _ _,h9⟩
end Go.Proofs.YtbpblokfiajpjabGreatDoor
