/- ref.NewJob. A new job; the program's side: a mirror. No conditions. -/
import Derived.Test.YtbpblokfiajpjabGreatDoorPkbf977064c5
import Derived.Test.YtbpblokfiajpjabGreatDoorProg
namespace Go.Proofs.YtbpblokfiajpjabGreatDoor
open Go.RowKit Go.SL Go.Crc
attribute [local go_sem ↓] Go.wp_at_zero Go.wp_at_succ
set_option maxRecDepth 100000 in
set_option maxHeartbeats 80000000 in
theorem rnew_any (bs : Nat) (A : Nat→Nat×Nat) (F : ShM) (hF : ShOk F) (root kind file rate burst : Int) (hl5 : (walkM F root).1.length≤5) (R : List SL.HP) (w : World) (H : own w (rshL bs A F++R)) :
  Calls Tryz.prog 16 #[.pointer (some ⟨bs,0,none⟩),.agg #[.int .i64 root,.int .i64 kind,.int .i64 file,.int .i64 rate,.int .i64 burst]] w (RNewPost bs A F (newM F root kind file rate burst) R w):=by
 have ha:=own_alloc H (.cells #[.int .i64 root,.int .i64 kind,.int .i64 file,.int .i64 rate,.int .i64 burst] 24)
 have hxa:=(Ext.refl w).alloc (.cells #[.int .i64 root,.int .i64 kind,.int .i64 file,.int .i64 rate,.int .i64 burst] 24)
 have hb : own _ (rshL bs A F++(_::R)):=own_behind (rshL bs A F) ha
 have hwk:=fun R' w' h=>rwalk_any bs A F hF root R' w' h
 have hfl:=walk_files F root
 have hnd:=@walk_nodup F root
 have hwc : 0≤(walkM F root).2:=walkGo_code
 have HWK:=Lib.hid hwk
 unfold WalkPost at HWK
 generalize hres : newM F root kind file rate burst = res
 unfold newM at hres
 by_cases hz : (walkM F root).2≠0
 ·rw [if_pos hz] at hres
  subst hres
  have hp : 0 < (walkM F root).2:=by omega
  generalize walkM F root = S at *
  obtain ⟨l,wc⟩:=S
  dsimp only at hwc HWK ⊢
  clear hz hwk hfl ha hnd
  go_enter Tryz.func16,Tryz.ntmps16
  go_upto_region 1 with (fail)
  generalize w.heap.size = g at *
  generalize w.alloc (.cells #[.int .i64 root,.int .i64 kind,.int .i64 file,.int .i64 rate,.int .i64 burst] 24) = w1 at *
  have c0:=(own_cells 6 hb rfl).1 0
  go_wp2_with fail
  refine (HWK.out _ _ hb).mono ?_
  rintro e w2 ⟨v,rfl,hx2,h2⟩
  go_wp2_with fail
  go_ret2
  exact RNewPost.no rfl (hxa.trans hx2) (own_erase 6 (own_drop h2) rfl)
 ·rw [if_neg hz] at hres
  have hz0 : (walkM F root).2 = 0:=by omega
  rw [hz0] at HWK
  by_cases h0 : (walkM F root).1.length = 0
  ·rw [if_pos h0] at hres
   subst hres
   have hl0 : (walkM F root).1 = []:=List.length_eq_zero_iff.1 h0
   rw [hl0] at HWK
   clear hz hwk hfl ha h0 hl0 hz0 hwc hnd
   go_enter Tryz.func16,Tryz.ntmps16
   go_upto_region 1 with (fail)
   generalize w.heap.size = g at *
   generalize w.alloc (.cells #[.int .i64 root,.int .i64 kind,.int .i64 file,.int .i64 rate,.int .i64 burst] 24) = w1 at *
   have c0:=(own_cells 6 hb rfl).1 0
   go_wp2_with fail
   refine (HWK.out _ _ hb).mono ?_
   rintro e w2 ⟨v,rfl,hx2,h2⟩
   obtain ⟨ao,lb,off,cap,rfl,-,-,-,-⟩:=(ints_row 0 h2 rfl).form
   go_wp2_with fail
   go_ret2
   exact RNewPost.no rfl (hxa.trans hx2) (own_erase 6 (own_drop h2) rfl)
  ·rw [if_neg h0] at hres
   by_cases ho : newOk rate burst = false
   ·rw [if_pos ho] at hres
    subst hres
    generalize (walkM F root).1 = l at *
    have l0 : ((l.length : Int) == 0) = false:=by rw [beq_eq_false_iff_ne]; omega
    simp only [newOk,decide_eq_false_iff_not] at ho
    clear hz hwk hfl ha h0 hz0 hwc hnd
    go_enter Tryz.func16,Tryz.ntmps16
    go_upto_region 1 with (fail)
    generalize w.heap.size = g at *
    generalize w.alloc (.cells #[.int .i64 root,.int .i64 kind,.int .i64 file,.int .i64 rate,.int .i64 burst] 24) = w1 at *
    have c0:=(own_cells 6 hb rfl).1 0
    go_wp2_with fail
    refine (HWK.out _ _ hb).mono ?_
    rintro e w2 ⟨v,rfl,hx2,h2⟩
    obtain ⟨ao,lb,off,cap,rfl,-,-,-,-⟩:=(ints_row 0 h2 rfl).form
    have d3:=(own_cells 7 h2 rfl).1 3
    have d4:=(own_cells 7 h2 rfl).1 4
    have HQ : own w2 (rshL bs A F++R):=own_erase 6 (own_drop h2) rfl
    have HX:=hxa.trans hx2
    clear c0 h2 hb hxa hx2
    by_cases q1 : rate < 0
    ·clear ho
     go_wp2_with fail
     go_ret2
     exact RNewPost.no rfl HX HQ
    ·by_cases q2 : 1000 < rate
     ·clear ho
      go_wp2_with fail
      go_ret2
      exact RNewPost.no rfl HX HQ
     ·by_cases q3 : burst < 0
      ·clear ho
       go_wp2_with fail
       go_ret2
       exact RNewPost.no rfl HX HQ
      ·have q4 : 1000 < burst:=by omega
       clear ho
       go_wp2_with fail
       go_ret2
       exact RNewPost.no rfl HX HQ
   ·rw [if_neg ho] at hres
    have HRES:=Lib.hid hres
    clear hres
    have ho : newOk rate burst = true:=by simpa using ho
    have hroot:=walk_root h0
    obtain ⟨k,m,hxk,hk,hFk⟩:=isFile_nat hroot
    have hcl:=clus_range hF hroot
    have hcm : clus F root = m.c:=by rw [hxk]; exact clus_of hFk
    have hcn : (((clus F root).toNat : Nat) : Int) = m.c:=by omega
    have HCN:=Lib.hid hcn
    clear hcn
    have HF:=Lib.hid hF
    have HFL:=Lib.hid hfl
    have HND:=Lib.hid (hnd hz0)
    have i1 : (0 : Int)≤(k : Int):=by omega
    have i2 : (k : Int) < 5:=by omega
    obtain ⟨r1,r2,r3,r4⟩:=newOk_iff.1 ho
    have p1 : decide (rate < 0) = false:=decide_eq_false (by omega)
    have p2 : decide (1000 < rate) = false:=decide_eq_false (by omega)
    have p3 : decide (burst < 0) = false:=decide_eq_false (by omega)
    have p4 : decide (1000 < burst) = false:=decide_eq_false (by omega)
    subst hxk
    have hok : ∀deep,kind = 1∨kind = 2∨kind = 3→deep≤(walkM F (k : Int)).1.length→(jFill F (jNew F k kind file rate burst (walkM F (k : Int)).1 deep)).Ok:=fun deep hkk hd=>jNew_ok hF hroot hl5 h0 ho hkk hd
    have HOK:=Lib.hid hok
    clear hok hnd
    generalize hL : (walkM F (k : Int)).1 = l at *
    have l0 : ((l.length : Int) == 0) = false:=by rw [beq_eq_false_iff_ne]; omega
    go_enter Tryz.func16,Tryz.ntmps16
    go_upto_region 1 with (fail)
    generalize w.heap.size = g at *
    generalize w.alloc (.cells #[.int .i64 (k : Int),.int .i64 kind,.int .i64 file,.int .i64 rate,.int .i64 burst] 24) = w1 at *
    have c0:=(own_cells 6 hb rfl).1 0
    go_wp2_with fail
    refine (HWK.out _ _ hb).mono ?_
    rintro e w2 ⟨v,rfl,hx2,h2⟩
    obtain ⟨ao,lb,off,cap,rfl,-,-,hao,-⟩:=(ints_row 0 h2 rfl).form
    obtain rfl:=hao (by omega)
    have d0:=(own_cells 7 h2 rfl).1 0
    have d1:=(own_cells 7 h2 rfl).1 1
    have d2:=(own_cells 7 h2 rfl).1 2
    have d3:=(own_cells 7 h2 rfl).1 3
    have d4:=(own_cells 7 h2 rfl).1 4
    clear c0
    go_upto_region 9 with (fail)
    have h6:=own_alloc h2 (.cells ((((((((((((Tryz.zeroCells149.setIfInBounds 0 (.pointer (some ⟨bs,0,none⟩))).setIfInBounds 1 (.int .i64 (k : Int))).setIfInBounds 2 (.int .i64 kind)).setIfInBounds 3 (.int .i64 file)).setIfInBounds 4 (.int .i64 rate)).setIfInBounds 5 (.int .i64 burst)).setIfInBounds 6 (.slice (some ⟨lb,off,none⟩) l.length cap)).setIfInBounds 73 (.int .i64 (-1))).setIfInBounds 74 (.int .i64 2)).setIfInBounds 75 (.int .i64 rate)).setIfInBounds 76 (.int .i64 burst)).setIfInBounds 77 (.int .i64 burst)) 149)
    have hx6:=(hxa.trans hx2).alloc (.cells ((((((((((((Tryz.zeroCells149.setIfInBounds 0 (.pointer (some ⟨bs,0,none⟩))).setIfInBounds 1 (.int .i64 (k : Int))).setIfInBounds 2 (.int .i64 kind)).setIfInBounds 3 (.int .i64 file)).setIfInBounds 4 (.int .i64 rate)).setIfInBounds 5 (.int .i64 burst)).setIfInBounds 6 (.slice (some ⟨lb,off,none⟩) l.length cap)).setIfInBounds 73 (.int .i64 (-1))).setIfInBounds 74 (.int .i64 2)).setIfInBounds 75 (.int .i64 rate)).setIfInBounds 76 (.int .i64 burst)).setIfInBounds 77 (.int .i64 burst)) 149)
    generalize w2.heap.size = br at *
    generalize w2.alloc (.cells ((((((((((((Tryz.zeroCells149.setIfInBounds 0 (.pointer (some ⟨bs,0,none⟩))).setIfInBounds 1 (.int .i64 (k : Int))).setIfInBounds 2 (.int .i64 kind)).setIfInBounds 3 (.int .i64 file)).setIfInBounds 4 (.int .i64 rate)).setIfInBounds 5 (.int .i64 burst)).setIfInBounds 6 (.slice (some ⟨lb,off,none⟩) l.length cap)).setIfInBounds 73 (.int .i64 (-1))).setIfInBounds 74 (.int .i64 2)).setIfInBounds 75 (.int .i64 rate)).setIfInBounds 76 (.int .i64 burst)).setIfInBounds 77 (.int .i64 burst)) 149) = w6 at *
    rw [jBox_box bs (.slice (some ⟨lb,off,none⟩) l.length cap) (k : Int) kind file rate burst l] at h6
    generalize hV : Value.slice (some ⟨lb,off,none⟩) l.length cap = V at *
    have h7 : own w6 (rshL bs A F++(rjobP bs br V (jBox (k : Int) kind file rate burst l)::(row 3 1 V l.length (intVals l)::(pts g (.cells #[.int .i64 (k : Int),.int .i64 kind,.int .i64 file,.int .i64 rate,.int .i64 burst] 24 (0,0))::R)))):=own_swap2 [_,_] (rshL bs A F) h6
    have HX:=Lib.hid hx6
    have HV:=Lib.hid hV
    clear hV hx6 hxa hx2 h2 h6 hb ha d0 d1 d2 d3 d4 hwk hfl HWK h0 hz hz0 hwc ho hroot hcl hcm hao r1 r2 r3 r4 p1 p2 p3 p4 hF
    have d0:=(own_cells 8 h7 rfl).1 0
    have g1:=rsh_cell h7 hk
    rw [rslotV_some hFk] at g1
    obtain ⟨-,-,-,x1,-,-,-,-,-⟩:=rsh_img hk hFk h7
    go_quiet (fail)
    have h8:=own_drewN nq h7
    have hx8:=HX.out.drewN nq
    clear d0 g1 x1 h7 HX
    generalize w6.drewN nq = w8 at *
    have hf8:=rjob_free 6 h8 rfl 8
    have chf8:=rjob_cell 6 h8 rfl 8 (by decide)
    have h9:=rjob_set (i:=8) (a:=.int .i64 ((clus F (k : Int)).toNat : Nat)) 6 h8 rfl (rjob_n bs V _ (clus F (k : Int)).toNat)
    rw [HCN.out] at h9
    have h9 : own _ (rshL bs A F++(rjobP bs br V (jNew F (k : Int) kind file rate burst l 0)::(row 3 1 V l.length (intVals l)::(pts g (.cells #[.int .i64 (k : Int),.int .i64 kind,.int .i64 file,.int .i64 rate,.int .i64 burst] 24 (0,0))::R)))):=h9
    have hx9:=hx8.setCell ⟨br,8,none⟩ (.int .i64 m.c)
    have H9:=Lib.hid h9
    have HX9:=Lib.hid hx9
    have hlg:=@last_place file l 0 HND.out
    have HP:=Lib.hid hL
    clear hL
    have hpr:=place_range l file
    rw [show placeGo file 0 l = placeM l file from rfl] at hlg
    generalize placeM l file = pl at *
    have HLG:=Lib.hid hlg
    clear hlg h8 hx8 h9 hx9
    have hV:=HV.out
    subst hV
    go_wp2_with fail
    generalize w8.setCell ⟨br,8,none⟩ (.int .i64 m.c) = w9 at *
    clear hf8 chf8
    go_loopw [10,11] (fun av iv wr=>∃(q : Nat) (a : Int),q≤l.length∧av = .int .i64 a∧iv = .int .i64 q∧lastGo file q (l.drop q) a = pl∧Ext w wr∧own wr (rshL bs A F++(rjobP bs br (.slice (some ⟨lb,off,none⟩) l.length cap) (jNew F (k : Int) kind file rate burst l 0)::(row 3 1 (.slice (some ⟨lb,off,none⟩) l.length cap) l.length (intVals l)::(pts g (.cells #[.int .i64 (k : Int),.int .i64 kind,.int .i64 file,.int .i64 rate,.int .i64 burst] 24 (0,0))::R))))) (fun _ iv _=>l.length - (intOf iv).toNat)
    case atStart=>exact ⟨0,-1,Nat.zero_le _,rfl,rfl,HLG.out,HX9.out,H9.out⟩
    case round=>
     clear H9 HX9 HLG
     obtain ⟨q,a,hq,rfl,rfl,hgo,hxr,hown⟩:=hrel
     by_cases hlt : q < l.length
     ·have c1:=ints_cell (ints_row 7 hown rfl) hlt
      have d2:=(own_cells 8 hown rfl).1 2
      rw [drop_getD 0 hlt,lastGo] at hgo
      have j1 : (0 : Int)≤(q : Int):=by omega
      have j2 : (q : Int) < (l.length : Int):=by omega
      generalize l.getD q 0 = x at *
      by_cases hx : x = file
      ·rw [if_pos hx] at hgo
       have HGO:=Lib.hid hgo
       have d0 : (x == file) = true:=by rw [hx]; simp
       clear hgo hx
       go_upto_region 15 with (fail)
       go_quiet (fail)
       go_wp2_with fail
       go_roundw
       case rel=>exact ⟨q + 1,(q : Int),by omega,rfl,by go_num,HGO.out,hxr.drewN _,own_drewN _ hown⟩
       case measure=>simp [intOf]; omega
      ·rw [if_neg hx] at hgo
       have HGO:=Lib.hid hgo
       have d0 : (x == file) = false:=by rw [beq_eq_false_iff_ne]; exact hx
       clear hgo hx
       go_upto_region 15 with (fail)
       go_quiet (fail)
       go_wp2_with fail
       go_roundw
       case rel=>exact ⟨q + 1,a,by omega,rfl,by go_num,HGO.out,hxr.drewN _,own_drewN _ hown⟩
       case measure=>simp [intOf]; omega
     ·obtain rfl : l.length = q:=by omega
      rw [List.drop_of_length_le (Nat.le_refl _)] at hgo
      have hgo' : a = pl:=hgo
      subst hgo'
      clear hgo hq hlt
      have d1:=(own_cells 8 hown rfl).1 1
      have d2:=(own_cells 8 hown rfl).1 2
      have HBAD : ∀n,own (wr.drewN n) (rshL bs A F++R):=fun n=>own_drewN n (own_erase 6 (own_erase 7 (own_erase 8 hown rfl) rfl) rfl)
      by_cases hk1 : kind = 1
      ·subst hk1
       have hres:=HRES.out
       rw [if_pos rfl] at hres
       by_cases hfi : isFileB F file = false
       ·rw [if_pos hfi] at hres
        subst hres
        have hnf : ¬isFile F file:=fun h=>absurd (isFileB_iff.2 h) (by rw [hfi]; decide)
        clear hfi HRES
        by_cases hf0 : file < 0
        ·have df : decide (file < 0) = true:=decide_eq_true hf0
         go_upto_region 20 with (fail)
         go_quiet (fail)
         go_wp2_with fail
         go_ret2
         exact RNewPost.no rfl (hxr.drewN _) (HBAD _)
        ·have df : decide (file < 0) = false:=decide_eq_false hf0
         by_cases hf5 : 5≤file
         ·have dg : decide (5≤file) = true:=decide_eq_true hf5
          go_upto_region 20 with (fail)
          go_quiet (fail)
          go_wp2_with fail
          go_ret2
          exact RNewPost.no rfl (hxr.drewN _) (HBAD _)
         ·have dg : decide (5≤file) = false:=decide_eq_false hf5
          obtain ⟨q,rfl⟩ : ∃q : Nat,file = (q : Int):=⟨file.toNat,by omega⟩
          have q1 : (0 : Int)≤(q : Int):=by omega
          have q2 : (q : Int) < 5:=by omega
          have hFq : F q = none:=by
           cases e : F q with
           | none=>rfl
           | some x=>exact (hnf ⟨by omega,by omega,x,by rw [Int.toNat_natCast]; exact e⟩).elim
          have gq:=rsh_cell hown (k:=q) (by omega)
          rw [rslotV_none hFq] at gq
          clear hnf
          go_upto_region 20 with (fail)
          go_quiet (fail)
          go_wp2_with fail
          go_ret2
          exact RNewPost.no rfl (hxr.drewN _) (HBAD _)
       ·rw [if_neg hfi] at hres
        obtain ⟨hq0,hq5',m2,hFq'⟩:=(isFileB_iff.1 (by simpa using hfi) : isFile F file)
        obtain ⟨q,rfl⟩ : ∃q : Nat,file = (q : Int):=⟨file.toNat,by omega⟩
        have hq5 : q < 5:=by omega
        have hFq : F q = some m2:=by rw [Int.toNat_natCast] at hFq'; exact hFq'
        have df : decide ((q : Int) < 0) = false:=decide_eq_false (by omega)
        have dg : decide (5≤(q : Int)) = false:=decide_eq_false (by omega)
        have q1 : (0 : Int)≤(q : Int):=by omega
        have q2 : (q : Int) < 5:=by omega
        have gq:=rsh_cell hown hq5
        rw [rslotV_some hFq] at gq
        have hbk : bkOf F (q : Int) = m2.b:=by unfold bkOf; rw [Int.toNat_natCast,hFq]
        have hcl2 : clus F (q : Int) = m2.c:=clus_of hFq
        have hclk : clus F (k : Int) = m.c:=clus_of hFk
        rw [hbk,hcl2,hclk] at hres
        have HRES2:=Lib.hid hres
        clear hfi hq0 hq5' hFq' hbk hcl2 hclk HRES hres
        go_upto_region 20 with (fail)
        go_quiet (fail)
        have h8:=own_drewN nq hown
        have hx8:=hxr.drewN nq
        clear d1 d2 gq HBAD hown hxr
        generalize wr.drewN nq = w8 at *
        have d2:=(own_cells 8 h8 rfl).1 2
        have HBAD : ∀n,own (w8.drewN n) (rshL bs A F++R):=fun n=>own_drewN n (own_erase 6 (own_erase 7 (own_erase 8 h8 rfl) rfl) rfl)
        have gq:=rsh_cell h8 hq5
        rw [rslotV_some hFq] at gq
        obtain ⟨-,-,-,x1,-,x3,-,-,-⟩:=rsh_img hq5 hFq h8
        by_cases hp0 : 0≤a
        ·rw [if_pos (.inl hp0)] at HRES2
         have dp : decide (0≤a) = true:=decide_eq_true hp0
         clear hp0
         go_upto_region 22 with (fail)
         go_quiet (fail)
         go_wp2_with fail
         go_ret2
         rw [← HRES2.out]
         exact RNewPost.no rfl (hx8.drewN _) (HBAD _)
        ·have dp : decide (0≤a) = false:=decide_eq_false hp0
         by_cases hbb : m2.b = -1
         ·have db : (m2.b != -1) = false:=by rw [hbb]; rfl
          by_cases hcc : m2.c = m.c
          ·rw [if_neg (by rintro (h | h | h); exact hp0 h; exact h hbb; exact h hcc)] at HRES2
           have dc : (m2.c != m.c) = false:=by rw [hcc]; simp
           clear hp0 hbb hcc
           go_upto_region 22 with (fail)
           go_quiet (fail)
           have h10:=own_drewN nq h8
           have hxt:=hx8.drewN nq
           clear HBAD d2 gq x1 x3
           go_wp2_with fail
           have hjok:=Lib.hid (HOK.out _ (by simp) (by omega) : (jFill F (jNew F (k : Int) 1 (q : Int) rate burst l 0)).Ok)
           have hx12:=Lib.hid hxt
           have hv12 : ∀w' L,own w' (L++(row 3 1 (.slice (some ⟨lb,off,none⟩) l.length cap) l.length (intVals l)::(pts g (.cells #[.int .i64 (k : Int),.int .i64 1,.int .i64 (q : Int),.int .i64 rate,.int .i64 burst] 24 (0,0))::R)))→IntsAt w' (.slice (some ⟨lb,off,none⟩) l.length cap) (jNew F (k : Int) 1 (q : Int) rate burst l 0).list:=fun w' L h=>ints_row 0 (own_swap2 L [row 3 1 (.slice (some ⟨lb,off,none⟩) l.length cap) l.length (intVals l)] h) rfl
           have HV12:=Lib.hid hv12
           have hnn : ((jNew F (k : Int) 1 (q : Int) rate burst l 0).n : Int) = m.c:=HCN.out
           have HJ0 : Hid (({ (jNew F (k : Int) 1 (q : Int) rate burst l 0) with x:=fillX F (jNew F (k : Int) 1 (q : Int) rate burst l 0) 0 } : JobM) = (jNew F (k : Int) 1 (q : Int) rate burst l 0)):=Lib.hid rfl
           clear hxt hv12
           go_loopw [12] (fun iv wr=>∃z : Nat,z≤(jNew F (k : Int) 1 (q : Int) rate burst l 0).n∧iv = .int .i64 z∧Ext w wr∧own wr (rshL bs A F++(rjobP bs br (.slice (some ⟨lb,off,none⟩) l.length cap) { (jNew F (k : Int) 1 (q : Int) rate burst l 0) with x:=fillX F (jNew F (k : Int) 1 (q : Int) rate burst l 0) z }::(row 3 1 (.slice (some ⟨lb,off,none⟩) l.length cap) l.length (intVals l)::(pts g (.cells #[.int .i64 (k : Int),.int .i64 1,.int .i64 (q : Int),.int .i64 rate,.int .i64 burst] 24 (0,0))::R))))) (fun iv _=>(jNew F (k : Int) 1 (q : Int) rate burst l 0).n - (intOf iv).toNat)
           case atStart=>exact ⟨0,Nat.zero_le _,rfl,hx12.out,by rw [HJ0.out]; exact h10⟩
           case round=>
            obtain ⟨z,hq,rfl,hxr,hown⟩:=hrel
            by_cases hlt : z < (jNew F (k : Int) 1 (q : Int) rate burst l 0).n
            ·have j1 : (0 : Int)≤(z : Int):=by omega
             have j2 : (z : Int) < m.c:=by omega
             have j3 : (z : Int) < 64:=by have:=hjok.out.n; have : (jNew F (k : Int) 1 (q : Int) rate burst l 0).n≤64:=this; omega
             have hown2:=own_drew hown
             have hcq:=rjwants_any bs A F HF.out br _ _ (jz_ok hjok.out z) HFL.out (z : Int) _ wr.drew HV12.out hown2
             have HFI:=Lib.hid (rjob_fill bs (.slice (some ⟨lb,off,none⟩) l.length cap) F (jNew F (k : Int) 1 (q : Int) rate burst l 0) hjok.out.n hlt)
             have hwx : wantsM F { (jNew F (k : Int) 1 (q : Int) rate burst l 0) with x:=fillX F (jNew F (k : Int) 1 (q : Int) rate burst l 0) z } (z : Int) = wantsM F (jNew F (k : Int) 1 (q : Int) rate burst l 0) (z : Int):=rfl
             rw [hwx] at hcq
             generalize wantsM F (jNew F (k : Int) 1 (q : Int) rate burst l 0) (z : Int) = wv at *
             have HCQ:=Lib.hid hcq
             clear hcq hwx
             go_upto_region 34 with (fail)
             refine wp_region_held_drew (S:=fun _=>True) (by kernel_rfl) trivial (fun hHeld=>?_)
             refine wpAnyH_take (i:=0) (v:=?_) rfl (by kernel_rfl) (by kernel_rfl) (by kernel_rfl) (fun _ _ _ h=>h) (Or.inl ⟨by kernel_rfl,?_⟩) (by assumption) ?_
             rotate_left
             ·intro w hSw
              go_simp
              try with_reducible rfl
             try simp only [Act.put,List.getElem_toArray,List.getElem_cons_succ,List.getElem_cons_zero,List.setIfInBounds_toArray,List.set_cons_zero,List.set_cons_succ]
             refine wpAnyH_take (i:=1) (v:=?_) rfl (by kernel_rfl) (by kernel_rfl) (by kernel_rfl) (fun _ _ _ h=>h) (Or.inl ⟨by kernel_rfl,?_⟩) (by assumption) ?_
             rotate_left
             ·intro w hSw
              go_simp
              try with_reducible rfl
             try simp only [Act.put,List.getElem_toArray,List.getElem_cons_succ,List.getElem_cons_zero,List.setIfInBounds_toArray,List.set_cons_zero,List.set_cons_succ]
             refine wpAnyH_take (i:=2) (v:=?_) rfl (by kernel_rfl) (by kernel_rfl) (by kernel_rfl) (fun _ _ _ h=>h) (Or.inl ⟨by kernel_rfl,?_⟩) (by assumption) ?_
             rotate_left
             ·intro w hSw
              go_simp
              try with_reducible rfl
             try simp only [Act.put,List.getElem_toArray,List.getElem_cons_succ,List.getElem_cons_zero,List.setIfInBounds_toArray,List.set_cons_zero,List.set_cons_succ]
             refine wpAnyH_take (i:=3) (v:=?_) rfl (by kernel_rfl) (by kernel_rfl) (by kernel_rfl) (fun _ _ _ h=>h) (Or.inl ⟨by kernel_rfl,?_⟩) (by assumption) ?_
             rotate_left
             ·intro w hSw
              go_simp
              try with_reducible rfl
             try simp only [Act.put,List.getElem_toArray,List.getElem_cons_succ,List.getElem_cons_zero,List.setIfInBounds_toArray,List.set_cons_zero,List.set_cons_succ]
             refine wpAnyH_take (i:=5) (v:=?_) rfl (by kernel_rfl) (by kernel_rfl) (by kernel_rfl) (fun _ _ _ h=>h) (Or.inl ⟨by kernel_rfl,?_⟩) (by assumption) ?_
             rotate_left
             ·intro w hSw
              go_simp
              try with_reducible rfl
             try simp only [Act.put,List.getElem_toArray,List.getElem_cons_succ,List.getElem_cons_zero,List.setIfInBounds_toArray,List.set_cons_zero,List.set_cons_succ]
             refine wpAnyH_take (i:=6) (v:=?_) rfl (by kernel_rfl) (by kernel_rfl) (by kernel_rfl) (fun _ _ _ h=>h) (Or.inl ⟨by kernel_rfl,?_⟩) (by assumption) ?_
             rotate_left
             ·intro w hSw
              go_simp
              try with_reducible rfl
             try simp only [Act.put,List.getElem_toArray,List.getElem_cons_succ,List.getElem_cons_zero,List.setIfInBounds_toArray,List.set_cons_zero,List.set_cons_succ]
             refine wpAnyH_take (i:=7) (v:=?_) rfl (by kernel_rfl) (by kernel_rfl) (by kernel_rfl) (fun _ _ _ h=>h) (Or.inl ⟨by kernel_rfl,?_⟩) (by assumption) ?_
             rotate_left
             ·intro w hSw
              go_simp
              try with_reducible rfl
             try simp only [Act.put,List.getElem_toArray,List.getElem_cons_succ,List.getElem_cons_zero,List.setIfInBounds_toArray,List.set_cons_zero,List.set_cons_succ]
             refine wpAnyH_ready (rs:=[4]) (by kernel_rfl) (by simp) ?_
             refine AllReadyH.cons rfl (fun K hK=>?_) AllReadyH.nil
             go_simp
             go_at_call 78
             refine HCQ.out.mono ?_
             rintro e w12 ⟨rfl,nw,rfl⟩
             go_simp
             refine hK.out _ _ trivial (fun _=>?_)
             clear hK K
             try simp only [Act.put,List.setIfInBounds_toArray,List.set_cons_zero,List.set_cons_succ]
             refine wpAnyH_take (i:=8) (v:=?_) rfl (by kernel_rfl) (by kernel_rfl) (by kernel_rfl) (fun _ _ _ h=>h) (Or.inl ⟨by kernel_rfl,?_⟩) (by assumption) ?_
             rotate_left
             ·intro w hSw
              go_simp
              try with_reducible rfl
             try simp only [Act.put,List.getElem_toArray,List.getElem_cons_succ,List.getElem_cons_zero,List.setIfInBounds_toArray,List.set_cons_zero,List.set_cons_succ]
             have h13:=own_drewN (1 + nw) hown
             have hx13:=hxr.drewN (1 + nw)
             have hf:=rjob_free 6 hown rfl (9 + z)
             have chf:=rjob_cell 6 hown rfl (9 + z) (by omega)
             have h14:=rjob_set (i:=9 + z) (a:=.bool wv) 6 h13 rfl HFI.out
             refine wpAnyH_ready (rs:=[9]) (by kernel_rfl) (by simp) ?_
             refine AllReadyH.cons rfl (fun K hK=>?_) AllReadyH.nil
             go_simp
             refine hK.out _ _ trivial (fun _=>?_)
             clear hK K
             try simp only [Act.put,List.setIfInBounds_toArray,List.set_cons_zero,List.set_cons_succ]
             refine wpAnyH_done (by kernel_rfl) ?_ _
             go_wp2_with fail
             go_roundw
             case rel=>exact ⟨z + 1,by omega,by go_num,hx13.setCell _ _,h14⟩
             case measure=>simp [intOf]; omega
            ·obtain rfl : z = (jNew F (k : Int) 1 (q : Int) rate burst l 0).n:=by omega
             have j2 : ¬(((jNew F (k : Int) 1 (q : Int) rate burst l 0).n : Int) < m.c):=by omega
             have dj : decide (((jNew F (k : Int) 1 (q : Int) rate burst l 0).n : Int) < m.c) = false:=decide_eq_false j2
             go_wp2_with fail
             go_ret2
             rw [← HRES2.out]
             exact RNewPost.yes br (.slice (some ⟨lb,off,none⟩) l.length cap) rfl hxr (own_erase 8 hown rfl)
          ·rw [if_pos (.inr (.inr hcc))] at HRES2
           have dc : (m2.c != m.c) = true:=bne_iff_ne.2 hcc
           clear hp0 hbb hcc
           go_upto_region 22 with (fail)
           go_quiet (fail)
           go_wp2_with fail
           go_ret2
           rw [← HRES2.out]
           exact RNewPost.no rfl (hx8.drewN _) (HBAD _)
         ·rw [if_pos (.inr (.inl hbb))] at HRES2
          have db : (m2.b != -1) = true:=bne_iff_ne.2 hbb
          clear hp0 hbb
          go_upto_region 22 with (fail)
          go_quiet (fail)
          go_wp2_with fail
          go_ret2
          rw [← HRES2.out]
          exact RNewPost.no rfl (hx8.drewN _) (HBAD _)
      ·have hres:=HRES.out
       rw [if_neg hk1] at hres
       have e1 : (kind == 1) = false:=by rw [beq_eq_false_iff_ne]; exact hk1
       have f7:=rjob_free 6 hown rfl 7
       have cf7:=rjob_cell 6 hown rfl 7 (by decide)
       have HB0 : own wr (rshL bs A F++R):=own_erase 6 (own_erase 7 (own_erase 8 hown rfl) rfl) rfl
       by_cases hk2 : kind = 2∧file = -1
       ·rw [if_pos hk2] at hres
        obtain ⟨rfl,rfl⟩:=hk2
        have HRES2:=Lib.hid hres
        have h10 : own _ (rshL bs A F++(rjobP bs br (.slice (some ⟨lb,off,none⟩) l.length cap) (jNew F (k : Int) 2 (-1) rate burst l l.length)::(row 3 1 (.slice (some ⟨lb,off,none⟩) l.length cap) l.length (intVals l)::(pts g (.cells #[.int .i64 (k : Int),.int .i64 2,.int .i64 (-1),.int .i64 rate,.int .i64 burst] 24 (0,0))::R)))):=rjob_set (i:=7) (a:=.int .i64 (l.length : Nat)) 6 hown rfl (rjob_deep bs _ (jNew F (k : Int) 2 (-1) rate burst l 0) (show (2 : Int)≠1 by decide) l.length)
        have hxt:=hxr.setCell (⟨br,7,none⟩ : Addr) (.int .i64 (l.length : Nat))
        have hln : ¬((l.length : Int) < 1):=by rw [beq_eq_false_iff_ne] at l0; omega
        clear hres HRES hk1 e1 HB0 HBAD hown hxr
        go_wp2_with fail
        have hjok:=Lib.hid (HOK.out _ (by simp) (by omega) : (jFill F (jNew F (k : Int) 2 (-1) rate burst l l.length)).Ok)
        have hx12:=Lib.hid hxt
        have hv12 : ∀w' L,own w' (L++(row 3 1 (.slice (some ⟨lb,off,none⟩) l.length cap) l.length (intVals l)::(pts g (.cells #[.int .i64 (k : Int),.int .i64 2,.int .i64 (-1),.int .i64 rate,.int .i64 burst] 24 (0,0))::R)))→IntsAt w' (.slice (some ⟨lb,off,none⟩) l.length cap) (jNew F (k : Int) 2 (-1) rate burst l l.length).list:=fun w' L h=>ints_row 0 (own_swap2 L [row 3 1 (.slice (some ⟨lb,off,none⟩) l.length cap) l.length (intVals l)] h) rfl
        have HV12:=Lib.hid hv12
        have hnn : ((jNew F (k : Int) 2 (-1) rate burst l l.length).n : Int) = m.c:=HCN.out
        have HJ0 : Hid (({ (jNew F (k : Int) 2 (-1) rate burst l l.length) with x:=fillX F (jNew F (k : Int) 2 (-1) rate burst l l.length) 0 } : JobM) = (jNew F (k : Int) 2 (-1) rate burst l l.length)):=Lib.hid rfl
        clear hxt hv12
        go_loopw [12] (fun iv wr=>∃z : Nat,z≤(jNew F (k : Int) 2 (-1) rate burst l l.length).n∧iv = .int .i64 z∧Ext w wr∧own wr (rshL bs A F++(rjobP bs br (.slice (some ⟨lb,off,none⟩) l.length cap) { (jNew F (k : Int) 2 (-1) rate burst l l.length) with x:=fillX F (jNew F (k : Int) 2 (-1) rate burst l l.length) z }::(row 3 1 (.slice (some ⟨lb,off,none⟩) l.length cap) l.length (intVals l)::(pts g (.cells #[.int .i64 (k : Int),.int .i64 2,.int .i64 (-1),.int .i64 rate,.int .i64 burst] 24 (0,0))::R))))) (fun iv _=>(jNew F (k : Int) 2 (-1) rate burst l l.length).n - (intOf iv).toNat)
        case atStart=>exact ⟨0,Nat.zero_le _,rfl,hx12.out,by rw [HJ0.out]; exact h10⟩
        case round=>
         obtain ⟨z,hq,rfl,hxr,hown⟩:=hrel
         by_cases hlt : z < (jNew F (k : Int) 2 (-1) rate burst l l.length).n
         ·have j1 : (0 : Int)≤(z : Int):=by omega
          have j2 : (z : Int) < m.c:=by omega
          have j3 : (z : Int) < 64:=by have:=hjok.out.n; have : (jNew F (k : Int) 2 (-1) rate burst l l.length).n≤64:=this; omega
          have hown2:=own_drew hown
          have hcq:=rjwants_any bs A F HF.out br _ _ (jz_ok hjok.out z) HFL.out (z : Int) _ wr.drew HV12.out hown2
          have HFI:=Lib.hid (rjob_fill bs (.slice (some ⟨lb,off,none⟩) l.length cap) F (jNew F (k : Int) 2 (-1) rate burst l l.length) hjok.out.n hlt)
          have hwx : wantsM F { (jNew F (k : Int) 2 (-1) rate burst l l.length) with x:=fillX F (jNew F (k : Int) 2 (-1) rate burst l l.length) z } (z : Int) = wantsM F (jNew F (k : Int) 2 (-1) rate burst l l.length) (z : Int):=rfl
          rw [hwx] at hcq
          generalize wantsM F (jNew F (k : Int) 2 (-1) rate burst l l.length) (z : Int) = wv at *
          have HCQ:=Lib.hid hcq
          clear hcq hwx
          go_upto_region 34 with (fail)
          refine wp_region_held_drew (S:=fun _=>True) (by kernel_rfl) trivial (fun hHeld=>?_)
          refine wpAnyH_take (i:=0) (v:=?_) rfl (by kernel_rfl) (by kernel_rfl) (by kernel_rfl) (fun _ _ _ h=>h) (Or.inl ⟨by kernel_rfl,?_⟩) (by assumption) ?_
          rotate_left
          ·intro w hSw
           go_simp
           try with_reducible rfl
          try simp only [Act.put,List.getElem_toArray,List.getElem_cons_succ,List.getElem_cons_zero,List.setIfInBounds_toArray,List.set_cons_zero,List.set_cons_succ]
          refine wpAnyH_take (i:=1) (v:=?_) rfl (by kernel_rfl) (by kernel_rfl) (by kernel_rfl) (fun _ _ _ h=>h) (Or.inl ⟨by kernel_rfl,?_⟩) (by assumption) ?_
          rotate_left
          ·intro w hSw
           go_simp
           try with_reducible rfl
          try simp only [Act.put,List.getElem_toArray,List.getElem_cons_succ,List.getElem_cons_zero,List.setIfInBounds_toArray,List.set_cons_zero,List.set_cons_succ]
          refine wpAnyH_take (i:=2) (v:=?_) rfl (by kernel_rfl) (by kernel_rfl) (by kernel_rfl) (fun _ _ _ h=>h) (Or.inl ⟨by kernel_rfl,?_⟩) (by assumption) ?_
          rotate_left
          ·intro w hSw
           go_simp
           try with_reducible rfl
          try simp only [Act.put,List.getElem_toArray,List.getElem_cons_succ,List.getElem_cons_zero,List.setIfInBounds_toArray,List.set_cons_zero,List.set_cons_succ]
          refine wpAnyH_take (i:=3) (v:=?_) rfl (by kernel_rfl) (by kernel_rfl) (by kernel_rfl) (fun _ _ _ h=>h) (Or.inl ⟨by kernel_rfl,?_⟩) (by assumption) ?_
          rotate_left
          ·intro w hSw
           go_simp
           try with_reducible rfl
          try simp only [Act.put,List.getElem_toArray,List.getElem_cons_succ,List.getElem_cons_zero,List.setIfInBounds_toArray,List.set_cons_zero,List.set_cons_succ]
          refine wpAnyH_take (i:=5) (v:=?_) rfl (by kernel_rfl) (by kernel_rfl) (by kernel_rfl) (fun _ _ _ h=>h) (Or.inl ⟨by kernel_rfl,?_⟩) (by assumption) ?_
          rotate_left
          ·intro w hSw
           go_simp
           try with_reducible rfl
          try simp only [Act.put,List.getElem_toArray,List.getElem_cons_succ,List.getElem_cons_zero,List.setIfInBounds_toArray,List.set_cons_zero,List.set_cons_succ]
          refine wpAnyH_take (i:=6) (v:=?_) rfl (by kernel_rfl) (by kernel_rfl) (by kernel_rfl) (fun _ _ _ h=>h) (Or.inl ⟨by kernel_rfl,?_⟩) (by assumption) ?_
          rotate_left
          ·intro w hSw
           go_simp
           try with_reducible rfl
          try simp only [Act.put,List.getElem_toArray,List.getElem_cons_succ,List.getElem_cons_zero,List.setIfInBounds_toArray,List.set_cons_zero,List.set_cons_succ]
          refine wpAnyH_take (i:=7) (v:=?_) rfl (by kernel_rfl) (by kernel_rfl) (by kernel_rfl) (fun _ _ _ h=>h) (Or.inl ⟨by kernel_rfl,?_⟩) (by assumption) ?_
          rotate_left
          ·intro w hSw
           go_simp
           try with_reducible rfl
          try simp only [Act.put,List.getElem_toArray,List.getElem_cons_succ,List.getElem_cons_zero,List.setIfInBounds_toArray,List.set_cons_zero,List.set_cons_succ]
          refine wpAnyH_ready (rs:=[4]) (by kernel_rfl) (by simp) ?_
          refine AllReadyH.cons rfl (fun K hK=>?_) AllReadyH.nil
          go_simp
          go_at_call 78
          refine HCQ.out.mono ?_
          rintro e w12 ⟨rfl,nw,rfl⟩
          go_simp
          refine hK.out _ _ trivial (fun _=>?_)
          clear hK K
          try simp only [Act.put,List.setIfInBounds_toArray,List.set_cons_zero,List.set_cons_succ]
          refine wpAnyH_take (i:=8) (v:=?_) rfl (by kernel_rfl) (by kernel_rfl) (by kernel_rfl) (fun _ _ _ h=>h) (Or.inl ⟨by kernel_rfl,?_⟩) (by assumption) ?_
          rotate_left
          ·intro w hSw
           go_simp
           try with_reducible rfl
          try simp only [Act.put,List.getElem_toArray,List.getElem_cons_succ,List.getElem_cons_zero,List.setIfInBounds_toArray,List.set_cons_zero,List.set_cons_succ]
          have h13:=own_drewN (1 + nw) hown
          have hx13:=hxr.drewN (1 + nw)
          have hf:=rjob_free 6 hown rfl (9 + z)
          have chf:=rjob_cell 6 hown rfl (9 + z) (by omega)
          have h14:=rjob_set (i:=9 + z) (a:=.bool wv) 6 h13 rfl HFI.out
          refine wpAnyH_ready (rs:=[9]) (by kernel_rfl) (by simp) ?_
          refine AllReadyH.cons rfl (fun K hK=>?_) AllReadyH.nil
          go_simp
          refine hK.out _ _ trivial (fun _=>?_)
          clear hK K
          try simp only [Act.put,List.setIfInBounds_toArray,List.set_cons_zero,List.set_cons_succ]
          refine wpAnyH_done (by kernel_rfl) ?_ _
          go_wp2_with fail
          go_roundw
          case rel=>exact ⟨z + 1,by omega,by go_num,hx13.setCell _ _,h14⟩
          case measure=>simp [intOf]; omega
         ·obtain rfl : z = (jNew F (k : Int) 2 (-1) rate burst l l.length).n:=by omega
          have j2 : ¬(((jNew F (k : Int) 2 (-1) rate burst l l.length).n : Int) < m.c):=by omega
          have dj : decide (((jNew F (k : Int) 2 (-1) rate burst l l.length).n : Int) < m.c) = false:=decide_eq_false j2
          go_wp2_with fail
          go_ret2
          rw [← HRES2.out]
          exact RNewPost.yes br (.slice (some ⟨lb,off,none⟩) l.length cap) rfl hxr (own_erase 8 hown rfl)
       ·rw [if_neg hk2] at hres
        by_cases hk3 : kind = 2∨kind = 3
        ·rw [if_pos hk3] at hres
         by_cases hpl : a < 1
         ·rw [if_pos hpl] at hres
          subst hres
          rcases hk3 with rfl | rfl
          ·have hf1 : (file == -1) = false:=by rw [beq_eq_false_iff_ne]; omega
           clear hk1 hk2 HRES HBAD
           go_wp2_with fail
           go_ret2
           exact RNewPost.no rfl hxr HB0
          ·clear hk1 hk2 HRES HBAD
           go_wp2_with fail
           go_ret2
           exact RNewPost.no rfl hxr HB0
         ·rw [if_neg hpl] at hres
          obtain ⟨p,rfl⟩ : ∃p : Nat,a = (p : Int):=⟨a.toNat,by omega⟩
          rw [Int.toNat_natCast] at hres
          have HRES2:=Lib.hid hres
          have hp1 : ¬((p : Int) < 1):=hpl
          have hxt:=hxr.setCell (⟨br,7,none⟩ : Addr) (.int .i64 (p : Nat))
          clear hres HRES HB0 HBAD
          rcases hk3 with rfl | rfl
          ·have hf1 : (file == -1) = false:=by rw [beq_eq_false_iff_ne]; omega
           have h10 : own _ (rshL bs A F++(rjobP bs br (.slice (some ⟨lb,off,none⟩) l.length cap) (jNew F (k : Int) 2 file rate burst l p)::(row 3 1 (.slice (some ⟨lb,off,none⟩) l.length cap) l.length (intVals l)::(pts g (.cells #[.int .i64 (k : Int),.int .i64 2,.int .i64 file,.int .i64 rate,.int .i64 burst] 24 (0,0))::R)))):=rjob_set (i:=7) (a:=.int .i64 (p : Nat)) 6 hown rfl (rjob_deep bs _ (jNew F (k : Int) 2 file rate burst l 0) (show (2 : Int)≠1 by decide) p)
           clear hk1 hk2 e1 hown hxr
           go_wp2_with fail
           have hjok:=Lib.hid (HOK.out _ (by simp) (by omega) : (jFill F (jNew F (k : Int) 2 file rate burst l p)).Ok)
           have hx12:=Lib.hid hxt
           have hv12 : ∀w' L,own w' (L++(row 3 1 (.slice (some ⟨lb,off,none⟩) l.length cap) l.length (intVals l)::(pts g (.cells #[.int .i64 (k : Int),.int .i64 2,.int .i64 file,.int .i64 rate,.int .i64 burst] 24 (0,0))::R)))→IntsAt w' (.slice (some ⟨lb,off,none⟩) l.length cap) (jNew F (k : Int) 2 file rate burst l p).list:=fun w' L h=>ints_row 0 (own_swap2 L [row 3 1 (.slice (some ⟨lb,off,none⟩) l.length cap) l.length (intVals l)] h) rfl
           have HV12:=Lib.hid hv12
           have hnn : ((jNew F (k : Int) 2 file rate burst l p).n : Int) = m.c:=HCN.out
           have HJ0 : Hid (({ (jNew F (k : Int) 2 file rate burst l p) with x:=fillX F (jNew F (k : Int) 2 file rate burst l p) 0 } : JobM) = (jNew F (k : Int) 2 file rate burst l p)):=Lib.hid rfl
           clear hxt hv12
           go_loopw [12] (fun iv wr=>∃z : Nat,z≤(jNew F (k : Int) 2 file rate burst l p).n∧iv = .int .i64 z∧Ext w wr∧own wr (rshL bs A F++(rjobP bs br (.slice (some ⟨lb,off,none⟩) l.length cap) { (jNew F (k : Int) 2 file rate burst l p) with x:=fillX F (jNew F (k : Int) 2 file rate burst l p) z }::(row 3 1 (.slice (some ⟨lb,off,none⟩) l.length cap) l.length (intVals l)::(pts g (.cells #[.int .i64 (k : Int),.int .i64 2,.int .i64 file,.int .i64 rate,.int .i64 burst] 24 (0,0))::R))))) (fun iv _=>(jNew F (k : Int) 2 file rate burst l p).n - (intOf iv).toNat)
           case atStart=>exact ⟨0,Nat.zero_le _,rfl,hx12.out,by rw [HJ0.out]; exact h10⟩
           case round=>
            obtain ⟨z,hq,rfl,hxr,hown⟩:=hrel
            by_cases hlt : z < (jNew F (k : Int) 2 file rate burst l p).n
            ·have j1 : (0 : Int)≤(z : Int):=by omega
             have j2 : (z : Int) < m.c:=by omega
             have j3 : (z : Int) < 64:=by have:=hjok.out.n; have : (jNew F (k : Int) 2 file rate burst l p).n≤64:=this; omega
             have hown2:=own_drew hown
             have hcq:=rjwants_any bs A F HF.out br _ _ (jz_ok hjok.out z) HFL.out (z : Int) _ wr.drew HV12.out hown2
             have HFI:=Lib.hid (rjob_fill bs (.slice (some ⟨lb,off,none⟩) l.length cap) F (jNew F (k : Int) 2 file rate burst l p) hjok.out.n hlt)
             have hwx : wantsM F { (jNew F (k : Int) 2 file rate burst l p) with x:=fillX F (jNew F (k : Int) 2 file rate burst l p) z } (z : Int) = wantsM F (jNew F (k : Int) 2 file rate burst l p) (z : Int):=rfl
             rw [hwx] at hcq
             generalize wantsM F (jNew F (k : Int) 2 file rate burst l p) (z : Int) = wv at *
             have HCQ:=Lib.hid hcq
             clear hcq hwx
             go_upto_region 34 with (fail)
             refine wp_region_held_drew (S:=fun _=>True) (by kernel_rfl) trivial (fun hHeld=>?_)
             refine wpAnyH_take (i:=0) (v:=?_) rfl (by kernel_rfl) (by kernel_rfl) (by kernel_rfl) (fun _ _ _ h=>h) (Or.inl ⟨by kernel_rfl,?_⟩) (by assumption) ?_
             rotate_left
             ·intro w hSw
              go_simp
              try with_reducible rfl
             try simp only [Act.put,List.getElem_toArray,List.getElem_cons_succ,List.getElem_cons_zero,List.setIfInBounds_toArray,List.set_cons_zero,List.set_cons_succ]
             refine wpAnyH_take (i:=1) (v:=?_) rfl (by kernel_rfl) (by kernel_rfl) (by kernel_rfl) (fun _ _ _ h=>h) (Or.inl ⟨by kernel_rfl,?_⟩) (by assumption) ?_
             rotate_left
             ·intro w hSw
              go_simp
              try with_reducible rfl
             try simp only [Act.put,List.getElem_toArray,List.getElem_cons_succ,List.getElem_cons_zero,List.setIfInBounds_toArray,List.set_cons_zero,List.set_cons_succ]
             refine wpAnyH_take (i:=2) (v:=?_) rfl (by kernel_rfl) (by kernel_rfl) (by kernel_rfl) (fun _ _ _ h=>h) (Or.inl ⟨by kernel_rfl,?_⟩) (by assumption) ?_
             rotate_left
             ·intro w hSw
              go_simp
              try with_reducible rfl
             try simp only [Act.put,List.getElem_toArray,List.getElem_cons_succ,List.getElem_cons_zero,List.setIfInBounds_toArray,List.set_cons_zero,List.set_cons_succ]
             refine wpAnyH_take (i:=3) (v:=?_) rfl (by kernel_rfl) (by kernel_rfl) (by kernel_rfl) (fun _ _ _ h=>h) (Or.inl ⟨by kernel_rfl,?_⟩) (by assumption) ?_
             rotate_left
             ·intro w hSw
              go_simp
              try with_reducible rfl
             try simp only [Act.put,List.getElem_toArray,List.getElem_cons_succ,List.getElem_cons_zero,List.setIfInBounds_toArray,List.set_cons_zero,List.set_cons_succ]
             refine wpAnyH_take (i:=5) (v:=?_) rfl (by kernel_rfl) (by kernel_rfl) (by kernel_rfl) (fun _ _ _ h=>h) (Or.inl ⟨by kernel_rfl,?_⟩) (by assumption) ?_
             rotate_left
             ·intro w hSw
              go_simp
              try with_reducible rfl
             try simp only [Act.put,List.getElem_toArray,List.getElem_cons_succ,List.getElem_cons_zero,List.setIfInBounds_toArray,List.set_cons_zero,List.set_cons_succ]
             refine wpAnyH_take (i:=6) (v:=?_) rfl (by kernel_rfl) (by kernel_rfl) (by kernel_rfl) (fun _ _ _ h=>h) (Or.inl ⟨by kernel_rfl,?_⟩) (by assumption) ?_
             rotate_left
             ·intro w hSw
              go_simp
              try with_reducible rfl
             try simp only [Act.put,List.getElem_toArray,List.getElem_cons_succ,List.getElem_cons_zero,List.setIfInBounds_toArray,List.set_cons_zero,List.set_cons_succ]
             refine wpAnyH_take (i:=7) (v:=?_) rfl (by kernel_rfl) (by kernel_rfl) (by kernel_rfl) (fun _ _ _ h=>h) (Or.inl ⟨by kernel_rfl,?_⟩) (by assumption) ?_
             rotate_left
             ·intro w hSw
              go_simp
              try with_reducible rfl
             try simp only [Act.put,List.getElem_toArray,List.getElem_cons_succ,List.getElem_cons_zero,List.setIfInBounds_toArray,List.set_cons_zero,List.set_cons_succ]
             refine wpAnyH_ready (rs:=[4]) (by kernel_rfl) (by simp) ?_
             refine AllReadyH.cons rfl (fun K hK=>?_) AllReadyH.nil
             go_simp
             go_at_call 78
             refine HCQ.out.mono ?_
             rintro e w12 ⟨rfl,nw,rfl⟩
             go_simp
             refine hK.out _ _ trivial (fun _=>?_)
             clear hK K
             try simp only [Act.put,List.setIfInBounds_toArray,List.set_cons_zero,List.set_cons_succ]
             refine wpAnyH_take (i:=8) (v:=?_) rfl (by kernel_rfl) (by kernel_rfl) (by kernel_rfl) (fun _ _ _ h=>h) (Or.inl ⟨by kernel_rfl,?_⟩) (by assumption) ?_
             rotate_left
             ·intro w hSw
              go_simp
              try with_reducible rfl
             try simp only [Act.put,List.getElem_toArray,List.getElem_cons_succ,List.getElem_cons_zero,List.setIfInBounds_toArray,List.set_cons_zero,List.set_cons_succ]
             have h13:=own_drewN (1 + nw) hown
             have hx13:=hxr.drewN (1 + nw)
             have hf:=rjob_free 6 hown rfl (9 + z)
             have chf:=rjob_cell 6 hown rfl (9 + z) (by omega)
             have h14:=rjob_set (i:=9 + z) (a:=.bool wv) 6 h13 rfl HFI.out
             refine wpAnyH_ready (rs:=[9]) (by kernel_rfl) (by simp) ?_
             refine AllReadyH.cons rfl (fun K hK=>?_) AllReadyH.nil
             go_simp
             refine hK.out _ _ trivial (fun _=>?_)
             clear hK K
             try simp only [Act.put,List.setIfInBounds_toArray,List.set_cons_zero,List.set_cons_succ]
             refine wpAnyH_done (by kernel_rfl) ?_ _
             go_wp2_with fail
             go_roundw
             case rel=>exact ⟨z + 1,by omega,by go_num,hx13.setCell _ _,h14⟩
             case measure=>simp [intOf]; omega
            ·obtain rfl : z = (jNew F (k : Int) 2 file rate burst l p).n:=by omega
             have j2 : ¬(((jNew F (k : Int) 2 file rate burst l p).n : Int) < m.c):=by omega
             have dj : decide (((jNew F (k : Int) 2 file rate burst l p).n : Int) < m.c) = false:=decide_eq_false j2
             go_wp2_with fail
             go_ret2
             rw [← HRES2.out]
             exact RNewPost.yes br (.slice (some ⟨lb,off,none⟩) l.length cap) rfl hxr (own_erase 8 hown rfl)
          ·have h10 : own _ (rshL bs A F++(rjobP bs br (.slice (some ⟨lb,off,none⟩) l.length cap) (jNew F (k : Int) 3 file rate burst l p)::(row 3 1 (.slice (some ⟨lb,off,none⟩) l.length cap) l.length (intVals l)::(pts g (.cells #[.int .i64 (k : Int),.int .i64 3,.int .i64 file,.int .i64 rate,.int .i64 burst] 24 (0,0))::R)))):=rjob_set (i:=7) (a:=.int .i64 (p : Nat)) 6 hown rfl (rjob_deep bs _ (jNew F (k : Int) 3 file rate burst l 0) (show (3 : Int)≠1 by decide) p)
           clear hk1 hk2 e1 hown hxr
           go_wp2_with fail
           have hjok:=Lib.hid (HOK.out _ (by simp) (by omega) : (jFill F (jNew F (k : Int) 3 file rate burst l p)).Ok)
           have hx12:=Lib.hid hxt
           have hv12 : ∀w' L,own w' (L++(row 3 1 (.slice (some ⟨lb,off,none⟩) l.length cap) l.length (intVals l)::(pts g (.cells #[.int .i64 (k : Int),.int .i64 3,.int .i64 file,.int .i64 rate,.int .i64 burst] 24 (0,0))::R)))→IntsAt w' (.slice (some ⟨lb,off,none⟩) l.length cap) (jNew F (k : Int) 3 file rate burst l p).list:=fun w' L h=>ints_row 0 (own_swap2 L [row 3 1 (.slice (some ⟨lb,off,none⟩) l.length cap) l.length (intVals l)] h) rfl
           have HV12:=Lib.hid hv12
           have hnn : ((jNew F (k : Int) 3 file rate burst l p).n : Int) = m.c:=HCN.out
           have HJ0 : Hid (({ (jNew F (k : Int) 3 file rate burst l p) with x:=fillX F (jNew F (k : Int) 3 file rate burst l p) 0 } : JobM) = (jNew F (k : Int) 3 file rate burst l p)):=Lib.hid rfl
           clear hxt hv12
           go_loopw [12] (fun iv wr=>∃z : Nat,z≤(jNew F (k : Int) 3 file rate burst l p).n∧iv = .int .i64 z∧Ext w wr∧own wr (rshL bs A F++(rjobP bs br (.slice (some ⟨lb,off,none⟩) l.length cap) { (jNew F (k : Int) 3 file rate burst l p) with x:=fillX F (jNew F (k : Int) 3 file rate burst l p) z }::(row 3 1 (.slice (some ⟨lb,off,none⟩) l.length cap) l.length (intVals l)::(pts g (.cells #[.int .i64 (k : Int),.int .i64 3,.int .i64 file,.int .i64 rate,.int .i64 burst] 24 (0,0))::R))))) (fun iv _=>(jNew F (k : Int) 3 file rate burst l p).n - (intOf iv).toNat)
           case atStart=>exact ⟨0,Nat.zero_le _,rfl,hx12.out,by rw [HJ0.out]; exact h10⟩
           case round=>
            obtain ⟨z,hq,rfl,hxr,hown⟩:=hrel
            by_cases hlt : z < (jNew F (k : Int) 3 file rate burst l p).n
            ·have j1 : (0 : Int)≤(z : Int):=by omega
             have j2 : (z : Int) < m.c:=by omega
             have j3 : (z : Int) < 64:=by have:=hjok.out.n; have : (jNew F (k : Int) 3 file rate burst l p).n≤64:=this; omega
             have hown2:=own_drew hown
             have hcq:=rjwants_any bs A F HF.out br _ _ (jz_ok hjok.out z) HFL.out (z : Int) _ wr.drew HV12.out hown2
             have HFI:=Lib.hid (rjob_fill bs (.slice (some ⟨lb,off,none⟩) l.length cap) F (jNew F (k : Int) 3 file rate burst l p) hjok.out.n hlt)
             have hwx : wantsM F { (jNew F (k : Int) 3 file rate burst l p) with x:=fillX F (jNew F (k : Int) 3 file rate burst l p) z } (z : Int) = wantsM F (jNew F (k : Int) 3 file rate burst l p) (z : Int):=rfl
             rw [hwx] at hcq
             generalize wantsM F (jNew F (k : Int) 3 file rate burst l p) (z : Int) = wv at *
             have HCQ:=Lib.hid hcq
             clear hcq hwx
             go_upto_region 34 with (fail)
             refine wp_region_held_drew (S:=fun _=>True) (by kernel_rfl) trivial (fun hHeld=>?_)
             refine wpAnyH_take (i:=0) (v:=?_) rfl (by kernel_rfl) (by kernel_rfl) (by kernel_rfl) (fun _ _ _ h=>h) (Or.inl ⟨by kernel_rfl,?_⟩) (by assumption) ?_
             rotate_left
             ·intro w hSw
              go_simp
              try with_reducible rfl
             try simp only [Act.put,List.getElem_toArray,List.getElem_cons_succ,List.getElem_cons_zero,List.setIfInBounds_toArray,List.set_cons_zero,List.set_cons_succ]
             refine wpAnyH_take (i:=1) (v:=?_) rfl (by kernel_rfl) (by kernel_rfl) (by kernel_rfl) (fun _ _ _ h=>h) (Or.inl ⟨by kernel_rfl,?_⟩) (by assumption) ?_
             rotate_left
             ·intro w hSw
              go_simp
              try with_reducible rfl
             try simp only [Act.put,List.getElem_toArray,List.getElem_cons_succ,List.getElem_cons_zero,List.setIfInBounds_toArray,List.set_cons_zero,List.set_cons_succ]
             refine wpAnyH_take (i:=2) (v:=?_) rfl (by kernel_rfl) (by kernel_rfl) (by kernel_rfl) (fun _ _ _ h=>h) (Or.inl ⟨by kernel_rfl,?_⟩) (by assumption) ?_
             rotate_left
             ·intro w hSw
              go_simp
              try with_reducible rfl
             try simp only [Act.put,List.getElem_toArray,List.getElem_cons_succ,List.getElem_cons_zero,List.setIfInBounds_toArray,List.set_cons_zero,List.set_cons_succ]
             refine wpAnyH_take (i:=3) (v:=?_) rfl (by kernel_rfl) (by kernel_rfl) (by kernel_rfl) (fun _ _ _ h=>h) (Or.inl ⟨by kernel_rfl,?_⟩) (by assumption) ?_
             rotate_left
             ·intro w hSw
              go_simp
              try with_reducible rfl
             try simp only [Act.put,List.getElem_toArray,List.getElem_cons_succ,List.getElem_cons_zero,List.setIfInBounds_toArray,List.set_cons_zero,List.set_cons_succ]
             refine wpAnyH_take (i:=5) (v:=?_) rfl (by kernel_rfl) (by kernel_rfl) (by kernel_rfl) (fun _ _ _ h=>h) (Or.inl ⟨by kernel_rfl,?_⟩) (by assumption) ?_
             rotate_left
             ·intro w hSw
              go_simp
              try with_reducible rfl
             try simp only [Act.put,List.getElem_toArray,List.getElem_cons_succ,List.getElem_cons_zero,List.setIfInBounds_toArray,List.set_cons_zero,List.set_cons_succ]
             refine wpAnyH_take (i:=6) (v:=?_) rfl (by kernel_rfl) (by kernel_rfl) (by kernel_rfl) (fun _ _ _ h=>h) (Or.inl ⟨by kernel_rfl,?_⟩) (by assumption) ?_
             rotate_left
             ·intro w hSw
              go_simp
              try with_reducible rfl
             try simp only [Act.put,List.getElem_toArray,List.getElem_cons_succ,List.getElem_cons_zero,List.setIfInBounds_toArray,List.set_cons_zero,List.set_cons_succ]
             refine wpAnyH_take (i:=7) (v:=?_) rfl (by kernel_rfl) (by kernel_rfl) (by kernel_rfl) (fun _ _ _ h=>h) (Or.inl ⟨by kernel_rfl,?_⟩) (by assumption) ?_
             rotate_left
             ·intro w hSw
              go_simp
              try with_reducible rfl
             try simp only [Act.put,List.getElem_toArray,List.getElem_cons_succ,List.getElem_cons_zero,List.setIfInBounds_toArray,List.set_cons_zero,List.set_cons_succ]
             refine wpAnyH_ready (rs:=[4]) (by kernel_rfl) (by simp) ?_
             refine AllReadyH.cons rfl (fun K hK=>?_) AllReadyH.nil
             go_simp
             go_at_call 78
             refine HCQ.out.mono ?_
             rintro e w12 ⟨rfl,nw,rfl⟩
             go_simp
             refine hK.out _ _ trivial (fun _=>?_)
             clear hK K
             try simp only [Act.put,List.setIfInBounds_toArray,List.set_cons_zero,List.set_cons_succ]
             refine wpAnyH_take (i:=8) (v:=?_) rfl (by kernel_rfl) (by kernel_rfl) (by kernel_rfl) (fun _ _ _ h=>h) (Or.inl ⟨by kernel_rfl,?_⟩) (by assumption) ?_
             rotate_left
             ·intro w hSw
              go_simp
              try with_reducible rfl
             try simp only [Act.put,List.getElem_toArray,List.getElem_cons_succ,List.getElem_cons_zero,List.setIfInBounds_toArray,List.set_cons_zero,List.set_cons_succ]
             have h13:=own_drewN (1 + nw) hown
             have hx13:=hxr.drewN (1 + nw)
             have hf:=rjob_free 6 hown rfl (9 + z)
             have chf:=rjob_cell 6 hown rfl (9 + z) (by omega)
             have h14:=rjob_set (i:=9 + z) (a:=.bool wv) 6 h13 rfl HFI.out
             refine wpAnyH_ready (rs:=[9]) (by kernel_rfl) (by simp) ?_
             refine AllReadyH.cons rfl (fun K hK=>?_) AllReadyH.nil
             go_simp
             refine hK.out _ _ trivial (fun _=>?_)
             clear hK K
             try simp only [Act.put,List.setIfInBounds_toArray,List.set_cons_zero,List.set_cons_succ]
             refine wpAnyH_done (by kernel_rfl) ?_ _
             go_wp2_with fail
             go_roundw
             case rel=>exact ⟨z + 1,by omega,by go_num,hx13.setCell _ _,h14⟩
             case measure=>simp [intOf]; omega
            ·obtain rfl : z = (jNew F (k : Int) 3 file rate burst l p).n:=by omega
             have j2 : ¬(((jNew F (k : Int) 3 file rate burst l p).n : Int) < m.c):=by omega
             have dj : decide (((jNew F (k : Int) 3 file rate burst l p).n : Int) < m.c) = false:=decide_eq_false j2
             go_wp2_with fail
             go_ret2
             rw [← HRES2.out]
             exact RNewPost.yes br (.slice (some ⟨lb,off,none⟩) l.length cap) rfl hxr (own_erase 8 hown rfl)
        ·rw [if_neg hk3] at hres
         subst hres
         have e2 : (kind == 2) = false:=by rw [beq_eq_false_iff_ne]; omega
         have e3 : (kind == 3) = false:=by rw [beq_eq_false_iff_ne]; omega
         clear hk1 hk2 hk3 HRES HBAD
         go_wp2_with fail
         go_ret2
         exact RNewPost.no rfl hxr HB0
end Go.Proofs.YtbpblokfiajpjabGreatDoor

namespace Go.Proofs.YtbpblokfiajpjabGreatDoor
open Go.RowKit Go.SL Go.Crc
attribute [local go_sem ↓] Go.wp_at_zero Go.wp_at_succ
set_option maxRecDepth 100000 in
set_option maxHeartbeats 80000000 in
theorem jnew_k1 (bs : Nat) (A : Nat→Nat×Nat×Nat) (F : ShM) (hF : ShOk F) (root kind file rate burst : Int) (hl5 : (walkM F root).1.length≤5) (hz : ¬(walkM F root).2≠0) (h0 : ¬(walkM F root).1.length = 0) (ho : ¬newOk rate burst = false) (hk1 : kind = 1) (R : List SL.HP) (w : World) (H : own w (shL bs A F++R)) :
  Calls Tryz.prog 15 #[.pointer (some ⟨bs,0,none⟩),.agg #[.int .i64 root,.int .i64 kind,.int .i64 file,.int .i64 rate,.int .i64 burst]] w (NewPost bs A F (newM F root kind file rate burst) R w):=by
 have HK1:=Lib.hid hk1
 clear hk1
 have ha:=own_alloc H (.cells #[.int .i64 root,.int .i64 kind,.int .i64 file,.int .i64 rate,.int .i64 burst] 24)
 have hxa:=(Ext.refl w).alloc (.cells #[.int .i64 root,.int .i64 kind,.int .i64 file,.int .i64 rate,.int .i64 burst] 24)
 have hb : own _ (shL bs A F++(_::R)):=own_behind (shL bs A F) ha
 have hwk:=fun R' w' h=>walk_any bs A F hF root R' w' h
 have hfl:=walk_files F root
 have hwc : 0≤(walkM F root).2:=walkGo_code
 have HWK:=Lib.hid hwk
 unfold WalkPost at HWK
 generalize hres : newM F root kind file rate burst = res
 unfold newM at hres
 rw [if_neg hz] at hres
 have hz0 : (walkM F root).2 = 0:=by omega
 rw [hz0,show errV 0 = .nilIface from rfl] at HWK
 rw [if_neg h0] at hres
 rw [if_neg ho] at hres
 have HRES:=Lib.hid hres
 clear hres
 have hroot:=walk_root h0
 obtain ⟨k,m,hxk,hk,hFk⟩:=isFile_nat hroot
 have hcl:=clus_range hF hroot
 have hcm : clus F root = m.c:=by rw [hxk]; exact clus_of hFk
 have HB:=Lib.hid (fun R' w' h=>bucket_new_yes rate burst R' w' (by simpa using ho) h)
 have HH:=Lib.hid (fun R' w' h=>shead_any (b:=bs) (A:=A) hk hFk R' w' h)
 have HN:=Lib.hid (fun R' w' h=>bset_new (clus F root).toNat (by omega) R' w' h)
 have hcn : (((clus F root).toNat : Nat) : Int) = m.c:=by omega
 simp only [hcn] at HN
 have HCN:=Lib.hid hcn
 clear hcn
 have HF:=Lib.hid hF
 have HFL:=Lib.hid hfl
 have i1 : (0 : Int)≤(k : Int):=by omega
 have i2 : (k : Int) < 5:=by omega
 subst hxk
 have hok : ∀deep,kind = 1∨kind = 2∨kind = 3→deep≤(walkM F (k : Int)).1.length→(jFill F (jNew F k kind file rate burst (walkM F (k : Int)).1 deep)).Ok:=fun deep hkk hd=>jNew_ok hF hroot hl5 h0 (by simpa using ho) hkk hd
 have HOK:=Lib.hid hok
 clear hok
 generalize hL : (walkM F (k : Int)).1 = l at *
 have l0 : ((l.length : Int) == 0) = false:=by rw [beq_eq_false_iff_ne]; omega
 go_enter Tryz.func15,Tryz.ntmps15
 go_upto_region 1 with (fail)
 generalize w.heap.size = g at *
 generalize w.alloc (.cells #[.int .i64 (k : Int),.int .i64 kind,.int .i64 file,.int .i64 rate,.int .i64 burst] 24) = w1 at *
 have c0:=(own_cells 6 hb rfl).1 0
 go_wp2_with fail
 refine (HWK.out _ _ hb).mono ?_
 rintro e w2 ⟨v,rfl,hx2,h2⟩
 obtain ⟨ao,lb,off,cap,rfl,-,-,-,-⟩:=(ints_row 0 h2 rfl).form
 have d3:=(own_cells 7 h2 rfl).1 3
 have d4:=(own_cells 7 h2 rfl).1 4
 clear c0
 go_wp2_with fail
 refine (HB.out _ _ h2).mono ?_
 rintro e w3 ⟨rfl,hx3,h3⟩
 generalize w2.heap.size = bb at *
 have h3s:=own_swap2 [bucketAt bb rate burst burst,row 3 1 (.slice ao l.length cap) l.length (intVals l)] (shL bs A F) h3
 clear d3 d4
 have d0:=(own_cells 8 h3s rfl).1 0
 have g1:=sh_cell h3s hk
 rw [slotV_some hFk] at g1
 go_upto_region 9 with (fail)
 go_still_tail 6,(by kernel_rfl)
 change wpList _ _ _ _ _ w3.drew
 go_wp2_with fail
 refine (HH.out _ _ (own_drew h3s)).mono ?_
 rintro e w4 ⟨rfl,hx4,h4⟩
 unfold headV
 have hf0:=head_f0 m.c m.p m.b
 clear d0 g1
 go_wp2_with fail
 refine (HN.out _ _ h4).mono ?_
 rintro e w5 ⟨bt,rfl,hx5,h5⟩
 have d1:=(own_cells 9 h5 rfl).1 1
 have d2:=(own_cells 9 h5 rfl).1 2
 go_upto_region 14 with (fail)
 have h6:=own_alloc h5 (.cells #[.pointer (some ⟨bs,0,none⟩),.int .i64 kind,.int .i64 file,.slice ao l.length cap,.int .i64 0,.pointer (some ⟨bt,0,none⟩),.int .i64 0,.int .i64 2,.pointer (some ⟨bb,0,none⟩)] 137)
 have hx6:=(hx5.alloc (.cells #[.pointer (some ⟨bs,0,none⟩),.int .i64 kind,.int .i64 file,.slice ao l.length cap,.int .i64 0,.pointer (some ⟨bt,0,none⟩),.int .i64 0,.int .i64 2,.pointer (some ⟨bb,0,none⟩)] 137))
 generalize w5.heap.size = bj at *
 generalize w5.alloc (.cells #[.pointer (some ⟨bs,0,none⟩),.int .i64 kind,.int .i64 file,.slice ao l.length cap,.int .i64 0,.pointer (some ⟨bt,0,none⟩),.int .i64 0,.int .i64 2,.pointer (some ⟨bb,0,none⟩)] 137) = w6 at *
 clear d1 d2
 have d1:=(own_cells 10 h6 rfl).1 1
 have d2:=(own_cells 10 h6 rfl).1 2
 have f4:=(own_cells 0 h6 rfl).2 4
 have hrow:=ints_row 9 h6 rfl
 have HPL:=Lib.hid (place_any _ l file hl5 w6 hrow)
 have hX:=(((hxa.trans hx2).trans hx3).drew.trans hx4).trans hx6
 have HX:=Lib.hid hX
 have H6:=Lib.hid h6
 have HBAD : ∀n,own (w6.drewN n) (shL bs A F++R):=fun n=>own_drewN n (own_drop (own_drop (own_erase 8 (own_erase 9 (own_erase 10 h6 rfl) rfl) rfl)))
 have hpr:=place_range l file
 have HP:=Lib.hid hL
 clear hL
 generalize placeM l file = pl at *
 clear hrow hX hx2 hx3 hx4 hx5 hx6 hxa h2 h3 h3s h4 h5 hb ha H HWK HB HN HH hwk
 go_wp2_with fail
 refine HPL.out.mono ?_
 rintro e w7 ⟨rfl,rfl⟩
 have gs:=@sh_cell bs A F _ w6 (own_swap2 [_,_] (shL bs A F) h6)
 have H7:=Lib.hid h6
 clear h6 hF hl5 h0 hz hz0 hwc HPL hcl hcm
 have hk1:=HK1.out
 clear HK1
 subst hk1
 have hres:=HRES.out
 rw [if_pos rfl] at hres
 by_cases hfi : isFileB F file = false
 ·rw [if_pos hfi] at hres
  subst hres
  have hnf : ¬isFile F file:=fun h=>absurd (isFileB_iff.2 h) (by rw [hfi]; decide)
  clear hfi HRES
  by_cases hf0 : file < 0
  ·have df : decide (file < 0) = true:=decide_eq_true hf0
   go_upto_region 17 with (fail)
   go_quiet (fail)
   go_wp2_with fail
   go_ret2
   exact NewPost.no rfl (HX.out.drewN _) (HBAD _)
  ·have df : decide (file < 0) = false:=decide_eq_false hf0
   by_cases hf5 : 5≤file
   ·have dg : decide (5≤file) = true:=decide_eq_true hf5
    go_upto_region 17 with (fail)
    go_quiet (fail)
    go_wp2_with fail
    go_ret2
    exact NewPost.no rfl (HX.out.drewN _) (HBAD _)
   ·have dg : decide (5≤file) = false:=decide_eq_false hf5
    obtain ⟨q,rfl⟩ : ∃q : Nat,file = (q : Int):=⟨file.toNat,by omega⟩
    have q1 : (0 : Int)≤(q : Int):=by omega
    have q2 : (q : Int) < 5:=by omega
    have hFq : F q = none:=by
     cases e : F q with
     | none=>rfl
     | some x=>exact (hnf ⟨by omega,by omega,x,by rw [Int.toNat_natCast]; exact e⟩).elim
    have gq:=gs (k:=q) (by omega)
    rw [slotV_none hFq] at gq
    clear gs hnf
    go_upto_region 17 with (fail)
    go_quiet (fail)
    go_wp2_with fail
    go_ret2
    exact NewPost.no rfl (HX.out.drewN _) (HBAD _)
 ·rw [if_neg hfi] at hres
  obtain ⟨hq0,hq5',m2,hFq'⟩:=(isFileB_iff.1 (by simpa using hfi) : isFile F file)
  obtain ⟨q,rfl⟩ : ∃q : Nat,file = (q : Int):=⟨file.toNat,by omega⟩
  have hq5 : q < 5:=by omega
  have hFq : F q = some m2:=by rw [Int.toNat_natCast] at hFq'; exact hFq'
  have df : decide ((q : Int) < 0) = false:=decide_eq_false (by omega)
  have dg : decide (5≤(q : Int)) = false:=decide_eq_false (by omega)
  have q1 : (0 : Int)≤(q : Int):=by omega
  have q2 : (q : Int) < 5:=by omega
  have gq:=gs (k:=q) hq5
  rw [slotV_some hFq] at gq
  have hbk : bkOf F (q : Int) = m2.b:=by unfold bkOf; rw [Int.toNat_natCast,hFq]
  have hcl2 : clus F (q : Int) = m2.c:=clus_of hFq
  have hclk : clus F (k : Int) = m.c:=clus_of hFk
  rw [hbk,hcl2,hclk] at hres
  have HH2:=Lib.hid (fun R' w' h=>shead_any (b:=bs) (A:=A) hq5 hFq R' w' h)
  have HRES2:=Lib.hid hres
  clear gs hfi hq0 hq5' hFq' hbk hcl2 hclk HRES hres
  go_upto_region 17 with (fail)
  go_quiet (fail)
  have h8 : own (w6.drewN nq) _:=own_drewN nq H7.out
  have hx8:=Lib.hid (HX.out.drewN nq)
  have HB8:=Lib.hid (HBAD nq)
  have e1:=(own_cells 10 h8 rfl).1 2
  clear d1 d2 gq HBAD HX
  generalize w6.drewN nq = w8 at *
  have gq : w8.cell? ⟨bs,q,none⟩ = some (.pointer (some ⟨(A q).1,0,none⟩)):=by have:=sh_cell (own_swap2 [_,_] (shL bs A F) h8) hq5; rw [slotV_some hFq] at this; exact this
  by_cases hp0 : 0≤pl
  ·rw [if_pos (.inl hp0)] at HRES2
   have dp : decide (0≤pl) = true:=decide_eq_true hp0
   clear hp0
   go_upto_region 19 with (fail)
   go_quiet (fail)
   go_wp2_with fail
   go_ret2
   rw [← HRES2.out]
   exact NewPost.no rfl (hx8.out.drewN _) (own_drewN _ HB8.out)
  ·have dp : decide (0≤pl) = false:=decide_eq_false hp0
   have HP0:=Lib.hid hp0
   clear hp0
   have hx9:=Lib.hid hx8.out.drew
   have h9:=own_swap2 [_,_] (shL bs A F) (own_drew h8)
   have hgq:=fun (w' : World) (L : List SL.HP) (h : own w' (shL bs A F++L))=>sh_cell h hq5
   rw [slotV_some hFq] at hgq
   have HGQ:=Lib.hid hgq
   clear hx8 HB8 e1 gq hgq
   have f2:=head_f2 m2.c m2.p m2.b
   have f0:=head_f0 m2.c m2.p m2.b
   unfold headV at HH2
   go_upto_region 19 with (fail)
   refine wp_region_held_drew (S:=(fun w'=>w'.cell? ⟨g,2,none⟩ = some (.int .i64 (q : Int))∧w'.cell? ⟨bs,q,none⟩ = some (.pointer (some ⟨(A q).1,0,none⟩)))) (by kernel_rfl) ⟨(own_cells 10 h9 rfl).1 2,HGQ.out _ _ h9⟩ (fun hHeld=>?_)
   refine wpAnyH_take (i:=0) (v:=?_) rfl (by kernel_rfl) (by kernel_rfl) (by kernel_rfl) (fun _ _ _ h=>h) (Or.inl ⟨by kernel_rfl,?_⟩) (by assumption) ?_
   rotate_left
   ·intro w hSw
    go_simp
    try with_reducible rfl
   try simp only [Act.put,List.getElem_toArray,List.getElem_cons_succ,List.getElem_cons_zero,List.setIfInBounds_toArray,List.set_cons_zero,List.set_cons_succ]
   refine wpAnyH_take (i:=1) (v:=?_) rfl (by kernel_rfl) (by kernel_rfl) (by kernel_rfl) (fun _ _ _ h=>h) (Or.inl ⟨by kernel_rfl,?_⟩) (by assumption) ?_
   rotate_left
   ·intro w hSw
    go_simp
    try with_reducible rfl
   try simp only [Act.put,List.getElem_toArray,List.getElem_cons_succ,List.getElem_cons_zero,List.setIfInBounds_toArray,List.set_cons_zero,List.set_cons_succ]
   refine wpAnyH_take (i:=2) (v:=?_) rfl (by kernel_rfl) (by kernel_rfl) (by kernel_rfl) (fun _ _ _ h=>h) (Or.inl ⟨by kernel_rfl,?_⟩) (by assumption) ?_
   rotate_left
   ·intro w hSw
    go_simp
    try with_reducible rfl
   try simp only [Act.put,List.getElem_toArray,List.getElem_cons_succ,List.getElem_cons_zero,List.setIfInBounds_toArray,List.set_cons_zero,List.set_cons_succ]
   refine wpAnyH_take (i:=3) (v:=?_) rfl (by kernel_rfl) (by kernel_rfl) (by kernel_rfl) (fun _ _ _ h=>h) (Or.inl ⟨by kernel_rfl,?_⟩) (by assumption) ?_
   rotate_left
   ·intro w hSw
    go_simp
    try with_reducible rfl
   try simp only [Act.put,List.getElem_toArray,List.getElem_cons_succ,List.getElem_cons_zero,List.setIfInBounds_toArray,List.set_cons_zero,List.set_cons_succ]
   refine wpAnyH_take (i:=4) (v:=?_) rfl (by kernel_rfl) (by kernel_rfl) (by kernel_rfl) (fun _ _ _ h=>h) (Or.inl ⟨by kernel_rfl,?_⟩) (by assumption) ?_
   rotate_left
   ·intro w hSw
    go_simp
    try with_reducible rfl
   try simp only [Act.put,List.getElem_toArray,List.getElem_cons_succ,List.getElem_cons_zero,List.setIfInBounds_toArray,List.set_cons_zero,List.set_cons_succ]
   refine wpAnyH_take (i:=5) (v:=?_) rfl (by kernel_rfl) (by kernel_rfl) (by kernel_rfl) (fun _ _ _ h=>h) (Or.inl ⟨by kernel_rfl,?_⟩) (by assumption) ?_
   rotate_left
   ·intro w hSw
    go_simp
    try with_reducible rfl
   try simp only [Act.put,List.getElem_toArray,List.getElem_cons_succ,List.getElem_cons_zero,List.setIfInBounds_toArray,List.set_cons_zero,List.set_cons_succ]
   refine wpAnyH_take (i:=6) (v:=?_) rfl (by kernel_rfl) (by kernel_rfl) (by kernel_rfl) (fun _ _ _ h=>h) (Or.inl ⟨by kernel_rfl,?_⟩) (by assumption) ?_
   rotate_left
   ·intro w hSw
    go_simp
    try with_reducible rfl
   try simp only [Act.put,List.getElem_toArray,List.getElem_cons_succ,List.getElem_cons_zero,List.setIfInBounds_toArray,List.set_cons_zero,List.set_cons_succ]
   refine wpAnyH_take (i:=7) (v:=?_) rfl (by kernel_rfl) (by kernel_rfl) (by kernel_rfl) (fun _ _ _ h=>h) (Or.inl ⟨by kernel_rfl,?_⟩) (by assumption) ?_
   rotate_left
   ·intro w hSw
    go_simp
    try with_reducible rfl
   try simp only [Act.put,List.getElem_toArray,List.getElem_cons_succ,List.getElem_cons_zero,List.setIfInBounds_toArray,List.set_cons_zero,List.set_cons_succ]
   refine wpAnyH_take (i:=8) (v:=?_) rfl (by kernel_rfl) (by kernel_rfl) (by kernel_rfl) (fun _ _ _ h=>h) (Or.inl ⟨by kernel_rfl,?_⟩) (by assumption) ?_
   rotate_left
   ·intro w hSw
    go_simp
    try with_reducible rfl
   try simp only [Act.put,List.getElem_toArray,List.getElem_cons_succ,List.getElem_cons_zero,List.setIfInBounds_toArray,List.set_cons_zero,List.set_cons_succ]
   refine wpAnyH_ready (rs:=[9]) (by kernel_rfl) (by simp) ?_
   refine AllReadyH.cons rfl (fun K hK=>?_) AllReadyH.nil
   go_simp
   go_at_call 71
   refine (HH2.out _ _ h9).mono ?_
   rintro e wa ⟨rfl,hxa,ha⟩
   go_simp
   refine hK.out _ _ ⟨(own_cells 10 ha rfl).1 2,HGQ.out _ _ ha⟩ (fun _=>?_)
   clear hK K h9
   try simp only [Act.put,List.setIfInBounds_toArray,List.set_cons_zero,List.set_cons_succ]
   by_cases hbb : m2.b = -1
   ·have db : (m2.b != -1) = false:=by rw [hbb]; rfl
    have HBB:=Lib.hid hbb
    clear hbb
    refine wpAnyH_take (i:=10) (v:=?_) rfl (by kernel_rfl) (by kernel_rfl) (by kernel_rfl) (fun _ _ _ h=>h) (Or.inl ⟨by kernel_rfl,?_⟩) (by assumption) ?_
    rotate_left
    ·intro w hSw
     go_simp
     try with_reducible rfl
    try simp only [Act.put,List.getElem_toArray,List.getElem_cons_succ,List.getElem_cons_zero,List.setIfInBounds_toArray,List.set_cons_zero,List.set_cons_succ]
    refine wpAnyH_take (i:=11) (v:=?_) rfl (by kernel_rfl) (by kernel_rfl) (by kernel_rfl) (fun _ _ _ h=>h) (Or.inl ⟨by kernel_rfl,?_⟩) (by assumption) ?_
    rotate_left
    ·intro w hSw
     go_simp
     try with_reducible rfl
    try simp only [Act.put,List.getElem_toArray,List.getElem_cons_succ,List.getElem_cons_zero,List.setIfInBounds_toArray,List.set_cons_zero,List.set_cons_succ]
    refine wpAnyH_take (i:=12) (v:=?_) rfl (by kernel_rfl) (by kernel_rfl) (by kernel_rfl) (fun _ _ _ h=>h) (Or.inl ⟨by kernel_rfl,?_⟩) (by assumption) ?_
    rotate_left
    ·intro w hSw
     go_simp
     try with_reducible rfl
    try simp only [Act.put,List.getElem_toArray,List.getElem_cons_succ,List.getElem_cons_zero,List.setIfInBounds_toArray,List.set_cons_zero,List.set_cons_succ]
    refine wpAnyH_take (i:=13) (v:=?_) rfl (by kernel_rfl) (by kernel_rfl) (by kernel_rfl) (fun _ _ _ h=>h) (Or.inl ⟨by kernel_rfl,?_⟩) (by assumption) ?_
    rotate_left
    ·intro w hSw
     go_simp
     try with_reducible rfl
    try simp only [Act.put,List.getElem_toArray,List.getElem_cons_succ,List.getElem_cons_zero,List.setIfInBounds_toArray,List.set_cons_zero,List.set_cons_succ]
    refine wpAnyH_take (i:=14) (v:=?_) rfl (by kernel_rfl) (by kernel_rfl) (by kernel_rfl) (fun _ _ _ h=>h) (Or.inl ⟨by kernel_rfl,?_⟩) (by assumption) ?_
    rotate_left
    ·intro w hSw
     go_simp
     try with_reducible rfl
    try simp only [Act.put,List.getElem_toArray,List.getElem_cons_succ,List.getElem_cons_zero,List.setIfInBounds_toArray,List.set_cons_zero,List.set_cons_succ]
    refine wpAnyH_take (i:=15) (v:=?_) rfl (by kernel_rfl) (by kernel_rfl) (by kernel_rfl) (fun _ _ _ h=>h) (Or.inl ⟨by kernel_rfl,?_⟩) (by assumption) ?_
    rotate_left
    ·intro w hSw
     go_simp
     try with_reducible rfl
    try simp only [Act.put,List.getElem_toArray,List.getElem_cons_succ,List.getElem_cons_zero,List.setIfInBounds_toArray,List.set_cons_zero,List.set_cons_succ]
    refine wpAnyH_take (i:=16) (v:=?_) rfl (by kernel_rfl) (by kernel_rfl) (by kernel_rfl) (fun _ _ _ h=>h) (Or.inl ⟨by kernel_rfl,?_⟩) (by assumption) ?_
    rotate_left
    ·intro w hSw
     go_simp
     try with_reducible rfl
    try simp only [Act.put,List.getElem_toArray,List.getElem_cons_succ,List.getElem_cons_zero,List.setIfInBounds_toArray,List.set_cons_zero,List.set_cons_succ]
    refine wpAnyH_take (i:=17) (v:=?_) rfl (by kernel_rfl) (by kernel_rfl) (by kernel_rfl) (fun _ _ _ h=>h) (Or.inl ⟨by kernel_rfl,?_⟩) (by assumption) ?_
    rotate_left
    ·intro w hSw
     go_simp
     try with_reducible rfl
    try simp only [Act.put,List.getElem_toArray,List.getElem_cons_succ,List.getElem_cons_zero,List.setIfInBounds_toArray,List.set_cons_zero,List.set_cons_succ]
    refine wpAnyH_take (i:=18) (v:=?_) rfl (by kernel_rfl) (by kernel_rfl) (by kernel_rfl) (fun _ _ _ h=>h) (Or.inl ⟨by kernel_rfl,?_⟩) (by assumption) ?_
    rotate_left
    ·intro w hSw
     go_simp
     try with_reducible rfl
    try simp only [Act.put,List.getElem_toArray,List.getElem_cons_succ,List.getElem_cons_zero,List.setIfInBounds_toArray,List.set_cons_zero,List.set_cons_succ]
    refine wpAnyH_take (i:=19) (v:=?_) rfl (by kernel_rfl) (by kernel_rfl) (by kernel_rfl) (fun _ _ _ h=>h) (Or.inl ⟨by kernel_rfl,?_⟩) (by assumption) ?_
    rotate_left
    ·intro w hSw
     go_simp
     try with_reducible rfl
    try simp only [Act.put,List.getElem_toArray,List.getElem_cons_succ,List.getElem_cons_zero,List.setIfInBounds_toArray,List.set_cons_zero,List.set_cons_succ]
    refine wpAnyH_take (i:=22) (v:=?_) rfl (by kernel_rfl) (by kernel_rfl) (by kernel_rfl) (fun _ _ _ h=>h) (Or.inl ⟨by kernel_rfl,?_⟩) (by assumption) ?_
    rotate_left
    ·intro w hSw
     go_simp
     try with_reducible rfl
    try simp only [Act.put,List.getElem_toArray,List.getElem_cons_succ,List.getElem_cons_zero,List.setIfInBounds_toArray,List.set_cons_zero,List.set_cons_succ]
    refine wpAnyH_ready (rs:=[20]) (by kernel_rfl) (by simp) ?_
    refine AllReadyH.cons rfl (fun K hK=>?_) AllReadyH.nil
    go_simp
    go_at_call 71
    refine (HH2.out _ _ ha).mono ?_
    rintro e wb ⟨rfl,hxb,hb⟩
    go_simp
    refine hK.out _ _ ⟨(own_cells 10 hb rfl).1 2,HGQ.out _ _ hb⟩ (fun _=>?_)
    clear hK K ha
    try simp only [Act.put,List.setIfInBounds_toArray,List.set_cons_zero,List.set_cons_succ]
    by_cases hcc : m2.c = m.c
    ·have HCC:=Lib.hid hcc
     rw [if_neg (by rintro (h | h | h); exact HP0.out h; exact h HBB.out; exact h HCC.out)] at HRES2
     have dc : (m2.c != m.c) = false:=by rw [hcc]; simp
     clear hcc
     refine wpAnyH_take (i:=21) (v:=?_) rfl (by kernel_rfl) (by kernel_rfl) (by kernel_rfl) (fun _ _ _ h=>h) (Or.inl ⟨by kernel_rfl,?_⟩) (by assumption) ?_
     rotate_left
     ·intro w hSw
      go_simp
      try with_reducible rfl
     try simp only [Act.put,List.getElem_toArray,List.getElem_cons_succ,List.getElem_cons_zero,List.setIfInBounds_toArray,List.set_cons_zero,List.set_cons_succ]
     refine wpAnyH_take (i:=23) (v:=?_) rfl (by kernel_rfl) (by kernel_rfl) (by kernel_rfl) (fun _ _ _ h=>h) (Or.inl ⟨by kernel_rfl,?_⟩) (by assumption) ?_
     rotate_left
     ·intro w hSw
      go_simp
      try with_reducible rfl
     try simp only [Act.put,List.getElem_toArray,List.getElem_cons_succ,List.getElem_cons_zero,List.setIfInBounds_toArray,List.set_cons_zero,List.set_cons_succ]
     refine wpAnyH_take (i:=24) (v:=?_) rfl (by kernel_rfl) (by kernel_rfl) (by kernel_rfl) (fun _ _ _ h=>h) (Or.inl ⟨by kernel_rfl,?_⟩) (by assumption) ?_
     rotate_left
     ·intro w hSw
      go_simp
      try with_reducible rfl
     try simp only [Act.put,List.getElem_toArray,List.getElem_cons_succ,List.getElem_cons_zero,List.setIfInBounds_toArray,List.set_cons_zero,List.set_cons_succ]
     refine wpAnyH_done (by kernel_rfl) ?_ _
     have f4:=(own_cells 6 hb rfl).2 4
     have c4:=(own_cells 6 hb rfl).1 4
     have h10:=own_set (i:=4) (v:=.int .i64 (l.length : Nat)) 6 hb rfl
     have hxt:=((hx9.out.trans hxa).trans hxb).setCell (⟨bj,4,none⟩ : Addr) (.int .i64 (l.length : Nat))
     clear hb f0 f2
     go_wp2_with fail
     have hjok:=Lib.hid (HOK.out _ (by simp) (by omega) : (jFill F (jNew F (k : Int) 1 (q : Int) rate burst l 0)).Ok)
     have hx12:=Lib.hid hxt
     have hv12 : ∀w' L,own w' (L++(row 3 1 (.slice ao l.length cap) l.length (intVals l)::(pts g (.cells #[.int .i64 (k : Int),.int .i64 1,.int .i64 (q : Int),.int .i64 rate,.int .i64 burst] 24 (0,0))::R)))→IntsAt w' (.slice ao l.length cap) (jNew F (k : Int) 1 (q : Int) rate burst l 0).list:=fun w' L h=>ints_row 0 (own_swap2 L [row 3 1 (.slice ao l.length cap) l.length (intVals l)] h) rfl
     have HV12:=Lib.hid hv12
     have hnn : ((jNew F (k : Int) 1 (q : Int) rate burst l 0).n : Int) = m.c:=HCN.out
     have HJ0 : Hid (({ (jNew F (k : Int) 1 (q : Int) rate burst l 0) with x:=fillX F (jNew F (k : Int) 1 (q : Int) rate burst l 0) 0 } : JobM) = (jNew F (k : Int) 1 (q : Int) rate burst l 0)):=Lib.hid rfl
     clear hxt hv12
     go_loopw [154] (fun iv wr=>∃z : Nat,z≤(jNew F (k : Int) 1 (q : Int) rate burst l 0).n∧iv = .int .i64 z∧Ext w wr∧own wr (shL bs A F++(jobL bs bj bt bb (.slice ao l.length cap) { (jNew F (k : Int) 1 (q : Int) rate burst l 0) with x:=fillX F (jNew F (k : Int) 1 (q : Int) rate burst l 0) z }++(row 3 1 (.slice ao l.length cap) l.length (intVals l)::(pts g (.cells #[.int .i64 (k : Int),.int .i64 1,.int .i64 (q : Int),.int .i64 rate,.int .i64 burst] 24 (0,0))::R))))) (fun iv _=>(jNew F (k : Int) 1 (q : Int) rate burst l 0).n - (intOf iv).toNat)
     case atStart=>exact ⟨0,Nat.zero_le _,rfl,hx12.out,by rw [HJ0.out]; exact h10⟩
     case round=>
      obtain ⟨z,hq,rfl,hxr,hown⟩:=hrel
      by_cases hlt : z < (jNew F (k : Int) 1 (q : Int) rate burst l 0).n
      ·have j1 : (0 : Int)≤(z : Int):=by omega
       have j2 : (z : Int) < m.c:=by omega
       have j3 : (z : Int) < 64:=by have:=hjok.out.n; have : (jNew F (k : Int) 1 (q : Int) rate burst l 0).n≤64:=this; omega
       go_wp2_with fail
       refine (jwants_any bs A F HF.out bj bt bb _ _ (jz_ok hjok.out z) HFL.out (z : Int) _ wr HV12.out hown).mono ?_
       rintro e w12 ⟨rfl,nn,rfl⟩
       have hp:=bset_put bt (jNew F (k : Int) 1 (q : Int) rate burst l 0).n _ hjok.out.n (jz_ok hjok.out z).x (z : Int) (wantsM F { (jNew F (k : Int) 1 (q : Int) rate burst l 0) with x:=fillX F (jNew F (k : Int) 1 (q : Int) rate burst l 0) z } (z : Int)) 7 _ (own_drewN nn hown) rfl
       have HPT:=Lib.hid hp
       clear hp
       generalize hwv : wantsM F { (jNew F (k : Int) 1 (q : Int) rate burst l 0) with x:=fillX F (jNew F (k : Int) 1 (q : Int) rate burst l 0) z } (z : Int) = wv at *
       go_wp2_with fail
       refine HPT.out.mono ?_
       rintro e w13 ⟨rfl,hx13,h13⟩
       go_wp2_with fail
       go_roundw
       case rel=>exact ⟨z + 1,by omega,by go_num,(hxr.drewN nn).trans hx13,jz_next (by rw [hwv]; exact h13)⟩
       case measure=>simp [intOf]; omega
      ·obtain rfl : z = (jNew F (k : Int) 1 (q : Int) rate burst l 0).n:=by omega
       have j2 : ¬(((jNew F (k : Int) 1 (q : Int) rate burst l 0).n : Int) < m.c):=by omega
       have dj : decide (((jNew F (k : Int) 1 (q : Int) rate burst l 0).n : Int) < m.c) = false:=decide_eq_false j2
       go_wp2_with fail
       refine (jturn_any bs bj bt bb _ _ hjok.out _ wr (own_swap2 (shL bs A F) (jobL bs bj bt bb (.slice ao l.length cap) (jFill F (jNew F (k : Int) 1 (q : Int) rate burst l 0))) hown)).mono ?_
       rintro e w12 ⟨rfl,hx12',h12⟩
       rw [turnM_two rfl] at h12
       go_wp2_with fail
       go_ret2
       rw [← HRES2.out]
       exact NewPost.yes bj bt bb (.slice ao l.length cap) rfl (hxr.trans hx12') (own_erase 10 (own_swap2 (jobL bs bj bt bb (.slice ao l.length cap) (jFill F (jNew F (k : Int) 1 (q : Int) rate burst l 0))) (shL bs A F) h12) rfl)
    ·rw [if_pos (.inr (.inr hcc))] at HRES2
     have dc : (m2.c != m.c) = true:=bne_iff_ne.2 hcc
     refine wpAnyH_take (i:=21) (v:=?_) rfl (by kernel_rfl) (by kernel_rfl) (by kernel_rfl) (fun _ _ _ h=>h) (Or.inl ⟨by kernel_rfl,?_⟩) (by assumption) ?_
     rotate_left
     ·intro w hSw
      go_simp
      try with_reducible rfl
     try simp only [Act.put,List.getElem_toArray,List.getElem_cons_succ,List.getElem_cons_zero,List.setIfInBounds_toArray,List.set_cons_zero,List.set_cons_succ]
     refine wpAnyH_take (i:=23) (v:=?_) rfl (by kernel_rfl) (by kernel_rfl) (by kernel_rfl) (fun _ _ _ h=>h) (Or.inl ⟨by kernel_rfl,?_⟩) (by assumption) ?_
     rotate_left
     ·intro w hSw
      go_simp
      try with_reducible rfl
     try simp only [Act.put,List.getElem_toArray,List.getElem_cons_succ,List.getElem_cons_zero,List.setIfInBounds_toArray,List.set_cons_zero,List.set_cons_succ]
     refine wpAnyH_take (i:=24) (v:=?_) rfl (by kernel_rfl) (by kernel_rfl) (by kernel_rfl) (fun _ _ _ h=>h) (Or.inl ⟨by kernel_rfl,?_⟩) (by assumption) ?_
     rotate_left
     ·intro w hSw
      go_simp
      try with_reducible rfl
     try simp only [Act.put,List.getElem_toArray,List.getElem_cons_succ,List.getElem_cons_zero,List.setIfInBounds_toArray,List.set_cons_zero,List.set_cons_succ]
     refine wpAnyH_done (by kernel_rfl) ?_ _
     go_wp2_with fail
     go_ret2
     rw [← HRES2.out]
     exact NewPost.no rfl ((hx9.out.trans hxa).trans hxb) (own_erase 6 (own_erase 7 (own_erase 8 (own_erase 9 (own_erase 10 hb rfl) rfl) rfl) rfl) rfl)
   ·rw [if_pos (.inr (.inl hbb))] at HRES2
    have db : (m2.b != -1) = true:=bne_iff_ne.2 hbb
    refine wpAnyH_take (i:=10) (v:=?_) rfl (by kernel_rfl) (by kernel_rfl) (by kernel_rfl) (fun _ _ _ h=>h) (Or.inl ⟨by kernel_rfl,?_⟩) (by assumption) ?_
    rotate_left
    ·intro w hSw
     go_simp
     try with_reducible rfl
    try simp only [Act.put,List.getElem_toArray,List.getElem_cons_succ,List.getElem_cons_zero,List.setIfInBounds_toArray,List.set_cons_zero,List.set_cons_succ]
    refine wpAnyH_take (i:=11) (v:=?_) rfl (by kernel_rfl) (by kernel_rfl) (by kernel_rfl) (fun _ _ _ h=>h) (Or.inl ⟨by kernel_rfl,?_⟩) (by assumption) ?_
    rotate_left
    ·intro w hSw
     go_simp
     try with_reducible rfl
    try simp only [Act.put,List.getElem_toArray,List.getElem_cons_succ,List.getElem_cons_zero,List.setIfInBounds_toArray,List.set_cons_zero,List.set_cons_succ]
    refine wpAnyH_take (i:=12) (v:=?_) rfl (by kernel_rfl) (by kernel_rfl) (by kernel_rfl) (fun _ _ _ h=>h) (Or.inl ⟨by kernel_rfl,?_⟩) (by assumption) ?_
    rotate_left
    ·intro w hSw
     go_simp
     try with_reducible rfl
    try simp only [Act.put,List.getElem_toArray,List.getElem_cons_succ,List.getElem_cons_zero,List.setIfInBounds_toArray,List.set_cons_zero,List.set_cons_succ]
    refine wpAnyH_take (i:=13) (v:=?_) rfl (by kernel_rfl) (by kernel_rfl) (by kernel_rfl) (fun _ _ _ h=>h) (Or.inl ⟨by kernel_rfl,?_⟩) (by assumption) ?_
    rotate_left
    ·intro w hSw
     go_simp
     try with_reducible rfl
    try simp only [Act.put,List.getElem_toArray,List.getElem_cons_succ,List.getElem_cons_zero,List.setIfInBounds_toArray,List.set_cons_zero,List.set_cons_succ]
    refine wpAnyH_take (i:=14) (v:=undef) rfl (by kernel_rfl) (by kernel_rfl) (by kernel_rfl) (fun _ _ _ h=>h) (Or.inr ⟨by kernel_rfl,rfl⟩) (by assumption) ?_
    try simp only [Act.put,List.getElem_toArray,List.getElem_cons_succ,List.getElem_cons_zero,List.setIfInBounds_toArray,List.set_cons_zero,List.set_cons_succ]
    refine wpAnyH_take (i:=15) (v:=undef) rfl (by kernel_rfl) (by kernel_rfl) (by kernel_rfl) (fun _ _ _ h=>h) (Or.inr ⟨by kernel_rfl,rfl⟩) (by assumption) ?_
    try simp only [Act.put,List.getElem_toArray,List.getElem_cons_succ,List.getElem_cons_zero,List.setIfInBounds_toArray,List.set_cons_zero,List.set_cons_succ]
    refine wpAnyH_take (i:=16) (v:=undef) rfl (by kernel_rfl) (by kernel_rfl) (by kernel_rfl) (fun _ _ _ h=>h) (Or.inr ⟨by kernel_rfl,rfl⟩) (by assumption) ?_
    try simp only [Act.put,List.getElem_toArray,List.getElem_cons_succ,List.getElem_cons_zero,List.setIfInBounds_toArray,List.set_cons_zero,List.set_cons_succ]
    refine wpAnyH_take (i:=17) (v:=undef) rfl (by kernel_rfl) (by kernel_rfl) (by kernel_rfl) (fun _ _ _ h=>h) (Or.inr ⟨by kernel_rfl,rfl⟩) (by assumption) ?_
    try simp only [Act.put,List.getElem_toArray,List.getElem_cons_succ,List.getElem_cons_zero,List.setIfInBounds_toArray,List.set_cons_zero,List.set_cons_succ]
    refine wpAnyH_take (i:=18) (v:=undef) rfl (by kernel_rfl) (by kernel_rfl) (by kernel_rfl) (fun _ _ _ h=>h) (Or.inr ⟨by kernel_rfl,rfl⟩) (by assumption) ?_
    try simp only [Act.put,List.getElem_toArray,List.getElem_cons_succ,List.getElem_cons_zero,List.setIfInBounds_toArray,List.set_cons_zero,List.set_cons_succ]
    refine wpAnyH_take (i:=19) (v:=undef) rfl (by kernel_rfl) (by kernel_rfl) (by kernel_rfl) (fun _ _ _ h=>h) (Or.inr ⟨by kernel_rfl,rfl⟩) (by assumption) ?_
    try simp only [Act.put,List.getElem_toArray,List.getElem_cons_succ,List.getElem_cons_zero,List.setIfInBounds_toArray,List.set_cons_zero,List.set_cons_succ]
    refine wpAnyH_take (i:=20) (v:=undef) rfl (by kernel_rfl) (by kernel_rfl) (by kernel_rfl) (fun _ _ _ h=>h) (Or.inr ⟨by kernel_rfl,rfl⟩) (by assumption) ?_
    try simp only [Act.put,List.getElem_toArray,List.getElem_cons_succ,List.getElem_cons_zero,List.setIfInBounds_toArray,List.set_cons_zero,List.set_cons_succ]
    refine wpAnyH_take (i:=21) (v:=undef) rfl (by kernel_rfl) (by kernel_rfl) (by kernel_rfl) (fun _ _ _ h=>h) (Or.inr ⟨by kernel_rfl,rfl⟩) (by assumption) ?_
    try simp only [Act.put,List.getElem_toArray,List.getElem_cons_succ,List.getElem_cons_zero,List.setIfInBounds_toArray,List.set_cons_zero,List.set_cons_succ]
    refine wpAnyH_take (i:=22) (v:=undef) rfl (by kernel_rfl) (by kernel_rfl) (by kernel_rfl) (fun _ _ _ h=>h) (Or.inr ⟨by kernel_rfl,rfl⟩) (by assumption) ?_
    try simp only [Act.put,List.getElem_toArray,List.getElem_cons_succ,List.getElem_cons_zero,List.setIfInBounds_toArray,List.set_cons_zero,List.set_cons_succ]
    refine wpAnyH_take (i:=23) (v:=undef) rfl (by kernel_rfl) (by kernel_rfl) (by kernel_rfl) (fun _ _ _ h=>h) (Or.inr ⟨by kernel_rfl,rfl⟩) (by assumption) ?_
    try simp only [Act.put,List.getElem_toArray,List.getElem_cons_succ,List.getElem_cons_zero,List.setIfInBounds_toArray,List.set_cons_zero,List.set_cons_succ]
    refine wpAnyH_take (i:=24) (v:=?_) rfl (by kernel_rfl) (by kernel_rfl) (by kernel_rfl) (fun _ _ _ h=>h) (Or.inl ⟨by kernel_rfl,?_⟩) (by assumption) ?_
    rotate_left
    ·intro w hSw
     go_simp
     try with_reducible rfl
    try simp only [Act.put,List.getElem_toArray,List.getElem_cons_succ,List.getElem_cons_zero,List.setIfInBounds_toArray,List.set_cons_zero,List.set_cons_succ]
    refine wpAnyH_done (by kernel_rfl) ?_ _
    go_wp2_with fail
    go_ret2
    rw [← HRES2.out]
    exact NewPost.no rfl (hx9.out.trans hxa) (own_erase 6 (own_erase 7 (own_erase 8 (own_erase 9 (own_erase 10 ha rfl) rfl) rfl) rfl) rfl)
end Go.Proofs.YtbpblokfiajpjabGreatDoor
