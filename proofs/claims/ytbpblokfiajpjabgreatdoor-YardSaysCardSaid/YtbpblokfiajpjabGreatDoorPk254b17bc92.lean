/- Lemmas on which YardSays stands: the texts Jobs15 Chain21 Jobs16 JobsSaysLaw Yard10 Yard11 Yard12 Yard13 YardP3. No conditions. -/
import Derived.Test.YtbpblokfiajpjabGreatDoorPka957ff6141
set_option linter.all false
set_option maxRecDepth 1000000
set_option maxHeartbeats 32000000
namespace Go.Proofs.YtbpblokfiajpjabGreatDoor
open Go.RowKit Go.SL Go.Crc
attribute [local go_sem ↓] Go.wp_at_zero Go.wp_at_succ
theorem N4 (bs : Nat) (A : Nat -> Nat×Nat) (F : ShM) (hF : ShOk F) (root kind file rate burst : Int) (hl5 : (lt F root).1.length <= 5) (R : List SL.HP) (w : World) (H : own w (rshL bs A F++R)) :
  Calls Tryz.prog 16 #[.pointer (some ⟨bs,0,none⟩),.agg #[.int .i64 root,.int .i64 kind,.int .i64 file,.int .i64 rate,.int .i64 burst]] w (yq bs A F (newM F root kind file rate burst) R w):=by
 have ha:=li H (.cells #[.int .i64 root,.int .i64 kind,.int .i64 file,.int .i64 rate,.int .i64 burst] 24)
 have hxa:=(zR w).alloc (.cells #[.int .i64 root,.int .i64 kind,.int .i64 file,.int .i64 rate,.int .i64 burst] 24)
 have hb : own _ (rshL bs A F++(_::R)):=lr (rshL bs A F) ha
 have hwk:=fun R' w' h=>Ea bs A F hF root R' w' h
 have hfl:=Ak F root
 have hnd:=@GJ F root
 have hwc : 0 <= (lt F root).2:=zv
 have HWK:=zh hwk
 unfold zO at HWK
 generalize hres : newM F root kind file rate burst = res
 unfold newM at hres
 by_cases hz : (lt F root).2≠0
 ·rw [zt hz] at hres
  subst hres
  have hp : 0 < (lt F root).2:=by omega
  generalize lt F root = S at *
  obtain ⟨l,wc⟩:=S
  dsimp only at hwc HWK ⊢
  clear hz hwk hfl ha hnd
  go_enter Tryz.func16,Tryz.ntmps16
  go_upto_region 1 with (fail)
  generalize w.heap.size = g at *
  generalize w.alloc (.cells #[.int .i64 root,.int .i64 kind,.int .i64 file,.int .i64 rate,.int .i64 burst] 24) = w1 at *
  have c0:=(ld 6 hb rfl).1 0
  go_wp2_with fail
  refine (HWK.out _ _ hb).mono ?_
  rintro e w2 ⟨v,rfl,hx2,h2⟩
  go_wp2_with fail
  go_ret2
  exact yq.no rfl (hxa.trans hx2) (lh 6 (le h2) rfl)
 ·rw [zq hz] at hres
  have hz0 : (lt F root).2 = 0:=by omega
  rw [hz0] at HWK
  by_cases h0 : (lt F root).1.length = 0
  ·rw [zt h0] at hres
   subst hres
   have hl0 : (lt F root).1 = []:=List.length_eq_zero_iff.1 h0
   rw [hl0] at HWK
   clear hz hwk hfl ha h0 hl0 hz0 hwc hnd
   go_enter Tryz.func16,Tryz.ntmps16
   go_upto_region 1 with (fail)
   generalize w.heap.size = g at *
   generalize w.alloc (.cells #[.int .i64 root,.int .i64 kind,.int .i64 file,.int .i64 rate,.int .i64 burst] 24) = w1 at *
   have c0:=(ld 6 hb rfl).1 0
   go_wp2_with fail
   refine (HWK.out _ _ hb).mono ?_
   rintro e w2 ⟨v,rfl,hx2,h2⟩
   obtain ⟨ao,lb,off,cap,rfl,-,-,-,-⟩:=(l9 0 h2 rfl).form
   go_wp2_with fail
   go_ret2
   exact yq.no rfl (hxa.trans hx2) (lh 6 (le h2) rfl)
  ·rw [zq h0] at hres
   by_cases ho : Bq rate burst = false
   ·rw [zt ho] at hres
    subst hres
    generalize (lt F root).1 = l at *
    have l0 : ((l.length : Int) == 0) = false:=by rw [zb]; omega
    simp only [Bq,decide_eq_false_iff_not] at ho
    clear hz hwk hfl ha h0 hz0 hwc hnd
    go_enter Tryz.func16,Tryz.ntmps16
    go_upto_region 1 with (fail)
    generalize w.heap.size = g at *
    generalize w.alloc (.cells #[.int .i64 root,.int .i64 kind,.int .i64 file,.int .i64 rate,.int .i64 burst] 24) = w1 at *
    have c0:=(ld 6 hb rfl).1 0
    go_wp2_with fail
    refine (HWK.out _ _ hb).mono ?_
    rintro e w2 ⟨v,rfl,hx2,h2⟩
    obtain ⟨ao,lb,off,cap,rfl,-,-,-,-⟩:=(l9 0 h2 rfl).form
    have d3:=(ld 7 h2 rfl).1 3
    have d4:=(ld 7 h2 rfl).1 4
    have HQ : own w2 (rshL bs A F++R):=lh 6 (le h2) rfl
    have HX:=hxa.trans hx2
    clear c0 h2 hb hxa hx2
    by_cases q1 : rate < 0
    ·clear ho
     go_wp2_with fail
     go_ret2
     exact yq.no rfl HX HQ
    ·by_cases q2 : 1000 < rate
     ·clear ho
      go_wp2_with fail
      go_ret2
      exact yq.no rfl HX HQ
     ·by_cases q3 : burst < 0
      ·clear ho
       go_wp2_with fail
       go_ret2
       exact yq.no rfl HX HQ
      ·have q4 : 1000 < burst:=by omega
       clear ho
       go_wp2_with fail
       go_ret2
       exact yq.no rfl HX HQ
   ·rw [zq ho] at hres
    have HRES:=zh hres
    clear hres
    have ho : Bq rate burst = true:=by simpa using ho
    have hroot:=FA h0
    obtain ⟨k,m,hxk,hk,hFk⟩:=lT hroot
    have hcl:=zI hF hroot
    have hcm : clus F root = m.c:=by rw [hxk]; exact yr hFk
    have hcn : (((clus F root).toNat : Nat) : Int) = m.c:=by omega
    have HCN:=zh hcn
    clear hcn
    have HF:=zh hF
    have HFL:=zh hfl
    have HND:=zh (hnd hz0)
    have i1 : (0 : Int) <= (k : Int):=by omega
    have i2 : (k : Int) < 5:=by omega
    obtain ⟨r1,r2,r3,r4⟩:=Lx.1 ho
    have p1 : decide (rate < 0) = false:=zf (by omega)
    have p2 : decide (1000 < rate) = false:=zf (by omega)
    have p3 : decide (burst < 0) = false:=zf (by omega)
    have p4 : decide (1000 < burst) = false:=zf (by omega)
    subst hxk
    have hok : ∀deep,kind = 1 \/ kind = 2 \/ kind = 3 -> deep <= (lt F (k : Int)).1.length -> (Ah F (jNew F k kind file rate burst (lt F (k : Int)).1 deep)).Ok:=fun deep hkk hd=>ED hF hroot hl5 h0 ho hkk hd
    have HOK:=zh hok
    clear hok hnd
    generalize hL : (lt F (k : Int)).1 = l at *
    have l0 : ((l.length : Int) == 0) = false:=by rw [zb]; omega
    go_enter Tryz.func16,Tryz.ntmps16
    go_upto_region 1 with (fail)
    generalize w.heap.size = g at *
    generalize w.alloc (.cells #[.int .i64 (k : Int),.int .i64 kind,.int .i64 file,.int .i64 rate,.int .i64 burst] 24) = w1 at *
    have c0:=(ld 6 hb rfl).1 0
    go_wp2_with fail
    refine (HWK.out _ _ hb).mono ?_
    rintro e w2 ⟨v,rfl,hx2,h2⟩
    obtain ⟨ao,lb,off,cap,rfl,-,-,hao,-⟩:=(l9 0 h2 rfl).form
    obtain rfl:=hao (by omega)
    have d0:=(ld 7 h2 rfl).1 0
    have d1:=(ld 7 h2 rfl).1 1
    have d2:=(ld 7 h2 rfl).1 2
    have d3:=(ld 7 h2 rfl).1 3
    have d4:=(ld 7 h2 rfl).1 4
    clear c0
    go_upto_region 9 with (fail)
    have h6:=li h2 (.cells ((((((((((((Tryz.zeroCells149.setIfInBounds 0 (.pointer (some ⟨bs,0,none⟩))).setIfInBounds 1 (.int .i64 (k : Int))).setIfInBounds 2 (.int .i64 kind)).setIfInBounds 3 (.int .i64 file)).setIfInBounds 4 (.int .i64 rate)).setIfInBounds 5 (.int .i64 burst)).setIfInBounds 6 (.slice (some ⟨lb,off,none⟩) l.length cap)).setIfInBounds 73 (.int .i64 (-1))).setIfInBounds 74 (.int .i64 2)).setIfInBounds 75 (.int .i64 rate)).setIfInBounds 76 (.int .i64 burst)).setIfInBounds 77 (.int .i64 burst)) 149)
    have hx6:=(hxa.trans hx2).alloc (.cells ((((((((((((Tryz.zeroCells149.setIfInBounds 0 (.pointer (some ⟨bs,0,none⟩))).setIfInBounds 1 (.int .i64 (k : Int))).setIfInBounds 2 (.int .i64 kind)).setIfInBounds 3 (.int .i64 file)).setIfInBounds 4 (.int .i64 rate)).setIfInBounds 5 (.int .i64 burst)).setIfInBounds 6 (.slice (some ⟨lb,off,none⟩) l.length cap)).setIfInBounds 73 (.int .i64 (-1))).setIfInBounds 74 (.int .i64 2)).setIfInBounds 75 (.int .i64 rate)).setIfInBounds 76 (.int .i64 burst)).setIfInBounds 77 (.int .i64 burst)) 149)
    generalize w2.heap.size = br at *
    generalize w2.alloc (.cells ((((((((((((Tryz.zeroCells149.setIfInBounds 0 (.pointer (some ⟨bs,0,none⟩))).setIfInBounds 1 (.int .i64 (k : Int))).setIfInBounds 2 (.int .i64 kind)).setIfInBounds 3 (.int .i64 file)).setIfInBounds 4 (.int .i64 rate)).setIfInBounds 5 (.int .i64 burst)).setIfInBounds 6 (.slice (some ⟨lb,off,none⟩) l.length cap)).setIfInBounds 73 (.int .i64 (-1))).setIfInBounds 74 (.int .i64 2)).setIfInBounds 75 (.int .i64 rate)).setIfInBounds 76 (.int .i64 burst)).setIfInBounds 77 (.int .i64 burst)) 149) = w6 at *
    rw [Va bs (.slice (some ⟨lb,off,none⟩) l.length cap) (k : Int) kind file rate burst l] at h6
    generalize hV : Value.slice (some ⟨lb,off,none⟩) l.length cap = V at *
    have h7 : own w6 (rshL bs A F++(lB bs br V (jBox (k : Int) kind file rate burst l)::(row 3 1 V l.length (lo l)::(pts g (.cells #[.int .i64 (k : Int),.int .i64 kind,.int .i64 file,.int .i64 rate,.int .i64 burst] 24 (0,0))::R)))):=lp [_,_] (rshL bs A F) h6
    have HX:=zh hx6
    have HV:=zh hV
    clear hV hx6 hxa hx2 h2 h6 hb ha d0 d1 d2 d3 d4 hwk hfl HWK h0 hz hz0 hwc ho hroot hcl hcm hao r1 r2 r3 r4 p1 p2 p3 p4 hF
    have d0:=(ld 8 h7 rfl).1 0
    have g1:=yo h7 hk
    rw [oT hFk] at g1
    obtain ⟨-,-,-,x1,-,-,-,-,-⟩:=A7 hk hFk h7
    go_quiet (fail)
    have h8:=ll nq h7
    have hx8:=HX.out.drewN nq
    clear d0 g1 x1 h7 HX
    generalize w6.drewN nq = w8 at *
    have hf8:=oV 6 h8 rfl 8
    have chf8:=lq 6 h8 rfl 8 (by decide)
    have h9:=yZ (i:=8) (a:=.int .i64 ((clus F (k : Int)).toNat : Nat)) 6 h8 rfl (WU bs V _ (clus F (k : Int)).toNat)
    rw [HCN.out] at h9
    have h9 : own _ (rshL bs A F++(lB bs br V (jNew F (k : Int) kind file rate burst l 0)::(row 3 1 V l.length (lo l)::(pts g (.cells #[.int .i64 (k : Int),.int .i64 kind,.int .i64 file,.int .i64 rate,.int .i64 burst] 24 (0,0))::R)))):=h9
    have hx9:=hx8.setCell ⟨br,8,none⟩ (.int .i64 m.c)
    have H9:=zh h9
    have HX9:=zh hx9
    have hlg:=@Se file l 0 HND.out
    have HP:=zh hL
    clear hL
    have hpr:=DY l file
    rw [show zX file 0 l = Ab l file from rfl] at hlg
    generalize Ab l file = pl at *
    have HLG:=zh hlg
    clear hlg h8 hx8 h9 hx9
    have hV:=HV.out
    subst hV
    go_wp2_with fail
    generalize w8.setCell ⟨br,8,none⟩ (.int .i64 m.c) = w9 at *
    clear hf8 chf8
    go_loopw [10,11] (fun av iv wr=>∃(q : Nat) (a : Int),q <= l.length /\ av = .int .i64 a /\ iv = .int .i64 q /\ ES file q (l.drop q) a = pl /\ Ext w wr /\ own wr (rshL bs A F++(lB bs br (.slice (some ⟨lb,off,none⟩) l.length cap) (jNew F (k : Int) kind file rate burst l 0)::(row 3 1 (.slice (some ⟨lb,off,none⟩) l.length cap) l.length (lo l)::(pts g (.cells #[.int .i64 (k : Int),.int .i64 kind,.int .i64 file,.int .i64 rate,.int .i64 burst] 24 (0,0))::R))))) (fun _ iv _=>l.length - (intOf iv).toNat)
    case atStart=>exact ⟨0,-1,Nat.zero_le _,rfl,rfl,HLG.out,HX9.out,H9.out⟩
    case round=>
     clear H9 HX9 HLG
     obtain ⟨q,a,hq,rfl,rfl,hgo,hxr,hown⟩:=hrel
     by_cases hlt : q < l.length
     ·have c1:=oq (l9 7 hown rfl) hlt
      have d2:=(ld 8 hown rfl).1 2
      rw [zY 0 hlt,ES] at hgo
      have j1 : (0 : Int) <= (q : Int):=by omega
      have j2 : (q : Int) < (l.length : Int):=by omega
      generalize l.getD q 0 = x at *
      by_cases hx : x = file
      ·rw [zt hx] at hgo
       have HGO:=zh hgo
       have d0 : (x == file) = true:=by rw [hx]; simp
       clear hgo hx
       go_upto_region 15 with (fail)
       go_quiet (fail)
       go_wp2_with fail
       go_roundw
       case rel=>exact ⟨q + 1,(q : Int),by omega,rfl,by go_num,HGO.out,hxr.drewN _,ll _ hown⟩
       case measure=>simp [intOf]; omega
      ·rw [zq hx] at hgo
       have HGO:=zh hgo
       have d0 : (x == file) = false:=by rw [zb]; exact hx
       clear hgo hx
       go_upto_region 15 with (fail)
       go_quiet (fail)
       go_wp2_with fail
       go_roundw
       case rel=>exact ⟨q + 1,a,by omega,rfl,by go_num,HGO.out,hxr.drewN _,ll _ hown⟩
       case measure=>simp [intOf]; omega
     ·obtain rfl : l.length = q:=by omega
      rw [List.drop_of_length_le (Nat.le_refl _)] at hgo
      have hgo' : a = pl:=hgo
      subst hgo'
      clear hgo hq hlt
      have d1:=(ld 8 hown rfl).1 1
      have d2:=(ld 8 hown rfl).1 2
      have HBAD : ∀n,own (wr.drewN n) (rshL bs A F++R):=fun n=>ll n (lh 6 (lh 7 (lh 8 hown rfl) rfl) rfl)
      by_cases hk1 : kind = 1
      case' pos=>
       subst hk1
       have hres:=HRES.out
       rw [zt rfl] at hres
       by_cases hfi : FY F file = false
       ·rw [zt hfi] at hres
        subst hres
        have hnf : ¬ly F file:=fun h=>absurd (CB.2 h) (by rw [hfi]; decide)
        clear hfi HRES
        by_cases hf0 : file < 0
        ·have df : decide (file < 0) = true:=zg hf0
         go_upto_region 20 with (fail)
         go_quiet (fail)
         go_wp2_with fail
         go_ret2
         exact yq.no rfl (hxr.drewN _) (HBAD _)
        ·have df : decide (file < 0) = false:=zf hf0
         by_cases hf5 : 5 <= file
         ·have dg : decide (5 <= file) = true:=zg hf5
          go_upto_region 20 with (fail)
          go_quiet (fail)
          go_wp2_with fail
          go_ret2
          exact yq.no rfl (hxr.drewN _) (HBAD _)
         ·have dg : decide (5 <= file) = false:=zf hf5
          obtain ⟨q,rfl⟩ : ∃q : Nat,file = (q : Int):=⟨file.toNat,by omega⟩
          have q1 : (0 : Int) <= (q : Int):=by omega
          have q2 : (q : Int) < 5:=by omega
          have hFq : F q = none:=by
           cases e : F q with
           | none=>rfl
           | some x=>exact (hnf ⟨by omega,by omega,x,by rw [zn]; exact e⟩).elim
          have gq:=yo hown (k:=q) (by omega)
          rw [CD hFq] at gq
          clear hnf
          go_upto_region 20 with (fail)
          go_quiet (fail)
          go_wp2_with fail
          go_ret2
          exact yq.no rfl (hxr.drewN _) (HBAD _)
       rw [zq hfi] at hres
       obtain ⟨hq0,hq5',m2,hFq'⟩:=(CB.1 (by simpa using hfi) : ly F file)
       obtain ⟨q,rfl⟩ : ∃q : Nat,file = (q : Int):=⟨file.toNat,by omega⟩
       have hq5 : q < 5:=by omega
       have hFq : F q = some m2:=by rw [zn] at hFq'; exact hFq'
       have df : decide ((q : Int) < 0) = false:=zf (by omega)
       have dg : decide (5 <= (q : Int)) = false:=zf (by omega)
       have q1 : (0 : Int) <= (q : Int):=by omega
       have q2 : (q : Int) < 5:=by omega
       have gq:=yo hown hq5
       rw [oT hFq] at gq
       have hbk : bkOf F (q : Int) = m2.b:=by unfold bkOf; rw [zn,hFq]
       have hcl2 : clus F (q : Int) = m2.c:=yr hFq
       have hclk : clus F (k : Int) = m.c:=yr hFk
       rw [hbk,hcl2,hclk] at hres
       have HRES2:=zh hres
       clear hfi hq0 hq5' hFq' hbk hcl2 hclk HRES hres
       go_upto_region 20 with (fail)
       go_quiet (fail)
       have h8:=ll nq hown
       have hx8:=hxr.drewN nq
       clear d1 d2 gq HBAD hown hxr
       generalize wr.drewN nq = w8 at *
       have d2:=(ld 8 h8 rfl).1 2
       have HBAD : ∀n,own (w8.drewN n) (rshL bs A F++R):=fun n=>ll n (lh 6 (lh 7 (lh 8 h8 rfl) rfl) rfl)
       have gq:=yo h8 hq5
       rw [oT hFq] at gq
       obtain ⟨-,-,-,x1,-,x3,-,-,-⟩:=A7 hq5 hFq h8
       by_cases hp0 : 0 <= a
       ·rw [zt (.inl hp0)] at HRES2
        have dp : decide (0 <= a) = true:=zg hp0
        clear hp0
        go_upto_region 22 with (fail)
        go_quiet (fail)
        go_wp2_with fail
        go_ret2
        rw [<- HRES2.out]
        exact yq.no rfl (hx8.drewN _) (HBAD _)
       have dp : decide (0 <= a) = false:=zf hp0
       by_cases hbb : m2.b = -1
       rotate_left
       ·rw [zt (.inr (.inl hbb))] at HRES2
        have db : (m2.b != -1) = true:=bne_iff_ne.2 hbb
        clear hp0 hbb
        go_upto_region 22 with (fail)
        go_quiet (fail)
        go_wp2_with fail
        go_ret2
        rw [<- HRES2.out]
        exact yq.no rfl (hx8.drewN _) (HBAD _)
       have db : (m2.b != -1) = false:=by rw [hbb]; rfl
       by_cases hcc : m2.c = m.c
       rotate_left
       ·rw [zt (.inr (.inr hcc))] at HRES2
        have dc : (m2.c != m.c) = true:=bne_iff_ne.2 hcc
        clear hp0 hbb hcc
        go_upto_region 22 with (fail)
        go_quiet (fail)
        go_wp2_with fail
        go_ret2
        rw [<- HRES2.out]
        exact yq.no rfl (hx8.drewN _) (HBAD _)
       rw [zq (by rintro (h | h | h); exact hp0 h; exact h hbb; exact h hcc)] at HRES2
       have dc : (m2.c != m.c) = false:=by rw [hcc]; simp
       clear hp0 hbb hcc
       go_upto_region 22 with (fail)
       go_quiet (fail)
       have h10:=ll nq h8
       have hxt:=hx8.drewN nq
       clear HBAD d2 gq x1 x3
       go_wp2_with fail
       obtain ⟨J,hJ⟩ : ∃J,jNew F (k : Int) 1 (q : Int) rate burst l 0 = J:=⟨_,rfl⟩
       have hj:=HOK.out 0 (by simp) (by omega)
      case' neg=>
       have hres:=HRES.out
       rw [zq hk1] at hres
       have e1 : (kind == 1) = false:=by rw [zb]; exact hk1
       have f7:=oV 6 hown rfl 7
       have cf7:=lq 6 hown rfl 7 (by decide)
       have HB0 : own wr (rshL bs A F++R):=lh 6 (lh 7 (lh 8 hown rfl) rfl) rfl
       by_cases hk2 : kind = 2 /\ file = -1
       case' pos=>
        rw [zt hk2] at hres
        obtain ⟨rfl,rfl⟩:=hk2
        have HRES2:=zh hres
        have h10:=yZ (i:=7) (a:=.int .i64 (l.length : Nat)) 6 hown rfl (Mj bs _ (jNew F (k : Int) 2 (-1) rate burst l 0) (show (2 : Int)≠1 by decide) l.length)
        have hxt:=hxr.setCell (⟨br,7,none⟩ : Addr) (.int .i64 (l.length : Nat))
        have hln : ¬((l.length : Int) < 1):=by rw [zb] at l0; omega
        clear hres HRES hk1 e1 HB0 HBAD hown hxr
        go_wp2_with fail
        obtain ⟨J,hJ⟩ : ∃J,jNew F (k : Int) 2 (-1) rate burst l l.length = J:=⟨_,rfl⟩
        have hj:=HOK.out l.length (by simp) (by omega)
        replace h10 : own _ (rshL bs A F++(lB bs br (.slice (some ⟨lb,off,none⟩) l.length cap) (jNew F (k : Int) 2 (-1) rate burst l l.length)::_)):=h10
       case' neg=>
        rw [zq hk2] at hres
        by_cases hk3 : kind = 2 \/ kind = 3
        rotate_left
        ·rw [zq hk3] at hres
         subst hres
         have e2 : (kind == 2) = false:=by rw [zb]; omega
         have e3 : (kind == 3) = false:=by rw [zb]; omega
         clear hk1 hk2 hk3 HRES HBAD
         go_wp2_with fail
         go_ret2
         exact yq.no rfl hxr HB0
        rw [zt hk3] at hres
        by_cases hpl : a < 1
        ·rw [zt hpl] at hres
         subst hres
         rcases hk3 with rfl | rfl
         all_goals
          try have hf1 : (file == -1) = false:=by rw [zb]; omega
          clear hk1 hk2 HRES HBAD
          go_wp2_with fail
          go_ret2
          exact yq.no rfl hxr HB0
        rw [zq hpl] at hres
        obtain ⟨p,rfl⟩ : ∃p : Nat,a = (p : Int):=⟨a.toNat,by omega⟩
        rw [zn] at hres
        have HRES2:=zh hres
        have hp1 : ¬((p : Int) < 1):=hpl
        have hxt:=hxr.setCell (⟨br,7,none⟩ : Addr) (.int .i64 (p : Nat))
        have h10:=yZ (i:=7) (a:=.int .i64 (p : Nat)) 6 hown rfl (Mj bs _ (jNew F (k : Int) kind file rate burst l 0) hk1 p)
        obtain ⟨J,hJ⟩ : ∃J,jNew F (k : Int) kind file rate burst l p = J:=⟨_,rfl⟩
        have hj:=HOK.out p (by omega) (by omega)
        replace h10 : own _ (rshL bs A F++(lB bs br (.slice (some ⟨lb,off,none⟩) l.length cap) (jNew F (k : Int) kind file rate burst l p)::_)):=h10
        clear hres HRES HB0 HBAD
        rcases hk3 with rfl | rfl
        all_goals
         try have hf1 : (file == -1) = false:=by rw [zb]; omega
         clear hk1 hk2 e1 hown hxr
         go_wp2_with fail
      all_goals
       have hx12:=zh hxt
       rw [hJ] at hj h10 HRES2
       have hjok:=zh hj
       have hjl : J.list = l:=by rw [<- hJ]; rfl
       have hnn : (J.n : Int) = m.c:=by rw [<- hJ]; exact HCN.out
       have HJ0 : Hid (({ J with x:=oY F J 0 } : JobM) = J):=zh (by rw [<- hJ]; rfl)
       obtain ⟨P,h10⟩ : ∃P,own _ (rshL bs A F++(lB bs br (.slice (some ⟨lb,off,none⟩) l.length cap) J::(row 3 1 (.slice (some ⟨lb,off,none⟩) l.length cap) l.length (lo l)::(P::R)))):=⟨_,h10⟩
       have hv12 : ∀w' L,own w' (L++(row 3 1 (.slice (some ⟨lb,off,none⟩) l.length cap) l.length (lo l)::(P::R))) -> lS w' (.slice (some ⟨lb,off,none⟩) l.length cap) J.list:=fun w' L h=>by rw [hjl]; exact l9 0 (lp L [row 3 1 (.slice (some ⟨lb,off,none⟩) l.length cap) l.length (lo l)] h) rfl
       have HV12:=zh hv12
       have HJL:=zh hjl
       clear hj hjl hJ hv12
       clear hxt
       go_loopw [12] (fun iv wr=>∃z : Nat,z <= J.n /\ iv = .int .i64 z /\ Ext w wr /\ own wr (rshL bs A F++(lB bs br (.slice (some ⟨lb,off,none⟩) l.length cap) { J with x:=oY F J z }::(row 3 1 (.slice (some ⟨lb,off,none⟩) l.length cap) l.length (lo l)::(P::R))))) (fun iv _=>J.n - (intOf iv).toNat)
       case atStart=>exact ⟨0,Nat.zero_le _,rfl,hx12.out,by rw [HJ0.out]; exact h10⟩
       case round=>
        obtain ⟨z,hq,rfl,hxr,hown⟩:=hrel
        by_cases hlt : z < J.n
        ·have j1 : (0 : Int) <= (z : Int):=by omega
         have j2 : (z : Int) < m.c:=by omega
         have j3 : (z : Int) < 64:=by have:=hjok.out.n; have : J.n <= 64:=this; omega
         have hown2:=lj hown
         have hcq:=Ja bs A F HF.out br _ _ (EC hjok.out z) (show ∀x∈J.list,ly F x by rw [HJL.out]; exact HFL.out) (z : Int) _ wr.drew HV12.out hown2
         have HFI:=zh (Uj bs (.slice (some ⟨lb,off,none⟩) l.length cap) F J hjok.out.n hlt)
         have hwx : ya F { J with x:=oY F J z } (z : Int) = ya F J (z : Int):=rfl
         rw [hwx] at hcq
         generalize ya F J (z : Int) = wv at *
         have HCQ:=zh hcq
         clear hcq hwx
         go_upto_region 34 with (fail)
         refine wp_region_held_drew (S:=fun _=>True) (by kernel_rfl) trivial (fun hHeld=>?_)
         refine tk 0 ?_
         refine tk 1 ?_
         refine tk 2 ?_
         refine tk 3 ?_
         try simp only [Act.put,tA,tB,tC,tD,tE,tF]
         refine tk 5 ?_
         refine tk 6 ?_
         refine tk 7 ?_
         try simp only [Act.put,tA,tB,tC,tD,tE,tF]
         refine rd 4 rfl fun K hK=>?_
         go_simp
         go_at_call 78
         refine HCQ.out.mono ?_
         rintro e w12 ⟨rfl,nw,rfl⟩
         go_simp
         refine hK.out _ _ trivial (fun _=>?_)
         clear hK K
         try simp only [Act.put,tA,tB,tC,tD,tE,tF]
         refine tk 8 ?_
         try simp only [Act.put,tA,tB,tC,tD,tE,tF]
         have h13:=ll (1 + nw) hown
         have hx13:=hxr.drewN (1 + nw)
         have hf:=oV 6 hown rfl (9 + z)
         have chf:=lq 6 hown rfl (9 + z) (by omega)
         have h14:=yZ (i:=9 + z) (a:=.bool wv) 6 h13 rfl HFI.out
         refine rd 9 rfl fun K hK=>?_
         go_simp
         refine hK.out _ _ trivial (fun _=>?_)
         clear hK K
         try simp only [Act.put,tA,tB,tC,tD,tE,tF]
         refine wpAnyH_done (by kernel_rfl) ?_ _
         go_wp2_with fail
         go_roundw
         case rel=>exact ⟨z + 1,by omega,by go_num,hx13.setCell _ _,h14⟩
         case measure=>simp [intOf]; omega
        ·obtain rfl : z = J.n:=by omega
         have j2 : ¬((J.n : Int) < m.c):=by omega
         have dj : decide ((J.n : Int) < m.c) = false:=zf j2
         go_wp2_with fail
         go_ret2
         rw [<- HRES2.out]
         exact yq.yes br (.slice (some ⟨lb,off,none⟩) l.length cap) rfl hxr (show own wr (rshL bs A F++(lB bs br (.slice (some ⟨lb,off,none⟩) l.length cap) (Ah F J)::(row 3 1 (.slice (some ⟨lb,off,none⟩) l.length cap) J.list.length (lo J.list)::R))) by rw [HJL.out]; exact lh 8 hown rfl)

theorem VK (a b c d : Int) (w : World) : (Instr.field 47 (.agg #[.int .i64 a,.int .i64 b,.int .i64 c,.int .i64 d]) 2).run Tryz.prog w = .ok (.int .i64 c) w:=by kernel_rfl
theorem Ef (F : ShM) (root kind file rate burst : Int) : 0 <= (newM F root kind file rate burst).2:=by
 have : 0 <= (lt F root).2:=zv
 unfold newM
 repeat' split
 all_goals first | exact this | simp
theorem T5 {w : World} (a c d : List SL.HP) {R : List SL.HP} (H : own w (a++(c++(d++R)))) : own w (a++(d++(c++R))):=by
 have h1:=lp a (c++d) (R:=R) (by simpa only [zp] using H)
 have h2:=lp c (d++a) (R:=R) (by simpa only [zp] using h1)
 have h3:=lp d a (R:=c++R) (by simpa only [zp] using h2)
 exact h3
theorem PM {w : World} (a c d : List SL.HP) {R : List SL.HP} (H : own w (a++(c++(d++R)))) : own w (a++(d++(c++R))):=by
 have h1:=lp a (c++d) (R:=R) (by simpa only [zp] using H)
 have h2:=lp c (d++a) (R:=R) (by simpa only [zp] using h1)
 have h3:=lp d a (R:=c++R) (by simpa only [zp] using h2)
 exact h3
theorem IU {Y : YA} {m : lf} {j : JobM} {bj bt bb : Nat} {v : Value} {R : List SL.HP} {w : World}
  (H : own w (yL Y m (jobL Y.bs bj bt bb v j++(row 3 1 v j.list.length (lo j.list)::R)))) :
  own (w.setCell ⟨Y.y,13,none⟩ (.pointer (some ⟨bj,0,none⟩))) (yL { Y with bj:=bj,bt:=bt,bb:=bb,vj:=v } { m with job:=some j } R):=by
 have h1:=lg (i:=13) (v:=.pointer (some ⟨bj,0,none⟩)) 6 H rfl
 have h2:=lh 14 h1 rfl
 have h3 : own (w.setCell ⟨Y.y,13,none⟩ (.pointer (some ⟨bj,0,none⟩))) ((yL { Y with bj:=bj,bt:=bt,bb:=bb,vj:=v } { m with job:=some j } R).take 14++((jobL Y.bs bj bt bb v j++[row 3 1 v j.list.length (lo j.list)])++R)):=by
  rw [zp]
  exact h2
 have h4:=lp _ (jobL Y.bs bj bt bb v j++[row 3 1 v j.list.length (lo j.list)]) h3
 have h5:=yK (jobL Y.bs bj bt bb v j++[row 3 1 v j.list.length (lo j.list)]) h4
 exact lr ((yL { Y with bj:=bj,bt:=bt,bb:=bb,vj:=v } { m with job:=some j } R).take 14) h5
theorem I3 {F : ShM} {root kind file rate burst : Int} (h : (newM F root kind file rate burst).1 = none) : (newM F root kind file rate burst).2≠0:=by
 revert h
 unfold newM
 repeat' split
 all_goals intro h
 all_goals first | assumption | (cases h; done) | simp
theorem Gi (r k f a b : Int) : 0 <= yg r k f a b:=by
 unfold yg
 split
 ·decide
 ·split <;> decide
theorem Qk (N : Nat) (Y : YA) (m : lf) (hm : YOk N m) (hN : N < 900000) (kind file rate burst : Int) (R : List SL.HP) (w : World) (H : own w (yL Y m R)) :
  Calls Tryz.prog 46 #[.pointer (some ⟨Y.y,0,none⟩),.int .i64 kind,.int .i64 file,.int .i64 rate,.int .i64 burst] w (zH Y (AC m kind file rate burst) R w):=by
 have HB:=zh (BB Y m R w H)
 generalize hres : AC m kind file rate burst = res
 unfold AC at hres
 cases hb : y8 m with
 | true=>
  rw [zt hb] at hres
  subst hres
  rw [hb] at HB
  clear hb
  go_enter Tryz.func46,Tryz.ntmps46
  go_wp2_with fail
  refine HB.out.mono ?_
  rintro e w' ⟨rfl,rfl⟩
  go_wp2_with fail
  go_ret
  exact ⟨Y,rfl,rfl,zR _,H⟩
 | false=>
  rw [zq (by rw [hb]; decide)] at hres
  rw [hb] at HB
  have cr:=yS H
  have h1:=IW (.cells #[.int .i64 m.dk.root,.int .i64 kind,.int .i64 file,.int .i64 rate,.int .i64 burst] 24) H
  have hx1:=(zR w).alloc (.cells #[.int .i64 m.dk.root,.int .i64 kind,.int .i64 file,.int .i64 rate,.int .i64 burst] 24)
  have HRES:=zh hres
  have HM:=zh hm
  clear hb hres hm
  go_enter Tryz.func46,Tryz.ntmps46
  go_wp2_with fail
  refine HB.out.mono ?_
  rintro e w' ⟨rfl,rfl⟩
  go_upto_region 4 with (fail)
  generalize w.heap.size = g at *
  generalize w.alloc (.cells #[.int .i64 m.dk.root,.int .i64 kind,.int .i64 file,.int .i64 rate,.int .i64 burst] 24) = w1 at *
  by_cases hk : kind = 0
  ·have d0 : (kind == 0) = true:=by rw [hk]; rfl
   rw [zt hk] at HRES
   clear hk cr
   go_wp2_with fail
   go_ret
   rw [<- HRES.out]
   exact ⟨Y,rfl,rfl,hx1,Bv h1⟩
  ·have d0 : (kind == 0) = false:=by rw [zb]; exact hk
   rw [zq hk] at HRES
   have HCD:=zh (fun R' w' h=>G5 m.dk.root kind file rate burst R' w' h)
   have hdc:=Gi m.dk.root kind file rate burst
   have HK:=zh hk
   have c0:=(ld 15 h1 rfl).1 0
   have c1:=(ld 15 h1 rfl).1 1
   have c2:=(ld 15 h1 rfl).1 2
   have c3:=(ld 15 h1 rfl).1 3
   have c4:=(ld 15 h1 rfl).1 4
   unfold o8 at HCD
   have HDF : Hid ((lI.mk m.dk.root kind file rate burst).f = yg m.dk.root kind file rate burst):=zh rfl
   generalize hdf : yg m.dk.root kind file rate burst = df at *
   clear hk cr hdf
   go_wp2_with fail
   refine (HCD.out _ _ h1).mono ?_
   rintro e w2 ⟨rfl,hx2,h2⟩
   clear c0 c1 c2 c3 c4
   by_cases hd : df = 0
   ·subst hd
    rw [zq (by decide)] at HRES
    rw [oa]
    have hm:=HM.out
    have hl5 : (lt m.F m.dk.root).1.length <= 5:=Bl
    have hsh:=hm.sh.sh hN
    have HNW:=zh (fun R' w' h=>MQ Y.bs Y.A m.F hsh m.dk.root kind file rate burst hl5 R' w' h)
    have hnc:=Ef m.F m.dk.root kind file rate burst
    have hgood : ∀j,(newM m.F m.dk.root kind file rate burst).1 = some j -> j.Ok /\ JobS m.F j:=fun j h=>Ft hsh hl5 h
    have hnz:=@I3 m.F m.dk.root kind file rate burst
    generalize newM m.F m.dk.root kind file rate burst = NJ at *
    obtain ⟨oj,nf⟩:=NJ
    dsimp only at HRES hnc hgood hnz
    have HGOOD:=zh hgood
    have NZ:=zh hnz
    have hz:=lj h2
    have hxz:=(hx1.trans hx2).drew
    have s6:=y_bs hz
    have s0:=(ld 15 hz rfl).1 0
    have s1:=(ld 15 hz rfl).1 1
    have s2:=(ld 15 hz rfl).1 2
    have s3:=(ld 15 hz rfl).1 3
    have s4:=(ld 15 hz rfl).1 4
    clear hgood hnz hm hl5 hsh h1 hx1 h2 hx2
    go_upto_region 9 with (fail)
    refine wp_region_held_drew (S:=fun w'=>w'.cell? ⟨Y.y,6,none⟩ = some (.pointer (some ⟨Y.bs,0,none⟩)) /\ w'.cell? ⟨g,0,none⟩ = some (.int .i64 m.dk.root) /\ w'.cell? ⟨g,1,none⟩ = some (.int .i64 kind) /\ w'.cell? ⟨g,2,none⟩ = some (.int .i64 file) /\ w'.cell? ⟨g,3,none⟩ = some (.int .i64 rate) /\ w'.cell? ⟨g,4,none⟩ = some (.int .i64 burst)) (by kernel_rfl) ⟨s6,s0,s1,s2,s3,s4⟩ (fun hHeld=>?_)
    refine tk 0 ?_
    refine tk 1 ?_
    refine tk 2 ?_
    refine tk 3 ?_
    refine tk 4 ?_
    try simp only [Act.put,tA,tB,tC,tD,tE,tF]
    refine rd 5 rfl fun K hK=>?_
    clear s6 s0 s1 s2 s3 s4
    go_simp
    go_at_call 15
    refine (HNW.out _ _ hz).mono ?_
    cases oj with
    | none=>
     rintro e w3 ⟨rfl,hx3,h3'⟩
     have h3 : own w3 (yL Y m (pts g (.cells #[.int .i64 m.dk.root,.int .i64 kind,.int .i64 file,.int .i64 rate,.int .i64 burst] 24 (0,0))::R)):=h3'
     have s6:=y_bs h3
     have s0:=(ld 15 h3 rfl).1
     go_simp
     refine hK.out _ _ ⟨s6,s0 0,s0 1,s0 2,s0 3,s0 4⟩ (fun _=>?_)
     clear hK K s6 s0
     try simp only [Act.put,tA,tB,tC,tD,tE,tF]
     refine tk 6 ?_
     refine tk 7 ?_
     refine tk 8 ?_
     refine tk 9 ?_
     refine tk 10 ?_
     try simp only [Act.put,tA,tB,tC,tD,tE,tF]
     refine wpAnyH_done (by kernel_rfl) ?_ _
     have hnz : nf≠0:=NZ.out rfl
     dsimp only at HRES
     rw [lx (e:=nf) (by omega)]
     go_wp2_with fail
     go_ret
     rw [<- HRES.out]
     exact ⟨Y,rfl,by rw [lx (e:=nf) (by omega)]; rfl,hxz.trans hx3,Bv h3⟩
    | some j=>
     rintro e w3 ⟨bj,bt,bb,v,rfl,hx3,h3'⟩
     have h3 : own w3 (yL Y m (jobL Y.bs bj bt bb v j++(row 3 1 v j.list.length (lo j.list)::(pts g (.cells #[.int .i64 m.dk.root,.int .i64 kind,.int .i64 file,.int .i64 rate,.int .i64 burst] 24 (0,0))::R)))):=by
      have:=PM (shL Y.bs Y.A m.F) (jobL Y.bs bj bt bb v j++[row 3 1 v j.list.length (lo j.list)]) (yT Y m) (R:=pts g (.cells #[.int .i64 m.dk.root,.int .i64 kind,.int .i64 file,.int .i64 rate,.int .i64 burst] 24 (0,0))::R) (by rw [zp]; exact h3')
      rw [zp] at this
      exact this
     have s6:=y_bs h3
     have s0:=(ld 19 h3 rfl).1
     go_simp
     refine hK.out _ _ ⟨s6,s0 0,s0 1,s0 2,s0 3,s0 4⟩ (fun _=>?_)
     clear hK K s6 h3'
     try simp only [Act.put,tA,tB,tC,tD,tE,tF]
     refine tk 6 ?_
     refine tk 7 ?_
     refine tk 8 ?_
     refine tk 9 ?_
     refine tk 10 ?_
     try simp only [Act.put,tA,tB,tC,tD,tE,tF]
     refine wpAnyH_done (by kernel_rfl) ?_ _
     have c0:=s0 0
     have c1:=s0 1
     have c2:=s0 2
     have c3:=s0 3
     have c4:=s0 4
     clear s0
     obtain ⟨hjo,hjs⟩:=HGOOD.out j rfl
     have hto:=HM.out.tp.1
     have htw:=HM.out.tp.2.1
     have htp:=HM.out.tp.2.2.1
     have HW:=zh (fun R' w' h=>BM Y m hto (by omega) (by omega) ⟨m.dk.root,kind,file,rate,burst⟩ HDF.out R' w' h)
     have hwc:=Ag m ⟨m.dk.root,kind,file,rate,burst⟩
     dsimp only at HRES
     unfold lI.v o8 at HW
     generalize lw m ⟨m.dk.root,kind,file,rate,burst⟩ = W at *
     obtain ⟨wc,m2⟩:=W
     dsimp only at hwc HW HRES
     have hx4:=hxz.trans hx3
     clear hz hxz hx3 hto htw htp
     go_wp2_with fail
     refine (HW.out _ _ h3).mono ?_
     rintro e w4 ⟨rfl,hx5,h4⟩
     clear c0 c1 c2 c3 c4 h3
     by_cases hwz : wc = 0
     ·subst hwz
      rw [zq (by decide)] at HRES
      rw [oa]
      have cj:=Gr h4
      have fj:=Cd h4 13
      have h5:=IU h4
      have hx6:=(hx4.trans hx5).setCell (⟨Y.y,13,none⟩ : Addr) (.pointer (some ⟨bj,0,none⟩))
      have HPU:=zh (fun w' (h : own w' (yL { Y with bj:=bj,bt:=bt,bb:=bb,vj:=v } { m2 with job:=some j } (pts g (.cells #[.int .i64 m.dk.root,.int .i64 kind,.int .i64 file,.int .i64 rate,.int .i64 burst] 24 (0,0))::R)))=>K4 Y.bs bj bt bb v j hjo false _ w' (lp (shL Y.bs Y.A m2.F) (jobL Y.bs bj bt bb v j) (BO (Y:={ Y with bj:=bj,bt:=bt,bb:=bb,vj:=v }) (m:={ m2 with job:=some j }) (j:=j) rfl h)))
      have hpl:=D1 j false
      have HPT:=zh (fun w' h=>Bg (Y:={ Y with bj:=bj,bt:=bt,bb:=bb,vj:=v }) (m:={ m2 with job:=some j }) (F':=m2.F) (j:=j) (j':=(yU j false).2) (R:=pts g (.cells #[.int .i64 m.dk.root,.int .i64 kind,.int .i64 file,.int .i64 rate,.int .i64 burst] 24 (0,0))::R) (w:=w') rfl hpl (fun _ _=>Iff.rfl) h)
      have H5:=zh h5
      clear h4 h5
      generalize yU j false = PJ at *
      obtain ⟨pc,j2⟩:=PJ
      dsimp only at HPU HPT HRES hpl
      go_wp2_with fail
      refine (HPU.out _ H5.out).mono ?_
      rintro e w6 ⟨rfl,hx7,h6⟩
      have h7:=HPT.out _ (lp (jobL Y.bs bj bt bb v j2) (shL Y.bs Y.A m2.F) h6)
      go_wp2_with fail
      go_ret
      rw [<- HRES.out]
      exact ⟨{ Y with bj:=bj,bt:=bt,bb:=bb,vj:=v },rfl,rfl,hx6.trans hx7,Bv h7⟩
     ·rw [zt hwz] at HRES
      rw [lx (e:=wc) (by omega)]
      go_wp2_with fail
      go_ret
      rw [<- HRES.out]
      exact ⟨Y,rfl,by rw [lx (e:=wc) (by omega)]; rfl,hx4.trans hx5,lh 15 (lh 16 (lh 17 (lh 18 (lh 19 h4 rfl) rfl) rfl) rfl) rfl⟩
   ·rw [zt hd] at HRES
    rw [lx (e:=df) (by omega)]
    go_wp2_with fail
    go_ret
    rw [<- HRES.out]
    exact ⟨Y,rfl,by rw [lx (e:=df) (by omega)]; rfl,hx1.trans hx2,Bv h2⟩
def No (Y : YA) (S : (Bool×Int)×lf) (R : List SL.HP) (w : World) (e : Ending) (w' : World) : Prop:=
 ∃Y' : YA,Y'.y = Y.y /\ e = .returned (.tuple #[.bool S.1.1,errV S.1.2]) /\ Ext w w' /\ own w' (yL Y' S.2 R)
def NY (m : lf) : Prop:=∀j,m.job = some j -> j.st < 4 -> m.dk.kind = 2 -> (lA (lZ m.F j).2.1 (lZ m.F j).2.2).1 = 0 -> (lt (lA (lZ m.F j).2.1 (lZ m.F j).2.2).2.1 m.dk.root).2 = 0
theorem LY (m : lf) (d : lI) (h : (lw m d).1 = 0) : (lw m d).2.dk = d:=by
 revert h
 unfold lw
 split
 ·rename_i h; exact fun h2=>absurd h2 h
 ·exact fun _=>rfl
theorem Ix (m : lf) (d : lI) (h : (lw m d).1≠0) : (lw m d).2.dk = m.dk:=by
 revert h
 unfold lw
 split
 ·exact fun _=>rfl
 ·exact fun h=>absurd rfl h
theorem VU (m : lf) (d : lI) (h : m.dk = d) : ({ m with dk:=d } : lf) = m:=by rw [<- h]
theorem LE (N : Nat) (Y : YA) (m : lf) (hm : YOk N m) (hN : N + 100 < 890000) (hlk : NY m) (R : List SL.HP) (hT : ∀w' L,own w' (L++R) -> yR w') (w : World) (H : own w (yL Y m R)) :
  Calls Tryz.prog 48 #[.pointer (some ⟨Y.y,0,none⟩)] w (No Y (zE m) R w):=by
 have HB:=zh (BB Y m R w H)
 generalize hres : zE m = res
 unfold zE at hres
 unfold y8 at HB
 cases hj : m.job with
 | none=>
  rw [hj] at HB hres
  dsimp only at HB hres
  subst hres
  clear hj hlk
  go_enter Tryz.func48,Tryz.ntmps48
  go_wp2_with fail
  refine HB.out.mono ?_
  rintro e w' ⟨rfl,rfl⟩
  go_wp2_with fail
  go_ret2
  exact ⟨Y,rfl,rfl,zR _,H⟩
 | some j=>
  rw [hj] at HB hres
  dsimp only at HB hres
  by_cases h4 : 4 <= j.st
  ·rw [zt h4] at hres
   subst hres
   rw [zf (by omega)] at HB
   clear hj h4 hlk
   go_enter Tryz.func48,Tryz.ntmps48
   go_wp2_with fail
   refine HB.out.mono ?_
   rintro e w' ⟨rfl,rfl⟩
   go_wp2_with fail
   go_ret2
   exact ⟨Y,rfl,rfl,zR _,H⟩
  ·rw [zq h4] at hres
   rw [zg (by omega)] at HB
   obtain ⟨hS,hl,hk,hf,hr⟩:=hm.job j hj (by omega)
   have hjo:=hm.jok j hj
   have hsh:=hm.sh.sh (by omega)
   have cj:=An hj H
   have hv : ∀w' L,own w' (L++(row 3 1 Y.vj j.list.length (lo j.list)::((yT Y m).take 8++R))) -> lS w' Y.vj j.list:=fun w' L h=>l9 0 (lp L [row 3 1 Y.vj j.list.length (lo j.list)] h) rfl
   have hT2 : ∀w' L,own w' (L++(row 3 1 Y.vj j.list.length (lo j.list)::((yT Y m).take 8++R))) -> yR w':=fun w' L h=>hT w' (L++(row 3 1 Y.vj j.list.length (lo j.list)::(yT Y m).take 8)) (by rw [zp]; exact h)
   have HST:=zh (SA Y.bs Y.A m.F hsh Y.bj Y.bt Y.bb Y.vj j hjo hS (row 3 1 Y.vj j.list.length (lo j.list)::((yT Y m).take 8++R)) w hv hT2 (BO hj H))
   have hcode:=Gj m.F j
   have hst:=Ez hsh hjo hS
   have hsm:=C7 m.F j
   have hok2:=J8 (F:=m.F) hjo
   have hS2:=(hS.step hst).same hsm
   have hW2:=hm.sh.step hst
   have hlk2:=hlk j hj (by omega)
   have HPUT:=zh (fun w' h=>Bg (w:=w') (Y:=Y) (m:=m) (R:=R) (F':=(lZ m.F j).2.1) (j':=(lZ m.F j).2.2) hj hsm.1 (fun k hk=>hst.same.none hk) h)
   have hr5:=hm.root5
   have hto:=hm.tp.1
   have htw:=hm.tp.2.1
   have htp:=hm.tp.2.2.1
   have hlist:=hsm.1
   generalize lZ m.F j = SP at *
   obtain ⟨⟨did,c⟩,F1,j1⟩:=SP
   dsimp only at HST hcode hok2 hS2 hW2 hlk2 HPUT hres hlist
   have HN:=zh (fun R' w' h=>CN m.dk.root R' w' h)
   have HRES:=zh hres
   have HOK:=zh hok2
   have HS2:=zh hS2
   have HW2:=zh hW2
   have HLK:=zh hlk2
   have HLI:=zh hlist
   clear hres hm hlk hlk2 hS hl hk hf hr hjo hsh hv hT2 hst hsm hok2 hS2 hW2 hlist h4 hj
   go_enter Tryz.func48,Tryz.ntmps48
   go_wp2_with fail
   refine HB.out.mono ?_
   rintro e w' ⟨rfl,rfl⟩
   go_wp2_with fail
   refine HST.out.mono ?_
   rintro e w2 ⟨rfl,hx2,h2'⟩
   have h2:=HPUT.out _ h2'
   clear cj h2' HST HPUT HB
   have cj:=An (m:={ m with F:=F1,job:=some j1 }) rfl h2
   have cr:=yS h2
   by_cases hc : c = 0
   ·subst hc
    rw [zq (by decide)] at HRES
    rw [oa]
    have ck:=Cw h2
    by_cases hk2 : m.dk.kind = 2
    ·have d2 : (m.dk.kind != 2) = false:=by rw [hk2]; rfl
     have hstat:=(Jx Y.bs Y.bj Y.bt Y.bb Y.vj j1 HOK.out _ w2 (lp (shL Y.bs Y.A F1) (jobL Y.bs Y.bj Y.bt Y.bb Y.vj j1) (BO (m:={ m with F:=F1,job:=some j1 }) rfl h2)))
     have hf2:=VK j1.kind j1.file j1.st (cnt j1.x : Nat)
     unfold C0 at hstat
     generalize hcn : (cnt j1.x : Nat) = cn at hstat hf2
     clear hcn
     have HSTA:=zh hstat
     have HLK:=zh (HLK.out hk2)
     have HK2:=zh hk2
     clear hk2 hstat
     by_cases h3 : j1.st = 3
     ·have d3 : (j1.st != 3) = false:=by rw [h3]; rfl
      rw [zq (by rintro (h | h); exact h HK2.out; exact h h3)] at HRES
      clear h3
      have hv : ∀w' L,own w' (L++(row 3 1 Y.vj j1.list.length (lo j1.list)::((yT Y { m with F:=F1,job:=some j1 }).take 8++R))) -> lS w' Y.vj j1.list:=fun w' L h=>l9 0 (lp L [row 3 1 Y.vj j1.list.length (lo j1.list)] h) rfl
      have HSE:=zh (fun w' h=>JI Y.bs Y.A F1 (N + 5) HW2.out (by omega) Y.bj Y.bt Y.bb Y.vj j1 HOK.out HS2.out (row 3 1 Y.vj j1.list.length (lo j1.list)::((yT Y { m with F:=F1,job:=some j1 }).take 8++R)) w' hv h)
      have hsc:=Bu F1 j1
      have HPUT:=zh (fun w' h=>Bg (w:=w') (Y:=Y) (m:={ m with F:=F1,job:=some j1 }) (R:=R) (F':=(lA F1 j1).2.1) (j:=j1) (j':=(lA F1 j1).2.2) rfl (Cj F1 j1).1 (fun k hk=>Cl hk) h)
      have HSH:=zh ((BW (N:=N + 5) HW2.out (by omega) HOK.out HS2.out).sh (by omega))
      generalize lA F1 j1 = SE at *
      obtain ⟨sc,F2,j2⟩:=SE
      dsimp only at HSE hsc HPUT HSH HLK HRES
      clear hv HW2 HS2
      go_wp2_with fail
      refine HSTA.out.mono ?_
      rintro e w3 ⟨rfl,hx3,h3'⟩
      have h3:=lp (jobL Y.bs Y.bj Y.bt Y.bb Y.vj j1) (shL Y.bs Y.A F1) h3'
      clear h2 cr ck cj h3'
      have cj:=An (m:={ m with F:=F1,job:=some j1 }) rfl (I0 (m:={ m with F:=F1,job:=some j1 }) (j:=j1) rfl h3)
      go_wp2_with fail
      refine (HSE.out _ h3).mono ?_
      rintro e w4 ⟨rfl,hx4,h4'⟩
      have h4 : own w4 (yL Y { m with F:=F2,job:=some j2 } R):=HPUT.out _ h4'
      clear cj h3 h4'
      have cr:=yS h4
      have hx5:=(hx2.trans hx3).trans hx4
      by_cases hsz : sc = 0
      ·have HLK2:=zh (HLK.out hsz)
       clear HLK
       subst hsz
       rw [zq (by decide)] at HRES
       rw [oa]
       have HWK:=zh (fun R' w' h=>CP Y.bs Y.A F2 HSH.out m.dk.root R' w' h)
       unfold zO at HWK
       rw [HLK2.out,oa] at HWK
       generalize (lt F2 m.dk.root).1 = l at *
       clear HLK2 cr
       have HS:=zh (fun (m' : lf) w' R' (h : own w' (yL Y m' R'))=>(⟨y_bs h,yS h⟩ : w'.cell? ⟨Y.y,6,none⟩ = some (.pointer (some ⟨Y.bs,0,none⟩)) /\ w'.cell? ⟨Y.y,7,none⟩ = some (.int .i64 m'.dk.root)))
       have h5:=lj h4
       have hx5:=hx5.drew
       have hg:=HS.out _ _ _ h5
       go_upto_region 14 with (fail)
       refine wp_region_held_drew (S:=fun w'=>w'.cell? ⟨Y.y,6,none⟩ = some (.pointer (some ⟨Y.bs,0,none⟩)) /\ w'.cell? ⟨Y.y,7,none⟩ = some (.int .i64 m.dk.root)) (by kernel_rfl) hg (fun hHeld=>?_)
       refine tk 0 ?_
       refine tk 1 ?_
       refine tk 2 ?_
       refine tk 3 ?_
       refine tk 4 ?_
       refine tk 5 ?_
       refine tk 6 ?_
       refine tk 7 ?_
       refine tk 8 ?_
       refine tk 9 ?_
       try simp only [Act.put,tA,tB,tC,tD,tE,tF]
       refine rd 10 rfl fun K hK=>?_
       go_simp
       go_at_call 69
       refine (HWK.out _ _ h5).mono ?_
       rintro e w6 ⟨v,rfl,hx6,h6⟩
       obtain ⟨vo,vb,vof,vcap,rfl,-,-,-,-⟩:=(l9 0 h6 rfl).form
       have h7:=Av (Y:=Y) (m:={ m with F:=F2,job:=some j2 }) h6
       go_simp
       refine hK.out _ _ (HS.out { m with F:=F2,job:=some j2 } _ _ h7) (fun _=>?_)
       clear hK K h4 h5 h6 hg
       try simp only [Act.put,tA,tB,tC,tD,tE,tF]
       refine tk 11 ?_
       refine tk 12 ?_
       refine tk 13 ?_
       refine tk 14 ?_
       refine tk 15 ?_
       try simp only [Act.put,tA,tB,tC,tD,tE,tF]
       refine rd 16 rfl fun K hK=>?_
       have cl:=Cg h7
       have fl:=Cd h7 12
       have h8:=GT h7
       have hx8:=(hx5.trans hx6).setCell (⟨Y.y,12,none⟩ : Addr) (.slice vo l.length vcap)
       have z6:=y_bs h8
       have z7:=yS h8
       go_simp
       refine hK.out _ _ ⟨z6,z7⟩ (fun _=>?_)
       clear hK K h7 cl fl z6 z7
       try simp only [Act.put,tA,tB,tC,tD,tE,tF]
       refine tk 17 ?_
       try simp only [Act.put,tA,tB,tC,tD,tE,tF]
       refine wpAnyH_done (by kernel_rfl) ?_ _
       generalize w6.setCell ⟨Y.y,12,none⟩ (.slice vo l.length vcap) = w8 at *
       have cj:=An (m:={ m with F:=F2,job:=some j2,list:=l }) (j:=j2) rfl h8
       have HE:=zh (MP Y.bs Y.bj Y.bt Y.bb Y.vj j2 true _ w8 (lp (shL Y.bs Y.A F2) (jobL Y.bs Y.bj Y.bt Y.bb Y.vj j2) (BO (Y:={ Y with v:=.slice vo l.length vcap }) (m:={ m with F:=F2,job:=some j2,list:=l }) (j:=j2) rfl h8)))
       go_wp2_with fail
       refine HE.out.mono ?_
       rintro e w9 ⟨rfl,hx9,h9'⟩
       have h9 : own w9 (yL { Y with v:=.slice vo l.length vcap } { m with F:=F2,job:=some (endM j2 true),list:=l } R):=Bg (Y:={ Y with v:=.slice vo l.length vcap }) (m:={ m with F:=F2,job:=some j2,list:=l }) (j:=j2) rfl (show (endM j2 true).list = j2.list from rfl) (fun _ _=>Iff.rfl) (lp (jobL Y.bs Y.bj Y.bt Y.bb Y.vj (endM j2 true)) (shL Y.bs Y.A F2) h9')
       clear cj h8 h9'
       have cr:=yS h9
       have HW:=zh (fun R' w' h=>BM { Y with v:=.slice vo l.length vcap } { m with F:=F2,job:=some (endM j2 true),list:=l } hto (by dsimp only; omega) (by dsimp only; omega) (lz m.dk.root) (BQ hr5.1 hr5.2) R' w' h)
       have hwc:=Ag { m with F:=F2,job:=some (endM j2 true),list:=l } (lz m.dk.root)
       have hwd:=LY { m with F:=F2,job:=some (endM j2 true),list:=l } (lz m.dk.root)
       have hwn:=Ix { m with F:=F2,job:=some (endM j2 true),list:=l } (lz m.dk.root)
       generalize lw { m with F:=F2,job:=some (endM j2 true),list:=l } (lz m.dk.root) = W at *
       obtain ⟨wc,m2⟩:=W
       dsimp only at HW hwc hwd hwn HRES
       have HWD:=zh hwd
       have HWN:=zh hwn
       have hx10:=hx8.trans hx9
       clear hwd hwn hx8 hx9
       go_wp2_with fail
       refine (HN.out _ _ h9).mono ?_
       rintro e w10 ⟨rfl,hx11,h10⟩
       go_wp2_with fail
       refine (HW.out _ _ h10).mono ?_
       rintro e w11 ⟨rfl,hx12,h11⟩
       have hx13:=(hx10.trans hx11).trans hx12
       clear cr h9 h10 hx10 hx11 hx12
       by_cases hwz : wc = 0
       ·have hdk:=HWD.out hwz
        subst hwz
        rw [oa]
        rw [VU m2 (lz m.dk.root) hdk] at HRES
        clear hdk HWD
        go_wp2_with fail
        go_ret2
        rw [<- HRES.out]
        exact ⟨{ Y with v:=.slice vo l.length vcap },rfl,rfl,hx13,h11⟩
       ·rw [lx (e:=wc) (by omega)]
        have hdk:=HWN.out hwz
        have cr:=yS h11
        rw [hdk] at cr
        have HN2:=zh (fun R' w' h=>CN m.dk.root R' w' h)
        unfold lI.v o8 lz at HN2
        clear hdk HWD HWN
        go_wp2_with fail
        refine (HN2.out _ _ h11).mono ?_
        rintro e w12 ⟨rfl,hx14,h12⟩
        clear cr h11
        have fy:=Cd h12
        have e7:=yS h12
        have e8:=Cw h12
        have e9:=CF h12
        have e10:=Fd h12
        have e11:=DJ h12
        have h13:=lg (i:=11) (v:=.int .i64 0) 6 (lg (i:=10) (v:=.int .i64 0) 6 (lg (i:=9) (v:=.int .i64 (-1)) 6 (lg (i:=8) (v:=.int .i64 0) 6 (lg (i:=7) (v:=.int .i64 m.dk.root) 6 h12 rfl) rfl) rfl) rfl) rfl
        have h14 : own _ (yL { Y with v:=.slice vo l.length vcap } { m2 with dk:=lz m.dk.root } R):=h13
        have hx15:=((((((hx13.trans hx14).setCell (⟨Y.y,7,none⟩ : Addr) (.int .i64 m.dk.root)).setCell (⟨Y.y,8,none⟩ : Addr) (.int .i64 0)).setCell (⟨Y.y,9,none⟩ : Addr) (.int .i64 (-1))).setCell (⟨Y.y,10,none⟩ : Addr) (.int .i64 0)).setCell (⟨Y.y,11,none⟩ : Addr) (.int .i64 0))
        clear h12 h13
        go_wp2_with fail
        go_ret2
        rw [<- HRES.out]
        exact ⟨{ Y with v:=.slice vo l.length vcap },rfl,rfl,hx15,h14⟩
      ·rw [zt hsz] at HRES
       rw [lx (e:=sc) (by omega)]
       have HW:=zh (fun R' w' h=>BM Y { m with F:=F2,job:=some j2 } hto (by dsimp only; omega) (by dsimp only; omega) (lz m.dk.root) (BQ hr5.1 hr5.2) R' w' h)
       generalize lw { m with F:=F2,job:=some j2 } (lz m.dk.root) = W at *
       obtain ⟨wc,m2⟩:=W
       dsimp only at HW HRES
       go_wp2_with fail
       refine (HN.out _ _ h4).mono ?_
       rintro e w6 ⟨rfl,hx6,h6⟩
       go_wp2_with fail
       refine (HW.out _ _ h6).mono ?_
       rintro e w7 ⟨rfl,hx7,h7⟩
       go_wp2_with fail
       go_ret2
       rw [<- HRES.out]
       exact ⟨Y,rfl,by rw [lx (e:=sc) (by omega)]; rfl,(hx5.trans hx6).trans hx7,h7⟩
     ·have d3 : (j1.st != 3) = true:=bne_iff_ne.2 h3
      rw [zt (.inr h3)] at HRES
      clear h3
      go_wp2_with fail
      refine HSTA.out.mono ?_
      rintro e w3 ⟨rfl,hx3,h3'⟩
      have h3:=I0 (m:={ m with F:=F1,job:=some j1 }) (j:=j1) rfl (lp (jobL Y.bs Y.bj Y.bt Y.bb Y.vj j1) (shL Y.bs Y.A F1) h3')
      go_wp2_with fail
      go_ret2
      rw [<- HRES.out]
      exact ⟨Y,rfl,rfl,hx2.trans hx3,h3⟩
    ·have d2 : (m.dk.kind != 2) = true:=bne_iff_ne.2 hk2
     rw [zt (.inl hk2)] at HRES
     clear hk2
     go_wp2_with fail
     go_ret2
     rw [<- HRES.out]
     exact ⟨Y,rfl,rfl,hx2,h2⟩
   ·rw [zt hc] at HRES
    rw [lx (e:=c) (by omega)]
    have HG:=zh (IA Y.bs Y.bj Y.bt Y.bb Y.vj j1 _ w2 (lp (shL Y.bs Y.A F1) (jobL Y.bs Y.bj Y.bt Y.bb Y.vj j1) (BO (m:={ m with F:=F1,job:=some j1 }) rfl h2)))
    by_cases h1 : j1.st < 4
    ·rw [zt h1] at HRES
     rw [zg h1] at HG
     clear h1
     go_wp2_with fail
     refine HG.out.mono ?_
     rintro e w' ⟨rfl,rfl⟩
     go_wp2_with fail
     go_ret2
     rw [<- HRES.out]
     exact ⟨Y,rfl,by rw [lx (e:=c) (by omega)]; rfl,hx2,h2⟩
    ·rw [zq h1] at HRES
     rw [zf h1] at HG
     clear h1
     have HW:=zh (fun R' w' h=>BM Y { m with F:=F1,job:=some j1 } hto (by dsimp only; omega) (by dsimp only; omega) (lz m.dk.root) (BQ hr5.1 hr5.2) R' w' h)
     generalize lw { m with F:=F1,job:=some j1 } (lz m.dk.root) = W at *
     obtain ⟨wc,m2⟩:=W
     dsimp only at HW HRES
     go_wp2_with fail
     refine HG.out.mono ?_
     rintro e w' ⟨rfl,rfl⟩
     go_wp2_with fail
     refine (HN.out _ _ h2).mono ?_
     rintro e w3 ⟨rfl,hx3,h3⟩
     go_wp2_with fail
     refine (HW.out _ _ h3).mono ?_
     rintro e w4 ⟨rfl,hx4,h4⟩
     go_wp2_with fail
     go_ret2
     rw [<- HRES.out]
     exact ⟨Y,rfl,by rw [lx (e:=c) (by omega)]; rfl,(hx2.trans hx3).trans hx4,h4⟩
theorem Sl (Y : YA) (m : lf) (hl5 : m.list.length <= 5) (R : List SL.HP) (w : World) (H : own w (yL Y m R)) :
  Calls Tryz.prog 51 #[.pointer (some ⟨Y.y,0,none⟩)] w fun e w'=>∃v,e = .returned v /\ Ext w w' /\ own w' (yL Y m (row 3 1 v m.list.length (lo m.list)::R)):=by
 have hb:=lv 3 1 H
 obtain ⟨ao2,lb2,off2,cap2,hY2,-,-,hao2,-⟩:=(Ej H).form
 have cl:=Cg H
 have hvb:=Ej H
 rw [hY2] at cl hvb
 have HNW:=zh (Iv hvb)
 have HAO2:=zh hao2
 have hm5 : 0 + m.list.length <= maxLen:=by simp only [maxLen]; omega
 clear hvb hao2
 go_enter Tryz.func51,Tryz.ntmps51
 go_wp2_with (first | (at_builtin; refine lD rfl _ _ 95 rfl 0 3 Tryz.underlying95 Cb rfl (by decide) rfl hb rfl ao2 m.list.length cap2 (lo m.list) rfl (by simp [lo]) HNW.out (fun h=>by by_cases h0 : 0 < m.list.length; exact absurd (HAO2.out h0) (by rw [h]; simp); omega) (JS _) hm5 (by omega) ?_))
 intro v' w5 h5 hx5
 have h6 : own w5 (yL Y m (row 3 1 v' m.list.length (lo m.list)::R)):=Av h5
 go_wp2_with fail
 go_ret
 exact ⟨v',rfl,hx5,h6⟩
def stN (B : Nat -> Nat) (k b : Nat) : Nat -> Nat:=fun j=>if j = k then b else B j
def ptrs (B : Nat -> Nat) (q : Nat) : List Value:=(List.range q).map fun k=>.pointer (some ⟨B k,0,none⟩)
theorem K9 (B : Nat -> Nat) (q b : Nat) : ptrs (stN B q b) (q + 1) = ptrs B q++[.pointer (some ⟨b,0,none⟩)]:=by
 unfold ptrs
 rw [List.range_succ,List.map_append]
 congr 1
 ·refine List.map_congr_left fun k hk=>?_
  rw [stN,zq (by have:=List.mem_range.1 hk; omega)]
 ·simp [stN]
def devL (B : Nat -> Nat) (D : Nat -> DevM) : Nat -> List SL.HP
 | 0=>[]
 | q + 1=>lm (B q) (D q)::devL B D q
theorem VR {B : Nat -> Nat} {D : Nat -> DevM} {k b : Nat} : ∀{q : Nat},q <= k -> devL (stN B k b) D q = devL B D q:=by
 intro q
 induction q with
 | zero=>intro _; rfl
 | succ q ih=>
  intro h
  rw [devL,devL,ih (by omega),stN,zq (by omega)]
theorem JP {B : Nat -> Nat} {D : Nat -> DevM} {q c : Nat} : devL (stN B q c) D (q + 1) = lm c (D q)::devL B D q:=by
 rw [devL,VR (Nat.le_refl q)]
 simp [stN]
theorem J9 : Elem Tryz.prog 53 1 8 (.pointer none):=by unfold Elem; kernel_rfl
theorem Lo (b : Nat) : ∀u∈[Value.pointer (some ⟨b,0,none⟩)],u.oneCell' = true:=fun u hu=>by simp at hu; subst hu; rfl
theorem Ih (Y : YA) (m : lf) (R : List SL.HP) {k : Nat} (hk : k < 5) : B3 Y m R k = B3 Y m [] k++R:=by
 have h1 : ∀R,yL Y m R = yL Y m []++R:=fun R=>by
  show shL _ _ _++(yT _ _++R) = (shL _ _ _++(yT _ _++[]))++R
  rw [List.append_nil,zp]
 have h2 : (yL Y m []).length = 15:=rfl
 unfold B3
 rw [h1 R]
 cases m.F k with
 | none=>dsimp only; rw [List.set_append_left _ _ (by omega)]
 | some i=>dsimp only; rw [List.eraseIdx_append_of_lt_length (by omega)]; rfl
theorem Fj {Y : YA} {m : lf} {P Q : SL.HP} {R : List SL.HP} {w : World} {k : Nat} (hk : k < 5) (H : own w (P::Q::B3 Y m R k)) : own w (Q::B3 Y m (P::R) k):=by
 rw [Ih Y m R hk] at H
 rw [Ih Y m (P::R) hk]
 exact lr (Q::B3 Y m [] k) H
theorem I8 (m : lf) (k : Nat) : BT m k (devOf m k) = m:=by
 unfold BT devOf
 cases e : m.F k with
 | none=>dsimp only; rw [show setD m.D k (m.D k) = m.D from funext fun j=>by unfold setD; split <;> simp_all]
 | some i=>dsimp only; rw [EY (m:=i) e]
theorem Ax {N : Nat} {m : lf} (h : YOk N m) {k : Nat} (hk : k < 5) : (devOf m k).Ok /\ (devOf m k).writes <= N /\ (devOf m k).pend.length <= N:=by
 unfold devOf
 cases e : m.F k with
 | none=>exact h.dv k hk e
 | some i=>exact ⟨(h.sh.ok k i hk e).d,h.sh.wr k i hk e,h.sh.pend k i hk e⟩
theorem zl {w : World} (l : List SL.HP) {m : List SL.HP} (H : own w (l++m)) : own w m:=le (yK l H)
theorem Dj {w : World} {l : List SL.HP} (k : Nat) {P : SL.HP} (hk : l[k]? = some P) (H : own w (P::l.eraseIdx k)) : own w l:=zc (fun _=>BV k hk) H
theorem GM {Y : YA} {m : lf} {R : List SL.HP} {w : World} {k : Nat} (hk : k < 5) (H : own w (lm (Y.A k).2.1 (devOf m k)::B3 Y m R k)) : own w (yL Y m R):=by
 have hs:=I8 m k
 unfold BT at hs
 unfold devOf B3 at H
 cases e : m.F k with
 | none=>
  rw [e] at H hs
  dsimp only at hs
  unfold devOf at hs
  rw [e] at hs
  have h1:=GL hk e H
  rwa [hs] at h1
 | some i=>
  rw [e] at H
  have h1:=yK [lP (Y.A k).1 (Y.A k).2.1 (Y.A k).2.2 i,lm (Y.A k).2.1 i.d] (B1 H)
  exact Dj (1 + k) (by rw [Kf Y m R hk]; unfold oJ; rw [e]) h1
def I4 (Y : YA) : Value:=.agg #[.pointer (some ⟨(Y.A 0).2.1,0,none⟩),.pointer (some ⟨(Y.A 1).2.1,0,none⟩),.pointer (some ⟨(Y.A 2).2.1,0,none⟩),.pointer (some ⟨(Y.A 3).2.1,0,none⟩),.pointer (some ⟨(Y.A 4).2.1,0,none⟩)]
theorem WC (a b c d e : Nat) (w : World) : (Instr.index 54 (.agg #[.pointer (some ⟨a,0,none⟩),.pointer (some ⟨b,0,none⟩),.pointer (some ⟨c,0,none⟩),.pointer (some ⟨d,0,none⟩),.pointer (some ⟨e,0,none⟩)]) (.int .i64 ((0 : Nat) : Int))).run Tryz.prog w = .ok (.pointer (some ⟨a,0,none⟩)) w:=by kernel_rfl
theorem Wv (a b c d e : Nat) (w : World) : (Instr.index 54 (.agg #[.pointer (some ⟨a,0,none⟩),.pointer (some ⟨b,0,none⟩),.pointer (some ⟨c,0,none⟩),.pointer (some ⟨d,0,none⟩),.pointer (some ⟨e,0,none⟩)]) (.int .i64 ((1 : Nat) : Int))).run Tryz.prog w = .ok (.pointer (some ⟨b,0,none⟩)) w:=by kernel_rfl
theorem WT (a b c d e : Nat) (w : World) : (Instr.index 54 (.agg #[.pointer (some ⟨a,0,none⟩),.pointer (some ⟨b,0,none⟩),.pointer (some ⟨c,0,none⟩),.pointer (some ⟨d,0,none⟩),.pointer (some ⟨e,0,none⟩)]) (.int .i64 ((2 : Nat) : Int))).run Tryz.prog w = .ok (.pointer (some ⟨c,0,none⟩)) w:=by kernel_rfl
theorem Wu (a b c d e : Nat) (w : World) : (Instr.index 54 (.agg #[.pointer (some ⟨a,0,none⟩),.pointer (some ⟨b,0,none⟩),.pointer (some ⟨c,0,none⟩),.pointer (some ⟨d,0,none⟩),.pointer (some ⟨e,0,none⟩)]) (.int .i64 ((3 : Nat) : Int))).run Tryz.prog w = .ok (.pointer (some ⟨d,0,none⟩)) w:=by kernel_rfl
theorem WF (a b c d e : Nat) (w : World) : (Instr.index 54 (.agg #[.pointer (some ⟨a,0,none⟩),.pointer (some ⟨b,0,none⟩),.pointer (some ⟨c,0,none⟩),.pointer (some ⟨d,0,none⟩),.pointer (some ⟨e,0,none⟩)]) (.int .i64 ((4 : Nat) : Int))).run Tryz.prog w = .ok (.pointer (some ⟨e,0,none⟩)) w:=by kernel_rfl
theorem KC (Y : YA) {k : Nat} (hk : k < 5) (w : World) : (Instr.index 54 (I4 Y) (.int .i64 (k : Int))).run Tryz.prog w = .ok (.pointer (some ⟨(Y.A k).2.1,0,none⟩)) w:=by
 unfold I4
 have h : k = 0 \/ k = 1 \/ k = 2 \/ k = 3 \/ k = 4:=by omega
 rcases h with rfl | rfl | rfl | rfl | rfl
 ·exact WC _ _ _ _ _ w
 ·exact Wv _ _ _ _ _ w
 ·exact WT _ _ _ _ _ w
 ·exact Wu _ _ _ _ _ w
 ·exact WF _ _ _ _ _ w
theorem T7 (N : Nat) (Y : YA) (m : lf) (hm : YOk N m) (R : List SL.HP) (w : World) (H : own w (yL Y m R)) :
  Calls Tryz.prog 123 #[.pointer (some ⟨Y.y,0,none⟩)] w fun e w'=>∃v B bt,e = .returned (.tuple #[v,.pointer (some ⟨bt,0,none⟩)]) /\ Ext w w' /\ own w' (yL Y m (lm bt m.top::row 53 1 v 5 (ptrs B 5)::(devL B (devOf m) 5++R))):=by
 have hb:=Av (lv 53 1 H)
 have d0:=BH H (k:=0) (by decide)
 have d1:=BH H (k:=1) (by decide)
 have d2:=BH H (k:=2) (by decide)
 have d3:=BH H (k:=3) (by decide)
 have d4:=BH H (k:=4) (by decide)
 have HIX:=zh (fun (k : Nat) (hk : k < 5) (w : World)=>KC Y hk w)
 unfold I4 at HIX
 have HOK:=zh (fun (k : Nat) (hk : k < 5)=>(Ax hm hk).1)
 have HTP:=zh hm.tp.1
 clear H hm
 go_enter Tryz.func123,Tryz.ntmps123
 go_wp2_with fail
 go_loopw [11,4] (fun iv v wr=>∃(q : Nat) (B : Nat -> Nat),q <= 5 /\ iv = .int .i64 q /\ Ext w wr /\ own wr (yL Y m (row 53 1 v q (ptrs B q)::(devL B (devOf m) q++R)))) (fun iv _ _=>6 - (intOf iv).toNat)
 case atStart=>exact ⟨0,fun _=>0,by omega,rfl,zR w,hb⟩
 case round=>
  clear hb d0 d1 d2 d3 d4
  obtain ⟨q,B,hq,rfl,hxr,hown⟩:=hrel
  by_cases hlt : q < 5
  ·have g1 : (q : Int) < 5:=by omega
   have g2 : (0 : Int) <= (q : Int):=by omega
   have hix:=HIX.out q hlt wr
   have hcp:=GF (Y.A q).2.1 (devOf m q) (HOK.out q hlt) _ wr (Gu hlt hown)
   have HCP:=zh hcp
   obtain ⟨ao,g,cap,rfl,r1,r2,r3,-,-,-,-⟩:=lk 15 hown rfl
   clear hcp
   go_wp2_with fail
   refine HCP.out.mono ?_
   rintro e w2 ⟨c,rfl,hx2,h2⟩
   have h3:=GM hlt (Fj hlt h2)
   have h4:=lu 16 h3 rfl
   have ha:=li h4 (.cells #[.pointer (some ⟨c,0,none⟩)] 53)
   go_wp2_with (first | (at_builtin; refine lD rfl _ _ 62 rfl 1 53 Tryz.underlying62 J9 rfl (by decide) rfl ha rfl (some ⟨_,0,none⟩) 1 1 [.pointer (some ⟨c,0,none⟩)] rfl rfl (ot _ [.pointer (some ⟨c,0,none⟩)] _) (fun h=>by cases h) (Lo _) (by simp only [maxLen]; omega) (by omega) ?_))
   intro v' w7 h7 hx7
   have h8:=Av (Y:=Y) (m:=m) (R:=lm c (devOf m q)::(devL B (devOf m) q++R)) (le h7)
   have hx8:=((hxr.trans hx2).alloc (.cells #[.pointer (some ⟨c,0,none⟩)] 53)).trans hx7
   go_wp2_with fail
   go_roundw
   case rel=>exact ⟨q + 1,stN B q c,by omega,by go_num,hx8,by rw [K9,JP]; exact h8⟩
   case measure=>simp [intOf]; omega
  ·obtain rfl : q = 5:=by omega
   obtain ⟨ao,g,cap,rfl,-,-,-,-,-,-,-⟩:=lk 15 hown rfl
   have ct:=y_tp hown
   go_wp2_with fail
   refine (GF Y.tp m.top HTP.out _ wr (KG hown)).mono ?_
   rintro e w2 ⟨bt,rfl,hx2,h2⟩
   have h3 : own w2 (lm Y.tp m.top::(yL Y m (lm bt m.top::row 53 1 (.slice ao 5 cap) 5 (ptrs B 5)::(devL B (devOf m) 5++R))).eraseIdx 12):=lr (lm Y.tp m.top::(yL Y m []).eraseIdx 12) h2
   have h4 : own w2 (yL Y m (lm bt m.top::row 53 1 (.slice ao 5 cap) 5 (ptrs B 5)::(devL B (devOf m) 5++R))):=lr ((yL Y m []).take 12) h3
   go_wp2_with fail
   go_ret2
   exact ⟨_,B,bt,rfl,hxr.trans hx2,h4⟩
end Go.Proofs.YtbpblokfiajpjabGreatDoor
namespace Go.Proofs.YtbpblokfiajpjabGreatDoor
open Go.RowKit Go.SL Go.Crc
theorem Ve : ∀(n : Nat) (l : List Int),l.Nodup -> (∀x∈l,0 <= x /\ x < n) -> l.length <= n:=by
 intro n
 induction n with
 | zero=>
  intro l _ h
  cases l with
  | nil=>exact Nat.le_refl 0
  | cons x l=>have:=h x (List.mem_cons_self ..); omega
 | succ n ih=>
  intro l hn h
  have h1:=ih (l.erase (n : Int)) (hn.erase _) fun x hx=>by
   obtain ⟨h2,h3⟩:=(List.Nodup.mem_erase_iff hn).1 hx
   have:=h x h3
   omega
  have h2:=List.length_erase (a:=(n : Int)) (l:=l)
  split at h2 <;> omega
theorem YOk.chn {N : Nat} {m : lf} (h : YOk N m) : Chn m.F (clus m.F m.dk.root) m.list:=by
 have:=Gq (F:=m.F) (root:=m.dk.root) (by rw [h.walk])
 rwa [h.walk] at this
theorem YOk.nodup {N : Nat} {m : lf} (h : YOk N m) : m.list.Nodup:=by
 have:=GJ (F:=m.F) (root:=m.dk.root) (by rw [h.walk])
 rwa [h.walk] at this
theorem lJ.off {N M : Nat} {m : lf} (h : lJ N m) (hNM : N <= M) {file : Int} (h0 : 0 <= file) (hu : Dk m file = false) {F' : ShM} {D' : Nat -> DevM} (hF : ∀j,j≠file.toNat -> F' j = m.F j) (hD : ∀j,j≠file.toNat -> D' j = m.D j) (hW : ShW M F')
  (hDk : F' file.toNat = none -> (D' file.toNat).Ok /\ (D' file.toNat).writes <= M /\ (D' file.toNat).pend.length <= M) : lJ M { m with F:=F',D:=D' }:=by
 have hM:=h.mono hNM
 unfold Dk at hu
 rw [Bool.or_eq_false_iff,decide_eq_false_iff_not] at hu
 obtain ⟨hnl,hnb⟩:=hu
 have hs : ∀x,0 <= x -> x≠file -> F' x.toNat = m.F x.toNat:=fun x hx hne=>hF _ (by omega)
 have hfk : ∀x,ly m.F x -> x≠file -> ly F' x:=fun x ⟨a,b,c⟩ hne=>⟨a,b,by rw [hs x a hne]; exact c⟩
 have hin:=h.ok.chn.file
 obtain ⟨s,hl⟩:=h.ok.head
 have hroot : m.dk.root∈m.list:=by rw [hl]; exact List.mem_cons_self ..
 have hne : ∀x∈m.list,x≠file:=fun x hx e=>hnl (e ▸ hx)
 refine ⟨⟨hW,fun k hk e=>?_,hM.ok.tp,?_,hfk _ h.ok.root (hne _ hroot),h.ok.jok,fun j hj h4=>?_⟩,h.str⟩
 ·by_cases hk2 : k = file.toNat
  ·subst hk2; exact hDk e
  ·dsimp only at e ⊢
   rw [hF k hk2] at e
   rw [hD k hk2]
   exact hM.ok.dv k hk e
 ·refine L1 h.ok.root h.ok.walk fun x hx=>?_
  unfold shp
  dsimp only
  rw [hs x (hin x hx).1 (hne x hx)]
 ·obtain ⟨⟨a,b⟩,c,d,e,f⟩:=h.ok.job j hj h4
  refine ⟨⟨fun x hx=>hfk x (a x hx) (hne x (by rw [<- c]; exact hx)),fun h2=>hfk _ (b h2) ?_⟩,c,d,e,f⟩
  rw [e]
  intro he
  have : y8 m = true:=by unfold y8; rw [hj]; exact zg h4
  rw [this,he] at hnb
  simp at hnb
theorem Sr {m : lf} {file back : Int} (h : (oB m file back).1 = 0) : 0 <= file /\ file < 5 /\ Dk m file = false /\ (yY m file.toNat back).1 = 0 /\ (oB m file back).2 = { m with F:=put m.F file.toNat (yY m file.toNat back).2 }:=by
 revert h
 unfold oB
 split
 ·exact fun h=>absurd h (by simp)
 ·split
  ·exact fun h=>absurd h (by simp)
  ·split
   ·rename_i h; exact fun h2=>absurd h2 h
   ·rename_i h1 h2 h3
    exact fun _=>⟨by omega,by omega,by simpa using h2,Decidable.not_not.1 h3,rfl⟩
theorem Jr {N : Nat} {m : lf} (h : lJ N m) (hN : N + 10 < 900000) (file back : Int) : lJ (N + 5) (oB m file back).2:=by
 unfold oB
 split
 ·exact h.mono (by omega)
 ·rename_i hb
  split
  ·exact h.mono (by omega)
  ·rename_i hu
   have hk : file.toNat < 5:=by omega
   obtain ⟨d1,d2,d3⟩:=Ax h.ok hk
   have hc : (yY m file.toNat back).2.d.Ok /\ (yY m file.toNat back).2.d.fl.length = (devOf m file.toNat).fl.length /\ (yY m file.toNat back).2.d.pend.length <= (devOf m file.toNat).pend.length + 4 /\ (yY m file.toNat back).2.d.writes <= (devOf m file.toNat).writes + 5 /\
    ((yY m file.toNat back).1 = 0 -> (yY m file.toNat back).2.Ok /\ _ /\ (yY m file.toNat back).2.d.pend = [] /\ _):=GO d1 (by omega) (by omega)
   obtain ⟨c1,c2,c3,c4,c5⟩:=hc
   have hu' : Dk m file = false:=by simpa using hu
   split
   ·refine h.off (by omega) (by omega) hu' (fun j hj=>zq hj) (fun j hj=>zq hj) ⟨fun k x hk hx=>?_,fun k x hk hx=>?_,fun k x hk hx=>?_⟩ (fun _=>by unfold setD; rw [zt rfl]; exact ⟨c1,by omega,by omega⟩)
    all_goals
     unfold cut at hx
     by_cases hk2 : k = file.toNat
     ·rw [zt hk2] at hx; cases hx
     ·rw [zq hk2] at hx
      first | exact h.ok.sh.ok k x hk hx | (have:=h.ok.sh.wr k x hk hx; omega) | (have:=h.ok.sh.pend k x hk hx; omega)
   ·rename_i hc0
    have hc0:=c5 (Decidable.not_not.1 hc0)
    refine h.off (D':=m.D) (by omega) (by omega) hu' (fun j hj=>zq hj) (fun j hj=>rfl) ⟨fun k x hk hx=>?_,fun k x hk hx=>?_,fun k x hk hx=>?_⟩ (fun e=>by rw [zK] at e; cases e)
    all_goals
     unfold put at hx
     by_cases hk2 : k = file.toNat
     ·rw [zt hk2] at hx
      cases hx
      first | exact hc0.1 | omega
     ·rw [zq hk2] at hx
      first | exact h.ok.sh.ok k x hk hx | (have:=h.ok.sh.wr k x hk hx; omega) | (have:=h.ok.sh.pend k x hk hx; omega)
theorem Q5 {N : Nat} {m : lf} (h : lJ N m) (hN : N + 10 < 900000) (file : Int) : lJ (N + 6) (Bt m file).2:=by
 unfold Bt
 split
 ·exact h.mono (by omega)
 ·rename_i hbusy
  split
  ·exact h.mono (by omega)
  ·rename_i h4
   have hb:=Jr h hN file m.dk.root
   split
   ·exact hb.mono (by omega)
   ·rename_i hc
    have ht:=EA hb.ok (by omega) (lz file)
    split
    ·rename_i hw
     rw [D4 hw]
     exact hb.desk ht
    ·rename_i hw
     obtain ⟨f0,f5,hu,hr,hM⟩:=Sr (Decidable.not_not.1 hc)
     have hy:=Dn (m:=(oB m file m.dk.root).2) (d:=lz file) (Decidable.not_not.1 hw)
     generalize (lw (oB m file m.dk.root).2 (lz file)).2 = W at *
     rw [hy]
     have his:=KS (devOf m file.toNat) (clus m.F m.dk.root) (Ae (clus m.F m.dk.root) (devOf m file.toNat)) m.dk.root
     change (yY m file.toNat m.dk.root).2 = _ at his
     have hic : (yY m file.toNat m.dk.root).2.c = clus m.F m.dk.root:=by rw [his]; rfl
     have hib : (yY m file.toNat m.dk.root).2.b = m.dk.root:=by rw [his]; rfl
     have hjob : (oB m file m.dk.root).2.job = m.job:=by rw [hM]
     have hF : (oB m file m.dk.root).2.F = put m.F file.toNat (yY m file.toNat m.dk.root).2:=by rw [hM]
     generalize (oB m file m.dk.root).2 = B at *
     generalize (yY m file.toNat m.dk.root).2 = i at *
     have hnl : file∉m.list:=by
      unfold Dk at hu
      rw [Bool.or_eq_false_iff,decide_eq_false_iff_not] at hu
      exact hu.1
     have hcn:=h.ok.chn
     obtain ⟨s,hl⟩:=h.ok.head
     have h5 : (file::m.list).length <= 5:=Ve 5 _ (List.nodup_cons.2 ⟨hnl,h.ok.nodup⟩) fun x hx=>by
      rcases List.mem_cons.1 hx with rfl | hx
      ·exact ⟨f0,f5⟩
      ·exact ⟨(hcn.file x hx).1,(hcn.file x hx).2.1⟩
     have hne : ∀x∈m.list,x≠file:=fun x hx e=>hnl (e ▸ hx)
     have hkeep : Chn B.F (clus m.F m.dk.root) m.list:=hcn.keep fun x hx=>by
      have:=(hcn.file x hx).1
      have:=hne x hx
      unfold shp
      rw [hF,AX _ _ (by omega)]
     have hat : B.F file.toNat = some i:=by rw [hF,zK]
     have hfile : ly B.F file:=⟨f0,f5,i,hat⟩
     have hcl : clus B.F file = clus m.F m.dk.root:=by unfold clus at hic ⊢; rw [hat]; exact hic
     have hbk : bkOf B.F file = m.dk.root:=by unfold bkOf; rw [hat]; exact hib
     have hwk : lt B.F file = (file::m.list,0):=by
      refine I2 ?_ h5
      rw [hcl]
      refine ⟨fun x hx=>?_,fun x hx=>?_,?_,hkeep.ch⟩
      ·rcases List.mem_cons.1 hx with rfl | hx
       ·exact hfile
       ·exact hkeep.file x hx
      ·rcases List.mem_cons.1 hx with rfl | hx
       ·exact hcl
       ·exact hkeep.cl x hx
      ·rw [hbk,hl]; rfl
     exact hb.bare ht hfile hwk (oj:=B.job) fun j hj=>by
      rw [hjob] at hj
      refine ⟨h.ok.jok j hj,fun h4=>?_⟩
      apply hbusy
      unfold y8
      rw [hj]
      exact zg h4
theorem PU {F : ShM} {root kind file rate burst : Int} {j : JobM} (h : (newM F root kind file rate burst).1 = some j) :
  (lt F root).2 = 0 /\ j.list = (lt F root).1 /\ j.kind = kind /\ j.file = file /\ j.root = root /\ j.st = 2 /\ (kind = 2 -> file = -1 \/ file∈(lt F root).1.tail):=by
 unfold newM at h
 split at h
 ·cases h
 ·rename_i h0
  have h0:=Decidable.not_not.1 h0
  split at h
  ·cases h
  ·split at h
   ·cases h
   ·split at h
    ·rename_i hk
     split at h
     ·cases h
     ·split at h
      ·cases h
      ·cases h
       exact ⟨h0,rfl,rfl,rfl,rfl,rfl,fun h2=>by omega⟩
    ·split at h
     ·rename_i hk
      cases h
      exact ⟨h0,rfl,rfl,rfl,rfl,rfl,fun _=>.inl hk.2⟩
     ·split at h
      ·split at h
       ·cases h
       ·rename_i hp
        cases h
        refine ⟨h0,rfl,rfl,rfl,rfl,rfl,fun _=>.inr ?_⟩
        have hp : ¬Ab (lt F root).1 file < 1:=hp
        generalize (lt F root).1 = l at *
        cases l with
        | nil=>exact absurd (show Ab [] file < 1 by show (-1 : Int) < 1; decide) hp
        | cons x l=>
         unfold Ab zX at hp
         split at hp
         ·omega
         ·refine Decidable.byContradiction fun hn=>?_
          have hn : file∉l:=hn
          rw [Oa hn] at hp
          omega
      ·cases h
theorem O7 {N : Nat} {m : lf} (h : lJ N m) (hN : N + 10 < 900000) (kind file rate burst : Int) : lJ (N + 1) (AC m kind file rate burst).2:=by
 unfold AC
 split
 ·exact h.mono (by omega)
 ·split
  ·exact h.mono (by omega)
  ·split
   ·exact h.mono (by omega)
   ·have hl5 : (lt m.F m.dk.root).1.length <= 5:=Bl
    have hg:=fun j (hj : (newM m.F m.dk.root kind file rate burst).1 = some j)=>Ft (h.ok.sh.sh (by omega)) hl5 hj
    have hi:=fun j (hj : (newM m.F m.dk.root kind file rate burst).1 = some j)=>PU hj
    have ht:=EA h.ok (by omega) ⟨m.dk.root,kind,file,rate,burst⟩
    generalize newM m.F m.dk.root kind file rate burst = S at *
    obtain ⟨oj,f⟩:=S
    cases oj with
    | none=>exact h.mono (by omega)
    | some j=>
     obtain ⟨hj,hS⟩:=hg j rfl
     obtain ⟨-,i1,i2,i3,i4,-,i5⟩:=hi j rfl
     rw [h.ok.walk] at i1 i5
     dsimp only at i1 i5 ⊢
     split
     ·rename_i hw
      rw [D4 hw]
      exact h.desk ht
     ·rename_i hw
      have hy:=Dn (m:=m) (d:=⟨m.dk.root,kind,file,rate,burst⟩) (Decidable.not_not.1 hw)
      generalize (lw m ⟨m.dk.root,kind,file,rate,burst⟩).2 = W at *
      have h1:=h.mono (Nat.le_succ N)
      have hs:=JD j false
      rw [hy]
      exact ⟨⟨h1.ok.sh,h1.ok.dv,ht,h.ok.walk,h.ok.root,fun k hk=>by cases hk; exact LD hj false,fun k hk _=>by cases hk; exact ⟨hS.same hs,hs.1.trans i1,hs.2.1.trans i2,hs.2.2.1.trans i3,hs.2.2.2.1.trans i4⟩⟩,
       fun k hk _ h2=>by cases hk; rw [hs.2.2.1,i3]; exact i5 (by rw [<- i2,<- hs.2.1]; exact h2)⟩
theorem Ov {N : Nat} {m : lf} (h : m.top.Ok /\ m.top.writes <= N /\ m.top.pend.length <= N /\ 1 <= m.top.fl.length) (hN : N < 900000) (d : lI) : (lw m d).2.top.Ok /\ (lw m d).2.top.writes <= (N + 1 : Nat) /\ (lw m d).2.top.pend.length <= N + 1 /\ 1 <= (lw m d).2.top.fl.length:=by
 obtain ⟨a,b,c,e⟩:=h
 have h1:=DevM.write_ok a 0 d.s (by omega) (by omega)
 obtain ⟨h2,h3,h4⟩:=yE m.top 0 d.s
 unfold lw
 split
 ·exact ⟨h1,by dsimp only; omega,by dsimp only; omega,by dsimp only; omega⟩
 ·refine ⟨DevM.flush_ok h1,?_,?_,?_⟩
  ·simp only [DevM.flush]; omega
  ·simp [DevM.flush]
  ·simp only [DevM.flush,lK]; omega
theorem OV (m : lf) (d : lI) : ({ (lw m d).2 with dk:=d } : lf) = { m with top:=(lw m d).2.top,dk:=d }:=by
 by_cases h : (lw m d).1 = 0
 ·have hy:=Dn h
  generalize (lw m d).2 = W at *
  rw [hy]
 ·have hy:=D4 h
  generalize (lw m d).2 = W at *
  rw [hy]
theorem lJ.stepJ {N : Nat} {m : lf} (h : lJ N m) (hN : N + 10 < 900000) {j : JobM} (hj : m.job = some j) (h4 : j.st < 4) : lJ (N + 5) { m with F:=(lZ m.F j).2.1,job:=some (lZ m.F j).2.2 }:=by
 obtain ⟨hS,-⟩:=h.ok.job j hj h4
 have hst:=Ez (h.ok.sh.sh (by omega)) (h.ok.jok j hj) hS
 have h1:=h.shelf (Nat.le_add_right N 5) hst.same (h.ok.sh.step hst)
 exact h1.jobs hj (J8 (h.ok.jok j hj)) (C7 m.F j) (fun _=>h4)
theorem lJ.bareW {N : Nat} {m : lf} (h : lJ N m) (hN : N < 900000) (hn : ∀j,m.job = some j -> ¬j.st < 4) : lJ (N + 1) (lw m (lz m.dk.root)).2:=by
 have ht:=EA h.ok hN (lz m.dk.root)
 by_cases hc : (lw m (lz m.dk.root)).1 = 0
 ·have hy:=Dn hc
  generalize (lw m (lz m.dk.root)).2 = W at *
  rw [hy]
  exact h.bare ht h.ok.root h.ok.walk (oj:=m.job) fun j hj=>⟨h.ok.jok j hj,hn j hj⟩
 ·have hy:=D4 hc
  generalize (lw m (lz m.dk.root)).2 = W at *
  rw [hy]
  exact h.desk ht
theorem Te (i : ImgM) (k : Int) : (i.link k).2.c = i.c /\ ((i.link k).1≠0 -> (i.link k).2.b = i.b) /\ ((i.link k).1 = 0 -> (i.link k).2.b = k):=by
 unfold ImgM.link
 split
 ·exact ⟨rfl,fun _=>rfl,fun h=>absurd h (by simp)⟩
 ·split
  ·exact ⟨rfl,fun _=>rfl,fun h=>absurd h (by assumption)⟩
  ·exact ⟨rfl,fun h=>absurd rfl h,fun _=>rfl⟩
theorem Pj {F : ShM} {root : Int} {l : List Int} (hr : ly F root) (hw : lt F root = (l,0)) {file : Int} (hf : file = -1 \/ file∈l.tail) {F' : ShM} (hF : ∀k,k≠root.toNat -> F' k = F k) (hc : clus F' root = clus F root) (hb : bkOf F' root = file) (hr' : ly F' root) :
  ∃t,lt F' root = (root::t,0) /\ (file = -1 -> t = []) /\ (file≠-1 -> ∃p s,l = root::(p++file::s) /\ t = file::s):=by
 have hch:=Gq (F:=F) (root:=root) (by rw [hw])
 have hnd:=GJ (F:=F) (root:=root) (by rw [hw])
 obtain ⟨s,hl⟩:=Ir hr (by rw [hw])
 have h5:=Bl (F:=F) (root:=root)
 rw [hw] at hch hnd hl h5
 dsimp only at hch hnd hl h5
 subst hl
 have hwalk : ∀t,Chn F (clus F root) t -> root∉t -> (root::t).length <= 5 -> file = t.headD (-1) -> lt F' root = (root::t,0):=fun t ht hnt h5 hh=>by
  have hk : Chn F' (clus F root) t:=ht.keep fun x hx=>by
   have h1:=(ht.file x hx).1
   have h2:=hr.1
   have h3 : x≠root:=fun e=>hnt (e ▸ hx)
   unfold shp
   rw [hF _ (by omega)]
  refine I2 ?_ h5
  rw [hc]
  refine ⟨fun x hx=>?_,fun x hx=>?_,?_,hk.ch⟩
  ·rcases List.mem_cons.1 hx with rfl | hx
   ·exact hr'
   ·exact hk.file x hx
  ·rcases List.mem_cons.1 hx with rfl | hx
   ·exact hc
   ·exact hk.cl x hx
  ·rw [hb]; exact hh
 by_cases hn : file = -1
 ·refine ⟨[],hwalk [] ⟨fun x hx=>by (cases hx),fun x hx=>by (cases hx),trivial⟩ (fun h=>by (cases h)) (by simp) hn,fun _=>rfl,fun h=>absurd hn h⟩
 ·have hm:=hf.resolve_left hn
  dsimp only [List.tail] at hm
  obtain ⟨p,t,rfl⟩:=List.append_of_mem hm
  have hn2:=(List.nodup_cons.1 hnd).1
  refine ⟨file::t,hwalk (file::t) (Chn.drop (p:=root::p) (by simpa using hch)) (fun h=>hn2 (List.mem_append.2 (.inr h))) (by simp at h5 ⊢; omega) rfl,fun h=>absurd h hn,fun _=>⟨p,t,rfl,rfl⟩⟩
theorem PB {F : ShM} {j : JobM} (h2 : j.kind = 2) {root : Int} (hr : ly F root) (hl : j.list.getD 0 0 = root) :
  ((lA F j).1≠0 -> oL F (lA F j).2.1 /\ (j.st = 3 -> (lA F j).2.2.st = 5)) /\
  ((lA F j).1 = 0 -> (∀k,k≠root.toNat -> (lA F j).2.1 k = F k) /\ clus (lA F j).2.1 root = clus F root /\ bkOf (lA F j).2.1 root = j.file /\ ly (lA F j).2.1 root):=by
 obtain ⟨r0,r5,i,hi⟩:=hr
 obtain ⟨l1,l2,l3⟩:=Te i j.file
 have hL : Bs F root.toNat j.file = ((i.link j.file).1,put F root.toNat (i.link j.file).2):=by unfold Bs; rw [hi]
 unfold lA
 split
 ·rename_i h3
  exact ⟨fun _=>⟨oL.refl F,fun h=>absurd h h3⟩,fun h=>absurd h (by simp)⟩
 ·rw [hl,hL]
  dsimp only
  by_cases hc : (i.link j.file).1≠0
  ·rw [zt hc]
   exact ⟨fun _=>⟨oL.put hi l1 (l2 hc),fun _=>rfl⟩,fun h=>absurd h hc⟩
  ·rw [zq hc]
   refine ⟨fun h=>absurd rfl h,fun _=>⟨fun k hk=>AX F _ hk,?_,?_,⟨r0,r5,_,zK ..⟩⟩⟩
   ·unfold clus; dsimp only; rw [zK,hi]; exact l1
   ·unfold bkOf; dsimp only; rw [zK]; exact l3 (Decidable.not_not.1 hc)
theorem LN {l : List Int} {x : Int} {s : List Int} (h : l = x::s) : l.getD 0 0 = x:=by rw [h]; rfl
theorem lJ.linked {N : Nat} {m : lf} (h : lJ N m) (hN : N + 10 < 900000) {j : JobM} (hj : m.job = some j) (h4 : j.st < 4) (h2 : m.dk.kind = 2) (hc : (lA (lZ m.F j).2.1 (lZ m.F j).2.2).1 = 0) :
  ∃t,lt (lA (lZ m.F j).2.1 (lZ m.F j).2.2).2.1 m.dk.root = (m.dk.root::t,0) /\ (j.file = -1 -> t = []) /\ (j.file≠-1 -> ∃p s,m.list = m.dk.root::(p++j.file::s) /\ t = j.file::s):=by
 obtain ⟨hS,hl,hk,hf,hr⟩:=h.ok.job j hj h4
 have h1:=h.stepJ hN hj h4
 have hs:=C7 m.F j
 have hstr:=h.str j hj h4 (hk.trans h2)
 obtain ⟨s,hls⟩:=h.ok.head
 have hrt : ly (lZ m.F j).2.1 m.dk.root:=h1.ok.root
 have hwk : lt (lZ m.F j).2.1 m.dk.root = (m.list,0):=h1.ok.walk
 have hc2:=(PB (F:=(lZ m.F j).2.1) (j:=(lZ m.F j).2.2) (by rw [hs.2.1,hk,h2]) hrt (LN (by rw [hs.1,hl,hls]))).2 hc
 obtain ⟨a,b,c,d⟩:=hc2
 rw [hs.2.2.1] at c
 exact Pj hrt hwk hstr a b c d
theorem lJ.linkOk {N : Nat} {m : lf} (h : lJ N m) (hN : N + 10 < 900000) : NY m:=fun j hj h4 h2 hc=>by
 obtain ⟨t,ht,-⟩:=h.linked hN hj h4 h2 hc
 rw [ht]
theorem JJ {N : Nat} {m : lf} (h : lJ N m) (hN : N + 20 < 900000) : lJ (N + 10) (zE m).2:=by
 unfold zE
 cases hj : m.job with
 | none=>exact h.mono (by omega)
 | some j=>
  dsimp only
  split
  ·exact h.mono (by omega)
  ·rename_i h4
   have h4 : j.st < 4:=by omega
   have h1:=h.stepJ (by omega) hj h4
   split
   ·split
    ·exact h1.mono (by omega)
    ·rename_i hn
     exact (h1.bareW (by omega) fun k hk=>by cases hk; exact hn).mono (by omega)
   ·split
    ·exact h1.mono (by omega)
    ·rename_i hc0 hks
     have hk2 : m.dk.kind = 2:=Decidable.byContradiction fun hn=>hks (.inl hn)
     have hs3 : (lZ m.F j).2.2.st = 3:=Decidable.byContradiction fun hn=>hks (.inr hn)
     obtain ⟨hS,hl,hk,hf,hr⟩:=h.ok.job j hj h4
     have hs:=C7 m.F j
     obtain ⟨s,hls⟩:=h.ok.head
     have hS1 : JobS (lZ m.F j).2.1 (lZ m.F j).2.2:=(h1.ok.job _ rfl (by omega)).1
     have hjo : (lZ m.F j).2.2.Ok:=h1.ok.jok _ rfl
     have hst:=PB (F:=(lZ m.F j).2.1) (j:=(lZ m.F j).2.2) (by rw [hs.2.1,hk,hk2]) h1.ok.root (LN (by rw [hs.1,hl,hls]))
     have hlk:=h.linked (by omega) hj h4 hk2
     have hW:=BW h1.ok.sh (by omega) hjo hS1
     have hSJ:=Cj (lZ m.F j).2.1 (lZ m.F j).2.2
     have hSO:=Ss (F:=(lZ m.F j).2.1) hjo
     dsimp only at hW
     generalize (lZ m.F j).2.1 = F1 at *
     generalize (lZ m.F j).2.2 = j1 at *
     have hSt : (lA F1 j1).1 = 0 -> (lA F1 j1).2.2 = j1:=by
      unfold lA
      rw [zq (by omega),zt (by rw [hs.2.1,hk,hk2])]
      split
      ·exact fun h=>absurd h (by assumption)
      ·exact fun _=>rfl
     generalize lA F1 j1 = S at *
     obtain ⟨c,F2,j2⟩:=S
     dsimp only at *
     split
     ·rename_i hc
      obtain ⟨g1,g2⟩:=hst.1 hc
      have h2:=h1.shelf (M:=N + 5 + 1) (Nat.le_succ _) g1 hW
      have h3:=h2.jobs (j:=j1) (j':=j2) rfl hSO hSJ (fun _=>by omega)
      exact (h3.bareW (by omega) fun k hk=>by cases hk; have:=g2 hs3; omega).mono (by omega)
     ·rename_i hc
      have hc:=Decidable.not_not.1 hc
      obtain ⟨t,ht,-⟩:=hlk hc
      obtain ⟨g1,g2,g3,g4⟩:=hst.2 hc
      have hjj:=hSt hc
      subst hjj
      rw [OV]
      have ht2:=Ov (N:=N + 5) (m:={ m with F:=F2,list:=(lt F2 m.dk.root).1,job:=some (endM j2 true) }) h1.ok.tp (by omega) (lz m.dk.root)
      obtain ⟨t1,t2,t3,t4⟩:=ht2
      generalize (lw _ _).2.top = T at *
      refine ⟨⟨hW.mono (by omega),fun k hk5 e=>?_,⟨t1,by dsimp only; omega,by dsimp only; omega,t4⟩,by show lt F2 m.dk.root = ((lt F2 m.dk.root).1,0); rw [ht],g4,fun k hk=>by cases hk; exact PD hjo true,fun k hk h=>by cases hk; exact absurd h (Lk _ _)⟩,fun k hk h=>by cases hk; exact absurd h (Lk _ _)⟩
      dsimp only at e ⊢
      have hkr : k≠m.dk.root.toNat:=fun e2=>by
       obtain ⟨-,-,i,hi⟩:=g4
       rw [e2,hi] at e
       cases e
      rw [g1 k hkr] at e
      obtain ⟨a,b,c⟩:=h1.ok.dv k hk5 e
      dsimp only at a b c
      exact ⟨a,by omega,by omega⟩
end Go.Proofs.YtbpblokfiajpjabGreatDoor
