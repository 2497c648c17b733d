/- Lemmas on which YardSays stands: the texts RYard18 RYard19 Yard22 Yard23 Yard24 YardSaysLaw TabLaid. No conditions. -/
import Derived.Test.YtbpblokfiajpjabGreatDoorPkcaabe25502
import Derived.Test.YtbpblokfiajpjabGreatDoorRows
import Derived.LaidMore
import Derived.Lay
set_option linter.all false
set_option maxRecDepth 1000000
set_option maxHeartbeats 32000000
namespace Go.Proofs.YtbpblokfiajpjabGreatDoor
open Go.RowKit Go.SL Go.Crc
attribute [local go_sem ↓] Go.wp_at_zero Go.wp_at_succ
theorem QL (N : Nat) (B : Nat -> Nat) (D : Nat -> DevM) (hD : ∀k,k < 5 -> (D k).Ok /\ (D k).writes <= N /\ (D k).pend.length <= N) (hD0 : ∀k,k < 5 -> 0 < (D k).fl.length) (hN : N < 900000) (tb : Nat) (top : DevM) (ht : top.Ok) (ht0 : 0 < top.fl.length) (R : List SL.HP) (w : World) (H : own w (yt B D 5++(ln tb top::R))) :
    Calls Tryz.prog 28 #[JV B,.pointer (some ⟨tb,0,none⟩)] w (Mh (zw D top) R w):=by
  have HD:=zh (fun k (hk : k < 5)=>(hD k hk).1)
  have HD0:=zh hD0
  have HW:=zh (La hD)
  have HTS:=zh (AP ht (a:=0) (by omega) (by omega))
  have HT:=zh ht
  have HT0:=zh ht0
  generalize hYO : zw D top = YO
  have HYO:=zh hYO
  clear hD hD0 ht ht0 hYO
  have h1:=li H (.cells #[.pointer (some ⟨B 0,0,none⟩),.pointer (some ⟨B 1,0,none⟩),.pointer (some ⟨B 2,0,none⟩),.pointer (some ⟨B 3,0,none⟩),.pointer (some ⟨B 4,0,none⟩)] 56)
  have hx1:=(zR w).alloc (.cells #[.pointer (some ⟨B 0,0,none⟩),.pointer (some ⟨B 1,0,none⟩),.pointer (some ⟨B 2,0,none⟩),.pointer (some ⟨B 3,0,none⟩),.pointer (some ⟨B 4,0,none⟩)] 56)
  unfold JV
  go_enter Tryz.func28,Tryz.ntmps28
  go_upto_region 1 with (fail)
  generalize w.heap.size = gb at *
  generalize w.alloc (.cells #[.pointer (some ⟨B 0,0,none⟩),.pointer (some ⟨B 1,0,none⟩),.pointer (some ⟨B 2,0,none⟩),.pointer (some ⟨B 3,0,none⟩),.pointer (some ⟨B 4,0,none⟩)] 56) = w1 at *
  have h2:=Pq (fun k=>(0,B k)) h1
  have hx2:=hx1.alloc (.cells #[.pointer none,.pointer none,.pointer none,.pointer none,.pointer none] 114)
  have cb:=(ld 6 h2 rfl).1
  have b0:=cb 0
  have b1:=cb 1
  have b2:=cb 2
  have b3:=cb 3
  have b4:=cb 4
  clear cb
  have h3:=li h2 (.cells #[.pointer (some ⟨B 0,0,none⟩),.pointer (some ⟨B 1,0,none⟩),.pointer (some ⟨B 2,0,none⟩),.pointer (some ⟨B 3,0,none⟩),.pointer (some ⟨B 4,0,none⟩),.pointer (some ⟨tb,0,none⟩),.pointer (some ⟨w1.heap.size,0,none⟩),.int .i64 0,.int .i64 0,.int .i64 0,.int .i64 0,.int .i64 0,.slice none 0 0,.pointer none] 171)
  have hx3:=hx2.alloc (.cells #[.pointer (some ⟨B 0,0,none⟩),.pointer (some ⟨B 1,0,none⟩),.pointer (some ⟨B 2,0,none⟩),.pointer (some ⟨B 3,0,none⟩),.pointer (some ⟨B 4,0,none⟩),.pointer (some ⟨tb,0,none⟩),.pointer (some ⟨w1.heap.size,0,none⟩),.int .i64 0,.int .i64 0,.int .i64 0,.int .i64 0,.int .i64 0,.slice none 0 0,.pointer none] 171)
  go_wp2_with fail
  rw [show (w1.alloc (.cells #[.pointer none,.pointer none,.pointer none,.pointer none,.pointer none] 114)).heap.size = w1.heap.size + 1 by simp] at h3
  generalize w1.heap.size + 1 = y at *
  generalize w1.heap.size = bs at *
  generalize (w1.alloc (.cells #[.pointer none,.pointer none,.pointer none,.pointer none,.pointer none] 114)).alloc (.cells #[.pointer (some ⟨B 0,0,none⟩),.pointer (some ⟨B 1,0,none⟩),.pointer (some ⟨B 2,0,none⟩),.pointer (some ⟨B 3,0,none⟩),.pointer (some ⟨B 4,0,none⟩),.pointer (some ⟨tb,0,none⟩),.pointer (some ⟨bs,0,none⟩),.int .i64 0,.int .i64 0,.int .i64 0,.int .i64 0,.int .i64 0,.slice none 0 0,.pointer none] 171) = w3 at *
  have h4 : own w3 (rnL y bs (fun k=>(0,B k)) (fun _=>none) D 5 (.pointer (some ⟨tb,0,none⟩)) ⟨0,0,0,0,0⟩ (.slice none 0 0) (ln tb top::pts gb (.cells #[.pointer (some ⟨B 0,0,none⟩),.pointer (some ⟨B 1,0,none⟩),.pointer (some ⟨B 2,0,none⟩),.pointer (some ⟨B 3,0,none⟩),.pointer (some ⟨B 4,0,none⟩)] 56 (0,0))::R)):=by
    have h5:=lr (_::rshL bs (fun k=>(0,B k)) (fun _=>none)++(yt B D 5++[ln tb top])) (R:=R) (a:=pts gb (.cells #[.pointer (some ⟨B 0,0,none⟩),.pointer (some ⟨B 1,0,none⟩),.pointer (some ⟨B 2,0,none⟩),.pointer (some ⟨B 3,0,none⟩),.pointer (some ⟨B 4,0,none⟩)] 56 (0,0))) (by
      have:=lu 7 h3 rfl
      exact this)
    exact WH (dk:=⟨0,0,0,0,0⟩) (by exact h5)
  have hF0 : (fun _=>none : ShM) = opF D 0:=funext fun k=>by unfold opF; rw [zq (by omega)]
  rw [hF0] at h4
  clear hF0 h1 h2 h3 hx1 hx2 H b0 b1 b2 b3 b4
  go_loopw [7] (fun kv wr=>∃(q : Nat) (A : Nat -> Nat×Nat),q <= 5 /\ kv = .int .i64 q /\ (∀k,q <= k -> (A k).2 = B k) /\ Ext w wr /\ own wr (rnL y bs A (opF D q) D 5 (.pointer (some ⟨tb,0,none⟩)) ⟨0,0,0,0,0⟩ (.slice none 0 0) (ln tb top::pts gb (.cells #[.pointer (some ⟨B 0,0,none⟩),.pointer (some ⟨B 1,0,none⟩),.pointer (some ⟨B 2,0,none⟩),.pointer (some ⟨B 3,0,none⟩),.pointer (some ⟨B 4,0,none⟩)] 56 (0,0))::R))) (fun kv _=>6 - (intOf kv).toNat)
  case atStart=>exact ⟨0,_,by omega,rfl,fun k _=>rfl,hx3,h4⟩
  case round=>
    clear h4 hx3
    obtain ⟨q,A,hq,rfl,hA,hxr,hown⟩:=hrel
    by_cases hlt : q < 5
    · have g1 : (q : Int) < 5:=by omega
      have g2 : (0 : Int) <= (q : Int):=by omega
      have cf : wr.cell? ⟨gb,q,none⟩ = some (.pointer (some ⟨B q,0,none⟩)):=by
        have h:=(ld 13 hown rfl).1
        have hq : q = 0 \/ q = 1 \/ q = 2 \/ q = 3 \/ q = 4:=by omega
        rcases hq with rfl | rfl | rfl | rfl | rfl
        · exact h 0
        · exact h 1
        · exact h 2
        · exact h 3
        · exact h 4
      have hAq:=hA q (Nat.le_refl q)
      have hA' : ∀(x : Nat×Nat) k,q + 1 <= k -> (setA A q x k).2 = B k:=fun x k hk=>by rw [Cn A x (by omega)]; exact hA k (by omega)
      have HA':=zh hA'
      have HAK:=zh hA
      have hop:=IV (D q)
      have hno:=Kp (D q)
      have HOP:=zh (fun (bd : Nat) (R : List SL.HP) (w : World) (H : own w (ln bd (D q)::R))=>QS bd (D q) (HD.out q hlt) (HD0.out q hlt) R w H)
      have hoy:=Pt (D:=D) (q:=q)
      have hon:=TU (D:=D) (q:=q)
      generalize Aj (D q) = OR at *
      obtain ⟨oc,oi⟩:=OR
      dsimp only at hop hno hoy hon
      have hT5:=PS (k:=q) hlt hlt (By D q) hown
      have hB5:=fun (w' : World) h=>VF (y:=y) (bs:=bs) (A:=A) (F:=opF D q) (D:=D) (q:=5) (t:=.pointer (some ⟨tb,0,none⟩)) (dk:=⟨0,0,0,0,0⟩) (v:=.slice none 0 0) (R:=ln tb top::pts gb (.cells #[.pointer (some ⟨B 0,0,none⟩),.pointer (some ⟨B 1,0,none⟩),.pointer (some ⟨B 2,0,none⟩),.pointer (some ⟨B 3,0,none⟩),.pointer (some ⟨B 4,0,none⟩)] 56 (0,0))::R) (w:=w') (k:=q) hlt hlt (By D q) h
      have hI5:=fun (w' : World) (bi : Nat) h=>TZ (y:=y) (bs:=bs) (A:=A) (F:=opF D q) (D:=D) (q:=5) (t:=.pointer (some ⟨tb,0,none⟩)) (dk:=⟨0,0,0,0,0⟩) (v:=.slice none 0 0) (R:=ln tb top::pts gb (.cells #[.pointer (some ⟨B 0,0,none⟩),.pointer (some ⟨B 1,0,none⟩),.pointer (some ⟨B 2,0,none⟩),.pointer (some ⟨B 3,0,none⟩),.pointer (some ⟨B 4,0,none⟩)] 56 (0,0))::R) (w:=w') (k:=q) (i:=oi) (bi:=bi) hlt (By D q) h
      rw [hAq] at hT5 hB5 hI5
      have HOY:=zh hoy
      have HON:=zh hon
      have HOD:=zh hop
      have HT5:=zh hT5
      have HB5:=zh hB5
      have HI5:=zh hI5
      clear hoy hon hop hT5 hB5 hI5 hA hA' hAq
      by_cases hoc : oc = 0
      · have HF:=zh (HOY.out hoc)
        have HO2:=zh (fun (bd : Nat) (R : List SL.HP) (w : World) (H : own w (ln bd (D q)::R))=>(HOP.out bd R w H).mono fun e w' h=>(h.resolve_left fun h=>h.1 hoc).2)
        dsimp only at HO2
        clear hoc hno HOY HON HOP
        go_wp2_with fail
        refine (HO2.out _ _ wr HT5.out).mono ?_
        rintro e w6 ⟨bi,rfl,hx6,h6⟩
        have h6d:=zl [_,_] h6
        have c6 : w6.cell? ⟨y,6,none⟩ = some (.pointer (some ⟨bs,0,none⟩)):=(Mf hlt h6d).1 6
        obtain ⟨cs1,cs2⟩:=Ly hlt (By D q) h6d
        have h7:=HI5.out w6 bi h6
        have hx7:=(hxr.trans hx6).setCell (⟨bs,q,none⟩ : Addr) (.pointer (some ⟨bi,0,none⟩))
        have H7:=zh h7
        clear cf h6 h6d hown h7
        go_wp2_with fail
        go_roundw
        case rel=>exact ⟨q + 1,_,by omega,by go_num,HA'.out _,hx7,by rw [HF.out]; exact H7.out⟩
        case measure=>simp [intOf]; omega
      · have HF:=zh (HON.out hoc)
        have HO2:=zh (fun (bd : Nat) (R : List SL.HP) (w : World) (H : own w (ln bd (D q)::R))=>(HOP.out bd R w H).mono fun e w' h=>(h.resolve_right fun h=>hoc h.1).2)
        dsimp only at HO2
        rw [HOD.out] at HO2
        clear hoc hno HOY HON HOP
        go_wp2_with fail
        refine (HO2.out _ _ wr HT5.out).mono ?_
        rintro e w6 ⟨rfl,hx6,h6'⟩
        have h6:=HB5.out _ h6'
        have c6 : w6.cell? ⟨y,6,none⟩ = some (.pointer (some ⟨bs,0,none⟩)):=(B9 h6).1 6
        have cs1:=yo (R:=rnT y bs A (opF D q) D 5 (.pointer (some ⟨tb,0,none⟩)) ⟨0,0,0,0,0⟩ (.slice none 0 0)++(ln tb top::pts gb (.cells #[.pointer (some ⟨B 0,0,none⟩),.pointer (some ⟨B 1,0,none⟩),.pointer (some ⟨B 2,0,none⟩),.pointer (some ⟨B 3,0,none⟩),.pointer (some ⟨B 4,0,none⟩)] 56 (0,0))::R)) h6 hlt
        rw [CD (By D q)] at cs1
        have cs2:=(ld (arr:=oI A (opF D q)) (T:=114) 0 h6 rfl).2 q
        have h7:=Ol (R:=rnT y bs A (opF D q) D 5 (.pointer (some ⟨tb,0,none⟩)) ⟨0,0,0,0,0⟩ (.slice none 0 0)++(ln tb top::pts gb (.cells #[.pointer (some ⟨B 0,0,none⟩),.pointer (some ⟨B 1,0,none⟩),.pointer (some ⟨B 2,0,none⟩),.pointer (some ⟨B 3,0,none⟩),.pointer (some ⟨B 4,0,none⟩)] 56 (0,0))::R)) hlt (By D q) h6
        have hx7:=(hxr.trans hx6).setCell (⟨bs,q,none⟩ : Addr) (.pointer none)
        have H7:=zh h7
        clear cf h6 h6' hown h7
        go_wp2_with fail
        go_roundw
        case rel=>exact ⟨q + 1,A,by omega,by go_num,fun k hk=>HAK.out k (by omega),hx7,by rw [HF.out]; exact H7.out⟩
        case measure=>simp [intOf]; omega
    · obtain rfl : q = 5:=by omega
      have hown : own wr (rnL y bs A (opF D 5) D 5 (.pointer (some ⟨tb,0,none⟩)) ⟨0,0,0,0,0⟩ (.slice none 0 0) (ln tb top::R)):=lh 13 hown rfl
      have hn:=(HT.out).n
      have ht0:=HT0.out
      have hrs:=Eh tb top HT.out 0 (by omega) (by omega) _ wr (lu 12 hown rfl)
      have HRS:=zh hrs
      have hdk:=fun (R : List SL.HP) (w : World) (H : own w R)=>Qu (top.seen 0) (by have:=HTS.out; omega) R w H
      have hE : zw D top = if (ou (top.seen 0)).2≠0 then ((ou (top.seen 0)).2,yk D top)
        else if (lt (opF D 5) (dkOf (top.seen 0)).root).2≠0 then ((lt (opF D 5) (dkOf (top.seen 0)).root).2,yk D top)
        else (0,Ei (yk D top)):=rfl
      rw [HYO.out] at hE
      have hE0 : yk D top = ⟨opF D 5,D,top,dkOf (top.seen 0),(lt (opF D 5) (dkOf (top.seen 0)).root).1,none⟩:=rfl
      have hdf : 0 <= (ou (top.seen 0)).2:=Em _
      have hdr : (ou (top.seen 0)).2 = 0 -> 0 <= (ou (top.seen 0)).1.1:=fun h=>by
        have h1:=Gz (Lc h)
        unfold yx dkOf at h1
        dsimp only at h1
        omega
      unfold dkOf at hE hE0
      generalize yk D top = O0 at *
      generalize hs0 : top.seen 0 = s0 at *
      generalize ou s0 = DK at *
      obtain ⟨⟨r,k,f,a,b⟩,dc⟩:=DK
      dsimp only at hE hE0 hdk hdf hdr
      have HDR:=zh hdr
      unfold o8 at hdk
      have HDK:=zh hdk
      have HE:=zh hE
      have HE0:=zh hE0
      clear hdk hE hE0 hrs hn ht0 hdr HYO hA
      go_wp2_with fail
      refine HRS.out.mono ?_
      rintro e w' ⟨rfl,rfl⟩
      go_wp2_with fail
      refine (HDK.out _ wr hown).mono ?_
      rintro e w2 ⟨rfl,hx2,h2⟩
      have h3:=Fp (li h2 (.cells #[.int .i64 r,.int .i64 k,.int .i64 f,.int .i64 a,.int .i64 b] 24))
      have hx3:=(hxr.trans hx2).alloc (.cells #[.int .i64 r,.int .i64 k,.int .i64 f,.int .i64 a,.int .i64 b] 24)
      clear hown hxr hx2 h2
      go_upto_region 8 with (fail)
      generalize w2.heap.size = gd at *
      generalize w2.alloc (.cells #[.int .i64 r,.int .i64 k,.int .i64 f,.int .i64 a,.int .i64 b] 24) = w3 at *
      by_cases hdc : dc = 0
      · subst hdc
        obtain ⟨cd,-⟩:=ld 12 h3 rfl
        have d0:=cd 0
        have d1:=cd 1
        have d2:=cd 2
        have d3:=cd 3
        have d4:=cd 4
        obtain ⟨cy1,cy2⟩:=B9 h3
        have e7 : w3.cell? ⟨y,7,none⟩ = some (.int .i64 0):=cy1 7
        have e8 : w3.cell? ⟨y,8,none⟩ = some (.int .i64 0):=cy1 8
        have e9 : w3.cell? ⟨y,9,none⟩ = some (.int .i64 0):=cy1 9
        have e10 : w3.cell? ⟨y,10,none⟩ = some (.int .i64 0):=cy1 10
        have e11 : w3.cell? ⟨y,11,none⟩ = some (.int .i64 0):=cy1 11
        have h4:=V2 ⟨r,k,f,a,b⟩ h3
        dsimp only at h4
        have hx4:=(((((hx3).setCell (⟨y,7,none⟩ : Addr) (.int .i64 r)).setCell (⟨y,8,none⟩ : Addr) (.int .i64 k)).setCell (⟨y,9,none⟩ : Addr) (.int .i64 f)).setCell (⟨y,10,none⟩ : Addr) (.int .i64 a)).setCell (⟨y,11,none⟩ : Addr) (.int .i64 b)
        clear cy1 cd h3 hx3
        go_upto_region 11 with (fail)
        clear e7 e8 e9 e10 e11 cy2 d0 d1 d2 d3 d4
        generalize ((((w3.setCell ⟨y,7,none⟩ (.int .i64 r)).setCell ⟨y,8,none⟩ (.int .i64 k)).setCell ⟨y,9,none⟩ (.int .i64 f)).setCell ⟨y,10,none⟩ (.int .i64 a)).setCell ⟨y,11,none⟩ (.int .i64 b) = w4 at *
        have hwk:=fun (R : List SL.HP) (w : World) (H : own w (rshL bs A (opF D 5)++R))=>Ea bs A (opF D 5) (HW.out.sh hN) r R w H
        have hrt : (lt (opF D 5) r).2 = 0 -> ly (opF D 5) r:=fun h=>Lr (HDR.out (by first | trivial | rfl)) h
        have hwc : 0 <= (lt (opF D 5) r).2:=zv
        unfold zO at hwk
        have HE2:=HE.out
        rw [zq (by decide)] at HE2
        have HE0':=HE0.out
        generalize lt (opF D 5) r = WK at *
        obtain ⟨wl,wc⟩:=WK
        dsimp only at hwk hwc hrt HE2 HE0'
        have HWK:=zh hwk
        have HRT:=zh hrt
        have HEE:=zh HE2
        have HE00:=zh HE0'
        clear hwk hrt HE2 HE0' HE HE0 HDK HRS
        have hz:=lj h4
        have hxz:=hx4.drew
        have HS:=zh (fun (w' : World) (v : Value) (P : SL.HP) (h : own w' (rnL y bs A (opF D 5) D 5 (.pointer (some ⟨tb,0,none⟩)) ⟨r,k,f,a,b⟩ v (P::pts gd (.cells #[.int .i64 r,.int .i64 k,.int .i64 f,.int .i64 a,.int .i64 b] 24 (0,0))::(ln tb top::R))))=>show w'.cell? ⟨y,6,none⟩ = some (.pointer (some ⟨bs,0,none⟩)) /\ w'.cell? ⟨gd,0,none⟩ = some (.int .i64 r) from ⟨(B9 h).1 6,(ld 13 h rfl).1 0⟩)
        refine wp_region_held_drew (S:=fun w'=>w'.cell? ⟨y,6,none⟩ = some (.pointer (some ⟨bs,0,none⟩)) /\ w'.cell? ⟨gd,0,none⟩ = some (.int .i64 r)) (by kernel_rfl) (⟨(B9 hz).1 6,(ld 12 hz rfl).1 0⟩) (fun hHeld=>?_)
        refine tk 0 ?_
        refine tk 1 ?_
        refine tk 2 ?_
        refine tk 3 ?_
        refine tk 4 ?_
        refine tk 5 ?_
        refine tk 6 ?_
        try simp only [Act.put,tA,tB,tC,tD,tE,tF]
        refine rd 7 rfl fun K hK=>?_
        go_simp
        go_at_call 77
        refine (HWK.out _ _ hz).mono ?_
        rintro e w6 ⟨wv,rfl,hx6,h6'⟩
        have h6:=Fp h6'
        go_simp
        refine hK.out _ _ (HS.out _ _ _ h6) (fun _=>?_)
        clear hK K
        try simp only [Act.put,tA,tB,tC,tD,tE,tF]
        refine tk 8 ?_
        refine tk 9 ?_
        refine tk 10 ?_
        refine tk 11 ?_
        refine tk 12 ?_
        try simp only [Act.put,tA,tB,tC,tD,tE,tF]
        have cl : w6.cell? ⟨y,12,none⟩ = some (.slice none 0 0):=(B9 h6).1 12
        have fl:=(B9 h6).2 12
        have h7:=lg (i:=12) (v:=wv) 6 h6 rfl
        have h8 : own (w6.setCell ⟨y,12,none⟩ wv) (rnL y bs A (opF D 5) D 5 (.pointer (some ⟨tb,0,none⟩)) ⟨r,k,f,a,b⟩ wv (row 3 1 wv wl.length (lo wl)::pts gd (.cells #[.int .i64 r,.int .i64 k,.int .i64 f,.int .i64 a,.int .i64 b] 24 (0,0))::ln tb top::R)):=h7
        have hx8:=(hxz.trans hx6).setCell (⟨y,12,none⟩ : Addr) wv
        obtain ⟨vo,vb,vof,vcap,rfl,-,-,-,-⟩:=(l9 0 h6' rfl).form
        refine rd 13 rfl fun K hK=>?_
        go_simp
        refine hK.out _ _ (HS.out _ _ _ h8) (fun _=>?_)
        clear hK K cl fl
        try simp only [Act.put,tA,tB,tC,tD,tE,tF]
        refine tk 14 ?_
        try simp only [Act.put,tA,tB,tC,tD,tE,tF]
        refine wpAnyH_done (by kernel_rfl) ?_ _
        generalize w6.setCell ⟨y,12,none⟩ (.slice vo wl.length vcap) = w8 at *
        clear h4 hz h6 h6' h7 hx4 hxz hx6 hHeld HS HWK
        by_cases hwz : wc = 0
        · subst hwz
          have hEE:=HEE.out
          rw [zq (by decide)] at hEE
          have hra:=HRT.out rfl
          have h9' : own w8 (rnL y bs A (opF D 5) D 5 (.pointer (some ⟨tb,0,none⟩)) ⟨r,k,f,a,b⟩ (.slice vo wl.length vcap) (ln tb top::row 3 1 (.slice vo wl.length vcap) wl.length (lo wl)::pts gd (.cells #[.int .i64 r,.int .i64 k,.int .i64 f,.int .i64 a,.int .i64 b] 24 (0,0))::R)):=Fp (R:=row 3 1 (.slice vo wl.length vcap) wl.length (lo wl)::pts gd (.cells #[.int .i64 r,.int .i64 k,.int .i64 f,.int .i64 a,.int .i64 b] 24 (0,0))::R) (lu 14 h8 rfl)
          have h9 : own w8 (ryL ⟨y,bs,tb,A,.slice vo wl.length vcap,0,undef⟩ O0 (pts gd (.cells #[.int .i64 r,.int .i64 k,.int .i64 f,.int .i64 a,.int .i64 b] 24 (0,0))::R)):=by
            rw [HE00.out]
            exact PF h9'
          have hg2 : Ei O0 = if k = 0 then O0 else if k = 2 /\ bkOf (opF D 5) r = f then { O0 with dk:=lz r } else match newM (opF D 5) r k f a b with | (none,_)=>{ O0 with dk:=lz r } | (some j,_)=>{ O0 with job:=some j }:=by
            rw [HE00.out]; rfl
          rw [hg2] at hEE
          obtain ⟨z,i,rfl,hz5,hzi⟩:=lT hra
          have hF5 : O0.F = opF D 5:=by rw [HE00.out]
          rw [Vr hzi] at hEE
          have hHD : ∀w' R',own w' (ryL ⟨y,bs,tb,A,.slice vo wl.length vcap,0,undef⟩ O0 (pts gd (.cells #[.int .i64 (z : Int),.int .i64 k,.int .i64 f,.int .i64 a,.int .i64 b] 24 (0,0))::R')) -> w'.cell? ⟨gd,0,none⟩ = some (.int .i64 (z : Int)) /\ w'.cell? ⟨gd,1,none⟩ = some (.int .i64 k) /\ w'.cell? ⟨gd,2,none⟩ = some (.int .i64 f) /\ w'.cell? ⟨gd,3,none⟩ = some (.int .i64 a) /\ w'.cell? ⟨gd,4,none⟩ = some (.int .i64 b) /\ w'.cell? ⟨y,6,none⟩ = some (.pointer (some ⟨bs,0,none⟩)):=fun w' R' h=>⟨(ld 15 h rfl).1 0,(ld 15 h rfl).1 1,(ld 15 h rfl).1 2,(ld 15 h rfl).1 3,(ld 15 h rfl).1 4,BE h⟩
          have HHD:=zh hHD
          clear h8 h9' HEE HRT hHD hra hg2
          obtain ⟨d0,d1,d2,d3,d4,d6⟩:=HHD.out w8 R h9
          by_cases hk0 : k = 0
          · rw [zt hk0] at hEE
            have tk0 : (k == 0) = true:=by simp [hk0]
            have HES:=zh hEE
            clear hEE hk0
            go_wp2_with fail
            go_ret2
            rw [HES.out]
            exact .inr ⟨rfl,⟨y,bs,tb,A,.slice vo wl.length vcap,0,undef⟩,rfl,hx8,zB h9⟩
          · rw [zq hk0] at hEE
            have tk0 : (k == 0) = false:=by simp [hk0]
            have hnj:=fun (R : List SL.HP) (w : World) (H : own w (rshL bs A (opF D 5)++R))=>N4 bs A (opF D 5) (HW.out.sh hN) (z : Int) k f a b Bl R w H
            have hnc:=Ef (opF D 5) (z : Int) k f a b
            have hnz:=I3 (F:=opF D 5) (root:=(z : Int)) (kind:=k) (file:=f) (rate:=a) (burst:=b)
            have hzr:=hzi
            generalize newM (opF D 5) (z : Int) k f a b = NR at *
            obtain ⟨oj,g⟩:=NR
            dsimp only at hnc hnz
            have HEE:=zh hEE
            have HNZ:=zh hnz
            have HJT:=zh (fun (w' : World) (R' : List SL.HP) (h : own w' (ryL ⟨y,bs,tb,A,.slice vo wl.length vcap,0,undef⟩ O0 R'))=>show own w' (rshL bs A (opF D 5)++(ryT ⟨y,bs,tb,A,.slice vo wl.length vcap,0,undef⟩ O0++R')) from (by rw [<- hF5]; exact h))
            have HJB:=zh (fun (w' : World) (R' : List SL.HP) (h : own w' (rshL bs A (opF D 5)++(ryT ⟨y,bs,tb,A,.slice vo wl.length vcap,0,undef⟩ O0++R')))=>show own w' (ryL ⟨y,bs,tb,A,.slice vo wl.length vcap,0,undef⟩ O0 R') from (by rw [<- hF5] at h; exact h))
            have HJB2:=zh (fun (w' : World) (R' : List SL.HP) (h : own w' (rshL bs A (opF D 5)++(ryT ⟨y,bs,tb,A,.slice vo wl.length vcap,0,undef⟩ O0++R')))=>show own w' (ryL ⟨y,bs,tb,A,.slice vo wl.length vcap,0,undef⟩ O0 R') from (by rw [<- hF5] at h; exact h))
            have HBR:=zh (fun (R : List SL.HP) (w : World) (H : own w R)=>Dq (z : Int) R w H)
            unfold lz lI.v o8 at HBR
            dsimp only at HBR
            have HIM:=zh (fun (w' : World) (R' : List SL.HP) (h : own w' (ryL ⟨y,bs,tb,A,.slice vo wl.length vcap,0,undef⟩ O0 R'))=>show w'.cell? ⟨bs,z,none⟩ = some (.pointer (some ⟨(A z).1,0,none⟩)) /\ w'.cell? ⟨(A z).1,3,none⟩ = some (.int .i64 i.b) from (by
              have h1 : own w' (rshL bs A O0.F++(ryT ⟨y,bs,tb,A,.slice vo wl.length vcap,0,undef⟩ O0++R')):=h
              rw [hF5] at h1
              obtain ⟨vt,vh,-,-,-,c3,-⟩:=A7 hz5 hzi h1
              exact ⟨by rw [yo h1 hz5]; unfold o5; rw [hzi],c3⟩))
            have i1 : (0 : Int) <= (z : Int):=by omega
            have i2 : (z : Int) < 5:=by omega
            clear hEE hk0 hnz HE00 hF5 hzi hzr
            cases oj with
            | none=>
              have hgp : 0 < g:=by have:=HNZ.out rfl; omega
              have HN1:=zh (fun (R : List SL.HP) (w : World) (H : own w (rshL bs A (opF D 5)++R))=>(hnj R w H).mono fun e w' h=>show e = .returned (.tuple #[.pointer none,.int .i64 g]) /\ Ext w w' /\ own w' (rshL bs A (opF D 5)++R) from h)
              clear hnj hnc HNZ
              have tg : decide (0 < g) = true:=zg hgp
              go_upto_region 16 with (fail)
              have hz:=lj h9
              have hxz:=hx8.drew
              clear d0 d1 d2 d3 d4 d6
              go_region_held3 (fun w'=>w'.cell? ⟨gd,0,none⟩ = some (.int .i64 (z : Int)) /\ w'.cell? ⟨gd,1,none⟩ = some (.int .i64 k) /\ w'.cell? ⟨gd,2,none⟩ = some (.int .i64 f) /\ w'.cell? ⟨gd,3,none⟩ = some (.int .i64 a) /\ w'.cell? ⟨gd,4,none⟩ = some (.int .i64 b) /\ w'.cell? ⟨y,6,none⟩ = some (.pointer (some ⟨bs,0,none⟩))) (first | exact HHD.out _ _ hz | exact HHD.out _ _ h10) (first | (go_at_call 16; refine (HN1.out _ _ (HJT.out _ _ hz)).mono ?_; rintro e w9 ⟨rfl,hx9,h10'⟩; have h10:=HJB.out _ _ h10'))
              have hx10:=hxz.trans hx9
              clear hz hxz h9 hx8 hx9 h10'
              obtain ⟨d0,d1,d2,d3,d4,d6⟩:=HHD.out _ _ h10
              obtain ⟨m1,m2⟩:=HIM.out _ _ h10
              have hsub : (k = 2 /\ i.b = f) \/ (k = 2 /\ ¬i.b = f) \/ ¬k = 2:=by omega
              rcases hsub with ⟨h2,h3⟩ | ⟨h2,h3⟩ | h2
              · skip
                first
                | (have t2 : (k == 2) = true:=beq_iff_eq.2 h2
                   have t3 : (i.b == f) = true:=beq_iff_eq.2 h3
                   have H2:=zh h2
                   have H3:=zh h3
                   clear h2 h3)
                | (have t2 : (k == 2) = true:=beq_iff_eq.2 h2
                   have t3 : (i.b == f) = false:=zb.2 h3
                   have H2:=zh h2
                   have H3:=zh h3
                   clear h2 h3)
                | (have t2 : (k == 2) = false:=zb.2 h2
                   have H2:=zh h2
                   clear h2)
                go_upto_region 17 with (fail)
                go_quiet (fail)
                have h2:=H2.out
                try have h3:=H3.out
                have hEE:=HEE.out
                rw [zt ⟨h2,h3⟩] at hEE
                have HES:=zh hEE
                clear hEE h2
                try clear h3
                go_wp2_with fail
                refine (HBR.out _ _ (ll _ h10)).mono ?_
                rintro e w11 ⟨rfl,hx11,h11⟩
                have fy:=A5 h11
                have e7:=zC h11
                have e8:=Co h11
                have e9:=Cr h11
                have e10:=Dz h11
                have e11:=CR h11
                have h12:=DL (lz (z : Int)) h11
                dsimp only at fy e7 e8 e9 e10 e11
                go_wp2_with fail
                go_ret2
                rw [HES.out]
                exact .inr ⟨rfl,⟨y,bs,tb,A,.slice vo wl.length vcap,0,undef⟩,rfl,(((((((hx10.drewN _).trans hx11).setCell _ _).setCell _ _).setCell _ _).setCell _ _).setCell _ _),zB h12⟩
              · skip
                first
                | (have t2 : (k == 2) = true:=beq_iff_eq.2 h2
                   have t3 : (i.b == f) = true:=beq_iff_eq.2 h3
                   have H2:=zh h2
                   have H3:=zh h3
                   clear h2 h3)
                | (have t2 : (k == 2) = true:=beq_iff_eq.2 h2
                   have t3 : (i.b == f) = false:=zb.2 h3
                   have H2:=zh h2
                   have H3:=zh h3
                   clear h2 h3)
                | (have t2 : (k == 2) = false:=zb.2 h2
                   have H2:=zh h2
                   clear h2)
                go_upto_region 17 with (fail)
                go_quiet (fail)
                have h2:=H2.out
                try have h3:=H3.out
                have hEE:=HEE.out
                rw [zq (fun h=>h3 h.2)] at hEE
                have HES:=zh hEE
                clear hEE h2
                try clear h3
                go_wp2_with fail
                refine (HBR.out _ _ (ll _ h10)).mono ?_
                rintro e w11 ⟨rfl,hx11,h11⟩
                have fy:=A5 h11
                have e7:=zC h11
                have e8:=Co h11
                have e9:=Cr h11
                have e10:=Dz h11
                have e11:=CR h11
                have h12:=DL (lz (z : Int)) h11
                dsimp only at fy e7 e8 e9 e10 e11
                go_wp2_with fail
                go_ret2
                rw [HES.out]
                exact .inr ⟨rfl,⟨y,bs,tb,A,.slice vo wl.length vcap,0,undef⟩,rfl,(((((((hx10.drewN _).trans hx11).setCell _ _).setCell _ _).setCell _ _).setCell _ _).setCell _ _),zB h12⟩
              · skip
                first
                | (have t2 : (k == 2) = true:=beq_iff_eq.2 h2
                   have t3 : (i.b == f) = true:=beq_iff_eq.2 h3
                   have H2:=zh h2
                   have H3:=zh h3
                   clear h2 h3)
                | (have t2 : (k == 2) = true:=beq_iff_eq.2 h2
                   have t3 : (i.b == f) = false:=zb.2 h3
                   have H2:=zh h2
                   have H3:=zh h3
                   clear h2 h3)
                | (have t2 : (k == 2) = false:=zb.2 h2
                   have H2:=zh h2
                   clear h2)
                go_upto_region 17 with (fail)
                go_quiet (fail)
                have h2:=H2.out
                try have h3:=H3.out
                have hEE:=HEE.out
                rw [zq (fun h=>h2 h.1)] at hEE
                have HES:=zh hEE
                clear hEE h2
                try clear h3
                go_wp2_with fail
                refine (HBR.out _ _ (ll _ h10)).mono ?_
                rintro e w11 ⟨rfl,hx11,h11⟩
                have fy:=A5 h11
                have e7:=zC h11
                have e8:=Co h11
                have e9:=Cr h11
                have e10:=Dz h11
                have e11:=CR h11
                have h12:=DL (lz (z : Int)) h11
                dsimp only at fy e7 e8 e9 e10 e11
                go_wp2_with fail
                go_ret2
                rw [HES.out]
                exact .inr ⟨rfl,⟨y,bs,tb,A,.slice vo wl.length vcap,0,undef⟩,rfl,(((((((hx10.drewN _).trans hx11).setCell _ _).setCell _ _).setCell _ _).setCell _ _).setCell _ _),zB h12⟩
            | some j=>
              have HN1:=zh (fun (R : List SL.HP) (w : World) (H : own w (rshL bs A (opF D 5)++R))=>(hnj R w H).mono fun e w' h=>show ∃br v,e = .returned (.tuple #[.pointer (some ⟨br,0,none⟩),.int .i64 0]) /\ Ext w w' /\ own w' (rshL bs A (opF D 5)++(lB bs br v j::(row 3 1 v j.list.length (lo j.list)::R))) from h)
              clear hnj hnc HNZ
              have tg : decide ((0 : Int) < 0) = false:=rfl
              go_upto_region 16 with (fail)
              have hz:=lj h9
              have hxz:=hx8.drew
              clear d0 d1 d2 d3 d4 d6
              go_region_held3 (fun w'=>w'.cell? ⟨gd,0,none⟩ = some (.int .i64 (z : Int)) /\ w'.cell? ⟨gd,1,none⟩ = some (.int .i64 k) /\ w'.cell? ⟨gd,2,none⟩ = some (.int .i64 f) /\ w'.cell? ⟨gd,3,none⟩ = some (.int .i64 a) /\ w'.cell? ⟨gd,4,none⟩ = some (.int .i64 b) /\ w'.cell? ⟨y,6,none⟩ = some (.pointer (some ⟨bs,0,none⟩))) (first | exact HHD.out _ _ hz | exact HHD.out _ _ h10) (first | (go_at_call 16; refine (HN1.out _ _ (HJT.out _ _ hz)).mono ?_; rintro e w9 ⟨br,jv,rfl,hx9,h10'⟩; have hj10:=SK (Y:=⟨y,bs,tb,A,.slice vo wl.length vcap,0,undef⟩) (m:=O0) (F:=opF D 5) h10'; have h10:=lh 15 (lh 15 (HJB2.out _ _ hj10) rfl) rfl))
              have hx10:=hxz.trans hx9
              clear hz hxz h9 hx8 hx9 h10'
              obtain ⟨d0,d1,d2,d3,d4,d6⟩:=HHD.out _ _ h10
              obtain ⟨m1,m2⟩:=HIM.out _ _ h10
              have hsub : (k = 2 /\ i.b = f) \/ (k = 2 /\ ¬i.b = f) \/ ¬k = 2:=by omega
              rcases hsub with ⟨h2,h3⟩ | ⟨h2,h3⟩ | h2
              · skip
                first
                | (have t2 : (k == 2) = true:=beq_iff_eq.2 h2
                   have t3 : (i.b == f) = true:=beq_iff_eq.2 h3
                   have H2:=zh h2
                   have H3:=zh h3
                   clear h2 h3)
                | (have t2 : (k == 2) = true:=beq_iff_eq.2 h2
                   have t3 : (i.b == f) = false:=zb.2 h3
                   have H2:=zh h2
                   have H3:=zh h3
                   clear h2 h3)
                | (have t2 : (k == 2) = false:=zb.2 h2
                   have H2:=zh h2
                   clear h2)
                go_upto_region 17 with (fail)
                go_quiet (fail)
                have h2:=H2.out
                try have h3:=H3.out
                have hEE:=HEE.out
                rw [zt ⟨h2,h3⟩] at hEE
                have HES:=zh hEE
                clear hEE h2
                try clear h3
                go_wp2_with fail
                refine (HBR.out _ _ (ll _ h10)).mono ?_
                rintro e w11 ⟨rfl,hx11,h11⟩
                have fy:=A5 h11
                have e7:=zC h11
                have e8:=Co h11
                have e9:=Cr h11
                have e10:=Dz h11
                have e11:=CR h11
                have h12:=DL (lz (z : Int)) h11
                dsimp only at fy e7 e8 e9 e10 e11
                go_wp2_with fail
                go_ret2
                rw [HES.out]
                exact .inr ⟨rfl,⟨y,bs,tb,A,.slice vo wl.length vcap,0,undef⟩,rfl,(((((((hx10.drewN _).trans hx11).setCell _ _).setCell _ _).setCell _ _).setCell _ _).setCell _ _),zB h12⟩
              · skip
                first
                | (have t2 : (k == 2) = true:=beq_iff_eq.2 h2
                   have t3 : (i.b == f) = true:=beq_iff_eq.2 h3
                   have H2:=zh h2
                   have H3:=zh h3
                   clear h2 h3)
                | (have t2 : (k == 2) = true:=beq_iff_eq.2 h2
                   have t3 : (i.b == f) = false:=zb.2 h3
                   have H2:=zh h2
                   have H3:=zh h3
                   clear h2 h3)
                | (have t2 : (k == 2) = false:=zb.2 h2
                   have H2:=zh h2
                   clear h2)
                go_upto_region 17 with (fail)
                go_quiet (fail)
                have h2:=H2.out
                try have h3:=H3.out
                have hEE:=HEE.out
                rw [zq (fun h=>h3 h.2)] at hEE
                have HES:=zh hEE
                clear hEE h2
                try clear h3
                have hj11:=ll nq (HJB2.out _ _ hj10)
                have cj:=EP hj11
                have fj:=A5 hj11 13
                have h12:=GY hj11
                dsimp only at cj fj
                go_wp2_with fail
                go_ret2
                rw [HES.out]
                exact .inr ⟨rfl,_,rfl,(hx10.drewN _).setCell _ _,zB h12⟩
              · skip
                first
                | (have t2 : (k == 2) = true:=beq_iff_eq.2 h2
                   have t3 : (i.b == f) = true:=beq_iff_eq.2 h3
                   have H2:=zh h2
                   have H3:=zh h3
                   clear h2 h3)
                | (have t2 : (k == 2) = true:=beq_iff_eq.2 h2
                   have t3 : (i.b == f) = false:=zb.2 h3
                   have H2:=zh h2
                   have H3:=zh h3
                   clear h2 h3)
                | (have t2 : (k == 2) = false:=zb.2 h2
                   have H2:=zh h2
                   clear h2)
                go_upto_region 17 with (fail)
                go_quiet (fail)
                have h2:=H2.out
                try have h3:=H3.out
                have hEE:=HEE.out
                rw [zq (fun h=>h2 h.1)] at hEE
                have HES:=zh hEE
                clear hEE h2
                try clear h3
                have hj11:=ll nq (HJB2.out _ _ hj10)
                have cj:=EP hj11
                have fj:=A5 hj11 13
                have h12:=GY hj11
                dsimp only at cj fj
                go_wp2_with fail
                go_ret2
                rw [HES.out]
                exact .inr ⟨rfl,_,rfl,(hx10.drewN _).setCell _ _,zB h12⟩
        · have hEE:=HEE.out
          rw [zt hwz] at hEE
          have hwp : 0 < wc:=by omega
          have HES:=zh hEE
          have HWZ:=zh hwz
          clear hwz hEE HEE HRT
          go_wp2_with fail
          go_ret2
          rw [HES.out]
          exact .inl ⟨HWZ.out,rfl,hx8,zl (rshL bs A (opF D 5)++(rnT y bs A (opF D 5) D 5 (.pointer (some ⟨tb,0,none⟩)) ⟨r,k,f,a,b⟩ (.slice vo wl.length vcap)++[row 3 1 (.slice vo wl.length vcap) wl.length (lo wl),pts gd (.cells #[.int .i64 r,.int .i64 k,.int .i64 f,.int .i64 a,.int .i64 b] 24 (0,0)),ln tb top])) (by simpa only [zp,List.cons_append,List.nil_append] using h8)⟩
      · have hdp : 0 < dc:=by omega
        have hEE:=HE.out
        rw [zt hdc] at hEE
        have HES:=zh hEE
        have HDC:=zh hdc
        clear hEE hdc HE
        go_wp2_with fail
        go_ret2
        rw [HES.out]
        exact .inl ⟨HDC.out,rfl,hx3,zl (rshL bs A (opF D 5)++(rnT y bs A (opF D 5) D 5 (.pointer (some ⟨tb,0,none⟩)) ⟨0,0,0,0,0⟩ (.slice none 0 0)++[pts gd (.cells #[.int .i64 r,.int .i64 k,.int .i64 f,.int .i64 a,.int .i64 b] 24 (0,0)),ln tb top])) (by simpa only [zp,List.cons_append,List.nil_append] using h3)⟩
theorem Do (Y : RA) (m : lf) (R : List SL.HP) {k : Nat} (hk : k < 5) : zN Y m R k = zN Y m [] k++R:=by
 have h1 : ∀R,ryL Y m R = ryL Y m []++R:=fun R=>by
  show rshL _ _ _++(ryT _ _++R) = (rshL _ _ _++(ryT _ _++[]))++R
  rw [List.append_nil,zp]
 have h2 : (ryL Y m []).length = 15:=rfl
 unfold zN
 rw [h1 R]
 cases m.F k with
 | none=>dsimp only; rw [List.set_append_left _ _ (by omega)]
 | some i=>dsimp only; rw [List.eraseIdx_append_of_lt_length (by omega)]; rfl
theorem G3 {Y : RA} {m : lf} {P Q : SL.HP} {R : List SL.HP} {w : World} {k : Nat} (hk : k < 5) (H : own w (P::Q::zN Y m R k)) : own w (Q::zN Y m (P::R) k):=by
 rw [Do Y m R hk] at H
 rw [Do Y m (P::R) hk]
 exact lr (Q::zN Y m [] k) H
theorem FK {Y : RA} {m : lf} {R : List SL.HP} {w : World} {k : Nat} (hk : k < 5) (H : own w (ln (Y.A k).2 (devOf m k)::zN Y m R k)) : own w (ryL Y m R):=by
 have hs:=I8 m k
 unfold BT at hs
 unfold devOf zN at H
 cases e : m.F k with
 | none=>
  rw [e] at H hs
  dsimp only at hs
  unfold devOf at hs
  rw [e] at hs
  have h1:=JE hk e H
  rwa [hs] at h1
 | some i=>
  rw [e] at H
  have h1:=yK [lX (Y.A k).1 (Y.A k).2 i,ln (Y.A k).2 i.d] (B1 H)
  exact Dj (1 + k) (by rw [Ls Y m R hk]; unfold ox; rw [e]) h1
theorem UU {B : Nat -> Nat} {D : Nat -> DevM} {k b : Nat} : ∀{q : Nat},q <= k -> yt (stN B k b) D q = yt B D q:=by
 intro q
 induction q with
 | zero=>intro _; rfl
 | succ q ih=>
  intro h
  rw [yt,yt,ih (by omega),stN,zq (by omega)]
theorem LH {B : Nat -> Nat} {D : Nat -> DevM} {q c : Nat} : yt (stN B q c) D (q + 1) = ln c (D q)::yt B D q:=by
 rw [yt,UU (Nat.le_refl q)]
 simp [stN]
def Dc (B : Nat -> Nat) (q k : Nat) : Value:=if k < q then .pointer (some ⟨B k,0,none⟩) else .pointer none
def lArr (B : Nat -> Nat) (q : Nat) : Array Value:=#[Dc B q 0,Dc B q 1,Dc B q 2,Dc B q 3,Dc B q 4]
theorem UI {B : Nat -> Nat} {q k b : Nat} : Dc (stN B q b) (q + 1) k = if k = q then .pointer (some ⟨b,0,none⟩) else Dc B q k:=by
 unfold Dc stN
 by_cases e : k = q
 ·subst e; rw [zt rfl,zt rfl,zt (by omega)]
 ·rw [zq e,zq e]
  by_cases h : k < q
  ·rw [zt h,zt (by omega)]
  ·rw [zq h,zq (by omega)]
theorem PR {B : Nat -> Nat} {k b : Nat} (hk : k < 5) : (lArr B k).setIfInBounds k (.pointer (some ⟨b,0,none⟩)) = lArr (stN B k b) (k + 1):=by
 unfold lArr
 simp only [UI]
 have h : k = 0 \/ k = 1 \/ k = 2 \/ k = 3 \/ k = 4:=by omega
 rcases h with rfl | rfl | rfl | rfl | rfl
 all_goals rfl
theorem PT {B : Nat -> Nat} {q k : Nat} (hk : k < 5) : (lArr B q)[k]? = some (Dc B q k):=by
 have h : k = 0 \/ k = 1 \/ k = 2 \/ k = 3 \/ k = 4:=by omega
 rcases h with rfl | rfl | rfl | rfl | rfl
 all_goals rfl
theorem Nm {Y : RA} {m : lf} {k : Nat} (hk : k < 5) {vi : Value} {ki : List Bool} {R : List SL.HP} (h : ∀w' L,own w' (L++R) -> yI w' vi ki) (Z : List SL.HP) : ∀w' L,own w' (L++zN Y m (Z++R) k) -> yI w' vi ki:=fun w' L H=>by
 rw [Do Y m _ hk] at H
 exact h w' (L++(zN Y m [] k++Z)) (by simpa only [zp] using H)
def KR (Y : RA) (m : lf) (S : Int×lf) (R : List SL.HP) (w : World) (e : Ending) (w' : World) : Prop:=
 (S.1≠0 /\ e = .returned (.tuple #[.pointer none,.int .i64 S.1]) /\ Ext w w' /\ own w' (ryL Y m R)) \/
 (S.1 = 0 /\ ∃Y' : RA,e = .returned (.tuple #[.pointer (some ⟨Y'.y,0,none⟩),.int .i64 0]) /\ Ext w w' /\ own w' (ryL Y' S.2 (ryL Y m R)))
theorem OX (N : Nat) (Y : RA) (m : lf) (hm : YOk N m) (hN : N < 900000) (h0 : ∀k,k < 5 -> 0 < (devOf m k).fl.length) (v : Value) (vs : List Value) (ks : List (List Bool)) (R : List SL.HP) (hv : ∀w' L,own w' (L++R) -> CX w' v vs ks) (w : World) (H : own w (ryL Y m R)) :
  Calls Tryz.prog 35 #[.pointer (some ⟨Y.y,0,none⟩),v] w (KR Y m (BZ m ks) R w):=by
 obtain ⟨ao,kb,koff,kcap,rfl,kc1,kc2,kc3,-⟩:=(hv w (rshL Y.bs Y.A m.F++ryT Y m) (by simpa only [zp] using H)).1
 have hb:=IG (.cells #[.pointer none,.pointer none,.pointer none,.pointer none,.pointer none] 56) H
 have hxb:=(zR w).alloc (.cells #[.pointer none,.pointer none,.pointer none,.pointer none,.pointer none] 56)
 have HOK:=zh (fun (k : Nat) (hk : k < 5)=>Ax hm hk)
 have HTP:=zh hm.tp
 have HV:=zh hv
 have HKC:=zh kc3
 have HCO:=zh (fun (B : Nat -> Nat) (tb : Nat) (R : List SL.HP) (w : World) (H : own w (yt B (lY m ks) 5++(ln tb (m.top.crash [])::R)))=>QL N B (lY m ks) (fun k hk=>⟨DevM.crash_ok (Ax hm hk).1 _,(Ax hm hk).2.1,Nat.zero_le _⟩) (fun k hk=>by show 0 < ((devOf m k).crash _).fl.length; simp only [DevM.crash,lK]; exact h0 k hk) hN tb (m.top.crash []) (DevM.crash_ok hm.tp.1 []) (by simp only [DevM.crash,lK]; exact hm.tp.2.2.2) R w H)
 generalize hYC : BZ m ks = YC
 have HYC:=zh hYC
 clear H hm hv kc3 hYC
 go_enter Tryz.func35,Tryz.ntmps35
 go_upto_region 2 with (fail)
 generalize w.heap.size = gl at *
 generalize w.alloc (.cells #[.pointer none,.pointer none,.pointer none,.pointer none,.pointer none] 56) = w1 at *
 go_wp2_with fail
 go_loopw [7] (fun iv wr=>∃(q : Nat) (B : Nat -> Nat),q <= 5 /\ iv = .int .i64 q /\ Ext w wr /\ own wr (ryL Y m (pts gl (.cells (lArr B q) 56 (0,0))::(yt B (lY m ks) q++R)))) (fun iv _=>6 - (intOf iv).toNat)
 case atStart=>exact ⟨0,fun _=>0,by omega,rfl,hxb,hb⟩
 case round=>
  clear hb hxb
  obtain ⟨q,B,hq,rfl,hxr,hown⟩:=hrel
  by_cases hlt : q < 5
  ·have g1 : (q : Int) < 5:=by omega
   have g2 : (0 : Int) <= (q : Int):=by omega
   have cy:=D5 hown hlt
   have HCR:=zh (fun vi (hvi : ∀w' L,own w' (L++R) -> yI w' vi (ks.getD q []))=>(Kq (Y.A q).2 (devOf m q) (HOK.out q hlt).1 vi (ks.getD q []) _ wr (Nm hlt hvi (pts gl (.cells (lArr B q) 56 (0,0))::yt B (lY m ks) q)) (FE hlt hown)))
   by_cases hk : q < ks.length
   ·have hk2 : (q : Int) < (ks.length : Int):=by omega
    obtain rfl:=HKC.out (by omega)
    have hca : wr.cell? ⟨kb,koff + q,none⟩ = some (vs.getD q undef):=by
     obtain ⟨ao',b',o',c',he,-,-,hh,hc⟩:=(HV.out wr (rshL Y.bs Y.A m.F++(ryT Y m++(pts gl (.cells (lArr B q) 56 (0,0))::yt B (lY m ks) q))) (by simpa only [zp,List.cons_append] using hown)).1
     simp only [Value.slice.injEq] at he
     have h2:=hh (by omega)
     rw [<- he.1] at h2
     simp only [Option.some.injEq,Addr.mk.injEq,and_true] at h2
     obtain ⟨rfl,rfl⟩:=h2
     exact hc q hk
    have HC2:=zh (HCR.out (vs.getD q undef) (fun w' L h=>(HV.out w' L h).2 q hk))
    have hdq : lY m ks q = (devOf m q).crash (ks.getD q []):=rfl
    generalize (devOf m q).crash (ks.getD q []) = dq at hdq HC2
    have HDQ:=zh hdq
    clear HCR hdq
    go_wp2_with fail
    refine HC2.out.mono ?_
    rintro e w2 ⟨c,rfl,hx2,h2⟩
    have h3:=FK hlt (G3 hlt h2)
    have h4:=lp (rshL Y.bs Y.A m.F++ryT Y m) [ln c dq] (R:=pts gl (.cells (lArr B q) 56 (0,0))::(yt B (lY m ks) q++R)) (by simpa only [zp,List.cons_append,List.nil_append] using h3)
    have h5:=lp [ln c dq] (rshL Y.bs Y.A m.F++ryT Y m++[pts gl (.cells (lArr B q) 56 (0,0))]) (R:=yt B (lY m ks) q++R) (by simpa only [zp,List.cons_append,List.nil_append] using h4)
    have h6 : own w2 (ryL Y m (pts gl (.cells (lArr B q) 56 (0,0))::(ln c (lY m ks q)::(yt B (lY m ks) q++R)))):=by rw [HDQ.out]; simpa only [zp,List.cons_append,List.nil_append] using h5
    have h7:=lg (i:=q) (v:=.pointer (some ⟨c,0,none⟩)) 15 h6 rfl
    have h8 : own (w2.setCell ⟨gl,q,none⟩ (.pointer (some ⟨c,0,none⟩))) (ryL Y m (pts gl (.cells ((lArr B q).setIfInBounds q (.pointer (some ⟨c,0,none⟩))) 56 (0,0))::(ln c (lY m ks q)::(yt B (lY m ks) q++R)))):=h7
    rw [PR hlt] at h8
    have hx8:=(hxr.trans hx2).setCell (⟨gl,q,none⟩ : Addr) (.pointer (some ⟨c,0,none⟩))
    have cg : w2.cell? ⟨gl,q,none⟩ = some (.pointer none):=by rw [(ld 15 h6 rfl).1,PT hlt]; unfold Dc; rw [zq (by omega)]
    have fg:=(ld 15 h6 rfl).2 q
    have H8:=zh h8
    clear h2 h3 h4 h5 h6 h7 h8 hown cy
    go_wp2_with fail
    go_roundw
    case rel=>exact ⟨q + 1,stN B q c,by omega,by go_num,hx8,by rw [LH]; exact H8.out⟩
    case measure=>simp [intOf]; omega
   ·have hk2 : ¬(q : Int) < (ks.length : Int):=by omega
    have hkn : ks.getD q [] = []:=by rw [List.getD,List.getElem?_eq_none (by omega)]; rfl
    have HC2:=zh (HCR.out (.slice none 0 0) (fun w' L h=>by rw [hkn]; exact Fy w'))
    have hdq : lY m ks q = (devOf m q).crash (ks.getD q []):=rfl
    generalize (devOf m q).crash (ks.getD q []) = dq at hdq HC2
    have HDQ:=zh hdq
    clear HCR hkn hdq
    go_wp2_with fail
    refine HC2.out.mono ?_
    rintro e w2 ⟨c,rfl,hx2,h2⟩
    have h3:=FK hlt (G3 hlt h2)
    have h4:=lp (rshL Y.bs Y.A m.F++ryT Y m) [ln c dq] (R:=pts gl (.cells (lArr B q) 56 (0,0))::(yt B (lY m ks) q++R)) (by simpa only [zp,List.cons_append,List.nil_append] using h3)
    have h5:=lp [ln c dq] (rshL Y.bs Y.A m.F++ryT Y m++[pts gl (.cells (lArr B q) 56 (0,0))]) (R:=yt B (lY m ks) q++R) (by simpa only [zp,List.cons_append,List.nil_append] using h4)
    have h6 : own w2 (ryL Y m (pts gl (.cells (lArr B q) 56 (0,0))::(ln c (lY m ks q)::(yt B (lY m ks) q++R)))):=by rw [HDQ.out]; simpa only [zp,List.cons_append,List.nil_append] using h5
    have h7:=lg (i:=q) (v:=.pointer (some ⟨c,0,none⟩)) 15 h6 rfl
    have h8 : own (w2.setCell ⟨gl,q,none⟩ (.pointer (some ⟨c,0,none⟩))) (ryL Y m (pts gl (.cells ((lArr B q).setIfInBounds q (.pointer (some ⟨c,0,none⟩))) 56 (0,0))::(ln c (lY m ks q)::(yt B (lY m ks) q++R)))):=h7
    rw [PR hlt] at h8
    have hx8:=(hxr.trans hx2).setCell (⟨gl,q,none⟩ : Addr) (.pointer (some ⟨c,0,none⟩))
    have cg : w2.cell? ⟨gl,q,none⟩ = some (.pointer none):=by rw [(ld 15 h6 rfl).1,PT hlt]; unfold Dc; rw [zq (by omega)]
    have fg:=(ld 15 h6 rfl).2 q
    have H8:=zh h8
    clear h2 h3 h4 h5 h6 h7 h8 hown cy
    go_wp2_with fail
    go_roundw
    case rel=>exact ⟨q + 1,stN B q c,by omega,by go_num,hx8,by rw [LH]; exact H8.out⟩
    case measure=>simp [intOf]; omega
  ·obtain rfl : q = 5:=by omega
   have hcd : 0 <= (zw (lY m ks) (m.top.crash [])).1:=FM _ _
   have hyc:=HYC.out
   change zw (lY m ks) (m.top.crash []) = YC at hyc
   have hop:=fun (bt : Nat) (w : World) h=>HCO.out B bt (pts gl (.cells (lArr B 5) 56 (0,0))::ryL Y m R) w h
   have hperm : ∀(bt : Nat) (w2 : World),own w2 (ln bt (m.top.crash [])::ln Y.tp m.top::(ryL Y m (pts gl (.cells (lArr B 5) 56 (0,0))::(yt B (lY m ks) 5++R))).eraseIdx 12) -> own w2 (ryL Y m (ln bt (m.top.crash [])::pts gl (.cells (lArr B 5) 56 (0,0))::(yt B (lY m ks) 5++R))) /\ own w2 (yt B (lY m ks) 5++(ln bt (m.top.crash [])::(pts gl (.cells (lArr B 5) 56 (0,0))::ryL Y m R))):=fun bt w2 h2=>by
    have h3 : own w2 (ln Y.tp m.top::(ryL Y m (ln bt (m.top.crash [])::pts gl (.cells (lArr B 5) 56 (0,0))::(yt B (lY m ks) 5++R))).eraseIdx 12):=lr (ln Y.tp m.top::(ryL Y m []).eraseIdx 12) h2
    have h4 : own w2 (ryL Y m (ln bt (m.top.crash [])::pts gl (.cells (lArr B 5) 56 (0,0))::(yt B (lY m ks) 5++R))):=lr ((ryL Y m []).take 12) h3
    have h5:=lp (rshL Y.bs Y.A m.F++ryT Y m) ([ln bt (m.top.crash []),pts gl (.cells (lArr B 5) 56 (0,0))]++yt B (lY m ks) 5) (R:=R) (by simpa only [zp,List.cons_append,List.nil_append] using h4)
    have h6:=lp [ln bt (m.top.crash []),pts gl (.cells (lArr B 5) 56 (0,0))] (yt B (lY m ks) 5) (R:=ryL Y m R) (by simpa only [zp,List.cons_append,List.nil_append] using h5)
    exact ⟨h4,h6⟩
   have HPM:=zh hperm
   have HCT:=zh (fun (w' : World) h=>Kq Y.tp m.top HTP.out.1 (.slice none 0 0) [] ((ryL Y m (pts gl (.cells (lArr B 5) 56 (0,0))::(yt B (lY m ks) 5++R))).eraseIdx 12) w' (fun w' _ _=>Fy w') h)
   unfold JV at hop
   generalize zw (lY m ks) (m.top.crash []) = S at *
   subst hyc
   obtain ⟨oc,om⟩:=S
   unfold Mh at hop
   dsimp only at hop hcd
   clear HYC hperm HV HCO
   go_upto_region 9 with (fail)
   have hd:=lj hown
   have hxd:=hxr.drew
   by_cases hoc : oc = 0
   ·have HO2:=zh (fun (bt : Nat) (w : World) h=>(hop bt w h).mono fun e w' h=>(h.resolve_left fun h=>h.1 hoc).2)
    have HOC:=zh hoc
    clear hop hoc hcd
    go_region_held3 (fun w'=>w'.cell? ⟨gl,0,none⟩ = some (.pointer (some ⟨B 0,0,none⟩)) /\ w'.cell? ⟨gl,1,none⟩ = some (.pointer (some ⟨B 1,0,none⟩)) /\ w'.cell? ⟨gl,2,none⟩ = some (.pointer (some ⟨B 2,0,none⟩)) /\ w'.cell? ⟨gl,3,none⟩ = some (.pointer (some ⟨B 3,0,none⟩)) /\ w'.cell? ⟨gl,4,none⟩ = some (.pointer (some ⟨B 4,0,none⟩)) /\ w'.cell? ⟨Y.y,5,none⟩ = some (.pointer (some ⟨Y.tp,0,none⟩))) (first | exact ⟨(ld 15 hd rfl).1 0,(ld 15 hd rfl).1 1,(ld 15 hd rfl).1 2,(ld 15 hd rfl).1 3,(ld 15 hd rfl).1 4,Db hd⟩ | exact ⟨(ld 16 h4 rfl).1 0,(ld 16 h4 rfl).1 1,(ld 16 h4 rfl).1 2,(ld 16 h4 rfl).1 3,(ld 16 h4 rfl).1 4,Db h4⟩ | exact ⟨(ld 15 h7 rfl).1 0,(ld 15 h7 rfl).1 1,(ld 15 h7 rfl).1 2,(ld 15 h7 rfl).1 3,(ld 15 h7 rfl).1 4,Db h8⟩) (first | (go_at_call 133; refine (HCT.out _ (F9 hd)).mono ?_; rintro e w3 ⟨bt,rfl,hx3,h3⟩; obtain ⟨h4,h6⟩:=HPM.out bt _ h3) | (go_at_call 28; refine (HO2.out bt _ h6).mono ?_; rintro e w5 ⟨Y',rfl,hx5,h7⟩; have h8:=zl (rshL Y'.bs Y'.A om.F++(ryT Y' om++[pts gl (.cells (lArr B 5) 56 (0,0))])) (by simpa only [zp,List.cons_append,List.nil_append] using h7)))
    go_wp2_with fail
    go_ret2
    exact .inr ⟨HOC.out,Y',rfl,(hxd.trans hx3).trans hx5,lh 15 h7 rfl⟩
   ·have HO2:=zh (fun (bt : Nat) (w : World) h=>(hop bt w h).mono fun e w' h=>(h.resolve_right fun h=>hoc h.1).2)
    have HOC:=zh hoc
    clear hop hoc hcd
    go_region_held3 (fun w'=>w'.cell? ⟨gl,0,none⟩ = some (.pointer (some ⟨B 0,0,none⟩)) /\ w'.cell? ⟨gl,1,none⟩ = some (.pointer (some ⟨B 1,0,none⟩)) /\ w'.cell? ⟨gl,2,none⟩ = some (.pointer (some ⟨B 2,0,none⟩)) /\ w'.cell? ⟨gl,3,none⟩ = some (.pointer (some ⟨B 3,0,none⟩)) /\ w'.cell? ⟨gl,4,none⟩ = some (.pointer (some ⟨B 4,0,none⟩)) /\ w'.cell? ⟨Y.y,5,none⟩ = some (.pointer (some ⟨Y.tp,0,none⟩))) (first | exact ⟨(ld 15 hd rfl).1 0,(ld 15 hd rfl).1 1,(ld 15 hd rfl).1 2,(ld 15 hd rfl).1 3,(ld 15 hd rfl).1 4,Db hd⟩ | exact ⟨(ld 16 h4 rfl).1 0,(ld 16 h4 rfl).1 1,(ld 16 h4 rfl).1 2,(ld 16 h4 rfl).1 3,(ld 16 h4 rfl).1 4,Db h4⟩ | exact ⟨(ld 0 h7 rfl).1 0,(ld 0 h7 rfl).1 1,(ld 0 h7 rfl).1 2,(ld 0 h7 rfl).1 3,(ld 0 h7 rfl).1 4,Db h8⟩) (first | (go_at_call 133; refine (HCT.out _ (F9 hd)).mono ?_; rintro e w3 ⟨bt,rfl,hx3,h3⟩; obtain ⟨h4,h6⟩:=HPM.out bt _ h3) | (go_at_call 28; refine (HO2.out bt _ h6).mono ?_; rintro e w5 ⟨rfl,hx5,h7⟩; have h8:=le h7))
    go_wp2_with fail
    go_ret2
    exact .inl ⟨HOC.out,rfl,(hxd.trans hx3).trans hx5,le h7⟩
theorem UV {P : List SL.HP} {B : Nat -> Nat} {Y2 : RA} {m : lf} {R : List SL.HP} {i : Nat} {w : World} (hi : i < 5) (H : own w (P++(devL B (devOf m) 5++ryL Y2 m R))) :
  own w (lm (B i) (devOf m i)::ln (Y2.A i).2 (devOf m i)::((zN Y2 m [] i++P)++(devL B (devOf m) 5++R).eraseIdx (4 - i))):=by
 have h1:=lp (P++devL B (devOf m) 5) (rshL Y2.bs Y2.A m.F++ryT Y2 m) (R:=R) (by simpa only [zp] using H)
 have h2:=FE (Y:=Y2) (m:=m) (R:=P++(devL B (devOf m) 5++R)) hi (by simpa only [zp] using h1)
 rw [Do Y2 m _ hi] at h2
 have h3:=PQ (l:=ln (Y2.A i).2 (devOf m i)::(zN Y2 m [] i++P)) (B:=B) (D:=devOf m) (X:=R) hi (by simpa only [zp,List.cons_append] using h2)
 exact h3
theorem Vy {P : List SL.HP} {B : Nat -> Nat} {Y2 : RA} {m : lf} {R : List SL.HP} {i : Nat} {w : World} (hi : i < 5)
  (H : own w (lm (B i) (devOf m i)::ln (Y2.A i).2 (devOf m i)::((zN Y2 m [] i++P)++(devL B (devOf m) 5++R).eraseIdx (4 - i)))) : own w (P++(devL B (devOf m) 5++ryL Y2 m R)):=by
 have h3:=T4 (l:=ln (Y2.A i).2 (devOf m i)::(zN Y2 m [] i++P)) (B:=B) (D:=devOf m) (X:=R) hi H
 have h2 : own w (ln (Y2.A i).2 (devOf m i)::zN Y2 m (P++(devL B (devOf m) 5++R)) i):=by
  rw [Do Y2 m _ hi]
  simpa only [zp,List.cons_append] using h3
 have h1:=FK hi h2
 have h0:=lp (rshL Y2.bs Y2.A m.F++ryT Y2 m) (P++devL B (devOf m) 5) (R:=R) (by simpa only [zp] using h1)
 simpa only [zp] using h0
theorem SX (m : lf) : ∃a b c d,F4 m = .agg #[.int .i64 a,.int .i64 b,.int .i64 c,.int .i64 d]:=by
 unfold F4
 split
 ·exact ⟨_,_,_,_,rfl⟩
 ·exact ⟨_,_,_,_,rfl⟩
theorem YOk.len5 {N : Nat} {m : lf} (h : YOk N m) : m.list.length <= 5:=by
 have:=Bl (F:=m.F) (root:=m.dk.root)
 rwa [h.walk] at this
theorem YOk.clus {N : Nat} {m : lf} (h : YOk N m) : 1 <= clus m.F m.dk.root /\ clus m.F m.dk.root <= 32:=by
 obtain ⟨k,i,hk,hk5,hi⟩:=lT h.root
 have hc:=(h.sh.ok k i hk5 hi).head
 unfold lF at hc
 rw [hk,yr hi]
 omega
theorem Kc (N : Nat) (Y : YA) (Y2 : RA) (m : lf) (hm : YOk N m) (hN : N < 900000) (R : List SL.HP) (w : World) (H : own w (yL Y m (ryL Y2 m R))) :
  Calls Tryz.prog 30 #[.pointer (some ⟨Y.y,0,none⟩),.pointer (some ⟨Y2.y,0,none⟩)] w fun e w'=>e = .returned (.bool true) /\ Ext w w' /\ own w' (yL Y m (ryL Y2 m R)):=by
 obtain ⟨c1,c2⟩:=hm.clus
 have HCH:=zh (fun (R : List SL.HP) (w : World) (H : own w (yL Y m R))=>Sl Y m hm.len5 R w H)
 have HST:=zh (fun (R : List SL.HP) (w : World) (H : own w (yL Y m R))=>OG Y m hm.jok R w H)
 have HRT:=zh (fun (R : List SL.HP) (w : World) (H : own w (ryL Y2 m R))=>MS Y2 m R w H)
 obtain ⟨s1,s2,s3,s4,hs⟩:=SX m
 rw [hs] at HST HRT
 have HSE:=zh (fun (R : List SL.HP) (w : World) (H : own w (yL Y m R))=>Fi N Y m hm hN R w H)
 have hcode : 0 <= (getM m.F m.list 0 (clus m.F m.dk.root * 4)).2:=Mp _ _ _ _
 have HP:=zh (fun (R' : List SL.HP) w' h=>Ii N Y m hm hN 0 (clus m.F m.dk.root * 4) (by unfold lR; omega) (by unfold lR; omega) R' w' h)
 have HR:=zh (fun (R' : List SL.HP) (w' : World) (h : own w' (ryL Y2 m R'))=>Mg N Y2 m hm hN 0 (clus m.F m.dk.root * 4) (by unfold lR; omega) (by unfold lR; omega) R' w' h)
 have HDV:=zh (fun (R : List SL.HP) (w : World) (H : own w (yL Y m R))=>T7 N Y m hm R w H)
 have HTP:=zh hm.tp.1
 have HOK:=zh (fun (k : Nat) (hk : k < 5)=>(Ax hm hk).1)
 generalize clus m.F m.dk.root * 4 = n at *
 generalize getM m.F m.list 0 n = S at *
 obtain ⟨t,f⟩:=S
 dsimp only at hcode HP HR
 obtain ⟨rao,rlb,roff,rcap,hrv,-,-,-,-⟩:=(BY (yw_r H)).form
 have cl0 : ∀w' R',own w' (ryL Y2 m R') -> w'.cell? ⟨Y2.y,12,none⟩ = some (.slice rao m.list.length rcap) /\ w'.cell? ⟨Y2.y,6,none⟩ = some (.pointer (some ⟨Y2.bs,0,none⟩)):=fun w' R' h=>⟨by rw [<- hrv]; exact AR h,BE h⟩
 have HCL:=zh cl0
 have HIV:=zh (fun (w' : World) R' (h : own w' (ryL Y2 m R'))=>show lS w' (.slice rao m.list.length rcap) m.list from (by rw [<- hrv]; exact BY h))
 rw [hrv] at HR
 clear hm c1 c2 hs hrv cl0
 have hd:=lj H
 have hxd:=(zR w).drew
 go_enter Tryz.func30,Tryz.ntmps30
 go_upto_region 1 with (fail)
 go_region_held3 (fun w'=>w'.cell? ⟨Y2.y,12,none⟩ = some (.slice rao m.list.length rcap)) (first | exact (HCL.out _ _ (yw_r hd)).1 | exact (HCL.out _ _ (yw_r h3)).1 | exact (HCL.out _ _ (yw_r h5)).1 | exact (HCL.out _ _ (yw_r h6)).1) (first | (go_at_call 51; refine (HCH.out _ _ hd).mono ?_; rintro e w3 ⟨cv,rfl,hx3,h3'⟩; have hci:=l9 15 h3' rfl; have h3:=lh 15 h3' rfl) | (go_at_call 55; refine (Ku _ _ m.list m.list _ hci (HIV.out _ _ (yw_r h3))).mono ?_; rintro e w' ⟨rfl,nn,rfl⟩) | (go_at_call 47; refine (HST.out _ _ (ll nn h3)).mono ?_; rintro e w5 ⟨rfl,hx5,h5⟩) | (go_at_call 122; refine (HRT.out _ _ (yw_r h5)).mono ?_; rintro e w6 ⟨rfl,hx6,h6'⟩; have h6:=yw_b h6'))
 have hxe:=(((hxd.trans hx3).drewN nn).trans hx5).trans hx6
 clear hd hxd hx3 hx5 hx6 h3 h3' h5 h6' hci HCH HST HRT HIV H
 go_wp2_with fail
 refine (HSE.out _ _ h6).mono ?_
 rintro e w7 ⟨rfl,hx7,h7⟩
 go_wp2_with fail
 refine (HP.out _ _ h7).mono ?_
 rintro e w8 ⟨rfl,hx8,h8⟩
 have hxg:=(hxe.trans hx7).trans hx8
 clear h6 h7 hxe hx7 hx8 HSE HP
 go_upto_region 5 with (fail)
 have hz:=lj h8
 have hxz:=hxg.drew
 go_region_held3 (fun w'=>w'.cell? ⟨Y2.y,12,none⟩ = some (.slice rao m.list.length rcap) /\ w'.cell? ⟨Y2.y,6,none⟩ = some (.pointer (some ⟨Y2.bs,0,none⟩))) (first | exact HCL.out _ _ (yw_r hz) | exact HCL.out _ _ (yw_r h9)) (first | (go_at_call 105; refine (HR.out _ _ (yw_r hz)).mono ?_; rintro e w9 ⟨rfl,hx9,h9'⟩; have h9:=yw_b h9'))
 have hxh:=hxz.trans hx9
 clear hz hxz hx9 h8 h9' hxg HR HCL
 go_wp2_with fail
 refine (HDV.out _ _ h9).mono ?_
 rintro e w10 ⟨v,B,bt,rfl,hx10,h10⟩
 have hxi:=hxh.trans hx10
 clear h9 hxh hx10 HDV
 obtain ⟨vo,g,vcap,rfl,-,-,hvo,-,-,-,-⟩:=lk 16 h10 rfl
 obtain rfl:=hvo (by decide)
 have h11:=lp (shL Y.bs Y.A m.F++(yT Y m++(lm bt m.top::row 53 1 (.slice (some ⟨g,0,none⟩) 5 vcap) 5 (ptrs B 5)::devL B (devOf m) 5))) (rshL Y2.bs Y2.A m.F++ryT Y2 m) (R:=R) (by simpa only [zp,List.cons_append] using h10)
 have h12 : own w10 (ryL Y2 m (shL Y.bs Y.A m.F++(yT Y m++(lm bt m.top::row 53 1 (.slice (some ⟨g,0,none⟩) 5 vcap) 5 (ptrs B 5)::(devL B (devOf m) 5++R))))):=by simpa only [zp,List.cons_append] using h11
 have ct:=Db h12
 have h13:=lu 30 (F9 h12) rfl
 go_wp2_with fail
 refine (zd f f _ hcode).mono ?_
 rintro e w' ⟨rfl,rfl⟩
 go_wp2_with fail
 refine (Lv bt Y2.tp m.top HTP.out _ _ h13).mono ?_
 rintro e w14 ⟨rfl,hx14,h14⟩
 have h15:=Dj (l:=ln Y2.tp m.top::(ryL Y2 m (shL Y.bs Y.A m.F++(yT Y m++(lm bt m.top::row 53 1 (.slice (some ⟨g,0,none⟩) 5 vcap) 5 (ptrs B 5)::(devL B (devOf m) 5++R))))).eraseIdx 12) (P:=lm bt m.top) 30 rfl h14
 have h16:=Dj (l:=ryL Y2 m (shL Y.bs Y.A m.F++(yT Y m++(lm bt m.top::row 53 1 (.slice (some ⟨g,0,none⟩) 5 vcap) 5 (ptrs B 5)::(devL B (devOf m) 5++R))))) (P:=ln Y2.tp m.top) 12 rfl h15
 have h17:=lp (rshL Y2.bs Y2.A m.F++ryT Y2 m) (shL Y.bs Y.A m.F++(yT Y m++(lm bt m.top::row 53 1 (.slice (some ⟨g,0,none⟩) 5 vcap) 5 (ptrs B 5)::devL B (devOf m) 5))) (R:=R) (by simpa only [zp,List.cons_append] using h16)
 have h18 : own w14 ((shL Y.bs Y.A m.F++(yT Y m++[lm bt m.top,row 53 1 (.slice (some ⟨g,0,none⟩) 5 vcap) 5 (ptrs B 5)]))++(devL B (devOf m) 5++ryL Y2 m R)):=by simpa only [zp,List.cons_append,List.nil_append] using h17
 have hxj:=hxi.trans hx14
 have HS:=zh (fun (w' : World) (q : Nat) (hq : q < 5) (h : own w' ((shL Y.bs Y.A m.F++(yT Y m++[lm bt m.top,row 53 1 (.slice (some ⟨g,0,none⟩) 5 vcap) 5 (ptrs B 5)]))++(devL B (devOf m) 5++ryL Y2 m R)))=>show w'.cell? ⟨g,q,none⟩ = some (.pointer (some ⟨B q,0,none⟩)) /\ w'.cell? ⟨Y2.y,q,none⟩ = some (.pointer (some ⟨(Y2.A q).2,0,none⟩)) from (by
  have h1 : own w' (yL Y m (lm bt m.top::row 53 1 (.slice (some ⟨g,0,none⟩) 5 vcap) 5 (ptrs B 5)::(devL B (devOf m) 5++ryL Y2 m R))):=by simpa only [zp,List.cons_append,List.nil_append] using h
  have h2:=lp ((shL Y.bs Y.A m.F++(yT Y m++[lm bt m.top,row 53 1 (.slice (some ⟨g,0,none⟩) 5 vcap) 5 (ptrs B 5)]))++devL B (devOf m) 5) (rshL Y2.bs Y2.A m.F++ryT Y2 m) (R:=R) (by simpa only [zp] using h)
  have h3 : own w' (ryL Y2 m ((shL Y.bs Y.A m.F++(yT Y m++[lm bt m.top,row 53 1 (.slice (some ⟨g,0,none⟩) 5 vcap) 5 (ptrs B 5)]))++(devL B (devOf m) 5++R))):=by simpa only [zp] using h2
  refine ⟨(lH 16 h1 rfl).1 q _ ?_,D5 h3 hq⟩
  unfold ptrs
  rw [List.getElem?_map,List.getElem?_range hq]
  rfl))
 have HFIN:=zh (fun (w' : World) (h : own w' ((shL Y.bs Y.A m.F++(yT Y m++[lm bt m.top,row 53 1 (.slice (some ⟨g,0,none⟩) 5 vcap) 5 (ptrs B 5)]))++(devL B (devOf m) 5++ryL Y2 m R)))=>show own w' (yL Y m (ryL Y2 m R)) from (by
  have h1:=lp (shL Y.bs Y.A m.F++yT Y m) ([lm bt m.top,row 53 1 (.slice (some ⟨g,0,none⟩) 5 vcap) 5 (ptrs B 5)]++devL B (devOf m) 5) (R:=ryL Y2 m R) (by simpa only [zp] using h)
  have h2:=zl ([lm bt m.top,row 53 1 (.slice (some ⟨g,0,none⟩) 5 vcap) 5 (ptrs B 5)]++devL B (devOf m) 5) h1
  simpa only [zp] using h2))
 clear h10 h11 h12 h13 h14 h15 h16 h17 hxi hx14 ct HTP
 go_wp2_with fail
 go_loopw [12] (fun kv wr=>∃q : Nat,q <= 5 /\ kv = .int .i64 q /\ Ext w wr /\ own wr ((shL Y.bs Y.A m.F++(yT Y m++[lm bt m.top,row 53 1 (.slice (some ⟨g,0,none⟩) 5 vcap) 5 (ptrs B 5)]))++(devL B (devOf m) 5++ryL Y2 m R))) (fun kv _=>6 - (intOf kv).toNat)
 case atStart=>exact ⟨0,by omega,rfl,hxj,h18⟩
 case round=>
  clear h18 hxj
  obtain ⟨q,hq,rfl,hxr,hown⟩:=hrel
  by_cases hlt : q < 5
  ·have g1 : (q : Int) < 5:=by omega
   have g2 : (0 : Int) <= (q : Int):=by omega
   go_upto_region 12 with (fail)
   have hz:=lj hown
   have hxz:=hxr.drew
   go_region_held3 (fun w'=>w'.cell? ⟨g,q,none⟩ = some (.pointer (some ⟨B q,0,none⟩)) /\ w'.cell? ⟨Y2.y,q,none⟩ = some (.pointer (some ⟨(Y2.A q).2,0,none⟩))) (first | exact HS.out _ q hlt hz | exact HS.out _ q hlt h19) (first | (go_at_call 124; refine (Lv (B q) (Y2.A q).2 (devOf m q) (HOK.out q hlt) _ _ (UV hlt hz)).mono ?_; rintro e w15 ⟨rfl,hx15,h19'⟩; have h19:=Vy hlt h19'))
   go_wp2_with fail
   go_roundw
   case rel=>exact ⟨q + 1,by omega,by go_num,hxz.trans hx15,h19⟩
   case measure=>simp [intOf]; omega
  ·obtain rfl : q = 5:=by omega
   go_wp2_with fail
   go_ret
   exact ⟨rfl,hxr,HFIN.out _ hown⟩
def wkM : lf:=(zQ (DO 2 2) 3 FW).2
theorem wk_1 : (zQ (DO 2 2) 3 FW).1 = 0:=by kernel_rfl
theorem wk_2 : (getM wkM.F wkM.list 3 1).1 = FW:=by kernel_rfl
theorem wk_3 : (getM wkM.F wkM.list 3 1).2 = 0:=by kernel_rfl
theorem wk_4 : clus wkM.F wkM.dk.root * 4 = 8:=by kernel_rfl
theorem wk_5 : (FW.toList == [48,49,50,51,52,53,54,55,56,57,97,98,99,100,101,102]) = true:=by kernel_rfl
theorem Td (R : List SL.HP) (w : World) (H : own w R) :
  Calls Tryz.prog 24 #[] w fun e w'=>e = .returned (.bool true) /\ Ext w w' /\ own w' R:=by
 have hb : ¬lF 2 2 (-1):=by unfold lF; omega
 have hg:=(KK hb).1
 have hw:=IE hg (by omega) 3 FW (by decide)
 have HN:=zh (NX 2 2 hb R w H)
 have HW:=zh (fun (Y : YA) w' h=>PV 10 Y (DO 2 2) hg.ok (by omega) 3 (by unfold lR; omega) FW (by decide) R w' h)
 unfold zH at HW
 rw [wk_1,oa] at HW
 change lJ 1010 wkM at hw
 change Hid (∀(Y : YA) w',_ -> Calls _ _ _ w' fun e w''=>∃Y',Y'.y = Y.y /\ e = _ /\ Ext w' w'' /\ own w'' (yL Y' wkM R)) at HW
 have HRD:=zh (fun (Y : YA) w' h=>Ii 1010 Y wkM hw.ok (by omega) 3 1 (by unfold lR; omega) (by unfold lR; omega) R w' h)
 rw [wk_2,wk_3,oa] at HRD
 have HSE:=zh (fun (Y : YA) w' h=>Fi 1010 Y wkM hw.ok (by omega) R w' h)
 rw [wk_4] at HSE
 have e5:=wk_5
 generalize wkM = M at *
 clear hb hg hw H
 go_enter Tryz.func24,Tryz.ntmps24
 go_wp2_with fail
 refine HN.out.mono ?_
 rintro e w2 ⟨Y,rfl,hx2,h2⟩
 go_wp2_with fail
 refine (HW.out Y w2 h2).mono ?_
 rintro e w3 ⟨Y',hy,rfl,hx3,h3⟩
 rw [<- hy]
 clear hy
 go_wp2_with fail
 refine (HRD.out Y' w3 h3).mono ?_
 rintro e w4 ⟨rfl,hx4,h4⟩
 go_wp2_with fail
 refine (EH 0 w4).mono ?_
 rintro e w' ⟨rfl,rfl⟩
 go_wp2_with fail
 refine (EH 0 w4).mono ?_
 rintro e w' ⟨rfl,rfl⟩
 go_wp2_with fail
 refine (HSE.out Y' w4 h4).mono ?_
 rintro e w5 ⟨rfl,hx5,h5⟩
 go_wp2_with fail
 go_ret
 exact ⟨by first | rfl | (simp; done),((hx2.trans hx3).trans hx4).trans hx5,zl (shL Y'.bs Y'.A M.F++yT Y' M) (by rw [zp]; exact h5)⟩
def BA (x : Act) : Nat:=(min (max x.A 0) 9).toNat
def o9 (x : Act) (i : Nat) : Nat:=min (BA x * i) x.keep.length
def B5 (x : Act) : List (List Bool):=(List.range 5).map fun i=>x.keep.drop (o9 x i)
def ML (x : Act) (ko : Option Addr) (kc i : Nat) : Value:=.slice (if kc = o9 x i then ko else ko.map (·.add (o9 x i * 1))) (x.keep.length - o9 x i) (kc - o9 x i)
def z8 (x : Act) (ko : Option Addr) (kc q : Nat) : List Value:=(List.range q).map (ML x ko kc)
theorem OB (x : Act) (ko : Option Addr) (kc q : Nat) : z8 x ko kc (q + 1) = z8 x ko kc q++[ML x ko kc q]:=by
 unfold z8; rw [List.range_succ,List.map_append]; rfl
theorem PX (x : Act) : (B5 x).length = 5:=by simp [B5]
theorem Sv : Elem Tryz.prog 43 1 24 (.slice none 0 0):=by unfold Elem; kernel_rfl
theorem SZ (a : Option Addr) (n c : Nat) : ∀u∈[Value.slice a n c],u.oneCell' = true:=fun u hu=>by simp at hu; subst hu; rfl
theorem Sg {w : World} {ko : Option Addr} {n kc fr : Nat} {ks : List Bool} (h : yI w (.slice ko n kc) ks) (hn : ks.length = n) (hf : fr <= n) :
  yI w (.slice (if kc = fr then ko else ko.map (·.add (fr * 1))) (n - fr) (kc - fr)) (ks.drop fr):=by
 obtain ⟨ao,b,off,cap,he,h1,h2,h3,h4⟩:=h
 simp only [Value.slice.injEq] at he
 obtain ⟨rfl,he2,rfl⟩:=he
 refine ⟨_,b,off + fr,kc - fr,by rw [List.length_drop,hn],by rw [List.length_drop]; omega,by omega,fun hp=>?_,fun i hi=>?_⟩
 ·rw [List.length_drop] at hp
  rw [zq (by omega),h3 (by omega)]
  simp [Addr.add]
 ·rw [List.length_drop] at hi
  have:=h4 (fr + i) (by omega)
  rw [Nat.add_assoc,this]
  have e : (ks.drop fr).getD i false = ks.getD (fr + i) false:=by
   unfold List.getD
   rw [List.getElem?_drop]
  rw [e]
theorem JT {x : Act} {ko : Option Addr} {kc : Nat} {R : List SL.HP} {v : Value} (hv : ∀w' L,own w' (L++R) -> yI w' (.slice ko x.keep.length kc) x.keep) : ∀w' L,own w' (L++(row 43 1 v 5 (z8 x ko kc 5)::R)) -> CX w' v (z8 x ko kc 5) (B5 x):=fun w' L h=>by
 have hb:=hv w' (L++[row 43 1 v 5 (z8 x ko kc 5)]) (by simpa only [zp,List.cons_append,List.nil_append] using h)
 obtain ⟨ao,g,cap,rfl,h1,h2,h3,-,-,h6,-⟩:=lk L.length h (by rw [List.getElem?_append_right (Nat.le_refl _),Nat.sub_self]; rfl)
 have hl:=PX x
 have hat : ∀i,i < 5 -> (z8 x ko kc 5)[i]? = some (ML x ko kc i):=fun i hi=>by
  unfold z8
  rw [List.getElem?_map,List.getElem?_range hi]
  rfl
 refine ⟨⟨ao,g,0,cap,by rw [hl],by omega,by simp only [maxLen] at h2; omega,fun hp=>h3 (by omega),fun i hi=>?_⟩,fun i hi=>?_⟩
 ·rw [hl] at hi
  rw [Nat.zero_add,List.getD,hat i hi]
  exact h6 i _ (hat i hi)
 ·rw [hl] at hi
  rw [List.getD,hat i hi]
  have hk : (B5 x).getD i [] = x.keep.drop (o9 x i):=by
   unfold B5
   rw [List.getD,List.getElem?_map,List.getElem?_range hi]
   rfl
  rw [hk]
  exact Sg hb rfl (Nat.min_le_right _ _)
theorem Ug (x : Act) (ko : Option Addr) (kc : Nat) (hkl : x.keep.length <= 300) (hkc : x.keep.length <= kc) (R : List SL.HP) (w : World) (H : own w R) :
  Calls Tryz.prog 33 #[.agg #[.string x.kind,.int .i64 x.A,.int .i64 x.B,.int .i64 x.C,.int .i64 x.D,.string x.S,.slice ko x.keep.length kc]] w fun e w'=>∃v,e = .returned v /\ Ext w w' /\ own w' (row 43 1 v 5 (z8 x ko kc 5)::R):=by
 have hb:=lv 43 1 (li H (.cells #[.string x.kind,.int .i64 x.A,.int .i64 x.B,.int .i64 x.C,.int .i64 x.D,.string x.S,.slice ko x.keep.length kc] 45))
 have hxb:=(zR w).alloc (.cells #[.string x.kind,.int .i64 x.A,.int .i64 x.B,.int .i64 x.C,.int .i64 x.D,.string x.S,.slice ko x.keep.length kc] 45)
 have hten : min (max x.A 0) 9 = (BA x : Int):=by unfold BA; omega
 have ht9 : BA x <= 9:=by unfold BA; omega
 go_enter Tryz.func33,Tryz.ntmps33
 go_upto_region 1 with (fail)
 generalize w.heap.size = ba at *
 generalize w.alloc (.cells #[.string x.kind,.int .i64 x.A,.int .i64 x.B,.int .i64 x.C,.int .i64 x.D,.string x.S,.slice ko x.keep.length kc] 45) = w1 at *
 go_wp2_with fail
 go_loopw [4,3] (fun iv v wr=>∃q : Nat,q <= 5 /\ iv = .int .i64 q /\ Ext w wr /\ own wr (row 43 1 v q (z8 x ko kc q)::pts ba (.cells #[.string x.kind,.int .i64 x.A,.int .i64 x.B,.int .i64 x.C,.int .i64 x.D,.string x.S,.slice ko x.keep.length kc] 45 (0,0))::R)) (fun iv _ _=>6 - (intOf iv).toNat)
 case atStart=>exact ⟨0,by omega,rfl,hxb,hb⟩
 case round=>
  clear hb hxb
  obtain ⟨q,hq,rfl,hxr,hown⟩:=hrel
  by_cases hlt : q < 5
  ·have g1 : (q : Int) < 5:=by omega
   have g2 : (0 : Int) <= (q : Int):=by omega
   have c1:=(ld 1 hown rfl).1 1
   have c6:=(ld 1 hown rfl).1 6
   obtain ⟨va,g,cap,rfl,r1,r2,r3,-,-,-,-⟩:=lk 0 hown rfl
   have hks:=OB x ko kc q
   have hkv : ML x ko kc q = .slice (if kc = o9 x q then ko else ko.map (·.add (o9 x q * 1))) (x.keep.length - o9 x q) (kc - o9 x q):=rfl
   have hkf : o9 x q = min (BA x * q) x.keep.length:=rfl
   have hp45 : BA x * q <= 45:=Nat.mul_le_mul ht9 (show q <= 5 by omega)
   have e1 : (BA x : Int) * (q : Int) = ((BA x * q : Nat) : Int):=(Int.natCast_mul _ _).symm
   have hsl : ∀wx,(Instr.slice 43 (.slice ko x.keep.length kc) (some (.int .i64 (o9 x q : Int))) none none).run Tryz.prog wx = .ok (.slice (if kc = o9 x q then ko else ko.map (·.add (o9 x q * 1))) (x.keep.length - o9 x q) (kc - o9 x q)) wx:=fun wx=>by
    rw [run_slice_l (P:=Tryz.prog) (w:=wx) (t:=43) (a:=ko) (len:=x.keep.length) (cap:=kc) (ht:=Tryz.underlying43) (kl:=.i64) (l:=(o9 x q : Int)) (h0:=by omega) (h1:=by omega),zn]
    rfl
   have e2 : min ((BA x * q : Nat) : Int) (x.keep.length : Int) = (o9 x q : Int):=by omega
   generalize BA x * q = p at *
   generalize hso : (if kc = o9 x q then ko else ko.map (·.add (o9 x q * 1))) = so at *
   generalize x.keep.length - o9 x q = sn at *
   generalize kc - o9 x q = sc at *
   generalize o9 x q = fq at *
   have HKS:=zh hks
   have HKV:=zh hkv
   clear hks hkv hkf hso
   have ha:=li hown (.cells #[.slice so sn sc] 43)
   go_wp2_with (first | (at_builtin; refine lD rfl _ _ 71 rfl 1 43 Tryz.underlying71 Sv rfl (by decide) rfl ha rfl (some ⟨_,0,none⟩) 1 1 [.slice so sn sc] rfl rfl (ot _ [.slice so sn sc] _) (fun h=>by cases h) (SZ _ _ _) (by simp only [maxLen]; omega) (by omega) ?_))
   intro v' w7 h7 hx7
   have h8:=le h7
   have hx8:=(hxr.alloc (.cells #[.slice so sn sc] 43)).trans hx7
   go_wp2_with fail
   go_roundw
   case rel=>exact ⟨q + 1,by omega,by go_num,hx8,by rw [HKS.out,HKV.out]; exact h8⟩
   case measure=>simp [intOf]; omega
  ·obtain rfl : q = 5:=by omega
   go_wp2_with fail
   go_ret
   exact ⟨_,rfl,hxr,lh 1 hown rfl⟩
theorem Ff {w : World} (C Z : List SL.HP) {E : List SL.HP} (H : own w (C++(Z++E))) : own w (C++E):=zl Z (lp C Z H)
theorem cr_r {Y : YA} {Y2 : RA} {m m2 : lf} {P : SL.HP} {E : List SL.HP} {w : World} (H : own w (yL Y m (P::ryL Y2 m2 E))) : own w (ryL Y2 m2 (yL Y m (P::E))):=by
 have h:=lp (shL Y.bs Y.A m.F++(yT Y m++[P])) (rshL Y2.bs Y2.A m2.F++ryT Y2 m2) (R:=E) (by simpa only [zp,List.cons_append,List.nil_append] using H)
 simpa only [zp,List.cons_append,List.nil_append] using h
theorem Xp {Y : YA} {Y2 : RA} {m m2 : lf} {P : SL.HP} {E : List SL.HP} {w : World} (H : own w (ryL Y2 m2 (yL Y m (P::E)))) : own w (yL Y m (ryL Y2 m2 E)):=by
 have h:=Ff (rshL Y2.bs Y2.A m2.F++(ryT Y2 m2++(shL Y.bs Y.A m.F++yT Y m))) [P] (E:=E) (by simpa only [zp,List.cons_append,List.nil_append] using H)
 exact yw_b (by simpa only [zp] using h)
theorem Xb {Y Y' : YA} {Y2 : RA} {m m2 M : lf} {P : SL.HP} {E : List SL.HP} {w : World} (H : own w (yL Y' M (yL Y m (P::ryL Y2 m2 E)))) : own w (ryL Y2 m2 (yL Y' M (yL Y m (P::E)))):=by
 have h:=lp (shL Y'.bs Y'.A M.F++(yT Y' M++(shL Y.bs Y.A m.F++(yT Y m++[P])))) (rshL Y2.bs Y2.A m2.F++ryT Y2 m2) (R:=E) (by simpa only [zp,List.cons_append,List.nil_append] using H)
 simpa only [zp,List.cons_append,List.nil_append] using h
theorem Wi {Y Y' : YA} {Y2 Y2' : RA} {m m2 M : lf} {P : SL.HP} {E : List SL.HP} {w : World} (H : own w (ryL Y2' M (ryL Y2 m2 (yL Y' M (yL Y m (P::E)))))) : own w (yL Y' M (ryL Y2' M E)):=by
 have h1:=Ff (rshL Y2'.bs Y2'.A M.F++ryT Y2' M) (rshL Y2.bs Y2.A m2.F++ryT Y2 m2) (E:=yL Y' M (yL Y m (P::E))) (by simpa only [zp] using H)
 have h2:=Ff (rshL Y2'.bs Y2'.A M.F++(ryT Y2' M++(shL Y'.bs Y'.A M.F++yT Y' M))) (shL Y.bs Y.A m.F++(yT Y m++[P])) (E:=E) (by simpa only [zp,List.cons_append,List.nil_append] using h1)
 exact yw_b (by simpa only [zp] using h2)
theorem QY {v : Value} {vs : List Value} {ks : List (List Bool)} {R : List SL.HP} (hv : ∀w' L,own w' (L++R) -> CX w' v vs ks) (X : List SL.HP) : ∀w' L,own w' (L++(X++R)) -> CX w' v vs ks:=fun w' L h=>hv w' (L++X) (by rwa [zp])
theorem Mw (c p : Int) (v : Value) (l : List Act) (w : World) (hv : De w v l) (hT : yR w) :
  Calls Tryz.prog 5 #[.int .i64 c,.int .i64 p,v] w fun e w'=>e = .returned (.bool true) /\ Below w.heap.size w w':=by
 obtain ⟨ao,bb,off,cap,rfl,hlen,hao,hat⟩:=hv.form
 have h0:=Js w
 have HAT:=zh hat
 have HV:=zh hv
 have HAO:=zh hao
 have HTR:=zh (fun w' L (h : own w' (L++[y9 w]))=>hT.later L.length h (by rw [List.getElem?_append_right (Nat.le_refl _),Nat.sub_self]; rfl))
 clear hat hv hao hT
 go_enter Tryz.func5,Tryz.ntmps5
 go_wp2_with fail
 refine (Td _ w h0).mono ?_
 rintro e w1 ⟨rfl,hx1,h1⟩
 go_wp2_with fail
 refine (Ui _ l 60 w1 (HV.out.later 0 h1 rfl)).mono ?_
 rintro e w' ⟨rfl,rfl⟩
 by_cases hL : Gv l 60 = true
 ·have hl2 : l.length <= 60 /\ ∀x∈l,x.S.size <= 700 /\ x.keep.length <= 300:=by
   simp only [Gv,Dt,Bool.and_eq_true,decide_eq_true_eq,List.all_eq_true] at hL
   exact ⟨by omega,fun x hx=>⟨by have:=(hL.2 x hx).1; omega,by have:=(hL.2 x hx).2; omega⟩⟩
  rw [hL]
  clear hL
  obtain ⟨hl60,hlx⟩:=hl2
  have HLX:=zh hlx
  clear hlx
  by_cases hb : lF c p (-1)
  ·have HN:=zh (fun R w H=>VX c p hb R w H)
   have HM:=zh (fun R w H=>Vg c p hb R w H)
   rw [show errV 1 = .iface 128 (.int .i64 1) from rfl] at HN
   clear hb
   go_wp2_with fail
   refine (HN.out _ _ h1).mono ?_
   rintro e w2 ⟨rfl,hx2,h2⟩
   go_wp2_with fail
   refine (HM.out _ _ h2).mono ?_
   rintro e w3 ⟨rfl,hx3,h3⟩
   go_wp2_with fail
   refine (zd 1 1 w3 (by decide)).mono ?_
   rintro e w' ⟨rfl,rfl⟩
   go_wp2_with fail
   go_ret
   exact ⟨rfl,J3 0 h3 rfl ((hx1.trans hx2).trans hx3)⟩
  ·have HN:=zh (fun R w H=>NX c p hb R w H)
   have HM:=zh (fun R w H=>S1 c p hb R w H)
   have hg:=KK hb
   have HG:=zh hg
   clear hb hg
   generalize DO c p = m0 at *
   go_wp2_with fail
   refine (HN.out _ _ h1).mono ?_
   rintro e w2 ⟨Y0,rfl,hx2,h2⟩
   go_wp2_with fail
   refine (HM.out _ _ h2).mono ?_
   rintro e w3 ⟨Y20,rfl,hx3,h3⟩
   have h4:=yw_b h3
   have hx4:=(hx1.trans hx2).trans hx3
   clear h0 h1 h2 h3 hx1 hx2 hx3
   go_wp2_with fail
   refine (EH 0 w3).mono ?_
   rintro e w' ⟨rfl,rfl⟩
   go_wp2_with fail
   go_loopw [12,8,10] (fun kv yv mv wr=>∃(q : Nat) (Y : YA) (Y2 : RA) (m : lf),q <= l.length /\ kv = .int .i64 q /\ yv = .pointer (some ⟨Y.y,0,none⟩) /\ mv = .pointer (some ⟨Y2.y,0,none⟩) /\ lJ (10 + 1000 * q) m /\ YLen m /\ Ext w wr /\ own wr (yL Y m (ryL Y2 m [y9 w]))) (fun kv _ _ _=>l.length - (intOf kv).toNat)
   case atStart=>exact ⟨0,Y0,Y20,m0,by omega,rfl,rfl,rfl,HG.out.1,HG.out.2,hx4,h4⟩
   case round=>
    clear h4 hx4 HG
    obtain ⟨q,Y,Y2,m,hq,rfl,rfl,rfl,hgm,hlm,hxr,hown⟩:=hrel
    by_cases hlt : q < l.length
    ·obtain rfl:=HAO.out (by omega)
     obtain ⟨c0,c1,c2,c3,c4,c5,c6⟩:=(HAT.out q hlt).later 30 hown rfl
     have ok:=HV.out.2 _ (EV hlt)
     obtain ⟨hS7,hK3⟩:=HLX.out _ (EV hlt)
     obtain ⟨ko,kc,hkv,hkl⟩:=NK ok.keep
     rw [hkv] at c6
     generalize hx : l.getD q DC = x at *
     by_cases hcr : (x.kind.toList == [99,114,97,115,104]) = true
     ·have hk0 : yI w (.slice ko x.keep.length kc) x.keep:=by rw [<- hkv]; exact ok.keep
      have hkB : ∀w' L,own w' (L++[y9 w]) -> yI w' (.slice ko x.keep.length kc) x.keep:=fun w' L h=>hk0.later L.length h (by rw [List.getElem?_append_right (Nat.le_refl _),Nat.sub_self]; rfl)
      have hkc : x.keep.length <= kc:=by
       obtain ⟨_,_,_,_,he,h1,_⟩:=hk0
       simp only [Value.slice.injEq] at he
       omega
      have HKP:=zh (fun (R : List SL.HP) (w : World) (H : own w R)=>Ug x ko kc hK3 hkc R w H)
      have HKA:=zh (fun (kv : Value)=>JT (v:=kv) hkB)
      have HKA2:=zh (fun (kv : Value)=>show ∀w' L,own w' (L++(row 43 1 kv 5 (z8 x ko kc 5)::ryL Y2 m [y9 w])) -> CX w' kv (z8 x ko kc 5) (B5 x) from JT (v:=kv) (R:=ryL Y2 m [y9 w]) (fun w' L h=>hkB w' (L++(rshL Y2.bs Y2.A m.F++ryT Y2 m)) (by simpa only [zp] using h)))
      have HKA3:=zh (fun (kv : Value) (X : List SL.HP)=>QY (JT (v:=kv) hkB) X)
      have HCA:=zh (fun (kv : Value) R (hv : ∀w' L,own w' (L++R) -> CX w' kv (z8 x ko kc 5) (B5 x)) (w : World) (H : own w (yL Y m R))=>Qj (10 + 1000 * q) Y m hgm.ok (by omega) (fun k hk=>hlm.dev hgm.ok hk) kv _ _ R hv w H)
      have HCB:=zh (fun (kv : Value) R (hv : ∀w' L,own w' (L++R) -> CX w' kv (z8 x ko kc 5) (B5 x)) (w : World) (H : own w (ryL Y2 m R))=>OX (10 + 1000 * q) Y2 m hgm.ok (by omega) (fun k hk=>hlm.dev hgm.ok hk) kv _ _ R hv w H)
      have hcg:=fun h=>M2 hgm hlm (by omega) (B5 x) h
      have hcc : 0 <= (BZ m (B5 x)).1:=FM _ _
      generalize BZ m (B5 x) = S at *
      obtain ⟨oc,om⟩:=S
      unfold L9 at HCA
      unfold KR at HCB
      dsimp only at HCA HCB hcg hcc
      have HGM:=zh (And.intro (hgm.mono (show 10 + 1000 * q <= 10 + 1000 * (q + 1) by omega)) hlm)
      have HCG:=zh (fun h=>And.intro ((hcg h).1.mono (show 10 + 1000 * q <= 10 + 1000 * (q + 1) by omega)) (hcg h).2)
      clear hgm hlm hcg hkB hkc hk0 ok hkv hkl
      go_wp2_with fail
      refine (HKP.out _ _ hown).mono ?_
      rintro e w4 ⟨kvv,rfl,hx4,h4⟩
      have h5:=Av h4
      by_cases hoc : oc = 0
      ·have HC1:=zh (fun kv R hv w H=>(HCA.out kv R hv w H).mono fun e w' h=>(h.resolve_left fun h=>h.1 hoc).2)
       have HC2:=zh (fun kv R hv w H=>(HCB.out kv R hv w H).mono fun e w' h=>(h.resolve_left fun h=>h.1 hoc).2)
       have HOC:=zh hoc
       clear hoc hcc HCA HCB
       go_wp2_with fail
       refine (HC1.out kvv (row 43 1 kvv 5 (z8 x ko kc 5)::ryL Y2 m [y9 w]) (HKA2.out kvv) w4 h5).mono ?_
       rintro e w5 ⟨Y',rfl,hx5,h6⟩
       go_wp2_with fail
       refine (HC2.out kvv (yL Y' om (yL Y m (row 43 1 kvv 5 (z8 x ko kc 5)::[y9 w]))) (fun w' L h=>HKA3.out kvv (shL Y'.bs Y'.A om.F++(yT Y' om++(shL Y.bs Y.A m.F++yT Y m))) w' L (by simpa only [zp] using h)) w5 (Xb h6)).mono ?_
       rintro e w6 ⟨Y2',rfl,hx6,h7⟩
       have h8:=Wi h7
       go_wp2_with fail
       refine (EH 0 w6).mono ?_
       rintro e w' ⟨rfl,rfl⟩
       go_wp2_with fail
       go_roundw
       case rel=>exact ⟨q + 1,Y',Y2',om,by omega,by go_num,rfl,rfl,(HCG.out HOC.out).1,(HCG.out HOC.out).2,((hxr.trans hx4).trans hx5).trans hx6,h8⟩
       case measure=>simp [intOf]; omega
      ·have HC1:=zh (fun kv R hv w H=>(HCA.out kv R hv w H).mono fun e w' h=>(h.resolve_right fun h=>hoc h.1).2)
       have HC2:=zh (fun kv R hv w H=>(HCB.out kv R hv w H).mono fun e w' h=>(h.resolve_right fun h=>hoc h.1).2)
       have hop : 0 < oc:=by omega
       have HSM:=zh (fun (w : World)=>(MY oc oc w).mono fun e w' h=>show e = .returned (.bool true) /\ w = w' from ⟨by rw [h.1,zg hop]; simp,h.2⟩)
       rw [lx hop] at HC1
       clear hoc hcc HCA HCB HCG hop
       go_wp2_with fail
       refine (HC1.out kvv (row 43 1 kvv 5 (z8 x ko kc 5)::ryL Y2 m [y9 w]) (HKA2.out kvv) w4 h5).mono ?_
       rintro e w5 ⟨rfl,hx5,h6⟩
       go_wp2_with fail
       refine (HC2.out kvv (yL Y m (row 43 1 kvv 5 (z8 x ko kc 5)::[y9 w])) (fun w' L h=>HKA3.out kvv (shL Y.bs Y.A m.F++yT Y m) w' L (by simpa only [zp] using h)) w5 (cr_r h6)).mono ?_
       rintro e w6 ⟨rfl,hx6,h7⟩
       have h8:=Xp h7
       go_wp2_with fail
       refine (HSM.out w6).mono ?_
       rintro e w' ⟨rfl,rfl⟩
       go_wp2_with fail
       go_roundw
       case rel=>exact ⟨q + 1,Y,Y2,m,by omega,by go_num,rfl,rfl,HGM.out.1,HGM.out.2,((hxr.trans hx4).trans hx5).trans hx6,h8⟩
       case measure=>simp [intOf]; omega
     ·have HYA:=zh (Sa Y Y2 m (10 + 1000 * q) hgm (by omega) x ok.A ok.B hS7 ko x.keep.length kc [y9 w] HTR.out wr hown)
      have hg2:=Qi hgm (by omega) x ok.A ok.B hS7
      have hl2:=Tn hlm hgm (by omega) x hS7
      unfold AB at HYA
      generalize GS m x = M at *
      have HG2:=zh (And.intro (hg2.mono (show 10 + 1000 * q + 1000 <= 10 + 1000 * (q + 1) by omega)) hl2)
      clear hgm hlm hg2 hl2 ok hkv hkl hown
      go_wp2_with fail
      refine HYA.out.mono ?_
      rintro e w5 ⟨Y',Y2',hy,hy2,rfl,hx5,h5⟩
      rw [<- hy,<- hy2]
      clear hy hy2 c0 c1 c2 c3 c4 c5 c6
      have et : Int.tmod (q : Int) 6 = ((q % 6 : Nat) : Int):=by rw [Int.tmod_eq_emod_of_nonneg (by omega)]; omega
      have HAS:=zh (fun (w' : World) (h : own w' (yL Y' M (ryL Y2' M [y9 w])))=>Kc (10 + 1000 * (q + 1)) Y' Y2' M HG2.out.1.ok (by omega) _ w' h)
      by_cases hq6 : q % 6 = 0
      ·have t6 : (Int.tmod (q : Int) 6 == 0) = true:=by rw [et,hq6]; rfl
       have t7 : ((q : Int) % 6 == 0) = true:=by rw [beq_iff_eq]; omega
       have t8 : (q : Int) % 6 = 0:=by omega
       clear hq6 et
       go_wp2_with fail
       refine (HAS.out w5 h5).mono ?_
       rintro e w6 ⟨rfl,hx6,h6⟩
       go_wp2_with fail
       go_roundw
       case rel=>exact ⟨q + 1,Y',Y2',M,by omega,by go_num,rfl,rfl,HG2.out.1,HG2.out.2,(hxr.trans hx5).trans hx6,h6⟩
       case measure=>simp [intOf]; omega
      ·have t6 : (Int.tmod (q : Int) 6 == 0) = false:=by rw [et,zb]; omega
       have t7 : ((q : Int) % 6 == 0) = false:=by rw [zb]; omega
       have t8 : ¬(q : Int) % 6 = 0:=by omega
       clear hq6 et
       go_wp2_with fail
       go_roundw
       case rel=>exact ⟨q + 1,Y',Y2',M,by omega,by go_num,rfl,rfl,HG2.out.1,HG2.out.2,hxr.trans hx5,h5⟩
       case measure=>simp [intOf]; omega
    ·obtain rfl : q = l.length:=by omega
     have HAS:=zh (Kc (10 + 1000 * l.length) Y Y2 m hgm.ok (by omega) _ wr hown)
     clear hgm hlm hown
     go_wp2_with fail
     refine HAS.out.mono ?_
     rintro e w7 ⟨rfl,hx7,h7⟩
     go_wp2_with fail
     go_ret
     exact ⟨rfl,J3 30 h7 rfl (hxr.trans hx7)⟩
 ·rw [Bool.not_eq_true] at hL
  rw [hL]
  clear hL
  go_wp2_with fail
  go_ret
  exact ⟨rfl,J3 0 h1 rfl hx1⟩
end Go.Proofs.YtbpblokfiajpjabGreatDoor
namespace Go.Proofs.YtbpblokfiajpjabGreatDoor
open Go.ChangeShapes Go.WideShapes Go.ChangeAt Go.RowKit
theorem Vh : Rows.laid_math_bits_deBruijn64tab (H:=Unit) = .agg (Lib.deBruijn64tab.map fun (n : Nat)=>.lit (.int .u8 (n : Int))):=by kernel_rfl
theorem Uw {W : World} (h : laidMetH Tryz.prog [("math/bits.deBruijn64tab", Rows.laid_math_bits_deBruijn64tab)] W) : yR W := by
 intro r hr
 rw [MakeChecks.laidMetH_plain _ _ _ (by kernel_rfl)] at h
 obtain ⟨ps,⟨g,t,cs,fuel,p,q,hg,ht,hv,hd,_,_⟩,_,_⟩:=h
 obtain rfl := Option.some.inj ((show Tryz.prog.globalNamed "math/bits.deBruijn64tab" = some 0 by kernel_rfl).symm.trans hg)
 obtain rfl:=Option.some.inj ((show (Tryz.prog.globals[0]?).map (·.type) = some 291 by kernel_rfl).symm.trans ht)
 obtain ⟨xs,m,_,ex,_,hl,hel⟩:=DataW.trod_array Tryz.underlying291 hd
 have c5 : Tryz.prog.cellsOf 5 = 1:=by kernel_rfl
 have hE:=hel r hr
 rw [c5,Nat.mul_one,List.getElem?_eq_getElem (by omega)] at hE
 obtain ⟨z,e1,e2,_⟩:=DataW.trod_int Tryz.underlying5 hE
 have hlen : Lib.deBruijn64tab.length = 64:=by decide
 rw [Vh] at ex
 have e3 : (xs.map (·.1)) = Lib.deBruijn64tab.map fun (n : Nat)=>.lit (.int .u8 (n : Int)):=(DataW.agg.inj (Prod.mk.inj ex).1).symm
 have e4 : (xs.map (·.1))[r]? = (Lib.deBruijn64tab.map fun (n : Nat)=>(DataW.lit (.int .u8 (n : Int)) : DataW Unit))[r]?:=by rw [e3]
 rw [List.getElem?_map,List.getElem?_map,List.getElem?_eq_getElem (by omega : r < xs.length),List.getElem?_eq_getElem (by omega : r < Lib.deBruijn64tab.length),e2] at e4
 have hz : z = ((Lib.deBruijn64tab.getD r 0 : Nat) : Int):=by
  simp only [Option.map_some,Option.some.injEq,DataW.lit.injEq,Lit.int.injEq,true_and] at e4
  rw [e4,List.getD,List.getElem?_eq_getElem (by omega : r < Lib.deBruijn64tab.length)]; rfl
 rw [World.var?_cell hg hv r,<- hz]
 have : cs.toList[r]? = some (.int .u8 z):=by
  have h0 : ((cs.toList.drop r).take 1)[0]? = some (.int .u8 z):=by rw [e1]; rfl
  simpa using h0
 simpa using this
end Go.Proofs.YtbpblokfiajpjabGreatDoor
