/- Lemmas on which YardSays stands: the texts Yard18 Yard19 Yard15 YardP4 RYard14 RYard15 RYard17. No conditions. -/
import Derived.Test.YtbpblokfiajpjabGreatDoorPk8042b6c6d9
set_option linter.all false
set_option maxRecDepth 1000000
set_option maxHeartbeats 32000000
namespace Go.Proofs.YtbpblokfiajpjabGreatDoor
open Go.RowKit Go.SL Go.Crc
attribute [local go_sem ↓] Go.wp_at_zero Go.wp_at_succ
theorem Tz (N : Nat) (B : Nat -> Nat) (D : Nat -> DevM) (hD : ∀k,k < 5 -> (D k).Ok /\ (D k).writes <= N /\ (D k).pend.length <= N) (hD0 : ∀k,k < 5 -> 0 < (D k).fl.length) (hN : N < 900000) (tb : Nat) (top : DevM) (ht : top.Ok) (ht0 : 0 < top.fl.length) (v : Value) (R : List SL.HP) (hv : ∀w' L,own w' (L++R) -> Uq w' v B) (w : World) (H : own w (devL B D 5++(lm tb top::R))) :
  Calls Tryz.prog 27 #[v,.pointer (some ⟨tb,0,none⟩)] w (Nh (zw D top) (devL B D 5++(lm tb top::R)) w):=by
 obtain ⟨fb,foff,fcap,rfl,-⟩:=hv w (devL B D 5++[lm tb top]) (by simpa only [zp,List.singleton_append] using H)
 have HV:=zh (fun (w' : World) (L : List SL.HP) (k : Nat) (hk : k < 5) (h : own w' (L++R))=>show w'.cell? ⟨fb,foff + k,none⟩ = some (.pointer (some ⟨B k,0,none⟩)) from (by
  obtain ⟨b,o,c,he,hc⟩:=hv w' L h
  simp only [Value.slice.injEq,Option.some.injEq,Addr.mk.injEq,true_and,and_true] at he
  obtain ⟨⟨rfl,rfl⟩,rfl⟩:=he
  exact hc k hk))
 have HD:=zh (fun k (hk : k < 5)=>(hD k hk).1)
 have HD0:=zh hD0
 have HW:=zh (La hD)
 have HTS:=zh (AP ht (a:=0) (by omega) (by omega))
 have HT:=zh ht
 have HT0:=zh ht0
 generalize hX : devL B D 5++(lm tb top::R) = X at *
 have HX:=zh hX
 clear hX hv hD hD0 ht ht0
 have h1:=Ul (fun _=>(0,0,0)) H
 have hx1:=(zR w).alloc (.cells #[.pointer none,.pointer none,.pointer none,.pointer none,.pointer none] 111)
 go_enter Tryz.func27,Tryz.ntmps27
 go_upto_region 3 with (fail)
 go_wp2_with fail
 generalize w.heap.size = bs at *
 generalize w.alloc (.cells #[.pointer none,.pointer none,.pointer none,.pointer none,.pointer none] 111) = w1 at *
 have h1' : own w1 (lm tb top::(shL bs (fun _=>(0,0,0)) (fun _=>none)++X).eraseIdx 11):=by
  rw [<- HX.out] at h1 ⊢
  exact lu 11 h1 rfl
 refine (GF tb top HT.out _ w1 h1').mono ?_
 rintro e w2 ⟨tp,rfl,hx2,h2⟩
 have h3 : own w2 (lm tp top::(shL bs (fun _=>(0,0,0)) (fun _=>none)++X)):=by
  refine Dj (l:=lm tp top::(shL bs (fun _=>(0,0,0)) (fun _=>none)++X)) (P:=lm tb top) 12 ?_ (B1 h2)
  rw [<- HX.out]; rfl
 have h4:=lr (shL bs (fun _=>(0,0,0)) (fun _=>none)) h3
 have h5:=li h4 (.cells #[.pointer none,.pointer none,.pointer none,.pointer none,.pointer none,.pointer (some ⟨tp,0,none⟩),.pointer (some ⟨bs,0,none⟩),.int .i64 0,.int .i64 0,.int .i64 0,.int .i64 0,.int .i64 0,.slice none 0 0,.pointer none] 165)
 have h6:=Vu (dk:=⟨0,0,0,0,0⟩) D h5
 have hx6:=(hx1.trans hx2).alloc (.cells #[.pointer none,.pointer none,.pointer none,.pointer none,.pointer none,.pointer (some ⟨tp,0,none⟩),.pointer (some ⟨bs,0,none⟩),.int .i64 0,.int .i64 0,.int .i64 0,.int .i64 0,.int .i64 0,.slice none 0 0,.pointer none] 165)
 clear H h1 h1' h2 h3 h4 h5 hx1 hx2
 go_wp2_with fail
 generalize w2.heap.size = y at *
 generalize w2.alloc (.cells #[.pointer none,.pointer none,.pointer none,.pointer none,.pointer none,.pointer (some ⟨tp,0,none⟩),.pointer (some ⟨bs,0,none⟩),.int .i64 0,.int .i64 0,.int .i64 0,.int .i64 0,.int .i64 0,.slice none 0 0,.pointer none] 165) = w3 at *
 have hF0 : (fun _=>none : ShM) = opF D 0:=funext fun k=>by unfold opF; rw [zq (by omega)]
 rw [hF0] at h6
 clear hF0
 go_loopw [26] (fun kv wr=>∃(q : Nat) (A : Nat -> Nat×Nat×Nat),q <= 5 /\ kv = .int .i64 q /\ Ext w wr /\ own wr (nL y bs A (opF D q) D q (.pointer (some ⟨tp,0,none⟩)) ⟨0,0,0,0,0⟩ (.slice none 0 0) (lm tp top::X))) (fun kv _=>6 - (intOf kv).toNat)
 case atStart=>exact ⟨0,_,by omega,rfl,hx6,h6⟩
 case round=>
  clear h6 hx6
  obtain ⟨q,A,hq,rfl,hxr,hown⟩:=hrel
  by_cases hlt : q < 5
  ·have g1 : (q : Int) < 5:=by omega
   have g2 : (0 : Int) <= (q : Int):=by omega
   have cf:=HV.out wr (shL bs A (opF D q)++(nT y bs A (opF D q) D q (.pointer (some ⟨tp,0,none⟩)) ⟨0,0,0,0,0⟩ (.slice none 0 0)++(lm tp top::(devL B D 5++[lm tb top])))) q hlt (by rw [<- HX.out] at hown; simpa only [zp,List.cons_append,List.nil_append] using hown)
   have hop:=IV (D q)
   have hno:=Kp (D q)
   have HOP:=zh (fun (bd : Nat) (R : List SL.HP) (w : World) (H : own w (lm bd (D q)::R))=>Vb bd (D q) (HD.out q hlt) (HD0.out q hlt) R w H)
   have hoy:=Pt (D:=D) (q:=q)
   have hon:=TU (D:=D) (q:=q)
   generalize Aj (D q) = OR at *
   obtain ⟨oc,oi⟩:=OR
   dsimp only at hop hno hoy hon
   have HOY:=zh hoy
   have HON:=zh hon
   have HOD:=zh hop
   clear hoy hon hop
   go_upto_region 9 with (fail)
   have hz:=lj hown
   have hxz:=hxr.drew
   refine wp_region_held_drew (S:=fun _=>True) (by kernel_rfl) trivial (fun hHeld=>?_)
   refine tk 0 ?_
   refine tk 1 ?_
   refine tk 2 ?_
   try simp only [Act.put,tA,tB,tC,tD,tE,tF]
   refine tk 4 ?_
   refine tk 5 ?_
   try simp only [Act.put,tA,tB,tC,tD,tE,tF]
   refine rd 3 rfl fun K hK=>?_
   go_simp
   go_at_call 94
   have hz':=hz
   rw [<- HX.out] at hz'
   refine (GF (B q) (D q) (HD.out q hlt) _ _ (W5 hlt hz')).mono ?_
   rintro e w4 ⟨c,rfl,hx4,h4'⟩
   have h4:=n_in hlt h4'
   rw [HX.out] at h4
   go_simp
   refine hK.out _ _ trivial (fun _=>?_)
   clear hK K hz' h4'
   try simp only [Act.put,tA,tB,tC,tD,tE,tF]
   refine tk 6 ?_
   try simp only [Act.put,tA,tB,tC,tD,tE,tF]
   have hn4:=EU h4
   have cy:=Mq hlt hn4
   have fy:=(Bz hn4).2 q
   have h5:=Vt (D:=D) (F:=opF D q) (q:=q) hlt (By D q) h4
   have hx5:=(hxz.trans hx4).setCell (⟨y,q,none⟩ : Addr) (.pointer (some ⟨c,0,none⟩))
   refine rd 7 rfl fun K hK=>?_
   go_simp
   refine hK.out _ _ trivial (fun _=>?_)
   clear hK K cy fy
   try simp only [Act.put,tA,tB,tC,tD,tE,tF]
   refine wpAnyH_done (by kernel_rfl) ?_ _
   generalize w4.setCell ⟨y,q,none⟩ (.pointer (some ⟨c,0,none⟩)) = w5 at *
   have hA : ((stA A q (0,c,0)) q).2.1 = c:=by unfold stA; rw [zt rfl]
   generalize stA A q (0,c,0) = A2 at *
   clear hown hz hxz hx4 h4 hn4 hxr cf hHeld
   have HS:=zh (fun (w' : World) (v : Value) (F : ShM) (dk : lI) (t : Value) (R' : List SL.HP) (h : own w' (nL y bs A2 F D (q + 1) t dk v R'))=>show w'.cell? ⟨y,6,none⟩ = some (.pointer (some ⟨bs,0,none⟩)) /\ w'.cell? ⟨y,q,none⟩ = some (.pointer (some ⟨c,0,none⟩)) from ⟨n_bs h,Kx hlt (Nat.lt_succ_self q) hA h⟩)
   have hT5:=fun (w' : World) (h : own w' (nL y bs A2 (opF D q) D (q + 1) (.pointer (some ⟨tp,0,none⟩)) ⟨0,0,0,0,0⟩ (.slice none 0 0) (lm tp top::X)))=>Wh (k:=q) hlt (Nat.lt_succ_self q) (By D q) h
   have hB5:=fun (w' : World) h=>WR (y:=y) (bs:=bs) (A:=A2) (F:=opF D q) (D:=D) (q:=q + 1) (t:=.pointer (some ⟨tp,0,none⟩)) (dk:=⟨0,0,0,0,0⟩) (v:=.slice none 0 0) (R:=lm tp top::X) (w:=w') (k:=q) hlt (Nat.lt_succ_self q) (By D q) h
   have hI5:=fun (w' : World) (i : ImgM) (bi bh : Nat) h=>Xa (y:=y) (bs:=bs) (A:=A2) (F:=opF D q) (D:=D) (q:=q + 1) (t:=.pointer (some ⟨tp,0,none⟩)) (dk:=⟨0,0,0,0,0⟩) (v:=.slice none 0 0) (R:=lm tp top::X) (w:=w') (k:=q) (i:=i) (bi:=bi) (bh:=bh) hlt (By D q) h
   have HH5:=zh (fun (w' : World) (h : own w' ((nL y bs A2 (opF D q) D (q + 1) (.pointer (some ⟨tp,0,none⟩)) ⟨0,0,0,0,0⟩ (.slice none 0 0) (lm tp top::X)).set (7 + q) emp))=>show w'.cell? ⟨y,6,none⟩ = some (.pointer (some ⟨bs,0,none⟩)) /\ w'.cell? ⟨y,q,none⟩ = some (.pointer (some ⟨c,0,none⟩)) from ⟨(Nk hlt h).1 6,by rw [(Nk hlt h).1,Xd _ _ _ _ _ _ hlt]; unfold Br; rw [zt (Nat.lt_succ_self q),hA]⟩)
   have HS2:=zh (fun (w' : World) (F : ShM) (bi bh : Nat) (h : own w' (nL y bs (setA A2 q (bi,c,bh)) F D (q + 1) (.pointer (some ⟨tp,0,none⟩)) ⟨0,0,0,0,0⟩ (.slice none 0 0) (lm tp top::X)))=>show w'.cell? ⟨y,6,none⟩ = some (.pointer (some ⟨bs,0,none⟩)) /\ w'.cell? ⟨y,q,none⟩ = some (.pointer (some ⟨c,0,none⟩)) from ⟨n_bs h,Kx hlt (Nat.lt_succ_self q) (by rw [DE]) h⟩)
   rw [hA] at hT5 hB5 hI5
   have HT5:=zh hT5
   have HB5:=zh hB5
   have HI5:=zh hI5
   clear hT5 hB5 hI5 hA
   by_cases hoc : oc = 0
   ·have hF:=HOY.out hoc
    have HF:=zh hF
    have HO2:=zh (fun (bd : Nat) (R : List SL.HP) (w : World) (H : own w (lm bd (D q)::R))=>(HOP.out bd R w H).mono fun e w' h=>(h.resolve_left fun h=>h.1 hoc).2)
    dsimp only at HO2
    clear hF hoc hno HOY HON HOP
    go_upto_region 10 with (fail)
    have hz:=lj h5
    have hxz:=hx5.drew
    refine wp_region_held_drew (S:=fun w'=>w'.cell? ⟨y,6,none⟩ = some (.pointer (some ⟨bs,0,none⟩)) /\ w'.cell? ⟨y,q,none⟩ = some (.pointer (some ⟨c,0,none⟩))) (by kernel_rfl) (HS.out _ _ _ _ _ _ hz) (fun hHeld=>?_)
    refine tk 0 ?_
    refine tk 1 ?_
    refine tk 2 ?_
    refine tk 3 ?_
    refine tk 4 ?_
    refine tk 5 ?_
    refine tk 6 ?_
    refine tk 7 ?_
    refine tk 8 ?_
    refine tk 9 ?_
    refine tk 10 ?_
    try simp only [Act.put,tA,tB,tC,tD,tE,tF]
    refine tk 15 ?_
    try simp only [Act.put,tA,tB,tC,tD,tE,tF]
    refine rd 11 rfl fun K hK=>?_
    go_simp
    go_at_call 95
    refine (HO2.out _ _ _ (HT5.out _ hz)).mono ?_
    rintro e w6 ⟨bi,bh,rfl,hx6,h6⟩
    have z6 : w6.cell? ⟨y,6,none⟩ = some (.pointer (some ⟨bs,0,none⟩)) /\ w6.cell? ⟨y,q,none⟩ = some (.pointer (some ⟨c,0,none⟩)):=HH5.out _ (zl [_,_] h6)
    have hxx:=(hxz.trans hx6).setCell (⟨bs,q,none⟩ : Addr) (.pointer (some ⟨bi,0,none⟩))
    have cs:=U9 hlt (By D q) (zl [_,_] h6)
    have h7:=HI5.out w6 oi bi bh h6
    go_simp
    refine hK.out _ _ z6 (fun _=>?_)
    clear hK K
    try simp only [Act.put,tA,tB,tC,tD,tE,tF]
    refine tk 12 ?_
    refine tk 13 ?_
    refine tk 14 ?_
    try simp only [Act.put,tA,tB,tC,tD,tE,tF]
    refine tk 16 ?_
    try simp only [Act.put,tA,tB,tC,tD,tE,tF]
    obtain ⟨cs1,cs2⟩:=cs
    refine rd 17 rfl fun K hK=>?_
    go_simp
    refine hK.out _ _ (HS2.out _ _ _ _ h7) (fun _=>?_)
    clear hK K
    try simp only [Act.put,tA,tB,tC,tD,tE,tF]
    refine wpAnyH_done (by kernel_rfl) ?_ _
    go_wp2_with fail
    go_roundw
    case rel=>exact ⟨q + 1,_,by omega,by go_num,hxx,by rw [HF.out]; exact h7⟩
    case measure=>simp [intOf]; omega
   ·have hF:=HON.out hoc
    have HF:=zh hF
    have HO2:=zh (fun (bd : Nat) (R : List SL.HP) (w : World) (H : own w (lm bd (D q)::R))=>(HOP.out bd R w H).mono fun e w' h=>(h.resolve_right fun h=>hoc h.1).2)
    have hop : 0 < oc:=by omega
    dsimp only at HO2
    rw [HOD.out,lx hop] at HO2
    clear hF hoc hno HOY HON HOP hop
    go_upto_region 10 with (fail)
    have hz:=lj h5
    have hxz:=hx5.drew
    refine wp_region_held_drew (S:=fun w'=>w'.cell? ⟨y,6,none⟩ = some (.pointer (some ⟨bs,0,none⟩)) /\ w'.cell? ⟨y,q,none⟩ = some (.pointer (some ⟨c,0,none⟩))) (by kernel_rfl) (HS.out _ _ _ _ _ _ hz) (fun hHeld=>?_)
    refine tk 0 ?_
    refine tk 1 ?_
    refine tk 2 ?_
    refine tk 3 ?_
    refine tk 4 ?_
    refine tk 5 ?_
    refine tk 6 ?_
    refine tk 7 ?_
    refine tk 8 ?_
    refine tk 9 ?_
    refine tk 10 ?_
    try simp only [Act.put,tA,tB,tC,tD,tE,tF]
    refine tk 15 ?_
    try simp only [Act.put,tA,tB,tC,tD,tE,tF]
    refine rd 11 rfl fun K hK=>?_
    go_simp
    go_at_call 95
    refine (HO2.out _ _ _ (HT5.out _ hz)).mono ?_
    rintro e w6 ⟨rfl,hx6,h6'⟩
    have h6:=HB5.out _ h6'
    have z6:=HS.out _ _ _ _ _ _ h6
    have hxx:=(hxz.trans hx6).setCell (⟨bs,q,none⟩ : Addr) (.pointer none)
    have cs1:=oA (R:=nT y bs A2 (opF D q) D (q + 1) (.pointer (some ⟨tp,0,none⟩)) ⟨0,0,0,0,0⟩ (.slice none 0 0)++(lm tp top::X)) h6 hlt
    rw [Dl (By D q)] at cs1
    have cs2:=L7 (R:=nT y bs A2 (opF D q) D (q + 1) (.pointer (some ⟨tp,0,none⟩)) ⟨0,0,0,0,0⟩ (.slice none 0 0)++(lm tp top::X)) h6 q
    have h7:=Q9 (R:=nT y bs A2 (opF D q) D (q + 1) (.pointer (some ⟨tp,0,none⟩)) ⟨0,0,0,0,0⟩ (.slice none 0 0)++(lm tp top::X)) hlt (By D q) h6
    go_simp
    refine hK.out _ _ z6 (fun _=>?_)
    clear hK K
    try simp only [Act.put,tA,tB,tC,tD,tE,tF]
    refine tk 12 ?_
    refine tk 13 ?_
    refine tk 14 ?_
    try simp only [Act.put,tA,tB,tC,tD,tE,tF]
    refine tk 16 ?_
    try simp only [Act.put,tA,tB,tC,tD,tE,tF]
    refine rd 17 rfl fun K hK=>?_
    go_simp
    refine hK.out _ _ (HS.out _ _ _ _ _ _ h7) (fun _=>?_)
    clear hK K
    try simp only [Act.put,tA,tB,tC,tD,tE,tF]
    refine wpAnyH_done (by kernel_rfl) ?_ _
    go_wp2_with fail
    go_roundw
    case rel=>exact ⟨q + 1,_,by omega,by go_num,hxx,by rw [HF.out]; exact h7⟩
    case measure=>simp [intOf]; omega
  ·obtain rfl : q = 5:=by omega
   have ct : wr.cell? ⟨y,5,none⟩ = some (.pointer (some ⟨tp,0,none⟩)):=(Bz hown).1 5
   have hn:=(HT.out).n
   have ht0:=HT0.out
   have hrd:=Fk tp top HT.out 0 _ wr (lu 12 hown rfl)
   rw [zq (by omega)] at hrd
   have HRD:=zh hrd
   have hdk:=fun (R : List SL.HP) (w : World) (H : own w R)=>Ns (top.seen 0) (by have:=HTS.out; omega) R w H
   have hop : zw D top = zw D top:=rfl
   have hE : zw D top = if (ou (top.seen 0)).2≠0 then ((ou (top.seen 0)).2,yk D top)
    else if (lt (opF D 5) (dkOf (top.seen 0)).root).2≠0 then ((lt (opF D 5) (dkOf (top.seen 0)).root).2,yk D top)
    else (0,Ei (yk D top)):=rfl
   have hE0 : yk D top = ⟨opF D 5,D,top,dkOf (top.seen 0),(lt (opF D 5) (dkOf (top.seen 0)).root).1,none⟩:=rfl
   have hdf : 0 <= (ou (top.seen 0)).2:=Em _
   have hdr : (ou (top.seen 0)).2 = 0 -> 0 <= (ou (top.seen 0)).1.1:=fun h=>by
    have h1:=Gz (Lc h)
    unfold yx dkOf at h1
    dsimp only at h1
    omega
   unfold dkOf at hE hE0
   generalize zw D top = OS at *
   generalize yk D top = O0 at *
   generalize hs0 : top.seen 0 = s0 at *
   generalize ou s0 = DK at *
   obtain ⟨⟨r,k,f,a,b⟩,dc⟩:=DK
   dsimp only at hE hE0 hdk hdf hdr
   have HDR:=zh hdr
   clear hdr
   unfold o8 at hdk
   have HDK:=zh hdk
   have HE:=zh hE
   have HE0:=zh hE0
   clear hdk hE hE0 hrd hop hn ht0
   go_wp2_with fail
   refine HRD.out.mono ?_
   rintro e w' ⟨rfl,rfl⟩
   go_wp2_with fail
   refine (HDK.out _ wr hown).mono ?_
   rintro e w2 ⟨rfl,hx2,h2⟩
   have cy:=Bz h2
   obtain ⟨cy1,cy2⟩:=cy
   have e7 : w2.cell? ⟨y,7,none⟩ = some (.int .i64 0):=cy1 7
   have e8 : w2.cell? ⟨y,8,none⟩ = some (.int .i64 0):=cy1 8
   have e9 : w2.cell? ⟨y,9,none⟩ = some (.int .i64 0):=cy1 9
   have e10 : w2.cell? ⟨y,10,none⟩ = some (.int .i64 0):=cy1 10
   have e11 : w2.cell? ⟨y,11,none⟩ = some (.int .i64 0):=cy1 11
   have h3:=Ws ⟨r,k,f,a,b⟩ h2
   dsimp only at h3
   have hx3:=(((((hxr.trans hx2).setCell (⟨y,7,none⟩ : Addr) (.int .i64 r)).setCell (⟨y,8,none⟩ : Addr) (.int .i64 k)).setCell (⟨y,9,none⟩ : Addr) (.int .i64 f)).setCell (⟨y,10,none⟩ : Addr) (.int .i64 a)).setCell (⟨y,11,none⟩ : Addr) (.int .i64 b)
   clear ct cy1 hown hxr hx2 h2
   by_cases hdc : dc = 0
   ·subst hdc
    rw [oa]
    go_upto_region 18 with (fail)
    clear e7 e8 e9 e10 e11 cy2
    generalize ((((w2.setCell ⟨y,7,none⟩ (.int .i64 r)).setCell ⟨y,8,none⟩ (.int .i64 k)).setCell ⟨y,9,none⟩ (.int .i64 f)).setCell ⟨y,10,none⟩ (.int .i64 a)).setCell ⟨y,11,none⟩ (.int .i64 b) = w3 at *
    have hwk:=fun (R : List SL.HP) (w : World) (H : own w (shL bs A (opF D 5)++R))=>CP bs A (opF D 5) (HW.out.sh hN) r R w H
    have hrt : (lt (opF D 5) r).2 = 0 -> ly (opF D 5) r:=fun h=>Lr (HDR.out (by first | trivial | rfl)) h
    have hwc : 0 <= (lt (opF D 5) r).2:=zv
    unfold zO at hwk
    have HE2:=HE.out
    rw [zq (by decide)] at HE2
    have HE0':=HE0.out
    generalize lt (opF D 5) r = WK at *
    obtain ⟨wl,wc⟩:=WK
    dsimp only at hwk hwc hrt HE2 HE0'
    have HWK:=zh hwk
    have HRT:=zh hrt
    have HEE:=zh HE2
    have HE00:=zh HE0'
    clear hwk hrt HE2 HE0' HE HE0 HDK HRD
    have hz:=lj h3
    have hxz:=hx3.drew
    have HS:=zh (fun (w' : World) (v : Value) (R' : List SL.HP) (h : own w' (nL y bs A (opF D 5) D 5 (.pointer (some ⟨tp,0,none⟩)) ⟨r,k,f,a,b⟩ v R'))=>show w'.cell? ⟨y,6,none⟩ = some (.pointer (some ⟨bs,0,none⟩)) /\ w'.cell? ⟨y,7,none⟩ = some (.int .i64 r) from ⟨n_bs h,(Bz h).1 7⟩)
    refine wp_region_held_drew (S:=fun w'=>w'.cell? ⟨y,6,none⟩ = some (.pointer (some ⟨bs,0,none⟩)) /\ w'.cell? ⟨y,7,none⟩ = some (.int .i64 r)) (by kernel_rfl) (HS.out _ _ _ hz) (fun hHeld=>?_)
    refine tk 0 ?_
    refine tk 1 ?_
    refine tk 2 ?_
    refine tk 3 ?_
    refine tk 4 ?_
    refine tk 5 ?_
    refine tk 6 ?_
    refine tk 7 ?_
    refine tk 8 ?_
    refine tk 9 ?_
    try simp only [Act.put,tA,tB,tC,tD,tE,tF]
    refine rd 10 rfl fun K hK=>?_
    go_simp
    go_at_call 69
    refine (HWK.out _ _ hz).mono ?_
    rintro e w6 ⟨wv,rfl,hx6,h6'⟩
    have h6:=EU h6'
    go_simp
    refine hK.out _ _ (HS.out _ _ _ h6) (fun _=>?_)
    clear hK K
    try simp only [Act.put,tA,tB,tC,tD,tE,tF]
    refine tk 11 ?_
    refine tk 12 ?_
    refine tk 13 ?_
    refine tk 14 ?_
    refine tk 15 ?_
    try simp only [Act.put,tA,tB,tC,tD,tE,tF]
    have cl : w6.cell? ⟨y,12,none⟩ = some (.slice none 0 0):=(Bz h6).1 12
    have fl:=(Bz h6).2 12
    have h7:=lg (i:=12) (v:=wv) 6 h6 rfl
    have h8 : own (w6.setCell ⟨y,12,none⟩ wv) (nL y bs A (opF D 5) D 5 (.pointer (some ⟨tp,0,none⟩)) ⟨r,k,f,a,b⟩ wv (row 3 1 wv wl.length (lo wl)::lm tp top::X)):=h7
    have hx8:=(hxz.trans hx6).setCell (⟨y,12,none⟩ : Addr) wv
    obtain ⟨vo,vb,vof,vcap,rfl,-,-,-,-⟩:=(l9 0 h6' rfl).form
    refine rd 16 rfl fun K hK=>?_
    go_simp
    refine hK.out _ _ (HS.out _ _ _ h8) (fun _=>?_)
    clear hK K cl fl
    try simp only [Act.put,tA,tB,tC,tD,tE,tF]
    refine tk 17 ?_
    try simp only [Act.put,tA,tB,tC,tD,tE,tF]
    refine wpAnyH_done (by kernel_rfl) ?_ _
    generalize w6.setCell ⟨y,12,none⟩ (.slice vo wl.length vcap) = w8 at *
    clear h3 hz h6 h6' h7 hx3 hxz hx6 hHeld
    by_cases hwz : wc = 0
    ·subst hwz
     rw [oa]
     have hEE:=HEE.out
     rw [zq (by decide)] at hEE
     have h9 : own w8 (yL ⟨y,bs,tp,A,.slice vo wl.length vcap,0,0,0,undef⟩ O0 X):=by
      rw [HE00.out]
      exact S0 (EU (R:=row 3 1 (.slice vo wl.length vcap) wl.length (lo wl)::X) (lu 13 h8 rfl))
     have hag:=fun (R' : List SL.HP) (w' : World) (h : own w' (yL ⟨y,bs,tp,A,.slice vo wl.length vcap,0,0,0,undef⟩ O0 R'))=>So N ⟨y,bs,tp,A,.slice vo wl.length vcap,0,0,0,undef⟩ O0 (by rw [HE00.out]; exact HW.out) hN (by rw [HE00.out]; exact HRT.out rfl) R' w' h
     have HAG:=zh hag
     have HES:=zh hEE
     clear hag hEE h8
     go_wp2_with fail
     refine (HAG.out _ w8 h9).mono ?_
     rintro e w9 ⟨Y',hy,rfl,hx9,h9'⟩
     go_wp2_with fail
     go_ret2
     rw [HES.out]
     exact .inr ⟨rfl,Y',by rw [hy]; rfl,hx8.trans hx9,h9'⟩
    ·rw [lx (e:=wc) (by omega)]
     go_wp2_with fail
     go_ret2
     have hEE:=HEE.out
     rw [zt hwz] at hEE
     rw [hEE]
     exact .inl ⟨hwz,by rw [lx (e:=wc) (by omega)]; rfl,hx8,zl (shL bs A (opF D 5)++(nT y bs A (opF D 5) D 5 (.pointer (some ⟨tp,0,none⟩)) ⟨r,k,f,a,b⟩ (.slice vo wl.length vcap)++[row 3 1 (.slice vo wl.length vcap) wl.length (lo wl),lm tp top])) (by simpa only [zp,List.cons_append,List.nil_append] using h8)⟩
   ·rw [lx (e:=dc) (by omega)]
    go_wp2_with fail
    go_ret2
    have hEE:=HE.out
    rw [zt hdc] at hEE
    rw [hEE]
    exact .inl ⟨hdc,by rw [lx (e:=dc) (by omega)]; rfl,hx3,zl (shL bs A (opF D 5)++(nT y bs A (opF D 5) D 5 (.pointer (some ⟨tp,0,none⟩)) ⟨r,k,f,a,b⟩ (.slice none 0 0)++[lm tp top])) (by simpa only [zp,List.cons_append,List.nil_append] using h3)⟩
def CX (w : World) (v : Value) (vs : List Value) (ks : List (List Bool)) : Prop:=
 SlAt v ks.length (fun b off i=>w.cell? ⟨b,off + i,none⟩ = some (vs.getD i undef)) /\ ∀i,i < ks.length -> yI w (vs.getD i undef) (ks.getD i [])
def lY (m : lf) (ks : List (List Bool)) (k : Nat) : DevM:=(devOf m k).crash (ks.getD k [])
def BZ (m : lf) (ks : List (List Bool)) : Int×lf:=zw (lY m ks) (m.top.crash [])
theorem Fy (w : World) : yI w (.slice none 0 0) []:=⟨none,0,0,0,rfl,Nat.le_refl _,by decide,fun h=>absurd h (by simp),fun i h=>absurd h (by simp)⟩
theorem Ux {w : World} {L : List HP} (k : Nat) {v : Value} {B : Nat -> Nat} (H : own w L) (hk : L[k]? = some (row 53 1 v 5 (ptrs B 5))) : Uq w v B:=by
 obtain ⟨ao,g,cap,rfl,h1,h2,h3,-,-,h6,-⟩:=lk k H hk
 obtain rfl:=h3 (by decide)
 refine ⟨g,0,cap,rfl,fun i hi=>?_⟩
 rw [Nat.zero_add]
 refine h6 i _ ?_
 unfold ptrs
 rw [List.getElem?_map,List.getElem?_range hi]
 rfl
theorem OI {Y : YA} {m : lf} {k : Nat} (hk : k < 5) {vi : Value} {ki : List Bool} {R : List SL.HP} (h : ∀w' L,own w' (L++R) -> yI w' vi ki) (Z : List SL.HP) : ∀w' L,own w' (L++B3 Y m (Z++R) k) -> yI w' vi ki:=fun w' L H=>by
 rw [Ih Y m _ hk] at H
 exact h w' (L++(B3 Y m [] k++Z)) (by simpa only [zp] using H)
theorem FM (D : Nat -> DevM) (top : DevM) : 0 <= (zw D top).1:=by
 unfold zw
 split
 ·exact Em _
 ·split
  ·exact zv
  ·exact Int.le_refl 0
def L9 (Y : YA) (m : lf) (S : Int×lf) (R : List SL.HP) (w : World) (e : Ending) (w' : World) : Prop:=
 (S.1≠0 /\ e = .returned (.tuple #[.pointer none,errV S.1]) /\ Ext w w' /\ own w' (yL Y m R)) \/
 (S.1 = 0 /\ ∃Y' : YA,e = .returned (.tuple #[.pointer (some ⟨Y'.y,0,none⟩),.nilIface]) /\ Ext w w' /\ own w' (yL Y' S.2 (yL Y m R)))
theorem Qj (N : Nat) (Y : YA) (m : lf) (hm : YOk N m) (hN : N < 900000) (h0 : ∀k,k < 5 -> 0 < (devOf m k).fl.length) (v : Value) (vs : List Value) (ks : List (List Bool)) (R : List SL.HP) (hv : ∀w' L,own w' (L++R) -> CX w' v vs ks) (w : World) (H : own w (yL Y m R)) :
  Calls Tryz.prog 34 #[.pointer (some ⟨Y.y,0,none⟩),v] w (L9 Y m (BZ m ks) R w):=by
 obtain ⟨ao,kb,koff,kcap,rfl,kc1,kc2,kc3,-⟩:=(hv w (shL Y.bs Y.A m.F++yT Y m) (by simpa only [zp] using H)).1
 have hb:=Av (lv 53 1 H)
 have d0:=BH H (k:=0) (by decide)
 have d1:=BH H (k:=1) (by decide)
 have d2:=BH H (k:=2) (by decide)
 have d3:=BH H (k:=3) (by decide)
 have d4:=BH H (k:=4) (by decide)
 have HIX:=zh (fun (k : Nat) (hk : k < 5) (w : World)=>KC Y hk w)
 unfold I4 at HIX
 have HOK:=zh (fun (k : Nat) (hk : k < 5)=>Ax hm hk)
 have HTP:=zh hm.tp
 have HV:=zh hv
 have HKC:=zh kc3
 have HCO:=zh (fun (B : Nat -> Nat) (tb : Nat) (v : Value) (R : List SL.HP) hv (w : World) (H : own w (devL B (lY m ks) 5++(lm tb (m.top.crash [])::R)))=>Tz N B (lY m ks) (fun k hk=>⟨DevM.crash_ok (Ax hm hk).1 _,(Ax hm hk).2.1,Nat.zero_le _⟩) (fun k hk=>by show 0 < ((devOf m k).crash _).fl.length; simp only [DevM.crash,lK]; exact h0 k hk) hN tb (m.top.crash []) (DevM.crash_ok hm.tp.1 []) (by simp only [DevM.crash,lK]; exact hm.tp.2.2.2) v R hv w H)
 generalize hYC : BZ m ks = YC
 have HYC:=zh hYC
 clear H hm hv kc3 hYC
 go_enter Tryz.func34,Tryz.ntmps34
 go_wp2_with fail
 go_loopw [14,6] (fun iv v wr=>∃(q : Nat) (B : Nat -> Nat),q <= 5 /\ iv = .int .i64 q /\ Ext w wr /\ own wr (yL Y m (row 53 1 v q (ptrs B q)::(devL B (lY m ks) q++R)))) (fun iv _ _=>6 - (intOf iv).toNat)
 case atStart=>exact ⟨0,fun _=>0,by omega,rfl,zR w,hb⟩
 case round=>
  clear hb d0 d1 d2 d3 d4
  obtain ⟨q,B,hq,rfl,hxr,hown⟩:=hrel
  by_cases hlt : q < 5
  ·have g1 : (q : Int) < 5:=by omega
   have g2 : (0 : Int) <= (q : Int):=by omega
   have hix:=HIX.out q hlt wr
   obtain ⟨rao,g,cap,rfl,r1,r2,r3,-,-,-,-⟩:=lk 15 hown rfl
   have HCR:=zh (fun vi (hvi : ∀w' L,own w' (L++R) -> yI w' vi (ks.getD q []))=>(LC (Y.A q).2.1 (devOf m q) (HOK.out q hlt).1 vi (ks.getD q []) _ wr (OI hlt hvi (row 53 1 (.slice rao q cap) q (ptrs B q)::devL B (lY m ks) q)) (Gu hlt hown)))
   by_cases hk : q < ks.length
   ·have hk2 : (q : Int) < (ks.length : Int):=by omega
    obtain rfl:=HKC.out (by omega)
    have hca : wr.cell? ⟨kb,koff + q,none⟩ = some (vs.getD q undef):=by
     obtain ⟨ao',b',o',c',he,-,-,hh,hc⟩:=(HV.out wr (shL Y.bs Y.A m.F++(yT Y m++(row 53 1 (.slice rao q cap) q (ptrs B q)::devL B (lY m ks) q))) (by simpa only [zp,List.cons_append] using hown)).1
     simp only [Value.slice.injEq] at he
     have h2:=hh (by omega)
     rw [<- he.1] at h2
     simp only [Option.some.injEq,Addr.mk.injEq,and_true] at h2
     obtain ⟨rfl,rfl⟩:=h2
     exact hc q hk
    have HC2:=zh (HCR.out (vs.getD q undef) (fun w' L h=>(HV.out w' L h).2 q hk))
    have hdq : lY m ks q = (devOf m q).crash (ks.getD q []):=rfl
    generalize (devOf m q).crash (ks.getD q []) = dq at hdq HC2
    have HDQ:=zh hdq
    clear HCR hdq
    go_wp2_with fail
    refine HC2.out.mono ?_
    rintro e w2 ⟨c,rfl,hx2,h2⟩
    have h3:=GM hlt (Fj hlt h2)
    have h4:=lu 16 h3 rfl
    have ha:=li h4 (.cells #[.pointer (some ⟨c,0,none⟩)] 53)
    go_wp2_with (first | (at_builtin; refine lD rfl _ _ 62 rfl 1 53 Tryz.underlying62 J9 rfl (by decide) rfl ha rfl (some ⟨_,0,none⟩) 1 1 [.pointer (some ⟨c,0,none⟩)] rfl rfl (ot _ [.pointer (some ⟨c,0,none⟩)] _) (fun h=>by cases h) (Lo _) (by simp only [maxLen]; omega) (by omega) ?_))
    intro v' w7 h7 hx7
    rw [<- HDQ.out] at h7
    have h8:=Av (Y:=Y) (m:=m) (R:=lm c (lY m ks q)::(devL B (lY m ks) q++R)) (le h7)
    have hx8:=((hxr.trans hx2).alloc (.cells #[.pointer (some ⟨c,0,none⟩)] 53)).trans hx7
    go_wp2_with fail
    go_roundw
    case rel=>exact ⟨q + 1,stN B q c,by omega,by go_num,hx8,by rw [K9,JP]; exact h8⟩
    case measure=>simp [intOf]; omega
   ·have hk2 : ¬(q : Int) < (ks.length : Int):=by omega
    have hkn : ks.getD q [] = []:=by rw [List.getD,List.getElem?_eq_none (by omega)]; rfl
    have HC2:=zh (HCR.out (.slice none 0 0) (fun w' L h=>by rw [hkn]; exact Fy w'))
    have hdq : lY m ks q = (devOf m q).crash (ks.getD q []):=rfl
    generalize (devOf m q).crash (ks.getD q []) = dq at hdq HC2
    have HDQ:=zh hdq
    clear HCR hkn hdq
    go_wp2_with fail
    refine HC2.out.mono ?_
    rintro e w2 ⟨c,rfl,hx2,h2⟩
    have h3:=GM hlt (Fj hlt h2)
    have h4:=lu 16 h3 rfl
    have ha:=li h4 (.cells #[.pointer (some ⟨c,0,none⟩)] 53)
    go_wp2_with (first | (at_builtin; refine lD rfl _ _ 62 rfl 1 53 Tryz.underlying62 J9 rfl (by decide) rfl ha rfl (some ⟨_,0,none⟩) 1 1 [.pointer (some ⟨c,0,none⟩)] rfl rfl (ot _ [.pointer (some ⟨c,0,none⟩)] _) (fun h=>by cases h) (Lo _) (by simp only [maxLen]; omega) (by omega) ?_))
    intro v' w7 h7 hx7
    rw [<- HDQ.out] at h7
    have h8:=Av (Y:=Y) (m:=m) (R:=lm c (lY m ks q)::(devL B (lY m ks) q++R)) (le h7)
    have hx8:=((hxr.trans hx2).alloc (.cells #[.pointer (some ⟨c,0,none⟩)] 53)).trans hx7
    go_wp2_with fail
    go_roundw
    case rel=>exact ⟨q + 1,stN B q c,by omega,by go_num,hx8,by rw [K9,JP]; exact h8⟩
    case measure=>simp [intOf]; omega
  ·obtain rfl : q = 5:=by omega
   obtain ⟨rao,g,cap,rfl,-,-,-,-,-,-,-⟩:=lk 15 hown rfl
   have ct:=y_tp hown
   clear HV
   go_wp2_with fail
   refine (LC Y.tp m.top HTP.out.1 (.slice none 0 0) [] _ wr (fun w' _ _=>Fy w') (KG hown)).mono ?_
   rintro e w2 ⟨bt,rfl,hx2,h2⟩
   have h3 : own w2 (lm Y.tp m.top::(yL Y m (lm bt (m.top.crash [])::row 53 1 (.slice rao 5 cap) 5 (ptrs B 5)::(devL B (lY m ks) 5++R))).eraseIdx 12):=lr (lm Y.tp m.top::(yL Y m []).eraseIdx 12) h2
   have h4 : own w2 (yL Y m (lm bt (m.top.crash [])::row 53 1 (.slice rao 5 cap) 5 (ptrs B 5)::(devL B (lY m ks) 5++R))):=lr ((yL Y m []).take 12) h3
   have h5:=lp (shL Y.bs Y.A m.F++yT Y m) ([lm bt (m.top.crash []),row 53 1 (.slice rao 5 cap) 5 (ptrs B 5)]++devL B (lY m ks) 5) (R:=R) (by simpa only [zp,List.cons_append,List.nil_append] using h4)
   have h6 : own w2 (devL B (lY m ks) 5++(lm bt (m.top.crash [])::(row 53 1 (.slice rao 5 cap) 5 (ptrs B 5)::yL Y m R))):=by
    have:=lp [lm bt (m.top.crash []),row 53 1 (.slice rao 5 cap) 5 (ptrs B 5)] (devL B (lY m ks) 5) (R:=yL Y m R) (by simpa only [zp,List.cons_append,List.nil_append] using h5)
    exact this
   have hx3:=hxr.trans hx2
   have hop:=HCO.out B bt (.slice rao 5 cap) _ (fun w' L h=>Ux L.length h (by rw [List.getElem?_append_right (Nat.le_refl _),Nat.sub_self]; rfl)) w2 h6
   have HOPN:=zh hop
   have hcd : 0 <= (BZ m ks).1:=FM _ _
   have hyc:=HYC.out
   change zw (lY m ks) (m.top.crash []) = YC at hyc
   change 0 <= (zw (lY m ks) (m.top.crash [])).1 at hcd
   clear hop h2 h3 h4 h5 h6 hown hxr hx2 ct HCO
   generalize zw (lY m ks) (m.top.crash []) = S at *
   subst hyc
   obtain ⟨oc,om⟩:=S
   clear HYC
   unfold Nh at HOPN
   dsimp only at HOPN hcd
   by_cases hoc : oc = 0
   ·have HO2:=zh (HOPN.out.mono fun e w' h=>(h.resolve_left fun h=>h.1 hoc).2)
    clear HOPN
    go_wp2_with fail
    refine HO2.out.mono ?_
    rintro e w3 ⟨Y',rfl,hx4,h7⟩
    go_wp2_with fail
    go_ret2
    refine .inr ⟨hoc,Y',rfl,hx3.trans hx4,?_⟩
    have h8:=lp (shL Y'.bs Y'.A om.F++yT Y' om) (devL B (lY m ks) 5++[lm bt (m.top.crash []),row 53 1 (.slice rao 5 cap) 5 (ptrs B 5)]) (R:=yL Y m R) (by simpa only [zp,List.cons_append,List.nil_append] using h7)
    have h9:=zl (devL B (lY m ks) 5++[lm bt (m.top.crash []),row 53 1 (.slice rao 5 cap) 5 (ptrs B 5)]) h8
    simpa only [zp] using h9
   ·have HO2:=zh (HOPN.out.mono fun e w' h=>(h.resolve_right fun h=>hoc h.1).2)
    rw [lx (e:=oc) (by omega)] at HO2
    clear HOPN
    go_wp2_with fail
    refine HO2.out.mono ?_
    rintro e w3 ⟨rfl,hx4,h7⟩
    go_wp2_with fail
    go_ret2
    refine .inl ⟨hoc,by rw [lx (e:=oc) (by omega)]; rfl,hx3.trans hx4,?_⟩
    exact zl (devL B (lY m ks) 5++[lm bt (m.top.crash []),row 53 1 (.slice rao 5 cap) 5 (ptrs B 5)]) (by simpa only [zp,List.cons_append,List.nil_append] using h7)
def newN (c p : Int) : Nat:=(yz c p).toNat
def newI (c p : Int) : ImgM:=(oD (ob (newN c p)) c p (-1)).2
def AF (c p : Int) : lf:=⟨put (fun _=>none) 0 (newI c p),fun _=>ob (newN c p),ob 1,lz 0,[0],none⟩
def DO (c p : Int) : lf:=(lw (AF c p) (lz 0)).2
theorem VH {c p b : Int} (h : ¬lF c p b) : 1 <= yz c p /\ yz c p <= 165:=by
 unfold lF at h
 unfold yz ls
 omega
theorem IY {c p b : Int} (h : ¬lF c p b) : (newN c p : Int) = yz c p /\ newN c p <= 165 /\ 1 <= newN c p:=by
 have:=VH h
 unfold newN
 omega
theorem Oe {c p : Int} (h : ¬lF c p (-1)) : (oD (ob (newN c p)) c p (-1)).1 = 0:=by
 obtain ⟨h1,h2,h3⟩:=IY h
 refine (N9 (BD (by omega)) (show (ob (newN c p)).fail < 0 by show (-1 : Int) < 0; decide) (by show (0 : Nat) < _; decide) (by show (0 : Int) < _; decide) ?_).1
 rintro (h4 | h4)
 ·exact h h4
 ·have : (ob (newN c p)).fl.length = newN c p:=by simp [ob]
  omega
theorem Mb (c p : Int) : (lw (AF c p) (lz 0)).1 = 0:=by
 have h : ((AF c p).top.write 0 (lz 0).s).1 = 0:=by
  refine (Ge (d:=ob 1) (by show (-1 : Int) < 0; decide) (by decide) (by show (0 : Int) < ((ob 1).fl.length : Nat); decide) ?_).1
  show (Aq 0 0 (-1) 0 0).size = 16
  unfold Aq
  rw [Bi (by simp)]
 unfold lw
 rw [zq (by rw [h]; exact fun h=>h rfl)]
theorem VX (c p : Int) (h : lF c p (-1)) (R : List SL.HP) (w : World) (H : own w R) :
  Calls Tryz.prog 31 #[.int .i64 c,.int .i64 p] w fun e w'=>e = .returned (.tuple #[.pointer none,errV 1]) /\ Ext w w' /\ own w' R:=by
 have hb:=li H (.cells #[.int .i64 c,.int .i64 p,.int .i64 (-1)] 103)
 have hxb:=(zR w).alloc (.cells #[.int .i64 c,.int .i64 p,.int .i64 (-1)] 103)
 have HC:=zh (fun (R : List SL.HP) (w : World) (H : own w R)=>Ay c p (-1) R w H)
 unfold lM yu at HC
 rw [zt h,show errV 1 = .iface 128 (.int .i64 1) from rfl] at HC
 clear h H
 go_enter Tryz.func31,Tryz.ntmps31
 go_upto_region 2 with (fail)
 generalize w.heap.size = g at *
 generalize w.alloc (.cells #[.int .i64 c,.int .i64 p,.int .i64 (-1)] 103) = w1 at *
 obtain ⟨cg,fg⟩:=ld 0 hb rfl
 have d0:=cg 0
 have d1:=cg 1
 have d2:=cg 2
 clear cg
 go_wp2_with fail
 refine (HC.out _ w1 hb).mono ?_
 rintro e w2 ⟨rfl,hx2,h2⟩
 go_wp2_with fail
 go_ret2
 exact ⟨rfl,hxb.trans hx2,le h2⟩
theorem NX (c p : Int) (h : ¬lF c p (-1)) (R : List SL.HP) (w : World) (H : own w R) :
  Calls Tryz.prog 31 #[.int .i64 c,.int .i64 p] w fun e w'=>∃Y : YA,e = .returned (.tuple #[.pointer (some ⟨Y.y,0,none⟩),.nilIface]) /\ Ext w w' /\ own w' (yL Y (DO c p) R):=by
 have hb:=li H (.cells #[.int .i64 c,.int .i64 p,.int .i64 (-1)] 103)
 have hxb:=(zR w).alloc (.cells #[.int .i64 c,.int .i64 p,.int .i64 (-1)] 103)
 have HC:=zh (fun (R : List SL.HP) (w : World) (H : own w R)=>Ay c p (-1) R w H)
 have HNE:=zh (fun (R : List SL.HP) (w : World) (H : own w R)=>N0 c p (-1) h R w H)
 unfold lM yu at HC
 unfold lM at HNE
 rw [zq h,oa] at HC
 obtain ⟨hn1,hn2,hn3⟩:=IY h
 have hcr:=Oe h
 have hnw:=Mb c p
 have hM : DO c p = (lw (AF c p) (lz 0)).2:=rfl
 have hM0 : AF c p = ⟨put (fun _=>none) 0 (newI c p),fun _=>ob (newN c p),ob 1,lz 0,[0],none⟩:=rfl
 have hI : newI c p = (oD (ob (newN c p)) c p (-1)).2:=rfl
 have HCR:=zh (fun (bd : Nat) (R : List SL.HP) (w : World) (H : own w (lm bd (ob (newN c p))::R))=>(K7 bd (ob (newN c p)) (BD (by omega)) (by show (0 : Nat) < _; decide) (by show (0 : Int) < _; decide) c p (-1) R w H).mono fun e w' h=>(h.resolve_left fun h=>h.1 hcr).2)
 unfold lM at HCR
 rw [<- hI] at HCR
 have HND:=zh (fun (R : List SL.HP) (w : World) (H : own w R)=>JA (newN c p) R w (by unfold Nd; exact zg (by omega)) H)
 rw [hn1] at HND
 rw [hM]
 generalize newI c p = i0 at *
 generalize AF c p = M0 at *
 generalize newN c p = n at *
 generalize yz c p = ni at *
 have HNW:=zh hnw
 have HM0:=zh hM0
 clear h H hn1 hn2 hn3 hcr hI hM hnw hM0
 go_enter Tryz.func31,Tryz.ntmps31
 go_upto_region 2 with (fail)
 generalize w.heap.size = g at *
 generalize w.alloc (.cells #[.int .i64 c,.int .i64 p,.int .i64 (-1)] 103) = w1 at *
 obtain ⟨cg,fg⟩:=ld 0 hb rfl
 have d0:=cg 0
 have d1:=cg 1
 have d2:=cg 2
 clear cg
 go_wp2_with fail
 refine (HC.out _ w1 hb).mono ?_
 rintro e w2 ⟨rfl,hx2,h2⟩
 clear d0 d1 d2 fg
 go_upto_region 5 with (fail)
 have h3:=Ul (fun _=>(0,0,0)) h2
 have hx3:=(hxb.trans hx2).alloc (.cells #[.pointer none,.pointer none,.pointer none,.pointer none,.pointer none] 111)
 go_wp2_with fail
 generalize w2.heap.size = bs at *
 generalize w2.alloc (.cells #[.pointer none,.pointer none,.pointer none,.pointer none,.pointer none] 111) = w3 at *
 refine (CN 0 _ w3 h3).mono ?_
 rintro e w4 ⟨rfl,hx4,h4⟩
 unfold lz lI.v o8
 dsimp only
 have h5:=li h4 (.cells #[.int .i64 0] 3)
 have hx5:=(hx3.trans hx4).alloc (.cells #[.int .i64 0] 3)
 have h6 : own _ (row 3 1 (.slice (some ⟨w4.heap.size,0,none⟩) 1 1) 1 [.int .i64 0]::(shL bs (fun _=>(0,0,0)) (fun _=>none)++(pts g (.cells #[.int .i64 c,.int .i64 p,.int .i64 (-1)] 103 (0,0))::R))):=yD (cap:=1) (n:=1) (sz:=1) 0 h5 rfl (Nat.le_refl _) (by decide) rfl rfl
 have h7:=li h6 (.cells #[.pointer none,.pointer none,.pointer none,.pointer none,.pointer none,.pointer none,.pointer (some ⟨bs,0,none⟩),.int .i64 0,.int .i64 0,.int .i64 (-1),.int .i64 0,.int .i64 0,.slice (some ⟨w4.heap.size,0,none⟩) 1 1,.pointer none] 165)
 have hx7:=hx5.alloc (.cells #[.pointer none,.pointer none,.pointer none,.pointer none,.pointer none,.pointer none,.pointer (some ⟨bs,0,none⟩),.int .i64 0,.int .i64 0,.int .i64 (-1),.int .i64 0,.int .i64 0,.slice (some ⟨w4.heap.size,0,none⟩) 1 1,.pointer none] 165)
 have h8:=lr (_::shL bs (fun _=>(0,0,0)) (fun _=>none)) (B1 h7)
 have h9:=Vu (dk:=lz 0) (fun _=>ob n) h8
 clear h2 h3 h4 h5 h6 h7 h8 hx2 hx3 hx4 hx5 hb hxb
 go_wp2_with fail
 rw [show (w4.alloc (.cells #[.int .i64 0] 3)).heap.size = w4.heap.size + 1 by simp] at h9
 generalize w4.heap.size + 1 = y at *
 generalize w4.heap.size = sl at *
 generalize ((w4.alloc (.cells #[.int .i64 0] 3)).alloc (.cells #[.pointer none,.pointer none,.pointer none,.pointer none,.pointer none,.pointer none,.pointer (some ⟨bs,0,none⟩),.int .i64 0,.int .i64 0,.int .i64 (-1),.int .i64 0,.int .i64 0,.slice (some ⟨sl,0,none⟩) 1 1,.pointer none] 165)) = w7 at *
 go_loopw [23] (fun kv wr=>∃(q : Nat) (A : Nat -> Nat×Nat×Nat),q <= 5 /\ kv = .int .i64 q /\ Ext w wr /\ own wr (nL y bs A (fun _=>none) (fun _=>ob n) q (.pointer none) (lz 0) (.slice (some ⟨sl,0,none⟩) 1 1) (row 3 1 (.slice (some ⟨sl,0,none⟩) 1 1) 1 [.int .i64 0]::pts g (.cells #[.int .i64 c,.int .i64 p,.int .i64 (-1)] 103 (0,0))::R))) (fun kv _=>6 - (intOf kv).toNat)
 case atStart=>exact ⟨0,_,by omega,rfl,hx7,h9⟩
 case round=>
  clear h9 hx7
  obtain ⟨q,A,hq,rfl,hxr,hown⟩:=hrel
  by_cases hlt : q < 5
  ·have g1 : (q : Int) < 5:=by omega
   have g2 : (0 : Int) <= (q : Int):=by omega
   go_upto_region 9 with (fail)
   have hz:=lj hown
   have hxz:=hxr.drew
   refine wp_region_held_drew (S:=fun w'=>w'.cell? ⟨g,0,none⟩ = some (.int .i64 c) /\ w'.cell? ⟨g,1,none⟩ = some (.int .i64 p) /\ w'.cell? ⟨g,2,none⟩ = some (.int .i64 (-1))) (by kernel_rfl) (⟨(ld 13 hz rfl).1 0,(ld 13 hz rfl).1 1,(ld 13 hz rfl).1 2⟩) (fun hHeld=>?_)
   refine tk 0 ?_
   refine tk 1 ?_
   refine tk 2 ?_
   try simp only [Act.put,tA,tB,tC,tD,tE,tF]
   refine tk 8 ?_
   refine tk 9 ?_
   try simp only [Act.put,tA,tB,tC,tD,tE,tF]
   refine rd 3 rfl fun K hK=>?_
   go_simp
   go_at_call 127
   refine (HNE.out _ _ hz).mono ?_
   rintro e w2 ⟨rfl,hx2,h2⟩
   go_simp
   refine hK.out _ _ ⟨(ld 13 h2 rfl).1 0,(ld 13 h2 rfl).1 1,(ld 13 h2 rfl).1 2⟩ (fun _=>?_)
   clear hK K
   try simp only [Act.put,tA,tB,tC,tD,tE,tF]
   refine rd 4 rfl fun K hK=>?_
   go_simp
   go_at_call 61
   refine (HND.out _ _ h2).mono ?_
   rintro e w3 ⟨cb,rfl,hx3,h3⟩
   go_simp
   have hn3:=EU h3
   refine hK.out _ _ ⟨(ld 14 hn3 rfl).1 0,(ld 14 hn3 rfl).1 1,(ld 14 hn3 rfl).1 2⟩ (fun _=>?_)
   clear hK K
   try simp only [Act.put,tA,tB,tC,tD,tE,tF]
   refine tk 5 ?_
   refine tk 6 ?_
   refine tk 7 ?_
   try simp only [Act.put,tA,tB,tC,tD,tE,tF]
   refine tk 10 ?_
   try simp only [Act.put,tA,tB,tC,tD,tE,tF]
   have cy:=Mq hlt hn3
   have fy:=(Bz hn3).2 q
   have h4:=Vt (D:=fun _=>ob n) (F:=fun _=>none) (q:=q) hlt rfl h3
   refine rd 11 rfl fun K hK=>?_
   go_simp
   refine hK.out _ _ ⟨(ld 13 h4 rfl).1 0,(ld 13 h4 rfl).1 1,(ld 13 h4 rfl).1 2⟩ (fun _=>?_)
   clear hK K
   try simp only [Act.put,tA,tB,tC,tD,tE,tF]
   refine tk 12 ?_
   try simp only [Act.put,tA,tB,tC,tD,tE,tF]
   refine wpAnyH_done (by kernel_rfl) ?_ _
   go_wp2_with fail
   go_roundw
   case rel=>exact ⟨q + 1,_,by omega,by go_num,(((hxz.trans hx2).trans hx3).setCell _ _),h4⟩
   case measure=>simp [intOf]; omega
  ·obtain rfl : q = 5:=by omega
   go_wp2_with fail
   refine (JA 1 _ wr (by decide) hown).mono ?_
   rintro e w2 ⟨tp,rfl,hx2,h2⟩
   have hn:=EU h2
   have ct:=(Bz hn).1 5
   have fy:=(Bz hn).2 5
   have h3:=lg (i:=5) (v:=.pointer (some ⟨tp,0,none⟩)) 6 hn rfl
   have h4 : own (w2.setCell ⟨y,5,none⟩ (.pointer (some ⟨tp,0,none⟩))) (yL ⟨y,bs,tp,A,.slice (some ⟨sl,0,none⟩) 1 1,0,0,0,undef⟩ ⟨fun _=>none,fun _=>ob n,ob 1,lz 0,[0],none⟩ (pts g (.cells #[.int .i64 c,.int .i64 p,.int .i64 (-1)] 103 (0,0))::R)):=S0 h3
   have hx4:=(hxr.trans hx2).setCell (⟨y,5,none⟩ : Addr) (.pointer (some ⟨tp,0,none⟩))
   clear h2 hn h3 hxr hx2 hown
   go_upto_region 16 with (fail)
   clear ct fy
   generalize w2.setCell ⟨y,5,none⟩ (.pointer (some ⟨tp,0,none⟩)) = w3 at *
   have hz:=lj h4
   have hxz:=hx4.drew
   have hk0 : (0 : Nat) < 5:=by decide
   refine wp_region_held_drew (S:=fun w'=>w'.cell? ⟨y,6,none⟩ = some (.pointer (some ⟨bs,0,none⟩)) /\ w'.cell? ⟨y,0,none⟩ = some (.pointer (some ⟨(A 0).2.1,0,none⟩)) /\ w'.cell? ⟨g,0,none⟩ = some (.int .i64 c) /\ w'.cell? ⟨g,1,none⟩ = some (.int .i64 p) /\ w'.cell? ⟨g,2,none⟩ = some (.int .i64 (-1))) (by kernel_rfl) (⟨y_bs hz,BH hz hk0,(ld 15 hz rfl).1 0,(ld 15 hz rfl).1 1,(ld 15 hz rfl).1 2⟩) (fun hHeld=>?_)
   refine tk 0 ?_
   refine tk 1 ?_
   refine tk 2 ?_
   refine tk 3 ?_
   refine tk 4 ?_
   refine tk 5 ?_
   refine tk 6 ?_
   refine tk 7 ?_
   refine tk 8 ?_
   refine tk 9 ?_
   try simp only [Act.put,tA,tB,tC,tD,tE,tF]
   refine tk 14 ?_
   try simp only [Act.put,tA,tB,tC,tD,tE,tF]
   refine rd 10 rfl fun K hK=>?_
   go_simp
   go_at_call 62
   refine (HCR.out _ _ _ (DP hk0 rfl hz)).mono ?_
   rintro e w5 ⟨bi,bh,rfl,hx5,h5⟩
   go_simp
   refine hK.out _ _ ⟨(ld 8 h5 rfl).1 6,(ld 8 h5 rfl).1 0,(ld 17 h5 rfl).1 0,(ld 17 h5 rfl).1 1,(ld 17 h5 rfl).1 2⟩ (fun _=>?_)
   clear hK K
   try simp only [Act.put,tA,tB,tC,tD,tE,tF]
   refine tk 11 ?_
   refine tk 12 ?_
   refine tk 13 ?_
   try simp only [Act.put,tA,tB,tC,tD,tE,tF]
   refine tk 15 ?_
   try simp only [Act.put,tA,tB,tC,tD,tE,tF]
   have cs : w5.cell? ⟨bs,0,none⟩ = some (.pointer none):=(ld 2 h5 rfl).1 0
   have fs : w5.frozen? ⟨bs,0,none⟩ = false:=(ld 2 h5 rfl).2 0
   have h6:=LJ (Y:=⟨y,bs,tp,A,.slice (some ⟨sl,0,none⟩) 1 1,0,0,0,undef⟩) (m:=⟨fun _=>none,fun _=>ob n,ob 1,lz 0,[0],none⟩) hk0 rfl h5
   have hx6:=(hxz.trans hx5).setCell (⟨bs,0,none⟩ : Addr) (.pointer (some ⟨bi,0,none⟩))
   refine rd 16 rfl fun K hK=>?_
   go_simp
   refine hK.out _ _ ⟨y_bs h6,BH h6 hk0,(ld 15 h6 rfl).1 0,(ld 15 h6 rfl).1 1,(ld 15 h6 rfl).1 2⟩ (fun _=>?_)
   clear hK K cs fs
   try simp only [Act.put,tA,tB,tC,tD,tE,tF]
   refine tk 17 ?_
   try simp only [Act.put,tA,tB,tC,tD,tE,tF]
   refine wpAnyH_done (by kernel_rfl) ?_ _
   generalize w5.setCell ⟨bs,0,none⟩ (.pointer (some ⟨bi,0,none⟩)) = w6 at *
   change own w6 (yL (YA.stA ⟨y,bs,tp,A,.slice (some ⟨sl,0,none⟩) 1 1,0,0,0,undef⟩ 0 bi bh) ⟨put (fun _=>none) 0 i0,fun _=>ob n,ob 1,lz 0,[0],none⟩ _) at h6
   rw [<- HM0.out] at h6
   have c7 : w6.cell? ⟨y,7,none⟩ = some (.int .i64 0):=by have:=yS h6; rw [HM0.out] at this; exact this
   have c8 : w6.cell? ⟨y,8,none⟩ = some (.int .i64 0):=by have:=Cw h6; rw [HM0.out] at this; exact this
   have c9 : w6.cell? ⟨y,9,none⟩ = some (.int .i64 (-1)):=by have:=CF h6; rw [HM0.out] at this; exact this
   have c10 : w6.cell? ⟨y,10,none⟩ = some (.int .i64 0):=by have:=Fd h6; rw [HM0.out] at this; exact this
   have c11 : w6.cell? ⟨y,11,none⟩ = some (.int .i64 0):=by have:=DJ h6; rw [HM0.out] at this; exact this
   have hw:=fun R' w' h=>BM (YA.stA ⟨y,bs,tp,A,.slice (some ⟨sl,0,none⟩) 1 1,0,0,0,undef⟩ 0 bi bh) M0 (by rw [HM0.out]; exact BD (by decide)) (by rw [HM0.out]; show (0 : Int) < _; decide) (by rw [HM0.out]; show (0 : Nat) < _; decide) (lz 0) (BQ (by decide) (by decide)) R' w' h
   rw [HNW.out,oa] at hw
   have HWR:=zh hw
   clear hw h4 hz h5
   go_wp2_with fail
   refine (HWR.out _ w6 h6).mono ?_
   rintro e w8 ⟨rfl,hx8,h8⟩
   go_wp2_with fail
   go_ret2
   exact ⟨_,rfl,hx6.trans hx8,Bv h8⟩
end Go.Proofs.YtbpblokfiajpjabGreatDoor
namespace Go.Proofs.YtbpblokfiajpjabGreatDoor
open Go.RowKit Go.SL Go.Crc
def YLen (m : lf) : Prop:=∀k,k < 5 -> m.F k = none -> 0 < (m.D k).fl.length
theorem YLen.dev {N : Nat} {m : lf} (h : YLen m) (ho : YOk N m) {k : Nat} (hk : k < 5) : 0 < (devOf m k).fl.length:=by
 unfold devOf
 cases e : m.F k with
 | none=>exact h k hk e
 | some i=>
  have:=(ho.sh.ok k i hk e).need
  obtain ⟨-,-,hp⟩ : True /\ True /\ 0 <= i.p:=⟨trivial,trivial,by have:=(ho.sh.ok k i hk e).head; unfold lF at this; omega⟩
  dsimp only
  omega
structure KD (m m' : lf) : Prop where
 d : m'.D = m.D
 f : ∀k,k < 5 -> m'.F k = none -> m.F k = none
theorem KD.refl (m : lf) : KD m m:=⟨rfl,fun _ _ h=>h⟩
theorem KD.trans {a b c : lf} (h : KD a b) (g : KD b c) : KD a c:=⟨g.d.trans h.d,fun k hk e=>h.f k hk (g.f k hk e)⟩
theorem KD.of {m m' : lf} (hF : m'.F = m.F) (hD : m'.D = m.D) : KD m m':=⟨hD,fun k _ e=>by rw [<- hF]; exact e⟩
theorem YLen.kd {m m' : lf} (h : YLen m) (g : KD m m') : YLen m':=fun k hk e=>by rw [g.d]; exact h k hk (g.f k hk e)
theorem AK (m : lf) (d : lI) : KD m (lw m d).2:=by
 unfold lw
 split <;> exact KD.of rfl rfl
theorem KD.step {n : Nat} {m : lf} {F' : ShM} (s : lL n m.F F') {oj : Option JobM} {l : List Int} : KD m { m with F:=F',job:=oj,list:=l }:=⟨rfl,fun k hk e=>by
 cases h : m.F k with
 | none=>rfl
 | some i=>
  obtain ⟨i',h1,-,-⟩:=s.yes k i hk h
  rw [show F' k = none from e] at h1
  cases h1⟩
theorem KH (m : lf) (a b : Int) : KD m (yN m a b):=by
 unfold yN
 split
 ·exact KD.refl m
 ·split
  ·exact KD.refl m
  ·exact KD.of rfl rfl
theorem Sn {N : Nat} {m : lf} (h : lJ N m) (hN : N + 1000 < 900000) (fr : Int) (s : ByteArray) (hs : s.size <= 3200) : KD m (zQ m fr s).2:=by
 have hst:=Fz h.ok.sh (FC h.ok) (by omega) fr s hs
 unfold zQ
 split
 ·exact KD.refl m
 ·exact (KD.step (oj:=m.job) (l:=m.list) hst).trans (KH _ _ _)
theorem Ud {N : Nat} {m : lf} (h : lJ N m) (hN : N + 1000 < 900000) (fr n : Int) (hn : n <= 200) : KD m (Aa m fr n).2:=by
 have hst:=Ev h.ok.sh (FC h.ok) (by omega) fr n hn
 unfold Aa
 split
 ·exact KD.refl m
 ·exact (KD.step (oj:=m.job) (l:=m.list) hst).trans (KH _ _ _)
theorem St (m : lf) : KD m (Ar m):=⟨rfl,fun k hk e=>((BU (l:=m.list) (F:=m.F)).none hk).1 e⟩
theorem TM (m : lf) (a b c d : Int) : KD m (AC m a b c d).2:=by
 unfold AC
 repeat' split
 all_goals first
  | exact KD.refl m
  | exact AK _ _
  | exact (AK m _).trans (KD.of rfl rfl)
theorem M1 (m : lf) (j : JobM) (r : Int) (b : Bool) : KD m (B4 m j r b).2:=by
 unfold B4
 split
 ·exact AK _ _
 ·exact (AK m _).trans (KD.of rfl rfl)
theorem QU (m : lf) : KD m (zT m).2:=by
 unfold zT
 repeat' split
 all_goals first
  | exact KD.refl m
  | exact M1 _ _ _ _
theorem Ex {m : lf} {j : JobM} {F : ShM} (hF : ∀k,k < 5 -> F k = none -> m.F k = none) {oj : Option JobM} {l : List Int} : KD m { m with F:=(lA F j).2.1,job:=oj,list:=l }:=
 ⟨rfl,fun k hk e=>hF k hk ((Cl hk).1 e)⟩
theorem Tl (m : lf) : KD m (AD m).2:=by
 unfold AD
 split
 ·exact KD.refl m
 ·split
  ·exact KD.refl m
  ·split
   ·exact KD.refl m
   ·split
    ·exact Ex (fun _ _ h=>h)
    ·exact (Ex (oj:=some _) (l:=m.list) (fun _ _ h=>h)).trans (M1 _ _ _ _)
theorem Q2 (m : lf) (b : Bool) : KD m (zW m b).2:=by
 unfold zW
 repeat' split
 all_goals exact KD.of rfl rfl
theorem Un (m : lf) (n : Int) : KD m (Az m n).2:=by
 unfold Az
 repeat' split
 all_goals exact KD.of rfl rfl
theorem L2 {N : Nat} {m : lf} (h : lJ N m) (hN : N + 20 < 900000) : KD m (zE m).2:=by
 unfold zE
 cases hj : m.job with
 | none=>exact KD.refl m
 | some j=>
  dsimp only
  split
  ·exact KD.refl m
  ·rename_i h4
   obtain ⟨hS,-⟩:=h.ok.job j hj (by omega)
   have hst:=Ez (h.ok.sh.sh (by omega)) (h.ok.jok j hj) hS
   have h1 : KD m { m with F:=(lZ m.F j).2.1,job:=some (lZ m.F j).2.2 }:=KD.step (l:=m.list) hst
   split
   ·split
    ·exact h1
    ·exact h1.trans (AK _ _)
   ·split
    ·exact h1
    ·split
     ·exact (Ex (oj:=some _) (l:=m.list) h1.f).trans (AK _ _)
     ·exact (Ex (oj:=some _) (l:=_) h1.f).trans ((AK _ _).trans (KD.of rfl rfl))
theorem UA {m : lf} (h : YLen m) (f n : Int) : YLen (armM m f n).2:=by
 unfold armM
 split
 ·exact h
 ·split
  ·exact h.kd (KD.of rfl rfl)
  ·split
   ·rename_i i e
    exact h.kd ⟨rfl,fun k hk e2=>by
     dsimp only at e2
     unfold put at e2
     split at e2
     ·cases e2
     ·exact e2⟩
   ·rename_i e
    intro k hk e2
    dsimp only at e2 ⊢
    unfold setD
    split
    ·rename_i hk2; subst hk2; exact h _ hk e2
    ·exact h k hk e2
theorem Kw {N : Nat} {m : lf} (h : YLen m) (ho : YOk N m) (hN : N < 900000) (f b : Int) : YLen (oB m f b).2:=by
 unfold oB
 split
 ·exact h
 ·split
  ·exact h
  ·rename_i hb hu
   have hk5 : f.toNat < 5:=by omega
   split
   ·intro k hk e2
    dsimp only at e2 ⊢
    unfold setD
    split
    ·obtain ⟨d1,d2,d3⟩:=Ax ho hk5
     have hc:=(GO (c:=clus m.F m.dk.root) (p:=Ae (clus m.F m.dk.root) (devOf m f.toNat)) (b:=b) d1 (by omega) (by omega)).2.1
     change (yY m f.toNat b).2.d.fl.length = _ at hc
     rw [hc]
     exact h.dev ho hk5
    ·rename_i hk2
     unfold cut at e2
     rw [zq hk2] at e2
     exact h k hk e2
   ·exact h.kd ⟨rfl,fun k hk e2=>by
     dsimp only at e2
     unfold put at e2
     split at e2
     ·cases e2
     ·exact e2⟩
theorem TQ {N : Nat} {m : lf} (h : YLen m) (ho : YOk N m) (hN : N < 900000) (f : Int) : YLen (Bt m f).2:=by
 have hb:=Kw h ho hN f m.dk.root
 unfold Bt
 split
 ·exact h
 ·split
  ·exact h
  ·split
   ·exact hb
   ·split
    ·exact hb.kd (AK _ _)
    ·exact hb.kd ((AK _ _).trans (KD.of rfl rfl))
theorem Qi {N : Nat} {m : lf} (h : lJ N m) (hN : N + 2000 < 900000) (x : Act) (hA : lR x.A) (hB : lR x.B) (hS : x.S.size <= 700) : lJ (N + 1000) (GS m x):=by
 unfold GS
 by_cases k0 : (x.kind.toList == [119,114,105,116,101]) = true
 ·rw [zt k0]
  exact (IE h (by omega) _ _ (by omega))
 rw [zq k0]
 by_cases k1 : (x.kind.toList == [119,105,112,101]) = true
 ·rw [zt k1]
  split
  ·exact h.mono (by omega)
  ·exact Pd h (by omega) _ _ (by omega)
 rw [zq k1]
 by_cases k2 : (x.kind.toList == [114,101,97,100]) = true
 ·rw [zt k2]
  exact h.mono (by omega)
 rw [zq k2]
 by_cases k3 : (x.kind.toList == [102,108,117,115,104]) = true
 ·rw [zt k3]
  exact (JJ (Fe h) (by omega)).mono (by omega)
 rw [zq k3]
 by_cases k4 : (x.kind.toList == [98,108,97,110,107]) = true
 ·rw [zt k4]
  exact (Jr h (by omega) _ _).mono (by omega)
 rw [zq k4]
 by_cases k5 : (x.kind.toList == [115,110,97,112]) = true
 ·rw [zt k5]
  exact (Q5 h (by omega) _).mono (by omega)
 rw [zq k5]
 by_cases k6 : (x.kind.toList == [115,116,97,114,116]) = true
 ·rw [zt k6]
  exact (O7 h (by omega) _ _ _ _).mono (by omega)
 rw [zq k6]
 by_cases k7 : (x.kind.toList == [112,105,118,111,116]) = true
 ·rw [zt k7]
  exact (On h (by omega)).mono (by omega)
 rw [zq k7]
 by_cases k8 : (x.kind.toList == [99,97,110,99,101,108]) = true
 ·rw [zt k8]
  exact (MN h (by omega)).mono (by omega)
 rw [zq k8]
 by_cases k9 : (x.kind.toList == [112,97,117,115,101]) = true
 ·rw [zt k9]
  exact (NW h _).mono (by omega)
 rw [zq k9]
 by_cases k10 : (x.kind.toList == [116,105,99,107]) = true
 ·rw [zt k10]
  exact (O8 h _).mono (by omega)
 rw [zq k10]
 by_cases k11 : (x.kind.toList == [102,97,105,108]) = true
 ·rw [zt k11]
  exact (SN h _ _ hB).mono (by omega)
 rw [zq k11]
 exact (JJ h (by omega)).mono (by omega)
theorem Tn {N : Nat} {m : lf} (l : YLen m) (h : lJ N m) (hN : N + 2000 < 900000) (x : Act) (hS : x.S.size <= 700) : YLen (GS m x):=by
 unfold GS
 by_cases k0 : (x.kind.toList == [119,114,105,116,101]) = true
 ·rw [zt k0]
  exact l.kd (Sn h (by omega) _ _ (by omega))
 rw [zq k0]
 by_cases k1 : (x.kind.toList == [119,105,112,101]) = true
 ·rw [zt k1]
  split
  ·exact l
  ·exact l.kd (Ud h (by omega) _ _ (by omega))
 rw [zq k1]
 by_cases k2 : (x.kind.toList == [114,101,97,100]) = true
 ·rw [zt k2]
  exact l
 rw [zq k2]
 by_cases k3 : (x.kind.toList == [102,108,117,115,104]) = true
 ·rw [zt k3]
  exact (l.kd (St m)).kd (L2 (Fe h) (by omega))
 rw [zq k3]
 by_cases k4 : (x.kind.toList == [98,108,97,110,107]) = true
 ·rw [zt k4]
  exact Kw l h.ok (by omega) _ _
 rw [zq k4]
 by_cases k5 : (x.kind.toList == [115,110,97,112]) = true
 ·rw [zt k5]
  exact TQ l h.ok (by omega) _
 rw [zq k5]
 by_cases k6 : (x.kind.toList == [115,116,97,114,116]) = true
 ·rw [zt k6]
  exact l.kd (TM _ _ _ _ _)
 rw [zq k6]
 by_cases k7 : (x.kind.toList == [112,105,118,111,116]) = true
 ·rw [zt k7]
  exact l.kd (Tl _)
 rw [zq k7]
 by_cases k8 : (x.kind.toList == [99,97,110,99,101,108]) = true
 ·rw [zt k8]
  exact l.kd (QU _)
 rw [zq k8]
 by_cases k9 : (x.kind.toList == [112,97,117,115,101]) = true
 ·rw [zt k9]
  exact l.kd (Q2 _ _)
 rw [zq k9]
 by_cases k10 : (x.kind.toList == [116,105,99,107]) = true
 ·rw [zt k10]
  exact l.kd (Un _ _)
 rw [zq k10]
 by_cases k11 : (x.kind.toList == [102,97,105,108]) = true
 ·rw [zt k11]
  exact UA l _ _
 rw [zq k11]
 exact l.kd (L2 h (by omega))
theorem KK {c p : Int} (h : ¬lF c p (-1)) : lJ 10 (DO c p) /\ YLen (DO c p):=by
 obtain ⟨h1,h2,h3⟩:=IY h
 have hcr:=Oe h
 have hok:=GO (c:=c) (p:=p) (b:=-1) (BD (n:=newN c p) (by omega)) (by show (0 : Nat) < _; decide) (by show (0 : Int) < _; decide)
 have his:=KS (ob (newN c p)) c p (-1)
 change (newI c p).d.Ok /\ _ /\ (newI c p).d.pend.length <= _ /\ (newI c p).d.writes <= _ /\ (_ -> (newI c p).Ok /\ _) at hok
 change newI c p = _ at his
 obtain ⟨-,-,k1,k2,k3⟩:=hok
 have k3:=(k3 hcr).1
 rw [show (ob (newN c p)).pend.length = 0 from rfl] at k1
 rw [show (ob (newN c p)).writes = 0 from rfl] at k2
 have hic : (newI c p).c = c:=by rw [his]; rfl
 have hib : (newI c p).b = -1:=by rw [his]; rfl
 have hat : (AF c p).F 0 = some (newI c p):=zK (fun _=>none) 0 (newI c p)
 have hfile : ly (AF c p).F 0:=⟨by decide,by decide,_,hat⟩
 have hbk : bkOf (AF c p).F 0 = -1:=by unfold bkOf; rw [show (0 : Int).toNat = 0 from rfl,hat]; exact hib
 have hput : ∀k i,(AF c p).F k = some i -> i = newI c p:=fun k i e=>by
  change put (fun _=>none) 0 (newI c p) k = some i at e
  unfold put at e
  split at e
  ·cases e; rfl
  ·cases e
 have hg : lJ 9 (AF c p):=by
  refine ⟨⟨⟨fun k i hk e=>by rw [hput k i e]; exact k3,fun k i hk e=>by rw [hput k i e]; omega,fun k i hk e=>by rw [hput k i e]; omega⟩,fun k hk e=>⟨BD (by omega),by show (0 : Int) <= _; omega,by show (0 : Nat) <= _; omega⟩,⟨BD (by decide),by show (0 : Int) <= _; omega,by show (0 : Nat) <= _; omega,by show 1 <= (List.replicate 1 As).length; decide⟩,?_,hfile,fun j hj=>by (cases hj),fun j hj=>by (cases hj)⟩,fun j hj=>by (cases hj)⟩
  show lt (AF c p).F 0 = ([0],0)
  refine I2 ⟨fun x hx=>?_,fun x hx=>?_,?_,trivial⟩ (by decide)
  ·rw [List.mem_singleton.1 hx]; exact hfile
  ·rw [List.mem_singleton.1 hx]
  ·exact hbk
 refine ⟨hg.bareW (by decide) (fun j hj=>by cases hj),YLen.kd (m:=AF c p) (fun k hk e=>?_) (AK _ _)⟩
 show 0 < (List.replicate (newN c p) As).length
 rw [List.length_replicate]
 omega
theorem Ot {D : Nat -> DevM} {top : DevM} {N : Nat} (hN : N < 900000) (hD : ∀k,k < 5 -> (D k).Ok /\ (D k).writes <= N /\ (D k).pend.length <= N) (hD0 : ∀k,k < 5 -> 0 < (D k).fl.length) (ht : top.Ok /\ top.writes <= N /\ top.pend.length <= N /\ 1 <= top.fl.length) (h : (zw D top).1 = 0) :
  lJ N (zw D top).2 /\ YLen (zw D top).2:=by
 unfold zw at h ⊢
 split at h
 ·rename_i h1; exact absurd h h1
 ·rename_i h1
  split at h
  ·rename_i h2; exact absurd h h2
  ·rename_i h2
   rw [zq h1,zq h2]
   have h1:=Decidable.not_not.1 h1
   have h2:=Decidable.not_not.1 h2
   have hdr:=Gz (Lc h1)
   unfold yx at hdr
   have hr:=Lr (F:=opF D 5) (r:=(dkOf (top.seen 0)).root) (by omega) h2
   have hg : lJ N (yk D top):=⟨⟨La hD,fun k hk _=>hD k hk,ht,by show lt (opF D 5) (dkOf (top.seen 0)).root = ((lt (opF D 5) (dkOf (top.seen 0)).root).1,0); (exact Prod.ext rfl h2),hr,fun j hj=>by (cases hj),fun j hj=>by (cases hj)⟩,fun j hj=>by (cases hj)⟩
   have hl : YLen (yk D top):=fun k hk _=>hD0 k hk
   have hbare : ∀r,r = (yk D top).dk.root -> lJ N { yk D top with dk:=lz r }:=fun r e=>by
    subst e
    exact ⟨⟨hg.ok.sh,hg.ok.dv,hg.ok.tp,hg.ok.walk,hg.ok.root,fun j hj=>by (cases hj),fun j hj=>by (cases hj)⟩,fun j hj=>by (cases hj)⟩
   dsimp only
   unfold Ei
   split
   ·exact ⟨hg,hl⟩
   ·split
    ·exact ⟨hbare _ rfl,hl.kd (KD.of rfl rfl)⟩
    ·have hng:=fun j (hj : (newM (yk D top).F (yk D top).dk.root (yk D top).dk.kind (yk D top).dk.file (yk D top).dk.rate (yk D top).dk.burst).1 = some j)=>Ft (hg.ok.sh.sh hN) Bl hj
     have hni:=fun j (hj : (newM (yk D top).F (yk D top).dk.root (yk D top).dk.kind (yk D top).dk.file (yk D top).dk.rate (yk D top).dk.burst).1 = some j)=>PU hj
     split
     ·exact ⟨hbare _ rfl,hl.kd (KD.of rfl rfl)⟩
     ·rename_i j f e
      rw [e] at hng hni
      obtain ⟨a,b⟩:=hng j rfl
      obtain ⟨-,i1,i2,i3,i4,-,i5⟩:=hni j rfl
      rw [hg.ok.walk] at i1 i5
      refine ⟨⟨⟨hg.ok.sh,hg.ok.dv,hg.ok.tp,hg.ok.walk,hg.ok.root,fun k hk=>by (cases hk; exact a),fun k hk _=>by (cases hk; exact ⟨b,i1,i2,i3,i4⟩)⟩,fun k hk _ h2=>by cases hk; rw [i3]; exact i5 (i2.symm.trans h2)⟩,hl.kd (KD.of rfl rfl)⟩
theorem M2 {N : Nat} {m : lf} (h : lJ N m) (hl : YLen m) (hN : N < 900000) (ks : List (List Bool)) (h0 : (BZ m ks).1 = 0) : lJ N (BZ m ks).2 /\ YLen (BZ m ks).2:=
 Ot hN (fun k hk=>⟨DevM.crash_ok (Ax h.ok hk).1 _,(Ax h.ok hk).2.1,Nat.zero_le _⟩) (fun k hk=>by show 0 < ((devOf m k).crash _).fl.length; simp only [DevM.crash,lK]; exact hl.dev h.ok hk)
  ⟨DevM.crash_ok h.ok.tp.1 [],h.ok.tp.2.1,Nat.zero_le _,by simp only [DevM.crash,lK]; exact h.ok.tp.2.2.2⟩ h0
end Go.Proofs.YtbpblokfiajpjabGreatDoor
namespace Go.Proofs.YtbpblokfiajpjabGreatDoor
open Go.RowKit Go.SL Go.Crc
attribute [local go_sem ↓] Go.wp_at_zero Go.wp_at_succ
def AU (A : Nat -> Nat×Nat) (q k : Nat) : Value:=if k < q then .pointer (some ⟨(A k).2,0,none⟩) else .pointer none
def rnC (bs : Nat) (A : Nat -> Nat×Nat) (q : Nat) (t : Value) (dk : lI) (v : Value) : Array Value:=#[AU A q 0,AU A q 1,AU A q 2,AU A q 3,AU A q 4,t,.pointer (some ⟨bs,0,none⟩),.int .i64 dk.root,.int .i64 dk.kind,.int .i64 dk.file,.int .i64 dk.rate,.int .i64 dk.burst,v,.pointer none]
def oZ (A : Nat -> Nat×Nat) (F : ShM) (D : Nat -> DevM) (q k : Nat) : HP:=if k < q then oz A F D k else emp
def rnT (y bs : Nat) (A : Nat -> Nat×Nat) (F : ShM) (D : Nat -> DevM) (q : Nat) (t : Value) (dk : lI) (v : Value) : List SL.HP:=[pts y (.cells (rnC bs A q t dk v) 171 (0,0)),oZ A F D q 0,oZ A F D q 1,oZ A F D q 2,oZ A F D q 3,oZ A F D q 4]
abbrev rnL (y bs : Nat) (A : Nat -> Nat×Nat) (F : ShM) (D : Nat -> DevM) (q : Nat) (t : Value) (dk : lI) (v : Value) (R : List SL.HP) : List SL.HP:=rshL bs A F++(rnT y bs A F D q t dk v++R)
theorem We {y bs : Nat} {A : Nat -> Nat×Nat} {F : ShM} (D : Nat -> DevM) {t v : Value} {dk : lI} {R : List SL.HP} {w : World}
  (H : own w (pts y (.cells #[.pointer none,.pointer none,.pointer none,.pointer none,.pointer none,t,.pointer (some ⟨bs,0,none⟩),.int .i64 dk.root,.int .i64 dk.kind,.int .i64 dk.file,.int .i64 dk.rate,.int .i64 dk.burst,v,.pointer none] 171 (0,0))::(rshL bs A F++R))) : own w (rnL y bs A F D 0 t dk v R):=by
 have h1:=yy (yy (yy (yy (yy H))))
 have h2:=lp [emp,emp,emp,emp,emp] [_] h1
 exact lp (rnT y bs A F D 0 t dk v) (rshL bs A F) h2
theorem Vn {bs q : Nat} {A : Nat -> Nat×Nat} {F : ShM} {a : Nat×Nat} (hF : F q = none) : rshL bs (y7 A q a) F = rshL bs A F:=by
 have hP : ∀k,ox (y7 A q a) F k = ox A F k:=fun k=>by
  unfold ox y7
  by_cases e : k = q
  ·subst e; rw [hF]
  ·rw [zq e]
 have hV : ∀k,o5 (y7 A q a) F k = o5 A F k:=fun k=>by
  unfold o5 y7
  by_cases e : k = q
  ·subst e; rw [hF]
  ·rw [zq e]
 unfold rshL oI
 rw [hP,hP,hP,hP,hP,hV,hV,hV,hV,hV]
theorem Tv {A : Nat -> Nat×Nat} {q k : Nat} {a : Nat×Nat} : AU (y7 A q a) (q + 1) k = if k = q then .pointer (some ⟨a.2,0,none⟩) else AU A q k:=by
 unfold AU y7
 by_cases e : k = q
 ·subst e; rw [zt rfl,zt rfl,zt (by omega)]
 ·rw [zq e,zq e]
  by_cases h : k < q
  ·rw [zt h,zt (by omega)]
  ·rw [zq h,zq (by omega)]
theorem SI {A : Nat -> Nat×Nat} {F : ShM} {D : Nat -> DevM} {q k : Nat} {a : Nat×Nat} (hF : F q = none) : oZ (y7 A q a) F D (q + 1) k = if k = q then ln a.2 (D q) else oZ A F D q k:=by
 unfold oZ oz y7
 by_cases e : k = q
 ·subst e; rw [zt (by omega),hF,zt rfl,zt rfl]
 ·rw [zq e,zq e]
  by_cases h : k < q
  ·rw [zt h,zt (by omega)]
  ·rw [zq h,zq (by omega)]
theorem D9 {A : Nat -> Nat×Nat} {F : ShM} {D : Nat -> DevM} {q : Nat} : oZ A F D q q = emp:=zq (by omega)
theorem WM {y bs q c : Nat} {A : Nat -> Nat×Nat} {F : ShM} {D : Nat -> DevM} {t v : Value} {dk : lI} {R : List SL.HP} {w : World} (hq : q < 5) (hF : F q = none) (H : own w (ln c (D q)::rnL y bs A F D q t dk v R)) :
  own (w.setCell ⟨y,q,none⟩ (.pointer (some ⟨c,0,none⟩))) (rnL y bs (y7 A q (0,c)) F D (q + 1) t dk v R):=by
 have h1:=lg (b:=y) (arr:=rnC bs A q t dk v) (T:=171) (fr:=(0,0)) (i:=q) (v:=.pointer (some ⟨c,0,none⟩)) 7 H rfl
 show own _ (rshL bs (y7 A q (0,c)) F++(rnT y bs (y7 A q (0,c)) F D (q + 1) t dk v++R))
 unfold rnT rnC
 rw [Vn (A:=A) (q:=q) (a:=(0,c)) hF]
 simp only [Tv,SI hF]
 match q,hq with
 | 0,_=>exact oK 7 h1 (by show some (oZ A F D 0 0) = _; rw [D9])
 | 1,_=>exact oK 8 h1 (by show some (oZ A F D 1 1) = _; rw [D9])
 | 2,_=>exact oK 9 h1 (by show some (oZ A F D 2 2) = _; rw [D9])
 | 3,_=>exact oK 10 h1 (by show some (oZ A F D 3 3) = _; rw [D9])
 | 4,_=>exact oK 11 h1 (by show some (oZ A F D 4 4) = _; rw [D9])
theorem PS {y bs q k : Nat} {A : Nat -> Nat×Nat} {F : ShM} {D : Nat -> DevM} {t v : Value} {dk : lI} {R : List SL.HP} {w : World} (hk : k < 5) (hq : k < q) (hF : F k = none) (H : own w (rnL y bs A F D q t dk v R)) :
  own w (ln (A k).2 (D k)::(rnL y bs A F D q t dk v R).set (7 + k) emp):=by
 have e : oZ A F D q k = ln (A k).2 (D k):=by unfold oZ oz; rw [zt hq,hF]
 have hg : (rnL y bs A F D q t dk v R)[7 + k]? = some (oZ A F D q k):=by
  match k,hk with
  | 0,_=>rfl
  | 1,_=>rfl
  | 2,_=>rfl
  | 3,_=>rfl
  | 4,_=>rfl
 have h1:=Dy (7 + k) H hg
 rwa [e] at h1
theorem VF {y bs q k : Nat} {A : Nat -> Nat×Nat} {F : ShM} {D : Nat -> DevM} {t v : Value} {dk : lI} {R : List SL.HP} {w : World} (hk : k < 5) (hq : k < q) (hF : F k = none) (H : own w (ln (A k).2 (D k)::(rnL y bs A F D q t dk v R).set (7 + k) emp)) :
  own w (rnL y bs A F D q t dk v R):=by
 have e : oZ A F D q k = ln (A k).2 (D k):=by unfold oZ oz; rw [zt hq,hF]
 rw [<- e] at H
 match k,hk with
 | 0,_=>exact oK 7 H rfl
 | 1,_=>exact oK 8 H rfl
 | 2,_=>exact oK 9 H rfl
 | 3,_=>exact oK 10 H rfl
 | 4,_=>exact oK 11 H rfl
theorem Q4 {A : Nat -> Nat×Nat} {F : ShM} {D : Nat -> DevM} {q k j : Nat} {a : Nat×Nat} {i : ImgM} : oZ (setA A k a) (put F k i) D q j = if j = k then emp else oZ A F D q j:=by
 unfold oZ
 by_cases e : j = k
 ·subst e
  rw [zt rfl]
  split
  ·unfold oz; rw [zK]
  ·rfl
 ·rw [zq e]
  unfold oz
  rw [AX F i e,Cn A a e]
theorem QM {A : Nat -> Nat×Nat} {q k j bi : Nat} : AU (setA A k (bi,(A k).2)) q j = AU A q j:=by
 unfold AU
 by_cases e : j = k
 ·subst e; rw [DE]
 ·rw [Cn A _ e]
theorem TZ {y bs q k bi : Nat} {A : Nat -> Nat×Nat} {F : ShM} {D : Nat -> DevM} {t v : Value} {dk : lI} {i : ImgM} {R : List SL.HP} {w : World} (hk : k < 5) (hF : F k = none)
  (H : own w (lX bi (A k).2 i::ln (A k).2 i.d::(rnL y bs A F D q t dk v R).set (7 + k) emp)) :
  own (w.setCell ⟨bs,k,none⟩ (.pointer (some ⟨bi,0,none⟩))) (rnL y bs (setA A k (bi,(A k).2)) (put F k i) D q t dk v R):=by
 have h1:=Wa (R:=(rnT y bs A F D q t dk v++R).set (1 + k) emp) hk hF (b:=bs) (A:=A) (w:=w) (bi:=bi) (bd:=(A k).2) (m:=i) (by
  match k,hk with
  | 0,_=>exact H
  | 1,_=>exact H
  | 2,_=>exact H
  | 3,_=>exact H
  | 4,_=>exact H)
 have e : (rnT y bs A F D q t dk v++R).set (1 + k) emp = rnT y bs (setA A k (bi,(A k).2)) (put F k i) D q t dk v++R:=by
  unfold rnT rnC
  simp only [Q4,QM]
  match k,hk with
  | 0,_=>rfl
  | 1,_=>rfl
  | 2,_=>rfl
  | 3,_=>rfl
  | 4,_=>rfl
 rw [e] at h1
 exact h1
theorem PF {y bs tp : Nat} {A : Nat -> Nat×Nat} {F : ShM} {D : Nat -> DevM} {v : Value} {dk : lI} {top : DevM} {l : List Int} {R : List SL.HP} {w : World} (H : own w (rnL y bs A F D 5 (.pointer (some ⟨tp,0,none⟩)) dk v (ln tp top::row 3 1 v l.length (lo l)::R))) :
  own w (ryL ⟨y,bs,tp,A,v,0,undef⟩ ⟨F,D,top,dk,l,none⟩ R):=
 lr ((ryL ⟨y,bs,tp,A,v,0,undef⟩ ⟨F,D,top,dk,l,none⟩ R).take 14) (yy H)
theorem B9 {y bs q : Nat} {A : Nat -> Nat×Nat} {F : ShM} {D : Nat -> DevM} {t v : Value} {dk : lI} {R : List SL.HP} {w : World} (H : own w (rnL y bs A F D q t dk v R)) : (∀i,w.cell? ⟨y,i,none⟩ = (rnC bs A q t dk v)[i]?) /\ ∀i,w.frozen? ⟨y,i,none⟩ = false:=ld 6 H rfl
theorem PH {y bs q k : Nat} {A : Nat -> Nat×Nat} {F : ShM} {D : Nat -> DevM} {t v : Value} {dk : lI} {R : List SL.HP} {w : World} (hk : k < 5) (H : own w (rnL y bs A F D q t dk v R)) : w.cell? ⟨y,k,none⟩ = some (AU A q k):=by
 rw [(B9 H).1]
 have h : k = 0 \/ k = 1 \/ k = 2 \/ k = 3 \/ k = 4:=by omega
 rcases h with rfl | rfl | rfl | rfl | rfl
 all_goals rfl
theorem O2 {y bs q k c : Nat} {A : Nat -> Nat×Nat} {F : ShM} {D : Nat -> DevM} {t v : Value} {dk : lI} {R : List SL.HP} {w : World} (hk : k < 5) (hq : k < q) (hc : (A k).2 = c) (H : own w (rnL y bs A F D q t dk v R)) : w.cell? ⟨y,k,none⟩ = some (.pointer (some ⟨c,0,none⟩)):=by
 rw [PH hk H]; unfold AU; rw [zt hq,hc]
theorem Sw {y bs k : Nat} {A : Nat -> Nat×Nat} {F : ShM} {D : Nat -> DevM} {t v : Value} {dk : lI} {R : List SL.HP} {w : World} (hk : k < 5) (H : own w (rnL y bs A F D k t dk v R)) : w.cell? ⟨y,k,none⟩ = some (.pointer none):=by
 rw [PH hk H]; unfold AU; rw [zq (by omega)]
theorem Fp {y bs q : Nat} {A : Nat -> Nat×Nat} {F : ShM} {D : Nat -> DevM} {t v : Value} {dk : lI} {P : SL.HP} {R : List SL.HP} {w : World} (H : own w (P::rnL y bs A F D q t dk v R)) : own w (rnL y bs A F D q t dk v (P::R)):=by
 have h:=lr (rshL bs A F++rnT y bs A F D q t dk v) (R:=R) (by rw [zp]; exact H)
 rwa [zp] at h
theorem Mf {y bs q k : Nat} {A : Nat -> Nat×Nat} {F : ShM} {D : Nat -> DevM} {t v : Value} {dk : lI} {R : List SL.HP} {w : World} (hk : k < 5) (H : own w ((rnL y bs A F D q t dk v R).set (7 + k) emp)) : (∀i,w.cell? ⟨y,i,none⟩ = (rnC bs A q t dk v)[i]?) /\ ∀i,w.frozen? ⟨y,i,none⟩ = false:=
 ld 6 H (by rw [List.getElem?_set_ne (by omega)]; rfl)
theorem Ly {y bs q k : Nat} {A : Nat -> Nat×Nat} {F : ShM} {D : Nat -> DevM} {t v : Value} {dk : lI} {R : List SL.HP} {w : World} (hk : k < 5) (hF : F k = none) (H : own w ((rnL y bs A F D q t dk v R).set (7 + k) emp)) : w.cell? ⟨bs,k,none⟩ = some (.pointer none) /\ w.frozen? ⟨bs,k,none⟩ = false:=by
 obtain ⟨h1,h2⟩:=ld (arr:=oI A F) (T:=114) 0 H (by rw [List.getElem?_set_ne (by omega)]; rfl)
 refine ⟨?_,h2 k⟩
 rw [h1,<- CD (A:=A) hF]
 have h : k = 0 \/ k = 1 \/ k = 2 \/ k = 3 \/ k = 4:=by omega
 rcases h with rfl | rfl | rfl | rfl | rfl
 all_goals rfl
theorem WI (bs : Nat) (A : Nat -> Nat×Nat) (q : Nat) (t : Value) (dk : lI) (v : Value) {k : Nat} (hk : k < 5) : (rnC bs A q t dk v)[k]? = some (AU A q k):=by
 have h : k = 0 \/ k = 1 \/ k = 2 \/ k = 3 \/ k = 4:=by omega
 rcases h with rfl | rfl | rfl | rfl | rfl
 all_goals rfl
theorem V2 {y bs q : Nat} {A : Nat -> Nat×Nat} {F : ShM} {D : Nat -> DevM} {t v : Value} {dk : lI} {R : List SL.HP} {w : World} (d : lI) (H : own w (rnL y bs A F D q t dk v R)) :
  own (((((w.setCell ⟨y,7,none⟩ (.int .i64 d.root)).setCell ⟨y,8,none⟩ (.int .i64 d.kind)).setCell ⟨y,9,none⟩ (.int .i64 d.file)).setCell ⟨y,10,none⟩ (.int .i64 d.rate)).setCell ⟨y,11,none⟩ (.int .i64 d.burst)) (rnL y bs A F D q t d v R):=
 lg (i:=11) (v:=.int .i64 d.burst) 6 (lg (i:=10) (v:=.int .i64 d.rate) 6 (lg (i:=9) (v:=.int .i64 d.file) 6 (lg (i:=8) (v:=.int .i64 d.kind) 6 (lg (i:=7) (v:=.int .i64 d.root) 6 H rfl) rfl) rfl) rfl) rfl
theorem Vg (c p : Int) (h : lF c p (-1)) (R : List SL.HP) (w : World) (H : own w R) :
  Calls Tryz.prog 32 #[.int .i64 c,.int .i64 p] w fun e w'=>e = .returned (.tuple #[.pointer none,.int .i64 1]) /\ Ext w w' /\ own w' R:=by
 have hb:=li H (.cells #[.int .i64 c,.int .i64 p,.int .i64 (-1)] 103)
 have hxb:=(zR w).alloc (.cells #[.int .i64 c,.int .i64 p,.int .i64 (-1)] 103)
 have HC:=zh (fun (R : List SL.HP) (w : World) (H : own w R)=>zy c p (-1) R w H)
 unfold lM yu at HC
 rw [zt h] at HC
 clear h H
 go_enter Tryz.func32,Tryz.ntmps32
 go_upto_region 2 with (fail)
 generalize w.heap.size = g at *
 generalize w.alloc (.cells #[.int .i64 c,.int .i64 p,.int .i64 (-1)] 103) = w1 at *
 obtain ⟨cg,fg⟩:=ld 0 hb rfl
 have d0:=cg 0
 have d1:=cg 1
 have d2:=cg 2
 clear cg
 go_wp2_with fail
 refine (HC.out _ w1 hb).mono ?_
 rintro e w2 ⟨rfl,hx2,h2⟩
 go_wp2_with fail
 go_ret2
 exact ⟨rfl,hxb.trans hx2,le h2⟩
theorem S1 (c p : Int) (h : ¬lF c p (-1)) (R : List SL.HP) (w : World) (H : own w R) :
  Calls Tryz.prog 32 #[.int .i64 c,.int .i64 p] w fun e w'=>∃Y : RA,e = .returned (.tuple #[.pointer (some ⟨Y.y,0,none⟩),.int .i64 0]) /\ Ext w w' /\ own w' (ryL Y (DO c p) R):=by
 have hb:=li H (.cells #[.int .i64 c,.int .i64 p,.int .i64 (-1)] 103)
 have hxb:=(zR w).alloc (.cells #[.int .i64 c,.int .i64 p,.int .i64 (-1)] 103)
 have HC:=zh (fun (R : List SL.HP) (w : World) (H : own w R)=>zy c p (-1) R w H)
 have HNE:=zh (fun (R : List SL.HP) (w : World) (H : own w R)=>Ie c p (-1) h R w H)
 unfold lM yu at HC
 unfold lM at HNE
 rw [zq h] at HC
 obtain ⟨hn1,hn2,hn3⟩:=IY h
 have hcr:=Oe h
 have hnw:=Mb c p
 have hM : DO c p = (lw (AF c p) (lz 0)).2:=rfl
 have hM0 : AF c p = ⟨put (fun _=>none) 0 (newI c p),fun _=>ob (newN c p),ob 1,lz 0,[0],none⟩:=rfl
 have hI : newI c p = (oD (ob (newN c p)) c p (-1)).2:=rfl
 have HCR:=zh (fun (bd : Nat) (R : List SL.HP) (w : World) (H : own w (ln bd (ob (newN c p))::R))=>(Jb bd (ob (newN c p)) (BD (by omega)) (by show (0 : Nat) < _; decide) (by show (0 : Int) < _; decide) c p (-1) R w H).mono fun e w' h=>(h.resolve_left fun h=>h.1 hcr).2)
 unfold lM at HCR
 rw [<- hI] at HCR
 have HND:=zh (fun (R : List SL.HP) (w : World) (H : own w R)=>MX (newN c p) R w (by omega) H)
 have q1 : yz c p <= 165:=by omega
 have q2 : decide (200 < yz c p) = false:=zf (by omega)
 rw [hn1] at HND
 rw [hM]
 generalize newI c p = i0 at *
 generalize AF c p = M0 at *
 generalize newN c p = n at *
 generalize yz c p = ni at *
 have HNW:=zh hnw
 have HM0:=zh hM0
 clear h H hn1 hn2 hn3 hcr hI hM hnw hM0
 go_enter Tryz.func32,Tryz.ntmps32
 go_upto_region 2 with (fail)
 generalize w.heap.size = g at *
 generalize w.alloc (.cells #[.int .i64 c,.int .i64 p,.int .i64 (-1)] 103) = w1 at *
 obtain ⟨cg,fg⟩:=ld 0 hb rfl
 have d0:=cg 0
 have d1:=cg 1
 have d2:=cg 2
 clear cg
 go_wp2_with fail
 refine (HC.out _ w1 hb).mono ?_
 rintro e w2 ⟨rfl,hx2,h2⟩
 clear d0 d1 d2 fg
 obtain ⟨cg,fg⟩:=ld 0 h2 rfl
 have d0:=cg 0
 have d1:=cg 1
 have d2:=cg 2
 clear cg fg
 go_wp2_with fail
 refine (HNE.out _ w2 h2).mono ?_
 rintro e w3 ⟨rfl,hx3,h3⟩
 clear d0 d1 d2
 go_upto_region 7 with (fail)
 have h4:=Pq (fun _=>(0,0)) h3
 have hx4:=((hxb.trans hx2).trans hx3).alloc (.cells #[.pointer none,.pointer none,.pointer none,.pointer none,.pointer none] 114)
 go_wp2_with fail
 generalize w3.heap.size = bs at *
 generalize w3.alloc (.cells #[.pointer none,.pointer none,.pointer none,.pointer none,.pointer none] 114) = w4 at *
 refine (Dq 0 _ w4 h4).mono ?_
 rintro e w5 ⟨rfl,hx5,h5⟩
 unfold lz lI.v o8
 dsimp only
 have h6:=li h5 (.cells #[.int .i64 0] 3)
 have hx6:=(hx4.trans hx5).alloc (.cells #[.int .i64 0] 3)
 have h7 : own _ (row 3 1 (.slice (some ⟨w5.heap.size,0,none⟩) 1 1) 1 [.int .i64 0]::(rshL bs (fun _=>(0,0)) (fun _=>none)++(pts g (.cells #[.int .i64 c,.int .i64 p,.int .i64 (-1)] 103 (0,0))::R))):=yD (cap:=1) (n:=1) (sz:=1) 0 h6 rfl (Nat.le_refl _) (by decide) rfl rfl
 clear h2 h3 h4 h5 h6 hx2 hx3 hx4 hx5 hb hxb
 go_wp2_with fail
 generalize w5.heap.size = sl at *
 generalize w5.alloc (.cells #[.int .i64 0] 3) = w6 at *
 refine (MX 1 _ w6 (by decide) h7).mono ?_
 rintro e w7 ⟨tp,rfl,hx7,h8⟩
 have h9:=li h8 (.cells #[.pointer none,.pointer none,.pointer none,.pointer none,.pointer none,.pointer (some ⟨tp,0,none⟩),.pointer (some ⟨bs,0,none⟩),.int .i64 0,.int .i64 0,.int .i64 (-1),.int .i64 0,.int .i64 0,.slice (some ⟨sl,0,none⟩) 1 1,.pointer none] 171)
 have hx9:=(hx6.trans hx7).alloc (.cells #[.pointer none,.pointer none,.pointer none,.pointer none,.pointer none,.pointer (some ⟨tp,0,none⟩),.pointer (some ⟨bs,0,none⟩),.int .i64 0,.int .i64 0,.int .i64 (-1),.int .i64 0,.int .i64 0,.slice (some ⟨sl,0,none⟩) 1 1,.pointer none] 171)
 have h10:=lr (_::_::rshL bs (fun _=>(0,0)) (fun _=>none)) (lu 2 h9 rfl)
 have h11:=lr (_::rshL bs (fun _=>(0,0)) (fun _=>none)) (B1 h10)
 have h12:=We (dk:=lz 0) (fun _=>ob n) h11
 clear h7 h8 h9 h10 h11 hx6 hx7
 go_wp2_with fail
 generalize w7.heap.size = y at *
 generalize w7.alloc (.cells #[.pointer none,.pointer none,.pointer none,.pointer none,.pointer none,.pointer (some ⟨tp,0,none⟩),.pointer (some ⟨bs,0,none⟩),.int .i64 0,.int .i64 0,.int .i64 (-1),.int .i64 0,.int .i64 0,.slice (some ⟨sl,0,none⟩) 1 1,.pointer none] 171) = w8 at *
 go_loopw [9] (fun kv wr=>∃(q : Nat) (A : Nat -> Nat×Nat),q <= 5 /\ kv = .int .i64 q /\ Ext w wr /\ own wr (rnL y bs A (fun _=>none) (fun _=>ob n) q (.pointer (some ⟨tp,0,none⟩)) (lz 0) (.slice (some ⟨sl,0,none⟩) 1 1) (ln tp (ob 1)::row 3 1 (.slice (some ⟨sl,0,none⟩) 1 1) 1 [.int .i64 0]::pts g (.cells #[.int .i64 c,.int .i64 p,.int .i64 (-1)] 103 (0,0))::R))) (fun kv _=>6 - (intOf kv).toNat)
 case atStart=>exact ⟨0,_,by omega,rfl,hx9,h12⟩
 case round=>
  clear h12 hx9
  obtain ⟨q,A,hq,rfl,hxr,hown⟩:=hrel
  by_cases hlt : q < 5
  ·have g1 : (q : Int) < 5:=by omega
   have g2 : (0 : Int) <= (q : Int):=by omega
   go_upto_region 11 with (fail)
   have hz:=lj hown
   have hxz:=hxr.drew
   refine wp_region_held_drew (S:=fun w'=>w'.cell? ⟨g,0,none⟩ = some (.int .i64 c) /\ w'.cell? ⟨g,1,none⟩ = some (.int .i64 p) /\ w'.cell? ⟨g,2,none⟩ = some (.int .i64 (-1))) (by kernel_rfl) (⟨(ld 14 hz rfl).1 0,(ld 14 hz rfl).1 1,(ld 14 hz rfl).1 2⟩) (fun hHeld=>?_)
   refine tk 0 ?_
   refine tk 1 ?_
   refine tk 2 ?_
   try simp only [Act.put,tA,tB,tC,tD,tE,tF]
   refine tk 5 ?_
   refine tk 6 ?_
   try simp only [Act.put,tA,tB,tC,tD,tE,tF]
   refine rd 3 rfl fun K hK=>?_
   go_simp
   go_at_call 130
   refine (HNE.out _ _ hz).mono ?_
   rintro e w2 ⟨rfl,hx2,h2⟩
   go_simp
   refine hK.out _ _ ⟨(ld 14 h2 rfl).1 0,(ld 14 h2 rfl).1 1,(ld 14 h2 rfl).1 2⟩ (fun _=>?_)
   clear hK K
   try simp only [Act.put,tA,tB,tC,tD,tE,tF]
   refine rd 4 rfl fun K hK=>?_
   go_simp
   go_at_call 64
   refine (HND.out _ _ h2).mono ?_
   rintro e w3 ⟨cb,rfl,hx3,h3⟩
   go_simp
   have hn3:=Fp h3
   refine hK.out _ _ ⟨(ld 15 hn3 rfl).1 0,(ld 15 hn3 rfl).1 1,(ld 15 hn3 rfl).1 2⟩ (fun _=>?_)
   clear hK K
   try simp only [Act.put,tA,tB,tC,tD,tE,tF]
   refine tk 7 ?_
   try simp only [Act.put,tA,tB,tC,tD,tE,tF]
   have cy:=Sw hlt hn3
   have fy:=(B9 hn3).2 q
   have h4:=WM (D:=fun _=>ob n) (F:=fun _=>none) (q:=q) hlt rfl h3
   refine rd 8 rfl fun K hK=>?_
   go_simp
   refine hK.out _ _ ⟨(ld 14 h4 rfl).1 0,(ld 14 h4 rfl).1 1,(ld 14 h4 rfl).1 2⟩ (fun _=>?_)
   clear hK K
   try simp only [Act.put,tA,tB,tC,tD,tE,tF]
   refine wpAnyH_done (by kernel_rfl) ?_ _
   go_wp2_with fail
   go_roundw
   case rel=>exact ⟨q + 1,_,by omega,by go_num,(((hxz.trans hx2).trans hx3).setCell _ _),h4⟩
   case measure=>simp [intOf]; omega
  ·obtain rfl : q = 5:=by omega
   have hk0 : (0 : Nat) < 5:=by decide
   go_upto_region 12 with (fail)
   have hz:=lj hown
   have hxz:=hxr.drew
   refine wp_region_held_drew (S:=fun w'=>w'.cell? ⟨y,0,none⟩ = some (.pointer (some ⟨(A 0).2,0,none⟩)) /\ w'.cell? ⟨g,0,none⟩ = some (.int .i64 c) /\ w'.cell? ⟨g,1,none⟩ = some (.int .i64 p) /\ w'.cell? ⟨g,2,none⟩ = some (.int .i64 (-1))) (by kernel_rfl) (⟨O2 hk0 hk0 rfl hz,(ld 14 hz rfl).1 0,(ld 14 hz rfl).1 1,(ld 14 hz rfl).1 2⟩) (fun hHeld=>?_)
   refine tk 0 ?_
   refine tk 1 ?_
   refine tk 2 ?_
   refine tk 3 ?_
   refine tk 4 ?_
   refine tk 5 ?_
   try simp only [Act.put,tA,tB,tC,tD,tE,tF]
   refine rd 6 rfl fun K hK=>?_
   go_simp
   go_at_call 63
   refine (HCR.out _ _ _ (PS (D:=fun _=>ob n) hk0 hk0 rfl hz)).mono ?_
   rintro e w5 ⟨bi,rfl,hx5,h5⟩
   have h5d:=zl [_,_] h5
   obtain ⟨ny1,ny2⟩:=Mf hk0 h5d
   have gd:=(fun i=>(ld (l:=(rnL y bs A (fun _=>none) (fun _=>ob n) 5 (.pointer (some ⟨tp,0,none⟩)) (lz 0) (.slice (some ⟨sl,0,none⟩) 1 1) (ln tp (ob 1)::row 3 1 (.slice (some ⟨sl,0,none⟩) 1 1) 1 [.int .i64 0]::pts g (.cells #[.int .i64 c,.int .i64 p,.int .i64 (-1)] 103 (0,0))::R)).set (7 + 0) emp) 14 h5d rfl).1 i)
   go_simp
   refine hK.out _ _ ⟨by rw [ny1]; exact WI _ _ _ _ _ _ hk0,gd 0,gd 1,gd 2⟩ (fun _=>?_)
   clear hK K
   try simp only [Act.put,tA,tB,tC,tD,tE,tF]
   refine tk 7 ?_
   refine tk 8 ?_
   refine tk 9 ?_
   refine tk 10 ?_
   refine tk 11 ?_
   try simp only [Act.put,tA,tB,tC,tD,tE,tF]
   refine wpAnyH_done (by kernel_rfl) ?_ _
   have c6 : w5.cell? ⟨y,6,none⟩ = some (.pointer (some ⟨bs,0,none⟩)):=ny1 6
   obtain ⟨cs,fs⟩:=Ly hk0 rfl h5d
   have h6:=TZ (i:=i0) (bi:=bi) hk0 rfl h5
   have h7:=PF (l:=[0]) h6
   have hx6:=(hxz.trans hx5).setCell (⟨bs,0,none⟩ : Addr) (.pointer (some ⟨bi,0,none⟩))
   clear gd ny1 ny2 h5 h5d hz hown h6
   go_upto_region 14 with (fail)
   generalize w5.setCell ⟨bs,0,none⟩ (.pointer (some ⟨bi,0,none⟩)) = w6 at *
   change own w6 (ryL ⟨y,bs,tp,setA A 0 (bi,(A 0).2),.slice (some ⟨sl,0,none⟩) 1 1,0,undef⟩ ⟨put (fun _=>none) 0 i0,fun _=>ob n,ob 1,lz 0,[0],none⟩ _) at h7
   rw [<- HM0.out] at h7
   clear c6 cs fs
   have c7 : w6.cell? ⟨y,7,none⟩ = some (.int .i64 0):=by have:=zC h7; rw [HM0.out] at this; exact this
   have c8 : w6.cell? ⟨y,8,none⟩ = some (.int .i64 0):=by have:=Co h7; rw [HM0.out] at this; exact this
   have c9 : w6.cell? ⟨y,9,none⟩ = some (.int .i64 (-1)):=by have:=Cr h7; rw [HM0.out] at this; exact this
   have c10 : w6.cell? ⟨y,10,none⟩ = some (.int .i64 0):=by have:=Dz h7; rw [HM0.out] at this; exact this
   have c11 : w6.cell? ⟨y,11,none⟩ = some (.int .i64 0):=by have:=CR h7; rw [HM0.out] at this; exact this
   have hw:=fun R' w' h=>Bo ⟨y,bs,tp,setA A 0 (bi,(A 0).2),.slice (some ⟨sl,0,none⟩) 1 1,0,undef⟩ M0 (by rw [HM0.out]; exact BD (by decide)) (by rw [HM0.out]; show (0 : Int) < _; decide) (by rw [HM0.out]; show (0 : Nat) < _; decide) (lz 0) (BQ (by decide) (by decide)) R' w' h
   rw [HNW.out] at hw
   have HWR:=zh hw
   clear hw
   go_wp2_with fail
   refine (HWR.out _ w6 h7).mono ?_
   rintro e w8 ⟨rfl,hx8,h8⟩
   go_wp2_with fail
   go_ret2
   exact ⟨_,rfl,hx6.trans hx8,zB h8⟩
def yt (B : Nat -> Nat) (D : Nat -> DevM) : Nat -> List SL.HP
 | 0=>[]
 | q + 1=>ln (B q) (D q)::yt B D q
def JV (B : Nat -> Nat) : Value:=.agg #[.pointer (some ⟨B 0,0,none⟩),.pointer (some ⟨B 1,0,none⟩),.pointer (some ⟨B 2,0,none⟩),.pointer (some ⟨B 3,0,none⟩),.pointer (some ⟨B 4,0,none⟩)]
def Mh (S : Int×lf) (R : List SL.HP) (w : World) (e : Ending) (w' : World) : Prop:=
 (S.1≠0 /\ e = .returned (.tuple #[.pointer none,.int .i64 S.1]) /\ Ext w w' /\ own w' R) \/
 (S.1 = 0 /\ ∃Y : RA,e = .returned (.tuple #[.pointer (some ⟨Y.y,0,none⟩),.int .i64 0]) /\ Ext w w' /\ own w' (ryL Y S.2 R))
theorem WH {y bs : Nat} {B : Nat -> Nat} {D : Nat -> DevM} {t v : Value} {dk : lI} {X : List SL.HP} {w : World}
  (H : own w (pts y (.cells #[.pointer (some ⟨B 0,0,none⟩),.pointer (some ⟨B 1,0,none⟩),.pointer (some ⟨B 2,0,none⟩),.pointer (some ⟨B 3,0,none⟩),.pointer (some ⟨B 4,0,none⟩),t,.pointer (some ⟨bs,0,none⟩),.int .i64 dk.root,.int .i64 dk.kind,.int .i64 dk.file,.int .i64 dk.rate,.int .i64 dk.burst,v,.pointer none] 171 (0,0))::(rshL bs (fun k=>(0,B k)) (fun _=>none)++(yt B D 5++X)))) : own w (rnL y bs (fun k=>(0,B k)) (fun _=>none) D 5 t dk v X):=by
 have h1:=lr (rshL bs (fun k=>(0,B k)) (fun _=>none)) H
 refine JQ (List.Perm.append_left (rshL bs (fun k=>(0,B k)) (fun _=>none)) ?_) h1
 have h2 : (yt B D 5).Perm [oZ (fun k=>(0,B k)) (fun _=>none) D 5 0,oZ (fun k=>(0,B k)) (fun _=>none) D 5 1,oZ (fun k=>(0,B k)) (fun _=>none) D 5 2,oZ (fun k=>(0,B k)) (fun _=>none) D 5 3,oZ (fun k=>(0,B k)) (fun _=>none) D 5 4]:=List.reverse_perm [oZ (fun k=>(0,B k)) (fun _=>none) D 5 0,oZ (fun k=>(0,B k)) (fun _=>none) D 5 1,oZ (fun k=>(0,B k)) (fun _=>none) D 5 2,oZ (fun k=>(0,B k)) (fun _=>none) D 5 3,oZ (fun k=>(0,B k)) (fun _=>none) D 5 4]
 exact (h2.append_right X).cons _
theorem DL {Y : RA} {m : lf} {R : List SL.HP} {w : World} (d : lI) (H : own w (ryL Y m R)) :
  own (((((w.setCell ⟨Y.y,7,none⟩ (.int .i64 d.root)).setCell ⟨Y.y,8,none⟩ (.int .i64 d.kind)).setCell ⟨Y.y,9,none⟩ (.int .i64 d.file)).setCell ⟨Y.y,10,none⟩ (.int .i64 d.rate)).setCell ⟨Y.y,11,none⟩ (.int .i64 d.burst)) (ryL Y { m with dk:=d } R):=
 lg (i:=11) (v:=.int .i64 d.burst) 6 (lg (i:=10) (v:=.int .i64 d.rate) 6 (lg (i:=9) (v:=.int .i64 d.file) 6 (lg (i:=8) (v:=.int .i64 d.kind) 6 (lg (i:=7) (v:=.int .i64 d.root) 6 H rfl) rfl) rfl) rfl) rfl
theorem SK {Y : RA} {m : lf} {F : ShM} {j : JobM} {bj : Nat} {v : Value} {R : List SL.HP} {w : World} (H : own w (rshL Y.bs Y.A F++(lB Y.bs bj v j::(row 3 1 v j.list.length (lo j.list)::(ryT Y m++R))))) :
  own w (rshL Y.bs Y.A F++(ryT Y m++(lB Y.bs bj v j::(row 3 1 v j.list.length (lo j.list)::R)))):=
 T5 (rshL Y.bs Y.A F) [lB Y.bs bj v j,row 3 1 v j.list.length (lo j.list)] (ryT Y m) (R:=R) H
end Go.Proofs.YtbpblokfiajpjabGreatDoor
