/- Lemmas on which TopAlone and TopCrash stands: the texts Yard18 Yard19 Yard15 YardP4 YardT4. No conditions. -/
import Derived.Test.YtbpblokfiajpjabGreatDoorPk37ae533b3a
set_option linter.all false
set_option maxRecDepth 1000000
set_option maxHeartbeats 32000000
namespace Go.Proofs.YtbpblokfiajpjabGreatDoor
open Go.RowKit Go.SL Go.Crc
attribute [local go_sem ↓] Go.wp_at_zero Go.wp_at_succ
theorem Mo (N : Nat) (B : Nat -> Nat) (D : Nat -> DevM) (hD : ∀k,k < 5 -> (D k).Ok /\ (D k).writes <= N /\ (D k).pend.length <= N) (hD0 : ∀k,k < 5 -> 0 < (D k).fl.length) (hN : N < 900000) (tb : Nat) (top : DevM) (ht : top.Ok) (ht0 : 0 < top.fl.length) (v : Value) (R : List SL.HP) (hv : ∀w' L,own w' (L++R) -> KM w' v B) (w : World) (H : own w (devL B D 5++(lj tb top::R))) :
  Calls Tryz.prog 27 #[v,.pointer (some ⟨tb,0,none⟩)] w (Jm (yj D top) (devL B D 5++(lj tb top::R)) w):=by
 obtain ⟨fb,foff,fcap,rfl,-⟩:=hv w (devL B D 5++[lj tb top]) (by simpa only [zp,List.singleton_append] using H)
 have HV:=zh (fun (w' : World) (L : List SL.HP) (k : Nat) (hk : k < 5) (h : own w' (L++R))=>show w'.cell? ⟨fb,foff + k,none⟩ = some (.pointer (some ⟨B k,0,none⟩)) from (by
  obtain ⟨b,o,c,he,hc⟩:=hv w' L h
  simp only [Value.slice.injEq,Option.some.injEq,Addr.mk.injEq,true_and,and_true] at he
  obtain ⟨⟨rfl,rfl⟩,rfl⟩:=he
  exact hc k hk))
 have HD:=zh (fun k (hk : k < 5)=>(hD k hk).1)
 have HD0:=zh hD0
 have HW:=zh (Ix hD)
 have HTS:=zh (BJ ht (a:=0) (by omega) (by omega))
 have HT:=zh ht
 have HT0:=zh ht0
 generalize hX : devL B D 5++(lj tb top::R) = X at *
 have HX:=zh hX
 clear hX hv hD hD0 ht ht0
 have h1:=UC (fun _=>(0,0,0)) H
 have hx1:=(zR w).alloc (.cells #[.pointer none,.pointer none,.pointer none,.pointer none,.pointer none] 111)
 go_enter Tryz.func27,Tryz.ntmps27
 go_upto_region 3 with (fail)
 go_wp2_with fail
 generalize w.heap.size = bs at *
 generalize w.alloc (.cells #[.pointer none,.pointer none,.pointer none,.pointer none,.pointer none] 111) = w1 at *
 have h1' : own w1 (lj tb top::(shL bs (fun _=>(0,0,0)) (fun _=>none)++X).eraseIdx 11):=by
  rw [<- HX.out] at h1 ⊢
  exact lE 11 h1 rfl
 refine (FZ tb top HT.out _ w1 h1').mono ?_
 rintro e w2 ⟨tp,rfl,hx2,h2⟩
 have h3 : own w2 (lj tp top::(shL bs (fun _=>(0,0,0)) (fun _=>none)++X)):=by
  refine J2 (l:=lj tp top::(shL bs (fun _=>(0,0,0)) (fun _=>none)++X)) (P:=lj tb top) 12 ?_ (Ei h2)
  rw [<- HX.out]; rfl
 have h4:=lC (shL bs (fun _=>(0,0,0)) (fun _=>none)) h3
 have h5:=lh h4 (.cells #[.pointer none,.pointer none,.pointer none,.pointer none,.pointer none,.pointer (some ⟨tp,0,none⟩),.pointer (some ⟨bs,0,none⟩),.int .i64 0,.int .i64 0,.int .i64 0,.int .i64 0,.int .i64 0,.slice none 0 0,.pointer none] 165)
 have h6:=WA (dk:=⟨0,0,0,0,0⟩) D h5
 have hx6:=(hx1.trans hx2).alloc (.cells #[.pointer none,.pointer none,.pointer none,.pointer none,.pointer none,.pointer (some ⟨tp,0,none⟩),.pointer (some ⟨bs,0,none⟩),.int .i64 0,.int .i64 0,.int .i64 0,.int .i64 0,.int .i64 0,.slice none 0 0,.pointer none] 165)
 clear H h1 h1' h2 h3 h4 h5 hx1 hx2
 go_wp2_with fail
 generalize w2.heap.size = y at *
 generalize w2.alloc (.cells #[.pointer none,.pointer none,.pointer none,.pointer none,.pointer none,.pointer (some ⟨tp,0,none⟩),.pointer (some ⟨bs,0,none⟩),.int .i64 0,.int .i64 0,.int .i64 0,.int .i64 0,.int .i64 0,.slice none 0 0,.pointer none] 165) = w3 at *
 have hF0 : (fun _=>none : ShM) = opF D 0:=funext fun k=>by unfold opF; rw [zq (by omega)]
 rw [hF0] at h6
 clear hF0
 go_loopw [26] (fun kv wr=>∃(q : Nat) (A : Nat -> Nat×Nat×Nat),q <= 5 /\ kv = .int .i64 q /\ Ext w wr /\ own wr (nL y bs A (opF D q) D q (.pointer (some ⟨tp,0,none⟩)) ⟨0,0,0,0,0⟩ (.slice none 0 0) (lj tp top::X))) (fun kv _=>6 - (intOf kv).toNat)
 case atStart=>exact ⟨0,_,by omega,rfl,hx6,h6⟩
 case round=>
  clear h6 hx6
  obtain ⟨q,A,hq,rfl,hxr,hown⟩:=hrel
  by_cases hlt : q < 5
  ·have g1 : (q : Int) < 5:=by omega
   have g2 : (0 : Int) <= (q : Int):=by omega
   have cf:=HV.out wr (shL bs A (opF D q)++(nT y bs A (opF D q) D q (.pointer (some ⟨tp,0,none⟩)) ⟨0,0,0,0,0⟩ (.slice none 0 0)++(lj tp top::(devL B D 5++[lj tb top])))) q hlt (by rw [<- HX.out] at hown; simpa only [zp,List.cons_append,List.nil_append] using hown)
   have hop:=IL (D q)
   have hno:=Sj (D q)
   have HOP:=zh (fun (bd : Nat) (R : List SL.HP) (w : World) (H : own w (lj bd (D q)::R))=>Wv bd (D q) (HD.out q hlt) (HD0.out q hlt) R w H)
   have hoy:=Xx (D:=D) (q:=q)
   have hon:=XI (D:=D) (q:=q)
   generalize zB (D q) = OR at *
   obtain ⟨oc,oi⟩:=OR
   dsimp only at hop hno hoy hon
   have HOY:=zh hoy
   have HON:=zh hon
   have HOD:=zh hop
   clear hoy hon hop
   go_upto_region 9 with (fail)
   have hz:=ln hown
   have hxz:=hxr.drew
   refine wp_region_held_drew (S:=fun _=>True) (by kernel_rfl) trivial (fun hHeld=>?_)
   refine tk 0 ?_
   refine tk 1 ?_
   refine tk 2 ?_
   try simp only [Act.put,tA,tB,tC,tD,tE,tF]
   refine tk 4 ?_
   refine tk 5 ?_
   try simp only [Act.put,tA,tB,tC,tD,tE,tF]
   refine rd 3 rfl fun K hK=>?_
   go_simp
   go_at_call 94
   have hz':=hz
   rw [<- HX.out] at hz'
   refine (FZ (B q) (D q) (HD.out q hlt) _ _ (Yd hlt hz')).mono ?_
   rintro e w4 ⟨c,rfl,hx4,h4'⟩
   have h4:=n_in hlt h4'
   rw [HX.out] at h4
   go_simp
   refine hK.out _ _ trivial (fun _=>?_)
   clear hK K hz' h4'
   try simp only [Act.put,tA,tB,tC,tD,tE,tF]
   refine tk 6 ?_
   try simp only [Act.put,tA,tB,tC,tD,tE,tF]
   have hn4:=EA h4
   have cy:=Mn hlt hn4
   have fy:=(A5 hn4).2 q
   have h5:=WB (D:=D) (F:=opF D q) (q:=q) hlt (En D q) h4
   have hx5:=(hxz.trans hx4).setCell (⟨y,q,none⟩ : Addr) (.pointer (some ⟨c,0,none⟩))
   refine rd 7 rfl fun K hK=>?_
   go_simp
   refine hK.out _ _ trivial (fun _=>?_)
   clear hK K cy fy
   try simp only [Act.put,tA,tB,tC,tD,tE,tF]
   refine wpAnyH_done (by kernel_rfl) ?_ _
   generalize w4.setCell ⟨y,q,none⟩ (.pointer (some ⟨c,0,none⟩)) = w5 at *
   have hA : ((stA A q (0,c,0)) q).2.1 = c:=by unfold stA; rw [zt rfl]
   generalize stA A q (0,c,0) = A2 at *
   clear hown hz hxz hx4 h4 hn4 hxr cf hHeld
   have HS:=zh (fun (w' : World) (v : Value) (F : ShM) (dk : lR) (t : Value) (R' : List SL.HP) (h : own w' (nL y bs A2 F D (q + 1) t dk v R'))=>show w'.cell? ⟨y,6,none⟩ = some (.pointer (some ⟨bs,0,none⟩)) /\ w'.cell? ⟨y,q,none⟩ = some (.pointer (some ⟨c,0,none⟩)) from ⟨n_bs h,Kj hlt (Nat.lt_succ_self q) hA h⟩)
   have hT5:=fun (w' : World) (h : own w' (nL y bs A2 (opF D q) D (q + 1) (.pointer (some ⟨tp,0,none⟩)) ⟨0,0,0,0,0⟩ (.slice none 0 0) (lj tp top::X)))=>X2 (k:=q) hlt (Nat.lt_succ_self q) (En D q) h
   have hB5:=fun (w' : World) h=>XR (y:=y) (bs:=bs) (A:=A2) (F:=opF D q) (D:=D) (q:=q + 1) (t:=.pointer (some ⟨tp,0,none⟩)) (dk:=⟨0,0,0,0,0⟩) (v:=.slice none 0 0) (R:=lj tp top::X) (w:=w') (k:=q) hlt (Nat.lt_succ_self q) (En D q) h
   have hI5:=fun (w' : World) (i : ImgM) (bi bh : Nat) h=>Yn (y:=y) (bs:=bs) (A:=A2) (F:=opF D q) (D:=D) (q:=q + 1) (t:=.pointer (some ⟨tp,0,none⟩)) (dk:=⟨0,0,0,0,0⟩) (v:=.slice none 0 0) (R:=lj tp top::X) (w:=w') (k:=q) (i:=i) (bi:=bi) (bh:=bh) hlt (En D q) h
   have HH5:=zh (fun (w' : World) (h : own w' ((nL y bs A2 (opF D q) D (q + 1) (.pointer (some ⟨tp,0,none⟩)) ⟨0,0,0,0,0⟩ (.slice none 0 0) (lj tp top::X)).set (7 + q) emp))=>show w'.cell? ⟨y,6,none⟩ = some (.pointer (some ⟨bs,0,none⟩)) /\ w'.cell? ⟨y,q,none⟩ = some (.pointer (some ⟨c,0,none⟩)) from ⟨(NY hlt h).1 6,by rw [(NY hlt h).1,Yl _ _ _ _ _ _ hlt]; unfold A3; rw [zt (Nat.lt_succ_self q),hA]⟩)
   have HS2:=zh (fun (w' : World) (F : ShM) (bi bh : Nat) (h : own w' (nL y bs (setA A2 q (bi,c,bh)) F D (q + 1) (.pointer (some ⟨tp,0,none⟩)) ⟨0,0,0,0,0⟩ (.slice none 0 0) (lj tp top::X)))=>show w'.cell? ⟨y,6,none⟩ = some (.pointer (some ⟨bs,0,none⟩)) /\ w'.cell? ⟨y,q,none⟩ = some (.pointer (some ⟨c,0,none⟩)) from ⟨n_bs h,Kj hlt (Nat.lt_succ_self q) (by rw [Iw]) h⟩)
   rw [hA] at hT5 hB5 hI5
   have HT5:=zh hT5
   have HB5:=zh hB5
   have HI5:=zh hI5
   clear hT5 hB5 hI5 hA
   by_cases hoc : oc = 0
   ·have hF:=HOY.out hoc
    have HF:=zh hF
    have HO2:=zh (fun (bd : Nat) (R : List SL.HP) (w : World) (H : own w (lj bd (D q)::R))=>(HOP.out bd R w H).mono fun e w' h=>(h.resolve_left fun h=>h.1 hoc).2)
    dsimp only at HO2
    clear hF hoc hno HOY HON HOP
    go_upto_region 10 with (fail)
    have hz:=ln h5
    have hxz:=hx5.drew
    refine wp_region_held_drew (S:=fun w'=>w'.cell? ⟨y,6,none⟩ = some (.pointer (some ⟨bs,0,none⟩)) /\ w'.cell? ⟨y,q,none⟩ = some (.pointer (some ⟨c,0,none⟩))) (by kernel_rfl) (HS.out _ _ _ _ _ _ hz) (fun hHeld=>?_)
    refine tk 0 ?_
    refine tk 1 ?_
    refine tk 2 ?_
    refine tk 3 ?_
    refine tk 4 ?_
    refine tk 5 ?_
    refine tk 6 ?_
    refine tk 7 ?_
    refine tk 8 ?_
    refine tk 9 ?_
    refine tk 10 ?_
    try simp only [Act.put,tA,tB,tC,tD,tE,tF]
    refine tk 15 ?_
    try simp only [Act.put,tA,tB,tC,tD,tE,tF]
    refine rd 11 rfl fun K hK=>?_
    go_simp
    go_at_call 95
    refine (HO2.out _ _ _ (HT5.out _ hz)).mono ?_
    rintro e w6 ⟨bi,bh,rfl,hx6,h6⟩
    have z6 : w6.cell? ⟨y,6,none⟩ = some (.pointer (some ⟨bs,0,none⟩)) /\ w6.cell? ⟨y,q,none⟩ = some (.pointer (some ⟨c,0,none⟩)):=HH5.out _ (Aq [_,_] h6)
    have hxx:=(hxz.trans hx6).setCell (⟨bs,q,none⟩ : Addr) (.pointer (some ⟨bi,0,none⟩))
    have cs:=Vq hlt (En D q) (Aq [_,_] h6)
    have h7:=HI5.out w6 oi bi bh h6
    go_simp
    refine hK.out _ _ z6 (fun _=>?_)
    clear hK K
    try simp only [Act.put,tA,tB,tC,tD,tE,tF]
    refine tk 12 ?_
    refine tk 13 ?_
    refine tk 14 ?_
    try simp only [Act.put,tA,tB,tC,tD,tE,tF]
    refine tk 16 ?_
    try simp only [Act.put,tA,tB,tC,tD,tE,tF]
    obtain ⟨cs1,cs2⟩:=cs
    refine rd 17 rfl fun K hK=>?_
    go_simp
    refine hK.out _ _ (HS2.out _ _ _ _ h7) (fun _=>?_)
    clear hK K
    try simp only [Act.put,tA,tB,tC,tD,tE,tF]
    refine wpAnyH_done (by kernel_rfl) ?_ _
    go_wp2_with fail
    go_roundw
    case rel=>exact ⟨q + 1,_,by omega,by go_num,hxx,by rw [HF.out]; exact h7⟩
    case measure=>simp [intOf]; omega
   ·have hF:=HON.out hoc
    have HF:=zh hF
    have HO2:=zh (fun (bd : Nat) (R : List SL.HP) (w : World) (H : own w (lj bd (D q)::R))=>(HOP.out bd R w H).mono fun e w' h=>(h.resolve_right fun h=>hoc h.1).2)
    have hop : 0 < oc:=by omega
    dsimp only at HO2
    rw [HOD.out,lv hop] at HO2
    clear hF hoc hno HOY HON HOP hop
    go_upto_region 10 with (fail)
    have hz:=ln h5
    have hxz:=hx5.drew
    refine wp_region_held_drew (S:=fun w'=>w'.cell? ⟨y,6,none⟩ = some (.pointer (some ⟨bs,0,none⟩)) /\ w'.cell? ⟨y,q,none⟩ = some (.pointer (some ⟨c,0,none⟩))) (by kernel_rfl) (HS.out _ _ _ _ _ _ hz) (fun hHeld=>?_)
    refine tk 0 ?_
    refine tk 1 ?_
    refine tk 2 ?_
    refine tk 3 ?_
    refine tk 4 ?_
    refine tk 5 ?_
    refine tk 6 ?_
    refine tk 7 ?_
    refine tk 8 ?_
    refine tk 9 ?_
    refine tk 10 ?_
    try simp only [Act.put,tA,tB,tC,tD,tE,tF]
    refine tk 15 ?_
    try simp only [Act.put,tA,tB,tC,tD,tE,tF]
    refine rd 11 rfl fun K hK=>?_
    go_simp
    go_at_call 95
    refine (HO2.out _ _ _ (HT5.out _ hz)).mono ?_
    rintro e w6 ⟨rfl,hx6,h6'⟩
    have h6:=HB5.out _ h6'
    have z6:=HS.out _ _ _ _ _ _ h6
    have hxx:=(hxz.trans hx6).setCell (⟨bs,q,none⟩ : Addr) (.pointer none)
    have cs1:=ou (R:=nT y bs A2 (opF D q) D (q + 1) (.pointer (some ⟨tp,0,none⟩)) ⟨0,0,0,0,0⟩ (.slice none 0 0)++(lj tp top::X)) h6 hlt
    rw [CV (En D q)] at cs1
    have cs2:=LV (R:=nT y bs A2 (opF D q) D (q + 1) (.pointer (some ⟨tp,0,none⟩)) ⟨0,0,0,0,0⟩ (.slice none 0 0)++(lj tp top::X)) h6 q
    have h7:=SS (R:=nT y bs A2 (opF D q) D (q + 1) (.pointer (some ⟨tp,0,none⟩)) ⟨0,0,0,0,0⟩ (.slice none 0 0)++(lj tp top::X)) hlt (En D q) h6
    go_simp
    refine hK.out _ _ z6 (fun _=>?_)
    clear hK K
    try simp only [Act.put,tA,tB,tC,tD,tE,tF]
    refine tk 12 ?_
    refine tk 13 ?_
    refine tk 14 ?_
    try simp only [Act.put,tA,tB,tC,tD,tE,tF]
    refine tk 16 ?_
    try simp only [Act.put,tA,tB,tC,tD,tE,tF]
    refine rd 17 rfl fun K hK=>?_
    go_simp
    refine hK.out _ _ (HS.out _ _ _ _ _ _ h7) (fun _=>?_)
    clear hK K
    try simp only [Act.put,tA,tB,tC,tD,tE,tF]
    refine wpAnyH_done (by kernel_rfl) ?_ _
    go_wp2_with fail
    go_roundw
    case rel=>exact ⟨q + 1,_,by omega,by go_num,hxx,by rw [HF.out]; exact h7⟩
    case measure=>simp [intOf]; omega
  ·obtain rfl : q = 5:=by omega
   have ct : wr.cell? ⟨y,5,none⟩ = some (.pointer (some ⟨tp,0,none⟩)):=(A5 hown).1 5
   have hn:=(HT.out).n
   have ht0:=HT0.out
   have hrd:=FS tp top HT.out 0 _ wr (lE 12 hown rfl)
   rw [zq (by omega)] at hrd
   have HRD:=zh hrd
   have hdk:=fun (R : List SL.HP) (w : World) (H : own w R)=>NO (top.seen 0) (by have:=HTS.out; omega) R w H
   have hop : yj D top = yj D top:=rfl
   have hE : yj D top = if (oV (top.seen 0)).2≠0 then ((oV (top.seen 0)).2,oO D top)
    else if (lr (opF D 5) (dkOf (top.seen 0)).root).2≠0 then ((lr (opF D 5) (dkOf (top.seen 0)).root).2,oO D top)
    else (0,zT (oO D top)):=rfl
   have hE0 : oO D top = ⟨opF D 5,D,top,dkOf (top.seen 0),(lr (opF D 5) (dkOf (top.seen 0)).root).1,none⟩:=rfl
   have hdf : 0 <= (oV (top.seen 0)).2:=Gs _
   have hdr : (oV (top.seen 0)).2 = 0 -> 0 <= (oV (top.seen 0)).1.1:=fun h=>by
    have h1:=Jx (QD h)
    unfold zz dkOf at h1
    dsimp only at h1
    omega
   unfold dkOf at hE hE0
   generalize yj D top = OS at *
   generalize oO D top = O0 at *
   generalize hs0 : top.seen 0 = s0 at *
   generalize oV s0 = DK at *
   obtain ⟨⟨r,k,f,a,b⟩,dc⟩:=DK
   dsimp only at hE hE0 hdk hdf hdr
   have HDR:=zh hdr
   clear hdr
   unfold zO at hdk
   have HDK:=zh hdk
   have HE:=zh hE
   have HE0:=zh hE0
   clear hdk hE hE0 hrd hop hn ht0
   go_wp2_with fail
   refine HRD.out.mono ?_
   rintro e w' ⟨rfl,rfl⟩
   go_wp2_with fail
   refine (HDK.out _ wr hown).mono ?_
   rintro e w2 ⟨rfl,hx2,h2⟩
   have cy:=A5 h2
   obtain ⟨cy1,cy2⟩:=cy
   have e7 : w2.cell? ⟨y,7,none⟩ = some (.int .i64 0):=cy1 7
   have e8 : w2.cell? ⟨y,8,none⟩ = some (.int .i64 0):=cy1 8
   have e9 : w2.cell? ⟨y,9,none⟩ = some (.int .i64 0):=cy1 9
   have e10 : w2.cell? ⟨y,10,none⟩ = some (.int .i64 0):=cy1 10
   have e11 : w2.cell? ⟨y,11,none⟩ = some (.int .i64 0):=cy1 11
   have h3:=XL ⟨r,k,f,a,b⟩ h2
   dsimp only at h3
   have hx3:=(((((hxr.trans hx2).setCell (⟨y,7,none⟩ : Addr) (.int .i64 r)).setCell (⟨y,8,none⟩ : Addr) (.int .i64 k)).setCell (⟨y,9,none⟩ : Addr) (.int .i64 f)).setCell (⟨y,10,none⟩ : Addr) (.int .i64 a)).setCell (⟨y,11,none⟩ : Addr) (.int .i64 b)
   clear ct cy1 hown hxr hx2 h2
   by_cases hdc : dc = 0
   ·subst hdc
    rw [lS]
    go_upto_region 18 with (fail)
    clear e7 e8 e9 e10 e11 cy2
    generalize ((((w2.setCell ⟨y,7,none⟩ (.int .i64 r)).setCell ⟨y,8,none⟩ (.int .i64 k)).setCell ⟨y,9,none⟩ (.int .i64 f)).setCell ⟨y,10,none⟩ (.int .i64 a)).setCell ⟨y,11,none⟩ (.int .i64 b) = w3 at *
    have hwk:=fun (R : List SL.HP) (w : World) (H : own w (shL bs A (opF D 5)++R))=>Cq bs A (opF D 5) (HW.out.sh hN) r R w H
    have hrt : (lr (opF D 5) r).2 = 0 -> lz (opF D 5) r:=fun h=>QF (HDR.out (by first | trivial | rfl)) h
    have hwc : 0 <= (lr (opF D 5) r).2:=Ar
    unfold BH at hwk
    have HE2:=HE.out
    rw [zq (by decide)] at HE2
    have HE0':=HE0.out
    generalize lr (opF D 5) r = WK at *
    obtain ⟨wl,wc⟩:=WK
    dsimp only at hwk hwc hrt HE2 HE0'
    have HWK:=zh hwk
    have HRT:=zh hrt
    have HEE:=zh HE2
    have HE00:=zh HE0'
    clear hwk hrt HE2 HE0' HE HE0 HDK HRD
    have hz:=ln h3
    have hxz:=hx3.drew
    have HS:=zh (fun (w' : World) (v : Value) (R' : List SL.HP) (h : own w' (nL y bs A (opF D 5) D 5 (.pointer (some ⟨tp,0,none⟩)) ⟨r,k,f,a,b⟩ v R'))=>show w'.cell? ⟨y,6,none⟩ = some (.pointer (some ⟨bs,0,none⟩)) /\ w'.cell? ⟨y,7,none⟩ = some (.int .i64 r) from ⟨n_bs h,(A5 h).1 7⟩)
    refine wp_region_held_drew (S:=fun w'=>w'.cell? ⟨y,6,none⟩ = some (.pointer (some ⟨bs,0,none⟩)) /\ w'.cell? ⟨y,7,none⟩ = some (.int .i64 r)) (by kernel_rfl) (HS.out _ _ _ hz) (fun hHeld=>?_)
    refine tk 0 ?_
    refine tk 1 ?_
    refine tk 2 ?_
    refine tk 3 ?_
    refine tk 4 ?_
    refine tk 5 ?_
    refine tk 6 ?_
    refine tk 7 ?_
    refine tk 8 ?_
    refine tk 9 ?_
    try simp only [Act.put,tA,tB,tC,tD,tE,tF]
    refine rd 10 rfl fun K hK=>?_
    go_simp
    go_at_call 69
    refine (HWK.out _ _ hz).mono ?_
    rintro e w6 ⟨wv,rfl,hx6,h6'⟩
    have h6:=EA h6'
    go_simp
    refine hK.out _ _ (HS.out _ _ _ h6) (fun _=>?_)
    clear hK K
    try simp only [Act.put,tA,tB,tC,tD,tE,tF]
    refine tk 11 ?_
    refine tk 12 ?_
    refine tk 13 ?_
    refine tk 14 ?_
    refine tk 15 ?_
    try simp only [Act.put,tA,tB,tC,tD,tE,tF]
    have cl : w6.cell? ⟨y,12,none⟩ = some (.slice none 0 0):=(A5 h6).1 12
    have fl:=(A5 h6).2 12
    have h7:=lp (i:=12) (v:=wv) 6 h6 rfl
    have h8 : own (w6.setCell ⟨y,12,none⟩ wv) (nL y bs A (opF D 5) D 5 (.pointer (some ⟨tp,0,none⟩)) ⟨r,k,f,a,b⟩ wv (row 3 1 wv wl.length (lq wl)::lj tp top::X)):=h7
    have hx8:=(hxz.trans hx6).setCell (⟨y,12,none⟩ : Addr) wv
    obtain ⟨vo,vb,vof,vcap,rfl,-,-,-,-⟩:=(oz 0 h6' rfl).form
    refine rd 16 rfl fun K hK=>?_
    go_simp
    refine hK.out _ _ (HS.out _ _ _ h8) (fun _=>?_)
    clear hK K cl fl
    try simp only [Act.put,tA,tB,tC,tD,tE,tF]
    refine tk 17 ?_
    try simp only [Act.put,tA,tB,tC,tD,tE,tF]
    refine wpAnyH_done (by kernel_rfl) ?_ _
    generalize w6.setCell ⟨y,12,none⟩ (.slice vo wl.length vcap) = w8 at *
    clear h3 hz h6 h6' h7 hx3 hxz hx6 hHeld
    by_cases hwz : wc = 0
    ·subst hwz
     rw [lS]
     have hEE:=HEE.out
     rw [zq (by decide)] at hEE
     have h9 : own w8 (yL ⟨y,bs,tp,A,.slice vo wl.length vcap,0,0,0,undef⟩ O0 X):=by
      rw [HE00.out]
      exact Tt (EA (R:=row 3 1 (.slice vo wl.length vcap) wl.length (lq wl)::X) (lE 13 h8 rfl))
     have hag:=fun (R' : List SL.HP) (w' : World) (h : own w' (yL ⟨y,bs,tp,A,.slice vo wl.length vcap,0,0,0,undef⟩ O0 R'))=>SG N ⟨y,bs,tp,A,.slice vo wl.length vcap,0,0,0,undef⟩ O0 (by rw [HE00.out]; exact HW.out) hN (by rw [HE00.out]; exact HRT.out rfl) R' w' h
     have HAG:=zh hag
     have HES:=zh hEE
     clear hag hEE h8
     go_wp2_with fail
     refine (HAG.out _ w8 h9).mono ?_
     rintro e w9 ⟨Y',hy,rfl,hx9,h9'⟩
     go_wp2_with fail
     go_ret2
     rw [HES.out]
     exact .inr ⟨rfl,Y',by rw [hy]; rfl,hx8.trans hx9,h9'⟩
    ·rw [lv (e:=wc) (by omega)]
     go_wp2_with fail
     go_ret2
     have hEE:=HEE.out
     rw [zt hwz] at hEE
     rw [hEE]
     exact .inl ⟨hwz,by rw [lv (e:=wc) (by omega)]; rfl,hx8,Aq (shL bs A (opF D 5)++(nT y bs A (opF D 5) D 5 (.pointer (some ⟨tp,0,none⟩)) ⟨r,k,f,a,b⟩ (.slice vo wl.length vcap)++[row 3 1 (.slice vo wl.length vcap) wl.length (lq wl),lj tp top])) (by simpa only [zp,List.cons_append,List.nil_append] using h8)⟩
   ·rw [lv (e:=dc) (by omega)]
    go_wp2_with fail
    go_ret2
    have hEE:=HE.out
    rw [zt hdc] at hEE
    rw [hEE]
    exact .inl ⟨hdc,by rw [lv (e:=dc) (by omega)]; rfl,hx3,Aq (shL bs A (opF D 5)++(nT y bs A (opF D 5) D 5 (.pointer (some ⟨tp,0,none⟩)) ⟨r,k,f,a,b⟩ (.slice none 0 0)++[lj tp top])) (by simpa only [zp,List.cons_append,List.nil_append] using h3)⟩
def Iy (w : World) (v : Value) (vs : List Value) (ks : List (List Bool)) : Prop:=
 SlAt v ks.length (fun b off i=>w.cell? ⟨b,off + i,none⟩ = some (vs.getD i undef)) /\ ∀i,i < ks.length -> zJ w (vs.getD i undef) (ks.getD i [])
def l9 (m : le) (ks : List (List Bool)) (k : Nat) : DevM:=(devOf m k).crash (ks.getD k [])
def yW (m : le) (ks : List (List Bool)) : Int×le:=yj (l9 m ks) (m.top.crash [])
theorem L6 (w : World) : zJ w (.slice none 0 0) []:=⟨none,0,0,0,rfl,Nat.le_refl _,by decide,fun h=>absurd h (by simp),fun i h=>absurd h (by simp)⟩
theorem VH {w : World} {L : List HP} (k : Nat) {v : Value} {B : Nat -> Nat} (H : own w L) (hk : L[k]? = some (row 53 1 v 5 (ptrs B 5))) : KM w v B:=by
 obtain ⟨ao,g,cap,rfl,h1,h2,h3,-,-,h6,-⟩:=lm k H hk
 obtain rfl:=h3 (by decide)
 refine ⟨g,0,cap,rfl,fun i hi=>?_⟩
 rw [Nat.zero_add]
 refine h6 i _ ?_
 unfold ptrs
 rw [List.getElem?_map,List.getElem?_range hi]
 rfl
theorem Pb {Y : YA} {m : le} {k : Nat} (hk : k < 5) {vi : Value} {ki : List Bool} {R : List SL.HP} (h : ∀w' L,own w' (L++R) -> zJ w' vi ki) (Z : List SL.HP) : ∀w' L,own w' (L++BB Y m (Z++R) k) -> zJ w' vi ki:=fun w' L H=>by
 rw [Il Y m _ hk] at H
 exact h w' (L++(BB Y m [] k++Z)) (by simpa only [zp] using H)
theorem Pk (D : Nat -> DevM) (top : DevM) : 0 <= (yj D top).1:=by
 unfold yj
 split
 ·exact Gs _
 ·split
  ·exact Ar
  ·exact Int.le_refl 0
def Ur (Y : YA) (m : le) (S : Int×le) (R : List SL.HP) (w : World) (e : Ending) (w' : World) : Prop:=
 (S.1≠0 /\ e = .returned (.tuple #[.pointer none,errV S.1]) /\ Ext w w' /\ own w' (yL Y m R)) \/
 (S.1 = 0 /\ ∃Y' : YA,e = .returned (.tuple #[.pointer (some ⟨Y'.y,0,none⟩),.nilIface]) /\ Ext w w' /\ own w' (yL Y' S.2 (yL Y m R)))
theorem Q5 (N : Nat) (Y : YA) (m : le) (hm : YOk N m) (hN : N < 900000) (h0 : ∀k,k < 5 -> 0 < (devOf m k).fl.length) (v : Value) (vs : List Value) (ks : List (List Bool)) (R : List SL.HP) (hv : ∀w' L,own w' (L++R) -> Iy w' v vs ks) (w : World) (H : own w (yL Y m R)) :
  Calls Tryz.prog 34 #[.pointer (some ⟨Y.y,0,none⟩),v] w (Ur Y m (yW m ks) R w):=by
 obtain ⟨ao,kb,koff,kcap,rfl,kc1,kc2,kc3,-⟩:=(hv w (shL Y.bs Y.A m.F++yT Y m) (by simpa only [zp] using H)).1
 have hb:=oD (lF 53 1 H)
 have d0:=Bi H (k:=0) (by decide)
 have d1:=Bi H (k:=1) (by decide)
 have d2:=Bi H (k:=2) (by decide)
 have d3:=Bi H (k:=3) (by decide)
 have d4:=Bi H (k:=4) (by decide)
 have HIX:=zh (fun (k : Nat) (hk : k < 5) (w : World)=>KG Y hk w)
 unfold IK at HIX
 have HOK:=zh (fun (k : Nat) (hk : k < 5)=>BU hm hk)
 have HTP:=zh hm.tp
 have HV:=zh hv
 have HKC:=zh kc3
 have HCO:=zh (fun (B : Nat -> Nat) (tb : Nat) (v : Value) (R : List SL.HP) hv (w : World) (H : own w (devL B (l9 m ks) 5++(lj tb (m.top.crash [])::R)))=>Mo N B (l9 m ks) (fun k hk=>⟨DevM.crash_ok (BU hm hk).1 _,(BU hm hk).2.1,Nat.zero_le _⟩) (fun k hk=>by show 0 < ((devOf m k).crash _).fl.length; simp only [DevM.crash,lP]; exact h0 k hk) hN tb (m.top.crash []) (DevM.crash_ok hm.tp.1 []) (by simp only [DevM.crash,lP]; exact hm.tp.2.2.2) v R hv w H)
 generalize hYC : yW m ks = YC
 have HYC:=zh hYC
 clear H hm hv kc3 hYC
 go_enter Tryz.func34,Tryz.ntmps34
 go_wp2_with fail
 go_loopw [14,6] (fun iv v wr=>∃(q : Nat) (B : Nat -> Nat),q <= 5 /\ iv = .int .i64 q /\ Ext w wr /\ own wr (yL Y m (row 53 1 v q (ptrs B q)::(devL B (l9 m ks) q++R)))) (fun iv _ _=>6 - (intOf iv).toNat)
 case atStart=>exact ⟨0,fun _=>0,by omega,rfl,zR w,hb⟩
 case round=>
  clear hb d0 d1 d2 d3 d4
  obtain ⟨q,B,hq,rfl,hxr,hown⟩:=hrel
  by_cases hlt : q < 5
  ·have g1 : (q : Int) < 5:=by omega
   have g2 : (0 : Int) <= (q : Int):=by omega
   have hix:=HIX.out q hlt wr
   obtain ⟨rao,g,cap,rfl,r1,r2,r3,-,-,-,-⟩:=lm 15 hown rfl
   have HCR:=zh (fun vi (hvi : ∀w' L,own w' (L++R) -> zJ w' vi (ks.getD q []))=>(LZ (Y.A q).2.1 (devOf m q) (HOK.out q hlt).1 vi (ks.getD q []) _ wr (Pb hlt hvi (row 53 1 (.slice rao q cap) q (ptrs B q)::devL B (l9 m ks) q)) (FX hlt hown)))
   by_cases hk : q < ks.length
   ·have hk2 : (q : Int) < (ks.length : Int):=by omega
    obtain rfl:=HKC.out (by omega)
    have hca : wr.cell? ⟨kb,koff + q,none⟩ = some (vs.getD q undef):=by
     obtain ⟨ao',b',o',c',he,-,-,hh,hc⟩:=(HV.out wr (shL Y.bs Y.A m.F++(yT Y m++(row 53 1 (.slice rao q cap) q (ptrs B q)::devL B (l9 m ks) q))) (by simpa only [zp,List.cons_append] using hown)).1
     simp only [Value.slice.injEq] at he
     have h2:=hh (by omega)
     rw [<- he.1] at h2
     simp only [Option.some.injEq,Addr.mk.injEq,and_true] at h2
     obtain ⟨rfl,rfl⟩:=h2
     exact hc q hk
    have HC2:=zh (HCR.out (vs.getD q undef) (fun w' L h=>(HV.out w' L h).2 q hk))
    have hdq : l9 m ks q = (devOf m q).crash (ks.getD q []):=rfl
    generalize (devOf m q).crash (ks.getD q []) = dq at hdq HC2
    have HDQ:=zh hdq
    clear HCR hdq
    go_wp2_with fail
    refine HC2.out.mono ?_
    rintro e w2 ⟨c,rfl,hx2,h2⟩
    have h3:=Gg hlt (EC hlt h2)
    have h4:=lE 16 h3 rfl
    have ha:=lh h4 (.cells #[.pointer (some ⟨c,0,none⟩)] 53)
    go_wp2_with (first | (at_builtin; refine lX rfl _ _ 62 rfl 1 53 Tryz.underlying62 Jr rfl (by decide) rfl ha rfl (some ⟨_,0,none⟩) 1 1 [.pointer (some ⟨c,0,none⟩)] rfl rfl (yl _ [.pointer (some ⟨c,0,none⟩)] _) (fun h=>by cases h) (Le _) (by simp only [maxLen]; omega) (by omega) ?_))
    intro v' w7 h7 hx7
    rw [<- HDQ.out] at h7
    have h8:=oD (Y:=Y) (m:=m) (R:=lj c (l9 m ks q)::(devL B (l9 m ks) q++R)) (lg h7)
    have hx8:=((hxr.trans hx2).alloc (.cells #[.pointer (some ⟨c,0,none⟩)] 53)).trans hx7
    go_wp2_with fail
    go_roundw
    case rel=>exact ⟨q + 1,stN B q c,by omega,by go_num,hx8,by rw [Li,JH]; exact h8⟩
    case measure=>simp [intOf]; omega
   ·have hk2 : ¬(q : Int) < (ks.length : Int):=by omega
    have hkn : ks.getD q [] = []:=by rw [List.getD,List.getElem?_eq_none (by omega)]; rfl
    have HC2:=zh (HCR.out (.slice none 0 0) (fun w' L h=>by rw [hkn]; exact L6 w'))
    have hdq : l9 m ks q = (devOf m q).crash (ks.getD q []):=rfl
    generalize (devOf m q).crash (ks.getD q []) = dq at hdq HC2
    have HDQ:=zh hdq
    clear HCR hkn hdq
    go_wp2_with fail
    refine HC2.out.mono ?_
    rintro e w2 ⟨c,rfl,hx2,h2⟩
    have h3:=Gg hlt (EC hlt h2)
    have h4:=lE 16 h3 rfl
    have ha:=lh h4 (.cells #[.pointer (some ⟨c,0,none⟩)] 53)
    go_wp2_with (first | (at_builtin; refine lX rfl _ _ 62 rfl 1 53 Tryz.underlying62 Jr rfl (by decide) rfl ha rfl (some ⟨_,0,none⟩) 1 1 [.pointer (some ⟨c,0,none⟩)] rfl rfl (yl _ [.pointer (some ⟨c,0,none⟩)] _) (fun h=>by cases h) (Le _) (by simp only [maxLen]; omega) (by omega) ?_))
    intro v' w7 h7 hx7
    rw [<- HDQ.out] at h7
    have h8:=oD (Y:=Y) (m:=m) (R:=lj c (l9 m ks q)::(devL B (l9 m ks) q++R)) (lg h7)
    have hx8:=((hxr.trans hx2).alloc (.cells #[.pointer (some ⟨c,0,none⟩)] 53)).trans hx7
    go_wp2_with fail
    go_roundw
    case rel=>exact ⟨q + 1,stN B q c,by omega,by go_num,hx8,by rw [Li,JH]; exact h8⟩
    case measure=>simp [intOf]; omega
  ·obtain rfl : q = 5:=by omega
   obtain ⟨rao,g,cap,rfl,-,-,-,-,-,-,-⟩:=lm 15 hown rfl
   have ct:=y_tp hown
   clear HV
   go_wp2_with fail
   refine (LZ Y.tp m.top HTP.out.1 (.slice none 0 0) [] _ wr (fun w' _ _=>L6 w') (KT hown)).mono ?_
   rintro e w2 ⟨bt,rfl,hx2,h2⟩
   have h3 : own w2 (lj Y.tp m.top::(yL Y m (lj bt (m.top.crash [])::row 53 1 (.slice rao 5 cap) 5 (ptrs B 5)::(devL B (l9 m ks) 5++R))).eraseIdx 12):=lC (lj Y.tp m.top::(yL Y m []).eraseIdx 12) h2
   have h4 : own w2 (yL Y m (lj bt (m.top.crash [])::row 53 1 (.slice rao 5 cap) 5 (ptrs B 5)::(devL B (l9 m ks) 5++R))):=lC ((yL Y m []).take 12) h3
   have h5:=lu (shL Y.bs Y.A m.F++yT Y m) ([lj bt (m.top.crash []),row 53 1 (.slice rao 5 cap) 5 (ptrs B 5)]++devL B (l9 m ks) 5) (R:=R) (by simpa only [zp,List.cons_append,List.nil_append] using h4)
   have h6 : own w2 (devL B (l9 m ks) 5++(lj bt (m.top.crash [])::(row 53 1 (.slice rao 5 cap) 5 (ptrs B 5)::yL Y m R))):=by
    have:=lu [lj bt (m.top.crash []),row 53 1 (.slice rao 5 cap) 5 (ptrs B 5)] (devL B (l9 m ks) 5) (R:=yL Y m R) (by simpa only [zp,List.cons_append,List.nil_append] using h5)
    exact this
   have hx3:=hxr.trans hx2
   have hop:=HCO.out B bt (.slice rao 5 cap) _ (fun w' L h=>VH L.length h (by rw [List.getElem?_append_right (Nat.le_refl _),Nat.sub_self]; rfl)) w2 h6
   have HOPN:=zh hop
   have hcd : 0 <= (yW m ks).1:=Pk _ _
   have hyc:=HYC.out
   change yj (l9 m ks) (m.top.crash []) = YC at hyc
   change 0 <= (yj (l9 m ks) (m.top.crash [])).1 at hcd
   clear hop h2 h3 h4 h5 h6 hown hxr hx2 ct HCO
   generalize yj (l9 m ks) (m.top.crash []) = S at *
   subst hyc
   obtain ⟨oc,om⟩:=S
   clear HYC
   unfold Jm at HOPN
   dsimp only at HOPN hcd
   by_cases hoc : oc = 0
   ·have HO2:=zh (HOPN.out.mono fun e w' h=>(h.resolve_left fun h=>h.1 hoc).2)
    clear HOPN
    go_wp2_with fail
    refine HO2.out.mono ?_
    rintro e w3 ⟨Y',rfl,hx4,h7⟩
    go_wp2_with fail
    go_ret2
    refine .inr ⟨hoc,Y',rfl,hx3.trans hx4,?_⟩
    have h8:=lu (shL Y'.bs Y'.A om.F++yT Y' om) (devL B (l9 m ks) 5++[lj bt (m.top.crash []),row 53 1 (.slice rao 5 cap) 5 (ptrs B 5)]) (R:=yL Y m R) (by simpa only [zp,List.cons_append,List.nil_append] using h7)
    have h9:=Aq (devL B (l9 m ks) 5++[lj bt (m.top.crash []),row 53 1 (.slice rao 5 cap) 5 (ptrs B 5)]) h8
    simpa only [zp] using h9
   ·have HO2:=zh (HOPN.out.mono fun e w' h=>(h.resolve_right fun h=>hoc h.1).2)
    rw [lv (e:=oc) (by omega)] at HO2
    clear HOPN
    go_wp2_with fail
    refine HO2.out.mono ?_
    rintro e w3 ⟨rfl,hx4,h7⟩
    go_wp2_with fail
    go_ret2
    refine .inl ⟨hoc,by rw [lv (e:=oc) (by omega)]; rfl,hx3.trans hx4,?_⟩
    exact Aq (devL B (l9 m ks) 5++[lj bt (m.top.crash []),row 53 1 (.slice rao 5 cap) 5 (ptrs B 5)]) (by simpa only [zp,List.cons_append,List.nil_append] using h7)
def newN (c p : Int) : Nat:=(zC c p).toNat
def newI (c p : Int) : ImgM:=(oE (od (newN c p)) c p (-1)).2
def yZ (c p : Int) : le:=⟨put (fun _=>none) 0 (newI c p),fun _=>od (newN c p),od 1,lA 0,[0],none⟩
def yx (c p : Int) : le:=(lx (yZ c p) (lA 0)).2
theorem Xa {c p b : Int} (h : ¬lH c p b) : 1 <= zC c p /\ zC c p <= 165:=by
 unfold lH at h
 unfold zC lt
 omega
theorem Fr {c p b : Int} (h : ¬lH c p b) : (newN c p : Int) = zC c p /\ newN c p <= 165 /\ 1 <= newN c p:=by
 have:=Xa h
 unfold newN
 omega
theorem J6 {c p : Int} (h : ¬lH c p (-1)) : (oE (od (newN c p)) c p (-1)).1 = 0:=by
 obtain ⟨h1,h2,h3⟩:=Fr h
 refine (Nb (Ao (by omega)) (show (od (newN c p)).fail < 0 by show (-1 : Int) < 0; decide) (by show (0 : Nat) < _; decide) (by show (0 : Int) < _; decide) ?_).1
 rintro (h4 | h4)
 ·exact h h4
 ·have : (od (newN c p)).fl.length = newN c p:=by simp [od]
  omega
theorem LF (c p : Int) : (lx (yZ c p) (lA 0)).1 = 0:=by
 have h : ((yZ c p).top.write 0 (lA 0).s).1 = 0:=by
  refine (D3 (d:=od 1) (by show (-1 : Int) < 0; decide) (by decide) (by show (0 : Int) < ((od 1).fl.length : Nat); decide) ?_).1
  show (zM 0 0 (-1) 0 0).size = 16
  unfold zM
  rw [BT (by simp)]
 unfold lx
 rw [zq (by rw [h]; exact fun h=>h rfl)]
theorem VS (c p : Int) (h : ¬lH c p (-1)) (R : List SL.HP) (w : World) (H : own w R) :
  Calls Tryz.prog 31 #[.int .i64 c,.int .i64 p] w fun e w'=>∃Y : YA,e = .returned (.tuple #[.pointer (some ⟨Y.y,0,none⟩),.nilIface]) /\ Ext w w' /\ own w' (yL Y (yx c p) R):=by
 have hb:=lh H (.cells #[.int .i64 c,.int .i64 p,.int .i64 (-1)] 103)
 have hxb:=(zR w).alloc (.cells #[.int .i64 c,.int .i64 p,.int .i64 (-1)] 103)
 have HC:=zh (fun (R : List SL.HP) (w : World) (H : own w R)=>AF c p (-1) R w H)
 have HNE:=zh (fun (R : List SL.HP) (w : World) (H : own w R)=>OL c p (-1) h R w H)
 unfold ol AB at HC
 unfold ol at HNE
 rw [zq h,lS] at HC
 obtain ⟨hn1,hn2,hn3⟩:=Fr h
 have hcr:=J6 h
 have hnw:=LF c p
 have hM : yx c p = (lx (yZ c p) (lA 0)).2:=rfl
 have hM0 : yZ c p = ⟨put (fun _=>none) 0 (newI c p),fun _=>od (newN c p),od 1,lA 0,[0],none⟩:=rfl
 have hI : newI c p = (oE (od (newN c p)) c p (-1)).2:=rfl
 have HCR:=zh (fun (bd : Nat) (R : List SL.HP) (w : World) (H : own w (lj bd (od (newN c p))::R))=>(Kl bd (od (newN c p)) (Ao (by omega)) (by show (0 : Nat) < _; decide) (by show (0 : Int) < _; decide) c p (-1) R w H).mono fun e w' h=>(h.resolve_left fun h=>h.1 hcr).2)
 unfold ol at HCR
 rw [<- hI] at HCR
 have HND:=zh (fun (R : List SL.HP) (w : World) (H : own w R)=>Fh (newN c p) R w (by unfold NK; exact zg (by omega)) H)
 rw [hn1] at HND
 rw [hM]
 generalize newI c p = i0 at *
 generalize yZ c p = M0 at *
 generalize newN c p = n at *
 generalize zC c p = ni at *
 have HNW:=zh hnw
 have HM0:=zh hM0
 clear h H hn1 hn2 hn3 hcr hI hM hnw hM0
 go_enter Tryz.func31,Tryz.ntmps31
 go_upto_region 2 with (fail)
 generalize w.heap.size = g at *
 generalize w.alloc (.cells #[.int .i64 c,.int .i64 p,.int .i64 (-1)] 103) = w1 at *
 obtain ⟨cg,fg⟩:=ld 0 hb rfl
 have d0:=cg 0
 have d1:=cg 1
 have d2:=cg 2
 clear cg
 go_wp2_with fail
 refine (HC.out _ w1 hb).mono ?_
 rintro e w2 ⟨rfl,hx2,h2⟩
 clear d0 d1 d2 fg
 go_upto_region 5 with (fail)
 have h3:=UC (fun _=>(0,0,0)) h2
 have hx3:=(hxb.trans hx2).alloc (.cells #[.pointer none,.pointer none,.pointer none,.pointer none,.pointer none] 111)
 go_wp2_with fail
 generalize w2.heap.size = bs at *
 generalize w2.alloc (.cells #[.pointer none,.pointer none,.pointer none,.pointer none,.pointer none] 111) = w3 at *
 refine (Cx 0 _ w3 h3).mono ?_
 rintro e w4 ⟨rfl,hx4,h4⟩
 unfold lA lR.v zO
 dsimp only
 have h5:=lh h4 (.cells #[.int .i64 0] 3)
 have hx5:=(hx3.trans hx4).alloc (.cells #[.int .i64 0] 3)
 have h6 : own _ (row 3 1 (.slice (some ⟨w4.heap.size,0,none⟩) 1 1) 1 [.int .i64 0]::(shL bs (fun _=>(0,0,0)) (fun _=>none)++(pts g (.cells #[.int .i64 c,.int .i64 p,.int .i64 (-1)] 103 (0,0))::R))):=zr (cap:=1) (n:=1) (sz:=1) 0 h5 rfl (Nat.le_refl _) (by decide) rfl rfl
 have h7:=lh h6 (.cells #[.pointer none,.pointer none,.pointer none,.pointer none,.pointer none,.pointer none,.pointer (some ⟨bs,0,none⟩),.int .i64 0,.int .i64 0,.int .i64 (-1),.int .i64 0,.int .i64 0,.slice (some ⟨w4.heap.size,0,none⟩) 1 1,.pointer none] 165)
 have hx7:=hx5.alloc (.cells #[.pointer none,.pointer none,.pointer none,.pointer none,.pointer none,.pointer none,.pointer (some ⟨bs,0,none⟩),.int .i64 0,.int .i64 0,.int .i64 (-1),.int .i64 0,.int .i64 0,.slice (some ⟨w4.heap.size,0,none⟩) 1 1,.pointer none] 165)
 have h8:=lC (_::shL bs (fun _=>(0,0,0)) (fun _=>none)) (Ei h7)
 have h9:=WA (dk:=lA 0) (fun _=>od n) h8
 clear h2 h3 h4 h5 h6 h7 h8 hx2 hx3 hx4 hx5 hb hxb
 go_wp2_with fail
 rw [show (w4.alloc (.cells #[.int .i64 0] 3)).heap.size = w4.heap.size + 1 by simp] at h9
 generalize w4.heap.size + 1 = y at *
 generalize w4.heap.size = sl at *
 generalize ((w4.alloc (.cells #[.int .i64 0] 3)).alloc (.cells #[.pointer none,.pointer none,.pointer none,.pointer none,.pointer none,.pointer none,.pointer (some ⟨bs,0,none⟩),.int .i64 0,.int .i64 0,.int .i64 (-1),.int .i64 0,.int .i64 0,.slice (some ⟨sl,0,none⟩) 1 1,.pointer none] 165)) = w7 at *
 go_loopw [23] (fun kv wr=>∃(q : Nat) (A : Nat -> Nat×Nat×Nat),q <= 5 /\ kv = .int .i64 q /\ Ext w wr /\ own wr (nL y bs A (fun _=>none) (fun _=>od n) q (.pointer none) (lA 0) (.slice (some ⟨sl,0,none⟩) 1 1) (row 3 1 (.slice (some ⟨sl,0,none⟩) 1 1) 1 [.int .i64 0]::pts g (.cells #[.int .i64 c,.int .i64 p,.int .i64 (-1)] 103 (0,0))::R))) (fun kv _=>6 - (intOf kv).toNat)
 case atStart=>exact ⟨0,_,by omega,rfl,hx7,h9⟩
 case round=>
  clear h9 hx7
  obtain ⟨q,A,hq,rfl,hxr,hown⟩:=hrel
  by_cases hlt : q < 5
  ·have g1 : (q : Int) < 5:=by omega
   have g2 : (0 : Int) <= (q : Int):=by omega
   go_upto_region 9 with (fail)
   have hz:=ln hown
   have hxz:=hxr.drew
   refine wp_region_held_drew (S:=fun w'=>w'.cell? ⟨g,0,none⟩ = some (.int .i64 c) /\ w'.cell? ⟨g,1,none⟩ = some (.int .i64 p) /\ w'.cell? ⟨g,2,none⟩ = some (.int .i64 (-1))) (by kernel_rfl) (⟨(ld 13 hz rfl).1 0,(ld 13 hz rfl).1 1,(ld 13 hz rfl).1 2⟩) (fun hHeld=>?_)
   refine tk 0 ?_
   refine tk 1 ?_
   refine tk 2 ?_
   try simp only [Act.put,tA,tB,tC,tD,tE,tF]
   refine tk 8 ?_
   refine tk 9 ?_
   try simp only [Act.put,tA,tB,tC,tD,tE,tF]
   refine rd 3 rfl fun K hK=>?_
   go_simp
   go_at_call 127
   refine (HNE.out _ _ hz).mono ?_
   rintro e w2 ⟨rfl,hx2,h2⟩
   go_simp
   refine hK.out _ _ ⟨(ld 13 h2 rfl).1 0,(ld 13 h2 rfl).1 1,(ld 13 h2 rfl).1 2⟩ (fun _=>?_)
   clear hK K
   try simp only [Act.put,tA,tB,tC,tD,tE,tF]
   refine rd 4 rfl fun K hK=>?_
   go_simp
   go_at_call 61
   refine (HND.out _ _ h2).mono ?_
   rintro e w3 ⟨cb,rfl,hx3,h3⟩
   go_simp
   have hn3:=EA h3
   refine hK.out _ _ ⟨(ld 14 hn3 rfl).1 0,(ld 14 hn3 rfl).1 1,(ld 14 hn3 rfl).1 2⟩ (fun _=>?_)
   clear hK K
   try simp only [Act.put,tA,tB,tC,tD,tE,tF]
   refine tk 5 ?_
   refine tk 6 ?_
   refine tk 7 ?_
   try simp only [Act.put,tA,tB,tC,tD,tE,tF]
   refine tk 10 ?_
   try simp only [Act.put,tA,tB,tC,tD,tE,tF]
   have cy:=Mn hlt hn3
   have fy:=(A5 hn3).2 q
   have h4:=WB (D:=fun _=>od n) (F:=fun _=>none) (q:=q) hlt rfl h3
   refine rd 11 rfl fun K hK=>?_
   go_simp
   refine hK.out _ _ ⟨(ld 13 h4 rfl).1 0,(ld 13 h4 rfl).1 1,(ld 13 h4 rfl).1 2⟩ (fun _=>?_)
   clear hK K
   try simp only [Act.put,tA,tB,tC,tD,tE,tF]
   refine tk 12 ?_
   try simp only [Act.put,tA,tB,tC,tD,tE,tF]
   refine wpAnyH_done (by kernel_rfl) ?_ _
   go_wp2_with fail
   go_roundw
   case rel=>exact ⟨q + 1,_,by omega,by go_num,(((hxz.trans hx2).trans hx3).setCell _ _),h4⟩
   case measure=>simp [intOf]; omega
  ·obtain rfl : q = 5:=by omega
   go_wp2_with fail
   refine (Fh 1 _ wr (by decide) hown).mono ?_
   rintro e w2 ⟨tp,rfl,hx2,h2⟩
   have hn:=EA h2
   have ct:=(A5 hn).1 5
   have fy:=(A5 hn).2 5
   have h3:=lp (i:=5) (v:=.pointer (some ⟨tp,0,none⟩)) 6 hn rfl
   have h4 : own (w2.setCell ⟨y,5,none⟩ (.pointer (some ⟨tp,0,none⟩))) (yL ⟨y,bs,tp,A,.slice (some ⟨sl,0,none⟩) 1 1,0,0,0,undef⟩ ⟨fun _=>none,fun _=>od n,od 1,lA 0,[0],none⟩ (pts g (.cells #[.int .i64 c,.int .i64 p,.int .i64 (-1)] 103 (0,0))::R)):=Tt h3
   have hx4:=(hxr.trans hx2).setCell (⟨y,5,none⟩ : Addr) (.pointer (some ⟨tp,0,none⟩))
   clear h2 hn h3 hxr hx2 hown
   go_upto_region 16 with (fail)
   clear ct fy
   generalize w2.setCell ⟨y,5,none⟩ (.pointer (some ⟨tp,0,none⟩)) = w3 at *
   have hz:=ln h4
   have hxz:=hx4.drew
   have hk0 : (0 : Nat) < 5:=by decide
   refine wp_region_held_drew (S:=fun w'=>w'.cell? ⟨y,6,none⟩ = some (.pointer (some ⟨bs,0,none⟩)) /\ w'.cell? ⟨y,0,none⟩ = some (.pointer (some ⟨(A 0).2.1,0,none⟩)) /\ w'.cell? ⟨g,0,none⟩ = some (.int .i64 c) /\ w'.cell? ⟨g,1,none⟩ = some (.int .i64 p) /\ w'.cell? ⟨g,2,none⟩ = some (.int .i64 (-1))) (by kernel_rfl) (⟨y_bs hz,Bi hz hk0,(ld 15 hz rfl).1 0,(ld 15 hz rfl).1 1,(ld 15 hz rfl).1 2⟩) (fun hHeld=>?_)
   refine tk 0 ?_
   refine tk 1 ?_
   refine tk 2 ?_
   refine tk 3 ?_
   refine tk 4 ?_
   refine tk 5 ?_
   refine tk 6 ?_
   refine tk 7 ?_
   refine tk 8 ?_
   refine tk 9 ?_
   try simp only [Act.put,tA,tB,tC,tD,tE,tF]
   refine tk 14 ?_
   try simp only [Act.put,tA,tB,tC,tD,tE,tF]
   refine rd 10 rfl fun K hK=>?_
   go_simp
   go_at_call 62
   refine (HCR.out _ _ _ (DB hk0 rfl hz)).mono ?_
   rintro e w5 ⟨bi,bh,rfl,hx5,h5⟩
   go_simp
   refine hK.out _ _ ⟨(ld 8 h5 rfl).1 6,(ld 8 h5 rfl).1 0,(ld 17 h5 rfl).1 0,(ld 17 h5 rfl).1 1,(ld 17 h5 rfl).1 2⟩ (fun _=>?_)
   clear hK K
   try simp only [Act.put,tA,tB,tC,tD,tE,tF]
   refine tk 11 ?_
   refine tk 12 ?_
   refine tk 13 ?_
   try simp only [Act.put,tA,tB,tC,tD,tE,tF]
   refine tk 15 ?_
   try simp only [Act.put,tA,tB,tC,tD,tE,tF]
   have cs : w5.cell? ⟨bs,0,none⟩ = some (.pointer none):=(ld 2 h5 rfl).1 0
   have fs : w5.frozen? ⟨bs,0,none⟩ = false:=(ld 2 h5 rfl).2 0
   have h6:=LI (Y:=⟨y,bs,tp,A,.slice (some ⟨sl,0,none⟩) 1 1,0,0,0,undef⟩) (m:=⟨fun _=>none,fun _=>od n,od 1,lA 0,[0],none⟩) hk0 rfl h5
   have hx6:=(hxz.trans hx5).setCell (⟨bs,0,none⟩ : Addr) (.pointer (some ⟨bi,0,none⟩))
   refine rd 16 rfl fun K hK=>?_
   go_simp
   refine hK.out _ _ ⟨y_bs h6,Bi h6 hk0,(ld 15 h6 rfl).1 0,(ld 15 h6 rfl).1 1,(ld 15 h6 rfl).1 2⟩ (fun _=>?_)
   clear hK K cs fs
   try simp only [Act.put,tA,tB,tC,tD,tE,tF]
   refine tk 17 ?_
   try simp only [Act.put,tA,tB,tC,tD,tE,tF]
   refine wpAnyH_done (by kernel_rfl) ?_ _
   generalize w5.setCell ⟨bs,0,none⟩ (.pointer (some ⟨bi,0,none⟩)) = w6 at *
   change own w6 (yL (YA.stA ⟨y,bs,tp,A,.slice (some ⟨sl,0,none⟩) 1 1,0,0,0,undef⟩ 0 bi bh) ⟨put (fun _=>none) 0 i0,fun _=>od n,od 1,lA 0,[0],none⟩ _) at h6
   rw [<- HM0.out] at h6
   have c7 : w6.cell? ⟨y,7,none⟩ = some (.int .i64 0):=by have:=yM h6; rw [HM0.out] at this; exact this
   have c8 : w6.cell? ⟨y,8,none⟩ = some (.int .i64 0):=by have:=Cb h6; rw [HM0.out] at this; exact this
   have c9 : w6.cell? ⟨y,9,none⟩ = some (.int .i64 (-1)):=by have:=Ca h6; rw [HM0.out] at this; exact this
   have c10 : w6.cell? ⟨y,10,none⟩ = some (.int .i64 0):=by have:=Ev h6; rw [HM0.out] at this; exact this
   have c11 : w6.cell? ⟨y,11,none⟩ = some (.int .i64 0):=by have:=Dn h6; rw [HM0.out] at this; exact this
   have hw:=fun R' w' h=>Bk (YA.stA ⟨y,bs,tp,A,.slice (some ⟨sl,0,none⟩) 1 1,0,0,0,undef⟩ 0 bi bh) M0 (by rw [HM0.out]; exact Ao (by decide)) (by rw [HM0.out]; show (0 : Int) < _; decide) (by rw [HM0.out]; show (0 : Nat) < _; decide) (lA 0) (DU (by decide) (by decide)) R' w' h
   rw [HNW.out,lS] at hw
   have HWR:=zh hw
   clear hw h4 hz h5
   go_wp2_with fail
   refine (HWR.out _ w6 h6).mono ?_
   rintro e w8 ⟨rfl,hx8,h8⟩
   go_wp2_with fail
   go_ret2
   exact ⟨_,rfl,hx6.trans hx8,A8 h8⟩
end Go.Proofs.YtbpblokfiajpjabGreatDoor
namespace Go.Proofs.YtbpblokfiajpjabGreatDoor
open Go.RowKit Go.SL Go.Crc
def YLen (m : le) : Prop:=∀k,k < 5 -> m.F k = none -> 0 < (m.D k).fl.length
theorem YLen.dev {N : Nat} {m : le} (h : YLen m) (ho : YOk N m) {k : Nat} (hk : k < 5) : 0 < (devOf m k).fl.length:=by
 unfold devOf
 cases e : m.F k with
 | none=>exact h k hk e
 | some i=>
  have:=(ho.sh.ok k i hk e).need
  obtain ⟨-,-,hp⟩ : True /\ True /\ 0 <= i.p:=⟨trivial,trivial,by have:=(ho.sh.ok k i hk e).head; unfold lH at this; omega⟩
  dsimp only
  omega
structure KD (m m' : le) : Prop where
 d : m'.D = m.D
 f : ∀k,k < 5 -> m'.F k = none -> m.F k = none
theorem KD.refl (m : le) : KD m m:=⟨rfl,fun _ _ h=>h⟩
theorem KD.trans {a b c : le} (h : KD a b) (g : KD b c) : KD a c:=⟨g.d.trans h.d,fun k hk e=>h.f k hk (g.f k hk e)⟩
theorem KD.of {m m' : le} (hF : m'.F = m.F) (hD : m'.D = m.D) : KD m m':=⟨hD,fun k _ e=>by rw [<- hF]; exact e⟩
theorem YLen.kd {m m' : le} (h : YLen m) (g : KD m m') : YLen m':=fun k hk e=>by rw [g.d]; exact h k hk (g.f k hk e)
theorem At (m : le) (d : lR) : KD m (lx m d).2:=by
 unfold lx
 split <;> exact KD.of rfl rfl
theorem KD.step {n : Nat} {m : le} {F' : ShM} (s : lJ n m.F F') {oj : Option JobM} {l : List Int} : KD m { m with F:=F',job:=oj,list:=l }:=⟨rfl,fun k hk e=>by
 cases h : m.F k with
 | none=>rfl
 | some i=>
  obtain ⟨i',h1,-,-⟩:=s.yes k i hk h
  rw [show F' k = none from e] at h1
  cases h1⟩
theorem KY (m : le) (a b : Int) : KD m (oS m a b):=by
 unfold oS
 split
 ·exact KD.refl m
 ·split
  ·exact KD.refl m
  ·exact KD.of rfl rfl
theorem Q8 {N : Nat} {m : le} (h : ly N m) (hN : N + 1000 < 900000) (fr : Int) (s : ByteArray) (hs : s.size <= 3200) : KD m (ot m fr s).2:=by
 have hst:=DN h.ok.sh (DF h.ok) (by omega) fr s hs
 unfold ot
 split
 ·exact KD.refl m
 ·exact (KD.step (oj:=m.job) (l:=m.list) hst).trans (KY _ _ _)
theorem T8 {N : Nat} {m : le} (h : ly N m) (hN : N + 1000 < 900000) (fr n : Int) (hn : n <= 200) : KD m (ow m fr n).2:=by
 have hst:=CP h.ok.sh (DF h.ok) (by omega) fr n hn
 unfold ow
 split
 ·exact KD.refl m
 ·exact (KD.step (oj:=m.job) (l:=m.list) hst).trans (KY _ _ _)
theorem QI (m : le) : KD m (AD m):=⟨rfl,fun k hk e=>((Ah (l:=m.list) (F:=m.F)).none hk).1 e⟩
theorem Ug (m : le) (a b c d : Int) : KD m (zP m a b c d).2:=by
 unfold zP
 repeat' split
 all_goals first
  | exact KD.refl m
  | exact At _ _
  | exact (At m _).trans (KD.of rfl rfl)
theorem Nd (m : le) (j : JobM) (r : Int) (b : Bool) : KD m (AN m j r b).2:=by
 unfold AN
 split
 ·exact At _ _
 ·exact (At m _).trans (KD.of rfl rfl)
theorem Sz (m : le) : KD m (zc m).2:=by
 unfold zc
 repeat' split
 all_goals first
  | exact KD.refl m
  | exact Nd _ _ _ _
theorem D4 {m : le} {j : JobM} {F : ShM} (hF : ∀k,k < 5 -> F k = none -> m.F k = none) {oj : Option JobM} {l : List Int} : KD m { m with F:=(ll F j).2.1,job:=oj,list:=l }:=
 ⟨rfl,fun k hk e=>hF k hk ((Ep hk).1 e)⟩
theorem T4 (m : le) : KD m (zV m).2:=by
 unfold zV
 split
 ·exact KD.refl m
 ·split
  ·exact KD.refl m
  ·split
   ·exact KD.refl m
   ·split
    ·exact D4 (fun _ _ h=>h)
    ·exact (D4 (oj:=some _) (l:=m.list) (fun _ _ h=>h)).trans (Nd _ _ _ _)
theorem SR (m : le) (b : Bool) : KD m (zk m b).2:=by
 unfold zk
 repeat' split
 all_goals exact KD.of rfl rfl
theorem Tq (m : le) (n : Int) : KD m (zQ m n).2:=by
 unfold zQ
 repeat' split
 all_goals exact KD.of rfl rfl
theorem UA {N : Nat} {m : le} (h : ly N m) (hN : N + 20 < 900000) : KD m (zU m).2:=by
 unfold zU
 cases hj : m.job with
 | none=>exact KD.refl m
 | some j=>
  dsimp only
  split
  ·exact KD.refl m
  ·rename_i h4
   obtain ⟨hS,-⟩:=h.ok.job j hj (by omega)
   have hst:=Bm (h.ok.sh.sh (by omega)) (h.ok.jok j hj) hS
   have h1 : KD m { m with F:=(lk m.F j).2.1,job:=some (lk m.F j).2.2 }:=KD.step (l:=m.list) hst
   split
   ·split
    ·exact h1
    ·exact h1.trans (At _ _)
   ·split
    ·exact h1
    ·split
     ·exact (D4 (oj:=some _) (l:=m.list) h1.f).trans (At _ _)
     ·exact (D4 (oj:=some _) (l:=_) h1.f).trans ((At _ _).trans (KD.of rfl rfl))
theorem VI {m : le} (h : YLen m) (f n : Int) : YLen (armM m f n).2:=by
 unfold armM
 split
 ·exact h
 ·split
  ·exact h.kd (KD.of rfl rfl)
  ·split
   ·rename_i i e
    exact h.kd ⟨rfl,fun k hk e2=>by
     dsimp only at e2
     unfold put at e2
     split at e2
     ·cases e2
     ·exact e2⟩
   ·rename_i e
    intro k hk e2
    dsimp only at e2 ⊢
    unfold setD
    split
    ·rename_i hk2; subst hk2; exact h _ hk e2
    ·exact h k hk e2
theorem KE {N : Nat} {m : le} (h : YLen m) (ho : YOk N m) (hN : N < 900000) (f b : Int) : YLen (lZ m f b).2:=by
 unfold lZ
 split
 ·exact h
 ·split
  ·exact h
  ·rename_i hb hu
   have hk5 : f.toNat < 5:=by omega
   split
   ·intro k hk e2
    dsimp only at e2 ⊢
    unfold setD
    split
    ·obtain ⟨d1,d2,d3⟩:=BU ho hk5
     have hc:=(AI (c:=clus m.F m.dk.root) (p:=yR (clus m.F m.dk.root) (devOf m f.toNat)) (b:=b) d1 (by omega) (by omega)).2.1
     change (yt m f.toNat b).2.d.fl.length = _ at hc
     rw [hc]
     exact h.dev ho hk5
    ·rename_i hk2
     unfold cut at e2
     rw [zq hk2] at e2
     exact h k hk e2
   ·exact h.kd ⟨rfl,fun k hk e2=>by
     dsimp only at e2
     unfold put at e2
     split at e2
     ·cases e2
     ·exact e2⟩
theorem Vg {N : Nat} {m : le} (h : YLen m) (ho : YOk N m) (hN : N < 900000) (f : Int) : YLen (AC m f).2:=by
 have hb:=KE h ho hN f m.dk.root
 unfold AC
 split
 ·exact h
 ·split
  ·exact h
  ·split
   ·exact hb
   ·split
    ·exact hb.kd (At _ _)
    ·exact hb.kd ((At _ _).trans (KD.of rfl rfl))
theorem B2 {c p : Int} (h : ¬lH c p (-1)) : ly 10 (yx c p) /\ YLen (yx c p):=by
 obtain ⟨h1,h2,h3⟩:=Fr h
 have hcr:=J6 h
 have hok:=AI (c:=c) (p:=p) (b:=-1) (Ao (n:=newN c p) (by omega)) (by show (0 : Nat) < _; decide) (by show (0 : Int) < _; decide)
 have his:=KO (od (newN c p)) c p (-1)
 change (newI c p).d.Ok /\ _ /\ (newI c p).d.pend.length <= _ /\ (newI c p).d.writes <= _ /\ (_ -> (newI c p).Ok /\ _) at hok
 change newI c p = _ at his
 obtain ⟨-,-,k1,k2,k3⟩:=hok
 have k3:=(k3 hcr).1
 rw [show (od (newN c p)).pend.length = 0 from rfl] at k1
 rw [show (od (newN c p)).writes = 0 from rfl] at k2
 have hic : (newI c p).c = c:=by rw [his]; rfl
 have hib : (newI c p).b = -1:=by rw [his]; rfl
 have hat : (yZ c p).F 0 = some (newI c p):=oU (fun _=>none) 0 (newI c p)
 have hfile : lz (yZ c p).F 0:=⟨by decide,by decide,_,hat⟩
 have hbk : bkOf (yZ c p).F 0 = -1:=by unfold bkOf; rw [show (0 : Int).toNat = 0 from rfl,hat]; exact hib
 have hput : ∀k i,(yZ c p).F k = some i -> i = newI c p:=fun k i e=>by
  change put (fun _=>none) 0 (newI c p) k = some i at e
  unfold put at e
  split at e
  ·cases e; rfl
  ·cases e
 have hg : ly 9 (yZ c p):=by
  refine ⟨⟨⟨fun k i hk e=>by rw [hput k i e]; exact k3,fun k i hk e=>by rw [hput k i e]; omega,fun k i hk e=>by rw [hput k i e]; omega⟩,fun k hk e=>⟨Ao (by omega),by show (0 : Int) <= _; omega,by show (0 : Nat) <= _; omega⟩,⟨Ao (by decide),by show (0 : Int) <= _; omega,by show (0 : Nat) <= _; omega,by show 1 <= (List.replicate 1 BD).length; decide⟩,?_,hfile,fun j hj=>by (cases hj),fun j hj=>by (cases hj)⟩,fun j hj=>by (cases hj)⟩
  show lr (yZ c p).F 0 = ([0],0)
  refine CK ⟨fun x hx=>?_,fun x hx=>?_,?_,trivial⟩ (by decide)
  ·rw [List.mem_singleton.1 hx]; exact hfile
  ·rw [List.mem_singleton.1 hx]
  ·exact hbk
 refine ⟨hg.bareW (by decide) (fun j hj=>by cases hj),YLen.kd (m:=yZ c p) (fun k hk e=>?_) (At _ _)⟩
 show 0 < (List.replicate (newN c p) BD).length
 rw [List.length_replicate]
 omega
theorem I8 {D : Nat -> DevM} {top : DevM} {N : Nat} (hN : N < 900000) (hD : ∀k,k < 5 -> (D k).Ok /\ (D k).writes <= N /\ (D k).pend.length <= N) (hD0 : ∀k,k < 5 -> 0 < (D k).fl.length) (ht : top.Ok /\ top.writes <= N /\ top.pend.length <= N /\ 1 <= top.fl.length) (h : (yj D top).1 = 0) :
  ly N (yj D top).2 /\ YLen (yj D top).2:=by
 unfold yj at h ⊢
 split at h
 ·rename_i h1; exact absurd h h1
 ·rename_i h1
  split at h
  ·rename_i h2; exact absurd h h2
  ·rename_i h2
   rw [zq h1,zq h2]
   have h1:=Decidable.not_not.1 h1
   have h2:=Decidable.not_not.1 h2
   have hdr:=Jx (QD h1)
   unfold zz at hdr
   have hr:=QF (F:=opF D 5) (r:=(dkOf (top.seen 0)).root) (by omega) h2
   have hg : ly N (oO D top):=⟨⟨Ix hD,fun k hk _=>hD k hk,ht,by show lr (opF D 5) (dkOf (top.seen 0)).root = ((lr (opF D 5) (dkOf (top.seen 0)).root).1,0); (exact Prod.ext rfl h2),hr,fun j hj=>by (cases hj),fun j hj=>by (cases hj)⟩,fun j hj=>by (cases hj)⟩
   have hl : YLen (oO D top):=fun k hk _=>hD0 k hk
   have hbare : ∀r,r = (oO D top).dk.root -> ly N { oO D top with dk:=lA r }:=fun r e=>by
    subst e
    exact ⟨⟨hg.ok.sh,hg.ok.dv,hg.ok.tp,hg.ok.walk,hg.ok.root,fun j hj=>by (cases hj),fun j hj=>by (cases hj)⟩,fun j hj=>by (cases hj)⟩
   dsimp only
   unfold zT
   split
   ·exact ⟨hg,hl⟩
   ·split
    ·exact ⟨hbare _ rfl,hl.kd (KD.of rfl rfl)⟩
    ·have hng:=fun j (hj : (newM (oO D top).F (oO D top).dk.root (oO D top).dk.kind (oO D top).dk.file (oO D top).dk.rate (oO D top).dk.burst).1 = some j)=>G6 (hg.ok.sh.sh hN) Co hj
     have hni:=fun j (hj : (newM (oO D top).F (oO D top).dk.root (oO D top).dk.kind (oO D top).dk.file (oO D top).dk.rate (oO D top).dk.burst).1 = some j)=>Lj hj
     split
     ·exact ⟨hbare _ rfl,hl.kd (KD.of rfl rfl)⟩
     ·rename_i j f e
      rw [e] at hng hni
      obtain ⟨a,b⟩:=hng j rfl
      obtain ⟨-,i1,i2,i3,i4,-,i5⟩:=hni j rfl
      rw [hg.ok.walk] at i1 i5
      refine ⟨⟨⟨hg.ok.sh,hg.ok.dv,hg.ok.tp,hg.ok.walk,hg.ok.root,fun k hk=>by (cases hk; exact a),fun k hk _=>by (cases hk; exact ⟨b,i1,i2,i3,i4⟩)⟩,fun k hk _ h2=>by cases hk; rw [i3]; exact i5 (i2.symm.trans h2)⟩,hl.kd (KD.of rfl rfl)⟩
theorem Iq {N : Nat} {m : le} (h : ly N m) (hl : YLen m) (hN : N < 900000) (ks : List (List Bool)) (h0 : (yW m ks).1 = 0) : ly N (yW m ks).2 /\ YLen (yW m ks).2:=
 I8 hN (fun k hk=>⟨DevM.crash_ok (BU h.ok hk).1 _,(BU h.ok hk).2.1,Nat.zero_le _⟩) (fun k hk=>by show 0 < ((devOf m k).crash _).fl.length; simp only [DevM.crash,lP]; exact hl.dev h.ok hk)
  ⟨DevM.crash_ok h.ok.tp.1 [],h.ok.tp.2.1,Nat.zero_le _,by simp only [DevM.crash,lP]; exact h.ok.tp.2.2.2⟩ h0
def le.see (m : le) (k : Nat) : ByteArray:=seeF m.F m.list k
structure YT (C : Int) (m : le) : Prop where
 fl : Fl m.F C m.list
 job : ∀j,m.job = some j -> j.st < 4 -> JobT m.F C m.list j
structure lT (C : Int) (m m' : le) : Prop where
 t : YT C m'
 see : ∀k,m'.see k = m.see k
theorem lT.refl {C : Int} {m : le} (h : YT C m) : lT C m m:=⟨h,fun _=>rfl⟩
theorem YT.cl0 {C : Int} {N : Nat} {m : le} (h : YT C m) (ho : YOk N m) : clus m.F m.dk.root = C:=by
 obtain ⟨s,hs⟩:=ho.head
 exact h.fl.cl _ (by rw [hs]; exact List.mem_cons_self ..)
theorem YT.of {N : Nat} {m : le} (h : YOk N m) (hj : ∀j,m.job = some j -> j.st < 4 -> JobT m.F (clus m.F m.dk.root) m.list j) : YT (clus m.F m.dk.root) m:=⟨⟨h.chn.file,h.chn.cl,h.nodup⟩,hj⟩
theorem lT.desk {C : Int} {m : le} (h : YT C m) (t : DevM) (d : lR) : lT C m { m with top:=t,dk:=d }:=⟨⟨h.fl,h.job⟩,fun _=>rfl⟩
theorem oP (m : le) (d : lR) : ∃t d',(lx m d).2 = { m with top:=t,dk:=d' }:=by
 unfold lx
 split
 ·exact ⟨_,m.dk,rfl⟩
 ·exact ⟨_,d,rfl⟩
theorem lT.job {C : Int} {m : le} (h : YT C m) {oj : Option JobM} (hj : ∀j,oj = some j -> j.st < 4 -> JobT m.F C m.list j) : lT C m { m with job:=oj }:=⟨⟨h.fl,hj⟩,fun _=>rfl⟩
theorem Gt {C : Int} {m : le} (h : YT C m) (on : Bool) : lT C m (zk m on).2:=by
 unfold zk
 cases hj : m.job with
 | none=>exact lT.refl h
 | some j=>
  dsimp only
  split
  ·exact lT.refl h
  ·exact lT.job h fun j' e _=>by cases e; exact (h.job j hj (by omega)).pause on
theorem GV {C : Int} {m : le} (h : YT C m) (n : Int) : lT C m (zQ m n).2:=by
 unfold zQ
 split
 ·exact lT.refl h
 ·cases hj : m.job with
  | none=>exact lT.refl h
  | some j=>
   dsimp only
   split
   ·exact lT.refl h
   ·exact lT.job h fun j' e _=>by cases e; exact (h.job j hj (by omega)).tick n
theorem lT.faces {C : Int} {m : le} (h : YT C m) {F' : ShM} (hs : og m.F F') (hf : ∀x k,lD F' x k = lD m.F x k) : lT C m { m with F:=F' }:=
 ⟨⟨h.fl.same hs,fun j hj h4=>(h.job j hj h4).faces hs hf⟩,fun k=>ye fun y _=>hf y k⟩
theorem Gp {C : Int} {N : Nat} {m : le} (h : YT C m) (ho : YOk N m) : lT C m (AD m):=lT.faces h Ah (Ce ho.sh ho.files)
theorem Kg {C : Int} {N : Nat} {m : le} (h : YT C m) (ho : YOk N m) (file n : Int) : lT C m (armM m file n).2:=by
 unfold armM
 split
 ·exact lT.refl h
 ·rename_i hb
  split
  ·exact lT.desk h _ _
  ·cases e : m.F file.toNat with
   | none=>exact ⟨⟨h.fl,h.job⟩,fun _=>rfl⟩
   | some i=>
    refine lT.faces h (og.put e rfl rfl) fun x k=>?_
    by_cases e2 : x.toNat = file.toNat
    ·unfold lD
     rw [e2,oU,e]
     exact Mr (ho.sh.ok _ i (by omega) e) k
    ·unfold lD
     rw [Ak _ _ e2]
theorem lT.off {C : Int} {m : le} (h : YT C m) {N : Nat} (ho : YOk N m) {file : Int} (h0 : 0 <= file) (hu : A1 m file = false) {F' : ShM} {D' : Nat -> DevM} (hF : ∀k,k≠file.toNat -> F' k = m.F k) : lT C m { m with F:=F',D:=D' }:=by
 unfold A1 at hu
 rw [Bool.or_eq_false_iff,decide_eq_false_iff_not] at hu
 obtain ⟨hnl,hnb⟩:=hu
 have hf : ∀y,0 <= y -> y≠file -> F' y.toNat = m.F y.toNat:=fun y hy hne=>hF _ (by omega)
 have hl : ∀y∈m.list,F' y.toNat = m.F y.toNat:=fun y hy=>hf y (h.fl.file y hy).1 fun e=>hnl (e ▸ hy)
 refine ⟨⟨⟨fun y hy=>?_,fun y hy=>?_,h.fl.nd⟩,fun j hj h4=>?_⟩,fun k=>ye fun y hy=>by unfold lD; dsimp only; rw [hl y hy]⟩
 ·obtain ⟨a,b,c⟩:=h.fl.file y hy
  exact ⟨a,b,by dsimp only; rw [hl y hy]; exact c⟩
 ·have:=h.fl.cl y hy
  unfold clus at this ⊢
  dsimp only
  rw [hl y hy]
  exact this
 ·obtain ⟨-,-,-,hfile,-⟩:=ho.job j hj h4
  refine (h.job j hj h4).off h.fl h0 hnl ?_ hF
  intro he
  have hb : Ae m = true:=by unfold Ae; rw [hj]; exact zg h4
  rw [hb,<- hfile,<- he] at hnb
  simp at hnb
theorem Er {C : Int} {m : le} (h : YT C m) {N : Nat} (ho : YOk N m) (file back : Int) : lT C m (lZ m file back).2:=by
 unfold lZ
 split
 ·exact lT.refl h
 ·split
  ·exact lT.refl h
  ·rename_i hb hu
   have hu : A1 m file = false:=by simpa using hu
   split
   ·exact lT.off h ho (by omega) hu fun k hk=>zq hk
   ·exact lT.off (D':=m.D) h ho (by omega) hu fun k hk=>zq hk
theorem C7 (d : DevM) (c p b : Int) : ∃d',(oE d c p b).2 = oC d' c p b:=by
 unfold oE
 repeat' split
 all_goals exact ⟨_,rfl⟩
theorem I0 {C : Int} {m : le} (h : YT C m) {N : Nat} (hg : ly N m) (file : Int) : lT C m (AC m file).2:=by
 have ho:=hg.ok
 have hb:=Er h ho file m.dk.root
 unfold AC
 split
 ·exact lT.refl h
 ·rename_i hbusy
  split
  ·exact lT.refl h
  ·split
   ·exact hb
   ·rename_i hc
    obtain ⟨t,d',e⟩:=oP (lZ m file m.dk.root).2 (lA file)
    split
    ·rw [e]
     exact ⟨⟨hb.t.fl,hb.t.job⟩,hb.see⟩
    ·obtain ⟨f0,f5,hu,-,hM⟩:=Ge (Decidable.not_not.1 hc)
     obtain ⟨dv,hi⟩:=C7 (devOf m file.toNat) (clus m.F m.dk.root) (yR (clus m.F m.dk.root) (devOf m file.toNat)) m.dk.root
     change (yt m file.toNat m.dk.root).2 = _ at hi
     rw [e]
     have hbt:=hb.t.fl
     have hbs:=hb.see
     have hcl:=h.cl0 ho
     rw [hM] at hbt hbs ⊢
     rw [hi,hcl] at hbt hbs ⊢
     have hface : ∀k,lD (put m.F file.toNat (oC dv C (yR C (devOf m file.toNat)) m.dk.root)) file k = none:=fun k=>by rw [oH (oU m.F file.toNat _)]; exact Fx k
     have hnl : file∉m.list:=by
      unfold A1 at hu
      rw [Bool.or_eq_false_iff,decide_eq_false_iff_not] at hu
      exact hu.1
     refine ⟨⟨⟨fun y hy=>?_,fun y hy=>?_,List.nodup_cons.2 ⟨hnl,h.fl.nd⟩⟩,fun j hj h4=>?_⟩,fun k=>?_⟩
     ·rcases List.mem_cons.1 hy with rfl | hy
      ·exact ⟨f0,f5,_,oU ..⟩
      ·exact hbt.file y hy
     ·rcases List.mem_cons.1 hy with rfl | hy
      ·unfold clus; dsimp only; rw [oU]; rfl
      ·exact hbt.cl y hy
     ·exfalso
      apply hbusy
      unfold Ae
      rw [show m.job = some j from hj]
      exact zg h4
     ·exact (Cn (hface k)).trans (hbs k)
theorem OP {F : ShM} {j : JobM} (hn : j.n <= 64) : ∀c,c <= j.n -> ∀q,q < 64 -> (ya F j c).testBit q = (decide (q < c) && oQ F j (q : Int)):=by
 intro c
 induction c with
 | zero=>intro _ q _; simp [ya]
 | succ c ih=>
  intro hc q hq
  rw [Wk F j hn (by omega) q hq]
  by_cases e : q = c
  ·subst e; rw [zt rfl]; simp
  ·rw [zq e,ih (by omega) q hq]
   congr 1
   exact decide_eq_decide.2 (by omega)
theorem Q0 {f : Int} : ∀{l : List Int} {i : Nat},0 <= zj f i l -> ∃p : Nat,zj f i l = ((i + p : Nat) : Int) /\ p < l.length /\ (l.drop p).headD (-1) = f:=by
 intro l
 induction l with
 | nil=>intro i h; exact absurd (show (0 : Int) <= -1 from h) (by decide)
 | cons x l ih=>
  intro i h
  rw [zj] at h ⊢
  split
  ·rename_i e
   exact ⟨0,rfl,by simp,by simpa using e⟩
  ·rename_i e
   rw [zq e] at h
   obtain ⟨p,h1,h2,h3⟩:=ih h
   exact ⟨p + 1,by rw [h1]; congr 1; omega,by simpa using h2,by simpa using h3⟩
theorem Ln {F : ShM} {N : Nat} (hW : ShW N F) {root kind file rate burst : Int} {l : List Int} {C : Int} (hF : Fl F C l) (hl : l≠[]) (hw : lr F root = (l,0)) (hr : clus F root = C) {j : JobM} (h : (newM F root kind file rate burst).1 = some j) : JobT F C l j:=by
 obtain ⟨x0,hx0⟩:=List.exists_mem_of_ne_nil l hl
 obtain ⟨m0,-,-,-,ho0,hc0,-⟩:=hF.img hW hx0
 obtain ⟨C0,q0,q1,q2,-⟩:=ho0.nat
 have hCn : (C.toNat : Int) = C:=by omega
 have hn64 : C.toNat <= 64:=by omega
 unfold newM at h
 rw [hw,hr] at h
 dsimp only at h
 rw [zq (by simp),zq (by simpa using hl)] at h
 have hpart : ∀(j : JobM),j.n = C.toNat -> ∀q,q < 64 -> q < C.toNat -> (ya F j j.n).testBit q = oQ F j (q : Int):=fun j hj q hq hqc=>by
  rw [OP (by omega) j.n (Nat.le_refl _) q hq,zg (by omega : q < j.n),Bool.true_and]
 split at h
 ·cases h
 ·split at h
  ·rename_i hk
   split at h
   ·cases h
   ·rename_i hfile
    split at h
    ·cases h
    ·rename_i hno
     cases h
     have hfile : lz F file:=DI.1 (by simpa using hfile)
     have h1 : ¬0 <= zy l file:=fun h=>hno (.inl h)
     have h2 : bkOf F file = -1:=Decidable.byContradiction fun h=>hno (.inr (.inl h))
     have h3 : clus F file = C:=Decidable.byContradiction fun h=>hno (.inr (.inr h))
     refine ⟨rfl,?_,fun h=>absurd hk h,fun h=>?_,fun _=>⟨fun hm=>h1 ?_,hfile,h3,h2⟩,fun h=>absurd (show (2 : Int) = 1 from h) (by decide),fun h=>absurd (show (2 : Int) = 3 from h) (by decide),fun k hk4 hx=>?_⟩
     ·show (((clus F root).toNat : Nat) : Int) = C
      rw [hr]; exact hCn
     ·exact absurd (hk.symm.trans h) (by decide)
     ·have : ∀{l : List Int} {i : Nat},file∈l -> 0 <= zj file i l:=by
       intro l
       induction l with
       | nil=>intro i h; cases h
       | cons y l ih=>
        intro i h
        rw [zj]
        split
        ·omega
        ·rename_i e
         exact ih ((List.mem_cons.1 h).resolve_left fun e'=>e e'.symm)
      exact this hm
     ·have:=hpart (jNew F root kind file rate burst l 0) (by show (clus F root).toNat = _; rw [hr]) (k / 4) (by omega) (by omega)
      change (ya F (jNew F root kind file rate burst l 0) (jNew F root kind file rate burst l 0).n).testBit (k / 4) = false at hx
      rw [this] at hx
      unfold oQ at hx
      rw [zt (by exact hk)] at hx
      cases hx
  ·rename_i hk1
   have fin : ∀d : Nat,(kind = 2 \/ kind = 3) -> 1 <= d -> d <= l.length -> (l.drop d).headD (-1) = file -> (kind = 3 -> d < l.length) -> JobT F C l (zK F (jNew F root kind file rate burst l d)):=fun d hk d1 d2 d3 d4=>by
    refine ⟨rfl,?_,fun _=>⟨d1,d2,d3⟩,d4,fun h=>absurd h hk1,fun h=>absurd (show (2 : Int) = 1 from h) (by decide),fun h=>absurd (show (2 : Int) = 3 from h) (by decide),fun k hk4 hx=>?_⟩
    ·show (((clus F root).toNat : Nat) : Int) = C
     rw [hr]; exact hCn
    ·have:=hpart (jNew F root kind file rate burst l d) (by show (clus F root).toNat = _; rw [hr]) (k / 4) (by omega) (by omega)
     change (ya F (jNew F root kind file rate burst l d) (jNew F root kind file rate burst l d).n).testBit (k / 4) = false at hx
     rw [this] at hx
     have:=(GM (j:=jNew F root kind file rate burst l d) hF hW rfl hk1 hk ⟨d1,d2⟩ (c:=k / 4) (i:=k % 4) (by omega)).1 hx
     rw [show 4 * (k / 4) + k % 4 = k by omega] at this
     exact this
   split at h
   ·rename_i hk
    cases h
    refine fin l.length (.inl hk.1) (by have h0 : l.length≠0:=fun h=>hl (List.eq_nil_of_length_eq_zero h); omega) (Nat.le_refl _) ?_ fun h=>absurd (hk.1.symm.trans h) (by decide)
    rw [List.drop_length]
    exact hk.2.symm
   ·split at h
    ·rename_i hk
     split at h
     ·cases h
     ·rename_i hp
      cases h
      obtain ⟨p,h1,h2,h3⟩:=Q0 (f:=file) (l:=l) (i:=0) (by unfold zy at hp; omega)
      have hp' : zy l file = (p : Int):=by unfold zy; rw [h1,Nat.zero_add]
      rw [hp',zn]
      exact fin p hk (by omega) (by omega) h3 fun _=>h2
    ·cases h
theorem Gz {C : Int} {N : Nat} {m : le} (h : YT C m) (ho : YOk N m) (kind file rate burst : Int) : lT C m (zP m kind file rate burst).2:=by
 unfold zP
 split
 ·exact lT.refl h
 ·split
  ·exact lT.refl h
  ·split
   ·exact lT.refl h
   ·have hj:=fun j (hj : (newM m.F m.dk.root kind file rate burst).1 = some j)=>Ln ho.sh h.fl (by obtain ⟨s,hs⟩:=ho.head; rw [hs]; simp) ho.walk (h.cl0 ho) hj
    generalize newM m.F m.dk.root kind file rate burst = S at *
    obtain ⟨oj,f⟩:=S
    cases oj with
    | none=>exact lT.refl h
    | some j=>
     obtain ⟨t,d',e⟩:=oP m ⟨m.dk.root,kind,file,rate,burst⟩
     dsimp only
     split
     ·rw [e]
      exact lT.desk h t d'
     ·rw [e]
      exact ⟨⟨h.fl,fun j' e' _=>by cases e'; exact (hj j rfl).pause false⟩,fun _=>rfl⟩
theorem Ip {x : Int} : ∀{a c b d : List Int},(a++x::b).Nodup -> a++x::b = c++x::d -> b = d:=by
 intro a
 induction a with
 | nil=>
  intro c b d hn h
  cases c with
  | nil=>exact (List.cons.inj h).2
  | cons y c=>
   obtain ⟨rfl,h2⟩:=List.cons.inj h
   exact absurd (by rw [h2]; simp) (List.nodup_cons.1 hn).1
 | cons y a ih=>
  intro c b d hn h
  cases c with
  | nil=>
   obtain ⟨rfl,h2⟩:=List.cons.inj h
   exact absurd (by simp) (List.nodup_cons.1 hn).1
  | cons z c=>
   exact ih (List.nodup_cons.1 hn).2 (List.cons.inj h).2
theorem Dv {F : ShM} {C : Int} {l : List Int} {j : JobM} (hF : Fl F C l) (hT : JobT F C l j) : Fl F C (ov j l):=by
 unfold ov
 split
 ·rename_i h1
  obtain ⟨-,m2,m3,-⟩:=hT.mir h1
  exact ⟨fun y hy=>by rw [List.mem_singleton.1 hy]; exact m2,fun y hy=>by rw [List.mem_singleton.1 hy]; exact m3,by simp⟩
 ·rename_i h1
  obtain ⟨d1,d2,-⟩:=hT.deep h1
  obtain ⟨x,t,r,e1,e2,e3,e4⟩:=EE d1 d2
  split
  ·rw [e3,e4]
   refine hF.sub ?_
   rw [e1]
   exact List.Sublist.cons_cons x (List.sublist_append_right _ _)
  ·exact hF.sub (List.drop_sublist _ _)
theorem D2 {F : ShM} {C : Int} {l : List Int} {j : JobM} (hc : Chn F C l) (h5 : l.length <= 5) (hj : j.kind = 1 \/ j.kind = 3) (hT : JobT F C l j) : lr F j.file = (ov j l,0) /\ clus F j.file = C /\ lz F j.file:=by
 unfold ov
 by_cases h1 : j.kind = 1
 ·obtain ⟨-,m2,m3,m4⟩:=hT.mir h1
  rw [zt h1]
  refine ⟨CK ⟨fun y hy=>by rw [List.mem_singleton.1 hy]; exact m2,fun y hy=>by rw [List.mem_singleton.1 hy],m4,trivial⟩ (by simp),m3,m2⟩
 ·obtain ⟨d1,d2,d3⟩:=hT.deep h1
  have hlt:=hT.com (hj.resolve_left h1)
  rw [zq h1,zq (by omega)]
  have hd:=hc
  rw [<- List.take_append_drop j.deep l] at hd
  have hd:=hd.drop
  have hlen : (l.drop j.deep).length = l.length - j.deep:=List.length_drop
  cases e : l.drop j.deep with
  | nil=>rw [e] at hlen; simp at hlen; omega
  | cons y r=>
   rw [e] at d3 hd hlen
   have d3 : y = j.file:=d3
   subst d3
   have hcl:=hd.cl _ (List.mem_cons_self ..)
   exact ⟨CK (by rw [hcl]; exact hd) (by omega),hcl,hd.file _ (List.mem_cons_self ..)⟩
theorem Lu {F : ShM} {C : Int} {l : List Int} {j : JobM} (hj : j.Ok) (hT : JobT F C l j) (h3 : j.st = 3) {k : Nat} (hk : (k : Int) < 4 * C) : seeF F (ov j l) k = seeF F l k:=
 hT.see k hk (OI (hT.r3 h3) (by have:=hT.x_lt hk; have:=hj.n; omega))
theorem QA {F : ShM} {C : Int} {l : List Int} {N : Nat} (h : Fl F C l) (hW : ShW N F) {k : Nat} (hk : 4 * C <= (k : Int)) : seeF F l k = zs 16:=GW fun x hx=>by
 obtain ⟨m,hm,-,-,ho,-,hl⟩:=h.img hW hx
 rw [oH hm,Aa,Fv (by omega)]
theorem LR {F : ShM} {C : Int} {l : List Int} {N : Nat} {j : JobM} (hF : Fl F C l) (hW : ShW N F) (hj : j.Ok) (hT : JobT F C l j) (h3 : j.st = 3) (k : Nat) : seeF F (ov j l) k = seeF F l k:=by
 by_cases hk : (k : Int) < 4 * C
 ·exact Lu hj hT h3 hk
 ·rw [QA hF hW (by omega),QA (Dv hF hT) hW (by omega)]
theorem I5 {C : Int} {m : le} (h : YT C m) (j : JobM) (root : Int) (well : Bool) {l : List Int} (hw : lr m.F root = (l,0)) (hl : Fl m.F C l) (hs : ∀k,seeF m.F l k = seeF m.F m.list k) : lT C m (AN m j root well).2:=by
 obtain ⟨t,d',e⟩:=oP m (lA root)
 unfold AN
 split
 ·rw [e]
  exact lT.desk h t d'
 ·rw [e,hw]
  exact ⟨⟨hl,fun j' e' h4=>by cases e'; exact absurd h4 (CH _ _)⟩,hs⟩
theorem Gl {C : Int} {N : Nat} {m : le} (h : YT C m) (ho : YOk N m) : lT C m (zc m).2:=by
 unfold zc
 cases hj : m.job with
 | none=>exact lT.refl h
 | some j=>
  dsimp only
  split
  ·exact lT.refl h
  ·exact I5 h j _ false ho.walk h.fl fun _=>rfl
theorem M2 {N : Nat} {m : le} (h : YOk N m) : m.list.length <= 5:=by
 have:=Co (F:=m.F) (root:=m.dk.root)
 rwa [h.walk] at this
theorem lT.trans {C : Int} {a b c : le} (h : lT C a b) (g : lT C b c) : lT C a c:=⟨g.t,fun k=>(g.see k).trans (h.see k)⟩
theorem Ia {C : Int} {N : Nat} {m : le} (h : YT C m) (hg : ly N m) (hN : N + 1 < 900000) : lT C m (zV m).2:=by
 have ho:=hg.ok
 unfold zV
 cases hj : m.job with
 | none=>exact lT.refl h
 | some j=>
  dsimp only
  split
  ·exact lT.refl h
  ·rename_i h4
   have h4 : j.st < 4:=by omega
   obtain ⟨hS,hl,hk,hf,hr⟩:=ho.job j hj h4
   have hT:=h.job j hj h4
   have hjo:=ho.jok j hj
   split
   ·exact lT.refl h
   ·rename_i h2
    have hkj : j.kind≠2:=by rw [hk]; exact h2
    obtain ⟨hs,hjj⟩:=Cj (F:=m.F) hkj
    have hW:=AW ho.sh (by omega) hjo hS
    have hface : ∀x k,lD (ll m.F j).2.1 x k = lD m.F x k:=fun x k=>by
     unfold ll
     split
     ·rfl
     ·split
      ·rfl
      ·exact Ce ho.sh (zo m.F j.file) x k
    have hst : lT C m { m with F:=(ll m.F j).2.1,job:=some (ll m.F j).2.2 }:=by
     rw [hjj,<- hj]
     exact lT.faces h hs hface
    split
    ·exact hst
    ·rename_i hc
     have h3 : j.st = 3:=by
      refine Decidable.byContradiction fun hn=>hc ?_
      unfold ll
      rw [zt hn]
      show (9 : Int)≠0
      decide
     have hT2:=hst.t.job j (by rw [hjj]) h4
     have hch : Chn (ll m.F j).2.1 C m.list:=by
      have:=ho.chn
      rw [h.cl0 ho] at this
      refine this.keep fun x hx=>hs _ ?_
      obtain ⟨a,b,-⟩:=this.file x hx
      omega
     obtain ⟨w1,w2,w3⟩:=D2 hch (M2 ho) (by have:=hjo.kind; omega) hT2
     refine hst.trans (I5 hst.t _ _ true ?_ (Dv hst.t.fl hT2) fun k=>LR hst.t.fl hW hjo hT2 h3 k)
     rw [<- hf]
     exact w1
theorem Dw {F : ShM} {N : Nat} (hW : ShW N F) (hN : N < 900000) {j : JobM} (hj : j.Ok) (hS : JobS F j) (x : Int) (k : Nat) : lD (ll F j).2.1 x k = lD F x k:=by
 have h0:=hS.list _ (mem0 hj.pos)
 have hk : (j.list.getD 0 0).toNat < 5:=by have:=h0.1; have:=h0.2.1; omega
 unfold ll
 split
 ·rfl
 ·split
  ·split <;> exact KQ hW hN hk _ x k
  ·split
   ·rfl
   ·exact Ce hW (zo F j.file) x k
theorem GN {C : Int} {N : Nat} {m : le} (h : YT C m) (hg : ly N m) (hN : N + 20 < 900000) : lT C m (zU m).2:=by
 have ho:=hg.ok
 unfold zU
 cases hj : m.job with
 | none=>exact lT.refl h
 | some j=>
  dsimp only
  split
  ·exact lT.refl h
  ·rename_i h4
   have h4 : j.st < 4:=by omega
   obtain ⟨hS,hl,hk,hf,hr⟩:=ho.job j hj h4
   have hT:=h.job j hj h4
   have hjo:=ho.jok j hj
   have hst:=Bm (ho.sh.sh (by omega)) hjo hS
   obtain ⟨-,s2,s3⟩:=Jp h.fl ho.sh (by omega) hjo hS hT h4
   have h1 : lT C m { m with F:=(lk m.F j).2.1,job:=some (lk m.F j).2.2 }:=⟨⟨h.fl.same hst.same,fun j' e h4'=>by cases e; exact s3 h4'⟩,s2⟩
   split
   ·split
    ·exact h1
    ·obtain ⟨t,d',e⟩:=oP { m with F:=(lk m.F j).2.1,job:=some (lk m.F j).2.2 } (lA m.dk.root)
     rw [e]
     exact h1.trans (lT.desk h1.t t d')
   ·split
    ·exact h1
    ·rename_i hc0 hks
     have hk2 : m.dk.kind = 2:=Decidable.byContradiction fun hn=>hks (.inl hn)
     have hs3 : (lk m.F j).2.2.st = 3:=Decidable.byContradiction fun hn=>hks (.inr hn)
     have hg1:=hg.stepJ (by omega) hj h4
     obtain ⟨s,hls⟩:=ho.head
     have hs:=Bl m.F j
     have hS1 : JobS (lk m.F j).2.1 (lk m.F j).2.2:=(hg1.ok.job _ rfl (by omega)).1
     have hjo1 : (lk m.F j).2.2.Ok:=hg1.ok.jok _ rfl
     have hW1:=hg1.ok.sh
     have hT1 : JobT (lk m.F j).2.1 C m.list (lk m.F j).2.2:=s3 (by omega)
     have hfl1:=h1.t.fl
     have hst2:=ID (F:=(lk m.F j).2.1) (j:=(lk m.F j).2.2) (by rw [hs.2.1,hk,hk2]) hg1.ok.root (DO (by rw [hs.1,hl,hls]))
     have hlk:=hg.linked (by omega) hj h4 hk2
     have hfc:=Dw hW1 (by omega) hjo1 hS1
     dsimp only at hW1 hfl1
     have hs5 : (ll (lk m.F j).2.1 (lk m.F j).2.2).1≠0 -> ∀j',some (ll (lk m.F j).2.1 (lk m.F j).2.2).2.2 = some j' -> ¬j'.st < 4:=fun hc j' e=>by
      cases e
      rw [(hst2.1 hc).2 hs3]
      decide
     split
     ·rename_i hc
      obtain ⟨t,d',e⟩:=oP { m with F:=(ll (lk m.F j).2.1 (lk m.F j).2.2).2.1,job:=some (ll (lk m.F j).2.1 (lk m.F j).2.2).2.2 } (lA m.dk.root)
      rw [e]
      refine ⟨⟨hfl1.same (hst2.1 hc).1,fun j' e' h4'=>absurd h4' (hs5 hc j' e')⟩,fun k=>?_⟩
      exact (ye (l:=m.list) fun y _=>hfc y k).trans (s2 k)
     ·rename_i hc
      have hc:=Decidable.not_not.1 hc
      obtain ⟨b1,b2,b3,b4⟩:=hst2.2 hc
      obtain ⟨t,ht,ht1,ht2⟩:=hlk hc
      obtain ⟨tp,d',e⟩:=oP { m with F:=(ll (lk m.F j).2.1 (lk m.F j).2.2).2.1,job:=some (endM (ll (lk m.F j).2.1 (lk m.F j).2.2).2.2 true),list:=(lr (ll (lk m.F j).2.1 (lk m.F j).2.2).2.1 m.dk.root).1 } (lA m.dk.root)
      rw [e,ht]
      have hkk : (lk m.F j).2.2.kind = 2:=by rw [hs.2.1,hk,hk2]
      obtain ⟨d1,d2,d3⟩:=hT1.deep (by omega)
      have haft : ov (lk m.F j).2.2 m.list = m.dk.root::t:=by
       unfold ov
       rw [zq (by omega),zt hkk]
       have e0 : m.list.take 1 = [m.dk.root]:=by rw [hls]; rfl
       rw [e0,List.singleton_append]
       congr 1
       rw [hs.2.2.1] at d3
       by_cases hn : j.file = -1
       ·rw [ht1 hn]
        cases e2 : m.list.drop (lk m.F j).2.2.deep with
        | nil=>rfl
        | cons y r=>
         rw [e2] at d3
         have d3 : y = j.file:=d3
         have:=(h.fl.file y (List.mem_of_mem_drop (by rw [e2]; exact List.mem_cons_self ..))).1
         omega
       ·obtain ⟨p,s',hp,rfl⟩:=ht2 hn
        cases e2 : m.list.drop (lk m.F j).2.2.deep with
        | nil=>rw [e2] at d3; exact absurd d3.symm hn
        | cons y r=>
         rw [e2] at d3
         have d3 : y = j.file:=d3
         subst d3
         congr 1
         have e3 : m.list = m.list.take (lk m.F j).2.2.deep++j.file::r:=by rw [<- e2,List.take_append_drop]
         have hnd:=h.fl.nd
         rw [e3] at hnd
         exact Ip hnd (e3.symm.trans (hp.trans (List.cons_append).symm))
      have hfa:=Dv hfl1 hT1
      rw [haft] at hfa
      refine ⟨⟨⟨fun y hy=>?_,fun y hy=>?_,hfa.nd⟩,fun j' e' h4'=>by cases e'; exact absurd h4' (CH _ _)⟩,fun k=>?_⟩
      ·exact Nu (hfa.file y hy)
      ·have hy0:=(hfa.file y hy).1
       rcases List.mem_cons.1 hy with rfl | hy'
       ·exact b2.trans (hfa.cl _ hy)
       ·have hr0:=(hfa.file m.dk.root (List.mem_cons_self ..)).1
        have hne : y≠m.dk.root:=fun e=>(List.nodup_cons.1 hfa.nd).1 (e ▸ hy')
        have:=hfa.cl y hy
        unfold clus at this ⊢
        dsimp only
        rw [b1 _ (show y.toNat≠m.dk.root.toNat by omega)]
        exact this
      ·refine (ye (l:=m.dk.root::t) fun y _=>hfc y k).trans ?_
       rw [<- haft,LR hfl1 hW1 hjo1 hT1 hs3 k]
       exact s2 k
theorem Kr {C : Int} {N : Nat} {m : le} (h : YT C m) (ho : YOk N m) {F' : ShM} (hs : og m.F F') {x : Int} {l : List Int} (hl : m.list = x::l) {fr n : Nat} {new : Nat -> ByteArray} {r : Int} (hp : zH x (x::l) fr new 0 n m.F (r,F')) : YT C (oS { m with F:=F' } (fr : Int) (n : Int)) /\ ∀k,(oS { m with F:=F' } (fr : Int) (n : Int)).see k = seeF F' (x::l) k:=by
 have hfl:=h.fl.same hs
 unfold oS
 cases hj : m.job with
 | none=>exact ⟨⟨hfl,fun j e=>by cases e⟩,fun k=>by unfold le.see; rw [<- hl]⟩
 | some j=>
  dsimp only
  by_cases hn : (n : Int) = 0
  ·rw [zt hn]
   have hn0 : n = 0:=by omega
   subst hn0
   refine ⟨⟨hfl,fun j' e h4=>?_⟩,fun k=>by unfold le.see; rw [<- hl]⟩
   cases e
   have hT:=h.job j hj h4
   rw [hl] at hT
   have hF : Fl m.F C (x::l):=by rw [<- hl]; exact h.fl
   have:=hT.wrote (N:=N) hF hs (ho.jok j hj) h4 hp.rise (fr:=fr) (n:=0) (new:=new) (fun i=>(hp.old i).imp id fun ⟨q,_,q2,_⟩=>by omega) (c:=0) (d:=0) (fun q hq=>by omega)
   show JobT F' C m.list j
   rw [hl]
   exact this
  ·rw [zq hn]
   refine ⟨⟨hfl,fun j' e h4=>?_⟩,fun k=>by unfold le.see; rw [<- hl]⟩
   cases e
   have hd : ((fr : Int) / 4) = ((fr / 4 : Nat) : Int):=by omega
   have hd2 : (((fr : Int) + (n : Int) - 1) / 4 - (fr : Int) / 4 + 1).toNat = (fr + n - 1) / 4 - fr / 4 + 1:=by omega
   rw [hd2,hd] at h4 ⊢
   have h4':=(Ig _ (ho.jok j hj) _).2.2.1.1 h4
   have hT:=h.job j hj h4'
   rw [hl] at hT
   have hF : Fl m.F C (x::l):=by rw [<- hl]; exact h.fl
   show JobT F' C m.list _
   rw [hl]
   exact hT.wrote (N:=N) hF hs (ho.jok j hj) h4' hp.rise (fr:=fr) (n:=n) (new:=new) (fun i=>(hp.old i).imp id fun ⟨q,_,q2,q3,_⟩=>⟨q,by omega,q3⟩) (fun q hq=>by omega)
structure M3 (C : Int) (m m' : le) (cd fr : Int) (n : Nat) (new : Nat -> ByteArray) : Prop where
 t : YT C m'
 code : cd = 0 \/ cd = 1 \/ cd = 6 \/ cd = 7
 no : cd = 1 -> m' = m
 rng : cd≠1 -> 0 <= fr /\ fr + (n : Int) <= 4 * C
 old : ∀k,m'.see k = m.see k \/ ∃j,j < n /\ (k : Int) = fr + j /\ m'.see k = new j
 did : cd = 0 -> ∀j k : Nat,j < n -> (k : Int) = fr + j -> m'.see k = new j
theorem Cc {C : Int} {N : Nat} {m : le} (h : YT C m) (ho : YOk N m) (hN : N + 1000 < 900000) (fr : Int) (s : ByteArray) (hs : s.size <= 3200) : M3 C m (ot m fr s).2 (ot m fr s).1 fr (s.size / 16) (lw s) /\ ((ot m fr s).1≠1 -> s.size % 16 = 0):=by
 obtain ⟨l,hl⟩:=ho.head
 have hF : Fl m.F C (m.dk.root::l):=by rw [<- hl]; exact h.fl
 have hst:=DN ho.sh (DF ho) (by omega) fr s hs
 unfold ot
 split
 ·exact ⟨⟨h,.inr (.inl rfl),fun _=>rfl,fun h=>absurd rfl h,fun _=>.inl rfl,fun h=>by cases h⟩,fun h=>absurd rfl h⟩
 ·rename_i hb
  have hp:=OE ho.sh hN hF (B9 hF) (fr:=fr) hs
  rw [<- hl] at hp
  rcases hp with ⟨-,-,h3⟩ | ⟨h1,h2,hp⟩
  ·exact absurd h3 hb
  ·obtain ⟨-,w1,w2,w3⟩:=yN h2
   rw [show clus m.F (m.list.getD 0 0) = C by rw [hl]; exact hF.cl _ (List.mem_cons_self ..)] at w3
   obtain ⟨f,rfl⟩:=ze w1
   rw [zn] at hp
   have hp : zH m.dk.root (m.dk.root::l) f (lw s) 0 (s.size / 16) m.F (putM m.F m.list (f : Int) s):=by rw [<- hl]; exact hp
   obtain ⟨y1,y2⟩:=Kr h ho hst.same hl hp
   refine ⟨⟨y1,?_,fun h0=>?_,fun _=>⟨by omega,by omega⟩,fun k=>?_,fun h0 j k hj hk=>?_⟩,fun _=>h1⟩
   ·rcases hp.code with e | e | e
    ·exact .inl e
    ·exact .inr (.inr (.inl e))
    ·exact .inr (.inr (.inr e))
   ·dsimp only at h0
    rcases hp.code with e | e | e
    all_goals
     rw [e] at h0
     cases h0
   ·rw [y2,show m.see k = seeF m.F (m.dk.root::l) k by rw [le.see,hl]]
    rcases hp.old k with e | ⟨j,-,j2,j3,j4⟩
    ·exact .inl e
    ·exact .inr ⟨j,by omega,by omega,j4⟩
   ·dsimp only at h0 ⊢
    rw [y2]
    have:=hp.did h0 j (by omega) (by omega)
    rw [<- this]
    congr 1
    omega
theorem C4 {C : Int} {N : Nat} {m : le} (h : YT C m) (ho : YOk N m) (hN : N + 1000 < 900000) (fr n : Int) (hn : n <= 200) : M3 C m (ow m fr n).2 (ow m fr n).1 fr n.toNat (fun _=>zs 16) /\ ((ow m fr n).1≠1 -> 0 <= n):=by
 obtain ⟨l,hl⟩:=ho.head
 have hF : Fl m.F C (m.dk.root::l):=by rw [<- hl]; exact h.fl
 have hst:=CP ho.sh (DF ho) (by omega) fr n hn
 unfold ow
 split
 ·exact ⟨⟨h,.inr (.inl rfl),fun _=>rfl,fun h=>absurd rfl h,fun _=>.inl rfl,fun h=>by cases h⟩,fun h=>absurd rfl h⟩
 ·rename_i hb
  have hp:=LE ho.sh hN hF (B9 hF) (fr:=fr) hn
  rw [<- hl] at hp
  rcases hp with ⟨-,-,h3⟩ | ⟨h2,hp⟩
  ·exact absurd h3 hb
  ·obtain ⟨-,w1,w2,w3⟩:=yN h2
   rw [show clus m.F (m.list.getD 0 0) = C by rw [hl]; exact hF.cl _ (List.mem_cons_self ..)] at w3
   obtain ⟨f,rfl⟩:=ze w1
   obtain ⟨q,rfl⟩:=ze w2
   rw [zn,zn] at hp
   have hp : zH m.dk.root (m.dk.root::l) f (fun _=>zs 16) 0 q m.F (zu m.F m.list (f : Int) (q : Int)):=by rw [<- hl]; exact hp
   obtain ⟨y1,y2⟩:=Kr h ho hst.same hl hp
   rw [zn]
   refine ⟨⟨y1,?_,fun h0=>?_,fun _=>⟨by omega,by omega⟩,fun k=>?_,fun h0 j k hj hk=>?_⟩,fun _=>w2⟩
   ·rcases hp.code with e | e | e
    ·exact .inl e
    ·exact .inr (.inr (.inl e))
    ·exact .inr (.inr (.inr e))
   ·dsimp only at h0
    rcases hp.code with e | e | e
    all_goals
     rw [e] at h0
     cases h0
   ·rw [y2,show m.see k = seeF m.F (m.dk.root::l) k by rw [le.see,hl]]
    rcases hp.old k with e | ⟨j,-,j2,j3,j4⟩
    ·exact .inl e
    ·exact .inr ⟨j,by omega,by omega,j4⟩
   ·dsimp only at h0 ⊢
    rw [y2]
    have:=hp.did h0 j (by omega) (by omega)
    rw [<- this]
    congr 1
    omega
end Go.Proofs.YtbpblokfiajpjabGreatDoor
