/- Lemmas on which YardOpens stands: the texts Shape15. No conditions. -/
import Derived.Test.YtbpblokfiajpjabGreatDoorPk9e566dbd3e
import Derived.Test.YtbpblokfiajpjabGreatDoorProg
set_option linter.all false
set_option maxRecDepth 1000000
set_option maxHeartbeats 32000000
namespace Go.Proofs.YtbpblokfiajpjabGreatDoor
open Go.RowKit Go.SL Go.Crc
attribute [local go_sem ↓] Go.wp_at_zero Go.wp_at_succ
theorem JV : Elem Tryz.prog 4 1 1 (.bool false):=by unfold Elem; kernel_rfl
def ym (t : List Ent) : List Value:=(List.range 40).map fun (q : Nat)=>Value.bool (t.contains ((2,(q : Int)) : Ent))
theorem D4 (t : List Ent) : (ym t).length = 40:=by simp [ym]
theorem D5 (t : List Ent) {q : Nat} (h : q < 40) : (ym t)[q]? = some (.bool (t.contains ((2,(q : Int)) : Ent))):=by simp [ym,h]
theorem Mi (t : List Ent) {q : Nat} (h : q < 40) : ym (t++[(2,(q : Int))]) = (ym t).set q (.bool true):=by
 apply List.ext_getElem?
 intro j
 rw [List.getElem?_set]
 by_cases hj : j < 40
 ·rw [D5 _ hj]
  by_cases e : q = j
  ·subst e; rw [if_pos rfl,if_pos (by rw [D4]; exact h)]; simp
  ·rw [if_neg e,D5 _ hj,List.contains_append]
   congr 2
   have : ((2,(j : Int)) : Ent)≠(2,(q : Int)):=fun h=>e (by have:=(Prod.mk.inj h).2; omega)
   simp [List.contains_cons,this]
 ·have h1 : (ym (t++[(2,(q : Int))]))[j]? = none:=List.getElem?_eq_none (by rw [D4]; omega)
  have h2 : (ym t)[j]? = none:=List.getElem?_eq_none (by rw [D4]; omega)
  rw [h1,h2]
  split
  ·omega
  ·rfl
theorem JR (t : List Ent) {e : Ent} (h : e.1≠2) : ym (t++[e]) = ym t:=by
 unfold ym
 apply List.map_congr_left
 intro q _
 rw [List.contains_append]
 have : ((2,(q : Int)) : Ent)≠e:=fun h'=>h (by rw [<- h'])
 simp [List.contains_cons,this]
theorem Md : ym [] = List.replicate 40 (.bool false):=rfl
theorem Wy {P x y : Int} {t : List Ent} (h : 2 < x) : zc P t (x,y) = true:=by
 unfold zc lV; simp [show x≠2 by omega,show x≠0 by omega,show x≠1 by omega]
theorem WM {P x y : Int} {t : List Ent} (h : x < 2) (hy : 0 < y) : zc P t (x,y) = true:=by
 unfold zc lV; simp [show x≠2 by omega,show y≠0 by omega]
theorem WH {P x : Int} {t : List Ent} (h0 : 0 <= x) (h : x < 2) : zc P t (x,0) = false:=by
 unfold zc lV; simp [show x≠2 by omega]; omega
theorem WA {P y : Int} {t : List Ent} (h : P <= y) : zc P t (2,y) = true:=by
 unfold zc lV; simp; omega
theorem WB {P y : Int} {t : List Ent} (h0 : 0 <= y) (h : y < P) : zc P t (2,y) = t.contains (2,y):=by
 unfold zc lV; simp [h0,h]
def U7 (C : Nat) (P : Int) (vu : Value) (rows : List ByteArray) (T : List Ent) (F : Int) (R : List SL.HP) (w0 : World) (vt vi : Value) (wr : World) : Prop:=
 ∃(i : Nat) (t : List Ent),i <= rows.length /\ vi = .int .i64 i /\ t.length = min C (8 * i) /\ yA C P t (rows.drop i) = (T,F) /\ Ext w0 wr /\ own wr (row 221 2 vt t.length (lF t)::row 4 1 vu 40 (ym t)::R)
def Wg (C : Nat) (P : Int) (vu : Value) (s : ByteArray) (i : Nat) (r0 : Option (List Ent)) (R : List SL.HP) (w0 : World) (vt vk : Value) (wr : World) : Prop:=
 ∃(k : Nat) (t : List Ent),k <= 8 /\ vk = .int .i64 (2 * k : Nat) /\ t.length = min C (8 * i + k) /\ yM C P t ((B3 s).drop k) = r0 /\ Ext w0 wr /\ own wr (row 221 2 vt t.length (lF t)::row 4 1 vu 40 (ym t)::R)
theorem L7 (c p b : Int) (v : Value) (rows : List ByteArray) (T : List Ent) (F : Int) (hT : zE c p b rows = (T,F)) (hr : rows.length <= 1000) (R : List SL.HP) (w : World) (hv : ∀w' l,own w' (l++R) -> zx w' v rows) (H : own w R) :
  Calls Tryz.prog 197 #[lM c p b,v] w (OW (errV F) T R w):=by
 obtain ⟨ao,bb,off,cap,rfl,c1,c2,c3,-⟩:=(hv w [] H).form
 have ha:=li H (.cells #[.int .i64 c,.int .i64 p,.int .i64 b] 103)
 have hxa:=(Ext.refl w).alloc (.cells #[.int .i64 c,.int .i64 p,.int .i64 b] 103)
 have HV:=zh hv
 have HC:=zh c3
 clear hv c3
 have he1 : errV 1 = .iface 128 (.int .i64 1):=rfl
 unfold lM
 by_cases hb : lG c p b
 ·have hT' : ([],1) = (T,F):=by rw [<- hT,zE,if_pos hb]
  obtain ⟨rfl,rfl⟩:=Prod.mk.inj hT'
  have hq:=AK c p b _ _ ha
  rw [show yP c p b = 1 from if_pos hb] at hq
  have HQ:=zh hq
  unfold lM at HQ
  clear hq hb hT hT'
  rw [he1] at HQ ⊢
  go_enter Tryz.func197,Tryz.ntmps197
  go_upto_region 1 with (fail)
  obtain ⟨cc,ff⟩:=ld 0 ha rfl
  generalize w.heap.size = g at *
  generalize w.alloc (.cells #[.int .i64 c,.int .i64 p,.int .i64 b] 103) = w1 at *
  go_wp2_with fail
  refine HQ.out.mono ?_
  rintro e w2 ⟨rfl,hx2,h2⟩
  go_wp2_with fail
  go_ret2
  exact ⟨_,rfl,hxa.trans hx2,lv _ _ (le h2)⟩
 ·have hq:=AK c p b _ _ ha
  rw [show yP c p b = 0 from if_neg hb,l9] at hq
  have HQ:=zh hq
  unfold lM at HQ
  have hT2 : (if rows.length≠lr c.toNat then (([],1) : List Ent×Int) else yA c.toNat p [] rows) = (T,F):=by rw [<- hT,zE,if_neg hb]
  clear hq hT
  unfold lG at hb
  have h1 : 1 <= c:=by omega
  obtain ⟨C,rfl⟩:=ze (show 0 <= c by omega)
  have h2 : C <= 32:=by omega
  have h3 : 0 <= p:=by omega
  have h4 : p <= 40:=by omega
  clear hb
  rw [zn] at hT2
  by_cases hl : rows.length = lr C
  ·rw [if_neg (by simpa using hl)] at hT2
   have HT:=zh hT2
   have tl : (rows.length != lr C) = false:=by simp [hl]
   have HL:=zh hl
   have hr4 : rows.length <= 4:=by rw [hl]; unfold lr; omega
   clear hT2 he1
   go_enter Tryz.func197,Tryz.ntmps197
   go_upto_region 1 with (fail)
   obtain ⟨cc,ff⟩:=ld 0 ha rfl
   generalize w.heap.size = g at *
   generalize w.alloc (.cells #[.int .i64 C,.int .i64 p,.int .i64 b] 103) = w1 at *
   go_wp2_with fail
   refine HQ.out.mono ?_
   rintro e w2 ⟨rfl,hx2,h2'⟩
   clear cc ff
   obtain ⟨cc,ff⟩:=ld 0 h2' rfl
   go_wp2_with fail
   refine (AA C (by omega) _).mono ?_
   rintro e w' ⟨rfl,rfl⟩
   rw [<- HL.out]
   clear hl tl
   go_wp2_with (first | (refine CJ rfl _ _ 43 rfl 4 Tryz.underlying43 JV rfl .i64 .i64 40 rfl rfl (by decide) (by simp [maxLen]) h2' ?_))
   intro w3 h3' hx3
   try simp only [Nat.mul_one] at h3'
   try rw [show (Value.bool false).cells = #[.bool false] from rfl] at h3'
   rw [toList_madeCells_one,<- Md] at h3'
   generalize w2.heap.size = ug at *
   have hxo:=(hxa.trans hx2).trans hx3
   go_wp2_with fail
   clear cc ff
   go_loopw [7,28] (U7 C p (.slice (some ⟨ug,0,none⟩) 40 40) rows T F (pts g (.cells #[.int .i64 C,.int .i64 p,.int .i64 b] 103 (0,0))::R) w) (fun _ i _=>rows.length - (intOf i).toNat)
   case atStart=>exact ⟨0,[],by omega,rfl,by simp,HT.out,hxo,lv _ _ h3'⟩
   case round=>
    obtain ⟨i,t,hi,rfl,htl,htr,hxr,hown⟩:=hrel
    have htC : t.length <= C:=by omega
    have HTL:=zh htl
    clear htl
    obtain ⟨ta,tg,tc,rfl,q1,q2,-,-,-,-,-⟩:=lk 0 hown rfl
    by_cases hlt : i < rows.length
    ·obtain rfl:=HC.out (by omega)
     have hcell:=(HV.out wr [_,_,_] hown).cells hlt
     rw [zJ ByteArray.empty hlt] at htr
     have hsz : (rows.getD i ByteArray.empty).size <= 9223372036854775807:=(HV.out wr [_,_,_] hown).2 _ (Da hlt)
     generalize hs : rows.getD i ByteArray.empty = s at *
     have HS:=zh hs
     clear hs
     have HTR:=zh htr
     clear htr
     by_cases h16 : s.size = 16
     ·have tz : ((s.size : Int) != 16) = false:=by simp [h16]
      have H16:=zh h16
      clear h16
      generalize hr0 : yM C p t (B3 s) = r0 at *
      have HR0:=zh hr0
      clear hr0
      go_wp2_with fail
      obtain ⟨wo,rfl⟩ : ∃wo : World,wo = wr:=⟨_,rfl⟩
      go_loopw [7,11] (Wg C p (.slice (some ⟨ug,0,none⟩) 40 40) s i r0 (pts g (.cells #[.int .i64 C,.int .i64 p,.int .i64 b] 103 (0,0))::R) w) (fun _ k _=>16 - (intOf k).toNat)
      case atStart=>exact ⟨0,t,by omega,rfl,by have:=HTL.out; omega,HR0.out,hxr,hown⟩
      case round=>
       obtain ⟨k,t1,hk,rfl,htl1,htr1,hxr1,hown1⟩:=hrel
       have htC1 : t1.length <= C:=by omega
       have HTL1:=zh htl1
       have HTR1:=zh htr1
       clear htl1 htr1 hcell hown hxr
       obtain ⟨ta1,tg1,tc1,rfl,q3,q4,-,-,-,-,-⟩:=lk 0 hown1 rfl
       by_cases hk8 : k < 8
       ·have i1 : (0 : Int) <= 2 * (k : Int):=by omega
        have i2 : 2 * (k : Int) < (s.size : Int):=by have:=H16.out; omega
        have i3 : 2 * (k : Int) + 1 < (s.size : Int):=by have:=H16.out; omega
        have i4 : (0 : Int) <= 2 * (k : Int) + 1:=by omega
        have tn : (2 * (k : Int) + 1).toNat = 2 * k + 1:=by omega
        have tn2 : (2 * (k : Int)).toNat = 2 * k:=by omega
        have q5:=yO (s:=s) (i:=2 * k) (by omega)
        have q6:=yO (s:=s) (i:=2 * k + 1) (by omega)
        have l5:=zo s (2 * k)
        have l6:=zo s (2 * k + 1)
        have HE:=zh (show sEnt s k = (bt s (2 * k),bt s (2 * k + 1)) from rfl)
        generalize bt s (2 * k) = x at *
        generalize bt s (2 * k + 1) = y at *
        have e2 : IntKind.i64.wrap (2 * (k : Int) + 1) = 2 * (k : Int) + 1:=IntWalk.i64_in _ (by omega)
        have e3 : IntKind.i64.wrap x = x:=IntWalk.i64_in _ (by omega)
        have e4 : IntKind.i64.wrap y = y:=IntWalk.i64_in _ (by omega)
        go_upto_region 16 with (fail)
        refine wp_region_held_drew (S:=fun _=>True) (by kernel_rfl) trivial (fun hHeld=>?_)
        refine tk 0 ?_
        refine tk 1 ?_
        refine tk 2 ?_
        refine tk 3 ?_
        refine tk 4 ?_
        refine tk 5 ?_
        refine tk 6 ?_
        refine tk 7 ?_
        refine tk 8 ?_
        refine tk 9 ?_
        try simp only [Act.put,tA,tB,tC,tD,tE,tF]
        refine rd 10 rfl fun K hK=>?_
        go_simp
        refine hK.out _ _ trivial (fun _=>?_)
        clear hK K
        try simp only [Act.put,tA,tB,tC,tD,tE,tF]
        refine rd 11 rfl fun K hK=>?_
        go_simp
        refine hK.out _ _ trivial (fun _=>?_)
        clear hK K
        try simp only [Act.put,tA,tB,tC,tD,tE,tF]
        refine wpAnyH_done (by kernel_rfl) ?_ _
        have h5:=lj (li hown1 (.cells #[.int .i64 x,.int .i64 y] 221))
        have hx5:=(hxr1.alloc (.cells #[.int .i64 x,.int .i64 y] 221)).drew
        clear q5 q6 e2 e3 e4 i1 i2 i3 i4 tn tn2 hHeld
        generalize wr.heap.size = eb at *
        generalize (wr.alloc (.cells #[.int .i64 x,.int .i64 y] 221)).drew = w5 at *
        obtain ⟨cc,ff⟩:=ld 0 h5 rfl
        obtain ⟨ch,fh⟩:=ld 3 h5 rfl
        obtain ⟨l51,l52⟩:=l5
        obtain ⟨l61,l62⟩:=l6
        have hd:=HTR1.out
        rw [Kh s hk8,HE.out] at hd
        have HD:=zh hd
        clear hd
        by_cases hfull : C <= 8 * i + k
        ·have HFU : Hid (t1.length = C):=zh (by have:=HTL1.out; omega)
         by_cases hz : x = 0 /\ y = 0
         ·obtain ⟨rfl,rfl⟩:=hz
          go_wp2_with fail
          go_roundw
          case rel=>exact ⟨k + 1,t1,by omega,by go_num,by have:=HTL1.out; have:=HFU.out; omega,by have:=HD.out; rw [IK HFU.out] at this; exact this,hx5,le h5⟩
          case measure=>simp [intOf]; omega
         ·have hne : ((x,y) : Ent)≠(0,0):=fun h=>hz (Prod.mk.inj h)
          have hnone : r0 = none:=by have:=HD.out; rw [FA HFU.out hne] at this; exact this.symm
          have HN:=zh hnone
          clear hnone hne
          by_cases hx0 : x = 0
          ·have hy0 : (y == 0) = false:=beq_eq_false_iff_ne.2 fun h=>hz ⟨hx0,h⟩
           subst hx0
           clear hz
           go_wp2_with fail
           go_ret2
           have hf:=HTR.out
           rw [zw H16.out (HR0.out.trans HN.out)] at hf
           obtain ⟨rfl,rfl⟩:=Prod.mk.inj hf
           exact ⟨_,rfl,hx5,lv _ _ (le (le (le (le h5))))⟩
          ·have hx0' : (x == 0) = false:=beq_eq_false_iff_ne.2 hx0
           clear hz hx0
           go_wp2_with fail
           go_ret2
           have hf:=HTR.out
           rw [zw H16.out (HR0.out.trans HN.out)] at hf
           obtain ⟨rfl,rfl⟩:=Prod.mk.inj hf
           exact ⟨_,rfl,hx5,lv _ _ (le (le (le (le h5))))⟩
        ·have HFU : Hid (t1.length≠C):=zh (by have:=HTL1.out; omega)
         have hlt2 : 8 * i + k < C:=by omega
         clear hfull
         by_cases hA : 2 < x
         ·have HN : Hid (r0 = none):=zh (by have:=HD.out; rw [B0 HFU.out (Wy hA)] at this; exact this.symm)
          go_wp2_with fail
          go_ret2
          have hf:=HTR.out
          rw [zw H16.out (HR0.out.trans HN.out)] at hf
          obtain ⟨rfl,rfl⟩:=Prod.mk.inj hf
          exact ⟨_,rfl,hx5,lv _ _ (le (le (le (le h5))))⟩
         ·by_cases hX : x = 2
          ·subst hX
           obtain ⟨yn,rfl⟩:=ze l61
           by_cases hP : p <= (yn : Int)
           ·have HN : Hid (r0 = none):=zh (by have:=HD.out; rw [B0 HFU.out (WA hP)] at this; exact this.symm)
            go_wp2_with fail
            go_ret2
            have hf:=HTR.out
            rw [zw H16.out (HR0.out.trans HN.out)] at hf
            obtain ⟨rfl,rfl⟩:=Prod.mk.inj hf
            exact ⟨_,rfl,hx5,lv _ _ (le (le (le (le h5))))⟩
           ·have hyp : (yn : Int) < p:=by omega
            have hy40 : yn < 40:=by omega
            have hbe:=WB (t:=t1) l61 hyp
            obtain ⟨k2,k3⟩:=lJ 2 h5 rfl
            have cu:=k2 yn _ (D5 t1 hy40)
            clear k2
            cases hcon : t1.contains ((2,(yn : Int)) : Ent)
            ·rw [hcon] at cu hbe
             have HBE:=zh hbe
             clear hbe hcon
             go_upto_region 26 with (fail)
             have h6:=Au 2 yn (.bool true) h5 rfl (by decide)
             have hx6:=hx5.setCell ⟨ug,yn,none⟩ (.bool true)
             generalize w5.setCell ⟨ug,yn,none⟩ (.bool true) = w6 at *
             have HUS : Hid ((ym t1).set yn (.bool true) = ym (t1++[(2,(yn : Int))])):=zh (Mi t1 hy40).symm
             clear cc ff ch fh cu k3
             obtain ⟨cc,ff⟩:=ld 0 h6 rfl
             have h8:=li h6 (.cells #[.int .i64 2,.int .i64 (yn : Int)] 221)
             have hml : t1.length + 1 <= maxLen:=by simp only [maxLen]; omega
             go_wp2_with (first | (at_builtin; refine lE rfl _ _ 150 rfl 2 221 Tryz.underlying150 Bt rfl (by decide) rfl h8 rfl (some ⟨w6.heap.size,0,none⟩) 1 1 [.int .i64 2,.int .i64 (yn : Int)] rfl rfl (oy w6 [.int .i64 2,.int .i64 (yn : Int)] _) (fun h=>by cases h) (FO _ _) hml (by omega) ?_))
             intro v9 w9 h9 hx9
             go_wp2_with fail
             go_roundw
             case rel=>
              have hne:=HFU.out
              refine ⟨k + 1,t1++[(2,(yn : Int))],by omega,by go_num,by have:=HTL1.out; simp; omega,by have:=HD.out; rw [Du hne HBE.out] at this; exact this,(hx6.alloc _).trans hx9,?_⟩
              rw [show (t1++[((2,(yn : Int)) : Ent)]).length = t1.length + 1 by simp,AQ,<- HUS.out]
              exact le (le h9)
             case measure=>simp [intOf]; omega
            ·rw [hcon] at cu hbe
             have HN : Hid (r0 = none):=zh (by have:=HD.out; rw [B0 HFU.out hbe] at this; exact this.symm)
             clear hbe hcon
             go_wp2_with fail
             go_ret2
             have hf:=HTR.out
             rw [zw H16.out (HR0.out.trans HN.out)] at hf
             obtain ⟨rfl,rfl⟩:=Prod.mk.inj hf
             exact ⟨_,rfl,hx5,lv _ _ (le (le (le (le h5))))⟩
          ·have hx2 : x < 2:=by omega
           have hxb : (x == 2) = false:=beq_eq_false_iff_ne.2 hX
           have hxb2 : (x != 2) = true:=bne_iff_ne.2 hX
           clear hX hA
           by_cases hB : 0 < y
           ·have HN : Hid (r0 = none):=zh (by have:=HD.out; rw [B0 HFU.out (WM hx2 hB)] at this; exact this.symm)
            go_wp2_with fail
            go_ret2
            have hf:=HTR.out
            rw [zw H16.out (HR0.out.trans HN.out)] at hf
            obtain ⟨rfl,rfl⟩:=Prod.mk.inj hf
            exact ⟨_,rfl,hx5,lv _ _ (le (le (le (le h5))))⟩
           ·obtain rfl : y = 0:=by omega
            have HBE : Hid (zc p t1 (x,0) = false):=zh (WH l51 hx2)
            have HUS : Hid (ym t1 = ym (t1++[(x,0)])):=zh (JR t1 (show ((x,(0 : Int)) : Ent).1≠2 by dsimp only; omega)).symm
            have h6:=h5
            have hx6:=hx5
            go_upto_region 26 with (fail)
            generalize w5 = w6 at *
            have h8:=li h6 (.cells #[.int .i64 x,.int .i64 0] 221)
            have hml : t1.length + 1 <= maxLen:=by simp only [maxLen]; omega
            go_wp2_with (first | (at_builtin; refine lE rfl _ _ 150 rfl 2 221 Tryz.underlying150 Bt rfl (by decide) rfl h8 rfl (some ⟨w6.heap.size,0,none⟩) 1 1 [.int .i64 x,.int .i64 0] rfl rfl (oy w6 [.int .i64 x,.int .i64 0] _) (fun h=>by cases h) (FO _ _) hml (by omega) ?_))
            intro v9 w9 h9 hx9
            go_wp2_with fail
            go_roundw
            case rel=>
             have hne:=HFU.out
             refine ⟨k + 1,t1++[(x,0)],by omega,by go_num,by have:=HTL1.out; simp; omega,by have:=HD.out; rw [Du hne HBE.out] at this; exact this,(hx6.alloc _).trans hx9,?_⟩
             rw [show (t1++[((x,0) : Ent)]).length = t1.length + 1 by simp,AQ,<- HUS.out]
             exact le (le h9)
            case measure=>simp [intOf]; omega
       ·have hke : k = 8:=by omega
        subst hke
        have hsome : r0 = some t1:=by have:=HTR1.out; rw [LK,yM] at this; exact this.symm
        have HSM:=zh hsome
        clear hsome
        go_wp2_with fail
        go_roundw
        case rel=>exact ⟨i + 1,t1,by omega,by go_num,by have:=HTL1.out; omega,by have:=HTR.out; rw [GZ H16.out (HR0.out.trans HSM.out)] at this; exact this,hxr1,hown1⟩
        case measure=>simp [intOf]; omega
     ·have tz : ((s.size : Int) != 16) = true:=by rw [bne_iff_ne]; omega
      go_wp2_with fail
      go_ret2
      have hf:=HTR.out
      rw [GF h16] at hf
      obtain ⟨rfl,rfl⟩:=Prod.mk.inj hf
      exact ⟨_,rfl,hxr,lv _ _ (le (le (le hown)))⟩
    ·have hie : i = rows.length:=by omega
     rw [hie,List.drop_length,yA] at htr
     obtain ⟨rfl,rfl⟩:=Prod.mk.inj htr
     subst hie
     go_wp2_with fail
     go_ret2
     exact ⟨_,rfl,hxr,lh 1 (lh 1 hown rfl) rfl⟩
  ·rw [if_pos hl] at hT2
   obtain ⟨rfl,rfl⟩:=Prod.mk.inj hT2
   have tl : (rows.length != lr C) = true:=by simp [hl]
   have tl2 : ((rows.length : Int) != (lr C : Int)) = true:=by rw [bne_iff_ne]; omega
   clear hT2 hl
   rw [he1]
   go_enter Tryz.func197,Tryz.ntmps197
   go_upto_region 1 with (fail)
   obtain ⟨cc,ff⟩:=ld 0 ha rfl
   generalize w.heap.size = g at *
   generalize w.alloc (.cells #[.int .i64 C,.int .i64 p,.int .i64 b] 103) = w1 at *
   go_wp2_with fail
   refine HQ.out.mono ?_
   rintro e w2 ⟨rfl,hx2,h2'⟩
   clear cc ff
   obtain ⟨cc,ff⟩:=ld 0 h2' rfl
   go_wp2_with fail
   refine (AA C (by omega) _).mono ?_
   rintro e w' ⟨rfl,rfl⟩
   go_wp2_with fail
   go_ret2
   exact ⟨_,rfl,hxa.trans hx2,lv _ _ (le h2')⟩
end Go.Proofs.YtbpblokfiajpjabGreatDoor
