/- Lemmas on which YardSays stands: the texts Shape15. No conditions. -/
import Derived.Test.YtbpblokfiajpjabGreatDoorPka34d6ef0b8
set_option linter.all false
set_option maxRecDepth 1000000
set_option maxHeartbeats 32000000
namespace Go.Proofs.YtbpblokfiajpjabGreatDoor
open Go.RowKit Go.SL Go.Crc
attribute [local go_sem ↓] Go.wp_at_zero Go.wp_at_succ
theorem KJ : Elem Tryz.prog 4 1 1 (.bool false):=by unfold Elem; kernel_rfl
def yp (t : List Ent) : List Value:=(List.range 40).map fun (q : Nat)=>Value.bool (t.contains ((2,(q : Int)) : Ent))
theorem El (t : List Ent) : (yp t).length = 40:=by simp [yp]
theorem Er (t : List Ent) {q : Nat} (h : q < 40) : (yp t)[q]? = some (.bool (t.contains ((2,(q : Int)) : Ent))):=by simp [yp,h]
theorem MH (t : List Ent) {q : Nat} (h : q < 40) : yp (t++[(2,(q : Int))]) = (yp t).set q (.bool true):=by
 apply List.ext_getElem?
 intro j
 rw [List.getElem?_set]
 by_cases hj : j < 40
 ·rw [Er _ hj]
  by_cases e : q = j
  ·subst e; rw [zt rfl,zt (by rw [El]; exact h)]; simp
  ·rw [zq e,Er _ hj,List.contains_append]
   congr 2
   have : ((2,(j : Int)) : Ent)≠(2,(q : Int)):=fun h=>e (by have:=(Prod.mk.inj h).2; omega)
   simp [List.contains_cons,this]
 ·have h1 : (yp (t++[(2,(q : Int))]))[j]? = none:=List.getElem?_eq_none (by rw [El]; omega)
  have h2 : (yp t)[j]? = none:=List.getElem?_eq_none (by rw [El]; omega)
  rw [h1,h2]
  split
  ·omega
  ·rfl
theorem K0 (t : List Ent) {e : Ent} (h : e.1≠2) : yp (t++[e]) = yp t:=by
 unfold yp
 apply List.map_congr_left
 intro q _
 rw [List.contains_append]
 have : ((2,(q : Int)) : Ent)≠e:=fun h'=>h (by rw [<- h'])
 simp [List.contains_cons,this]
theorem MI : yp [] = List.replicate 40 (.bool false):=rfl
theorem Xk {P x y : Int} {t : List Ent} (h : 2 < x) : zx P t (x,y) = true:=by
 unfold zx lW; simp [show x≠2 by omega,show x≠0 by omega,show x≠1 by omega]
theorem Xm {P x y : Int} {t : List Ent} (h : x < 2) (hy : 0 < y) : zx P t (x,y) = true:=by
 unfold zx lW; simp [show x≠2 by omega,show y≠0 by omega]
theorem W8 {P x : Int} {t : List Ent} (h0 : 0 <= x) (h : x < 2) : zx P t (x,0) = false:=by
 unfold zx lW; simp [show x≠2 by omega]; omega
theorem Xo {P y : Int} {t : List Ent} (h : P <= y) : zx P t (2,y) = true:=by
 unfold zx lW; simp; omega
theorem Xi {P y : Int} {t : List Ent} (h0 : 0 <= y) (h : y < P) : zx P t (2,y) = t.contains (2,y):=by
 unfold zx lW; simp [h0,h]
def VZ (C : Nat) (P : Int) (vu : Value) (rows : List ByteArray) (T : List Ent) (F : Int) (R : List SL.HP) (w0 : World) (vt vi : Value) (wr : World) : Prop:=
 ∃(i : Nat) (t : List Ent),i <= rows.length /\ vi = .int .i64 i /\ t.length = min C (8 * i) /\ yJ C P t (rows.drop i) = (T,F) /\ Ext w0 wr /\ own wr (row 221 2 vt t.length (lG t)::row 4 1 vu 40 (yp t)::R)
def WY (C : Nat) (P : Int) (vu : Value) (s : ByteArray) (i : Nat) (r0 : Option (List Ent)) (R : List SL.HP) (w0 : World) (vt vk : Value) (wr : World) : Prop:=
 ∃(k : Nat) (t : List Ent),k <= 8 /\ vk = .int .i64 (2 * k : Nat) /\ t.length = min C (8 * i + k) /\ yQ C P t ((Cm s).drop k) = r0 /\ Ext w0 wr /\ own wr (row 221 2 vt t.length (lG t)::row 4 1 vu 40 (yp t)::R)
theorem MB (c p b : Int) (v : Value) (rows : List ByteArray) (T : List Ent) (F : Int) (hT : zU c p b rows = (T,F)) (hr : rows.length <= 1000) (R : List SL.HP) (w : World) (hv : ∀w' l,own w' (l++R) -> B6 w' v rows) (H : own w R) :
  Calls Tryz.prog 197 #[lM c p b,v] w (Px (errV F) T R w):=by
 obtain ⟨ao,bb,off,cap,rfl,c1,c2,c3,-⟩:=(hv w [] H).form
 have ha:=li H (.cells #[.int .i64 c,.int .i64 p,.int .i64 b] 103)
 have hxa:=(zR w).alloc (.cells #[.int .i64 c,.int .i64 p,.int .i64 b] 103)
 have HV:=zh hv
 have HC:=zh c3
 clear hv c3
 have he1 : errV 1 = .iface 128 (.int .i64 1):=rfl
 unfold lM
 by_cases hb : lF c p b
 ·have hT' : ([],1) = (T,F):=by rw [<- hT,zU,zt hb]
  obtain ⟨rfl,rfl⟩:=Prod.mk.inj hT'
  have hq:=Ay c p b _ _ ha
  rw [show yu c p b = 1 from zt hb] at hq
  have HQ:=zh hq
  unfold lM at HQ
  clear hq hb hT hT'
  rw [he1] at HQ ⊢
  go_enter Tryz.func197,Tryz.ntmps197
  go_upto_region 1 with (fail)
  obtain ⟨cc,ff⟩:=ld 0 ha rfl
  generalize w.heap.size = g at *
  generalize w.alloc (.cells #[.int .i64 c,.int .i64 p,.int .i64 b] 103) = w1 at *
  go_wp2_with fail
  refine HQ.out.mono ?_
  rintro e w2 ⟨rfl,hx2,h2⟩
  go_wp2_with fail
  go_ret2
  exact ⟨_,rfl,hxa.trans hx2,lv _ _ (le h2)⟩
 ·have hq:=Ay c p b _ _ ha
  rw [show yu c p b = 0 from zq hb,oa] at hq
  have HQ:=zh hq
  unfold lM at HQ
  have hT2 : (if rows.length≠ls c.toNat then (([],1) : List Ent×Int) else yJ c.toNat p [] rows) = (T,F):=by rw [<- hT,zU,zq hb]
  clear hq hT
  unfold lF at hb
  have h1 : 1 <= c:=by omega
  obtain ⟨C,rfl⟩:=ze (show 0 <= c by omega)
  have h2 : C <= 32:=by omega
  have h3 : 0 <= p:=by omega
  have h4 : p <= 40:=by omega
  clear hb
  rw [zn] at hT2
  by_cases hl : rows.length = ls C
  ·rw [zq (by simpa using hl)] at hT2
   have HT:=zh hT2
   have tl : (rows.length != ls C) = false:=by simp [hl]
   have HL:=zh hl
   have hr4 : rows.length <= 4:=by rw [hl]; unfold ls; omega
   clear hT2 he1
   go_enter Tryz.func197,Tryz.ntmps197
   go_upto_region 1 with (fail)
   obtain ⟨cc,ff⟩:=ld 0 ha rfl
   generalize w.heap.size = g at *
   generalize w.alloc (.cells #[.int .i64 C,.int .i64 p,.int .i64 b] 103) = w1 at *
   go_wp2_with fail
   refine HQ.out.mono ?_
   rintro e w2 ⟨rfl,hx2,h2'⟩
   clear cc ff
   obtain ⟨cc,ff⟩:=ld 0 h2' rfl
   go_wp2_with fail
   refine (AT C (by omega) _).mono ?_
   rintro e w' ⟨rfl,rfl⟩
   rw [<- HL.out]
   clear hl tl
   go_wp2_with (first | (refine Di rfl _ _ 43 rfl 4 Tryz.underlying43 KJ rfl .i64 .i64 40 rfl rfl (by decide) (by simp [maxLen]) h2' ?_))
   intro w3 h3' hx3
   try simp only [Nat.mul_one] at h3'
   try rw [show (Value.bool false).cells = #[.bool false] from rfl] at h3'
   rw [toList_madeCells_one,<- MI] at h3'
   generalize w2.heap.size = ug at *
   have hxo:=(hxa.trans hx2).trans hx3
   go_wp2_with fail
   clear cc ff
   go_loopw [7,28] (VZ C p (.slice (some ⟨ug,0,none⟩) 40 40) rows T F (pts g (.cells #[.int .i64 C,.int .i64 p,.int .i64 b] 103 (0,0))::R) w) (fun _ i _=>rows.length - (intOf i).toNat)
   case atStart=>exact ⟨0,[],by omega,rfl,by simp,HT.out,hxo,lv _ _ h3'⟩
   case round=>
    obtain ⟨i,t,hi,rfl,htl,htr,hxr,hown⟩:=hrel
    have htC : t.length <= C:=by omega
    have HTL:=zh htl
    clear htl
    obtain ⟨ta,tg,tc,rfl,q1,q2,-,-,-,-,-⟩:=lk 0 hown rfl
    by_cases hlt : i < rows.length
    ·obtain rfl:=HC.out (by omega)
     have hcell:=(HV.out wr [_,_,_] hown).cells hlt
     rw [zY ByteArray.empty hlt] at htr
     have hsz : (rows.getD i ByteArray.empty).size <= 9223372036854775807:=(HV.out wr [_,_,_] hown).2 _ (Ka hlt)
     generalize hs : rows.getD i ByteArray.empty = s at *
     have HS:=zh hs
     clear hs
     have HTR:=zh htr
     clear htr
     by_cases h16 : s.size = 16
     ·have tz : ((s.size : Int) != 16) = false:=by simp [h16]
      have H16:=zh h16
      clear h16
      generalize hr0 : yQ C p t (Cm s) = r0 at *
      have HR0:=zh hr0
      clear hr0
      go_wp2_with fail
      obtain ⟨wo,rfl⟩ : ∃wo : World,wo = wr:=⟨_,rfl⟩
      go_loopw [7,11] (WY C p (.slice (some ⟨ug,0,none⟩) 40 40) s i r0 (pts g (.cells #[.int .i64 C,.int .i64 p,.int .i64 b] 103 (0,0))::R) w) (fun _ k _=>16 - (intOf k).toNat)
      case atStart=>exact ⟨0,t,by omega,rfl,by have:=HTL.out; omega,HR0.out,hxr,hown⟩
      case round=>
       obtain ⟨k,t1,hk,rfl,htl1,htr1,hxr1,hown1⟩:=hrel
       have htC1 : t1.length <= C:=by omega
       have HTL1:=zh htl1
       have HTR1:=zh htr1
       clear htl1 htr1 hcell hown hxr
       obtain ⟨ta1,tg1,tc1,rfl,q3,q4,-,-,-,-,-⟩:=lk 0 hown1 rfl
       by_cases hk8 : k < 8
       ·have i1 : (0 : Int) <= 2 * (k : Int):=by omega
        have i2 : 2 * (k : Int) < (s.size : Int):=by have:=H16.out; omega
        have i3 : 2 * (k : Int) + 1 < (s.size : Int):=by have:=H16.out; omega
        have i4 : (0 : Int) <= 2 * (k : Int) + 1:=by omega
        have tn : (2 * (k : Int) + 1).toNat = 2 * k + 1:=by omega
        have tn2 : (2 * (k : Int)).toNat = 2 * k:=by omega
        have q5:=yV (s:=s) (i:=2 * k) (by omega)
        have q6:=yV (s:=s) (i:=2 * k + 1) (by omega)
        have l5:=zG s (2 * k)
        have l6:=zG s (2 * k + 1)
        have HE:=zh (show sEnt s k = (bt s (2 * k),bt s (2 * k + 1)) from rfl)
        generalize bt s (2 * k) = x at *
        generalize bt s (2 * k + 1) = y at *
        have e2 : IntKind.i64.wrap (2 * (k : Int) + 1) = 2 * (k : Int) + 1:=zi _ (by omega)
        have e3 : IntKind.i64.wrap x = x:=zi _ (by omega)
        have e4 : IntKind.i64.wrap y = y:=zi _ (by omega)
        go_upto_region 16 with (fail)
        refine wp_region_held_drew (S:=fun _=>True) (by kernel_rfl) trivial (fun hHeld=>?_)
        refine tk 0 ?_
        refine tk 1 ?_
        refine tk 2 ?_
        refine tk 3 ?_
        refine tk 4 ?_
        refine tk 5 ?_
        refine tk 6 ?_
        refine tk 7 ?_
        refine tk 8 ?_
        refine tk 9 ?_
        try simp only [Act.put,tA,tB,tC,tD,tE,tF]
        refine rd 10 rfl fun K hK=>?_
        go_simp
        refine hK.out _ _ trivial (fun _=>?_)
        clear hK K
        try simp only [Act.put,tA,tB,tC,tD,tE,tF]
        refine rd 11 rfl fun K hK=>?_
        go_simp
        refine hK.out _ _ trivial (fun _=>?_)
        clear hK K
        try simp only [Act.put,tA,tB,tC,tD,tE,tF]
        refine wpAnyH_done (by kernel_rfl) ?_ _
        have h5:=lj (li hown1 (.cells #[.int .i64 x,.int .i64 y] 221))
        have hx5:=(hxr1.alloc (.cells #[.int .i64 x,.int .i64 y] 221)).drew
        clear q5 q6 e2 e3 e4 i1 i2 i3 i4 tn tn2 hHeld
        generalize wr.heap.size = eb at *
        generalize (wr.alloc (.cells #[.int .i64 x,.int .i64 y] 221)).drew = w5 at *
        obtain ⟨cc,ff⟩:=ld 0 h5 rfl
        obtain ⟨ch,fh⟩:=ld 3 h5 rfl
        obtain ⟨l51,l52⟩:=l5
        obtain ⟨l61,l62⟩:=l6
        have hd:=HTR1.out
        rw [KP s hk8,HE.out] at hd
        have HD:=zh hd
        clear hd
        by_cases hfull : C <= 8 * i + k
        ·have HFU : Hid (t1.length = C):=zh (by have:=HTL1.out; omega)
         by_cases hz : x = 0 /\ y = 0
         ·obtain ⟨rfl,rfl⟩:=hz
          go_wp2_with fail
          go_roundw
          case rel=>exact ⟨k + 1,t1,by omega,by go_num,by have:=HTL1.out; have:=HFU.out; omega,by have:=HD.out; rw [Jq HFU.out] at this; exact this,hx5,le h5⟩
          case measure=>simp [intOf]; omega
         ·have hne : ((x,y) : Ent)≠(0,0):=fun h=>hz (Prod.mk.inj h)
          have hnone : r0 = none:=by have:=HD.out; rw [FS HFU.out hne] at this; exact this.symm
          have HN:=zh hnone
          clear hnone hne
          by_cases hx0 : x = 0
          ·have hy0 : (y == 0) = false:=zb.2 fun h=>hz ⟨hx0,h⟩
           subst hx0
           clear hz
           go_wp2_with fail
           go_ret2
           have hf:=HTR.out
           rw [zP H16.out (HR0.out.trans HN.out)] at hf
           obtain ⟨rfl,rfl⟩:=Prod.mk.inj hf
           exact ⟨_,rfl,hx5,lv _ _ (le (le (le (le h5))))⟩
          ·have hx0' : (x == 0) = false:=zb.2 hx0
           clear hz hx0
           go_wp2_with fail
           go_ret2
           have hf:=HTR.out
           rw [zP H16.out (HR0.out.trans HN.out)] at hf
           obtain ⟨rfl,rfl⟩:=Prod.mk.inj hf
           exact ⟨_,rfl,hx5,lv _ _ (le (le (le (le h5))))⟩
        ·have HFU : Hid (t1.length≠C):=zh (by have:=HTL1.out; omega)
         have hlt2 : 8 * i + k < C:=by omega
         clear hfull
         by_cases hA : 2 < x
         ·have HN : Hid (r0 = none):=zh (by have:=HD.out; rw [Cs HFU.out (Xk hA)] at this; exact this.symm)
          go_wp2_with fail
          go_ret2
          have hf:=HTR.out
          rw [zP H16.out (HR0.out.trans HN.out)] at hf
          obtain ⟨rfl,rfl⟩:=Prod.mk.inj hf
          exact ⟨_,rfl,hx5,lv _ _ (le (le (le (le h5))))⟩
         ·by_cases hX : x = 2
          ·subst hX
           obtain ⟨yn,rfl⟩:=ze l61
           by_cases hP : p <= (yn : Int)
           ·have HN : Hid (r0 = none):=zh (by have:=HD.out; rw [Cs HFU.out (Xo hP)] at this; exact this.symm)
            go_wp2_with fail
            go_ret2
            have hf:=HTR.out
            rw [zP H16.out (HR0.out.trans HN.out)] at hf
            obtain ⟨rfl,rfl⟩:=Prod.mk.inj hf
            exact ⟨_,rfl,hx5,lv _ _ (le (le (le (le h5))))⟩
           ·have hyp : (yn : Int) < p:=by omega
            have hy40 : yn < 40:=by omega
            have hbe:=Xi (t:=t1) l61 hyp
            obtain ⟨k2,k3⟩:=lH 2 h5 rfl
            have cu:=k2 yn _ (Er t1 hy40)
            clear k2
            cases hcon : t1.contains ((2,(yn : Int)) : Ent)
            ·rw [hcon] at cu hbe
             have HBE:=zh hbe
             clear hbe hcon
             go_upto_region 26 with (fail)
             have h6:=AJ 2 yn (.bool true) h5 rfl (by decide)
             have hx6:=hx5.setCell ⟨ug,yn,none⟩ (.bool true)
             generalize w5.setCell ⟨ug,yn,none⟩ (.bool true) = w6 at *
             have HUS : Hid ((yp t1).set yn (.bool true) = yp (t1++[(2,(yn : Int))])):=zh (MH t1 hy40).symm
             clear cc ff ch fh cu k3
             obtain ⟨cc,ff⟩:=ld 0 h6 rfl
             have h8:=li h6 (.cells #[.int .i64 2,.int .i64 (yn : Int)] 221)
             have hml : t1.length + 1 <= maxLen:=by simp only [maxLen]; omega
             go_wp2_with (first | (at_builtin; refine lD rfl _ _ 150 rfl 2 221 Tryz.underlying150 BJ rfl (by decide) rfl h8 rfl (some ⟨w6.heap.size,0,none⟩) 1 1 [.int .i64 2,.int .i64 (yn : Int)] rfl rfl (ot w6 [.int .i64 2,.int .i64 (yn : Int)] _) (fun h=>by cases h) (Gt _ _) hml (by omega) ?_))
             intro v9 w9 h9 hx9
             go_wp2_with fail
             go_roundw
             case rel=>
              have hne:=HFU.out
              refine ⟨k + 1,t1++[(2,(yn : Int))],by omega,by go_num,by have:=HTL1.out; simp; omega,by have:=HD.out; rw [DX hne HBE.out] at this; exact this,(hx6.alloc _).trans hx9,?_⟩
              rw [show (t1++[((2,(yn : Int)) : Ent)]).length = t1.length + 1 by simp,Bb,<- HUS.out]
              exact le (le h9)
             case measure=>simp [intOf]; omega
            ·rw [hcon] at cu hbe
             have HN : Hid (r0 = none):=zh (by have:=HD.out; rw [Cs HFU.out hbe] at this; exact this.symm)
             clear hbe hcon
             go_wp2_with fail
             go_ret2
             have hf:=HTR.out
             rw [zP H16.out (HR0.out.trans HN.out)] at hf
             obtain ⟨rfl,rfl⟩:=Prod.mk.inj hf
             exact ⟨_,rfl,hx5,lv _ _ (le (le (le (le h5))))⟩
          ·have hx2 : x < 2:=by omega
           have hxb : (x == 2) = false:=zb.2 hX
           have hxb2 : (x != 2) = true:=bne_iff_ne.2 hX
           clear hX hA
           by_cases hB : 0 < y
           ·have HN : Hid (r0 = none):=zh (by have:=HD.out; rw [Cs HFU.out (Xm hx2 hB)] at this; exact this.symm)
            go_wp2_with fail
            go_ret2
            have hf:=HTR.out
            rw [zP H16.out (HR0.out.trans HN.out)] at hf
            obtain ⟨rfl,rfl⟩:=Prod.mk.inj hf
            exact ⟨_,rfl,hx5,lv _ _ (le (le (le (le h5))))⟩
           ·obtain rfl : y = 0:=by omega
            have HBE : Hid (zx p t1 (x,0) = false):=zh (W8 l51 hx2)
            have HUS : Hid (yp t1 = yp (t1++[(x,0)])):=zh (K0 t1 (show ((x,(0 : Int)) : Ent).1≠2 by dsimp only; omega)).symm
            have h6:=h5
            have hx6:=hx5
            go_upto_region 26 with (fail)
            generalize w5 = w6 at *
            have h8:=li h6 (.cells #[.int .i64 x,.int .i64 0] 221)
            have hml : t1.length + 1 <= maxLen:=by simp only [maxLen]; omega
            go_wp2_with (first | (at_builtin; refine lD rfl _ _ 150 rfl 2 221 Tryz.underlying150 BJ rfl (by decide) rfl h8 rfl (some ⟨w6.heap.size,0,none⟩) 1 1 [.int .i64 x,.int .i64 0] rfl rfl (ot w6 [.int .i64 x,.int .i64 0] _) (fun h=>by cases h) (Gt _ _) hml (by omega) ?_))
            intro v9 w9 h9 hx9
            go_wp2_with fail
            go_roundw
            case rel=>
             have hne:=HFU.out
             refine ⟨k + 1,t1++[(x,0)],by omega,by go_num,by have:=HTL1.out; simp; omega,by have:=HD.out; rw [DX hne HBE.out] at this; exact this,(hx6.alloc _).trans hx9,?_⟩
             rw [show (t1++[((x,0) : Ent)]).length = t1.length + 1 by simp,Bb,<- HUS.out]
             exact le (le h9)
            case measure=>simp [intOf]; omega
       ·have hke : k = 8:=by omega
        subst hke
        have hsome : r0 = some t1:=by have:=HTR1.out; rw [Ml,yQ] at this; exact this.symm
        have HSM:=zh hsome
        clear hsome
        go_wp2_with fail
        go_roundw
        case rel=>exact ⟨i + 1,t1,by omega,by go_num,by have:=HTL1.out; omega,by have:=HTR.out; rw [Iq H16.out (HR0.out.trans HSM.out)] at this; exact this,hxr1,hown1⟩
        case measure=>simp [intOf]; omega
     ·have tz : ((s.size : Int) != 16) = true:=by rw [bne_iff_ne]; omega
      go_wp2_with fail
      go_ret2
      have hf:=HTR.out
      rw [G0 h16] at hf
      obtain ⟨rfl,rfl⟩:=Prod.mk.inj hf
      exact ⟨_,rfl,hxr,lv _ _ (le (le (le hown)))⟩
    ·have hie : i = rows.length:=by omega
     rw [hie,List.drop_length,yJ] at htr
     obtain ⟨rfl,rfl⟩:=Prod.mk.inj htr
     subst hie
     go_wp2_with fail
     go_ret2
     exact ⟨_,rfl,hxr,lh 1 (lh 1 hown rfl) rfl⟩
  ·rw [zt hl] at hT2
   obtain ⟨rfl,rfl⟩:=Prod.mk.inj hT2
   have tl : (rows.length != ls C) = true:=by simp [hl]
   have tl2 : ((rows.length : Int) != (ls C : Int)) = true:=by rw [bne_iff_ne]; omega
   clear hT2 hl
   rw [he1]
   go_enter Tryz.func197,Tryz.ntmps197
   go_upto_region 1 with (fail)
   obtain ⟨cc,ff⟩:=ld 0 ha rfl
   generalize w.heap.size = g at *
   generalize w.alloc (.cells #[.int .i64 C,.int .i64 p,.int .i64 b] 103) = w1 at *
   go_wp2_with fail
   refine HQ.out.mono ?_
   rintro e w2 ⟨rfl,hx2,h2'⟩
   clear cc ff
   obtain ⟨cc,ff⟩:=ld 0 h2' rfl
   go_wp2_with fail
   refine (AT C (by omega) _).mono ?_
   rintro e w' ⟨rfl,rfl⟩
   go_wp2_with fail
   go_ret2
   exact ⟨_,rfl,hxa.trans hx2,lv _ _ (le h2')⟩
end Go.Proofs.YtbpblokfiajpjabGreatDoor
