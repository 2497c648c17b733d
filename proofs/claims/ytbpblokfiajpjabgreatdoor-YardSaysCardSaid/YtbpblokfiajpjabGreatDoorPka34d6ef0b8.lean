/- Lemmas on which YardSays stands: the texts Shape14. No conditions. -/
import Derived.Test.YtbpblokfiajpjabGreatDoorPkd3df33e9f4
set_option linter.all false
set_option maxRecDepth 1000000
set_option maxHeartbeats 32000000
namespace Go.Proofs.YtbpblokfiajpjabGreatDoor
open Go.RowKit Go.SL Go.Crc
attribute [local go_sem ↓] Go.wp_at_zero Go.wp_at_succ
def Px (res : Value) (T : List Ent) (R : List SL.HP) (w : World) (e : Ending) (w' : World) : Prop:=
 ∃v,e = .returned (.tuple #[v,res]) /\ Ext w w' /\ own w' (row 221 2 v T.length (lG T)::R)
def WS (C : Nat) (P : Int) (rows : List ByteArray) (T : List Ent) (F : Int) (R : List SL.HP) (w0 : World) (vt vi : Value) (wr : World) : Prop:=
 ∃(i : Nat) (t : List Ent),i <= rows.length /\ vi = .int .i64 i /\ t.length = min C (8 * i) /\ yJ C P t (rows.drop i) = (T,F) /\ Ext w0 wr /\ own wr (row 221 2 vt t.length (lG t)::R)
def W4 (C : Nat) (P : Int) (s : ByteArray) (i : Nat) (r0 : Option (List Ent)) (R : List SL.HP) (w0 : World) (vt vk : Value) (wr : World) : Prop:=
 ∃(k : Nat) (t : List Ent),k <= 8 /\ vk = .int .i64 k /\ t.length = min C (8 * i + k) /\ yQ C P t ((Cm s).drop k) = r0 /\ Ext w0 wr /\ own wr (row 221 2 vt t.length (lG t)::R)
theorem Od {X : Bool} (h : true = !X) : X = false:=by cases X <;> simp_all
theorem NP {X : Bool} (h : false = !X) : X = true:=by cases X <;> simp_all
def SG (ok0 two : Bool) (e : Ent) (t : List Ent) (L : List SL.HP) (w0 : World) (vo vj : Value) (wr : World) : Prop:=
 ∃q : Nat,q <= t.length /\ vj = .int .i64 q /\ vo = .bool (ok0 && !(two && (t.take q).contains e)) /\ Ext w0 wr /\ own wr L
theorem Vc {ok0 two : Bool} {e : Ent} {t : List Ent} {q : Nat} (h : q < t.length) : (ok0 && !(two && (t.take (q + 1)).contains e)) = (ok0 && !(two && ((t.take q).contains e || decide (e = t.getD q (0,0))))):=by
 rw [yM (0,0) h,List.contains_append]
 simp [List.contains_cons]
theorem O1 (c p b : Int) (v : Value) (rows : List ByteArray) (T : List Ent) (F : Int) (hT : zU c p b rows = (T,F)) (hr : rows.length <= 1000) (R : List SL.HP) (w : World) (hv : ∀w' l,own w' (l++R) -> B6 w' v rows) (H : own w R) :
  Calls Tryz.prog 201 #[lM c p b,v] w (Px (.int .i64 F) T R w):=by
 obtain ⟨ao,bb,off,cap,rfl,c1,c2,c3,-⟩:=(hv w [] H).form
 have ha:=li H (.cells #[.int .i64 c,.int .i64 p,.int .i64 b] 103)
 have hxa:=(zR w).alloc (.cells #[.int .i64 c,.int .i64 p,.int .i64 b] 103)
 have HV:=zh hv
 have HC:=zh c3
 clear hv c3
 unfold lM
 by_cases hb : lF c p b
 ·have hT' : ([],1) = (T,F):=by rw [<- hT,zU,zt hb]
  obtain ⟨rfl,rfl⟩:=Prod.mk.inj hT'
  have hq:=zy c p b _ _ ha
  rw [show yu c p b = 1 from zt hb] at hq
  have HQ:=zh hq
  unfold lM at HQ
  clear hq hb hT hT'
  go_enter Tryz.func201,Tryz.ntmps201
  go_upto_region 1 with (fail)
  obtain ⟨cc,ff⟩:=ld 0 ha rfl
  generalize w.heap.size = g at *
  generalize w.alloc (.cells #[.int .i64 c,.int .i64 p,.int .i64 b] 103) = w1 at *
  go_wp2_with fail
  refine HQ.out.mono ?_
  rintro e w2 ⟨rfl,hx2,h2⟩
  go_wp2_with fail
  go_ret2
  exact ⟨_,rfl,hxa.trans hx2,lv _ _ (le h2)⟩
 ·have hq:=zy c p b _ _ ha
  rw [show yu c p b = 0 from zq hb] at hq
  have HQ:=zh hq
  unfold lM at HQ
  have hT2 : (if rows.length≠ls c.toNat then (([],1) : List Ent×Int) else yJ c.toNat p [] rows) = (T,F):=by rw [<- hT,zU,zq hb]
  clear hq hT
  unfold lF at hb
  have h1 : 1 <= c:=by omega
  obtain ⟨C,rfl⟩:=ze (show 0 <= c by omega)
  have h2 : C <= 32:=by omega
  have h3 : 0 <= p:=by omega
  have h4 : p <= 40:=by omega
  clear hb
  rw [zn] at hT2
  by_cases hl : rows.length = ls C
  ·rw [zq (by simpa using hl)] at hT2
   have HT:=zh hT2
   have tl : (rows.length != ls C) = false:=by simp [hl]
   have HL:=zh hl
   have hr4 : rows.length <= 4:=by rw [hl]; unfold ls; omega
   clear hT2
   go_enter Tryz.func201,Tryz.ntmps201
   go_upto_region 1 with (fail)
   obtain ⟨cc,ff⟩:=ld 0 ha rfl
   generalize w.heap.size = g at *
   generalize w.alloc (.cells #[.int .i64 C,.int .i64 p,.int .i64 b] 103) = w1 at *
   go_wp2_with fail
   refine HQ.out.mono ?_
   rintro e w2 ⟨rfl,hx2,h2'⟩
   clear cc ff
   obtain ⟨cc,ff⟩:=ld 0 h2' rfl
   go_wp2_with fail
   refine (Bf C (by omega) _).mono ?_
   rintro e w' ⟨rfl,rfl⟩
   rw [<- HL.out]
   clear hl tl
   go_wp2_with fail
   clear cc ff
   go_loopw [7,8] (WS C p rows T F (pts g (.cells #[.int .i64 C,.int .i64 p,.int .i64 b] 103 (0,0))::R) w) (fun _ i _=>rows.length - (intOf i).toNat)
   case atStart=>exact ⟨0,[],by omega,rfl,by simp,HT.out,hxa.trans hx2,lv _ _ h2'⟩
   case round=>
    obtain ⟨i,t,hi,rfl,htl,htr,hxr,hown⟩:=hrel
    have htC : t.length <= C:=by omega
    have HTL:=zh htl
    clear htl
    obtain ⟨ta,tg,tc,rfl,q1,q2,-,-,-,-,-⟩:=lk 0 hown rfl
    by_cases hlt : i < rows.length
    ·obtain rfl:=HC.out (by omega)
     have hcell:=(HV.out wr [_,_] hown).cells hlt
     rw [zY ByteArray.empty hlt] at htr
     have hsz : (rows.getD i ByteArray.empty).size <= 9223372036854775807:=(HV.out wr [_,_] hown).2 _ (Ka hlt)
     generalize hs : rows.getD i ByteArray.empty = s at *
     have HS:=zh hs
     clear hs
     have HTR:=zh htr
     clear htr
     by_cases h16 : s.size = 16
     ·have tz : ((s.size : Int) != 16) = false:=by simp [h16]
      have H16:=zh h16
      clear h16
      generalize hr0 : yQ C p t (Cm s) = r0 at *
      have HR0:=zh hr0
      clear hr0
      go_wp2_with fail
      obtain ⟨wo,rfl⟩ : ∃wo : World,wo = wr:=⟨_,rfl⟩
      go_loopw [7,9] (W4 C p s i r0 (pts g (.cells #[.int .i64 C,.int .i64 p,.int .i64 b] 103 (0,0))::R) w) (fun _ k _=>8 - (intOf k).toNat)
      case atStart=>exact ⟨0,t,by omega,rfl,by have:=HTL.out; omega,HR0.out,hxr,hown⟩
      case round=>
       obtain ⟨k,t1,hk,rfl,htl1,htr1,hxr1,hown1⟩:=hrel
       have htC1 : t1.length <= C:=by omega
       have HTL1:=zh htl1
       have HTR1:=zh htr1
       clear htl1 htr1 hcell hown hxr
       obtain ⟨ta1,tg1,tc1,rfl,q3,q4,-,-,-,-,-⟩:=lk 0 hown1 rfl
       by_cases hk8 : k < 8
       ·have hcell:=(HV.out wr [_,_] hown1).cells hlt
        rw [HS.out] at hcell
        have i1 : (0 : Int) <= 2 * (k : Int):=by omega
        have i2 : 2 * (k : Int) < (s.size : Int):=by have:=H16.out; omega
        have i3 : 2 * (k : Int) + 1 < (s.size : Int):=by have:=H16.out; omega
        have i4 : (0 : Int) <= 2 * (k : Int) + 1:=by omega
        have tn : (2 * (k : Int) + 1).toNat = 2 * k + 1:=by omega
        have tn2 : (2 * (k : Int)).toNat = 2 * k:=by omega
        have q5:=yV (s:=s) (i:=2 * k) (by omega)
        have q6:=yV (s:=s) (i:=2 * k + 1) (by omega)
        have l5:=zG s (2 * k)
        have l6:=zG s (2 * k + 1)
        have HE:=zh (show sEnt s k = (bt s (2 * k),bt s (2 * k + 1)) from rfl)
        generalize bt s (2 * k) = x at *
        generalize bt s (2 * k + 1) = y at *
        have e1 : IntKind.i64.wrap (2 * (k : Int)) = 2 * (k : Int):=zi _ (by omega)
        have e2 : IntKind.i64.wrap (2 * (k : Int) + 1) = 2 * (k : Int) + 1:=zi _ (by omega)
        have e3 : IntKind.i64.wrap x = x:=zi _ (by omega)
        have e4 : IntKind.i64.wrap y = y:=zi _ (by omega)
        go_upto_region 15 with (fail)
        refine wp_region_held_drew (S:=fun w'=>w'.cell? ⟨bb,off + i,none⟩ = some (.string s)) (by kernel_rfl) hcell (fun hHeld=>?_)
        refine tk 0 ?_
        refine tk 1 ?_
        refine tk 2 ?_
        refine tk 3 ?_
        refine tk 4 ?_
        refine tk 5 ?_
        refine tk 6 ?_
        refine tk 7 ?_
        refine tk 8 ?_
        refine tk 9 ?_
        refine tk 10 ?_
        refine tk 11 ?_
        refine tk 12 ?_
        refine tk 13 ?_
        refine tk 14 ?_
        refine tk 15 ?_
        refine tk 16 ?_
        refine tk 17 ?_
        try simp only [Act.put,tA,tB,tC,tD,tE,tF]
        refine rd 18 rfl fun K hK=>?_
        go_simp
        refine hK.out _ _ ?_ (fun _=>?_)
        ·have:=(HV.out _ [_,_,_] (li hown1 (.cells #[.int .i64 0,.int .i64 0] 221))).cells hlt
         rw [HS.out] at this
         exact this
        clear hK K
        try simp only [Act.put,tA,tB,tC,tD,tE,tF]
        refine rd 19 rfl fun K hK=>?_
        go_simp
        refine hK.out _ _ ?_ (fun _=>?_)
        ·have:=(HV.out _ [_,_,_] (li hown1 (.cells #[.int .i64 x,.int .i64 y] 221))).cells hlt
         rw [HS.out] at this
         exact this
        clear hK K
        try simp only [Act.put,tA,tB,tC,tD,tE,tF]
        refine wpAnyH_done (by kernel_rfl) ?_ _
        have h5:=lj (li hown1 (.cells #[.int .i64 x,.int .i64 y] 221))
        have hx5:=(hxr1.alloc (.cells #[.int .i64 x,.int .i64 y] 221)).drew
        clear q5 q6 e1 e2 e3 e4 i1 i2 i3 i4 tn tn2 hcell hHeld
        generalize wr.heap.size = eb at *
        generalize (wr.alloc (.cells #[.int .i64 x,.int .i64 y] 221)).drew = w5 at *
        obtain ⟨cc,ff⟩:=ld 0 h5 rfl
        obtain ⟨ch,fh⟩:=ld 2 h5 rfl
        obtain ⟨l51,l52⟩:=l5
        obtain ⟨l61,l62⟩:=l6
        have hd:=HTR1.out
        rw [KP s hk8,HE.out] at hd
        have HD:=zh hd
        clear hd
        by_cases hfull : t1.length = C
        ·have hfull' : (t1.length : Int) = (C : Int):=by omega
         have HFU:=zh hfull
         have tf : ((t1.length : Int) == (C : Int)) = true:=by simp [hfull]
         have tf2 : (t1.length == C) = true:=by simp [hfull]
         clear hfull hfull'
         by_cases hz : x = 0 /\ y = 0
         ·obtain ⟨rfl,rfl⟩:=hz
          go_wp2_with fail
          go_roundw
          case rel=>exact ⟨k + 1,t1,by omega,by go_num,by have:=HTL1.out; have:=HFU.out; omega,by have:=HD.out; rw [Jq HFU.out] at this; exact this,hx5,le h5⟩
          case measure=>simp [intOf]; omega
         ·have hpos : 0 < x + y:=by omega
          have hne : ((x,y) : Ent)≠(0,0):=fun h=>hz (Prod.mk.inj h)
          have hnone : r0 = none:=by have:=HD.out; rw [FS HFU.out hne] at this; exact this.symm
          have HN:=zh hnone
          clear hnone hne hz
          go_wp2_with fail
          go_ret2
          have hf:=HTR.out
          rw [zP H16.out (HR0.out.trans HN.out)] at hf
          obtain ⟨rfl,rfl⟩:=Prod.mk.inj hf
          exact ⟨_,rfl,hx5,lv _ _ (le (le (le h5)))⟩
        ·have tf : ((t1.length : Int) == (C : Int)) = false:=zb.2 (by omega)
         have tf2 : (t1.length == C) = false:=zb.2 hfull
         have HFU:=zh hfull
         clear hfull
         have hen:=Im x y p _ w5 h5
         go_wp2_with fail
         refine hen.mono ?_
         rintro e w6 ⟨rfl,hx6,h6⟩
         have hx6':=hx5.trans hx6
         have hbad : zx p t1 (x,y) = !(lW (x,y) p && !(decide (x = 2) && (t1.take t1.length).contains (x,y))):=by
          rw [List.take_length]; unfold zx; cases lW (x,y) p <;> cases decide (x = 2) <;> cases t1.contains (x,y) <;> rfl
         have HBD:=zh hbad
         generalize lW (x,y) p = ok0 at *
         clear hbad cc ff ch fh h5 hx5 hx6 hen
         by_cases hx2 : x = 2
         ·subst hx2
          rw [show decide ((2 : Int) = 2) = true from rfl] at HBD
          go_wp2_with fail
          obtain ⟨wo2,rfl⟩ : ∃wo2 : World,wo2 = wr:=⟨_,rfl⟩
          go_loopw [11,12] (SG ok0 true (2,y) t1 (pts eb (.cells #[.int .i64 2,.int .i64 y] 221 (0,0))::row 221 2 (.slice ta1 t1.length tc1) t1.length (lG t1)::pts g (.cells #[.int .i64 C,.int .i64 p,.int .i64 b] 103 (0,0))::R) w) (fun _ j _=>t1.length - (intOf j).toNat)
          case atStart=>exact ⟨0,by omega,rfl,by simp,hx6',h6⟩
          case round=>
           obtain ⟨q,hq,rfl,rfl,hx7,h7⟩:=hrel
           by_cases hql : q < t1.length
           ·obtain ⟨a9,g9,c9,hv9,-,-,z3,-,-,z6,-⟩:=lk 1 h7 rfl
            simp only [Value.slice.injEq,true_and] at hv9
            obtain ⟨rfl,rfl⟩:=hv9
            obtain rfl:=z3 (by omega)
            have e1:=z6 _ _ (lE hql).1
            have e2:=z6 _ _ (lE hql).2
            have hds:=Vc (ok0:=ok0) (two:=true) (e:=(2,y)) hql
            generalize t1.getD q (0,0) = z at *
            obtain ⟨z1,z2⟩:=z
            dsimp only at e1 e2
            generalize ((t1.take q).contains (2,y)) = was at *
            obtain ⟨cc,ff⟩:=ld 0 h7 rfl
            clear z3 z6
            by_cases hz : z1 = 2 /\ z2 = y
            ·obtain ⟨rfl,rfl⟩:=hz
             have HDS:=zh hds
             clear hds
             go_upto_region 23 with (fail)
             go_quiet (fail)
             go_wp2_with fail
             go_roundw
             case rel=>exact ⟨q + 1,by omega,by go_num,by rw [HDS.out]; simp,hx7.drewN _,ll _ h7⟩
             case measure=>simp [intOf]; omega
            ·have hze : ((2,y) : Ent)≠(z1,z2):=fun h=>hz ⟨(Prod.mk.inj h).1.symm,(Prod.mk.inj h).2.symm⟩
             rw [zf hze,Bool.or_false] at hds
             have HDS:=zh hds
             clear hds hze
             by_cases hz1 : z1 = 2
             ·have hz2 : (z2 == y) = false:=zb.2 fun h=>hz ⟨hz1,h⟩
              subst hz1
              clear hz
              go_upto_region 23 with (fail)
              go_quiet (fail)
              go_wp2_with fail
              go_roundw
              case rel=>exact ⟨q + 1,by omega,by go_num,by rw [HDS.out],hx7.drewN _,ll _ h7⟩
              case measure=>simp [intOf]; omega
             ·have hz2 : (z1 == 2) = false:=zb.2 hz1
              clear hz hz1
              go_upto_region 23 with (fail)
              go_quiet (fail)
              go_wp2_with fail
              go_roundw
              case rel=>exact ⟨q + 1,by omega,by go_num,by rw [HDS.out],hx7.drewN _,ll _ h7⟩
              case measure=>simp [intOf]; omega
           ·have hqe : q = t1.length:=by omega
            subst hqe
            have hbad:=HBD.out
            cases hB : zx p t1 (2,y)
            ·rw [hB] at hbad
             have hval : (ok0 && !(true && (t1.take t1.length).contains ((2,y) : Ent))) = true:=NP hbad
             rw [hval]
             have HBF:=zh hB
             clear hval hbad hB
             obtain ⟨cc,ff⟩:=ld 0 h7 rfl
             have h8:=li h7 (.cells #[.int .i64 2,.int .i64 y] 221)
             have hml : t1.length + 1 <= maxLen:=by simp only [maxLen]; omega
             go_wp2_with (first | (at_builtin; refine lD rfl _ _ 150 rfl 2 221 Tryz.underlying150 BJ rfl (by decide) rfl h8 rfl (some ⟨wr.heap.size,0,none⟩) 1 1 [.int .i64 2,.int .i64 y] rfl rfl (ot wr [.int .i64 2,.int .i64 y] _) (fun h=>by cases h) (Gt _ _) hml (by omega) ?_))
             intro v9 w9 h9 hx9
             go_wp2_with fail
             go_roundw
             case rel=>
              have hne:=HFU.out
              refine ⟨k + 1,t1++[(2,y)],by omega,by go_num,by have:=HTL1.out; simp; omega,by have:=HD.out; rw [DX hne HBF.out] at this; exact this,(hx7.alloc _).trans hx9,?_⟩
              rw [show (t1++[((2,y) : Ent)]).length = t1.length + 1 by simp,Bb]
              exact le (le h9)
             case measure=>simp [intOf]; omega
            ·rw [hB] at hbad
             have hval : (ok0 && !(true && (t1.take t1.length).contains ((2,y) : Ent))) = false:=Od hbad
             rw [hval]
             have HBF:=zh hB
             clear hval hbad hB
             go_wp2_with fail
             go_ret2
             have hf:=HTR.out
             have hne:=HFU.out
             have hnone : r0 = none:=by have:=HD.out; rw [Cs hne HBF.out] at this; exact this.symm
             rw [zP H16.out (HR0.out.trans hnone)] at hf
             obtain ⟨rfl,rfl⟩:=Prod.mk.inj hf
             exact ⟨_,rfl,hx7,lv _ _ (le (le (le h7)))⟩
         ·have hx2b : (x == 2) = false:=zb.2 hx2
          rw [show decide (x = 2) = false from zf hx2] at HBD
          clear hx2
          go_wp2_with fail
          obtain ⟨wo2,rfl⟩ : ∃wo2 : World,wo2 = wr:=⟨_,rfl⟩
          go_loopw [11,12] (SG ok0 false (x,y) t1 (pts eb (.cells #[.int .i64 x,.int .i64 y] 221 (0,0))::row 221 2 (.slice ta1 t1.length tc1) t1.length (lG t1)::pts g (.cells #[.int .i64 C,.int .i64 p,.int .i64 b] 103 (0,0))::R) w) (fun _ j _=>t1.length - (intOf j).toNat)
          case atStart=>exact ⟨0,by omega,rfl,by simp,hx6',h6⟩
          case round=>
           obtain ⟨q,hq,rfl,rfl,hx7,h7⟩:=hrel
           by_cases hql : q < t1.length
           ·obtain ⟨cc,ff⟩:=ld 0 h7 rfl
            go_upto_region 23 with (fail)
            go_quiet (fail)
            go_wp2_with fail
            go_roundw
            case rel=>exact ⟨q + 1,by omega,by go_num,by simp,hx7.drewN _,ll _ h7⟩
            case measure=>simp [intOf]; omega
           ·have hqe : q = t1.length:=by omega
            subst hqe
            have hbad:=HBD.out
            cases hB : zx p t1 (x,y)
            ·rw [hB] at hbad
             have hval : (ok0 && !(false && (t1.take t1.length).contains ((x,y) : Ent))) = true:=NP hbad
             rw [hval]
             have HBF:=zh hB
             clear hval hbad hB
             obtain ⟨cc,ff⟩:=ld 0 h7 rfl
             have h8:=li h7 (.cells #[.int .i64 x,.int .i64 y] 221)
             have hml : t1.length + 1 <= maxLen:=by simp only [maxLen]; omega
             go_wp2_with (first | (at_builtin; refine lD rfl _ _ 150 rfl 2 221 Tryz.underlying150 BJ rfl (by decide) rfl h8 rfl (some ⟨wr.heap.size,0,none⟩) 1 1 [.int .i64 x,.int .i64 y] rfl rfl (ot wr [.int .i64 x,.int .i64 y] _) (fun h=>by cases h) (Gt _ _) hml (by omega) ?_))
             intro v9 w9 h9 hx9
             go_wp2_with fail
             go_roundw
             case rel=>
              have hne:=HFU.out
              refine ⟨k + 1,t1++[(x,y)],by omega,by go_num,by have:=HTL1.out; simp; omega,by have:=HD.out; rw [DX hne HBF.out] at this; exact this,(hx7.alloc _).trans hx9,?_⟩
              rw [show (t1++[((x,y) : Ent)]).length = t1.length + 1 by simp,Bb]
              exact le (le h9)
             case measure=>simp [intOf]; omega
            ·rw [hB] at hbad
             have hval : (ok0 && !(false && (t1.take t1.length).contains ((x,y) : Ent))) = false:=Od hbad
             rw [hval]
             have HBF:=zh hB
             clear hval hbad hB
             go_wp2_with fail
             go_ret2
             have hf:=HTR.out
             have hne:=HFU.out
             have hnone : r0 = none:=by have:=HD.out; rw [Cs hne HBF.out] at this; exact this.symm
             rw [zP H16.out (HR0.out.trans hnone)] at hf
             obtain ⟨rfl,rfl⟩:=Prod.mk.inj hf
             exact ⟨_,rfl,hx7,lv _ _ (le (le (le h7)))⟩
       ·have hke : k = 8:=by omega
        subst hke
        have hsome : r0 = some t1:=by have:=HTR1.out; rw [Ml,yQ] at this; exact this.symm
        have HSM:=zh hsome
        clear hsome
        go_wp2_with fail
        go_roundw
        case rel=>exact ⟨i + 1,t1,by omega,by go_num,by have:=HTL1.out; omega,by have:=HTR.out; rw [Iq H16.out (HR0.out.trans HSM.out)] at this; exact this,hxr1,hown1⟩
        case measure=>simp [intOf]; omega
     ·have tz : ((s.size : Int) != 16) = true:=by rw [bne_iff_ne]; omega
      go_wp2_with fail
      go_ret2
      have hf:=HTR.out
      rw [G0 h16] at hf
      obtain ⟨rfl,rfl⟩:=Prod.mk.inj hf
      exact ⟨_,rfl,hxr,lv _ _ (le (le hown))⟩
    ·have hie : i = rows.length:=by omega
     rw [hie,List.drop_length,yJ] at htr
     obtain ⟨rfl,rfl⟩:=Prod.mk.inj htr
     subst hie
     go_wp2_with fail
     go_ret2
     exact ⟨_,rfl,hxr,lh 1 hown rfl⟩
  ·rw [zt hl] at hT2
   obtain ⟨rfl,rfl⟩:=Prod.mk.inj hT2
   have tl : (rows.length != ls C) = true:=by simp [hl]
   have tl2 : ((rows.length : Int) != (ls C : Int)) = true:=by rw [bne_iff_ne]; omega
   clear hT2 hl
   go_enter Tryz.func201,Tryz.ntmps201
   go_upto_region 1 with (fail)
   obtain ⟨cc,ff⟩:=ld 0 ha rfl
   generalize w.heap.size = g at *
   generalize w.alloc (.cells #[.int .i64 C,.int .i64 p,.int .i64 b] 103) = w1 at *
   go_wp2_with fail
   refine HQ.out.mono ?_
   rintro e w2 ⟨rfl,hx2,h2'⟩
   clear cc ff
   obtain ⟨cc,ff⟩:=ld 0 h2' rfl
   go_wp2_with fail
   refine (Bf C (by omega) _).mono ?_
   rintro e w' ⟨rfl,rfl⟩
   go_wp2_with fail
   go_ret2
   exact ⟨_,rfl,hxa.trans hx2,lv _ _ (le h2')⟩
end Go.Proofs.YtbpblokfiajpjabGreatDoor
