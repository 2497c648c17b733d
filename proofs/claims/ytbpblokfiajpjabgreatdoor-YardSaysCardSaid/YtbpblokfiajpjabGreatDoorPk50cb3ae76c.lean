/- Lemmas on which YardSays stands: the texts Dev4 Dev5 Dev6 RDev Strs Crc Sum Shape Shape2 Shape3 Shape4. No conditions. -/
import Derived.Test.YtbpblokfiajpjabGreatDoorPk258c2aed9e
import Derived.Lib.Join
import Derived.Deep.RegionLaw
import Derived.Laws.Strings2
import Derived.Laws.BytesArg
import Derived.Laws.OwnMore
import Derived.Deep.DrawnRows
import Derived.Laws.ResultCell
set_option linter.all false
set_option maxRecDepth 1000000
set_option maxHeartbeats 32000000
namespace Go.SL
open Go.RowKit
theorem C5 {w : World} {L : List HP} (k : Nat) {e : TypeId} {sz n cap : Nat} {ao : Option Addr} {xs : List Value} (H : own w L) (hk : L[k]? = some (row e sz (.slice ao n cap) n xs)) :
  (∀ad,ao = some ad -> ∀j u,xs[j]? = some u -> w.cell? (ad.add j) = some u) /\ (ao = none -> n = 0):=by
 obtain ⟨ap',gp',cp',hv,-,-,-,h5,k1,k2,k3⟩:=lk k H hk
 simp only [Value.slice.injEq,true_and] at hv
 obtain ⟨rfl,rfl⟩:=hv
 refine ⟨fun ad had j u hu=>?_,fun h=>(h5 h).1⟩
 obtain rfl:=k1 _ had
 rw [Go.Proofs.YtbpblokfiajpjabGreatDoor.add_none,Nat.zero_add]
 exact k2 j u hu
end Go.SL
namespace Go.Proofs.YtbpblokfiajpjabGreatDoor
open Go.RowKit Go.SL
theorem ER {l : List ByteArray} : ∀u∈strCells l,u.oneCell' = true:=fun u hu=>by
 obtain ⟨_,_,rfl⟩:=List.mem_map.1 hu; rfl
theorem My {l : List (Int×ByteArray)} : ∀u∈yl l,u.oneCell' = true:=fun u hu=>by
 simp only [yl,List.mem_flatMap] at hu
 obtain ⟨_,_,hu⟩:=hu
 simp at hu
 rcases hu with rfl | rfl <;> rfl
theorem MF (l : List (Int×ByteArray)) : (yl l).length = l.length * 2:=by
 induction l with
 | nil=>rfl
 | cons x l ih=>simp only [yl,List.flatMap_cons,List.length_append,List.length_cons,List.length_nil] at ih ⊢; omega
def Uu (c b : Nat) (m : DevM) (vc vf vp : Value) (ks : List Bool) (R : List SL.HP) (w0 : World) (i : Value) (wr : World) : Prop:=
 ∃q : Nat,q <= m.pend.length /\ i = .int .i64 q /\ Ext w0 wr /\ own wr (pts c (.cells #[vc,.slice none 0 0,.int .i64 (-1),.int .i64 m.writes] 214 (0,0))::row 9 1 vc m.fl.length (strCells ((oU (m.pend.take q) ks).foldl Af m.fl))::
  pts b (.cells #[vf,vp,.int .i64 m.fail,.int .i64 m.writes] 214 (0,0))::row 9 1 vf m.fl.length (strCells m.fl)::row 245 2 vp m.pend.length (yl m.pend)::R)
theorem LC (b : Nat) (m : DevM) (hm : m.Ok) (v : Value) (ks : List Bool) (R : List SL.HP) (w : World) (hv : ∀w' l,own w' (l++R) -> yI w' v ks) (H : own w (lm b m::R)) :
  Calls Tryz.prog 132 #[.pointer (some ⟨b,0,none⟩),v] w fun e w'=>∃c,e = .returned (.pointer (some ⟨c,0,none⟩)) /\ Ext w w' /\ own w' (lm c (m.crash ks)::lm b m::R):=by
 obtain ⟨vf,vp,h⟩:=Bn H
 have hl1:=hm.n
 have hl2:=hm.p
 obtain ⟨ao,kb,koff,kcap,rfl,kc1,kc2,-,-⟩:=hv w [lm b m] H
 obtain ⟨ap,gp,cp,rfl,p1,p2,p3,-,-,-,-⟩:=lk 2 h rfl
 obtain ⟨af,gf,cf,rfl,f1,f2,f3,-,-,-,-⟩:=lk 1 h rfl
 obtain ⟨c,f⟩:=ld 0 h rfl
 obtain ⟨n1,n2⟩:=C5 1 (lj h) rfl
 have hml : 0 + m.fl.length <= maxLen:=by simp only [maxLen]; omega
 have hnl : (strCells m.fl).length = m.fl.length * 1:=by simp [strCells]
 go_enter Tryz.func132,Tryz.ntmps132
 go_wp2_with fail
 go_region_held3 (fun w'=>w'.cell? ⟨b,0,none⟩ = some (.slice af m.fl.length cf) /\ w'.cell? ⟨b,3,none⟩ = some (.int .i64 m.writes)) (first | exact ⟨(ld 0 (lj h) rfl).1 0,(ld 0 (lj h) rfl).1 3⟩ | exact ⟨(ld 1 h2 rfl).1 0,(ld 1 h2 rfl).1 3⟩ | exact ⟨(ld 2 (li h2 _) rfl).1 0,(ld 2 (li h2 _) rfl).1 3⟩)
  ((refine At (by rfl) _ _ 51 (by rfl) 0 9 Tryz.underlying51 AO rfl (by decide) (by rfl) (lv 9 1 (lj h)) rfl af m.fl.length cf (strCells m.fl) (by rfl) hnl n1 n2 ER hml (by omega) ?_; intro v2 w2 h2 hx2; obtain ⟨a2,g2,c2,rfl,q1,q2,q3,-,-,-,-⟩:=lk 0 h2 rfl))
 simp only [Nat.zero_add,List.nil_append,List.set_cons_zero] at h2 q1 q3
 have h3:=li h2 (.cells #[.slice a2 m.fl.length c2,.slice none 0 0,.int .i64 (-1),.int .i64 m.writes] 214)
 have hx3:=(((zR w).drew).trans hx2).alloc (.cells #[.slice a2 m.fl.length c2,.slice none 0 0,.int .i64 (-1),.int .i64 m.writes] 214)
 clear n1 n2 c f h2 hx2 h H
 generalize w2.heap.size = cc at *
 generalize w2.alloc (.cells #[.slice a2 m.fl.length c2,.slice none 0 0,.int .i64 (-1),.int .i64 m.writes] 214) = w3 at *
 have P3:=zh p3
 have F3:=zh q3
 have HV:=zh hv
 clear p3 q3 f3 hv
 obtain ⟨c,f⟩:=ld 2 h3 rfl
 go_wp2_with fail
 go_loopw [24] (Uu cc b m (.slice a2 m.fl.length c2) (.slice af m.fl.length cf) (.slice ap m.pend.length cp) ks R w) (fun i _=>m.pend.length - (intOf i).toNat)
 case atStart=>exact ⟨0,Nat.zero_le _,rfl,hx3,h3⟩
 case round=>
  clear c f h3 hx3
  obtain ⟨q,hq,rfl,hxr,hown⟩:=hrel
  by_cases hlt : q < m.pend.length
  ·obtain rfl:=P3.out (by omega)
   obtain ⟨x1,x2,x3⟩:=hm.pend _ (GK hlt)
   obtain ⟨e1,e2⟩:=CI hlt
   obtain ⟨k2,-⟩:=lH 4 hown rfl
   have c1:=k2 _ _ e1
   have c2':=k2 _ _ e2
   have hto:=G1 (m.pend.take q) (m.pend.getD q (0,ByteArray.empty)) ks
   rw [<- yM (0,ByteArray.empty) hlt,List.length_take,Nat.min_eq_left (by omega)] at hto
   have HT:=zh hto
   clear hto
   generalize hx : m.pend.getD q (0,ByteArray.empty) = x at *
   clear k2 e1 e2 hx
   obtain ⟨n,s⟩:=x
   dsimp only at x1 x2 x3 c1 c2'
   obtain ⟨k,rfl⟩:=ze x1
   obtain rfl:=F3.out (by omega)
   go_upto_region 5 with (fail)
   have ha:=li hown (.cells #[.int .i64 k,.string s] 245)
   have hxa:=hxr.alloc (.cells #[.int .i64 k,.string s] 245)
   clear c1 c2' hown
   generalize wr.heap.size = ba at *
   generalize wr.alloc (.cells #[.int .i64 k,.string s] 245) = wa at *
   obtain ⟨c0,f0⟩:=ld 0 ha rfl
   obtain ⟨c,f⟩:=ld 1 ha rfl
   obtain ⟨k2,k3⟩:=lH 2 ha rfl
   have hlen:=lK (oU (m.pend.take q) ks) m.fl
   generalize hfq : (oU (m.pend.take q) ks).foldl Af m.fl = fq at *
   have HFQ:=zh hfq
   clear hfq
   have c2:=k2 k _ (A0 (by omega))
   clear k2
   obtain ⟨ao',kb',koff',kcap',hkv,-,-,hk1,hk2⟩:=HV.out wa [_,_,_,_,_,_] ha
   simp only [Value.slice.injEq,true_and] at hkv
   obtain ⟨rfl,rfl⟩:=hkv
   have hkeep : ks.getD q false = true -> q < ks.length:=fun h=>by
    rcases Nat.lt_or_ge q ks.length with h' | h'
    ·exact h'
    ·simp [h'] at h
   by_cases hin : q < ks.length
   ·obtain rfl:=hk1 (by omega)
    have ck:=hk2 q hin
    dsimp only at ck
    clear hk1 hk2
    cases hkq : ks.getD q false
    ·rw [hkq] at ck
     clear hkeep
     go_wp2_with fail
     go_roundw
     case rel=>
      refine ⟨q + 1,by omega,by go_num,hxa,?_⟩
      have h6:=le ha
      rw [HT.out,hkq,zq (by simp),List.append_nil,HFQ.out]
      exact h6
     case measure=>simp [intOf]; omega
    ·rw [hkq] at ck
     clear hkeep
     go_upto_region 6 with (fail)
     go_still_tail 8,(by kernel_rfl)
     change wpList _ _ _ _ _ wa.drew
     go_wp2_with fail
     go_roundw
     case rel=>
      have h5:=AJ 2 k (.string s) (lj ha) rfl (by omega)
      refine ⟨q + 1,by omega,by go_num,hxa.drew.setCell _ _,?_⟩
      have h6:=le h5
      rw [HT.out,hkq,zt rfl,List.foldl_append,HFQ.out]
      simp only [List.foldl_cons,List.foldl_nil,Af,zn,Da]
      exact h6
     case measure=>simp [intOf]; omega
   ·have hkq : ks.getD q false = false:=by
     cases h : ks.getD q false
     ·rfl
     ·exact absurd (hkeep h) hin
    clear hkeep hk1 hk2
    go_wp2_with fail
    go_roundw
    case rel=>
     refine ⟨q + 1,by omega,by go_num,hxa,?_⟩
     have h6:=le ha
     rw [HT.out,hkq,zq (by simp),List.append_nil,HFQ.out]
     exact h6
    case measure=>simp [intOf]; omega
  ·have hq' : q = m.pend.length:=by omega
   subst hq'
   rw [List.take_length] at hown
   clear HV
   go_wp2_with fail
   go_ret
   refine ⟨cc,rfl,hxr,?_⟩
   have h7:=lr [_,_] (lv 245 2 hown)
   have h8:=AN (b:=cc) (m:=m.crash ks) (vf:=.slice a2 m.fl.length c2) (vp:=.slice none 0 0) (by
    simp only [DevM.crash,lK]
    exact h7)
   exact lr [_] (AN (lr [_,_,_] h8))
end Go.Proofs.YtbpblokfiajpjabGreatDoor
namespace Go.SL
open Go.RowKit
theorem Q0 {w : World} {L : List HP} (k : Nat) {e : TypeId} {sz g n cap : Nat} {xs : List Value} (H : own w L) (hk : L[k]? = some (row e sz (.slice (some ⟨g,0,none⟩) n cap) n xs)) : g < w.heap.size:=by
 obtain ⟨hl,⟨h1,h2⟩ | ⟨g',cap',cur,h1,h2,h3,h4,h5,h6⟩⟩:=DH k H hk
 ·cases h1
 ·simp only [Value.slice.injEq,Option.some.injEq,Addr.mk.injEq,and_true,true_and] at h1
  obtain ⟨rfl,rfl⟩:=h1
  have hkl : k < L.length:=(zS.1 hk).1
  exact Ww k (b:=g) (o:=.cells cur e (0,0)) h6 (by simp [hkl])
end Go.SL
namespace Go.Proofs.YtbpblokfiajpjabGreatDoor
open Go.RowKit Go.SL
def catL (l : List ByteArray) : List UInt8:=l.flatMap fun s=>s.data.toList
def cat (l : List ByteArray) : ByteArray:=⟨(catL l).toArray⟩
theorem Nt (l : List ByteArray) : Lib.join (l.map (·.data.toList)) [] = catL l:=by
 have h : ∀m : List (List UInt8),([] : List UInt8).intercalate m = m.flatten:=fun m=>by
  induction m with
  | nil=>rfl
  | cons x m ih=>
   cases m with
   | nil=>simp [List.intercalate]
   | cons y m=>
    simp only [List.intercalate,List.intersperse,List.flatten_cons,List.nil_append] at ih ⊢
    rw [ih]
 rw [Lib.join,h,catL,List.flatMap]
theorem B0 {l : List ByteArray} {k : Nat} (h : ∀s∈l,s.size = k) : (catL l).length = l.length * k:=by
 induction l with
 | nil=>simp [catL]
 | cons x l ih=>
  have h1:=ih fun s hs=>h s (by simp [hs])
  have h2:=h x (by simp)
  have h3 : x.data.toList.length = k:=by rw [<- h2]; rfl
  simp only [catL,List.flatMap_cons,List.length_append,List.length_cons,Nat.add_mul,h3] at h1 ⊢
  omega
theorem T0 (b : Nat) (m : DevM) (hm : m.Ok) (R : List SL.HP) (w : World) (H : own w (lm b m::R)) :
  Calls Tryz.prog 215 #[.pointer (some ⟨b,0,none⟩)] w fun e w'=>e = .returned (.string (cat m.fl)) /\ Ext w w' /\ own w' (lm b m::R):=by
 obtain ⟨vf,vp,h⟩:=Bn H
 have hl1:=hm.n
 have hcl:=B0 hm.fl
 obtain ⟨af,gf,cf,rfl,f1,f2,f3,-,-,f6,-⟩:=lk 1 h rfl
 obtain ⟨c,f⟩:=ld 0 h rfl
 by_cases h0 : m.fl.length = 0
 ·have e0 : cat m.fl = ⟨#[]⟩:=by rw [List.eq_nil_of_length_eq_zero h0]; rfl
  rw [e0]
  rw [h0] at c
  clear f3 f6
  go_enter Tryz.func215,Tryz.ntmps215
  go_wp2_with fail
  refine (Tryz.strings_Join_none _ _ _ w).mono ?_
  rintro e w1 ⟨rfl,rfl⟩
  go_wp2_with fail
  go_ret
  exact ⟨rfl,zR _,H⟩
 ·obtain rfl:=f3 (by omega)
  have hlt:=Q0 1 h rfl
  have hJ:=Tryz.strings_Join gf 0 cf m.fl ⟨#[]⟩ w (fun j x hx=>by rw [Nat.zero_add]; exact f6 j _ (by simp [strCells,hx])) hlt (by omega) f1 (by simp only [List.toList_toArray]; rw [Nt]; omega)
  rw [show (⟨#[]⟩ : ByteArray).data.toList = [] from rfl,Nt] at hJ
  have HJ:=zh hJ
  clear f3 f6 hJ
  go_enter Tryz.func215,Tryz.ntmps215
  go_wp2_with fail
  refine HJ.out.mono ?_
  rintro e w1 ⟨rfl,hb⟩
  go_wp2_with fail
  go_ret
  exact ⟨rfl,Fu hb,Fw H hb⟩
theorem GF (b : Nat) (m : DevM) (hm : m.Ok) (R : List SL.HP) (w : World) (H : own w (lm b m::R)) :
  Calls Tryz.prog 94 #[.pointer (some ⟨b,0,none⟩)] w fun e w'=>∃c,e = .returned (.pointer (some ⟨c,0,none⟩)) /\ Ext w w' /\ own w' (lm c m::lm b m::R):=by
 obtain ⟨vf,vp,h⟩:=Bn H
 have hl1:=hm.n
 have hl2:=hm.p
 obtain ⟨ap,gp,cp,rfl,p1,p2,p3,-,-,-,-⟩:=lk 2 h rfl
 obtain ⟨af,gf,cf,rfl,f1,f2,f3,-,-,-,-⟩:=lk 1 h rfl
 obtain ⟨c,f⟩:=ld 0 h rfl
 have hml : 0 + m.fl.length <= maxLen:=by simp only [maxLen]; omega
 have hnl : (strCells m.fl).length = m.fl.length * 1:=by simp [strCells]
 have hml2 : 0 + m.pend.length <= maxLen:=by simp only [maxLen]; omega
 go_enter Tryz.func94,Tryz.ntmps94
 go_upto_region 2 with (fail)
 have h1:=li h (.cells #[.slice af m.fl.length cf,.slice ap m.pend.length cp,.int .i64 m.fail,.int .i64 m.writes] 214)
 have hx1:=(zR w).alloc (.cells #[.slice af m.fl.length cf,.slice ap m.pend.length cp,.int .i64 m.fail,.int .i64 m.writes] 214)
 clear c f h H
 generalize w.heap.size = cc at *
 generalize w.alloc (.cells #[.slice af m.fl.length cf,.slice ap m.pend.length cp,.int .i64 m.fail,.int .i64 m.writes] 214) = w1 at *
 obtain ⟨c0,f0⟩:=ld 0 h1 rfl
 obtain ⟨c1,f1'⟩:=ld 1 h1 rfl
 obtain ⟨n1,n2⟩:=C5 2 h1 rfl
 go_wp2_with (first | (at_builtin; refine lD rfl _ _ 51 rfl 0 9 Tryz.underlying51 AO rfl (by decide) rfl (lv 9 1 h1) rfl af m.fl.length cf (strCells m.fl) rfl hnl n1 n2 ER hml (by omega) ?_))
 clear n1 n2 c0 f0 c1 f1'
 intro v2 w2 h2 hx2
 obtain ⟨a2,g2,c2,rfl,q1,q2,q3,-,-,-,-⟩:=lk 0 h2 rfl
 try simp only [Nat.zero_add,List.nil_append,List.set_cons_zero] at h2
 try simp only [Nat.zero_add] at q1
 try simp only [Nat.zero_add] at q3
 obtain ⟨c0,f0⟩:=ld 1 h2 rfl
 obtain ⟨c1,f1'⟩:=ld 2 h2 rfl
 go_upto_region 3 with (fail)
 have h3:=lg (i:=0) (v:=.slice a2 m.fl.length c2) 1 h2 rfl
 have hx3:=(hx1.trans hx2).setCell ⟨cc,0,none⟩ (.slice a2 m.fl.length c2)
 clear c0 f0 c1 f1' hx1 hx2 h1 h2
 generalize w2.setCell ⟨cc,0,none⟩ (.slice a2 m.fl.length c2) = w3 at *
 obtain ⟨c0,f0⟩:=ld 1 h3 rfl
 obtain ⟨c1,f1'⟩:=ld 2 h3 rfl
 obtain ⟨n1,n2⟩:=C5 4 h3 rfl
 go_wp2_with (first | (at_builtin; refine lD rfl _ _ 212 rfl 0 245 Tryz.underlying212 KF rfl (by decide) rfl (lv 245 2 h3) rfl ap m.pend.length cp (yl m.pend) rfl (MF _) n1 n2 My hml2 (by omega) ?_))
 clear n1 n2 c0 f0 c1 f1'
 intro v4 w4 h4 hx4
 obtain ⟨a4,g4,c4,rfl,q4,q5,q6,-,-,-,-⟩:=lk 0 h4 rfl
 try simp only [Nat.zero_add,List.nil_append,List.set_cons_zero] at h4
 try simp only [Nat.zero_add] at q4
 try simp only [Nat.zero_add] at q6
 obtain ⟨c0,f0⟩:=ld 2 h4 rfl
 go_wp2_with fail
 go_ret
 refine ⟨cc,rfl,(hx3.trans hx4).setCell _ _,?_⟩
 have h5:=lg (i:=1) (v:=.slice a4 m.pend.length c4) 2 h4 rfl
 have h6:=lr [_] (lr [_,_] h5)
 exact lr [_] (AN (lr [_,_,_] (AN h6)))
def As : ByteArray:=⟨#[0,0,0,0,0,0,0,0,0,0,0,0,0,0,0,0]⟩
def ob (n : Nat) : DevM:={ fl:=List.replicate n As,pend:=[],fail:=-1,writes:=0 }
theorem BD {n : Nat} (h : n <= 200) : (ob n).Ok:=
 ⟨by simp [ob]; exact h,fun s hs=>by rw [(List.mem_replicate.1 hs).2]; rfl,by simp [ob],fun x hx=>by simp [ob] at hx,by simp [ob],by simp [ob]⟩
theorem Xj : (⟨(Lib.repeatL (⟨#[0]⟩ : ByteArray).data.toList 16).toArray⟩ : ByteArray) = As:=rfl
def Nd (n : Int) : Bool:=decide (1 <= n /\ n <= 200)
theorem ot (w : World) (cs : List Value) (T : TypeId) : ∀ad,some (⟨w.heap.size,0,none⟩ : Addr) = some ad -> ∀j u,cs[j]? = some u -> (w.alloc (.cells cs.toArray T)).cell? (ad.add j) = some u:=fun ad had j u hu=>by
 obtain rfl:=Option.some.inj had
 rw [add_none,Nat.zero_add]
 have h:=li (Js w) (.cells cs.toArray T)
 rw [(ld 0 h rfl).1]
 simpa using hu
theorem Lg (s : ByteArray) : ∀u∈[Value.string s],u.oneCell' = true:=fun u hu=>by simp at hu; subst hu; rfl
theorem TN (w : World) : Calls Tryz.prog 154 #[.string ⟨#[0]⟩,.int .i64 16] w fun e w'=>e = .returned (.string As) /\ Below w.heap.size w w':=
 (Tryz.strings_Repeat ⟨#[0]⟩ 16 w (by decide) (by decide)).mono fun _ _ h=>⟨by rw [h.1,Xj],h.2⟩
def WW (b : Nat) (n : Nat) (R : List SL.HP) (w0 : World) (i : Value) (wr : World) : Prop:=
 ∃q : Nat,q <= n /\ i = .int .i64 q /\ Ext w0 wr /\ ∃ao g cap,q <= cap /\ cap <= maxLen /\ own wr (pts b (.cells #[.slice ao q cap,.slice none 0 0,.int .i64 (-1),.int .i64 0] 214 (0,0))::row 9 1 (.slice ao q cap) q (strCells (List.replicate q As))::R) /\ (0 < q -> ao = some ⟨g,0,none⟩)
theorem JA (n : Nat) (R : List SL.HP) (w : World) (h : Nd n = true) (H : own w R) : Calls Tryz.prog 61 #[.int .i64 n] w fun e w'=>∃b,e = .returned (.tuple #[.pointer (some ⟨b,0,none⟩),.nilIface]) /\ Ext w w' /\ own w' (lm b (ob n)::R):=by
 simp only [Nd,decide_eq_true_eq] at h
 obtain ⟨n1,n2⟩:=h
 go_enter Tryz.func61,Tryz.ntmps61
 go_upto_region 4 with (fail)
 have ha:=li H (.cells #[.slice none 0 0,.slice none 0 0,.int .i64 (-1),.int .i64 0] 214)
 have hx1:=(zR w).alloc (.cells #[.slice none 0 0,.slice none 0 0,.int .i64 (-1),.int .i64 0] 214)
 generalize w.heap.size = b at *
 generalize w.alloc (.cells #[.slice none 0 0,.slice none 0 0,.int .i64 (-1),.int .i64 0] 214) = w1 at *
 have h1:=lr [_] (lv 9 1 ha)
 clear ha
 go_wp2_with fail
 go_loopw [15] (WW b n R w) (fun i _=>n - (intOf i).toNat)
 case atStart=>exact ⟨0,Nat.zero_le _,rfl,hx1,none,0,0,Nat.le_refl _,by simp [maxLen],h1,fun h=>absurd h (by simp)⟩
 case round=>
  clear h1 hx1
  obtain ⟨q,hq,rfl,hxr,ao,g,cap,q1,q2,hown,q3⟩:=hrel
  by_cases hlt : q < n
  ·have hml : q + 1 <= maxLen:=by simp only [maxLen]; omega
   clear q3
   go_upto_region 6 with (fail)
   obtain ⟨c,f⟩:=ld 0 (lj hown) rfl
   go_region_law (first | (refine At (by rfl) _ _ 51 (by rfl) 2 9 Tryz.underlying51 AO rfl (by decide) (by rfl) (li h2 _) rfl (some ⟨w2.heap.size,0,none⟩) 1 1 [.string As] (by rfl) rfl (ot w2 [.string As] _) (fun h=>by cases h) (Lg _) hml (by omega) ?_; intro v4 w4 h4 hx4; obtain ⟨a4,g4,c4,rfl,s1,s2,s3,-,-,-,-⟩:=lk 2 h4 rfl; obtain rfl:=s3 (by omega); obtain ⟨cc,ff⟩:=ld 1 h4 rfl) | (go_simp; go_at_call 154; refine (TN _).mono ?_; rintro e w2 ⟨rfl,hb2⟩; have h2:=Fw (lj hown) hb2; obtain ⟨c2,f2⟩:=ld 0 h2 rfl; have h2a:=li h2 (.cells #[.string As] 9); obtain ⟨c3,f3⟩:=ld 1 h2a rfl))
   all_goals
    go_wp2_with fail
    go_roundw
    case rel=>
     have h5:=lg (i:=0) (v:=.slice (some ⟨g4,0,none⟩) (q + 1) c4) 1 h4 rfl
     refine ⟨q + 1,by omega,by go_num,?_,_,g4,c4,s1,s2,?_,fun _=>rfl⟩
     ·exact (((hxr.drew.trans (Fu hb2)).alloc _).trans hx4).setCell _ _
     ·have h6:=le h5
      have e : strCells (List.replicate (q + 1) As) = strCells (List.replicate q As)++[.string As]:=by simp [strCells,List.replicate_succ']
      rw [e]
      exact h6
    case measure=>simp [intOf]; omega
  ·have hq' : q = n:=by omega
   subst hq'
   clear q3
   go_wp2_with fail
   go_ret2
   refine ⟨b,rfl,hxr,AN (m:=ob q) (vf:=.slice ao q cap) (vp:=.slice none 0 0) ?_⟩
   have h5:=lr [_,_] (lv 245 2 hown)
   simp only [ob,List.length_replicate]
   exact h5
end Go.Proofs.YtbpblokfiajpjabGreatDoor
namespace Go.Proofs.YtbpblokfiajpjabGreatDoor
open Go.RowKit Go.SL
def oH (s : ByteArray) (i : Nat) : ByteArray:=s.extract (i * 16) ((i + 1) * 16)
def zs (n : Nat) : ByteArray:=⟨(List.replicate n 0).toArray⟩
theorem EF (n : Nat) : (zs n).size = n:=by simp [zs,ByteArray.size]
theorem BC : Elem Tryz.prog 5 1 1 (.int .u8 0):=by unfold Elem; kernel_rfl
theorem Cb : Elem Tryz.prog 3 1 8 (.int .i64 0):=by unfold Elem; kernel_rfl
theorem Bm (n : Nat) (hn : n <= 1000000) (R : List SL.HP) (w : World) (H : own w R) : Calls Tryz.prog 92 #[.int .i64 n] w fun e w'=>e = .returned (.string (zs n)) /\ Ext w w' /\ own w' R:=by
 go_enter Tryz.func92,Tryz.ntmps92
 have hml : n <= maxLen:=by simp only [maxLen]; omega
 go_wp2_with (first | (refine Di rfl _ _ 211 rfl 5 Tryz.underlying211 BC rfl .i64 .i64 n rfl rfl (by omega) hml H ?_))
 intro w1 h1 hx1
 obtain ⟨k2,-⟩:=lH 0 h1 rfl
 have hcv : ∀i,i < n -> w1.cell? ⟨w.heap.size,0 + i,none⟩ = some (.int .u8 ((List.replicate n (0 : Int)).getD i 0)):=fun i hi=>by
  rw [Nat.zero_add]
  refine k2 i _ ?_
  try simp only [Nat.mul_one]
  try rw [show (Value.int IntKind.u8 0).cells = #[.int .u8 0] from rfl]
  rw [toList_madeCells_one]
  simp [hi]
 have hconv:=run_convert_bytes_arg (P:=Tryz.prog) w1 211 5 Tryz.underlying211 Tryz.underlying5 w.heap.size 0 n n (List.replicate n (0 : Int)) (by simp) hcv 9 Tryz.underlying9
 have hz : strOfNums (List.replicate n (0 : Int)) = zs n:=by
  unfold strOfNums zs
  simp
 rw [hz] at hconv
 clear hz hcv k2
 go_wp2_with fail
 go_ret
 exact ⟨rfl,hx1,le h1⟩
def Ad (l : List (Int×ByteArray)) : List Value:=l.map fun x=>.int .i64 x.1
def zD (l : List (Int×ByteArray)) : List Value:=l.map fun x=>.string x.2
theorem Fh {l : List (Int×ByteArray)} {i : Nat} (h : i < l.length) : (Ad l)[i]? = some (.int .i64 (l.getD i (0,ByteArray.empty)).1):=by simp [Ad,h]
theorem En {l : List (Int×ByteArray)} {i : Nat} (h : i < l.length) : (zD l)[i]? = some (.string (l.getD i (0,ByteArray.empty)).2):=by simp [zD,h]
theorem FQ (k : Int) : ∀u∈[Value.int .i64 k],u.oneCell' = true:=fun u hu=>by simp at hu; subst hu; rfl
def ln (b : Nat) (m : DevM) : HP:=exi fun v : Value×Value×Value=>star [pts b (.cells #[v.1,v.2.1,v.2.2,.int .i64 m.fail,.int .i64 m.writes] 162 (0,0)),row 9 1 v.1 m.fl.length (strCells m.fl),row 3 1 v.2.1 m.pend.length (Ad m.pend),row 9 1 v.2.2 m.pend.length (zD m.pend)]
theorem AL {w : World} {b : Nat} {m : DevM} {R : List HP} (H : own w (ln b m::R)) : ∃vf va vw,own w (pts b (.cells #[vf,va,vw,.int .i64 m.fail,.int .i64 m.writes] 162 (0,0))::row 9 1 vf m.fl.length (strCells m.fl)::row 3 1 va m.pend.length (Ad m.pend)::row 9 1 vw m.pend.length (zD m.pend)::R):=by
 obtain ⟨v,h⟩:=EX 0 (L:=fun v : Value×Value×Value=>[pts b (.cells #[v.1,v.2.1,v.2.2,.int .i64 m.fail,.int .i64 m.writes] 162 (0,0)),row 9 1 v.1 m.fl.length (strCells m.fl),row 3 1 v.2.1 m.pend.length (Ad m.pend),row 9 1 v.2.2 m.pend.length (zD m.pend)]) H rfl fun h hh=>hh
 exact ⟨v.1,v.2.1,v.2.2,h⟩
theorem yA {w : World} {b : Nat} {m : DevM} {R : List HP} {vf va vw : Value} (H : own w (pts b (.cells #[vf,va,vw,.int .i64 m.fail,.int .i64 m.writes] 162 (0,0))::row 9 1 vf m.fl.length (strCells m.fl)::row 3 1 va m.pend.length (Ad m.pend)::row 9 1 vw m.pend.length (zD m.pend)::R)) : own w (ln b m::R):=
 Ed [pts b (.cells #[vf,va,vw,.int .i64 m.fail,.int .i64 m.writes] 162 (0,0)),row 9 1 vf m.fl.length (strCells m.fl),row 3 1 va m.pend.length (Ad m.pend),row 9 1 vw m.pend.length (zD m.pend)] (fun h hh=>⟨(vf,va,vw),hh⟩) H
theorem Eh (b : Nat) (m : DevM) (hm : m.Ok) (n : Int) (h1 : 0 <= n) (h2 : n < m.fl.length) (R : List SL.HP) (w : World) (H : own w (ln b m::R)) :
  Calls Tryz.prog 101 #[.pointer (some ⟨b,0,none⟩),.int .i64 n] w fun e w'=>e = .returned (.string (m.seen n)) /\ w = w':=by
 obtain ⟨vf,va,vw,h⟩:=AL H
 have hl1:=hm.n
 have hl2:=hm.p
 obtain ⟨k,rfl⟩:=ze h1
 obtain ⟨af,gf,cf,rfl,f1,f2,f3,-,-,f6,-⟩:=lk 1 h rfl
 obtain ⟨aa,ga,ca,rfl,a1,a2,a3,-,-,a6,-⟩:=lk 2 h rfl
 obtain ⟨aw,gw,cw,rfl,w1,w2,w3,-,-,w6,-⟩:=lk 3 h rfl
 obtain ⟨c,f⟩:=ld 0 h rfl
 have cl : w.cell? ⟨gf,k,none⟩ = some (.string (m.fl.getD k ByteArray.empty)):=f6 k _ (A0 (by omega))
 have A6:=zh a6
 have W6:=zh w6
 have A3:=zh a3
 have W3:=zh w3
 obtain rfl:=f3 (by omega)
 clear f3 f6 a3 a6 w3 w6
 go_enter Tryz.func101,Tryz.ntmps101
 go_wp2_with fail
 go_loop [5,6] (fun s i=>∃q : Nat,q <= m.pend.length /\ i = .int .i64 q /\ s = .string ((m.pend.take q).foldl (fun s x=>if x.1 = (k : Int) then x.2 else s) (m.fl.getD k ByteArray.empty))) (fun s i=>m.pend.length - (intOf i).toNat)
 case atStart=>exact ⟨0,Nat.zero_le _,rfl,rfl⟩
 case round=>
  obtain ⟨q,hq,rfl,rfl⟩:=hrel
  by_cases hlt : q < m.pend.length
  ·obtain rfl:=A3.out (by omega)
   obtain rfl:=W3.out (by omega)
   have c1:=A6.out q _ (Fh hlt)
   have c2:=W6.out q _ (En hlt)
   have hto:=yM (0,ByteArray.empty) hlt
   have HT:=zh hto
   clear hto
   generalize hx : m.pend.getD q (0,ByteArray.empty) = x at *
   clear hx
   generalize hg : (m.pend.take q).foldl (fun s x=>if x.1 = (k : Int) then x.2 else s) (m.fl.getD k ByteArray.empty) = t at *
   have HG:=zh hg
   clear hg
   by_cases he : x.1 = (k : Int)
   ·go_wp2_with fail
    go_round
    case rel=>exact ⟨q + 1,by omega,by go_num,by rw [HT.out,List.foldl_append,HG.out]; simp [he]⟩
    case measure=>simp [intOf]; omega
   ·go_wp2_with fail
    go_round
    case rel=>exact ⟨q + 1,by omega,by go_num,by rw [HT.out,List.foldl_append,HG.out]; simp [he]⟩
    case measure=>simp [intOf]; omega
  ·have hq' : q = m.pend.length:=by omega
   subst hq'
   rw [List.take_length]
   clear A6 W6
   go_wp2_with fail
   go_ret
   exact ⟨rfl,rfl⟩
theorem Sb (b : Nat) (m : DevM) (hm : m.Ok) (R : List SL.HP) (w : World) (H : own w (ln b m::R)) :
  Calls Tryz.prog 216 #[.pointer (some ⟨b,0,none⟩)] w fun e w'=>e = .returned (.string (cat m.fl)) /\ w = w':=by
 obtain ⟨vf,va,vw,h⟩:=AL H
 have hl1:=hm.n
 obtain ⟨af,gf,cf,rfl,f1,f2,f3,-,-,f6,-⟩:=lk 1 h rfl
 obtain ⟨c,f⟩:=ld 0 h rfl
 have F6:=zh f6
 have F3:=zh f3
 clear f3 f6
 go_enter Tryz.func216,Tryz.ntmps216
 go_wp2_with fail
 go_loop [3,4] (fun s i=>∃q : Nat,q <= m.fl.length /\ i = .int .i64 q /\ s = .string (cat (m.fl.take q))) (fun s i=>m.fl.length - (intOf i).toNat)
 case atStart=>exact ⟨0,Nat.zero_le _,rfl,rfl⟩
 case round=>
  obtain ⟨q,hq,rfl,rfl⟩:=hrel
  by_cases hlt : q < m.fl.length
  ·obtain rfl:=F3.out (by omega)
   have c1:=F6.out q _ (A0 hlt)
   have hto:=yM ByteArray.empty hlt
   have hsz : (cat (m.fl.take q)).size = q * 16:=by
    have:=B0 (l:=m.fl.take q) fun s hs=>hm.fl s (List.mem_of_mem_take hs)
    rw [List.length_take,Nat.min_eq_left (by omega)] at this
    simpa [cat,ByteArray.size] using this
   have hmem:=hm.fl (m.fl.getD q ByteArray.empty) (by simp [hlt])
   have hcat : cat (m.fl.take (q + 1)) = cat (m.fl.take q)++m.fl.getD q ByteArray.empty:=by
    rw [hto]
    apply Go.WideShapes.bytes_inj
    simp [cat,catL]
   have HC:=zh hcat
   clear hto hcat
   generalize m.fl.getD q ByteArray.empty = x at *
   generalize cat (m.fl.take q) = t at *
   go_wp2_with fail
   go_round
   case rel=>exact ⟨q + 1,by omega,by go_num,by rw [HC.out]⟩
   case measure=>simp [intOf]; omega
  ·have hq' : q = m.fl.length:=by omega
   subst hq'
   rw [List.take_length]
   clear F6
   go_wp2_with fail
   go_ret
   exact ⟨rfl,rfl⟩
end Go.Proofs.YtbpblokfiajpjabGreatDoor
namespace Go.Proofs.YtbpblokfiajpjabGreatDoor
open Go.RowKit Go.SL Go.Deep Go.ChangeShapes Go.WideShapes
theorem SlAt.later {v : Value} {n : Nat} {p q : Nat -> Nat -> Nat -> Prop} (h : SlAt v n p) (hpq : ∀b o i,p b o i -> q b o i) : SlAt v n q:=by
 obtain ⟨ao,b,off,cap,hv,h1,h2,h3,h4⟩:=h
 exact ⟨ao,b,off,cap,hv,h1,h2,h3,fun i hi=>hpq _ _ _ (h4 i hi)⟩
theorem yI.later {w w' : World} {v : Value} {ks : List Bool} (h : yI w v ks) {l : List HP} (k : Nat) (H : own w' l) (hk : l[k]? = some (y9 w)) : yI w' v ks:=
 SlAt.later h fun _ _ _ h=>BK k H hk h
theorem CO.later {w w' : World} {b o : Nat} {a : Act} (h : CO w b o a) {l : List HP} (k : Nat) (H : own w' l) (hk : l[k]? = some (y9 w)) : CO w' b o a:=by
 obtain ⟨h0,h1,h2,h3,h4,h5,h6⟩:=h
 exact ⟨BK k H hk h0,BK k H hk h1,BK k H hk h2,BK k H hk h3,BK k H hk h4,BK k H hk h5,BK k H hk h6⟩
theorem De.later {w w' : World} {v : Value} {l : List Act} (h : De w v l) {L : List HP} (k : Nat) (H : own w' L) (hk : L[k]? = some (y9 w)) : De w' v l:=
 ⟨SlAt.later h.1 fun _ _ _ h=>CO.later h k H hk,fun a ha=>{ h.2 a ha with keep:=(h.2 a ha).keep.later k H hk }⟩
theorem De.form {w : World} {v : Value} {l : List Act} (h : De w v l) : ∃ao b off cap,v = .slice ao l.length cap /\ l.length <= 9223372036854775807 /\ (0 < l.length -> ao = some ⟨b,off,none⟩) /\
  ∀i,i < l.length -> CO w b (off + i * 7) (l.getD i DC):=by
 obtain ⟨⟨ao,b,off,cap,hv,h1,h2,h3,h4⟩,_⟩:=h
 exact ⟨ao,b,off,cap,hv,by omega,h3,h4⟩
theorem BI {a b : ByteArray} (h : a.toList = b.toList) : a = b:=by
 rw [ByteArray.toList_eq,ByteArray.toList_eq] at h
 exact bytes_inj h
def B6 (w : World) (v : Value) (l : List ByteArray) : Prop:=
 SlAt v l.length (fun b off i=>w.cell? ⟨b,off + i,none⟩ = some (.string (l.getD i ByteArray.empty))) /\ ∀s∈l,s.size <= 9223372036854775807
theorem B6.form {w : World} {v : Value} {l : List ByteArray} (h : B6 w v l) : ∃ao b off cap,v = .slice ao l.length cap /\ l.length <= cap /\ cap <= 9223372036854775807 /\ (0 < l.length -> ao = some ⟨b,off,none⟩) /\
  ∀i,i < l.length -> w.cell? ⟨b,off + i,none⟩ = some (.string (l.getD i ByteArray.empty)):=by
 obtain ⟨⟨ao,b,off,cap,hv,h1,h2,h3,h4⟩,_⟩:=h
 exact ⟨ao,b,off,cap,hv,h1,h2,h3,h4⟩
section
variable {H : Type} {enc : TypeId×Value -> H} {w : World} {base : Nat} {spare : Nat -> Bool} {held : Bool}
end
theorem Ka {l : List ByteArray} {i : Nat} (hi : i < l.length) : l.getD i ByteArray.empty∈l:=by
 simp [hi]
end Go.Proofs.YtbpblokfiajpjabGreatDoor
namespace Go.Crc
def K : Nat:=3988292384
def st (s : Nat) : Nat:=if s % 2 = 1 then (s / 2) ^^^ K else s / 2
def stn : Nat -> Nat -> Nat
 | 0,s=>s
 | n + 1,s=>stn n (st s)
theorem U8 (n : Nat) : ∀s,stn (n + 1) s = st (stn n s):=by
 induction n with
 | zero=>intro s; rfl
 | succ n ih=>intro s; rw [stn,ih]; rfl
def EJ (s b : Nat) : Nat:=stn 8 (s ^^^ b)
def CV (s bit : Nat) : Nat:=if (s % 2) ^^^ bit = 1 then (s / 2) ^^^ K else s / 2
def crc (s : Nat) (l : List UInt8) : Nat:=l.foldl (fun s b=>EJ s b.toNat) s
def top : Nat:=4294967295
def Cp (l : List UInt8) : Nat:=crc top l ^^^ top
theorem N6 (a b : Nat) : (a ^^^ b) % 2 = (a % 2) ^^^ (b % 2):=by
 have h:=Nat.xor_mod_two_pow (a:=a) (b:=b) (n:=1)
 simpa using h
theorem Of (a b : Nat) : (a ^^^ b) / 2 = (a / 2) ^^^ (b / 2):=by
 have h:=Nat.xor_div_two_pow (a:=a) (b:=b) (n:=1)
 simpa using h
theorem IK {a b n : Nat} (ha : a < 2 ^ n) (hb : b < 2 ^ n) : a ^^^ b < 2 ^ n:=Nat.xor_lt_two_pow ha hb
theorem K_lt : K < 2 ^ 32:=by decide
theorem Vv {s : Nat} (h : s < 2 ^ 32) : st s < 2 ^ 32:=by
 unfold st
 split
 ·exact IK (by omega) K_lt
 ·omega
theorem T6 (n : Nat) : ∀{s : Nat},s < 2 ^ 32 -> stn n s < 2 ^ 32:=by
 induction n with
 | zero=>intro s h; exact h
 | succ n ih=>intro s h; exact ih (Vv h)
theorem OL {s b : Nat} (h : s < 2 ^ 32) (hb : b < 256) : EJ s b < 2 ^ 32:=T6 8 (IK h (by omega))
theorem Nq (l : List UInt8) : ∀{s : Nat},s < 2 ^ 32 -> crc s l < 2 ^ 32:=by
 induction l with
 | nil=>intro s h; exact h
 | cons b l ih=>intro s h; exact ih (OL h b.toNat_lt)
theorem Gh (s : Nat) (l m : List UInt8) : crc s (l++m) = crc (crc s l) m:=by simp [crc]
theorem QN (s : Nat) : s % 2 = 0 \/ s % 2 = 1:=by omega
theorem Kn (s bit : Nat) (hb : bit < 2) : CV s bit = st (s ^^^ bit):=by
 unfold CV st
 rw [N6,Of,Nat.mod_eq_of_lt hb,Nat.div_eq_of_lt hb,Nat.xor_zero]
theorem VN (s y : Nat) : st (s ^^^ (2 * y)) = st s ^^^ y:=by
 unfold st
 rw [N6,Of]
 simp only [Nat.mul_mod_right,Nat.xor_zero,Nat.mul_div_cancel_left y (show 0 < 2 by omega)]
 split
 ·rw [Nat.xor_assoc,Nat.xor_assoc,Nat.xor_comm y]
 ·rfl
theorem Wf (w : Nat) : (w % 2) ^^^ (2 * (w / 2)) = w:=by
 apply Nat.eq_of_testBit_eq
 intro i
 cases i with
 | zero=>simp [Nat.testBit_zero,Nat.testBit_xor]
 | succ i=>
  rw [Nat.testBit_xor,Nat.testBit_succ,Nat.testBit_succ,Nat.testBit_succ]
  simp
def run : Nat -> Nat -> Nat -> Nat
 | 0,s,_=>s
 | n + 1,s,w=>run n (CV s (w % 2)) (w / 2)
theorem Wg (n : Nat) : ∀(s w : Nat),w < 2 ^ n -> run n s w = stn n (s ^^^ w):=by
 induction n with
 | zero=>intro s w h; simp at h; subst h; simp [run,stn]
 | succ n ih=>
  intro s w h
  have h' : w / 2 < 2 ^ n:=by rw [Nat.pow_succ] at h; omega
  rw [run,ih _ _ h',Kn _ _ (by omega),stn,<- VN,Nat.xor_assoc,Wf]
def Eu (l : List UInt8) (i : Nat) : Nat:=((l.getD (i / 8) 0).toNat >>> (i % 8)) % 2
def bits (l : List UInt8) : Nat -> Nat -> Nat
 | 0,s=>s
 | k + 1,s=>CV (bits l k s) (Eu l k)
theorem S9 (l : List UInt8) (q : Nat) : ∀(k : Nat) (s : Nat),k <= 8 -> ∀s0,bits l (8 * q) s = s0 -> bits l (8 * q + k) s = run k s0 ((l.getD q 0).toNat % 2 ^ k):=by
 intro k
 induction k with
 | zero=>intro s _ s0 h; simpa [run] using h
 | succ k ih=>
  intro s hk s0 h
  rw [<- Nat.add_assoc,bits,ih s (by omega) s0 h]
  have hb : Eu l (8 * q + k) = ((l.getD q 0).toNat >>> k) % 2:=by
   unfold Eu
   rw [show (8 * q + k) / 8 = q by omega,show (8 * q + k) % 8 = k by omega]
  rw [hb]
  generalize (l.getD q 0).toNat = b
  clear ih h hb
  induction k generalizing s0 b with
  | zero=>simp [run,Nat.mod_one]
  | succ k ih=>
   rw [run,run]
   have e1 : b % 2 ^ (k + 1) / 2 = (b / 2) % 2 ^ k:=by
    rw [Nat.pow_succ,Nat.mul_comm,Nat.mod_mul_right_div_self]
   have e2 : b % 2 ^ (k + 1 + 1) / 2 = (b / 2) % 2 ^ (k + 1):=by
    rw [Nat.pow_succ,Nat.mul_comm,Nat.mod_mul_right_div_self]
   have e3 : b % 2 ^ (k + 1) % 2 = b % 2:=Nat.mod_mod_of_dvd _ ⟨2 ^ k,by rw [Nat.pow_succ,Nat.mul_comm]⟩
   have e4 : b % 2 ^ (k + 1 + 1) % 2 = b % 2:=Nat.mod_mod_of_dvd _ ⟨2 ^ (k + 1),by rw [Nat.pow_succ _ (k+1),Nat.mul_comm]⟩
   have e5 : b >>> (k + 1) = (b / 2) >>> k:=by rw [Nat.add_comm,Nat.shiftRight_add]; rfl
   rw [e1,e2,e3,e4,e5]
   exact ih (by omega) _ (b / 2)
theorem UR (l : List UInt8) (s : Nat) : ∀q,q <= l.length -> bits l (8 * q) s = crc s (l.take q):=by
 intro q
 induction q with
 | zero=>intro _; rfl
 | succ q ih=>
  intro hq
  have h:=S9 l q 8 s (Nat.le_refl _) _ (ih (by omega))
  rw [show 8 * (q + 1) = 8 * q + 8 by omega,h,Wg _ _ _ (Nat.mod_lt _ (by decide))]
  rw [List.take_succ_eq_append_getElem (by omega),Gh]
  have : (l.getD q 0) = l[q]'(by omega):=by simp [show q < l.length by omega]
  rw [this]
  simp only [crc,List.foldl_cons,List.foldl_nil,EJ]
  rw [Nat.mod_eq_of_lt (by have:=(l[q]'(by omega)).toNat_lt; omega)]
theorem UN (l : List UInt8) (s : Nat) : bits l (8 * l.length) s = crc s l:=by
 rw [UR l s _ (Nat.le_refl _),List.take_length]
theorem MU (l : List UInt8) (i : Nat) : Eu l i < 2:=by unfold Eu; omega
theorem Q6 {s b : Nat} (h : s < 2 ^ 32) (hb : b < 2) : CV s b < 2 ^ 32:=by
 rw [Kn _ _ hb]; exact Vv (IK h (by omega))
theorem VJ (l : List UInt8) (k : Nat) {s : Nat} (h : s < 2 ^ 32) : bits l k s < 2 ^ 32:=by
 induction k with
 | zero=>exact h
 | succ k ih=>exact Q6 ih (MU l k)
end Go.Crc
namespace Go.Proofs.YtbpblokfiajpjabGreatDoor
open Go.RowKit Go.SL Go.Crc
theorem and1 (s : Nat) (h : s < 2 ^ 32) : bits .and .u32 (s : Int) 1 = ((s % 2 : Nat) : Int):=by
 have:=u32_and_nat s 1 (by omega) (by omega)
 rw [Nat.and_one_is_mod] at this
 exact this
theorem Us (s b : Nat) (w : World) (hs : s < 2 ^ 32) (hb : b < 256) :
  Calls Tryz.prog 264 #[.int .u32 s,.int .u8 b] w fun e w'=>e = .returned (.int .u32 (EJ s b : Nat)) /\ w = w':=by
 go_enter Tryz.func264,Tryz.ntmps264
 have e0 : bits .xor .u32 (s : Int) (b : Int) = ((s ^^^ b : Nat) : Int):=u32_xor_nat s b (by omega) (by omega)
 have e00 : IntKind.u32.wrap (b : Int) = (b : Int):=IntWalk.u32_in _ (by omega)
 go_wp2_with fail
 go_loop [0,9] (fun t i=>∃k : Nat,k <= 8 /\ i = .int .i64 k /\ t = .int .u32 (stn k (s ^^^ b) : Nat)) (fun _ i=>8 - (intOf i).toNat)
 case atStart=>exact ⟨0,by omega,rfl,rfl⟩
 case round=>
  obtain ⟨k,hk,rfl,rfl⟩:=hrel
  have hv : stn k (s ^^^ b) < 2 ^ 32:=T6 k (IK hs (by omega))
  have HS:=zh (U8 k (s ^^^ b))
  clear e0 e00
  by_cases hlt : k < 8
  ·generalize stn k (s ^^^ b) = v at *
   have ea:=and1 v hv
   rcases QN v with hm | hm
   ·rw [hm] at ea
    go_wp2_with fail
    go_round
    case rel=>exact ⟨k + 1,by omega,by go_num,by rw [HS.out]; congr 1; unfold st; rw [zq (by omega)]; omega⟩
    case measure=>simp [intOf]; omega
   ·rw [hm] at ea
    have ex : bits .xor .u32 ((v : Int) / 2) 3988292384 = ((v / 2 ^^^ K : Nat) : Int):=u32_xor_nat (v / 2) K (by omega) (by decide)
    go_wp2_with fail
    go_round
    case rel=>exact ⟨k + 1,by omega,by go_num,by rw [HS.out]; congr 1; unfold st; rw [zt hm]⟩
    case measure=>simp [intOf]; omega
  ·obtain rfl : k = 8:=by omega
   go_wp2_with fail
   go_ret
   exact ⟨rfl,rfl⟩
theorem Md (s : ByteArray) (k : Nat) (h : k < s.size) : s.data.toList[k]? = some s[k]:=by
 rw [List.getElem?_eq_getElem (by simpa using h)]; rfl
theorem U2 (s0 : Nat) (s : ByteArray) (k : Nat) (h : k < s.size) : crc s0 (s.data.toList.take (k + 1)) = EJ (crc s0 (s.data.toList.take k)) s[k].toNat:=by
 rw [List.take_succ_eq_append_getElem (by simpa using h),Gh]
 rfl
theorem Vo (s0 : Nat) (s : ByteArray) : crc s0 (s.data.toList.take s.size) = crc s0 s.data.toList:=by
 rw [List.take_of_length_le (by simp)]
theorem UZ (s : Nat) (hs : s < 2 ^ 32) : bits .xor .u32 IntKind.u32.max (s : Int) = ((s ^^^ top : Nat) : Int):=by
 have:=u32_xor_nat top s (by decide) (by omega)
 rw [Nat.xor_comm] at this
 exact this
def Be (l : List ByteArray) : List UInt8:=l.flatMap fun s=>s.data.toList
theorem Qv (l : List ByteArray) (k : Nat) (h : k < l.length) : Be (l.take (k + 1)) = Be (l.take k)++(l.getD k ByteArray.empty).data.toList:=by
 rw [List.take_succ_eq_append_getElem h,Be,List.flatMap_append]
 simp [Be,h]
theorem NT (v : Value) (l : List ByteArray) (w : World) (hv : B6 w v l) :
  Calls Tryz.prog 244 #[v] w fun e w'=>e = .returned (.int .u32 (Cp (Be l) : Nat)) /\ w = w':=by
 obtain ⟨ao,b,off,cap,rfl,hc1,hc2,hao,hat⟩:=hv.form
 go_enter Tryz.func244,Tryz.ntmps244
 go_wp2_with fail
 go_loop [3,9] (fun v i=>∃k : Nat,k <= l.length /\ i = .int .i64 k /\ v = .int .u32 (crc top (Be (l.take k)) : Nat)) (fun _ i=>l.length - (intOf i).toNat)
 case atStart=>exact ⟨0,by omega,rfl,rfl⟩
 case round=>
  obtain ⟨k,hk,rfl,rfl⟩:=hrel
  have hv0:=Nq (Be (l.take k)) (s:=top) (by decide)
  by_cases hlt : k < l.length
  ·obtain rfl:=hao (by omega)
   have c5:=hat k hlt
   have hS:=hv.2 _ (Ka hlt)
   have HS:=zh (Qv l k hlt)
   have HC:=zh (Gh top (Be (l.take k)) (l.getD k ByteArray.empty).data.toList)
   clear hv hat hao
   generalize l.getD k ByteArray.empty = x at *
   generalize crc top (Be (l.take k)) = s0 at *
   go_wp2_with fail
   go_loop [3,15] (fun v i=>∃j : Nat,j <= x.size /\ i = .int .i64 j /\ v = .int .u32 (crc s0 (x.data.toList.take j) : Nat)) (fun _ i=>x.size - (intOf i).toNat)
   case atStart=>exact ⟨0,by omega,rfl,rfl⟩
   case round=>
    obtain ⟨j,hj,rfl,rfl⟩:=hrel
    have hv:=Nq (x.data.toList.take j) hv0
    by_cases hlt2 : j < x.size
    ·have HS2:=zh (U2 s0 x j hlt2)
     have hb : (x[j]'hlt2).toNat < 256:=(x[j]'hlt2).toNat_lt
     generalize crc s0 (x.data.toList.take j) = v at *
     go_wp2_with fail
     refine (Us v _ _ hv hb).mono ?_
     rintro e w' ⟨rfl,rfl⟩
     go_wp2_with fail
     go_round
     case rel=>exact ⟨j + 1,by omega,by go_num,by rw [HS2.out]⟩
     case measure=>simp [intOf]; omega
    ·obtain rfl : j = x.size:=by omega
     have HF:=zh (Vo s0 x)
     generalize crc s0 (x.data.toList.take x.size) = v at *
     go_wp2_with fail
     go_round
     case rel=>exact ⟨k + 1,by omega,by go_num,by rw [HS.out,HC.out,HF.out]⟩
     case measure=>simp [intOf]; omega
  ·obtain rfl : k = l.length:=by omega
   have HF : Hid (crc top (Be (l.take l.length)) = crc top (Be l)):=zh (by rw [List.take_length])
   generalize crc top (Be (l.take l.length)) = v at *
   have ef:=UZ v hv0
   clear hv hat hao
   go_wp2_with fail
   go_ret
   exact ⟨A4 (by rw [HF.out]; rfl),rfl⟩
theorem TP (t : ByteArray) (i : Nat) (h : i / 8 < t.size) : Eu t.data.toList i = (t[i / 8].toNat >>> (i % 8)) % 2:=by
 unfold Eu
 have : t.data.toList.getD (i / 8) 0 = t[i / 8]:=by
  rw [List.getD_eq_getElem?_getD,Md t _ h]; rfl
 rw [this]
theorem JO (t : ByteArray) (w : World) (ht : t.size <= 1000000) :
  Calls Tryz.prog 246 #[.string t] w fun e w'=>e = .returned (.int .u32 (Cp t.data.toList : Nat)) /\ w = w':=by
 go_enter Tryz.func246,Tryz.ntmps246
 go_wp2_with fail
 go_loop [3,4] (fun v i=>∃k : Nat,k <= 8 * t.size /\ i = .int .i64 k /\ v = .int .u32 (Crc.bits t.data.toList k top : Nat)) (fun _ i=>8 * t.size - (intOf i).toNat)
 case atStart=>exact ⟨0,by omega,rfl,rfl⟩
 case round=>
  obtain ⟨k,hk,rfl,rfl⟩:=hrel
  have hv:=VJ t.data.toList k (s:=top) (by decide)
  by_cases hlt : k < 8 * t.size
  ·have hq : k / 8 < t.size:=by omega
   have HS : Hid (Crc.bits t.data.toList (k + 1) top = CV (Crc.bits t.data.toList k top) (Eu t.data.toList k)):=rfl
   have hbl:=MU t.data.toList k
   have HB:=zh (TP t k hq)
   generalize Eu t.data.toList k = bb at *
   generalize Crc.bits t.data.toList k top = v at *
   have hby:=(t[k / 8]'hq).toNat_lt
   have el : bits .xor .u32 (bits .and .u32 (v : Int) 1) (bits .and .u32 (((t[k / 8]'hq).toNat : Int) / 2 ^ (k % 8) % 4294967296) 1) = ((v % 2 ^^^ bb : Nat) : Int):=by
    rw [and1 v hv]
    have e2 : (((t[k / 8]'hq).toNat : Int) / 2 ^ (k % 8) % 4294967296) = (((t[k / 8]'hq).toNat >>> (k % 8) % 4294967296 : Nat) : Int):=by
     rw [Nat.shiftRight_eq_div_pow,Int.natCast_emod,Int.natCast_ediv,Int.natCast_pow]
     rfl
    rw [e2,and1 _ (by omega),u32_xor_nat _ _ (by omega) (by omega)]
    congr 2
    rw [HB.out,Nat.mod_mod_of_dvd _ (by decide)]
   have hx2 : v % 2 ^^^ bb = 0 \/ v % 2 ^^^ bb = 1:=by
    have:=Nat.xor_lt_two_pow (x:=v % 2) (y:=bb) (n:=1) (by omega) (by omega)
    omega
   rcases hx2 with hx2 | hx2
   ·have el0:=el
    rw [hx2] at el0
    have HX:=zh hx2
    clear el hx2
    go_wp2_with fail
    go_round
    case rel=>exact ⟨k + 1,by omega,by go_num,by rw [HS.out]; congr 1; unfold CV; rw [HX.out,zq (by omega)]; omega⟩
    case measure=>simp [intOf]; omega
   ·have el0:=el
    rw [hx2] at el0
    have HX:=zh hx2
    have ex : bits .xor .u32 ((v : Int) / 2) 3988292384 = ((v / 2 ^^^ K : Nat) : Int):=u32_xor_nat (v / 2) K (by omega) (by decide)
    clear el hx2
    go_wp2_with fail
    go_round
    case rel=>exact ⟨k + 1,by omega,by go_num,by rw [HS.out]; congr 1; unfold CV; rw [HX.out,zt rfl]⟩
    case measure=>simp [intOf]; omega
  ·obtain rfl : k = 8 * t.size:=by omega
   have HF : Hid (Crc.bits t.data.toList (8 * t.size) top = crc top t.data.toList):=zh (by
    have:=UN t.data.toList top
    rwa [show t.data.toList.length = t.size by simp] at this)
   generalize Crc.bits t.data.toList (8 * t.size) top = v at *
   have ef : bits .xor .u32 (v : Int) 4294967295 = ((v ^^^ top : Nat) : Int):=u32_xor_nat v top (by omega) (by decide)
   go_wp2_with fail
   go_ret
   exact ⟨A4 (by rw [HF.out]; rfl),rfl⟩
def le32 (s : Nat) : List UInt8:=[UInt8.ofNat s,UInt8.ofNat (s / 256),UInt8.ofNat (s / 65536),UInt8.ofNat (s / 16777216)]
theorem GE (s : Nat) (R : List HP) (w : World) (hs : s < 2 ^ 32) (H : own w R) :
  Calls Tryz.prog 243 #[.int .u32 s] w fun e w'=>e = .returned (.string ⟨(le32 s).toArray⟩) /\ Ext w w' /\ own w' R:=by
 go_enter Tryz.func243,Tryz.ntmps243
 go_wp2_with fail
 have ha:=li H (.cells #[.int .u8 ((s : Int) % 256),.int .u8 ((s : Int) / 256 % 256),.int .u8 ((s : Int) / 65536 % 256),.int .u8 ((s : Int) / 16777216)] 5)
 obtain ⟨c,f⟩:=ld 0 ha rfl
 rw [run_convert_bytes_arg _ 211 5 Tryz.underlying211 Tryz.underlying5 _ 0 4 4 [(s : Int) % 256,(s : Int) / 256 % 256,(s : Int) / 65536 % 256,(s : Int) / 16777216] rfl
  (fun i hi=>by rw [c]; match i,hi with | 0,_=>rfl | 1,_=>rfl | 2,_=>rfl | 3,_=>rfl) _ Tryz.underlying9]
 go_wp2_with fail
 go_ret
 refine ⟨VQ ?_,(zR _).alloc _,le ha⟩
 unfold strOfNums le32
 simp only [List.map_cons,List.map_nil]
 have e (n : Nat) : UInt8.ofNat ((n : Int)).toNat = UInt8.ofNat n:=by simp
 have h0 : UInt8.ofNat ((s : Int) % 256).toNat = UInt8.ofNat s:=by
  rw [show ((s : Int) % 256).toNat = s % 256 by omega]
  apply UInt8.toNat_inj.1; simp
 have h1 : UInt8.ofNat ((s : Int) / 256 % 256).toNat = UInt8.ofNat (s / 256):=by
  rw [show ((s : Int) / 256 % 256).toNat = s / 256 % 256 by omega]
  apply UInt8.toNat_inj.1; simp
 have h2 : UInt8.ofNat ((s : Int) / 65536 % 256).toNat = UInt8.ofNat (s / 65536):=by
  rw [show ((s : Int) / 65536 % 256).toNat = s / 65536 % 256 by omega]
  apply UInt8.toNat_inj.1; simp
 have h3 : UInt8.ofNat ((s : Int) / 16777216).toNat = UInt8.ofNat (s / 16777216):=by
  rw [show ((s : Int) / 16777216).toNat = s / 16777216 by omega]
 rw [h0,h1,h2,h3]
end Go.Proofs.YtbpblokfiajpjabGreatDoor
namespace Go.Proofs.YtbpblokfiajpjabGreatDoor
open Go.RowKit Go.SL Go.Crc
attribute [local go_sem ↓] Go.wp_at_zero Go.wp_at_succ
theorem VM (s : Nat) (l : List Int) (h : l = [(s : Int) % 256,(s : Int) / 256 % 256,(s : Int) / 65536 % 256,(s : Int) / 16777216]) : strOfNums l = ⟨(le32 s).toArray⟩:=by
 subst h
 unfold strOfNums le32
 simp only [List.map_cons,List.map_nil]
 have h0 : UInt8.ofNat ((s : Int) % 256).toNat = UInt8.ofNat s:=by
  rw [show ((s : Int) % 256).toNat = s % 256 by omega]
  apply UInt8.toNat_inj.1; simp
 have h1 : UInt8.ofNat ((s : Int) / 256 % 256).toNat = UInt8.ofNat (s / 256):=by
  rw [show ((s : Int) / 256 % 256).toNat = s / 256 % 256 by omega]
  apply UInt8.toNat_inj.1; simp
 have h2 : UInt8.ofNat ((s : Int) / 65536 % 256).toNat = UInt8.ofNat (s / 65536):=by
  rw [show ((s : Int) / 65536 % 256).toNat = s / 65536 % 256 by omega]
  apply UInt8.toNat_inj.1; simp
 have h3 : UInt8.ofNat ((s : Int) / 16777216).toNat = UInt8.ofNat (s / 16777216):=by
  rw [show ((s : Int) / 16777216).toNat = s / 16777216 by omega]
 rw [h0,h1,h2,h3]
theorem JX (s : Nat) (R : List SL.HP) (w : World) (hs : s < 2 ^ 32) (H : own w R) :
  Calls Tryz.prog 245 #[.int .u32 s] w fun e w'=>e = .returned (.string ⟨(le32 s).toArray⟩) /\ Ext w w' /\ own w' R:=by
 have r1 : ((s : Int)).tmod 256 = (s : Int) % 256:=Int.tmod_eq_emod_of_nonneg (by omega)
 have r2 : ((s : Int) / 256).tmod 256 = (s : Int) / 256 % 256:=Int.tmod_eq_emod_of_nonneg (by omega)
 have r3 : ((s : Int) / 65536).tmod 256 = (s : Int) / 65536 % 256:=Int.tmod_eq_emod_of_nonneg (by omega)
 go_enter Tryz.func245,Tryz.ntmps245
 go_wp2_with fail
 have ha:=li H (.cells #[.int .u8 ((s : Int) % 256),.int .u8 ((s : Int) / 256 % 256),.int .u8 ((s : Int) / 65536 % 256),.int .u8 ((s : Int) / 16777216)] 5)
 obtain ⟨c,f⟩:=ld 0 ha rfl
 rw [run_convert_bytes_arg _ 211 5 Tryz.underlying211 Tryz.underlying5 _ 0 4 4 [(s : Int) % 256,(s : Int) / 256 % 256,(s : Int) / 65536 % 256,(s : Int) / 16777216] rfl
  (fun i hi=>by rw [c]; match i,hi with | 0,_=>rfl | 1,_=>rfl | 2,_=>rfl | 3,_=>rfl) _ Tryz.underlying9,VM s _ rfl]
 go_wp2_with fail
 go_ret
 exact ⟨rfl,(zR _).alloc _,le ha⟩
def byteCells (xs : List Int) : List Value:=xs.map (Value.int .u8)
theorem EI {w : World} {L : List SL.HP} (k : Nat) {v : Value} {xs : List Int} {n : Nat} (hn : xs.length = n) (H : own w L) (hk : L[k]? = some (row 5 1 v n (byteCells xs))) (hp : 0 < n) :
  (convert 211 9 v).run Tryz.prog w = .ok (.string (strOfNums xs)) w:=by
 obtain ⟨ao,g,cap,rfl,h1,h2,h3,-,-,h6,-⟩:=lk k H hk
 obtain rfl:=h3 hp
 exact run_convert_bytes_arg (P:=Tryz.prog) w 211 5 Tryz.underlying211 Tryz.underlying5 g 0 n cap xs hn (fun i hi=>by
  rw [Nat.zero_add]
  exact h6 i _ (by simp [byteCells,show i < xs.length by omega])) 9 Tryz.underlying9
def AY (xs : List Int) : ByteArray:=strOfNums xs++zs (12 - xs.length)
def Fv (xs : List Int) : ByteArray:=AY xs++⟨(le32 (Cp (AY xs).data.toList)).toArray⟩
theorem TJ (c : Nat) : (⟨(Lib.repeatL (⟨#[0]⟩ : ByteArray).data.toList c).toArray⟩ : ByteArray) = zs c:=by
 unfold zs
 congr 2
 induction c with
 | zero=>rfl
 | succ c ih=>rw [List.replicate_succ,<- ih]; simp [Lib.repeatL,List.replicate_succ]
theorem FI {xs : List Int} (h : xs.length <= 12) : (AY xs).size = 12:=by
 rw [AY,ByteArray.size_append,strOfNums_size,EF]; omega
theorem NL {w : World} {L : List SL.HP} (k : Nat) {b : Nat} {t : ByteArray} {T : TypeId} (H : own w L) (hk : L[k]? = some (pts b (.cells #[.string t] T (0,0)))) (ht : t.size <= 9223372036854775807) : B6 w (.slice (some ⟨b,0,none⟩) 1 1) [t]:=
 ⟨⟨_,b,0,1,rfl,Nat.le_refl _,by omega,fun _=>rfl,fun i hi=>by
  have : i = 0:=by simpa using hi
  subst this
  dsimp only
  rw [Nat.zero_add,(ld k H hk).1]
  rfl⟩,fun s hs=>by simp at hs; subst hs; exact ht⟩
theorem KY (l : List UInt8) : Cp l < 2 ^ 32:=IK (Nq _ (by decide)) (by decide)
theorem Pr (c : Nat) (hc : c <= 1000) (w : World) : Calls Tryz.prog 154 #[.string ⟨#[0]⟩,.int .i64 c] w fun e w2=>e = .returned (.string (zs c)) /\ Below w.heap.size w w2:=by
 have hs : (⟨#[0]⟩ : ByteArray).size = 1:=rfl
 have h:=Tryz.strings_Repeat ⟨#[0]⟩ c w (by omega) (by rw [hs]; omega)
 rw [TJ] at h
 exact h
theorem KW (v : Value) (xs : List Int) (n : Nat) (hn : xs.length = n) (h0 : 0 < n) (h12 : n <= 12) (R : List SL.HP) (w : World) (H : own w (row 5 1 v n (byteCells xs)::R)) :
  Calls Tryz.prog 237 #[v] w fun e w'=>e = .returned (.string (Fv xs)) /\ Ext w w' /\ own w' R:=by
 have hc0:=EI 0 hn (lj H) rfl h0
 obtain ⟨ao,g,cap,rfl,r1,r2,-,-,-,-,-⟩:=lk 0 H rfl
 have e12 : IntKind.i64.wrap (12 - (n : Int)) = ((12 - n : Nat) : Int):=by rw [zi _ (by omega)]; omega
 have hsz1 : (strOfNums xs).size = n:=by rw [strOfNums_size,hn]
 have hsz2 : (zs (12 - n)).size = 12 - n:=EF _
 go_enter Tryz.func237,Tryz.ntmps237
 go_upto_region 1 with (fail)
 go_region_held3 (fun w'=>(convert 211 9 (.slice ao n cap)).run Tryz.prog w' = .ok (.string (strOfNums xs)) w') (first | exact hc0 | exact hc2) ((go_at_call 154; refine (Pr (12 - n) (by omega) _).mono ?_; rintro e w2 ⟨rfl,hb2⟩; have h2:=Fw (lj H) hb2; have hc2:=EI 0 hn h2 rfl h0))
 have hu : strOfNums xs++zs (12 - n) = AY xs:=by rw [AY,hn]
 have hz:=FI (xs:=xs) (by omega)
 rw [hu]
 have hseal : Fv xs = AY xs++⟨(le32 (Cp (AY xs).data.toList)).toArray⟩:=rfl
 have HS:=zh hseal
 clear hu hsz1 hsz2 hc0 hc2 hseal
 generalize AY xs = u at *
 have hx2 : Ext w w2:=(zR w).drew.trans (Fu hb2)
 have ha:=li h2 (.cells #[.string u] 9)
 have hx3:=hx2.alloc (.cells #[.string u] 9)
 have hst:=NL 0 ha rfl (by omega)
 go_wp2_with fail
 generalize w2.heap.size = p at *
 generalize w2.alloc (.cells #[.string u] 9) = w3 at *
 refine (NT _ [u] w3 hst).mono ?_
 rintro e w4 ⟨rfl,rfl⟩
 have hj : Be [u] = u.data.toList:=by simp [Be]
 rw [hj]
 have hlt:=KY u.data.toList
 generalize Cp u.data.toList = S at *
 clear hst hj
 go_wp2_with fail
 refine (GE S _ w3 hlt ha).mono ?_
 rintro e w5 ⟨rfl,hx5,h5⟩
 have hs4 : (⟨(le32 S).toArray⟩ : ByteArray).size = 4:=rfl
 generalize (⟨(le32 S).toArray⟩ : ByteArray) = t at *
 go_wp2_with fail
 go_ret
 exact ⟨by rw [HS.out]; rfl,hx3.trans hx5,le (le h5)⟩
theorem Mz (xs : List Int) (k : Nat) : strOfNums (xs++List.replicate k 0) = strOfNums xs++zs k:=by
 apply Go.WideShapes.bytes_inj
 simp [strOfNums,zs]
def UQ (xs : List Int) (n : Nat) (R : List SL.HP) (w0 : World) (v : Value) (wr : World) : Prop:=
 ∃k : Nat,n <= k /\ k <= 12 /\ Ext w0 wr /\ own wr (row 5 1 v k (byteCells (xs++List.replicate (k - n) 0))::R)
def I7 : Value -> Nat
 | .slice _ k _=>k
 | _=>0
theorem Vp (k : Int) : ∀u∈[Value.int .u8 k],u.oneCell' = true:=fun u hu=>by simp at hu; subst hu; rfl
theorem Jo (v : Value) (xs : List Int) (n : Nat) (hn : xs.length = n) (h12 : n <= 12) (R : List SL.HP) (w : World) (H : own w (row 5 1 v n (byteCells xs)::R)) :
  Calls Tryz.prog 239 #[v] w fun e w'=>e = .returned (.string (Fv xs)) /\ Ext w w' /\ own w' R:=by
 obtain ⟨ao,g,cap,rfl,r1,r2,-,-,-,-,-⟩:=lk 0 H rfl
 go_enter Tryz.func239,Tryz.ntmps239
 go_wp2_with fail
 go_loopw [0] (UQ xs n R w) (fun v _=>12 - I7 v)
 case atStart=>exact ⟨n,Nat.le_refl _,h12,zR _,by simpa using H⟩
 case round=>
  obtain ⟨k,hk1,hk2,hxr,hown⟩:=hrel
  obtain ⟨a1,g1,c1,rfl,q1,q2,-,-,-,-,-⟩:=lk 0 hown rfl
  by_cases hlt : k < 12
  ·have hml : k + 1 <= maxLen:=by simp only [maxLen]; omega
   have ha:=li hown (.cells #[.int .u8 0] 5)
   go_wp2_with (first | (at_builtin; refine lD rfl _ _ 211 rfl 1 5 Tryz.underlying211 BC rfl (by decide) rfl ha rfl (some ⟨wr.heap.size,0,none⟩) 1 1 [.int .u8 0] rfl rfl (ot wr [.int .u8 0] _) (fun h=>by cases h) (Vp _) hml (by omega) ?_))
   intro v4 w4 h4 hx4
   obtain ⟨a4,g4,c4,rfl,q4,q5,-,-,-,-,-⟩:=lk 1 h4 rfl
   go_wp2_with fail
   go_roundw
   case rel=>
    refine ⟨k + 1,by omega,by omega,(hxr.alloc _).trans hx4,?_⟩
    have h5:=le h4
    have e : byteCells (xs++List.replicate (k + 1 - n) 0) = byteCells (xs++List.replicate (k - n) 0)++[.int .u8 0]:=by
     rw [show k + 1 - n = (k - n) + 1 from by omega,List.replicate_succ']
     simp [byteCells]
    rw [e]
    exact h5
   case measure=>simp [I7]; omega
  ·have hk : k = 12:=by omega
   subst hk
   have hd:=lj hown
   have hconv : ∀w',own w' (row 5 1 (.slice a1 12 c1) 12 (byteCells (xs++List.replicate (12 - n) 0))::R) -> (convert 211 9 (.slice a1 12 c1)).run Tryz.prog w' = .ok (.string (AY xs)) w':=fun w' h=>by
    have:=EI 0 (by simp [hn]; omega) h rfl (by omega)
    rw [Mz,show strOfNums xs++zs (12 - n) = AY xs from by rw [AY,hn]] at this
    exact this
   have HC:=zh hconv
   clear hconv
   have hz:=FI (xs:=xs) (by omega)
   have hseal : Fv xs = AY xs++⟨(le32 (Cp (AY xs).data.toList)).toArray⟩:=rfl
   have HS:=zh hseal
   clear hseal
   generalize AY xs = u at *
   have hlts:=KY u.data.toList
   have hs4 : ∀S,(⟨(le32 S).toArray⟩ : ByteArray).size = 4:=fun _=>rfl
   generalize hS : Cp u.data.toList = S at *
   have HSS:=zh hS
   clear hS
   have hs4':=hs4 S
   clear hs4
   generalize ht : (⟨(le32 S).toArray⟩ : ByteArray) = t at *
   have HT:=zh ht
   clear ht
   go_upto_region 3 with (fail)
   go_region_held3 (fun w'=>(convert 211 9 (.slice a1 12 c1)).run Tryz.prog w' = .ok (.string u) w') (first | exact HC.out _ hd | exact HC.out _ h2) (first | (go_at_call 246; refine (JO u _ (by omega)).mono ?_; rw [HSS.out]; rintro e w' ⟨rfl,rfl⟩) | (go_at_call 245; refine (JX S _ _ hlts hd).mono ?_; rw [HT.out]; rintro e w2 ⟨rfl,hx2,h2⟩))
   go_wp2_with fail
   go_ret
   exact ⟨by rw [HS.out]; rfl,hxr.drew.trans hx2,le h2⟩
def Fm (u : ByteArray) : ByteArray:=⟨(le32 (Cp u.data.toList)).toArray⟩
def zA (s : ByteArray) : Int:=if s.size≠16 then 1 else if Fm (s.extract 0 12)≠s.extract 12 16 then 3 else 0
theorem Ey (s : ByteArray) (hs : s.size <= 9223372036854775807) (R : List SL.HP) (w : World) (H : own w R) :
  Calls Tryz.prog 202 #[.string s] w fun e w'=>e = .returned (.int .i64 (zA s)) /\ Ext w w' /\ own w' R:=by
 by_cases h16 : s.size = 16
 ·have hd:=lj H
  have hsz : (s.extract 0 12).size = 12:=by simp [ByteArray.size_extract,h16]
  have hO : zA s = if Fm (s.extract 0 12)≠s.extract 12 16 then 3 else 0:=by rw [zA,zq (by omega)]
  rw [hO]
  have h16' : (s.size : Int) = 16:=by omega
  have hsl1 : ∀wx : World,(Instr.slice 9 (.string s) none (some (.int .i64 12)) none).run Tryz.prog wx = .ok (.string (s.extract 0 12)) wx:=fun wx=>by
   simp [Instr.slice,Instr.sliceBounds,Instr.sliceBound,asIntOf,run_underlying Tryz.underlying9,h16]
  have hsl2 : ∀wx : World,(Instr.slice 9 (.string s) (some (.int .i64 12)) none none).run Tryz.prog wx = .ok (.string (s.extract 12 16)) wx:=fun wx=>by
   simp [Instr.slice,Instr.sliceBounds,Instr.sliceBound,asIntOf,run_underlying Tryz.underlying9,h16]
  have hlts:=KY (s.extract 0 12).data.toList
  have hst : Fm (s.extract 0 12) = ⟨(le32 (Cp (s.extract 0 12).data.toList)).toArray⟩:=rfl
  generalize Fm (s.extract 0 12) = t at *
  generalize s.extract 0 12 = u at *
  generalize s.extract 12 16 = v at *
  generalize hS : Cp u.data.toList = S at *
  have HSS:=zh hS
  have HT:=zh hst
  clear hS hst
  by_cases hb : t = v
  ·subst hb
   rw [zq (by simp)]
   go_enter Tryz.func202,Tryz.ntmps202
   go_upto_region 3 with (fail)
   go_region_held3 (fun _=>True) (trivial) (first | (go_at_call 246; refine (JO u _ (by omega)).mono ?_; rw [HSS.out]; rintro e w' ⟨rfl,rfl⟩) | (go_at_call 245; refine (JX S _ _ hlts hd).mono ?_; rw [<- HT.out]; rintro e w2 ⟨rfl,hx2,h2⟩))
   go_wp2_with fail
   go_ret
   exact ⟨rfl,(zR w).drew.trans hx2,h2⟩
  ·rw [zt hb]
   have hne : (t.toList == v.toList) = false:=by simpa using fun h=>hb (BI h)
   go_enter Tryz.func202,Tryz.ntmps202
   go_upto_region 3 with (fail)
   go_region_held3 (fun _=>True) (trivial) (first | (go_at_call 246; refine (JO u _ (by omega)).mono ?_; rw [HSS.out]; rintro e w' ⟨rfl,rfl⟩) | (go_at_call 245; refine (JX S _ _ hlts hd).mono ?_; rw [<- HT.out]; rintro e w2 ⟨rfl,hx2,h2⟩))
   go_wp2_with fail
   go_ret
   exact ⟨rfl,(zR w).drew.trans hx2,h2⟩
 ·rw [zA,zt h16]
  go_enter Tryz.func202,Tryz.ntmps202
  go_wp2_with fail
  go_ret
  exact ⟨rfl,zR _,H⟩
def MM (s : ByteArray) : ByteArray:=if zA s = 0 then s.extract 0 12 else ByteArray.empty
theorem Gy (s : ByteArray) (hs : s.size <= 9223372036854775807) (R : List SL.HP) (w : World) (H : own w R) :
  Calls Tryz.prog 198 #[.string s] w fun e w'=>e = .returned (.tuple #[.string (MM s),errV (zA s)]) /\ Ext w w' /\ own w' R:=by
 rw [MM]
 by_cases h16 : s.size = 16
 ·have hd:=lj H
  have hsz : (s.extract 0 12).size = 12:=by simp [ByteArray.size_extract,h16]
  have hO : zA s = if Fm (s.extract 0 12)≠s.extract 12 16 then 3 else 0:=by rw [zA,zq (by omega)]
  rw [hO]
  have h16' : (s.size : Int) = 16:=by omega
  have hsl1 : ∀wx : World,(Instr.slice 9 (.string s) none (some (.int .i64 12)) none).run Tryz.prog wx = .ok (.string (s.extract 0 12)) wx:=fun wx=>by
   simp [Instr.slice,Instr.sliceBounds,Instr.sliceBound,asIntOf,run_underlying Tryz.underlying9,h16]
  have hsl2 : ∀wx : World,(Instr.slice 9 (.string s) (some (.int .i64 12)) none none).run Tryz.prog wx = .ok (.string (s.extract 12 16)) wx:=fun wx=>by
   simp [Instr.slice,Instr.sliceBounds,Instr.sliceBound,asIntOf,run_underlying Tryz.underlying9,h16]
  have hlts:=KY (s.extract 0 12).data.toList
  have hst : Fm (s.extract 0 12) = ⟨(le32 (Cp (s.extract 0 12).data.toList)).toArray⟩:=rfl
  generalize Fm (s.extract 0 12) = t at *
  generalize s.extract 0 12 = u at *
  generalize s.extract 12 16 = v at *
  have hj : Be [u] = u.data.toList:=by simp [Be]
  rw [<- hj] at hst hlts
  clear hj
  generalize hS : Cp (Be [u]) = S at *
  have HSS:=zh hS
  have HT:=zh hst
  clear hS hst
  have ha:=li hd (.cells #[.string u] 9)
  have hst1:=NL 0 ha rfl (by omega)
  by_cases hb : t = v
  ·subst hb
   rw [zq (show ¬(t≠t) from fun h=>h rfl)]
   go_enter Tryz.func198,Tryz.ntmps198
   go_upto_region 4 with (fail)
   go_region_held3 (fun _=>True) (trivial) (first | (go_at_call 244; refine (NT _ [u] _ hst1).mono ?_; rw [HSS.out]; rintro e w' ⟨rfl,rfl⟩) | (go_at_call 243; refine (GE S _ _ hlts ha).mono ?_; rw [<- HT.out]; rintro e w2 ⟨rfl,hx2,h2⟩))
   go_wp2_with fail
   go_ret2
   exact ⟨rfl,((zR w).drew.alloc _).trans hx2,le h2⟩
  ·rw [zt hb]
   have hne : (t.toList == v.toList) = false:=by simpa using fun h=>hb (BI h)
   go_enter Tryz.func198,Tryz.ntmps198
   go_upto_region 4 with (fail)
   go_region_held3 (fun _=>True) (trivial) (first | (go_at_call 244; refine (NT _ [u] _ hst1).mono ?_; rw [HSS.out]; rintro e w' ⟨rfl,rfl⟩) | (go_at_call 243; refine (GE S _ _ hlts ha).mono ?_; rw [<- HT.out]; rintro e w2 ⟨rfl,hx2,h2⟩))
   go_wp2_with fail
   go_ret2
   exact ⟨rfl,((zR w).drew.alloc _).trans hx2,le h2⟩
 ·have hO : zA s = 1:=by rw [zA,zt h16]
  rw [hO]
  go_enter Tryz.func198,Tryz.ntmps198
  go_wp2_with fail
  go_ret2
  exact ⟨rfl,zR _,H⟩
def lM (c p b : Int) : Value:=.agg #[.int .i64 c,.int .i64 p,.int .i64 b]
def lF (c p b : Int) : Prop:=c < 1 \/ 32 < c \/ p < 0 \/ 40 < p \/ b < -1 \/ 4 < b
instance (c p b : Int) : Decidable (lF c p b):=by unfold lF; infer_instance
def yu (c p b : Int) : Int:=if lF c p b then 1 else 0
theorem Ay (c p b : Int) (R : List SL.HP) (w : World) (H : own w R) :
  Calls Tryz.prog 125 #[lM c p b] w fun e w'=>e = .returned (errV (yu c p b)) /\ Ext w w' /\ own w' R:=by
 have ha:=li H (.cells #[.int .i64 c,.int .i64 p,.int .i64 b] 103)
 obtain ⟨cc,ff⟩:=ld 0 ha rfl
 by_cases h : lF c p b
 ·have e : yu c p b = 1:=zt h
  rw [e]
  clear e
  unfold lF at h
  unfold lM
  go_enter Tryz.func125,Tryz.ntmps125
  go_wp2_with fail
  all_goals go_ret
  all_goals exact ⟨rfl,(zR _).alloc _,le ha⟩
 ·have e : yu c p b = 0:=zq h
  rw [e]
  clear e
  unfold lF at h
  unfold lM
  have h1 : 1 <= c:=by omega
  have h2 : c <= 32:=by omega
  have h3 : 0 <= p:=by omega
  have h4 : p <= 40:=by omega
  have h5 : -1 <= b:=by omega
  have h6 : b <= 4:=by omega
  clear h
  go_enter Tryz.func125,Tryz.ntmps125
  go_wp2_with fail
  all_goals go_ret
  all_goals exact ⟨rfl,(zR _).alloc _,le ha⟩
theorem zy (c p b : Int) (R : List SL.HP) (w : World) (H : own w R) :
  Calls Tryz.prog 129 #[lM c p b] w fun e w'=>e = .returned (.int .i64 (yu c p b)) /\ Ext w w' /\ own w' R:=by
 have ha:=li H (.cells #[.int .i64 c,.int .i64 p,.int .i64 b] 103)
 obtain ⟨cc,ff⟩:=ld 0 ha rfl
 by_cases h : lF c p b
 ·have e : yu c p b = 1:=zt h
  rw [e]
  clear e
  unfold lF at h
  unfold lM
  go_enter Tryz.func129,Tryz.ntmps129
  go_wp2_with fail
  all_goals go_ret
  all_goals exact ⟨rfl,(zR _).alloc _,le ha⟩
 ·have e : yu c p b = 0:=zq h
  rw [e]
  clear e
  unfold lF at h
  unfold lM
  have h1 : 1 <= c:=by omega
  have h2 : c <= 32:=by omega
  have h3 : 0 <= p:=by omega
  have h4 : p <= 40:=by omega
  have h5 : -1 <= b:=by omega
  have h6 : b <= 4:=by omega
  clear h
  go_enter Tryz.func129,Tryz.ntmps129
  go_wp2_with fail
  all_goals go_ret
  all_goals exact ⟨rfl,(zR _).alloc _,le ha⟩
def lN (c p b : Int) : ByteArray:=Fv [83,89,c,p,b + 1]
theorem Dr (c p b : Int) (hh : ¬lF c p b) (R : List SL.HP) (w : World) (H : own w R) :
  Calls Tryz.prog 165 #[lM c p b] w fun e w'=>e = .returned (.string (lN c p b)) /\ Ext w w' /\ own w' R:=by
 have ha:=li H (.cells #[.int .i64 c,.int .i64 p,.int .i64 b] 103)
 have hxa:=(zR w).alloc (.cells #[.int .i64 c,.int .i64 p,.int .i64 b] 103)
 obtain ⟨cc,ff⟩:=ld 0 ha rfl
 unfold lF at hh
 unfold lM lN
 have h1 : 1 <= c:=by omega
 have h2 : c <= 32:=by omega
 have h3 : 0 <= p:=by omega
 have h4 : p <= 40:=by omega
 have h5 : -1 <= b:=by omega
 have h6 : b <= 4:=by omega
 clear hh
 go_enter Tryz.func165,Tryz.ntmps165
 go_upto_region 1 with (fail)
 generalize w.heap.size = g at *
 generalize w.alloc (.cells #[.int .i64 c,.int .i64 p,.int .i64 b] 103) = w1 at *
 go_wp2_with fail
 have h7:=yD 0 (n:=5) (cap:=5) (sz:=1) (xs:=byteCells [83,89,c,p,b + 1]) (li ha (.cells #[.int .u8 83,.int .u8 89,.int .u8 c,.int .u8 p,.int .u8 (b + 1)] 5)) rfl (by decide) (by simp [maxLen]) rfl rfl
 refine (Jo _ [83,89,c,p,b + 1] 5 rfl (by decide) _ _ h7).mono ?_
 rintro e w2 ⟨rfl,hx2,h2'⟩
 go_wp2_with fail
 go_ret
 exact ⟨rfl,(hxa.alloc _).trans hx2,le h2'⟩
theorem Fl (c p b : Int) (R : List SL.HP) (w : World) (H : own w R) :
  Calls Tryz.prog 159 #[lM c p b] w fun e w'=>e = .returned (.tuple #[.string (if yu c p b = 0 then lN c p b else ByteArray.empty),errV (yu c p b)]) /\ Ext w w' /\ own w' R:=by
 have ha:=li H (.cells #[.int .i64 c,.int .i64 p,.int .i64 b] 103)
 have hxa:=(zR w).alloc (.cells #[.int .i64 c,.int .i64 p,.int .i64 b] 103)
 by_cases h : lF c p b
 ·have e : yu c p b = 1:=zt h
  have hck:=Ay c p b _ _ ha
  rw [e,zq (by decide)]
  rw [e] at hck
  have HK:=zh hck
  clear hck e h
  unfold lM at HK
  unfold lM
  go_enter Tryz.func159,Tryz.ntmps159
  go_upto_region 1 with (fail)
  obtain ⟨cc,ff⟩:=ld 0 ha rfl
  generalize w.heap.size = g at *
  generalize w.alloc (.cells #[.int .i64 c,.int .i64 p,.int .i64 b] 103) = w1 at *
  go_wp2_with fail
  refine HK.out.mono ?_
  rintro e w2 ⟨rfl,hx2,h2'⟩
  have he : errV 1 = .iface 128 (.int .i64 1):=rfl
  rw [he]
  go_wp2_with fail
  go_ret2
  exact ⟨rfl,hxa.trans hx2,le h2'⟩
 ·have e : yu c p b = 0:=zq h
  have hck:=Ay c p b _ _ ha
  rw [e,zt rfl]
  rw [e] at hck
  have HK:=zh hck
  clear hck e
  unfold lF at h
  unfold lM at HK
  unfold lM lN
  have h1 : 1 <= c:=by omega
  have h2 : c <= 32:=by omega
  have h3 : 0 <= p:=by omega
  have h4 : p <= 40:=by omega
  have h5 : -1 <= b:=by omega
  have h6 : b <= 4:=by omega
  clear h
  go_enter Tryz.func159,Tryz.ntmps159
  go_upto_region 1 with (fail)
  obtain ⟨cc,ff⟩:=ld 0 ha rfl
  generalize w.heap.size = g at *
  generalize w.alloc (.cells #[.int .i64 c,.int .i64 p,.int .i64 b] 103) = w1 at *
  go_wp2_with fail
  refine HK.out.mono ?_
  rintro e w2 ⟨rfl,hx2,h2'⟩
  rw [oa]
  clear cc ff
  obtain ⟨cc,ff⟩:=ld 0 h2' rfl
  go_wp2_with fail
  have h7:=yD 0 (n:=5) (cap:=5) (sz:=1) (xs:=byteCells [83,89,c,p,b + 1]) (li h2' (.cells #[.int .u8 83,.int .u8 89,.int .u8 c,.int .u8 p,.int .u8 (b + 1)] 5)) rfl (by decide) (by simp [maxLen]) rfl rfl
  refine (KW _ [83,89,c,p,b + 1] 5 rfl (by decide) (by decide) _ _ h7).mono ?_
  rintro e w3 ⟨rfl,hx3,h3'⟩
  go_wp2_with fail
  go_ret2
  exact ⟨rfl,((hxa.trans hx2).alloc _).trans hx3,le h3'⟩
theorem Al {fn : Func} {t u : Tmp} (h : fn.results = #[.cell t 103,.tmp u]) (tmps : Array Value) (w : World) (g : Nat) (c p b : Int) (hg : tmps.getD t undef = .pointer (some ⟨g,0,none⟩))
  (h0 : w.cell? ⟨g,0,none⟩ = some (.int .i64 c)) (h1 : w.cell? ⟨g,1,none⟩ = some (.int .i64 p)) (h2 : w.cell? ⟨g,2,none⟩ = some (.int .i64 b)) :
  (results fn tmps).run Tryz.prog w = .ok (.tuple #[lM c p b,tmps.getD u undef]) w:=by
 rw [results_cell_tmp h,hg]
 unfold lM
 go_simp
def bt (s : ByteArray) (i : Nat) : Int:=((s.data.toList.getD i 0).toNat : Int)
theorem Bw (s : ByteArray) : zA s = 0 \/ 0 < zA s:=by
 unfold zA
 split
 ·exact .inr (by decide)
 ·split
  ·exact .inr (by decide)
  ·exact .inl rfl
theorem Et {s : ByteArray} (h : zA s = 0) : s.size = 16:=by
 unfold zA at h
 split at h
 ·cases h
 ·rename_i h'; omega
theorem yV {s : ByteArray} {i : Nat} (h : i < s.size) : ((s[i]'h).toNat : Int) = bt s i:=by
 have hb:=Md s i h
 unfold bt
 rw [List.getD_eq_getElem?_getD,hb]
 rfl
theorem zG (s : ByteArray) (i : Nat) : 0 <= bt s i /\ bt s i <= 255:=by
 unfold bt
 have:=(s.data.toList.getD i 0).toNat_lt
 omega
def zo (s : ByteArray) : Prop:=lF (bt s 2) (bt s 3) (bt s 4 - 1) \/ lN (bt s 2) (bt s 3) (bt s 4 - 1)≠s
instance (s : ByteArray) : Decidable (zo s):=by unfold zo; infer_instance
def o7 (s : ByteArray) : (Int×Int×Int)×Int:=
 if zA s≠0 then ((0,0,0),zA s) else if zo s then ((0,0,0),2) else ((bt s 2,bt s 3,bt s 4 - 1),0)
theorem QT (s : ByteArray) (hs : s.size <= 9223372036854775807) (R : List SL.HP) (w : World) (H : own w R) :
  Calls Tryz.prog 200 #[.string s] w fun e w'=>e = .returned (.tuple #[lM (o7 s).1.1 (o7 s).1.2.1 (o7 s).1.2.2,.int .i64 (o7 s).2]) /\ Ext w w' /\ own w' R:=by
 have ha:=li H (.cells #[.int .i64 0,.int .i64 0,.int .i64 0] 103)
 have hxa:=(zR w).alloc (.cells #[.int .i64 0,.int .i64 0,.int .i64 0] 103)
 rcases Bw s with hF | hF
 ·have h16:=Et hF
  have e : o7 s = if zo s then ((0,0,0),2) else ((bt s 2,bt s 3,bt s 4 - 1),0):=by rw [o7,zq (by omega)]
  rw [e]
  clear e
  have h16' : (s.size : Int) = 16:=by omega
  go_enter Tryz.func200,Tryz.ntmps200
  go_upto_region 1 with (fail)
  generalize w.heap.size = g at *
  generalize w.alloc (.cells #[.int .i64 0,.int .i64 0,.int .i64 0] 103) = w1 at *
  go_wp2_with fail
  refine (Ey s hs _ w1 ha).mono ?_
  rintro e w2 ⟨rfl,hx2,h2⟩
  rw [hF]
  have q2:=yV (s:=s) (i:=2) (by omega)
  have q3:=yV (s:=s) (i:=3) (by omega)
  have q4:=yV (s:=s) (i:=4) (by omega)
  have l2:=zG s 2
  have l3:=zG s 3
  have l4:=zG s 4
  have hcond : zo s↔(lF (bt s 2) (bt s 3) (bt s 4 - 1) \/ lN (bt s 2) (bt s 3) (bt s 4 - 1)≠s):=Iff.rfl
  have HCD:=zh hcond
  clear hcond
  generalize b2 : bt s 2 = x2 at *
  generalize b3 : bt s 3 = x3 at *
  generalize b4 : bt s 4 = x4 at *
  have HX:=zh (And.intro b2 (And.intro b3 (show bt s 4 - 1 = x4 - 1 by rw [b4])))
  clear b2 b3 b4
  have e2 : IntKind.i64.wrap x2 = x2:=zi _ (by omega)
  have e3 : IntKind.i64.wrap x3 = x3:=zi _ (by omega)
  have e4 : IntKind.i64.wrap x4 = x4:=zi _ (by omega)
  have e5 : IntKind.i64.wrap (x4 - 1) = x4 - 1:=zi _ (by omega)
  go_upto_region 4 with (fail)
  refine wp_region_held_drew (S:=fun _=>True) (by kernel_rfl) trivial (fun hHeld=>?_)
  refine wpAnyH_take (i:=0) (v:=?_) rfl (by kernel_rfl) (by kernel_rfl) (by kernel_rfl) (fun _ _ _ h=>h) (Or.inl ⟨by rfl,?_⟩) (by assumption) ?_
  rotate_left
  ·intro w hSw
   go_simp
   try with_reducible rfl
  try simp only [Act.put,tA,tB,tC,tD,tE,tF]
  refine wpAnyH_take (i:=1) (v:=?_) rfl (by kernel_rfl) (by kernel_rfl) (by kernel_rfl) (fun _ _ _ h=>h) (Or.inl ⟨by rfl,?_⟩) (by assumption) ?_
  rotate_left
  ·intro w hSw
   go_simp
   try with_reducible rfl
  try simp only [Act.put,tA,tB,tC,tD,tE,tF]
  refine wpAnyH_take (i:=2) (v:=?_) rfl (by kernel_rfl) (by kernel_rfl) (by kernel_rfl) (fun _ _ _ h=>h) (Or.inl ⟨by rfl,?_⟩) (by assumption) ?_
  rotate_left
  ·intro w hSw
   go_simp
   try with_reducible rfl
  try simp only [Act.put,tA,tB,tC,tD,tE,tF]
  refine wpAnyH_take (i:=3) (v:=?_) rfl (by kernel_rfl) (by kernel_rfl) (by kernel_rfl) (fun _ _ _ h=>h) (Or.inl ⟨by rfl,?_⟩) (by assumption) ?_
  rotate_left
  ·intro w hSw
   go_simp
   try with_reducible rfl
  try simp only [Act.put,tA,tB,tC,tD,tE,tF]
  refine wpAnyH_take (i:=4) (v:=?_) rfl (by kernel_rfl) (by kernel_rfl) (by kernel_rfl) (fun _ _ _ h=>h) (Or.inl ⟨by rfl,?_⟩) (by assumption) ?_
  rotate_left
  ·intro w hSw
   go_simp
   try with_reducible rfl
  try simp only [Act.put,tA,tB,tC,tD,tE,tF]
  refine wpAnyH_take (i:=5) (v:=?_) rfl (by kernel_rfl) (by kernel_rfl) (by kernel_rfl) (fun _ _ _ h=>h) (Or.inl ⟨by rfl,?_⟩) (by assumption) ?_
  rotate_left
  ·intro w hSw
   go_simp
   try with_reducible rfl
  try simp only [Act.put,tA,tB,tC,tD,tE,tF]
  refine wpAnyH_take (i:=6) (v:=?_) rfl (by kernel_rfl) (by kernel_rfl) (by kernel_rfl) (fun _ _ _ h=>h) (Or.inl ⟨by rfl,?_⟩) (by assumption) ?_
  rotate_left
  ·intro w hSw
   go_simp
   try with_reducible rfl
  try simp only [Act.put,tA,tB,tC,tD,tE,tF]
  refine wpAnyH_take (i:=7) (v:=?_) rfl (by kernel_rfl) (by kernel_rfl) (by kernel_rfl) (fun _ _ _ h=>h) (Or.inl ⟨by rfl,?_⟩) (by assumption) ?_
  rotate_left
  ·intro w hSw
   go_simp
   try with_reducible rfl
  try simp only [Act.put,tA,tB,tC,tD,tE,tF]
  refine wpAnyH_take (i:=8) (v:=?_) rfl (by kernel_rfl) (by kernel_rfl) (by kernel_rfl) (fun _ _ _ h=>h) (Or.inl ⟨by rfl,?_⟩) (by assumption) ?_
  rotate_left
  ·intro w hSw
   go_simp
   try with_reducible rfl
  try simp only [Act.put,tA,tB,tC,tD,tE,tF]
  refine wpAnyH_take (i:=9) (v:=?_) rfl (by kernel_rfl) (by kernel_rfl) (by kernel_rfl) (fun _ _ _ h=>h) (Or.inl ⟨by rfl,?_⟩) (by assumption) ?_
  rotate_left
  ·intro w hSw
   go_simp
   try with_reducible rfl
  try simp only [Act.put,tA,tB,tC,tD,tE,tF]
  refine wpAnyH_take (i:=10) (v:=?_) rfl (by kernel_rfl) (by kernel_rfl) (by kernel_rfl) (fun _ _ _ h=>h) (Or.inl ⟨by rfl,?_⟩) (by assumption) ?_
  rotate_left
  ·intro w hSw
   go_simp
   try with_reducible rfl
  try simp only [Act.put,tA,tB,tC,tD,tE,tF]
  refine rd 11 rfl fun K hK=>?_
  go_simp
  refine hK.out _ _ trivial (fun _=>?_)
  clear hK K
  try simp only [Act.put,tA,tB,tC,tD,tE,tF]
  refine rd 12 rfl fun K hK=>?_
  go_simp
  refine hK.out _ _ trivial (fun _=>?_)
  clear hK K
  try simp only [Act.put,tA,tB,tC,tD,tE,tF]
  refine wpAnyH_done (by kernel_rfl) ?_ _
  have h3:=lj (li h2 (.cells #[.int .i64 x2,.int .i64 x3,.int .i64 (x4 - 1)] 103))
  have hx3:=((hxa.trans hx2).alloc (.cells #[.int .i64 x2,.int .i64 x3,.int .i64 (x4 - 1)] 103)).drew
  clear q2 q3 q4 e2 e3 e4 e5 h2 hx2 ha hxa
  generalize w2.heap.size = p at *
  generalize (w2.alloc (.cells #[.int .i64 x2,.int .i64 x3,.int .i64 (x4 - 1)] 103)).drew = w3 at *
  generalize x4 - 1 = y at *
  obtain ⟨c,f⟩:=ld 0 h3 rfl
  by_cases hb : lF x2 x3 y
  ·have hbad : zo s:=HCD.out.2 (.inl hb)
   have HB:=zh hbad
   have hq:=zy x2 x3 y _ w3 h3
   rw [show yu x2 x3 y = 1 from zt hb] at hq
   have HQ:=zh hq
   clear hq hb hbad
   unfold lM at HQ
   go_wp2_with fail
   refine HQ.out.mono ?_
   rintro e w4 ⟨rfl,hx4,h4⟩
   clear c f
   obtain ⟨c,f⟩:=ld 1 h4 rfl
   go_wp2_with fail
   have h5:=lg (i:=2) (v:=.int .i64 0) 1 (lg (i:=1) (v:=.int .i64 0) 1 (lg (i:=0) (v:=.int .i64 0) 1 h4 rfl) rfl) rfl
   obtain ⟨c3,-⟩:=ld 1 h5 rfl
   refine bodyPost_ret (Al rfl _ _ g 0 0 0 rfl (c3 0) (c3 1) (c3 2)) rfl ?_
   exact ⟨by first | rfl | (rw [zt HB.out]; rfl),(((hx3.trans hx4).setCell _ _).setCell _ _).setCell _ _,le (le h5)⟩
  ·have hq:=zy x2 x3 y _ w3 h3
   rw [show yu x2 x3 y = 0 from zq hb] at hq
   have HQ:=zh hq
   clear hq
   unfold lM at HQ
   have HS:=zh (fun R w H=>Dr x2 x3 y hb R w H)
   unfold lM at HS
   go_wp2_with fail
   refine HQ.out.mono ?_
   rintro e w4 ⟨rfl,hx4,h4⟩
   clear c f
   obtain ⟨c,f⟩:=ld 0 h4 rfl
   go_wp2_with fail
   refine (HS.out _ w4 h4).mono ?_
   rintro e w5 ⟨rfl,hx5,h5⟩
   clear c f
   obtain ⟨c,f⟩:=ld 0 h5 rfl
   obtain ⟨c',f'⟩:=ld 1 h5 rfl
   by_cases hne : lN x2 x3 y = s
   ·have hgood : ¬zo s:=fun h=>(HCD.out.1 h).elim hb (fun h=>h hne)
    have HG:=zh hgood
    rw [hne]
    clear hgood hb
    go_wp2_with fail
    have h6:=lg (i:=2) (v:=.int .i64 y) 1 (lg (i:=1) (v:=.int .i64 x3) 1 (lg (i:=0) (v:=.int .i64 x2) 1 h5 rfl) rfl) rfl
    obtain ⟨c3,-⟩:=ld 1 h6 rfl
    refine bodyPost_ret (Al rfl _ _ g x2 x3 y rfl (c3 0) (c3 1) (c3 2)) rfl ?_
    exact ⟨by first | (rw [HX.out.1,HX.out.2.1,HX.out.2.2]; rfl) | (rw [zq HG.out,HX.out.1,HX.out.2.1,HX.out.2.2]; rfl),((((hx3.trans hx4).trans hx5).setCell _ _).setCell _ _).setCell _ _,le (le h6)⟩
   ·have hbad : zo s:=HCD.out.2 (.inr hne)
    have HB:=zh hbad
    have hnl : ((lN x2 x3 y).toList == s.toList) = false:=by simpa using fun h=>hne (BI h)
    clear hb hbad
    go_wp2_with fail
    have h6:=lg (i:=2) (v:=.int .i64 0) 1 (lg (i:=1) (v:=.int .i64 0) 1 (lg (i:=0) (v:=.int .i64 0) 1 h5 rfl) rfl) rfl
    obtain ⟨c3,-⟩:=ld 1 h6 rfl
    refine bodyPost_ret (Al rfl _ _ g 0 0 0 rfl (c3 0) (c3 1) (c3 2)) rfl ?_
    exact ⟨by first | rfl | (rw [zt HB.out]; rfl),((((hx3.trans hx4).trans hx5).setCell _ _).setCell _ _).setCell _ _,le (le h6)⟩
 ·have e : o7 s = ((0,0,0),zA s):=by rw [o7,zt (by omega)]
  rw [e]
  clear e
  go_enter Tryz.func200,Tryz.ntmps200
  go_upto_region 1 with (fail)
  generalize w.heap.size = g at *
  generalize w.alloc (.cells #[.int .i64 0,.int .i64 0,.int .i64 0] 103) = w1 at *
  go_wp2_with fail
  refine (Ey s hs _ w1 ha).mono ?_
  rintro e w2 ⟨rfl,hx2,h2⟩
  obtain ⟨c,f⟩:=ld 0 h2 rfl
  go_wp2_with fail
  have h3:=lg (i:=2) (v:=.int .i64 0) 0 (lg (i:=1) (v:=.int .i64 0) 0 (lg (i:=0) (v:=.int .i64 0) 0 h2 rfl) rfl) rfl
  obtain ⟨c3,-⟩:=ld 0 h3 rfl
  refine bodyPost_ret (Al rfl _ _ g 0 0 0 rfl (c3 0) (c3 1) (c3 2)) rfl ?_
  exact ⟨rfl,(((hxa.trans hx2).setCell _ _).setCell _ _).setCell _ _,le h3⟩
end Go.Proofs.YtbpblokfiajpjabGreatDoor
