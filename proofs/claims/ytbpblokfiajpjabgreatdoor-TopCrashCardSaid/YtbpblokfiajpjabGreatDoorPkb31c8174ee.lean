/- Lemmas on which TopAlone and TopCrash stands: the texts Shape12 Texts Shape16 FormReadsLaw Held Image1 Image2 FormSaysLaw Image3 Image4 Image6 Image7 Image8 Image9 Image10 Image11 Image12 Image5 Image13 Image14 Image15. No conditions. -/
import Derived.Test.YtbpblokfiajpjabGreatDoorPke3c4efc35c
import Derived.Maps.OwnSet
set_option linter.all false
set_option maxRecDepth 1000000
set_option maxHeartbeats 32000000
namespace Go.Proofs.YtbpblokfiajpjabGreatDoor
open Go.RowKit Go.SL Go.Crc
attribute [local go_sem ↓] Go.wp_at_zero Go.wp_at_succ
theorem NO (s : ByteArray) (hs : s.size <= 9223372036854775807) (R : List SL.HP) (w : World) (H : own w R) :
  Calls Tryz.prog 97 #[.string s] w fun e w'=>e = .returned (.tuple #[zO (oV s).1.1 (oV s).1.2.1 (oV s).1.2.2.1 (oV s).1.2.2.2.1 (oV s).1.2.2.2.2,errV (oV s).2]) /\ Ext w w' /\ own w' R:=by
 have ha:=lh H (.cells #[.int .i64 0,.int .i64 0,.int .i64 0,.int .i64 0,.int .i64 0] 24)
 have hxa:=(zR w).alloc (.cells #[.int .i64 0,.int .i64 0,.int .i64 0,.int .i64 0,.int .i64 0] 24)
 rcases C1 s with hF | hF
 ·have h16:=Kw hF
  have e : oV s = if Ac s then ((0,0,0,0,0),2) else (Ga s,0):=by rw [oV,zq (by omega)]
  rw [e]
  clear e
  have h16' : (s.size : Int) = 16:=by omega
  go_enter Tryz.func97,Tryz.ntmps97
  go_upto_region 1 with (fail)
  generalize w.heap.size = g at *
  generalize w.alloc (.cells #[.int .i64 0,.int .i64 0,.int .i64 0,.int .i64 0,.int .i64 0] 24) = w1 at *
  go_wp2_with fail
  refine (FP s hs _ w1 ha).mono ?_
  rintro e w2 ⟨rfl,hx2,h2⟩
  rw [hF,lS,show M7 s = s.extract 0 12 from zt hF]
  have hu : (s.extract 0 12).size = 12:=by simp [ByteArray.size_extract,h16]
  have g2:=zY (i:=2) h16 (by decide)
  have g3:=zY (i:=3) h16 (by decide)
  have g4:=zY (i:=4) h16 (by decide)
  have g5:=zY (i:=5) h16 (by decide)
  have g6:=zY (i:=6) h16 (by decide)
  have g7:=zY (i:=7) h16 (by decide)
  have g8:=zY (i:=8) h16 (by decide)
  generalize s.extract 0 12 = u at *
  have hu' : (u.size : Int) = 12:=by omega
  have q2:=Bp (s:=u) (i:=2) (by omega)
  have q3:=Bp (s:=u) (i:=3) (by omega)
  have q4:=Bp (s:=u) (i:=4) (by omega)
  have q5:=Bp (s:=u) (i:=5) (by omega)
  have q6:=Bp (s:=u) (i:=6) (by omega)
  have q7:=Bp (s:=u) (i:=7) (by omega)
  have q8:=Bp (s:=u) (i:=8) (by omega)
  rw [g2] at q2
  rw [g3] at q3
  rw [g4] at q4
  rw [g5] at q5
  rw [g6] at q6
  rw [g7] at q7
  rw [g8] at q8
  clear g2 g3 g4 g5 g6 g7 g8
  have l2:=Cm s 2
  have l3:=Cm s 3
  have l4:=Cm s 4
  have l5:=Cm s 5
  have l6:=Cm s 6
  have l7:=Cm s 7
  have l8:=Cm s 8
  have hcond : Ac s↔(yH (bt s 2) (bt s 3) (bt s 4 - 1) (bt s 5 + bt s 6 * 256) (bt s 7 + bt s 8 * 256)≠0 \/ zM (bt s 2) (bt s 3) (bt s 4 - 1) (bt s 5 + bt s 6 * 256) (bt s 7 + bt s 8 * 256)≠s):=by rw [Int.mul_comm (bt s 6),Int.mul_comm (bt s 8)]; exact Iff.rfl
  have HCD:=zh hcond
  clear hcond
  have hgood : Ga s = (bt s 2,bt s 3,bt s 4 - 1,bt s 5 + bt s 6 * 256,bt s 7 + bt s 8 * 256):=by rw [Int.mul_comm (bt s 6),Int.mul_comm (bt s 8)]; rfl
  have HX:=zh hgood
  clear hgood
  generalize bt s 2 = x2 at *
  generalize bt s 3 = x3 at *
  generalize bt s 4 = x4 at *
  generalize bt s 5 = x5 at *
  generalize bt s 6 = x6 at *
  generalize bt s 7 = x7 at *
  generalize bt s 8 = x8 at *
  have e2 : IntKind.i64.wrap x2 = x2:=zi _ (by omega)
  have e3 : IntKind.i64.wrap x3 = x3:=zi _ (by omega)
  have e4 : IntKind.i64.wrap x4 = x4:=zi _ (by omega)
  have e4' : IntKind.i64.wrap (x4 - 1) = x4 - 1:=zi _ (by omega)
  have e5 : IntKind.i64.wrap x5 = x5:=zi _ (by omega)
  have e6 : IntKind.i64.wrap x6 = x6:=zi _ (by omega)
  have e6' : IntKind.i64.wrap (x6 * 256) = x6 * 256:=zi _ (by omega)
  have e6'' : IntKind.i64.wrap (x5 + x6 * 256) = x5 + x6 * 256:=zi _ (by omega)
  have e7 : IntKind.i64.wrap x7 = x7:=zi _ (by omega)
  have e8 : IntKind.i64.wrap x8 = x8:=zi _ (by omega)
  have e8' : IntKind.i64.wrap (x8 * 256) = x8 * 256:=zi _ (by omega)
  have e8'' : IntKind.i64.wrap (x7 + x8 * 256) = x7 + x8 * 256:=zi _ (by omega)
  go_upto_region 4 with (fail)
  refine wp_region_held_drew (S:=fun _=>True) (by kernel_rfl) trivial (fun hHeld=>?_)
  refine tk 0 ?_
  refine tk 1 ?_
  refine tk 2 ?_
  refine tk 3 ?_
  refine tk 4 ?_
  refine tk 5 ?_
  refine tk 6 ?_
  refine tk 7 ?_
  refine tk 8 ?_
  refine tk 9 ?_
  refine tk 10 ?_
  refine tk 11 ?_
  refine tk 12 ?_
  refine tk 13 ?_
  refine tk 14 ?_
  refine tk 15 ?_
  refine tk 16 ?_
  refine tk 17 ?_
  refine tk 18 ?_
  refine tk 19 ?_
  refine tk 20 ?_
  refine tk 21 ?_
  refine tk 22 ?_
  refine tk 23 ?_
  refine tk 24 ?_
  refine tk 25 ?_
  refine tk 26 ?_
  try simp only [Act.put,tA,tB,tC,tD,tE,tF]
  refine rd 27 rfl fun K hK=>?_
  go_simp
  refine hK.out _ _ trivial (fun _=>?_)
  clear hK K
  try simp only [Act.put,tA,tB,tC,tD,tE,tF]
  refine rd 28 rfl fun K hK=>?_
  go_simp
  refine hK.out _ _ trivial (fun _=>?_)
  clear hK K
  try simp only [Act.put,tA,tB,tC,tD,tE,tF]
  refine wpAnyH_done (by kernel_rfl) ?_ _
  have h3:=ln (lh h2 (.cells #[.int .i64 x2,.int .i64 x3,.int .i64 (x4 - 1),.int .i64 (x5 + x6 * 256),.int .i64 (x7 + x8 * 256)] 24))
  have hx3:=((hxa.trans hx2).alloc (.cells #[.int .i64 x2,.int .i64 x3,.int .i64 (x4 - 1),.int .i64 (x5 + x6 * 256),.int .i64 (x7 + x8 * 256)] 24)).drew
  clear q2 q3 q4 q5 q6 q7 q8 e2 e3 e4 e4' e5 e6 e6' e6'' e7 e8 e8' e8'' h2 hx2 ha hxa
  generalize w2.heap.size = p at *
  generalize (w2.alloc (.cells #[.int .i64 x2,.int .i64 x3,.int .i64 (x4 - 1),.int .i64 (x5 + x6 * 256),.int .i64 (x7 + x8 * 256)] 24)).drew = w3 at *
  generalize x4 - 1 = y at *
  generalize x5 + x6 * 256 = a at *
  generalize x7 + x8 * 256 = b at *
  obtain ⟨c,f⟩:=ld 0 h3 rfl
  have hq:=O1 x2 x3 y a b _ w3 h3
  by_cases hb : yH x2 x3 y a b = 0
  ·rw [hb,zt rfl,lS] at hq
   have HQ:=zh hq
   clear hq
   unfold zO at HQ
   go_wp2_with fail
   refine HQ.out.mono ?_
   rintro e w5 ⟨rfl,hx5,h5⟩
   clear c f
   obtain ⟨c,f⟩:=ld 0 h5 rfl
   obtain ⟨c',f'⟩:=ld 1 h5 rfl
   by_cases hne : zM x2 x3 y a b = s
   ·have hgood : ¬Ac s:=fun h=>(HCD.out.1 h).elim (fun h=>h hb) (fun h=>h hne)
    have HG:=zh hgood
    rw [hne]
    clear hgood hb
    go_wp2_with fail
    have h6:=lp (i:=4) (v:=.int .i64 b) 1 (lp (i:=3) (v:=.int .i64 a) 1 (lp (i:=2) (v:=.int .i64 y) 1 (lp (i:=1) (v:=.int .i64 x3) 1 (lp (i:=0) (v:=.int .i64 x2) 1 h5 rfl) rfl) rfl) rfl) rfl
    obtain ⟨c3,-⟩:=ld 1 h6 rfl
    refine bodyPost_ret (De rfl _ _ g x2 x3 y a b rfl (c3 0) (c3 1) (c3 2) (c3 3) (c3 4)) rfl ?_
    exact ⟨by first | (rw [HX.out]; rfl) | (rw [zq HG.out,HX.out]; rfl),(((((hx3.trans hx5).setCell _ _).setCell _ _).setCell _ _).setCell _ _).setCell _ _,lg (lg h6)⟩
   ·have hbad : Ac s:=HCD.out.2 (.inr hne)
    have HB:=zh hbad
    have hnl : ((zM x2 x3 y a b).toList == s.toList) = false:=by simpa using fun h=>hne (C2 h)
    clear hb hbad
    go_wp2_with fail
    have h6:=lp (i:=4) (v:=.int .i64 0) 1 (lp (i:=3) (v:=.int .i64 0) 1 (lp (i:=2) (v:=.int .i64 0) 1 (lp (i:=1) (v:=.int .i64 0) 1 (lp (i:=0) (v:=.int .i64 0) 1 h5 rfl) rfl) rfl) rfl) rfl
    obtain ⟨c3,-⟩:=ld 1 h6 rfl
    refine bodyPost_ret (De rfl _ _ g 0 0 0 0 0 rfl (c3 0) (c3 1) (c3 2) (c3 3) (c3 4)) rfl ?_
    exact ⟨by first | rfl | (rw [zt HB.out]; rfl),(((((hx3.trans hx5).setCell _ _).setCell _ _).setCell _ _).setCell _ _).setCell _ _,lg (lg h6)⟩
  ·have hbad : Ac s:=HCD.out.2 (.inl hb)
   have HB:=zh hbad
   have hp:=Vf hb
   rw [zq hb,lv hp] at hq
   have HQ:=zh hq
   clear hq hb hbad
   generalize yH x2 x3 y a b = fc at *
   unfold zO at HQ
   go_wp2_with fail
   refine HQ.out.mono ?_
   rintro e w4 ⟨rfl,hx4,h4⟩
   clear c f
   obtain ⟨c,f⟩:=ld 1 h4 rfl
   go_wp2_with fail
   have h5:=lp (i:=4) (v:=.int .i64 0) 1 (lp (i:=3) (v:=.int .i64 0) 1 (lp (i:=2) (v:=.int .i64 0) 1 (lp (i:=1) (v:=.int .i64 0) 1 (lp (i:=0) (v:=.int .i64 0) 1 h4 rfl) rfl) rfl) rfl) rfl
   obtain ⟨c3,-⟩:=ld 1 h5 rfl
   refine bodyPost_ret (De rfl _ _ g 0 0 0 0 0 rfl (c3 0) (c3 1) (c3 2) (c3 3) (c3 4)) rfl ?_
   exact ⟨by first | rfl | (rw [zt HB.out]; rfl),(((((hx3.trans hx4).setCell _ _).setCell _ _).setCell _ _).setCell _ _).setCell _ _,lg (lg h5)⟩
 ·have e : oV s = ((0,0,0,0,0),zF s):=by rw [oV,zt (by omega)]
  rw [e]
  clear e
  go_enter Tryz.func97,Tryz.ntmps97
  go_upto_region 1 with (fail)
  generalize w.heap.size = g at *
  generalize w.alloc (.cells #[.int .i64 0,.int .i64 0,.int .i64 0,.int .i64 0,.int .i64 0] 24) = w1 at *
  go_wp2_with fail
  refine (FP s hs _ w1 ha).mono ?_
  rintro e w2 ⟨rfl,hx2,h2⟩
  rw [lv hF]
  obtain ⟨c,f⟩:=ld 0 h2 rfl
  go_wp2_with fail
  have h3:=lp (i:=4) (v:=.int .i64 0) 0 (lp (i:=3) (v:=.int .i64 0) 0 (lp (i:=2) (v:=.int .i64 0) 0 (lp (i:=1) (v:=.int .i64 0) 0 (lp (i:=0) (v:=.int .i64 0) 0 h2 rfl) rfl) rfl) rfl) rfl
  obtain ⟨c3,-⟩:=ld 0 h3 rfl
  refine bodyPost_ret (De rfl _ _ g 0 0 0 0 0 rfl (c3 0) (c3 1) (c3 2) (c3 3) (c3 4)) rfl ?_
  exact ⟨by rw [lv hF]; rfl,(((((hxa.trans hx2).setCell _ _).setCell _ _).setCell _ _).setCell _ _).setCell _ _,lg h3⟩
end Go.Proofs.YtbpblokfiajpjabGreatDoor
namespace Go.Proofs.YtbpblokfiajpjabGreatDoor
open Go.RowKit Go.SL
theorem Wq {w : World} {L : List HP} (k : Nat) {e : TypeId} {g cap n : Nat} {l : List ByteArray} {xs rest : List Value} (H : own w L) (hk : L[k]? = some (row e 1 (.slice (some ⟨g,0,none⟩) n cap) n xs))
  (hx : xs = l.map Value.string++rest) (hs : ∀s∈l,s.size <= 9223372036854775807) : Bs w (.slice (some ⟨g,0,none⟩) l.length cap) l:=by
 obtain ⟨ao3,g3,cap3,hv,c31,c32,a31,a32,a33,cells3,fr3⟩:=lm k H hk
 simp only [Value.slice.injEq] at hv
 obtain ⟨rfl,_,rfl⟩:=hv
 have hg:=a33 _ rfl
 simp only [Addr.mk.injEq,and_true] at hg
 subst hg
 have hlen:=(Ek k H hk).1
 have hn : l.length <= n:=by rw [hx,List.length_append,List.length_map] at hlen; omega
 refine ⟨⟨_,g,0,cap,rfl,by omega,by simp only [maxLen] at c32; omega,fun _=>rfl,fun i hi=>?_⟩,hs⟩
 dsimp only
 rw [Nat.zero_add]
 exact cells3 i _ (by rw [hx,List.getElem?_append_left (by simpa using hi)]; simp [hi])
end Go.Proofs.YtbpblokfiajpjabGreatDoor
namespace Go.Proofs.YtbpblokfiajpjabGreatDoor
open Go.RowKit Go.SL Go.Crc
attribute [local go_sem ↓] Go.wp_at_zero Go.wp_at_succ
theorem BT {xs : List Int} (h : xs.length <= 12) : (BE xs).size = 16:=by
 unfold BE
 rw [ByteArray.size_append,Ff h]
 rfl
theorem JU {xs : List Int} (h : xs.length <= 12) : zF (BE xs) = 0:=by
 have hlen : (A7 xs).data.toList.length = 12:=by have:=Ff h; rw [<- this]; rfl
 have hpre : (BE xs).extract 0 12 = A7 xs:=by
  unfold BE
  apply Go.WideShapes.bytes_inj
  rw [ByteArray.data_extract]
  simp only [ByteArray.data_append,Array.toList_extract,Array.toList_append,List.extract,List.drop_zero,Nat.sub_zero]
  exact List.take_left' hlen
 have hsuf : (BE xs).extract 12 16 = ⟨(le32 (D7 (A7 xs).data.toList)).toArray⟩:=by
  unfold BE
  apply Go.WideShapes.bytes_inj
  rw [ByteArray.data_extract]
  simp only [ByteArray.data_append,Array.toList_extract,Array.toList_append,List.extract]
  rw [List.drop_left' hlen]
  rfl
 unfold zF
 rw [zq (by simpa using BT h),hpre,hsuf,zq]
 unfold Ij
 simp
theorem Bv {xs : List Int} {i : Nat} {x : Int} (hx : xs[i]? = some x) (h0 : 0 <= x) (h1 : x <= 255) : bt (BE xs) i = x:=by
 have hi:=(zS.1 hx).1
 have e : (BE xs).data.toList[i]? = some (UInt8.ofNat x.toNat):=by
  unfold BE A7
  simp only [ByteArray.data_append,Array.toList_append]
  rw [List.getElem?_append_left (by simp [strOfNums]; omega),List.getElem?_append_left (by simp [strOfNums]; omega)]
  simp only [strOfNums,List.getElem?_map,hx]
  rfl
 unfold bt
 rw [List.getD_eq_getElem?_getD,e]
 simp
 omega
theorem Oc {c p b : Int} (h : ¬lH c p b) : oh (lQ c p b) = ((c,p,b),0):=by
 have hF : zF (lQ c p b) = 0:=JU (xs:=[83,89,c,p,b + 1]) (by simp)
 have hr:=h
 unfold lH at hr
 have b2 : bt (lQ c p b) 2 = c:=Bv (xs:=[83,89,c,p,b + 1]) rfl (by omega) (by omega)
 have b3 : bt (lQ c p b) 3 = p:=Bv (xs:=[83,89,c,p,b + 1]) rfl (by omega) (by omega)
 have b4 : bt (lQ c p b) 4 = b + 1:=Bv (xs:=[83,89,c,p,b + 1]) rfl (by omega) (by omega)
 have hcb : b + 1 - 1 = b:=by omega
 have hbad : ¬Ab (lQ c p b):=by
  unfold Ab
  rw [b2,b3,b4,hcb]
  exact fun h'=>h'.elim h fun h'=>h' rfl
 rw [oh,zq (by simpa using hF),zq hbad,b2,b3,b4,hcb]
theorem Ie {r k f a b : Int} (h : yH r k f a b = 0) : oV (zM r k f a b) = ((r,k,f,a,b),0):=by
 have hF : zF (zM r k f a b) = 0:=JU (xs:=[68,75,r,k,f + 1,a % 256,a / 256,b % 256,b / 256]) (by simp)
 have hr:=Jx h
 unfold zz at hr
 have b2 : bt (zM r k f a b) 2 = r:=Bv (xs:=[68,75,r,k,f + 1,a % 256,a / 256,b % 256,b / 256]) rfl (by omega) (by omega)
 have b3 : bt (zM r k f a b) 3 = k:=Bv (xs:=[68,75,r,k,f + 1,a % 256,a / 256,b % 256,b / 256]) rfl (by omega) (by omega)
 have b4 : bt (zM r k f a b) 4 = f + 1:=Bv (xs:=[68,75,r,k,f + 1,a % 256,a / 256,b % 256,b / 256]) rfl (by omega) (by omega)
 have b5 : bt (zM r k f a b) 5 = a % 256:=Bv (xs:=[68,75,r,k,f + 1,a % 256,a / 256,b % 256,b / 256]) rfl (by omega) (by omega)
 have b6 : bt (zM r k f a b) 6 = a / 256:=Bv (xs:=[68,75,r,k,f + 1,a % 256,a / 256,b % 256,b / 256]) rfl (by omega) (by omega)
 have b7 : bt (zM r k f a b) 7 = b % 256:=Bv (xs:=[68,75,r,k,f + 1,a % 256,a / 256,b % 256,b / 256]) rfl (by omega) (by omega)
 have b8 : bt (zM r k f a b) 8 = b / 256:=Bv (xs:=[68,75,r,k,f + 1,a % 256,a / 256,b % 256,b / 256]) rfl (by omega) (by omega)
 have e1 : f + 1 - 1 = f:=by omega
 have e2 : a % 256 + 256 * (a / 256) = a:=by omega
 have e3 : b % 256 + 256 * (b / 256) = b:=by omega
 have hbad : ¬Ac (zM r k f a b):=by
  unfold Ac
  rw [b2,b3,b4,b5,b6,b7,b8,e1,e2,e3]
  exact fun h'=>h'.elim (fun h'=>h' h) fun h'=>h' rfl
 rw [oV,zq (by simpa using hF),zq hbad,Ga,b2,b3,b4,b5,b6,b7,b8,e1,e2,e3]
theorem L0 {l R : List HP} {k : Nat} {P : HP} (h : R[k]? = some P) : (l++R)[l.length + k]? = some P:=by
 rw [List.getElem?_append_right (by omega),Nat.add_sub_cancel_left]; exact h
theorem VA {w : World} {L : List HP} (k : Nat) {v : Value} {l : List Ent} (H : own w L) (hk : L[k]? = some (row 221 2 v l.length (lY l))) : BL w v l:=by
 obtain ⟨ao,g,cap,rfl,h1,h2,h3,-,-,h6,-⟩:=lm k H hk
 refine ⟨ao,g,0,cap,rfl,h1,by simp only [maxLen] at h2; omega,h3,fun i hi=>?_⟩
 dsimp only
 rw [Nat.zero_add]
 exact ⟨h6 _ _ (oB hi).1,h6 _ _ (oB hi).2⟩
theorem Fs {C : Nat} {P : Int} : ∀(l : List ByteArray) (t : List Ent),0 <= (yA C P t l).2
 | [],t=>by simp [yA]
 | s::l,t=>by
  rw [yA]
  split
  ·decide
  ·split
   ·decide
   ·exact Fs l _
theorem Fm (c p b : Int) (rows : List ByteArray) : 0 <= (za c p b rows).2:=by
 unfold za
 split
 ·decide
 ·split
  ·decide
  ·exact Fs _ _
theorem Gk (s : ByteArray) : 0 <= (oh s).2:=by
 unfold oh
 split
 ·rcases C1 s with h | h <;> dsimp only <;> omega
 ·split
  ·simp
  ·simp
theorem Gs (s : ByteArray) : 0 <= (oV s).2:=by
 unfold oV
 split
 ·rcases C1 s with h | h <;> dsimp only <;> omega
 ·split
  ·simp
  ·simp
end Go.Proofs.YtbpblokfiajpjabGreatDoor
namespace Go.Proofs.YtbpblokfiajpjabGreatDoor
open Go.RowKit Go.SL Go.ChangeMaps
def CE (es : Array MapEntry) (hs : List Int) : Prop:=es.toList.map (fun e=>(e.key,e.val)) = hs.map fun h=>(Value.int .i64 h,Value.bool true)
def Aj (b : Nat) (hs : List Int) : HP:=exi fun x : Array MapEntry×Nat=>fun h=>CE x.1 hs /\ pts b (.map x.1 x.2) h
theorem JM {w : World} {L : List HP} (k : Nat) {b : Nat} {hs : List Int} (H : own w L) (hk : L[k]? = some (Aj b hs)) : ∃es clock,CE es hs /\ w.heap[b]? = some (.map es clock) /\ own w (L.set k (pts b (.map es clock))):=by
 obtain ⟨h,hs',h1,h2,a,⟨⟨es,clock⟩,hc,hp⟩,q⟩:=lE k H hk
 have H':=oT H k hk (Q:=pts b (.map es clock)) ⟨h,hs',h1,h2,a,hp,q⟩
 have hkl : k < L.length:=(zS.1 hk).1
 exact ⟨es,clock,hc,CT k H' (by simp [hkl]),H'⟩
theorem GQ {w : World} {L : List HP} (k : Nat) {b : Nat} {hs : List Int} {es : Array MapEntry} {clock : Nat} (hc : CE es hs) (H : own w L) (hk : L[k]? = some (pts b (.map es clock))) : own w (L.set k (Aj b hs)):=
 FO k (fun h hh=>⟨(es,clock),hc,hh⟩) H hk
theorem GL {w : World} {L : List HP} (H : own w L) : own (w.alloc (.map #[] 0)) (Aj w.heap.size []::L):=
 GQ 0 (hs:=[]) (es:=#[]) (clock:=0) rfl (lh H (.map #[] 0)) rfl
theorem Na {es : List MapEntry} {hs : List Int} (h : es.map (fun e=>(e.key,e.val)) = hs.map fun h=>(Value.int .i64 h,Value.bool true)) (k : Int) : ∀i,Instr.findNow (.int .i64) (.int .i64 k) es i = some (if k∈hs then some (i + hs.idxOf k,Value.bool true) else none):=by
 induction es generalizing hs with
 | nil=>
  cases hs with
  | nil=>intro i; rfl
  | cons a hs=>simp at h
 | cons e es ih=>
  intro i
  cases hs with
  | nil=>simp at h
  | cons a hs=>
   simp only [List.map_cons,List.cons.injEq,Prod.mk.injEq] at h
   obtain ⟨⟨h1,h2⟩,h3⟩:=h
   rw [Instr.findNow,h1,h2]
   simp only [Instr.sameNow,if_true]
   by_cases e : k = a
   ·subst e; simp
   ·have e' : (k == a) = false:=zb.2 e
    rw [e']
    simp only
    rw [ih h3]
    have e2 : (a == k) = false:=zb.2 fun h=>e h.symm
    by_cases hm : k∈hs
    ·simp [hm,e,List.idxOf_cons,e2]; omega
    ·simp [hm,e]
theorem Je {w : World} {es : Array MapEntry} {hs : List Int} (h : CE es hs) (k : Int) : (Instr.findKey 3 (.int .i64 k) es.toList).run Tryz.prog w = .ok (if k∈hs then some (hs.idxOf k,Value.bool true) else none) w:=by
 have:=Na h k 0
 simp only [Nat.zero_add] at this
 simp [Instr.findKey,run_underlying Tryz.underlying3,this]
theorem Lp (em : Bool) (x : Int) (w : World) : (Instr.checkKey em 10000 3 (.int .i64 x)).run Tryz.prog w = .ok () w:=by
 rw [show (10000 : Nat) = 9999 + 1 from rfl,Instr.checkKey]
 simp [run_underlying Tryz.underlying3]
theorem PZ {w : World} {L : List HP} (k : Nat) {b : Nat} {hs : List Int} (H : own w L) (hk : L[k]? = some (Aj b hs)) (x : Int) :
  (Instr.lookup 216 (.map (some b)) (.int .i64 x) false).run Tryz.prog w = .ok (.bool (decide (x∈hs))) w:=by
 obtain ⟨es,clock,hc,hb,_⟩:=JM k H hk
 have hz : (zeroValue 4).run Tryz.prog w = .ok (.bool false) w:=by kernel_rfl
 have hf:=Je (w:=w) hc x
 by_cases hm : x∈hs
 ·rw [zt hm] at hf
  simp [Instr.lookup,run_underlying Tryz.underlying216,MapKept.run_getObj_map hb,Lp,hf,hm,Result.andThen]
 ·rw [zq hm] at hf
  simp [Instr.lookup,run_underlying Tryz.underlying216,MapKept.run_getObj_map hb,Lp,hf,hm,hz,Result.andThen]
theorem Mf {w : World} {L : List HP} (k : Nat) {b : Nat} {es : Array MapEntry} {clock : Nat} {o' : Obj} (H : own w L) (hk : L[k]? = some (pts b (.map es clock))) (hw : w.heap[b]? = some (.map es clock)) : own (setBlock w b o') (L.set k (pts b o')):=
 Eh k H hk (by
  funext c
  by_cases hc : c = b
  ·subst hc; simp only [if_true]; exact heap_setBlock_same hw _
  ·simp only [hc,if_false]; exact heap_setBlock_other hw _ hc)
theorem MC (w : World) (b : Nat) (o : Obj) : Ext w (setBlock w b o):=⟨rfl,rfl,rfl,by simp [setBlock]⟩
theorem VG {w : World} {L : List HP} (k : Nat) {b : Nat} {hs : List Int} (H : own w L) (hk : L[k]? = some (Aj b hs)) {x : Int} (hx : x∉hs) :
  ∃w',(Instr.mapUpdate 216 (.map (some b)) (.int .i64 x) (.bool true)).run Tryz.prog w = .ok () w' /\ own w' (L.set k (Aj b (hs++[x]))) /\ Ext w w':=by
 obtain ⟨es,clock,hc,hb,H1⟩:=JM k H hk
 have hkl : k < L.length:=(zS.1 hk).1
 have hf:=Je (w:=w) hc x
 rw [zq hx] at hf
 refine ⟨setBlock w b (.map (es.push { key:=.int .i64 x,val:=.bool true,born:=clock }) (clock + 1)),?_,?_,MC _ _ _⟩
 ·simp [Instr.mapUpdate,run_underlying Tryz.underlying216,MapKept.run_getObj_map hb,Lp,hf,MapKept.run_setObj_map _ hb,Result.andThen,setBlock]
 ·have H2:=Mf k (o':=.map (es.push { key:=.int .i64 x,val:=.bool true,born:=clock }) (clock + 1)) H1 (by simp [hkl]) hb
  have H3:=GQ k (b:=b) (hs:=hs++[x]) (es:=es.push { key:=.int .i64 x,val:=.bool true,born:=clock }) (clock:=clock + 1) (by unfold CE at hc ⊢; simp [hc]) H2 (by simp [hkl])
  simpa only [List.set_set] using H3
theorem SB {w : World} {L : List HP} (k : Nat) {b : Nat} {hs : List Int} (H : own w L) (hk : L[k]? = some (Aj b hs)) (ty : TypeId) :
  ∃w',(Builtin.clear_ #[216] ty #[.map (some b)]).run Tryz.prog w = .ok (.tuple #[]) w' /\ own w' (L.set k (Aj b [])) /\ Ext w w':=by
 obtain ⟨es,clock,hc,hb,H1⟩:=JM k H hk
 have hkl : k < L.length:=(zS.1 hk).1
 refine ⟨setBlock w b (.map #[] clock),?_,?_,MC _ _ _⟩
 ·simp [Builtin.clear_,run_underlying Tryz.underlying216,MapKept.run_getObj_map hb,MapKept.run_setObj_map _ hb,Result.andThen,setBlock]
 ·have H2:=Mf k (o':=.map #[] clock) H1 (by simp [hkl]) hb
  have H3:=GQ k (b:=b) (hs:=[]) (es:=#[]) (clock:=clock) (show CE #[] [] from rfl) H2 (by simp [hkl])
  simpa only [List.set_set] using H3
end Go.Proofs.YtbpblokfiajpjabGreatDoor
namespace Go.Proofs.YtbpblokfiajpjabGreatDoor
open Go.RowKit Go.SL Go.Crc
attribute [local go_sem ↓] Go.wp_at_zero Go.wp_at_succ
structure ImgM where
 d : DevM
 c : Int
 p : Int
 b : Int
 t : List Ent
 held : List Int
def ent (t : List Ent) (k : Nat) : Ent:=t.getD k (0,0)
structure ImgM.Ok (m : ImgM) : Prop where
 d : m.d.Ok
 head : ¬lH m.c m.p m.b
 t : (m.t.length : Int) = m.c
 ents : ∀e∈m.t,lK e m.p = true
 one : ∀i j : Nat,i < m.t.length -> j < m.t.length -> (ent m.t i).1 = 2 -> ent m.t i = ent m.t j -> i = j
 nodup : m.held.Nodup
 range : ∀x∈m.held,0 <= x /\ x < m.p
 apart : ∀x∈m.held,((2,x) : Ent)∉m.t
 need : 1 + (lt m.c.toNat : Int) + 4 * m.p <= m.d.fl.length
def zC (c p : Int) : Int:=1 + (lt c.toNat : Int) + 4 * p
def lL (b bd bh : Nat) (m : ImgM) : HP:=exi fun v : Value=>star [pts b (.cells #[.pointer (some ⟨bd,0,none⟩),.int .i64 m.c,.int .i64 m.p,.int .i64 m.b,v,.map (some bh)] 218 (0,0)),row 221 2 v m.t.length (lY m.t),Aj bh m.held]
theorem yB {w : World} {b bd bh : Nat} {m : ImgM} {R : List HP} (H : own w (lL b bd bh m::R)) : ∃v,own w (pts b (.cells #[.pointer (some ⟨bd,0,none⟩),.int .i64 m.c,.int .i64 m.p,.int .i64 m.b,v,.map (some bh)] 218 (0,0))::row 221 2 v m.t.length (lY m.t)::Aj bh m.held::R):=
 JO 0 (L:=fun v : Value=>[pts b (.cells #[.pointer (some ⟨bd,0,none⟩),.int .i64 m.c,.int .i64 m.p,.int .i64 m.b,v,.map (some bh)] 218 (0,0)),row 221 2 v m.t.length (lY m.t),Aj bh m.held]) H rfl fun h hh=>hh
theorem yc {w : World} {b bd bh : Nat} {m : ImgM} {R : List HP} {v : Value} (H : own w (pts b (.cells #[.pointer (some ⟨bd,0,none⟩),.int .i64 m.c,.int .i64 m.p,.int .i64 m.b,v,.map (some bh)] 218 (0,0))::row 221 2 v m.t.length (lY m.t)::Aj bh m.held::R)) : own w (lL b bd bh m::R):=
 Is [pts b (.cells #[.pointer (some ⟨bd,0,none⟩),.int .i64 m.c,.int .i64 m.p,.int .i64 m.b,v,.map (some bh)] 218 (0,0)),row 221 2 v m.t.length (lY m.t),Aj bh m.held] (fun h hh=>⟨v,hh⟩) H
def Vr (l : List Int) : List Value:=l.map (Value.int .i64)
def Xz (b bd : Nat) (m : ImgM) : HP:=exi fun v : Value×Value=>star [pts b (.cells #[.pointer (some ⟨bd,0,none⟩),.int .i64 m.c,.int .i64 m.p,.int .i64 m.b,v.1,v.2] 152 (0,0)),row 221 2 v.1 m.t.length (lY m.t),row 3 1 v.2 m.held.length (Vr m.held)]
theorem WO {c : Int} (h : ¬(32 < c)) : lt c.toNat <= 4:=by unfold lt; omega
theorem OL (c p b : Int) (h : ¬lH c p b) (R : List SL.HP) (w : World) (H : own w R) :
  Calls Tryz.prog 127 #[ol c p b] w fun e w'=>e = .returned (.int .i64 (zC c p)) /\ Ext w w' /\ own w' R:=by
 have ha:=lh H (.cells #[.int .i64 c,.int .i64 p,.int .i64 b] 103)
 have hxa:=(zR w).alloc (.cells #[.int .i64 c,.int .i64 p,.int .i64 b] 103)
 unfold lH at h
 obtain ⟨C,rfl⟩:=ze (show 0 <= c by omega)
 have r4:=WO (c:=C) (by omega)
 rw [zn] at r4
 have hn : zC C p = 1 + (lt C : Int) + 4 * p:=by unfold zC; rw [zn]
 have h3 : 0 <= p:=by omega
 have h4 : p <= 40:=by omega
 have h5 : C <= 32:=by omega
 have HN:=zh hn
 clear h hn
 have e1 : IntKind.i64.wrap (p * 4) = p * 4:=zi _ (by omega)
 have e2 : IntKind.i64.wrap (1 + (lt C : Int)) = 1 + (lt C : Int):=zi _ (by omega)
 have e3 : IntKind.i64.wrap (1 + (lt C : Int) + p * 4) = 1 + (lt C : Int) + p * 4:=zi _ (by omega)
 unfold ol
 go_enter Tryz.func127,Tryz.ntmps127
 go_upto_region 1 with (fail)
 obtain ⟨cc,ff⟩:=ld 0 ha rfl
 generalize w.heap.size = g at *
 generalize w.alloc (.cells #[.int .i64 C,.int .i64 p,.int .i64 b] 103) = w1 at *
 have c0:=cc 0
 have c1:=cc 1
 go_quiet ((go_at_call 156; exact Calls.quiet_of_same ((Ay C (by omega) _).mono fun e w' h=>⟨h.1,h.2.symm⟩)))
 go_wp2_with fail
 go_ret
 exact ⟨Dg (by rw [HN.out]; omega),hxa.drewN _,lg (lI _ ha)⟩
def ImgM.there (m : ImgM) (k : Int) : Bool:=decide (0 <= k) && decide (k < m.c)
def ImgM.first (m : ImgM) (p : Int) : Int:=1 + (lt m.c.toNat : Int) + 4 * p
theorem ImgM.Ok.nat {m : ImgM} (h : m.Ok) : ∃C : Nat,m.c = C /\ 1 <= C /\ C <= 32 /\ m.t.length = C /\ lt C <= 4 /\ 0 <= m.p /\ m.p <= 40 /\ -1 <= m.b /\ m.b <= 4:=by
 have hh:=h.head
 have ht:=h.t
 unfold lH at hh
 refine ⟨m.t.length,ht.symm,by omega,by omega,rfl,by unfold lt; omega,by omega,by omega,by omega,by omega⟩
theorem DJ (b bd bh : Nat) (m : ImgM) (k : Int) (R : List SL.HP) (w : World) (H : own w (lL b bd bh m::R)) :
  Calls Tryz.prog 166 #[.pointer (some ⟨b,0,none⟩),.int .i64 k] w fun e w'=>e = .returned (.bool (m.there k)) /\ w = w':=by
 obtain ⟨v,h⟩:=yB H
 obtain ⟨c,f⟩:=ld 0 h rfl
 have hd : m.there k = (decide (0 <= k) && decide (k < m.c)):=rfl
 by_cases h0 : 0 <= k
 ·have d0 : decide (0 <= k) = true:=zg h0
  rw [hd,d0,Bool.true_and]
  go_enter Tryz.func166,Tryz.ntmps166
  go_wp2_with fail
  go_ret
  exact ⟨rfl,rfl⟩
 ·have d0 : decide (0 <= k) = false:=zf h0
  rw [hd,d0,Bool.false_and]
  clear h0
  go_enter Tryz.func166,Tryz.ntmps166
  go_wp2_with fail
  go_ret
  exact ⟨rfl,rfl⟩
theorem Im (b bd bh : Nat) (m : ImgM) (hm : m.Ok) (p : Int) (h0 : 0 <= p) (h1 : p <= 40) (R : List SL.HP) (w : World) (H : own w (lL b bd bh m::R)) :
  Calls Tryz.prog 171 #[.pointer (some ⟨b,0,none⟩),.int .i64 p] w fun e w'=>e = .returned (.int .i64 (m.first p)) /\ w = w':=by
 obtain ⟨v,h⟩:=yB H
 obtain ⟨c,f⟩:=ld 0 h rfl
 obtain ⟨C,hC,q1,q2,q3,q4,-⟩:=hm.nat
 have hf : m.first p = 1 + (lt C : Int) + 4 * p:=by unfold ImgM.first; rw [hC,zn]
 rw [hf]
 rw [hC] at c
 clear hf hC
 go_enter Tryz.func171,Tryz.ntmps171
 go_wp2_with fail
 refine (Ay C (by omega) _).mono ?_
 rintro e w' ⟨rfl,rfl⟩
 go_wp2_with fail
 go_ret
 exact ⟨Dg (by omega),rfl⟩
def ImgM.kind (m : ImgM) (k : Int) : Int:=(ent m.t k.toNat).1
theorem FN (b bd bh : Nat) (m : ImgM) (hm : m.Ok) (k : Int) (R : List SL.HP) (w : World) (H : own w (lL b bd bh m::R)) :
  Calls Tryz.prog 151 #[.pointer (some ⟨b,0,none⟩),.int .i64 k] w fun e w'=>e = .returned (if m.there k = true then .tuple #[.int .i64 (m.kind k),.nilIface] else .tuple #[.int .i64 0,errV 1]) /\ w = w':=by
 obtain ⟨v,h⟩:=yB H
 obtain ⟨C,hC,q1,q2,q3,q4,-⟩:=hm.nat
 have hth:=DJ b bd bh m k R w H
 cases ht : m.there k
 ·rw [ht] at hth
  rw [zq (by decide)]
  have HT:=zh hth
  clear hth hC q3 ht
  go_enter Tryz.func151,Tryz.ntmps151
  go_wp2_with fail
  refine HT.out.mono ?_
  rintro e w' ⟨rfl,rfl⟩
  go_wp2_with fail
  go_ret2
  exact ⟨rfl,rfl⟩
 ·rw [ht] at hth
  rw [zt rfl]
  have hr : 0 <= k /\ k < m.c:=by
   unfold ImgM.there at ht
   simpa using ht
  obtain ⟨n,rfl⟩:=ze hr.1
  have hn : n < m.t.length:=by omega
  have hk : m.kind n = (ent m.t n).1:=rfl
  rw [hk]
  obtain ⟨ao,g,cap,rfl,r1,r2,r3,-,-,r6,-⟩:=lm 1 h rfl
  obtain rfl:=r3 (by omega)
  have e1:=r6 _ _ (oB hn).1
  have e2 : w.cell? ⟨g,n * 2,none⟩ = some (.int .i64 (ent m.t n).1):=e1
  obtain ⟨c,f⟩:=ld 0 h rfl
  have HT:=zh hth
  clear hth hC q3 ht hk e1 r3 r6 hr
  generalize (ent m.t n).1 = x at *
  go_enter Tryz.func151,Tryz.ntmps151
  go_wp2_with fail
  refine HT.out.mono ?_
  rintro e w' ⟨rfl,rfl⟩
  go_wp2_with fail
  go_ret2
  exact ⟨rfl,rfl⟩
theorem W4 (v : Value) (t : List Ent) (row : Int) (ht : t.length <= 1000) (R : List SL.HP) (w : World) (hv : ∀w' l,own w' (l++R) -> BL w' v t) (H : own w R) :
  Calls Tryz.prog 236 #[v,.int .i64 row] w fun e w'=>e = .returned (.tuple #[.string (oe t row).1,errV (oe t row).2]) /\ Ext w w' /\ own w' R:=by
 by_cases ho : AR t row
 ·have e : oe t row = (ByteArray.empty,1):=by rw [oe,zt ho]
  rw [e]
  exact WR v t row ht ho R w hv H
 ·obtain ⟨r,rfl⟩:=ze (show 0 <= row by unfold AR at ho; omega)
  exact XZ v t r ho R w hv H
theorem ND {l : List Ent} : ∀{k : Nat} (e : Ent),lY (l.set k e) = ((lY l).set (k * 2) (.int .i64 e.1)).set (k * 2 + 1) (.int .i64 e.2):=by
 induction l with
 | nil=>intro k e; simp [lY]
 | cons x l ih=>
  intro k e
  cases k with
  | zero=>simp [lY]
  | succ k=>
   have:=ih (k:=k) e
   have e2 : (k + 1) * 2 = k * 2 + 2:=by omega
   simp only [lY,List.set_cons_succ,List.flatMap_cons,e2] at this ⊢
   rw [this]
   simp
theorem GU {w : World} {L : List HP} (k : Nat) {g n cap : Nat} {t : List Ent} (j : Nat) (e : Ent) (H : own w L) (hk : L[k]? = some (row 221 2 (.slice (some ⟨g,0,none⟩) n cap) n (lY t))) (hn : 0 < n) :
  own ((w.setCell ⟨g,j * 2,none⟩ (.int .i64 e.1)).setCell ⟨g,j * 2 + 1,none⟩ (.int .i64 e.2)) (L.set k (row 221 2 (.slice (some ⟨g,0,none⟩) n cap) n (lY (t.set j e)))):=by
 have hkl : k < L.length:=(zS.1 hk).1
 have h1:=z8 k (j * 2) (.int .i64 e.1) H hk hn
 have h2:=z8 (e:=221) (sz:=2) (g:=g) (n:=n) (cap:=cap) (xs:=(lY t).set (j * 2) (.int .i64 e.1)) k (j * 2 + 1) (.int .i64 e.2) h1 (by simp [hkl]) hn
 rw [List.set_set] at h2
 rw [ND]
 exact h2
theorem QR {t : List Ent} {r : Int} (h : (oe t r).2 = 0) : (oe t r).1.size = 16:=by
 unfold oe at h ⊢
 split
 ·rename_i h1; rw [zt h1] at h; cases h
 ·rename_i h1
  rw [zq h1] at h
  split
  ·dsimp only
   rw [strOfNums_size,Du,yS]
  ·rename_i h2; rw [zq h2] at h; cases h
theorem o5 (m : DevM) (a : Int) (s : ByteArray) : 0 <= (m.write a s).1:=by
 unfold DevM.write
 split
 ·simp
 ·split <;> simp
def ImgM.rowS (m : ImgM) (r : Nat) : ByteArray:=(oe m.t r).1
theorem Fy (b bd bh : Nat) (m : ImgM) (hd : m.d.Ok) (hl : m.t.length <= 1000) (hw : m.d.writes < 1000000) (hp : m.d.pend.length < 1000000) (r : Nat) (hr : r <= 4) (hrow : (oe m.t r).2 = 0) (R : List SL.HP) (w : World) (H : own w (lL b bd bh m::lj bd m.d::R)) :
  Calls Tryz.prog 157 #[.pointer (some ⟨b,0,none⟩),.int .i64 r] w fun e w'=>e = .returned (errV (m.d.write (1 + (r : Int)) (m.rowS r)).1) /\ Ext w w' /\ own w' (lL b bd bh m::lj bd (m.d.write (1 + (r : Int)) (m.rowS r)).2::R):=by
 obtain ⟨v,h⟩:=yB H
 obtain ⟨ao,g,cap,rfl,r1,r2,-,-,-,-,-⟩:=lm 1 h rfl
 obtain ⟨c,f⟩:=ld 0 h rfl
 have hsz:=QR hrow
 have hra:=W4 (.slice ao m.t.length cap) m.t r hl _ w (fun w' L H=>VA (L.length + 1) H (L0 (l:=L) rfl)) h
 rw [hrow,lS] at hra
 have hs : m.rowS r = (oe m.t r).1:=rfl
 have HRA:=zh hra
 have HS:=zh hs
 rw [hs]
 clear hra hs hrow
 generalize (oe m.t r).1 = s at *
 have hdw:=fun (R : List SL.HP) (w : World) (H : own w (lj bd m.d::R))=>BP bd m.d hd (1 + (r : Int)) s (by omega) hw hp R w H
 have HDW:=zh hdw
 clear hdw
 generalize m.d.write (1 + (r : Int)) s = res at *
 go_enter Tryz.func157,Tryz.ntmps157
 go_wp2_with fail
 refine HRA.out.mono ?_
 rintro e w2 ⟨rfl,hx2,h2⟩
 clear c f
 obtain ⟨c,f⟩:=ld 0 h2 rfl
 go_wp2_with fail
 refine (HDW.out _ w2 (lE 3 h2 rfl)).mono ?_
 rintro e w3 ⟨rfl,hx3,h3⟩
 have h4:=oT h2 3 rfl h3
 go_wp2_with fail
 go_ret
 exact ⟨rfl,hx2.trans hx3,yc h4⟩
def ImgM.setE (m : ImgM) (k : Nat) (e : Ent) : Int×ImgM:=
 let r:=m.d.write (1 + (k / 8 : Nat)) (oe (m.t.set k e) (k / 8 : Nat)).1
 if r.1≠0 then (r.1,{ m with d:=r.2 })
 else (0,{ m with d:=r.2,t:=m.t.set k e,held:=if (ent m.t k).1 = 2 then m.held++[(ent m.t k).2] else m.held })
theorem EW {t : List Ent} {r : Nat} (hl : t.length <= 32) (hr : r < lt t.length) (hv : ∀e∈t,lK e 40 = true) : (oe t r).2 = 0:=by
 have ho : ¬AR t r:=by unfold AR; omega
 rw [Jw ho fun k hk=>?_]
 by_cases h : 8 * r + k < t.length
 ·exact hv _ (by simp [h])
 ·rw [show t.getD (8 * r + k) (0,0) = (0,0) by simp [show t.length <= 8 * r + k by omega]]
  rfl
theorem FY {e : Ent} {p : Int} (h : lK e p = true) (hp : p <= 40) : lK e 40 = true:=by
 unfold lK at h ⊢
 split
 ·rename_i h1; rw [zt h1] at h; simp at h ⊢; omega
 ·rename_i h1; rw [zq h1] at h; exact h
theorem Wh {t : List Ent} {k : Nat} (e : Ent) (hk : k < t.length) : (t.set k e).set k (ent t k) = t:=by
 unfold ent
 rw [List.set_set]
 apply List.ext_getElem?
 intro j
 rw [List.getElem?_set]
 by_cases h : k = j
 ·subst h; simp [hk]
 ·rw [zq h]
theorem Qx (b bd bh : Nat) (m : ImgM) (hm : m.Ok) (hw : m.d.writes < 1000000) (hp : m.d.pend.length < 1000000) (k : Nat) (hk : k < m.t.length) (e1 e2 : Int) (he : lK (e1,e2) m.p = true) (R : List SL.HP) (w : World) (H : own w (lL b bd bh m::lj bd m.d::R)) :
  Calls Tryz.prog 167 #[.pointer (some ⟨b,0,none⟩),.int .i64 k,.agg #[.int .i64 e1,.int .i64 e2]] w fun e w'=>e = .returned (errV (m.setE k (e1,e2)).1) /\ Ext w w' /\ own w' (lL b bd bh (m.setE k (e1,e2)).2::lj bd (m.setE k (e1,e2)).2.d::R):=by
 obtain ⟨C,hC,q1,q2,q3,q4,q5,q6,-⟩:=hm.nat
 have hsetE : m.setE k (e1,e2) = if (m.d.write (1 + ((k / 8 : Nat) : Int)) (oe (m.t.set k (e1,e2)) (k / 8 : Nat)).1).1≠0 then ((m.d.write (1 + ((k / 8 : Nat) : Int)) (oe (m.t.set k (e1,e2)) (k / 8 : Nat)).1).1,{ m with d:=(m.d.write (1 + ((k / 8 : Nat) : Int)) (oe (m.t.set k (e1,e2)) (k / 8 : Nat)).1).2 })
  else (0,{ m with d:=(m.d.write (1 + ((k / 8 : Nat) : Int)) (oe (m.t.set k (e1,e2)) (k / 8 : Nat)).1).2,t:=m.t.set k (e1,e2),held:=if (ent m.t k).1 = 2 then m.held++[(ent m.t k).2] else m.held }):=rfl
 generalize m.setE k (e1,e2) = S at *
 have hvalid : (oe (m.t.set k (e1,e2)) (k / 8 : Nat)).2 = 0:=EW (by simp; omega) (by simp; unfold lt; omega) fun x hx=>by
  rcases List.mem_or_eq_of_mem_set hx with h | h
  ·exact FY (hm.ents x h) q6
  ·rw [h]; exact FY he q6
 have hcode:=o5 m.d (1 + ((k / 8 : Nat) : Int)) (oe (m.t.set k (e1,e2)) (k / 8 : Nat)).1
 have hrc:=fun (R : List SL.HP) (w : World) (H : own w (lL b bd bh { m with t:=m.t.set k (e1,e2) }::lj bd m.d::R))=>Fy b bd bh { m with t:=m.t.set k (e1,e2) } hm.d (by simp; omega) hw hp (k / 8) (by omega) hvalid R w H
 unfold ImgM.rowS at hrc
 dsimp only at hrc
 have HRC:=zh hrc
 have hap : (ent m.t k).1 = 2 -> (ent m.t k).2∉m.held:=fun h hin=>hm.apart _ hin (by
  have hmem : ent m.t k∈m.t:=by unfold ent; simp [hk]
  have : ent m.t k = (2,(ent m.t k).2):=by rw [<- h]
  rw [<- this]; exact hmem)
 have hsb:=Wh (e1,e2) hk
 have ha:=lh H (.cells #[.int .i64 e1,.int .i64 e2] 221)
 have hxa:=(zR w).alloc (.cells #[.int .i64 e1,.int .i64 e2] 221)
 have l2 : m.t.length <= 32:=by omega
 clear hrc hvalid he hC q1 q2 q3 q4
 generalize m.d.write (1 + ((k / 8 : Nat) : Int)) (oe (m.t.set k (e1,e2)) (k / 8 : Nat)).1 = res at *
 generalize hx : ent m.t k = x at *
 have HSE:=zh hsetE
 clear hsetE
 have HX:=zh hx
 have HAP:=zh hap
 have HSB:=zh hsb
 clear hx hap hsb
 go_enter Tryz.func167,Tryz.ntmps167
 go_upto_region 1 with (fail)
 generalize w.heap.size = ge at *
 generalize w.alloc (.cells #[.int .i64 e1,.int .i64 e2] 221) = w1 at *
 obtain ⟨v,h1⟩:=yB (lE 1 ha rfl)
 clear ha
 obtain ⟨ao,g,cap,rfl,r1,r2,r3,-,-,r6,-⟩:=lm 1 h1 rfl
 obtain rfl:=r3 (by omega)
 have x1 : w1.cell? ⟨g,k * 2,none⟩ = some (.int .i64 x.1):=by rw [<- HX.out]; exact r6 _ _ (oB hk).1
 have x2 : w1.cell? ⟨g,k * 2 + 1,none⟩ = some (.int .i64 x.2):=by rw [<- HX.out]; exact r6 _ _ (oB hk).2
 clear r3 r6
 obtain ⟨xa,xb⟩:=x
 dsimp only at x1 x2
 obtain ⟨c,f⟩:=ld 0 h1 rfl
 go_upto_region 2 with (fail)
 have h2:=lh h1 (.cells #[.int .i64 xa,.int .i64 xb] 221)
 have hx2:=hxa.alloc (.cells #[.int .i64 xa,.int .i64 xb] 221)
 clear c f h1 hxa x1 x2
 generalize w1.heap.size = gw at *
 generalize w1.alloc (.cells #[.int .i64 xa,.int .i64 xb] 221) = w2 at *
 obtain ⟨c,f⟩:=ld 1 h2 rfl
 obtain ⟨ce,fe⟩:=ld 4 h2 rfl
 obtain ⟨r6,f6⟩:=oa 2 h2 rfl
 have x1:=r6 _ _ (oB hk).1
 have x2:=r6 _ _ (oB hk).2
 clear r6
 have i1 : (0 : Int) <= (k : Int):=by omega
 have i2 : (k : Int) < (m.t.length : Int):=by omega
 go_still_tail 7,(by kernel_rfl)
 change wpList _ _ _ _ _ w2.drew
 go_wp2_with fail
 have h3:=ln (GU 2 k (e1,e2) h2 rfl (by omega))
 have hx3:=((hx2.setCell ⟨g,k * 2,none⟩ (.int .i64 e1)).setCell ⟨g,k * 2 + 1,none⟩ (.int .i64 e2)).drew
 clear c f ce fe f6 x1 x2 h2 hx2
 dsimp only at h3
 generalize ((w2.setCell ⟨g,k * 2,none⟩ (.int .i64 e1)).setCell ⟨g,k * 2 + 1,none⟩ (.int .i64 e2)).drew = w3 at *
 have hlen : (m.t.set k (e1,e2)).length = m.t.length:=by simp
 have h4 : own w3 (lL b bd bh { m with t:=m.t.set k (e1,e2) }::lj bd m.d::pts ge (.cells #[.int .i64 e1,.int .i64 e2] 221 (0,0))::pts gw (.cells #[.int .i64 xa,.int .i64 xb] 221 (0,0))::R):=by
  have h5:=lC [_,_,_,_,_] h3
  have h6 : own w3 (lL b bd bh { m with t:=m.t.set k (e1,e2) }::pts ge (.cells #[.int .i64 e1,.int .i64 e2] 221 (0,0))::lj bd m.d::pts gw (.cells #[.int .i64 xa,.int .i64 xb] 221 (0,0))::R):=yc (m:={ m with t:=m.t.set k (e1,e2) }) (by dsimp only; rw [hlen]; exact h5)
  exact lC [_] (lE 2 h6 rfl)
 clear h3
 rw [show (k : Int) / 8 = ((k / 8 : Nat) : Int) by omega]
 refine (HRC.out _ w3 h4).mono ?_
 rintro e w4 ⟨rfl,hx4,h5⟩
 replace hx4:=hx3.trans hx4
 clear h4 hx3
 obtain ⟨v5,h6⟩:=yB h5
 dsimp only at h6
 rw [hlen] at h6
 obtain ⟨ao5,g5,cap5,rfl,r1',r2',r3',-,-,r6',-⟩:=lm 1 h6 rfl
 obtain rfl:=r3' (by omega)
 clear r3' h5
 by_cases hz : res.1 = 0
 ·have HZ:=zh hz
  rw [hz,lS]
  obtain ⟨c,f⟩:=ld 0 h6 rfl
  obtain ⟨cw,fw⟩:=ld 5 h6 rfl
  clear hz r6'
  by_cases h2 : xa = 2
  ·have hni : xb∉m.held:=HAP.out h2
   have hS : S = (0,{ m with d:=res.2,t:=m.t.set k (e1,e2),held:=m.held++[xb] }):=by
    rw [HSE.out,zq (by simpa using HZ.out),zt h2]
   have HSS:=zh hS
   clear hS
   subst h2
   obtain ⟨w7,hr,h7,hx7⟩:=VG 2 (ln h6) rfl hni
   go_upto_region 8 with (fail)
   go_still_tail 6,(by kernel_rfl)
   change wpList _ _ _ _ _ w4.drew
   go_wp2_with fail
   go_ret
   rw [HSS.out]
   refine ⟨rfl,hx4.drew.trans hx7,?_⟩
   dsimp only at h7 ⊢
   have h8 : own w7 (lL b bd bh { m with d:=res.2,t:=m.t.set k (e1,e2),held:=m.held++[xb] }::lj bd res.2::pts ge (.cells #[.int .i64 e1,.int .i64 e2] 221 (0,0))::pts gw (.cells #[.int .i64 2,.int .i64 xb] 221 (0,0))::R):=yc (m:={ m with d:=res.2,t:=m.t.set k (e1,e2),held:=m.held++[xb] }) (by dsimp only; rw [hlen]; exact h7)
   exact li 2 (li 2 h8 rfl) rfl
  ·have hS : S = (0,{ m with d:=res.2,t:=m.t.set k (e1,e2) }):=by
    rw [HSE.out,zq (by simpa using HZ.out),zq h2]
   have HSS:=zh hS
   have t2 : (xa == 2) = false:=zb.2 h2
   clear h2 hS
   go_wp2_with fail
   go_ret
   rw [HSS.out]
   refine ⟨rfl,hx4,?_⟩
   have h8 : own w4 (lL b bd bh { m with d:=res.2,t:=m.t.set k (e1,e2) }::lj bd res.2::pts ge (.cells #[.int .i64 e1,.int .i64 e2] 221 (0,0))::pts gw (.cells #[.int .i64 xa,.int .i64 xb] 221 (0,0))::R):=yc (m:={ m with d:=res.2,t:=m.t.set k (e1,e2) }) (by dsimp only; rw [hlen]; exact h6)
   exact li 2 (li 2 h8 rfl) rfl
 ·have hS : S = (res.1,{ m with d:=res.2 }):=by rw [HSE.out,zt hz]
  have hpz : 0 < res.1:=by omega
  have HSS:=zh hS
  clear hS hz
  rw [lv hpz]
  have HPE:=zh (lv hpz)
  obtain ⟨c,f⟩:=ld 0 h6 rfl
  obtain ⟨cw,fw⟩:=ld 5 h6 rfl
  have x1:=r6' _ _ (oB (l:=m.t.set k (e1,e2)) (i:=k) (by simp; omega)).1
  have x2:=r6' _ _ (oB (l:=m.t.set k (e1,e2)) (i:=k) (by simp; omega)).2
  obtain ⟨-,f6⟩:=oa 1 h6 rfl
  clear r6'
  go_upto_region 5 with (fail)
  go_still_tail 7,(by kernel_rfl)
  change wpList _ _ _ _ _ w4.drew
  go_wp2_with fail
  go_ret
  rw [HSS.out]
  have h9:=ln (GU 1 k (xa,xb) h6 rfl (by omega))
  have hback : (m.t.set k (e1,e2)).set k (xa,xb) = m.t:=HSB.out
  rw [hback] at h9
  refine ⟨by rw [HPE.out]; rfl,((hx4.setCell _ _).setCell _ _).drew,?_⟩
  have h8:=yc (m:={ m with d:=res.2 }) h9
  exact li 2 (li 2 h8 rfl) rfl

def ImgM.clear (m : ImgM) (k : Int) : Int×ImgM:=if m.there k = true then (if m.kind k = 1 then (0,m) else m.setE k.toNat (1,0)) else (1,m)
theorem oW {m : ImgM} {k : Int} (hm : m.Ok) (h : m.there k = true) : 0 <= k /\ k < m.c /\ k.toNat < m.t.length:=by
 have ht:=hm.t
 unfold ImgM.there at h
 simp at h
 omega
theorem Ty (b bd bh : Nat) (m : ImgM) (hm : m.Ok) (hw : m.d.writes < 1000000) (hp : m.d.pend.length < 1000000) (k : Int) (R : List SL.HP) (w : World) (H : own w (lL b bd bh m::lj bd m.d::R)) :
  Calls Tryz.prog 65 #[.pointer (some ⟨b,0,none⟩),.int .i64 k] w fun e w'=>e = .returned (errV (m.clear k).1) /\ Ext w w' /\ own w' (lL b bd bh (m.clear k).2::lj bd (m.clear k).2.d::R):=by
 have hth:=DJ b bd bh m k _ w H
 cases ht : m.there k
 ·have e : m.clear k = (1,m):=by unfold ImgM.clear; rw [ht,zq (by decide)]
  rw [e]
  rw [ht] at hth
  have HT:=zh hth
  clear hth e ht
  go_enter Tryz.func65,Tryz.ntmps65
  go_wp2_with fail
  refine HT.out.mono ?_
  rintro e w' ⟨rfl,rfl⟩
  go_wp2_with fail
  go_ret
  exact ⟨rfl,zR _,H⟩
 ·obtain ⟨k0,-,hkl⟩:=oW hm ht
  obtain ⟨n,rfl⟩:=ze k0
  rw [zn] at hkl
  rw [ht] at hth
  have HT:=zh hth
  obtain ⟨v,h⟩:=yB H
  obtain ⟨ao,g,cap,rfl,r1,r2,r3,-,-,r6,-⟩:=lm 1 h rfl
  obtain rfl:=r3 (by omega)
  have e1:=r6 _ _ (oB hkl).1
  have e2 : w.cell? ⟨g,n * 2,none⟩ = some (.int .i64 (m.kind n)):=e1
  obtain ⟨c,f⟩:=ld 0 h rfl
  by_cases h1 : m.kind n = 1
  ·have e : m.clear n = (0,m):=by unfold ImgM.clear; rw [ht,zt rfl,zt h1]
   rw [e]
   rw [h1] at e2
   clear hth e ht e1 r3 r6 h1
   go_enter Tryz.func65,Tryz.ntmps65
   go_wp2_with fail
   refine HT.out.mono ?_
   rintro e w' ⟨rfl,rfl⟩
   go_wp2_with fail
   go_ret
   exact ⟨rfl,zR _,H⟩
  ·have e : m.clear n = m.setE n (1,0):=by unfold ImgM.clear; rw [ht,zt rfl,zq h1,zn]
   rw [e]
   have t1 : (m.kind n == 1) = false:=zb.2 h1
   have HS:=zh (Qx b bd bh m hm hw hp n hkl 1 0 rfl R w H)
   clear hth e ht e1 r3 r6 h1
   generalize m.kind n = kd at *
   generalize m.setE n (1,0) = S at *
   go_enter Tryz.func65,Tryz.ntmps65
   go_wp2_with fail
   refine HT.out.mono ?_
   rintro e w' ⟨rfl,rfl⟩
   go_wp2_with fail
   refine HS.out.mono ?_
   rintro e w' ⟨rfl,hx,h2⟩
   go_wp2_with fail
   go_ret
   exact ⟨rfl,hx,h2⟩
def ImgM.openB (m : ImgM) (p : Int) : Bool:=!(m.t.contains ((2,p) : Ent)) && !(m.held.contains p)

def BA (P : Nat) (t : List Ent) : List Value:=(List.range P).map fun (q : Nat)=>Value.bool (t.contains ((2,(q : Int)) : Ent))
theorem Iu (P : Nat) (t : List Ent) : (BA P t).length = P:=by simp [BA]
theorem EU (P : Nat) (t : List Ent) {q : Nat} (h : q < P) : (BA P t)[q]? = some (.bool (t.contains ((2,(q : Int)) : Ent))):=by simp [BA,h]
theorem TM (P : Nat) : BA P [] = List.replicate P (.bool false):=by
 unfold BA
 apply List.ext_getElem
 ·simp
 ·intro i h1 h2; simp
theorem TV (P : Nat) (t : List Ent) {q : Nat} (h : q < P) : BA P (t++[(2,(q : Int))]) = (BA P t).set q (.bool true):=by
 apply List.ext_getElem?
 intro j
 rw [List.getElem?_set]
 by_cases hj : j < P
 ·rw [EU _ _ hj]
  by_cases e : q = j
  ·subst e; rw [zt rfl,zt (by rw [Iu]; exact h)]; simp
  ·rw [zq e,EU _ _ hj,List.contains_append]
   congr 2
   have : ((2,(j : Int)) : Ent)≠(2,(q : Int)):=fun h=>e (by have:=(Prod.mk.inj h).2; omega)
   simp [List.contains_cons,this]
 ·have h1 : (BA P (t++[(2,(q : Int))]))[j]? = none:=List.getElem?_eq_none (by rw [Iu]; omega)
  have h2 : (BA P t)[j]? = none:=List.getElem?_eq_none (by rw [Iu]; omega)
  rw [h1,h2]
  split
  ·omega
  ·rfl
theorem Px (P : Nat) (t : List Ent) {e : Ent} (h : e.1≠2) : BA P (t++[e]) = BA P t:=by
 unfold BA
 apply List.map_congr_left
 intro q _
 rw [List.contains_append]
 have : ((2,(q : Int)) : Ent)≠e:=fun h'=>h (by rw [<- h'])
 simp [List.contains_cons,this]
def ImgM.freeP (m : ImgM) : Int:=match (List.range m.p.toNat).find? fun (q : Nat)=>m.openB q with
 | some q=>q
 | none=>-1
theorem QY {m : ImgM} {P q : Nat} (hP : m.p = P) (hq : q < P) (ho : m.openB q = true) (hn : ∀j : Nat,j < q -> m.openB j = false) : m.freeP = q:=by
 unfold ImgM.freeP
 rw [hP,zn]
 have : (List.range P).find? (fun (q : Nat)=>m.openB q) = some q:=by
  rw [List.find?_range_eq_some]
  exact ⟨ho,by simpa using hq,fun j hj=>by simp [hn j hj]⟩
 rw [this]
theorem SY {m : ImgM} {P : Nat} (hP : m.p = P) (hn : ∀j : Nat,j < P -> m.openB j = false) : m.freeP = -1:=by
 unfold ImgM.freeP
 rw [hP,zn]
 have : (List.range P).find? (fun (q : Nat)=>m.openB q) = none:=by
  rw [List.find?_eq_none]
  intro j hj
  simp [hn j (List.mem_range.1 hj)]
 rw [this]
theorem UN (b bd bh : Nat) (m : ImgM) (hm : m.Ok) (R : List SL.HP) (w : World) (H : own w (lL b bd bh m::R)) :
  Calls Tryz.prog 170 #[.pointer (some ⟨b,0,none⟩)] w fun e w'=>e = .returned (.int .i64 m.freeP) /\ Ext w w' /\ own w' (lL b bd bh m::R):=by
 obtain ⟨C,hC,q1,q2,q3,q4,q5,q6,-⟩:=hm.nat
 obtain ⟨P,hP⟩:=ze q5
 have hsome:=fun (q : Nat)=>@QY m P q hP
 have hnone:=SY hP
 have hents:=hm.ents
 rw [hP] at hents
 have HEN:=zh hents
 have HSO:=zh hsome
 have HNO:=zh hnone
 generalize m.freeP = F at *
 obtain ⟨v,h⟩:=yB H
 obtain ⟨ao,g,cap,rfl,r1,r2,-,-,-,-,-⟩:=lm 1 h rfl
 rw [hP] at h q6
 have HP:=zh hP
 have l2 : m.t.length <= 32:=by omega
 have hml : P <= maxLen:=by simp only [maxLen]; omega
 obtain ⟨c,f⟩:=ld 0 h rfl
 clear hsome hnone hC q3 q5 hents hP
 go_enter Tryz.func170,Tryz.ntmps170
 go_wp2_with (first | (refine CO rfl _ _ 43 rfl 4 Tryz.underlying43 Kk rfl .i64 .i64 P rfl rfl (by omega) hml h ?_))
 intro w1 h1 hx1
 try simp only [Nat.mul_one] at h1
 try rw [show (Value.bool false).cells = #[.bool false] from rfl] at h1
 rw [toList_madeCells_one,<- TM] at h1
 clear c f
 generalize w.heap.size = gu at *
 obtain ⟨c,f⟩:=ld 1 h1 rfl
 go_wp2_with fail
 clear c f
 go_loopw [19] (fun i wr=>∃q : Nat,q <= m.t.length /\ i = .int .i64 q /\ Ext w wr /\ own wr (row 4 1 (.slice (some ⟨gu,0,none⟩) P P) P (BA P (m.t.take q))::pts b (.cells #[.pointer (some ⟨bd,0,none⟩),.int .i64 m.c,.int .i64 (P : Int),.int .i64 m.b,.slice ao m.t.length cap,.map (some bh)] 218 (0,0))::row 221 2 (.slice ao m.t.length cap) m.t.length (lY m.t)::Aj bh m.held::R)) (fun i _=>m.t.length - (intOf i).toNat)
 case atStart=>exact ⟨0,by omega,rfl,hx1,h1⟩
 case round=>
  clear h1 hx1
  obtain ⟨q,hq,rfl,hxr,hown⟩:=hrel
  by_cases hlt : q < m.t.length
  ·obtain ⟨ao',g',cap',hv',-,-,r3,-,-,r6,-⟩:=lm 2 hown rfl
   simp only [Value.slice.injEq,true_and] at hv'
   obtain ⟨rfl,rfl⟩:=hv'
   obtain rfl:=r3 (by omega)
   have x1 : wr.cell? ⟨g',q * 2,none⟩ = some (.int .i64 (ent m.t q).1):=r6 _ _ (oB hlt).1
   have x2 : wr.cell? ⟨g',q * 2 + 1,none⟩ = some (.int .i64 (ent m.t q).2):=r6 _ _ (oB hlt).2
   have hst : m.t.take (q + 1) = m.t.take q++[ent m.t q]:=yU (0,0) hlt
   have hok:=HEN.out (ent m.t q) (by unfold ent; simp [hlt])
   clear r3 r6
   generalize ent m.t q = x at *
   obtain ⟨xa,xb⟩:=x
   dsimp only at x1 x2
   have HST:=zh hst
   clear hst
   go_upto_region 5 with (fail)
   have ha:=lh hown (.cells #[.int .i64 xa,.int .i64 xb] 221)
   have hxa:=hxr.alloc (.cells #[.int .i64 xa,.int .i64 xb] 221)
   clear x1 x2 hown hxr
   generalize wr.heap.size = gx at *
   generalize wr.alloc (.cells #[.int .i64 xa,.int .i64 xb] 221) = wa at *
   obtain ⟨c,f⟩:=ld 0 ha rfl
   by_cases h2 : xa = 2
   ·subst h2
    have hr : 0 <= xb /\ xb < (P : Int):=by unfold lK at hok; simpa using hok
    obtain ⟨y,rfl⟩:=ze hr.1
    have hy : y < P:=by omega
    obtain ⟨k2,k3⟩:=oa 1 ha rfl
    have cu:=k2 y _ (EU P (m.t.take q) hy)
    clear k2 hok hr
    have i1 : (0 : Int) <= (y : Int):=by omega
    have i2 : (y : Int) < (P : Int):=by omega
    go_wp2_with fail
    go_roundw
    case rel=>
     have h5:=z8 1 y (.bool true) ha rfl (by omega)
     refine ⟨q + 1,by omega,by go_num,hxa.setCell _ _,?_⟩
     rw [HST.out,TV P _ hy]
     exact lg h5
    case measure=>simp [intOf]; omega
   ·have t2 : (xa == 2) = false:=zb.2 h2
    have HN:=zh h2
    clear h2 hok
    go_wp2_with fail
    go_roundw
    case rel=>exact ⟨q + 1,by omega,by go_num,hxa,by rw [HST.out,Px P _ HN.out]; exact lg ha⟩
    case measure=>simp [intOf]; omega
  ·have hqe : q = m.t.length:=by omega
   subst hqe
   rw [List.take_length] at hown
   obtain ⟨k2,-⟩:=oa 0 hown rfl
   have K2:=zh (fun (y : Nat) (hy : y < P)=>k2 y _ (EU P m.t hy))
   have HL:=zh (fun x=>PZ 3 hown rfl x)
   obtain ⟨c,f⟩:=ld 1 hown rfl
   clear k2
   have hfin : own wr (lL b bd bh m::R):=yc (v:=.slice ao m.t.length cap) (by rw [HP.out]; exact lg hown)
   clear hown hlt
   go_wp2_with fail
   go_loop [33] (fun i=>∃q : Nat,q <= P /\ i = .int .i64 q /\ ∀j : Nat,j < q -> m.openB j = false) (fun i=>P - (intOf i).toNat)
   case atStart=>exact ⟨0,by omega,rfl,fun j h=>absurd h (by omega)⟩
   case round=>
    obtain ⟨q,hq,rfl,hj⟩:=hrel
    have HJ:=zh hj
    clear hj
    by_cases hlt : q < P
    ·have cq:=K2.out q hlt
     have hlk:=HL.out q
     have i1 : (0 : Int) <= (q : Int):=by omega
     have i2 : (q : Int) < (P : Int):=by omega
     have hob : m.openB q = (!(m.t.contains ((2,(q : Int)) : Ent)) && !(decide ((q : Int)∈m.held))):=by unfold ImgM.openB; simp
     cases hc : m.t.contains ((2,(q : Int)) : Ent)
     ·rw [hc] at cq hob
      by_cases hin : (q : Int)∈m.held
      ·rw [zg hin] at hlk hob
       have HOB:=zh hob
       clear hob hc hin
       go_wp2_with fail
       go_round
       case rel=>exact ⟨q + 1,by omega,by go_num,fun j h=>by
        by_cases e : j = q
        ·subst e; rw [HOB.out]; rfl
        ·exact HJ.out j (by omega)⟩
       case measure=>simp [intOf]; omega
      ·rw [zf hin] at hlk hob
       have hF:=HSO.out q hlt (by rw [hob]; rfl) HJ.out
       have HF:=zh hF
       clear hob hc hin hF
       go_wp2_with fail
       go_ret
       exact ⟨Dg (by rw [HF.out]),hxr,hfin⟩
     ·rw [hc] at cq hob
      have HOB:=zh hob
      clear hob hc
      go_wp2_with fail
      go_round
      case rel=>exact ⟨q + 1,by omega,by go_num,fun j h=>by
       by_cases e : j = q
       ·subst e; rw [HOB.out]; rfl
       ·exact HJ.out j (by omega)⟩
      case measure=>simp [intOf]; omega
    ·have hqe : q = P:=by omega
     subst hqe
     have hF:=HNO.out HJ.out
     have HF:=zh hF
     clear hF
     go_wp2_with fail
     go_ret
     exact ⟨Dg (by rw [HF.out]),hxr,hfin⟩
def DevM.puts (m : DevM) (at_ : Int) : List ByteArray -> Int×DevM
 | []=>(0,m)
 | s::l=>if (m.write at_ s).1≠0 then m.write at_ s else (m.write at_ s).2.puts (at_ + 1) l
def lB (s : ByteArray) (n : Nat) : List ByteArray:=(List.range n).map (lw s)
theorem Ii (s : ByteArray) {n k : Nat} (h : k < n) : (lB s n).drop k = lw s k::(lB s n).drop (k + 1):=by
 rw [List.drop_eq_getElem_cons (by simp [lB]; exact h)]
 simp [lB]
theorem Ja (s : ByteArray) (n : Nat) : (lB s n).drop n = []:=List.drop_of_length_le (by simp [lB])
theorem yJ (m : DevM) (n : Int) (s : ByteArray) : (m.write n s).2.fl.length = m.fl.length /\ (m.write n s).2.pend.length <= m.pend.length + 1 /\ (m.write n s).2.writes <= m.writes + 1:=by
 unfold DevM.write
 split
 ·exact ⟨rfl,by dsimp only; omega,by dsimp only; omega⟩
 ·split
  ·exact ⟨rfl,by dsimp only; omega,by dsimp only; omega⟩
  ·exact ⟨rfl,by simp,by dsimp only; omega⟩
def Ul (L : DevM -> List HP) (d : DevM) (at_ : Int) (s : ByteArray) (n : Nat) (res : Int×DevM) (w0 : World) (i : Value) (wr : World) : Prop:=
 ∃(k : Nat) (dk : DevM),k <= n /\ i = .int .i64 k /\ dk.puts (at_ + k) ((lB s n).drop k) = res /\ dk.Ok /\ dk.pend.length <= d.pend.length + k /\ dk.writes <= d.writes + k /\ Ext w0 wr /\ own wr (L dk)
def ImgM.wrBad (m : ImgM) (k fr : Int) (s : ByteArray) : Prop:=m.there k = false \/ fr < 0 \/ 4 < fr \/ s.size % 16≠0 \/ 16 * (4 - fr) < (s.size : Int)
instance (m : ImgM) (k fr : Int) (s : ByteArray) : Decidable (m.wrBad k fr s):=by unfold ImgM.wrBad; infer_instance
def ImgM.wr (m : ImgM) (k fr : Int) (s : ByteArray) : Int×ImgM:=
 if m.wrBad k fr s then (1,m) else if m.kind k≠2 then (4,m)
 else ((m.d.puts (m.first (ent m.t k.toNat).2 + fr) (lB s (s.size / 16))).1,{ m with d:=(m.d.puts (m.first (ent m.t k.toNat).2 + fr) (lB s (s.size / 16))).2 })
theorem PE {m : ImgM} {k fr : Int} {s : ByteArray} (h : m.wrBad k fr s) : m.there k = false \/ (m.there k = true /\ fr < 0) \/ (m.there k = true /\ 0 <= fr /\ 4 < fr) \/ (m.there k = true /\ 0 <= fr /\ fr <= 4 /\ 0 < (s.size : Int) % 16) \/ (m.there k = true /\ 0 <= fr /\ fr <= 4 /\ (s.size : Int) % 16 = 0 /\ 16 * (4 - fr) < (s.size : Int)):=by
 unfold ImgM.wrBad at h
 cases ht : m.there k
 ·exact .inl rfl
 ·rw [ht] at h
  have h' : fr < 0 \/ 4 < fr \/ s.size % 16≠0 \/ 16 * (4 - fr) < (s.size : Int):=h.resolve_left (by simp)
  clear h
  right
  by_cases h1 : fr < 0
  ·exact .inl ⟨rfl,h1⟩
  ·by_cases h2 : 4 < fr
   ·exact .inr (.inl ⟨rfl,by omega,h2⟩)
   ·by_cases h3 : s.size % 16 = 0
    ·exact .inr (.inr (.inr ⟨rfl,by omega,by omega,by omega,by omega⟩))
    ·exact .inr (.inr (.inl ⟨rfl,by omega,by omega,by omega⟩))
theorem Jy {m : ImgM} (hm : m.Ok) {y : Int} (h0 : 0 <= y) (h1 : y <= 40) : 1 <= m.first y /\ m.first y <= 165:=by
 obtain ⟨C,hC,q1,q2,q3,q4,-⟩:=hm.nat
 unfold ImgM.first
 rw [hC,zn]
 omega
theorem zE {m : ImgM} (hm : m.Ok) {k : Nat} (hk : k < m.t.length) (h2 : (ent m.t k).1 = 2) : 0 <= (ent m.t k).2 /\ (ent m.t k).2 < m.p:=by
 have h:=hm.ents (ent m.t k) (by unfold ent; simp [hk])
 unfold lK at h
 rw [zt h2] at h
 simpa using h
theorem Va (b bd bh : Nat) (m : ImgM) (hm : m.Ok) (hp : m.d.pend.length < 999000) (hw : m.d.writes < 999000) (k fr : Int) (f0 : yb fr) (s : ByteArray) (hs : s.size <= 9223372036854775807) (R : List SL.HP) (w : World) (H : own w (lL b bd bh m::lj bd m.d::R)) :
  Calls Tryz.prog 259 #[.pointer (some ⟨b,0,none⟩),.int .i64 k,.int .i64 fr,.string s] w fun e w'=>e = .returned (errV (m.wr k fr s).1) /\ Ext w w' /\ own w' (lL b bd bh (m.wr k fr s).2::lj bd (m.wr k fr s).2.d::R):=by
 have hth:=DJ b bd bh m k _ w H
 obtain ⟨f1,f2⟩:=f0
 by_cases hb : m.wrBad k fr s
 ·have e : m.wr k fr s = (1,m):=by unfold ImgM.wr; rw [zt hb]
  rw [e]
  rcases PE hb with ht | ⟨ht,g1⟩ | ⟨ht,g1,g2⟩ | ⟨ht,g1,g2,g3⟩ | ⟨ht,g1,g2,g3,g4⟩
  all_goals
   rw [ht] at hth
   have HT:=zh hth
   clear hth e ht hb
   go_enter Tryz.func259,Tryz.ntmps259
   go_wp2_with fail
   refine HT.out.mono ?_
   rintro e w' ⟨rfl,rfl⟩
   go_wp2_with fail
   go_ret
   exact ⟨rfl,zR _,H⟩
 ·have hb':=hb
  unfold ImgM.wrBad at hb'
  have ht : m.there k = true:=by cases h : m.there k; exact absurd (.inl h) hb'; rfl
  have g1 : 0 <= fr:=by omega
  have g2 : fr <= 4:=by omega
  have g3 : (s.size : Int) % 16 = 0:=by omega
  have g4 : (s.size : Int) <= 16 * (4 - fr):=by omega
  have g4' : (s.size : Int) <= (4 - fr) * 16:=by omega
  obtain ⟨k0,-,hkl⟩:=oW hm ht
  obtain ⟨n,rfl⟩:=ze k0
  rw [zn] at hkl
  rw [ht] at hth
  have HT:=zh hth
  obtain ⟨v,h⟩:=yB H
  obtain ⟨ao,g,cap,rfl,r1,r2,r3,-,-,r6,-⟩:=lm 1 h rfl
  obtain rfl:=r3 (by omega)
  have x1 : w.cell? ⟨g,n * 2,none⟩ = some (.int .i64 (m.kind n)):=r6 _ _ (oB hkl).1
  have x2 : w.cell? ⟨g,n * 2 + 1,none⟩ = some (.int .i64 (ent m.t n).2):=r6 _ _ (oB hkl).2
  obtain ⟨c,f⟩:=ld 0 h rfl
  by_cases h1 : m.kind n = 2
  ·have e : m.wr n fr s = ((m.d.puts (m.first (ent m.t n).2 + fr) (lB s (s.size / 16))).1,{ m with d:=(m.d.puts (m.first (ent m.t n).2 + fr) (lB s (s.size / 16))).2 }):=by
    unfold ImgM.wr
    rw [zq hb,zq (by simpa using h1),zn]
   generalize m.wr n fr s = S at *
   have HE:=zh e
   obtain ⟨y0,y1⟩:=zE hm hkl h1
   obtain ⟨C,hC,q1,q2,q3,q4,q5,q6,-⟩:=hm.nat
   obtain ⟨F0,F1⟩:=Jy hm y0 (by omega)
   have hget:=(oB (l:=m.t) hkl).2
   have HGET : Hid ((lY m.t)[n * 2 + 1]? = some (.int .i64 (ent m.t n).2)):=zh hget
   rw [h1] at x1
   obtain ⟨N,hN⟩ : ∃N : Nat,s.size = 16 * N:=⟨s.size / 16,by omega⟩
   have hN16 : s.size / 16 = N:=by omega
   rw [hN16] at HE
   have n4 : N <= 4:=by omega
   have HN:=zh hN
   have y2 : (ent m.t n).2 <= 40:=by omega
   have HFI:=zh (fun (R : List SL.HP) (w : World) (H : own w (lL b bd bh m::R))=>Im b bd bh m hm (ent m.t n).2 y0 (by omega) R w H)
   generalize (ent m.t n).2 = y at *
   generalize m.first y = F at *
   generalize hres : m.d.puts (F + fr) (lB s N) = res at *
   have HRES:=zh hres
   have hd:=hm.d
   clear hth e ht r3 r6 hb hb' h1 hN hN16 hC q1 q2 q3 q4 q5 q6 hres hget
   have i1 : (0 : Int) <= (n : Int):=by omega
   have i2 : (n : Int) < (m.t.length : Int):=by omega
   go_enter Tryz.func259,Tryz.ntmps259
   go_wp2_with fail
   refine HT.out.mono ?_
   rintro e w' ⟨rfl,rfl⟩
   go_wp2_with fail
   go_loopw [9] (Ul (fun dk=>lL b bd bh m::lj bd dk::R) m.d (F + fr) s N res w) (fun i _=>N - (intOf i).toNat)
   case atStart=>exact ⟨0,m.d,by omega,rfl,by simpa using HRES.out,hd,by omega,by simp,zR _,H⟩
   case round=>
    obtain ⟨q,dk,hq,rfl,hput,okd,hpk,hwk,hxr,hown⟩:=hrel
    clear c f x1 x2 h
    by_cases hlt : q < N
    ·rw [Ii s hlt] at hput
     have HPUT:=zh hput
     clear hput
     have b0 : (q : Int) * 16 < (s.size : Int):=by have:=HN.out; omega
     have b1 : (0 : Int) <= (q : Int) * 16:=by omega
     have b2 : (q : Int) * 16 <= ((q : Int) + 1) * 16:=by omega
     have b3 : ((q : Int) + 1) * 16 <= (s.size : Int):=by have:=HN.out; omega
     have hsl : ∀wx : World,(Instr.slice 9 (.string s) (some (.int .i64 ((q : Int) * 16))) (some (.int .i64 (((q : Int) + 1) * 16))) none).run Tryz.prog wx = .ok (.string (lw s q)) wx:=fun wx=>by
      have:=run_slice_string (P:=Tryz.prog) wx 9 s .i64 .i64 ((q : Int) * 16) (((q : Int) + 1) * 16) Tryz.underlying9 b1 b2 b3
      rw [this,lw,show ((q : Int) * 16).toNat = q * 16 from by omega,show (((q : Int) + 1) * 16).toNat = (q + 1) * 16 from by omega]
     have hcs : (lw s q).size = 16:=by unfold lw; rw [ByteArray.size_extract]; have:=HN.out; omega
     have e1 : IntKind.i64.wrap ((q : Int) * 16) = (q : Int) * 16:=zi _ (by omega)
     have e2 : IntKind.i64.wrap ((q : Int) + 1) = (q : Int) + 1:=zi _ (by omega)
     have e2' : IntKind.i64.wrap (((q : Int) + 1) * 16) = ((q : Int) + 1) * 16:=zi _ (by omega)
     have e3 : IntKind.i64.wrap (F + fr) = F + fr:=zi _ (by omega)
     have e4 : IntKind.i64.wrap (F + fr + (q : Int)) = F + fr + (q : Int):=zi _ (by omega)
     have hcode:=o5 dk (F + fr + (q : Int)) (lw s q)
     obtain ⟨l1,l2,l3⟩:=yJ dk (F + fr + (q : Int)) (lw s q)
     have okw:=DevM.write_ok okd (F + fr + (q : Int)) (lw s q) (by omega) (by omega)
     have HW:=zh (fun (R : List SL.HP) (w : World) (H : own w (lj bd dk::R))=>BP bd dk okd (F + fr + (q : Int)) (lw s q) (by omega) (by omega) (by omega) R w H)
     have hstep : dk.puts (F + fr + (q : Int)) (lw s q::(lB s N).drop (q + 1)) = if (dk.write (F + fr + (q : Int)) (lw s q)).1≠0 then dk.write (F + fr + (q : Int)) (lw s q) else (dk.write (F + fr + (q : Int)) (lw s q)).2.puts (F + fr + (q : Int) + 1) ((lB s N).drop (q + 1)):=rfl
     rw [HPUT.out] at hstep
     have HST:=zh hstep
     clear hstep l1
     generalize dk.write (F + fr + (q : Int)) (lw s q) = r at *
     generalize lw s q = ck at *
     obtain ⟨v,h⟩:=yB hown
     obtain ⟨ao2,g2,cap2,rfl,-,-,t3,-,-,t6,-⟩:=lm 1 h rfl
     obtain rfl:=t3 (by omega)
     clear t3 t6
     have hd1:=ln h
     go_upto_region 8 with (fail)
     go_region_held3 (fun w'=>w'.cell? ⟨b,0,none⟩ = some (.pointer (some ⟨bd,0,none⟩)) /\ w'.cell? ⟨b,4,none⟩ = some (.slice (some ⟨g2,0,none⟩) m.t.length cap2) /\ w'.cell? ⟨g2,n * 2 + 1,none⟩ = some (.int .i64 y)) (first | exact ⟨(ld 0 hd1 rfl).1 0,(ld 0 hd1 rfl).1 4,(oa 1 hd1 rfl).1 _ _ HGET.out⟩ | exact ⟨(ld 0 h4 rfl).1 0,(ld 0 h4 rfl).1 4,(oa 1 h4 rfl).1 _ _ HGET.out⟩) (first | (go_at_call 171; refine (HFI.out _ _ (yc hd1)).mono ?_; rintro e w' ⟨rfl,rfl⟩) | (go_at_call 160; refine (HW.out _ _ (lE 3 hd1 rfl)).mono ?_; rintro e w4 ⟨rfl,hx4,h4'⟩; have h4:=oT hd1 3 rfl h4'))
     have h5 : own w4 (lL b bd bh m::lj bd r.2::R):=yc h4
     have hx5:=hxr.drew.trans hx4
     clear e1 e2 e2' e3 e4 hsl h4 h4' hd1 h
     by_cases hz : r.1 = 0
     ·have HZ:=zh hz
      rw [hz,lS]
      clear hz
      go_wp2_with fail
      go_roundw
      case rel=>exact ⟨q + 1,r.2,by omega,by go_num,by have:=HST.out; rw [zq (by simpa using HZ.out)] at this; rw [this]; congr 1; omega,okw,by omega,by omega,hx5,h5⟩
      case measure=>simp [intOf]; omega
     ·have hfin : res = r:=by have:=HST.out; rw [zt hz] at this; exact this
      have HF:=zh hfin
      have hpz : 0 < r.1:=by omega
      have HPE:=zh (lv hpz)
      rw [lv hpz]
      clear hz hfin
      go_wp2_with fail
      go_ret
      rw [HE.out,HF.out]
      exact ⟨by rw [HPE.out]; rfl,hx5,h5⟩
    ·have hqe : q = N:=by omega
     subst hqe
     rw [Ja,DevM.puts] at hput
     have HF:=zh hput
     have b0 : (s.size : Int) <= (q : Int) * 16:=by have:=HN.out; omega
     clear hput hlt
     go_wp2_with fail
     go_ret
     rw [HE.out,<- HF.out]
     exact ⟨rfl,hxr,hown⟩
  ·have e : m.wr n fr s = (4,m):=by unfold ImgM.wr; rw [zq hb,zt h1]
   rw [e]
   have t1 : (m.kind n != 2) = true:=bne_iff_ne.2 h1
   clear hth e ht r3 r6 hb hb' h1
   generalize m.kind n = kd at *
   have i1 : (0 : Int) <= (n : Int):=by omega
   have i2 : (n : Int) < (m.t.length : Int):=by omega
   go_enter Tryz.func259,Tryz.ntmps259
   go_wp2_with fail
   refine HT.out.mono ?_
   rintro e w' ⟨rfl,rfl⟩
   go_wp2_with fail
   go_ret
   exact ⟨rfl,zR _,H⟩
def ImgM.flush (m : ImgM) : ImgM:={ m with d:=m.d.flush,held:=[] }
theorem CR (b bd bh : Nat) (m : ImgM) (hd : m.d.Ok) (R : List SL.HP) (w : World) (H : own w (lL b bd bh m::lj bd m.d::R)) :
  Calls Tryz.prog 172 #[.pointer (some ⟨b,0,none⟩)] w fun e w'=>e = .returned (.tuple #[]) /\ Ext w w' /\ own w' (lL b bd bh m.flush::lj bd m.d.flush::R):=by
 obtain ⟨v,h⟩:=yB H
 obtain ⟨c,f⟩:=ld 0 h rfl
 go_enter Tryz.func172,Tryz.ntmps172
 go_wp2_with fail
 refine (Cz bd m.d hd _ w (lE 3 h rfl)).mono ?_
 rintro e w2 ⟨rfl,hx2,h2⟩
 have h3:=oT h 3 rfl h2
 clear c f h2
 obtain ⟨c,f⟩:=ld 0 h3 rfl
 obtain ⟨w4,hr,h4,hx4⟩:=SB 2 h3 rfl 0
 go_wp2_with fail
 go_end0
 exact ⟨rfl,hx2.trans hx4,yc (m:=m.flush) h4⟩
theorem Em {l : List ByteArray} : ∀{d : DevM} {a : Int},d.Ok -> d.pend.length + l.length <= 1000000 -> d.writes + l.length <= 1000000 ->
  (d.puts a l).2.Ok /\ (d.puts a l).2.fl.length = d.fl.length /\ (d.puts a l).2.pend.length <= d.pend.length + l.length /\ (d.puts a l).2.writes <= d.writes + l.length:=by
 induction l with
 | nil=>intro d a h _ _; exact ⟨h,rfl,by simp [DevM.puts],by simp [DevM.puts]⟩
 | cons s l ih=>
  intro d a h hp hw
  simp only [List.length_cons] at hp hw ⊢
  have hok:=DevM.write_ok h a s (by omega) (by omega)
  obtain ⟨l1,l2,l3⟩:=yJ d a s
  rw [DevM.puts]
  split
  ·exact ⟨hok,l1,by omega,by omega⟩
  ·obtain ⟨i1,i2,i3,i4⟩:=ih (a:=a + 1) hok (by omega) (by omega)
   exact ⟨i1,by omega,by omega,by omega⟩
theorem By {l : List ByteArray} : ∀{d : DevM} {a : Int},0 <= (d.puts a l).1:=by
 induction l with
 | nil=>intro d a; simp [DevM.puts]
 | cons s l ih=>
  intro d a
  rw [DevM.puts]
  split
  ·exact o5 _ _ _
  ·exact ih
theorem JT {m : ImgM} (hm : m.Ok) {d : DevM} (hd : d.Ok) (hl : d.fl.length = m.d.fl.length) : ({ m with d:=d } : ImgM).flush.Ok:=
 ⟨DevM.flush_ok hd,hm.head,hm.t,hm.ents,hm.one,List.nodup_nil,(fun x hx=>by cases hx),(fun x hx=>by cases hx),by
  have:=hm.need
  simp only [ImgM.flush,DevM.flush,lP]
  omega⟩
def ImgM.fillAt (m : ImgM) (k : Nat) (s : ByteArray) (p : Int) : Int×ImgM:=
 if (m.d.puts (m.first p) (lB s 4)).1≠0 then ((m.d.puts (m.first p) (lB s 4)).1,{ m with d:=(m.d.puts (m.first p) (lB s 4)).2 })
 else ({ m with d:=(m.d.puts (m.first p) (lB s 4)).2 } : ImgM).flush.setE k (2,p)
def ImgM.fill (m : ImgM) (k : Int) (s : ByteArray) : Int×ImgM:=
 if m.there k = false \/ s.size≠64 then (1,m) else if m.kind k = 2 then (5,m) else if m.freeP < 0 then (6,m) else m.fillAt k.toNat s m.freeP
theorem Bx (m : ImgM) {P : Nat} (hP : m.p = P) : m.freeP = -1 \/ ∃q : Nat,m.freeP = q /\ q < P /\ m.openB q = true /\ ∀j : Nat,j < q -> m.openB j = false:=by
 unfold ImgM.freeP
 rw [hP,zn]
 cases h : (List.range P).find? fun (q : Nat)=>m.openB q with
 | none=>exact .inl rfl
 | some q=>
  rw [List.find?_range_eq_some] at h
  exact .inr ⟨q,rfl,by simpa using h.2.1,h.1,fun j hj=>by simpa using h.2.2 j hj⟩
theorem VZ (b bd bh : Nat) (m : ImgM) (hm : m.Ok) (hp : m.d.pend.length < 999000) (hw : m.d.writes < 999000) (k : Int) (s : ByteArray) (hs : s.size <= 9223372036854775807) (R : List SL.HP) (w : World) (H : own w (lL b bd bh m::lj bd m.d::R)) :
  Calls Tryz.prog 67 #[.pointer (some ⟨b,0,none⟩),.int .i64 k,.string s] w fun e w'=>e = .returned (errV (m.fill k s).1) /\ Ext w w' /\ own w' (lL b bd bh (m.fill k s).2::lj bd (m.fill k s).2.d::R):=by
 have hth:=DJ b bd bh m k _ w H
 cases ht : m.there k
 ·have e : m.fill k s = (1,m):=by unfold ImgM.fill; rw [zt (.inl ht)]
  rw [e]
  rw [ht] at hth
  have HT:=zh hth
  clear hth e ht
  go_enter Tryz.func67,Tryz.ntmps67
  go_wp2_with fail
  refine HT.out.mono ?_
  rintro e w' ⟨rfl,rfl⟩
  go_wp2_with fail
  go_ret
  exact ⟨rfl,zR _,H⟩
 ·rw [ht] at hth
  by_cases h64 : s.size = 64
  ·obtain ⟨k0,-,hkl⟩:=oW hm ht
   obtain ⟨n,rfl⟩:=ze k0
   rw [zn] at hkl
   have HT:=zh hth
   obtain ⟨C,hC,q1,q2,q3,q4,q5,q6,-⟩:=hm.nat
   obtain ⟨P,hP⟩:=ze q5
   have ts : ((s.size : Int) != 64) = false:=by simp [h64]
   obtain ⟨v,h⟩:=yB H
   obtain ⟨ao,g,cap,rfl,r1,r2,r3,-,-,r6,-⟩:=lm 1 h rfl
   obtain rfl:=r3 (by omega)
   have x1 : w.cell? ⟨g,n * 2,none⟩ = some (.int .i64 (m.kind n)):=r6 _ _ (oB hkl).1
   obtain ⟨c,f⟩:=ld 0 h rfl
   have i1 : (0 : Int) <= (n : Int):=by omega
   have i2 : (n : Int) < (m.t.length : Int):=by omega
   have hS64:=zh h64
   by_cases h1 : m.kind n = 2
   ·have e : m.fill n s = (5,m):=by unfold ImgM.fill; rw [zq (by rw [ht,h64]; simp),zt h1]
    rw [e]
    rw [h1] at x1
    clear hth e ht r3 r6 h1 h64 hC q1 q2 q3 q4 q5 q6 hP
    go_enter Tryz.func67,Tryz.ntmps67
    go_wp2_with fail
    refine HT.out.mono ?_
    rintro e w' ⟨rfl,rfl⟩
    go_wp2_with fail
    go_ret
    exact ⟨rfl,zR _,H⟩
   ·have e : m.fill n s = if m.freeP < 0 then (6,m) else m.fillAt n s m.freeP:=by unfold ImgM.fill; rw [zq (by rw [ht,h64]; simp),zq h1,zn]
    have t1 : (m.kind n == 2) = false:=zb.2 h1
    generalize m.fill n s = S at *
    have HE:=zh e
    have hs64 : s.size <= 64:=by omega
    have lt32 : m.t.length <= 32:=by omega
    have hrange : ∀q : Nat,q < P -> lK (2,(q : Int)) m.p = true:=fun q hq=>by
     unfold lK
     rw [zt rfl,hP]
     simp only [Bool.and_eq_true,decide_eq_true_eq]
     omega
    have HRG:=zh hrange
    have HP:=zh hP
    have p40 : P <= 40:=by omega
    have HFI:=zh (fun (q : Nat) (hq : q < P)=>Jy hm (y:=(q : Int)) (by omega) (by omega))
    clear hth e ht r3 r6 h1 h64 hC q1 q2 q3 q4 hrange
    generalize m.kind n = kd at *
    have HFR:=zh (UN b bd bh m hm _ w H)
    rcases Bx m hP with hf | ⟨q,hf,hq,-,-⟩
    ·have hS : S = (6,m):=by rw [HE.out,zt (by omega)]
     have HS:=zh hS
     rw [hf] at HFR
     clear hS hf q5 q6 hP
     go_enter Tryz.func67,Tryz.ntmps67
     go_wp2_with fail
     refine HT.out.mono ?_
     rintro e w' ⟨rfl,rfl⟩
     go_wp2_with fail
     refine HFR.out.mono ?_
     rintro e w2 ⟨rfl,hx2,h2⟩
     go_wp2_with fail
     go_ret
     rw [HS.out]
     exact ⟨rfl,hx2,h2⟩
    ·have hS : S = m.fillAt n s q:=by rw [HE.out,zq (by omega),hf]
     have HS:=zh hS
     rw [hf] at HFR
     have hok:=HRG.out q hq
     obtain ⟨F0,F1⟩:=HFI.out q hq
     have HF1:=zh (fun (R : List SL.HP) (w : World) (H : own w (lL b bd bh m::R))=>Im b bd bh m hm (q : Int) (by omega) (by omega) R w H)
     have hfa : m.fillAt n s q = if (m.d.puts (m.first q) (lB s 4)).1≠0 then ((m.d.puts (m.first q) (lB s 4)).1,{ m with d:=(m.d.puts (m.first q) (lB s 4)).2 }) else ({ m with d:=(m.d.puts (m.first q) (lB s 4)).2 } : ImgM).flush.setE n (2,(q : Int)):=rfl
     rw [hfa] at hS
     obtain ⟨P1,P2,P3,P4⟩:=Em (l:=lB s 4) (a:=m.first q) hm.d (by simp [lB]; omega) (by simp [lB]; omega)
     have hnn:=By (l:=lB s 4) (d:=m.d) (a:=m.first q)
     have hcl : (lB s 4).length = 4:=by simp [lB]
     generalize m.first q = F at *
     generalize hres : m.d.puts F (lB s 4) = res at *
     have HRES:=zh hres
     have hd:=hm.d
     have HSS:=zh hS
     have hokm:=JT hm P1 P2
     have hfl:=fun (R : List SL.HP) (w : World) (H : own w (lL b bd bh m::lj bd res.2::R))=>CR b bd bh { m with d:=res.2 } P1 R w H
     have HFL:=zh hfl
     have HST:=zh (fun (R : List SL.HP) (w : World) (H : own w (lL b bd bh ({ m with d:=res.2 } : ImgM).flush::lj bd res.2.flush::R))=>Qx b bd bh ({ m with d:=res.2 } : ImgM).flush hokm (show res.2.flush.writes < 1000000 by simp only [DevM.flush]; omega) (show res.2.flush.pend.length < 1000000 by simp [DevM.flush]) n hkl 2 (q : Int) hok R w H)
     generalize ({ m with d:=res.2 } : ImgM).flush.setE n (2,(q : Int)) = S2 at *
     clear hf hS HS hfa hcl hres hok q5 q6 hP hfl
     have i3 : (0 : Int) <= (q : Int):=by omega
     go_enter Tryz.func67,Tryz.ntmps67
     go_wp2_with fail
     refine HT.out.mono ?_
     rintro e w' ⟨rfl,rfl⟩
     go_wp2_with fail
     refine HFR.out.mono ?_
     rintro e w2 ⟨rfl,hx2,h2⟩
     clear c f x1 h
     go_wp2_with fail
     go_loopw [35] (Ul (fun dk=>lL b bd bh m::lj bd dk::R) m.d F s 4 res w) (fun i _=>4 - (intOf i).toNat)
     case atStart=>exact ⟨0,m.d,by omega,rfl,by simpa using HRES.out,hd,by omega,by simp,hx2,h2⟩
     case round=>
      clear h2 hx2
      obtain ⟨j,dk,hj,rfl,hput,okd,hpk,hwk,hxr,hown⟩:=hrel
      by_cases hlt : j < 4
      ·rw [Ii s hlt] at hput
       have HPUT:=zh hput
       clear hput
       have b1 : (0 : Int) <= (j : Int) * 16:=by omega
       have b2 : (j : Int) * 16 <= ((j : Int) + 1) * 16:=by omega
       have b3 : ((j : Int) + 1) * 16 <= (s.size : Int):=by have:=hS64.out; omega
       have hsl : ∀wx : World,(Instr.slice 9 (.string s) (some (.int .i64 ((j : Int) * 16))) (some (.int .i64 (((j : Int) + 1) * 16))) none).run Tryz.prog wx = .ok (.string (lw s j)) wx:=fun wx=>by
        have:=run_slice_string (P:=Tryz.prog) wx 9 s .i64 .i64 ((j : Int) * 16) (((j : Int) + 1) * 16) Tryz.underlying9 b1 b2 b3
        rw [this,lw,show ((j : Int) * 16).toNat = j * 16 from by omega,show (((j : Int) + 1) * 16).toNat = (j + 1) * 16 from by omega]
       have hcs : (lw s j).size = 16:=by unfold lw; rw [ByteArray.size_extract]; have:=hS64.out; omega
       have e1 : IntKind.i64.wrap ((j : Int) * 16) = (j : Int) * 16:=zi _ (by omega)
       have e2 : IntKind.i64.wrap ((j : Int) + 1) = (j : Int) + 1:=zi _ (by omega)
       have e2' : IntKind.i64.wrap (((j : Int) + 1) * 16) = ((j : Int) + 1) * 16:=zi _ (by omega)
       have e4 : IntKind.i64.wrap (F + (j : Int)) = F + (j : Int):=zi _ (by omega)
       have hcode:=o5 dk (F + (j : Int)) (lw s j)
       obtain ⟨l1,l2,l3⟩:=yJ dk (F + (j : Int)) (lw s j)
       have okw:=DevM.write_ok okd (F + (j : Int)) (lw s j) (by omega) (by omega)
       have HW:=zh (fun (R : List SL.HP) (w : World) (H : own w (lj bd dk::R))=>BP bd dk okd (F + (j : Int)) (lw s j) (by omega) (by omega) (by omega) R w H)
       have hstep : dk.puts (F + (j : Int)) (lw s j::(lB s 4).drop (j + 1)) = if (dk.write (F + (j : Int)) (lw s j)).1≠0 then dk.write (F + (j : Int)) (lw s j) else (dk.write (F + (j : Int)) (lw s j)).2.puts (F + (j : Int) + 1) ((lB s 4).drop (j + 1)):=rfl
       rw [HPUT.out] at hstep
       have HSTP:=zh hstep
       clear hstep l1
       generalize dk.write (F + (j : Int)) (lw s j) = r at *
       generalize lw s j = ck at *
       obtain ⟨v,h⟩:=yB hown
       have hd1:=ln h
       go_upto_region 11 with (fail)
       go_region_held3 (fun w'=>w'.cell? ⟨b,0,none⟩ = some (.pointer (some ⟨bd,0,none⟩))) (first | exact (ld 0 hd1 rfl).1 0 | exact (ld 0 h4 rfl).1 0) (first | (go_at_call 171; refine (HF1.out _ _ (yc hd1)).mono ?_; rintro e w' ⟨rfl,rfl⟩) | (go_at_call 160; refine (HW.out _ _ (lE 3 hd1 rfl)).mono ?_; rintro e w4 ⟨rfl,hx4,h4'⟩; have h4:=oT hd1 3 rfl h4'))
       have h5 : own w4 (lL b bd bh m::lj bd r.2::R):=yc h4
       have hx5:=hxr.drew.trans hx4
       clear e1 e2 e2' e4 hsl h4 h4' hd1 h
       by_cases hz : r.1 = 0
       ·have HZ:=zh hz
        rw [hz,lS]
        clear hz
        go_wp2_with fail
        go_roundw
        case rel=>exact ⟨j + 1,r.2,by omega,by go_num,by have:=HSTP.out; rw [zq (by simpa using HZ.out)] at this; rw [this]; congr 1; omega,okw,by omega,by omega,hx5,h5⟩
        case measure=>simp [intOf]; omega
       ·have hfin : res = r:=by have:=HSTP.out; rw [zt hz] at this; exact this
        have hS2 : S = (r.1,{ m with d:=r.2 }):=by rw [HSS.out,hfin,zt hz]
        have HF:=zh hS2
        have hpz : 0 < r.1:=by omega
        have HPE:=zh (lv hpz)
        rw [lv hpz]
        clear hz hfin hS2
        go_wp2_with fail
        go_ret
        rw [HF.out]
        exact ⟨by rw [HPE.out]; rfl,hx5,h5⟩
      ·have hje : j = 4:=by omega
       subst hje
       rw [Ja,DevM.puts] at hput
       have hr0 : res.1 = 0:=by rw [<- hput]
       have hr2 : res.2 = dk:=by rw [<- hput]
       have hS2 : S = S2:=by rw [HSS.out,zq (by simpa using hr0)]
       have HF:=zh hS2
       rw [<- hr2] at hown
       clear hput hlt hS2 hr0 hr2
       go_wp2_with fail
       refine (HFL.out _ wr hown).mono ?_
       rintro e w5 ⟨rfl,hx5,h5⟩
       go_wp2_with fail
       refine (HST.out _ w5 h5).mono ?_
       rintro e w6 ⟨rfl,hx6,h6⟩
       go_wp2_with fail
       go_ret
       rw [HF.out]
       exact ⟨rfl,(hxr.trans hx5).trans hx6,h6⟩
  ·have e : m.fill k s = (1,m):=by unfold ImgM.fill; rw [zt (.inr h64)]
   rw [e]
   have ts : ((s.size : Int) != 64) = true:=by rw [bne_iff_ne]; omega
   clear h64
   have HT:=zh hth
   clear hth e ht
   go_enter Tryz.func67,Tryz.ntmps67
   go_wp2_with fail
   refine HT.out.mono ?_
   rintro e w' ⟨rfl,rfl⟩
   go_wp2_with fail
   go_ret
   exact ⟨rfl,zR _,H⟩
def ImgM.link (m : ImgM) (k : Int) : Int×ImgM:=
 if lH m.c m.p k then (1,m)
 else if (m.d.flush.write 0 (lQ m.c m.p k)).1≠0 then ((m.d.flush.write 0 (lQ m.c m.p k)).1,{ m.flush with d:=(m.d.flush.write 0 (lQ m.c m.p k)).2 })
 else (0,{ m.flush with d:=(m.d.flush.write 0 (lQ m.c m.p k)).2.flush,b:=k })
theorem Wj (b bd bh : Nat) (m : ImgM) (hm : m.Ok) (hw : m.d.writes < 999000) (k : Int) (R : List SL.HP) (w : World) (H : own w (lL b bd bh m::lj bd m.d::R)) :
  Calls Tryz.prog 186 #[.pointer (some ⟨b,0,none⟩),.int .i64 k] w fun e w'=>e = .returned (errV (m.link k).1) /\ Ext w w' /\ own w' (lL b bd bh (m.link k).2::lj bd (m.link k).2.d::R):=by
 obtain ⟨v,h⟩:=yB H
 obtain ⟨c,f⟩:=ld 0 h rfl
 have e : m.link k = if lH m.c m.p k then (1,m) else if (m.d.flush.write 0 (lQ m.c m.p k)).1≠0 then ((m.d.flush.write 0 (lQ m.c m.p k)).1,{ m.flush with d:=(m.d.flush.write 0 (lQ m.c m.p k)).2 })
  else (0,{ m.flush with d:=(m.d.flush.write 0 (lQ m.c m.p k)).2.flush,b:=k }):=rfl
 generalize m.link k = S at *
 have HE:=zh e
 clear e
 go_enter Tryz.func186,Tryz.ntmps186
 go_upto_region 2 with (fail)
 have ha:=lh H (.cells #[.int .i64 m.c,.int .i64 m.p,.int .i64 m.b] 103)
 have hxa:=(zR w).alloc (.cells #[.int .i64 m.c,.int .i64 m.p,.int .i64 m.b] 103)
 clear c f h
 generalize w.heap.size = gh at *
 generalize w.alloc (.cells #[.int .i64 m.c,.int .i64 m.p,.int .i64 m.b] 103) = w1 at *
 obtain ⟨c,f⟩:=ld 0 ha rfl
 go_upto_region 3 with (fail)
 have h1:=lp (i:=2) (v:=.int .i64 k) 0 ha rfl
 have hx1:=hxa.setCell ⟨gh,2,none⟩ (.int .i64 k)
 clear c f ha hxa
 generalize w1.setCell ⟨gh,2,none⟩ (.int .i64 k) = w2 at *
 replace h1 : own w2 (pts gh (.cells #[.int .i64 m.c,.int .i64 m.p,.int .i64 k] 103 (0,0))::lL b bd bh m::lj bd m.d::R):=h1
 obtain ⟨c,f⟩:=ld 0 h1 rfl
 have hsz : (lQ m.c m.p k).size = 16:=BT (xs:=[83,89,m.c,m.p,k + 1]) (by simp)
 by_cases hb : lH m.c m.p k
 ·have hS : S = (1,m):=by rw [HE.out,zt hb]
  have HS:=zh hS
  have hq:=Eu m.c m.p k _ w2 h1
  rw [show AB m.c m.p k = 1 from zt hb,zq (by decide)] at hq
  have HQ:=zh hq
  unfold ol at HQ
  clear hq hb hS
  go_wp2_with fail
  refine HQ.out.mono ?_
  rintro e w3 ⟨rfl,hx3,h3⟩
  rw [show errV 1 = .iface 128 (.int .i64 1) from rfl]
  go_wp2_with fail
  go_ret
  rw [HS.out]
  exact ⟨rfl,hx1.trans hx3,lg h3⟩
 ·have hE2 : S = if (m.d.flush.write 0 (lQ m.c m.p k)).1≠0 then ((m.d.flush.write 0 (lQ m.c m.p k)).1,{ m.flush with d:=(m.d.flush.write 0 (lQ m.c m.p k)).2 })
   else (0,{ m.flush with d:=(m.d.flush.write 0 (lQ m.c m.p k)).2.flush,b:=k }):=by rw [HE.out,zq hb]
  have HE2:=zh hE2
  have okf:=DevM.flush_ok hm.d
  have fw : m.d.flush.writes = m.d.writes:=rfl
  have fp : m.d.flush.pend.length = 0:=rfl
  have okw:=DevM.write_ok okf 0 (lQ m.c m.p k) (by omega) (by omega)
  have hnn:=o5 m.d.flush 0 (lQ m.c m.p k)
  have HF:=zh (fun (R : List SL.HP) (w : World) (H : own w (lL b bd bh m::lj bd m.d::R))=>CR b bd bh m hm.d R w H)
  have hq:=Eu m.c m.p k _ w2 h1
  rw [show AB m.c m.p k = 0 from zq hb,zt rfl,lS] at hq
  have HW:=zh (fun (R : List SL.HP) (w : World) (H : own w (lj bd m.d.flush::R))=>BP bd m.d.flush okf 0 (lQ m.c m.p k) (by omega) (by omega) (by omega) R w H)
  have HQ:=zh hq
  unfold ol at HQ
  clear hq hb hE2 fw fp
  generalize m.d.flush.write 0 (lQ m.c m.p k) = r at *
  have HF2:=zh (fun (R : List SL.HP) (w : World) (H : own w (lL b bd bh m.flush::lj bd r.2::R))=>CR b bd bh { m.flush with d:=r.2 } okw R w H)
  generalize lQ m.c m.p k = hs at *
  go_wp2_with fail
  refine HQ.out.mono ?_
  rintro e w3 ⟨rfl,hx3,h3⟩
  replace hx3:=hx1.trans hx3
  clear c f h1 hx1
  go_wp2_with fail
  refine (HF.out _ w3 (lC [_,_] h3)).mono ?_
  rintro e w4 ⟨rfl,hx4,h4⟩
  replace hx4:=hx3.trans hx4
  clear h3 hx3
  obtain ⟨v,h5⟩:=yB h4
  clear h4
  obtain ⟨c,f⟩:=ld 0 h5 rfl
  go_wp2_with fail
  refine (HW.out _ w4 (lE 3 h5 rfl)).mono ?_
  rintro e w5 ⟨rfl,hx5,h6'⟩
  have h6:=oT h5 3 rfl h6'
  replace hx5:=hx4.trans hx5
  clear c f h5 h6' hx4
  by_cases hz : r.1 = 0
  ·have hS : S = (0,{ m.flush with d:=r.2.flush,b:=k }):=by rw [HE2.out,zq (by simpa using hz)]
   have HS:=zh hS
   rw [hz,lS]
   clear hz hS
   have h7 : own w5 (lL b bd bh m.flush::lj bd r.2::pts gh (.cells #[.int .i64 m.c,.int .i64 m.p,.int .i64 k] 103 (0,0))::R):=yc h6
   clear h6
   go_wp2_with fail
   refine (HF2.out _ w5 h7).mono ?_
   rintro e w8 ⟨rfl,hx8,h8⟩
   replace hx8:=hx5.trans hx8
   obtain ⟨v2,h9⟩:=yB h8
   clear h7 h8 hx5
   obtain ⟨c,f⟩:=ld 0 h9 rfl
   obtain ⟨c4,f4⟩:=ld 4 h9 rfl
   go_wp2_with fail
   go_ret
   rw [HS.out]
   have h10:=lp (i:=3) (v:=.int .i64 k) 0 (lp (i:=2) (v:=.int .i64 m.p) 0 (lp (i:=1) (v:=.int .i64 m.c) 0 h9 rfl) rfl) rfl
   refine ⟨rfl,((hx8.setCell _ _).setCell _ _).setCell _ _,?_⟩
   have h11:=yc (m:={ m.flush with d:=r.2.flush,b:=k }) h10
   exact li 2 h11 rfl
  ·have hS : S = (r.1,{ m.flush with d:=r.2 }):=by rw [HE2.out,zt hz]
   have HS:=zh hS
   have hpz : 0 < r.1:=by omega
   have HPE:=zh (lv hpz)
   rw [lv hpz]
   clear hz hS
   go_wp2_with fail
   go_ret
   rw [HS.out]
   have h11:=yc (m:={ m.flush with d:=r.2 }) h6
   exact ⟨by rw [HPE.out]; rfl,hx5,li 2 h11 rfl⟩
theorem Sf {p : List (Int×ByteArray)} {a : Int} : ∀{s : ByteArray},s.size = 16 -> (∀x∈p,x.2.size = 16) -> (p.foldl (fun s x=>if x.1 = a then x.2 else s) s).size = 16:=by
 induction p with
 | nil=>intro s h _; exact h
 | cons x p ih=>
  intro s h hp
  rw [List.foldl_cons]
  refine ih ?_ fun y hy=>hp y (by simp [hy])
  split
  ·exact hp x (by simp)
  ·exact h
theorem BJ {m : DevM} (hm : m.Ok) {a : Int} (h0 : 0 <= a) (h1 : a < m.fl.length) : (m.seen a).size = 16:=by
 unfold DevM.seen
 refine Sf (hm.fl _ ?_) fun x hx=>(hm.pend x hx).2.2
 simp [show a.toNat < m.fl.length by omega]
def ImgM.secs (m : ImgM) (y : Int) (q : Nat) : List ByteArray:=(List.range q).map fun (j : Nat)=>m.d.seen (m.first y + (j : Int))
def ImgM.read (m : ImgM) (k : Int) : ByteArray×Int:=
 if m.there k = true then (if m.kind k = 0 then (ByteArray.empty,4) else if m.kind k = 1 then (zs 64,0) else (cat (m.secs (ent m.t k.toNat).2 4),0)) else (ByteArray.empty,1)
theorem T3 (m : ImgM) (y : Int) (q : Nat) : cat (m.secs y (q + 1)) = cat (m.secs y q)++m.d.seen (m.first y + (q : Int)):=by
 unfold ImgM.secs
 rw [List.range_succ,List.map_append]
 apply Go.WideShapes.bytes_inj
 simp [cat,catL]
theorem D5 {m : ImgM} (hm : m.Ok) {k : Nat} (hk : k < m.t.length) : m.kind k = 0 \/ m.kind k = 1 \/ m.kind k = 2:=by
 have h:=zm (hm.ents (ent m.t k) (by unfold ent; simp [hk]))
 have e : m.kind k = (ent m.t k).1:=rfl
 rw [e]
 omega
theorem AU {m : ImgM} (hm : m.Ok) {y : Int} (h0 : 0 <= y) (h1 : y < m.p) : m.first y + 4 <= m.d.fl.length:=by
 have:=hm.need
 unfold ImgM.first
 omega
theorem VW (b bd bh : Nat) (m : ImgM) (hm : m.Ok) (k : Int) (R : List SL.HP) (w : World) (H : own w (lL b bd bh m::lj bd m.d::R)) :
  Calls Tryz.prog 153 #[.pointer (some ⟨b,0,none⟩),.int .i64 k] w fun e w'=>e = .returned (.tuple #[.string (m.read k).1,errV (m.read k).2]) /\ Ext w w' /\ own w' (lL b bd bh m::lj bd m.d::R):=by
 have hth:=DJ b bd bh m k _ w H
 cases ht : m.there k
 ·have e : m.read k = (ByteArray.empty,1):=by unfold ImgM.read; rw [ht,zq (by decide)]
  rw [e]
  rw [ht] at hth
  have HT:=zh hth
  clear hth e ht
  go_enter Tryz.func153,Tryz.ntmps153
  go_wp2_with fail
  refine HT.out.mono ?_
  rintro e w' ⟨rfl,rfl⟩
  go_wp2_with fail
  go_ret2
  exact ⟨rfl,zR _,H⟩
 ·rw [ht] at hth
  obtain ⟨k0,-,hkl⟩:=oW hm ht
  obtain ⟨n,rfl⟩:=ze k0
  rw [zn] at hkl
  have HT:=zh hth
  obtain ⟨v,h⟩:=yB H
  obtain ⟨ao,g,cap,rfl,r1,r2,r3,-,-,r6,-⟩:=lm 1 h rfl
  obtain rfl:=r3 (by omega)
  have x1 : w.cell? ⟨g,n * 2,none⟩ = some (.int .i64 (m.kind n)):=r6 _ _ (oB hkl).1
  obtain ⟨c,f⟩:=ld 0 h rfl
  have i1 : (0 : Int) <= (n : Int):=by omega
  have i2 : (n : Int) < (m.t.length : Int):=by omega
  rcases D5 hm hkl with h0 | h0 | h0
  ·have e : m.read n = (ByteArray.empty,4):=by unfold ImgM.read; rw [ht,zt rfl,zt h0]
   rw [e]
   rw [h0] at x1
   clear hth e ht r3 r6 h0
   go_enter Tryz.func153,Tryz.ntmps153
   go_wp2_with fail
   refine HT.out.mono ?_
   rintro e w' ⟨rfl,rfl⟩
   go_wp2_with fail
   go_ret2
   exact ⟨rfl,zR _,H⟩
  ·have e : m.read n = (zs 64,0):=by unfold ImgM.read; rw [ht,zt rfl,zq (by omega),zt h0]
   rw [e]
   rw [h0] at x1
   clear hth e ht r3 r6 h0
   go_enter Tryz.func153,Tryz.ntmps153
   go_wp2_with fail
   refine HT.out.mono ?_
   rintro e w' ⟨rfl,rfl⟩
   go_wp2_with fail
   refine (Qt 64 (by omega) w).mono ?_
   rintro e w2 ⟨rfl,hb2⟩
   go_wp2_with fail
   go_ret2
   exact ⟨rfl,GK hb2,Gy H hb2⟩
  ·have e : m.read n = (cat (m.secs (ent m.t n).2 4),0):=by unfold ImgM.read; rw [ht,zt rfl,zq (by omega),zq (by omega),zn]
   rw [e]
   rw [h0] at x1
   obtain ⟨y0,y1⟩:=zE hm hkl h0
   have hin:=AU hm y0 y1
   obtain ⟨C,hC,q1,q2,q3,q4,q5,q6,-⟩:=hm.nat
   obtain ⟨F0,F1⟩:=Jy hm y0 (by omega)
   have HGET : Hid ((lY m.t)[n * 2 + 1]? = some (.int .i64 (ent m.t n).2)):=zh (oB (l:=m.t) hkl).2
   have HSEC:=zh (T3 m (ent m.t n).2)
   have HSZ:=zh (fun (q : Nat) (hq : q <= 4)=>show (cat (m.secs (ent m.t n).2 q)).size = q * 16 from by
    have:=Dy (l:=m.secs (ent m.t n).2 q) (k:=16) fun s hs=>by
     simp only [ImgM.secs,List.mem_map,List.mem_range] at hs
     obtain ⟨j,hj,rfl⟩:=hs
     exact BJ hm.d (by omega) (by omega)
    simp [ImgM.secs] at this
    simpa [cat,ByteArray.size,ImgM.secs] using this)
   have HSS:=zh (fun (q : Nat) (hq : q < 4)=>BJ hm.d (a:=m.first (ent m.t n).2 + (q : Int)) (by omega) (by omega))
   have hd:=hm.d
   have hl2 : m.d.fl.length <= 200:=hd.n
   have HFI:=zh (fun (R : List SL.HP) (w : World) (H : own w (lL b bd bh m::R))=>Im b bd bh m hm (ent m.t n).2 y0 (by omega) R w H)
   have hc0 : cat (m.secs (ent m.t n).2 0) = ⟨#[]⟩:=rfl
   have HC0:=zh hc0
   generalize hcq : (fun q=>cat (m.secs (ent m.t n).2 q)) = CQ at *
   have hcq' : ∀q,cat (m.secs (ent m.t n).2 q) = CQ q:=fun q=>by rw [<- hcq]
   simp only [hcq'] at HSEC HSZ HC0 ⊢
   clear hcq hcq' hc0
   generalize (ent m.t n).2 = y at *
   generalize m.first y = F at *
   clear hth e ht r3 r6 h0 hC q1 q2 q3 q4 q5 q6
   go_enter Tryz.func153,Tryz.ntmps153
   go_wp2_with fail
   refine HT.out.mono ?_
   rintro e w' ⟨rfl,rfl⟩
   go_wp2_with fail
   go_loopw [6,29] (fun s i wr=>∃q : Nat,q <= 4 /\ i = .int .i64 q /\ s = .string (CQ q) /\ Ext w wr /\ own wr (lL b bd bh m::lj bd m.d::R)) (fun _ i _=>4 - (intOf i).toNat)
   case atStart=>exact ⟨0,by omega,rfl,by rw [HC0.out],zR _,H⟩
   case round=>
    clear c f x1 h
    obtain ⟨q,hq,rfl,rfl,hxr,hown⟩:=hrel
    by_cases hlt : q < 4
    ·have hz:=HSZ.out q (by omega)
     have hss:=HSS.out q hlt
     have hsec:=HSEC.out q
     have e4 : IntKind.i64.wrap (F + (q : Int)) = F + (q : Int):=zi _ (by omega)
     have hg0 : 0 <= F + (q : Int):=by omega
     have hg1 : F + (q : Int) < m.d.fl.length:=by omega
     obtain ⟨v,h⟩:=yB hown
     obtain ⟨ao2,g2,cap2,rfl,-,-,t3,-,-,t6,-⟩:=lm 1 h rfl
     obtain rfl:=t3 (by omega)
     clear t3 t6
     have hd1:=ln h
     have HSEQ:=zh hsec
     clear hsec
     have HRD:=zh (fun (R : List SL.HP) (w : World) (H : own w (lj bd m.d::R))=>FS bd m.d hd (F + (q : Int)) R w H)
     rw [zq (show ¬(F + (q : Int) < 0 \/ (m.d.fl.length : Int) <= F + (q : Int)) by omega)] at HRD
     generalize m.d.seen (F + (q : Int)) = sq at *
     generalize CQ q = cq at *
     go_upto_region 12 with (fail)
     go_region_held3 (fun w'=>w'.cell? ⟨b,0,none⟩ = some (.pointer (some ⟨bd,0,none⟩)) /\ w'.cell? ⟨b,4,none⟩ = some (.slice (some ⟨g2,0,none⟩) m.t.length cap2) /\ w'.cell? ⟨g2,n * 2 + 1,none⟩ = some (.int .i64 y)) (exact ⟨(ld 0 hd1 rfl).1 0,(ld 0 hd1 rfl).1 4,(oa 1 hd1 rfl).1 _ _ HGET.out⟩) (first | (go_at_call 171; refine (HFI.out _ _ (yc hd1)).mono ?_; rintro e w' ⟨rfl,rfl⟩) | (go_at_call 96; refine (HRD.out _ _ (lE 3 hd1 rfl)).mono ?_; rintro e w' ⟨rfl,rfl⟩))
     have h5 : own _ (lL b bd bh m::lj bd m.d::R):=yc hd1
     have hx5:=hxr.drew
     clear e4 hd1 h
     go_wp2_with fail
     go_roundw
     case rel=>exact ⟨q + 1,by omega,by go_num,by rw [HSEQ.out],hx5,h5⟩
     case measure=>simp [intOf]; omega
    ·have hqe : q = 4:=by omega
     subst hqe
     go_wp2_with fail
     go_ret2
     exact ⟨rfl,hxr,hown⟩
end Go.Proofs.YtbpblokfiajpjabGreatDoor
