/- Lemmas on which YardSays stands: the texts Shape11. No conditions. -/
import Derived.Test.YtbpblokfiajpjabGreatDoorPk7911b9d7d9
set_option linter.all false
set_option maxRecDepth 1000000
set_option maxHeartbeats 32000000
namespace Go.Proofs.YtbpblokfiajpjabGreatDoor
open Go.RowKit Go.SL Go.Crc
attribute [local go_sem ↓] Go.wp_at_zero Go.wp_at_succ
theorem Ao {fn : Func} {t u : Tmp} (h : fn.results = #[.cell t 24,.tmp u]) (tmps : Array Value) (w : World) (g : Nat) (r k f a b : Int) (hg : tmps.getD t undef = .pointer (some ⟨g,0,none⟩))
  (h0 : w.cell? ⟨g,0,none⟩ = some (.int .i64 r)) (h1 : w.cell? ⟨g,1,none⟩ = some (.int .i64 k)) (h2 : w.cell? ⟨g,2,none⟩ = some (.int .i64 f)) (h3 : w.cell? ⟨g,3,none⟩ = some (.int .i64 a)) (h4 : w.cell? ⟨g,4,none⟩ = some (.int .i64 b)) :
  (results fn tmps).run Tryz.prog w = .ok (.tuple #[o8 r k f a b,tmps.getD u undef]) w:=by
 rw [results_cell_tmp h,hg]
 unfold o8
 go_simp
def E9 (s : ByteArray) : Int×Int×Int×Int×Int:=(bt s 2,bt s 3,bt s 4 - 1,bt s 5 + 256 * bt s 6,bt s 7 + 256 * bt s 8)
def zj (s : ByteArray) : Prop:=yg (bt s 2) (bt s 3) (bt s 4 - 1) (bt s 5 + 256 * bt s 6) (bt s 7 + 256 * bt s 8)≠0 \/ Aq (bt s 2) (bt s 3) (bt s 4 - 1) (bt s 5 + 256 * bt s 6) (bt s 7 + 256 * bt s 8)≠s
instance (s : ByteArray) : Decidable (zj s):=by unfold zj; infer_instance
def ou (s : ByteArray) : (Int×Int×Int×Int×Int)×Int:=
 if zA s≠0 then ((0,0,0,0,0),zA s) else if zj s then ((0,0,0,0,0),2) else (E9 s,0)
theorem LZ {r k f a b : Int} (h : yg r k f a b≠0) : 0 < yg r k f a b:=by
 unfold yg at h ⊢
 split
 ·decide
 ·rename_i h1
  rw [zq h1] at h
  split
  ·decide
  ·rename_i h2; rw [zq h2] at h; exact absurd rfl h
theorem Gz {r k f a b : Int} (h : yg r k f a b = 0) : ¬yx r k f a b:=fun h'=>by rw [D7 h'] at h; cases h
theorem Qu (s : ByteArray) (hs : s.size <= 9223372036854775807) (R : List SL.HP) (w : World) (H : own w R) :
  Calls Tryz.prog 100 #[.string s] w fun e w'=>e = .returned (.tuple #[o8 (ou s).1.1 (ou s).1.2.1 (ou s).1.2.2.1 (ou s).1.2.2.2.1 (ou s).1.2.2.2.2,.int .i64 (ou s).2]) /\ Ext w w' /\ own w' R:=by
 have ha:=li H (.cells #[.int .i64 0,.int .i64 0,.int .i64 0,.int .i64 0,.int .i64 0] 24)
 have hxa:=(zR w).alloc (.cells #[.int .i64 0,.int .i64 0,.int .i64 0,.int .i64 0,.int .i64 0] 24)
 rcases Bw s with hF | hF
 ·have h16:=Et hF
  have e : ou s = if zj s then ((0,0,0,0,0),2) else (E9 s,0):=by rw [ou,zq (by omega)]
  rw [e]
  clear e
  have h16' : (s.size : Int) = 16:=by omega
  go_enter Tryz.func100,Tryz.ntmps100
  go_upto_region 1 with (fail)
  generalize w.heap.size = g at *
  generalize w.alloc (.cells #[.int .i64 0,.int .i64 0,.int .i64 0,.int .i64 0,.int .i64 0] 24) = w1 at *
  go_wp2_with fail
  refine (Ey s hs _ w1 ha).mono ?_
  rintro e w2 ⟨rfl,hx2,h2⟩
  rw [hF]
  have q2:=yV (s:=s) (i:=2) (by omega)
  have q3:=yV (s:=s) (i:=3) (by omega)
  have q4:=yV (s:=s) (i:=4) (by omega)
  have q5:=yV (s:=s) (i:=5) (by omega)
  have q6:=yV (s:=s) (i:=6) (by omega)
  have q7:=yV (s:=s) (i:=7) (by omega)
  have q8:=yV (s:=s) (i:=8) (by omega)
  have l2:=zG s 2
  have l3:=zG s 3
  have l4:=zG s 4
  have l5:=zG s 5
  have l6:=zG s 6
  have l7:=zG s 7
  have l8:=zG s 8
  have hcond : zj s↔(yg (bt s 2) (bt s 3) (bt s 4 - 1) (bt s 5 + 256 * bt s 6) (bt s 7 + 256 * bt s 8)≠0 \/ Aq (bt s 2) (bt s 3) (bt s 4 - 1) (bt s 5 + 256 * bt s 6) (bt s 7 + 256 * bt s 8)≠s):=Iff.rfl
  have HCD:=zh hcond
  clear hcond
  have hgood : E9 s = (bt s 2,bt s 3,bt s 4 - 1,bt s 5 + 256 * bt s 6,bt s 7 + 256 * bt s 8):=rfl
  have HX:=zh hgood
  clear hgood
  generalize bt s 2 = x2 at *
  generalize bt s 3 = x3 at *
  generalize bt s 4 = x4 at *
  generalize bt s 5 = x5 at *
  generalize bt s 6 = x6 at *
  generalize bt s 7 = x7 at *
  generalize bt s 8 = x8 at *
  have e2 : IntKind.i64.wrap x2 = x2:=zi _ (by omega)
  have e3 : IntKind.i64.wrap x3 = x3:=zi _ (by omega)
  have e4 : IntKind.i64.wrap x4 = x4:=zi _ (by omega)
  have e4' : IntKind.i64.wrap (x4 - 1) = x4 - 1:=zi _ (by omega)
  have e5 : IntKind.i64.wrap x5 = x5:=zi _ (by omega)
  have e6 : IntKind.i64.wrap x6 = x6:=zi _ (by omega)
  have e6' : IntKind.i64.wrap (256 * x6) = 256 * x6:=zi _ (by omega)
  have e6'' : IntKind.i64.wrap (x5 + 256 * x6) = x5 + 256 * x6:=zi _ (by omega)
  have e7 : IntKind.i64.wrap x7 = x7:=zi _ (by omega)
  have e8 : IntKind.i64.wrap x8 = x8:=zi _ (by omega)
  have e8' : IntKind.i64.wrap (256 * x8) = 256 * x8:=zi _ (by omega)
  have e8'' : IntKind.i64.wrap (x7 + 256 * x8) = x7 + 256 * x8:=zi _ (by omega)
  go_upto_region 4 with (fail)
  refine wp_region_held_drew (S:=fun _=>True) (by kernel_rfl) trivial (fun hHeld=>?_)
  refine tk 0 ?_
  refine tk 1 ?_
  refine tk 2 ?_
  refine tk 3 ?_
  refine tk 4 ?_
  refine tk 5 ?_
  refine tk 6 ?_
  refine tk 7 ?_
  refine tk 8 ?_
  refine tk 9 ?_
  refine tk 10 ?_
  refine tk 11 ?_
  refine tk 12 ?_
  refine tk 13 ?_
  refine tk 14 ?_
  refine tk 15 ?_
  refine tk 16 ?_
  refine tk 17 ?_
  refine tk 18 ?_
  refine tk 19 ?_
  refine tk 20 ?_
  refine tk 21 ?_
  refine tk 22 ?_
  refine tk 23 ?_
  refine tk 24 ?_
  refine tk 25 ?_
  refine tk 26 ?_
  try simp only [Act.put,tA,tB,tC,tD,tE,tF]
  refine rd 27 rfl fun K hK=>?_
  go_simp
  refine hK.out _ _ trivial (fun _=>?_)
  clear hK K
  try simp only [Act.put,tA,tB,tC,tD,tE,tF]
  refine rd 28 rfl fun K hK=>?_
  go_simp
  refine hK.out _ _ trivial (fun _=>?_)
  clear hK K
  try simp only [Act.put,tA,tB,tC,tD,tE,tF]
  refine wpAnyH_done (by kernel_rfl) ?_ _
  have h3:=lj (li h2 (.cells #[.int .i64 x2,.int .i64 x3,.int .i64 (x4 - 1),.int .i64 (x5 + 256 * x6),.int .i64 (x7 + 256 * x8)] 24))
  have hx3:=((hxa.trans hx2).alloc (.cells #[.int .i64 x2,.int .i64 x3,.int .i64 (x4 - 1),.int .i64 (x5 + 256 * x6),.int .i64 (x7 + 256 * x8)] 24)).drew
  clear q2 q3 q4 q5 q6 q7 q8 e2 e3 e4 e4' e5 e6 e6' e6'' e7 e8 e8' e8'' h2 hx2 ha hxa
  generalize w2.heap.size = p at *
  generalize (w2.alloc (.cells #[.int .i64 x2,.int .i64 x3,.int .i64 (x4 - 1),.int .i64 (x5 + 256 * x6),.int .i64 (x7 + 256 * x8)] 24)).drew = w3 at *
  generalize x4 - 1 = y at *
  generalize x5 + 256 * x6 = a at *
  generalize x7 + 256 * x8 = b at *
  obtain ⟨c,f⟩:=ld 0 h3 rfl
  have hq:=G6 x2 x3 y a b _ w3 h3
  by_cases hb : yg x2 x3 y a b = 0
  ·have HS:=zh (fun R w H=>F7 x2 x3 y a b (Gz hb) R w H)
   rw [hb] at hq
   have HQ:=zh hq
   clear hq
   unfold o8 at HQ HS
   go_wp2_with fail
   refine HQ.out.mono ?_
   rintro e w4 ⟨rfl,hx4,h4⟩
   clear c f
   obtain ⟨c,f⟩:=ld 0 h4 rfl
   go_wp2_with fail
   refine (HS.out _ w4 h4).mono ?_
   rintro e w5 ⟨rfl,hx5,h5⟩
   clear c f
   obtain ⟨c,f⟩:=ld 0 h5 rfl
   obtain ⟨c',f'⟩:=ld 1 h5 rfl
   by_cases hne : Aq x2 x3 y a b = s
   ·have hgood : ¬zj s:=fun h=>(HCD.out.1 h).elim (fun h=>h hb) (fun h=>h hne)
    have HG:=zh hgood
    rw [hne]
    clear hgood hb
    go_wp2_with fail
    have h6:=lg (i:=4) (v:=.int .i64 b) 1 (lg (i:=3) (v:=.int .i64 a) 1 (lg (i:=2) (v:=.int .i64 y) 1 (lg (i:=1) (v:=.int .i64 x3) 1 (lg (i:=0) (v:=.int .i64 x2) 1 h5 rfl) rfl) rfl) rfl) rfl
    obtain ⟨c3,-⟩:=ld 1 h6 rfl
    refine bodyPost_ret (Ao rfl _ _ g x2 x3 y a b rfl (c3 0) (c3 1) (c3 2) (c3 3) (c3 4)) rfl ?_
    exact ⟨by first | (rw [HX.out]; rfl) | (rw [zq HG.out,HX.out]; rfl),((((((hx3.trans hx4).trans hx5).setCell _ _).setCell _ _).setCell _ _).setCell _ _).setCell _ _,le (le h6)⟩
   ·have hbad : zj s:=HCD.out.2 (.inr hne)
    have HB:=zh hbad
    have hnl : ((Aq x2 x3 y a b).toList == s.toList) = false:=by simpa using fun h=>hne (BI h)
    clear hb hbad
    go_wp2_with fail
    have h6:=lg (i:=4) (v:=.int .i64 0) 1 (lg (i:=3) (v:=.int .i64 0) 1 (lg (i:=2) (v:=.int .i64 0) 1 (lg (i:=1) (v:=.int .i64 0) 1 (lg (i:=0) (v:=.int .i64 0) 1 h5 rfl) rfl) rfl) rfl) rfl
    obtain ⟨c3,-⟩:=ld 1 h6 rfl
    refine bodyPost_ret (Ao rfl _ _ g 0 0 0 0 0 rfl (c3 0) (c3 1) (c3 2) (c3 3) (c3 4)) rfl ?_
    exact ⟨by first | rfl | (rw [zt HB.out]; rfl),((((((hx3.trans hx4).trans hx5).setCell _ _).setCell _ _).setCell _ _).setCell _ _).setCell _ _,le (le h6)⟩
  ·have hbad : zj s:=HCD.out.2 (.inl hb)
   have HB:=zh hbad
   have hp:=LZ hb
   have HQ:=zh hq
   clear hq hb hbad
   generalize yg x2 x3 y a b = fc at *
   unfold o8 at HQ
   go_wp2_with fail
   refine HQ.out.mono ?_
   rintro e w4 ⟨rfl,hx4,h4⟩
   clear c f
   obtain ⟨c,f⟩:=ld 1 h4 rfl
   go_wp2_with fail
   have h5:=lg (i:=4) (v:=.int .i64 0) 1 (lg (i:=3) (v:=.int .i64 0) 1 (lg (i:=2) (v:=.int .i64 0) 1 (lg (i:=1) (v:=.int .i64 0) 1 (lg (i:=0) (v:=.int .i64 0) 1 h4 rfl) rfl) rfl) rfl) rfl
   obtain ⟨c3,-⟩:=ld 1 h5 rfl
   refine bodyPost_ret (Ao rfl _ _ g 0 0 0 0 0 rfl (c3 0) (c3 1) (c3 2) (c3 3) (c3 4)) rfl ?_
   exact ⟨by first | rfl | (rw [zt HB.out]; rfl),(((((hx3.trans hx4).setCell _ _).setCell _ _).setCell _ _).setCell _ _).setCell _ _,le (le h5)⟩
 ·have e : ou s = ((0,0,0,0,0),zA s):=by rw [ou,zt (by omega)]
  rw [e]
  clear e
  go_enter Tryz.func100,Tryz.ntmps100
  go_upto_region 1 with (fail)
  generalize w.heap.size = g at *
  generalize w.alloc (.cells #[.int .i64 0,.int .i64 0,.int .i64 0,.int .i64 0,.int .i64 0] 24) = w1 at *
  go_wp2_with fail
  refine (Ey s hs _ w1 ha).mono ?_
  rintro e w2 ⟨rfl,hx2,h2⟩
  obtain ⟨c,f⟩:=ld 0 h2 rfl
  go_wp2_with fail
  have h3:=lg (i:=4) (v:=.int .i64 0) 0 (lg (i:=3) (v:=.int .i64 0) 0 (lg (i:=2) (v:=.int .i64 0) 0 (lg (i:=1) (v:=.int .i64 0) 0 (lg (i:=0) (v:=.int .i64 0) 0 h2 rfl) rfl) rfl) rfl) rfl
  obtain ⟨c3,-⟩:=ld 0 h3 rfl
  refine bodyPost_ret (Ao rfl _ _ g 0 0 0 0 0 rfl (c3 0) (c3 1) (c3 2) (c3 3) (c3 4)) rfl ?_
  exact ⟨rfl,(((((hxa.trans hx2).setCell _ _).setCell _ _).setCell _ _).setCell _ _).setCell _ _,le h3⟩
end Go.Proofs.YtbpblokfiajpjabGreatDoor
