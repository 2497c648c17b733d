/- BitsSays answers true, whatever the number and the acts, and leaves what it was given as it was. No conditions. -/
import Derived.Test.YtbpblokfiajpjaaDoorPk692cea4017
import Derived.Test.YtbpblokfiajpjaaDoorRows
import Derived.LaidMore
import Derived.Lay
import Derived.Test.YtbpblokfiajpjaaDoorCards
import Derived.Test.YtbpblokfiajpjaaDoorTie
import Derived.ShutString
import Derived.ChangeOld
import Derived.Below
import Derived.LaidOnce
import Derived.SevenTiedAt
set_option linter.all false
set_option maxRecDepth 1000000
set_option maxHeartbeats 32000000
namespace Go.Proofs.YtbpblokfiajpjaaDoor
open Go.RowKit Go.SL Go.Crc Go.Shelf
attribute [local go_sem ↓] Go.wp_at_zero Go.wp_at_succ
attribute [local go_sem] Oper.semAt_some
theorem zY {b off cap sb mb nn pb rb : Nat} {l : List Act} {w wr : World} (hL : l.length <= 80) (HL : ∀a∈l,a.keep.length <= 300) (HAT : Hid (∀i,i < l.length -> lu w b (off + i * 7) (l.getD i lk))) (HV : Hid (ly w (.slice (some ⟨b,off,none⟩) l.length cap) l)) (HT : Hid (ls w)) (hn : nn <= 64)
  (T : Nat -> Value) {q y : Nat} {ds : List Nat} (hlt : q < l.length) (hxr : SL.Ext w wr) (hy : y < 2 ^ nn) (hown : own wr (bOwn w sb mb nn pb rb y ds)) (Q0 : Exit -> Go.Act -> World -> Prop) (kput : ¬((l.getD q lk).kind.toList == [112,117,116]) = true) (knext : ¬((l.getD q lk).kind.toList == [110,101,120,116]) = true) (kjoin : ((l.getD q lk).kind.toList == [106,111,105,110]) = true) :
  Code.wp Tryd.prog oo (Exit.then (fun a' w''=>bWI w l.length sb mb nn pb rb (.int .i64 (nn : Nat)) (.slice (some ⟨b,off,none⟩) l.length cap) (.pointer (some ⟨rb,0,none⟩)) (.pointer (some ⟨sb,0,none⟩)) (.pointer (some ⟨pb,0,none⟩)) a' w'' /\ bMu l.length a' w'' < bMu l.length (bFr T (.int .i64 (nn : Nat)) (.slice (some ⟨b,off,none⟩) l.length cap) (.pointer (some ⟨rb,0,none⟩)) (.pointer (some ⟨sb,0,none⟩)) (.pointer (some ⟨pb,0,none⟩)) (.int .i64 (q : Nat)) ds) wr) Q0) (bFr T (.int .i64 (nn : Nat)) (.slice (some ⟨b,off,none⟩) l.length cap) (.pointer (some ⟨rb,0,none⟩)) (.pointer (some ⟨sb,0,none⟩)) (.pointer (some ⟨pb,0,none⟩)) (.int .i64 (q : Nat)) ds) wr:=by
 refine oD ?_
 conv=>arg 2; whnf
 unfold bFr bOwn at *
 have hq : q <= l.length:=by omega
 obtain ⟨c0,c1,c2,c3,c4,c5,c6⟩:=(HAT.out q hlt).later 4 hown rfl
 have ok:=HV.out.2 _ (lv hlt)
 obtain ⟨ko,kc,hkv,hkl⟩:=l5 ok.keep
 have hkeep:=ok.keep
 rw [hkv] at c6 hkeep
 have hA:=ok.A
 have hk3:=HL _ (lv hlt)
 clear HL
 generalize l.getD q lk = x at *
 have HK:=zh hkeep
 have HA:=zh hA
 have HY:=zh hy
 clear hkv ok hkeep hA hy
 go_upto_region 14 with (fail)
 have ha:=lq hown (.cells #[.string x.kind,.int .i64 x.A,.int .i64 x.B,.int .i64 x.C,.int .i64 x.D,.string x.S,.slice ko x.keep.length kc] 37)
 have hxa:=hxr.alloc (.cells #[.string x.kind,.int .i64 x.A,.int .i64 x.B,.int .i64 x.C,.int .i64 x.D,.string x.S,.slice ko x.keep.length kc] 37)
 clear c0 c1 c2 c3 c4 c5 c6 hown hxr
 generalize wr.heap.size = ba at *
 generalize wr.alloc (.cells #[.string x.kind,.int .i64 x.A,.int .i64 x.B,.int .i64 x.C,.int .i64 x.D,.string x.S,.slice ko x.keep.length kc] 37) = wa at *
 obtain ⟨c,f⟩:=la 0 ha rfl
 have c0:=c 0
 have c1:=c 1
 have c2:=c 2
 have c6:=c 6
 clear c f
 by_cases hnb : x.A < 0 \/ 64 < x.A
 ·have HB:=zh (o5 x.A hnb wa)
  clear hnb
  go_wp2_with fail
  refine HB.out.mono ?_
  rintro e w' ⟨rfl,rfl⟩
  rw [show errV 1 = .iface 48 (.int .i64 1) from rfl]
  go_wp2_with fail
  refine ⟨lX ds rfl rfl rfl rfl rfl rfl rfl ⟨q + 1,y,by omega,by go_num,hxa,HY.out,lo ha⟩,by simp [bMu,intOf]; omega⟩
 ·obtain ⟨n2,hn2⟩:=ze (show 0 <= x.A by omega)
  have h64 : n2 <= 64:=by omega
  have HB:=zh (oB n2 h64 _ wa ha)
  rw [hn2] at c1
  have HN2:=zh hn2
  clear hnb hn2
  go_wp2_with fail
  rw [HN2.out]
  refine HB.out.mono ?_
  rintro e w4 ⟨ob,rfl,hx4,h4⟩
  have hx5:=hxa.trans hx4
  clear HB ha hxa hx4 c0 c1 c2 c6
  obtain ⟨kao,kb0,koff,kcap,hke,hk1,hk2,hka,hk4⟩:=HK.out
  simp only [Value.slice.injEq] at hke
  obtain ⟨rfl,-,rfl⟩:=hke
  have HKA:=zh hka
  have HK4:=zh hk4
  clear hka hk4
  go_wp2_with fail
  go_loopw [17] (fun kv wr=>∃k : Nat,k <= x.keep.length /\ kv = .int .i64 k /\ SL.Ext w wr /\ own wr (lh ob n2 (kY n2 x.keep k)::pts ba (.cells #[.string x.kind,.int .i64 x.A,.int .i64 x.B,.int .i64 x.C,.int .i64 x.D,.string x.S,.slice ko x.keep.length kc] 37 (0,0))::lh sb nn y::lz mb nn (kM nn y n2 x.keep k)::([pts pb (.cells #[.pointer (some ⟨mb,0,none⟩)] 31 (0,0)),pts rb (.cells #[.bool false] 4 (0,0)),lj w]++ds.map lB))) (fun kv _=>x.keep.length - (intOf kv).toNat)
  case atStart=>exact ⟨0,by omega,rfl,hx5,h4⟩
  case round=>
   clear h4 hx5
   obtain ⟨k,hk,rfl,hxz,hz⟩:=hrel
   have c1:=(la 1 hz rfl).1 1
   have c6:=(la 1 hz rfl).1 6
   have p0:=(la 4 hz rfl).1 0
   replace c1 : wr.cell? ⟨ba,1,none⟩ = some (.int .i64 (n2 : Nat)):=by rw [<- HN2.out]; exact c1
   by_cases hlt2 : k < x.keep.length
   ·obtain rfl:=HKA.out (by omega)
    have kc0:=lr 6 hz rfl (HK4.out k hlt2)
    have HP1 : Hid (Calls Tryd.prog 9 #[.pointer (some ⟨ob,0,none⟩),.int .i64 (k : Nat),.bool (x.keep.getD k false)] wr fun e w'=>e = .returned (.bool (kDid n2 x.keep k)) /\ SL.Ext wr w' /\ own w' (lh ob n2 (kY n2 x.keep (k + 1))::pts ba (.cells #[.string x.kind,.int .i64 x.A,.int .i64 x.B,.int .i64 x.C,.int .i64 x.D,.string x.S,.slice (some ⟨kb0,koff,none⟩) x.keep.length kc] 37 (0,0))::lh sb nn y::lz mb nn (kM nn y n2 x.keep k)::([pts pb (.cells #[.pointer (some ⟨mb,0,none⟩)] 31 (0,0)),pts rb (.cells #[.bool false] 4 (0,0)),lj w]++ds.map lB))):=zh (oc ob n2 (kY n2 x.keep k) h64 (zv h64 _ k) (k : Int) (x.keep.getD k false) 0 wr hz rfl)
    have HRP : Hid (∀w5,own w5 (lh ob n2 (kY n2 x.keep (k + 1))::pts ba (.cells #[.string x.kind,.int .i64 x.A,.int .i64 x.B,.int .i64 x.C,.int .i64 x.D,.string x.S,.slice (some ⟨kb0,koff,none⟩) x.keep.length kc] 37 (0,0))::lh sb nn y::lz mb nn (kM nn y n2 x.keep k)::([pts pb (.cells #[.pointer (some ⟨mb,0,none⟩)] 31 (0,0)),pts rb (.cells #[.bool false] 4 (0,0)),lj w]++ds.map lB)) -> Calls Tryd.prog 10 #[.pointer (some ⟨mb,0,none⟩),.int .i64 (k : Nat),.bool true] w5 fun e w'=>e = .returned (.bool (li nn (kM nn y n2 x.keep k) (k : Int) true).1) /\ SL.Ext w5 w' /\ own w' (lh ob n2 (kY n2 x.keep (k + 1))::pts ba (.cells #[.string x.kind,.int .i64 x.A,.int .i64 x.B,.int .i64 x.C,.int .i64 x.D,.string x.S,.slice (some ⟨kb0,koff,none⟩) x.keep.length kc] 37 (0,0))::lh sb nn y::lz mb nn (li nn (kM nn y n2 x.keep k) (k : Int) true).2::([pts pb (.cells #[.pointer (some ⟨mb,0,none⟩)] 31 (0,0)),pts rb (.cells #[.bool false] 4 (0,0)),lj w]++ds.map lB))):=zh (fun w5 H=>oT (b:=mb) (x:=kM nn y n2 x.keep k) hn (k : Int) true 3 w5 H rfl)
    have hdid:=zB n2 x.keep k
    have hkM : kM nn y n2 x.keep (k + 1) = if kDid n2 x.keep k = true then (li nn (kM nn y n2 x.keep k) (k : Int) true).2 else kM nn y n2 x.keep k:=rfl
    have HC : Hid (∀w5,own w5 (lh ob n2 (kY n2 x.keep (k + 1))::pts ba (.cells #[.string x.kind,.int .i64 x.A,.int .i64 x.B,.int .i64 x.C,.int .i64 x.D,.string x.S,.slice (some ⟨kb0,koff,none⟩) x.keep.length kc] 37 (0,0))::lh sb nn y::lz mb nn (kM nn y n2 x.keep k)::([pts pb (.cells #[.pointer (some ⟨mb,0,none⟩)] 31 (0,0)),pts rb (.cells #[.bool false] 4 (0,0)),lj w]++ds.map lB)) -> w5.cell? ⟨ba,1,none⟩ = some (.int .i64 (n2 : Nat)) /\ w5.cell? ⟨ba,6,none⟩ = some (.slice (some ⟨kb0,koff,none⟩) x.keep.length kc) /\ w5.cell? ⟨pb,0,none⟩ = some (.pointer (some ⟨mb,0,none⟩)) /\ w5.cell? ⟨kb0,koff + k,none⟩ = some (.bool (x.keep.getD k false))):=
     zh (fun w5 H=>⟨by rw [<- HN2.out]; exact (la 1 H rfl).1 1,(la 1 H rfl).1 6,(la 4 H rfl).1 0,lr 6 H rfl (HK4.out k hlt2)⟩)
    have p1 : (0 : Int) <= (k : Int):=by omega
    have p2 : (k : Int) < (x.keep.length : Int):=by omega
    generalize x.keep.getD k false = kb at *
    have hcs : (kb = false) \/ (kb = true /\ decide ((k : Int) < (n2 : Int)) = true /\ (k : Int) < (n2 : Int)) \/ (kb = true /\ decide ((k : Int) < (n2 : Int)) = false /\ (n2 : Int) <= (k : Int)):=by
     cases kb <;> simp
     omega
    rw [show decide (k < n2) = decide ((k : Int) < (n2 : Int)) from decide_eq_decide.2 (by omega)] at hdid
    rcases hcs with rfl | ⟨rfl,d1,q1⟩ | ⟨rfl,d1,q1⟩
    ·rw [Bool.false_and] at hdid
     rw [hdid] at HP1 hkM
     rw [zq (by decide)] at hkM
     have HKM:=zh hkM
     clear hkM hdid
     go_wp2_with fail
     refine HP1.out.mono ?_
     rintro e w5 ⟨rfl,hx5,h5⟩
     clear c1 c6 p0 kc0 hz HP1
     obtain ⟨c1,c6,p0,kc0⟩:=HC.out _ h5
     go_wp2_with fail
     go_roundw
     case rel=>exact ⟨k + 1,by omega,by go_num,hxz.trans hx5,by rw [HKM.out]; exact h5⟩
     case measure=>simp [intOf]; omega
    ·rw [d1,Bool.true_and] at hdid
     rw [hdid] at HP1 hkM
     rw [zt rfl] at hkM
     have HKM:=zh hkM
     clear hkM hdid
     go_wp2_with fail
     refine HP1.out.mono ?_
     rintro e w5 ⟨rfl,hx5,h5⟩
     clear c1 c6 p0 kc0 hz HP1
     obtain ⟨c1,c6,p0,kc0⟩:=HC.out _ h5
     go_wp2_with fail
     refine (HRP.out _ h5).mono ?_
     rintro e w6 ⟨rfl,hx6,h6⟩
     go_wp2_with fail
     go_roundw
     case rel=>exact ⟨k + 1,by omega,by go_num,(hxz.trans hx5).trans hx6,by rw [HKM.out]; exact h6⟩
     case measure=>simp [intOf]; omega
    ·rw [d1,Bool.and_false] at hdid
     rw [hdid] at HP1 hkM
     rw [zq (by decide)] at hkM
     have HKM:=zh hkM
     clear hkM hdid
     go_wp2_with fail
     refine HP1.out.mono ?_
     rintro e w5 ⟨rfl,hx5,h5⟩
     clear c1 c6 p0 kc0 hz HP1
     obtain ⟨c1,c6,p0,kc0⟩:=HC.out _ h5
     go_wp2_with fail
     go_roundw
     case rel=>exact ⟨k + 1,by omega,by go_num,hxz.trans hx5,by rw [HKM.out]; exact h5⟩
     case measure=>simp [intOf]; omega
   ·obtain rfl : k = x.keep.length:=by omega
    have hkm:=zU (nn:=nn) (y:=y) h64 x.keep x.keep.length
    rw [hkm] at hz
    have hy3:=oX hn HY.out (ll (kY n2 x.keep x.keep.length))
    have HJ:=zh (yB sb nn y ob n2 (kY n2 x.keep x.keep.length) hn HY.out (lt64 h64 (zv h64 x.keep x.keep.length)) (pts ba (.cells #[.string x.kind,.int .i64 x.A,.int .i64 x.B,.int .i64 x.C,.int .i64 x.D,.string x.S,.slice ko x.keep.length kc] 37 (0,0))::lz mb nn (lI nn y (ll (kY n2 x.keep x.keep.length)))::([pts pb (.cells #[.pointer (some ⟨mb,0,none⟩)] 31 (0,0)),pts rb (.cells #[.bool false] 4 (0,0)),lj w]++ds.map lB)) (fun w' L h=>HT.out.later (L.length + 4) h (by rw [List.getElem?_append_right (by omega),show L.length + 4 - L.length = 4 by omega]; rfl)) wr (lF 2 hz rfl))
    generalize lI nn y (ll (kY n2 x.keep x.keep.length)) = y3 at *
    clear hkm
    go_wp2_with fail
    refine HJ.out.mono ?_
    rintro e w6 ⟨rfl,hx6,h6⟩
    have h7 : own w6 (pts ba (.cells #[.string x.kind,.int .i64 x.A,.int .i64 x.B,.int .i64 x.C,.int .i64 x.D,.string x.S,.slice ko x.keep.length kc] 37 (0,0))::bOwn w sb mb nn pb rb y3 ds):=lF 1 (lM 1 h6 rfl) rfl
    have hx7:=hxz.trans hx6
    clear hz hxz hx6 h6 HJ c1 c6 p0
    go_wp2_with fail
    have HOW : Hid (own _ (pts ba (.cells #[.string x.kind,.int .i64 x.A,.int .i64 x.B,.int .i64 x.C,.int .i64 x.D,.string x.S,.slice ko x.keep.length kc] 37 (0,0))::bOwn w sb mb nn pb rb y3 (ds))):=zh h7
    have HXW:=zh hx7
    have HYW:=zh hy3
    have HH1:=zh (fun w0 (H : own w0 (pts ba (.cells #[.string x.kind,.int .i64 x.A,.int .i64 x.B,.int .i64 x.C,.int .i64 x.D,.string x.S,.slice ko x.keep.length kc] 37 (0,0))::bOwn w sb mb nn pb rb y3 (ds)))=>lG sb nn y3 hn (lt64 hn HYW.out) x.A 1 w0 H rfl)
    have HH2:=zh (fun w0 (H : own w0 (pts ba (.cells #[.string x.kind,.int .i64 x.A,.int .i64 x.B,.int .i64 x.C,.int .i64 x.D,.string x.S,.slice ko x.keep.length kc] 37 (0,0))::bOwn w sb mb nn pb rb y3 (ds)))=>lL mb 0 nn y3 hn x.A w0 (lp 2 H rfl))
    have HC1:=zh (fun w0 (H : own w0 (pts ba (.cells #[.string x.kind,.int .i64 x.A,.int .i64 x.B,.int .i64 x.C,.int .i64 x.D,.string x.S,.slice ko x.keep.length kc] 37 (0,0))::bOwn w sb mb nn pb rb y3 (ds)))=>lD sb nn y3 (lt64 hn HYW.out) 1 w0 H rfl)
    have HC2:=zh (fun w0 (H : own w0 (pts ba (.cells #[.string x.kind,.int .i64 x.A,.int .i64 x.B,.int .i64 x.C,.int .i64 x.D,.string x.S,.slice ko x.keep.length kc] 37 (0,0))::bOwn w sb mb nn pb rb y3 (ds)))=>lA mb 0 nn y3 w0 (lp 2 H rfl))
    have HS1:=zh (fun w0 (H : own w0 (pts ba (.cells #[.string x.kind,.int .i64 x.A,.int .i64 x.B,.int .i64 x.C,.int .i64 x.D,.string x.S,.slice ko x.keep.length kc] 37 (0,0))::bOwn w sb mb nn pb rb y3 (ds)))=>lO sb nn y3 1 w0 H rfl)
    have tp0:=(la 3 HOW.out rfl).1 0
    have tc1:=(la 0 HOW.out rfl).1 1
    generalize hasM nn y3 x.A = hb at *
    generalize Ones.popc 64 y3 = pc at *
    clear h7 hx7 hy3
    go_upto_region 46 with (fail)
    go_quiet (first | (go_at_call 17; exact Calls.quiet_of_same ((HH1.out _ (by first | exact HOW.out | exact lg HOW.out | exact ld _ HOW.out)).mono fun e w' h=>⟨h.1,h.2.symm⟩)) | (go_at_call 15; exact Calls.quiet_of_same ((HH2.out _ (by first | exact HOW.out | exact lg HOW.out | exact ld _ HOW.out)).mono fun e w' h=>⟨h.1,h.2.symm⟩)) | (go_at_call 18; exact Calls.quiet_of_same ((HC1.out _ (by first | exact HOW.out | exact lg HOW.out | exact ld _ HOW.out)).mono fun e w' h=>⟨h.1,h.2.symm⟩)) | (go_at_call 16; exact Calls.quiet_of_same ((HC2.out _ (by first | exact HOW.out | exact lg HOW.out | exact ld _ HOW.out)).mono fun e w' h=>⟨h.1,h.2.symm⟩)) | (go_at_call 19; exact Calls.quiet_of_same ((HS1.out _ (by first | exact HOW.out | exact lg HOW.out | exact ld _ HOW.out)).mono fun e w' h=>⟨h.1,h.2.symm⟩)))
    go_wp2_with fail
    refine ⟨lX (ds) rfl rfl rfl rfl rfl rfl rfl ⟨q + 1,y3,by omega,by go_num,HXW.out.drewN _,HYW.out,ld _ (lo HOW.out)⟩,by simp [bMu,intOf]; omega⟩
theorem bAll {b off cap sb mb nn pb rb : Nat} {l : List Act} {w wr : World} (hL : l.length <= 80) (HL : ∀a∈l,a.keep.length <= 300) (HAT : Hid (∀i,i < l.length -> lu w b (off + i * 7) (l.getD i lk))) (HV : Hid (ly w (.slice (some ⟨b,off,none⟩) l.length cap) l)) (HT : Hid (ls w)) (hn : nn <= 64)
  (T : Nat -> Value) {q y : Nat} {ds : List Nat} (hlt : q < l.length) (hxr : SL.Ext w wr) (hy : y < 2 ^ nn) (hown : own wr (bOwn w sb mb nn pb rb y ds)) (Q0 : Exit -> Go.Act -> World -> Prop) (kput : ¬((l.getD q lk).kind.toList == [112,117,116]) = true) (knext : ¬((l.getD q lk).kind.toList == [110,101,120,116]) = true) (kjoin : ¬((l.getD q lk).kind.toList == [106,111,105,110]) = true) :
  Code.wp Tryd.prog oo (Exit.then (fun a' w''=>bWI w l.length sb mb nn pb rb (.int .i64 (nn : Nat)) (.slice (some ⟨b,off,none⟩) l.length cap) (.pointer (some ⟨rb,0,none⟩)) (.pointer (some ⟨sb,0,none⟩)) (.pointer (some ⟨pb,0,none⟩)) a' w'' /\ bMu l.length a' w'' < bMu l.length (bFr T (.int .i64 (nn : Nat)) (.slice (some ⟨b,off,none⟩) l.length cap) (.pointer (some ⟨rb,0,none⟩)) (.pointer (some ⟨sb,0,none⟩)) (.pointer (some ⟨pb,0,none⟩)) (.int .i64 (q : Nat)) ds) wr) Q0) (bFr T (.int .i64 (nn : Nat)) (.slice (some ⟨b,off,none⟩) l.length cap) (.pointer (some ⟨rb,0,none⟩)) (.pointer (some ⟨sb,0,none⟩)) (.pointer (some ⟨pb,0,none⟩)) (.int .i64 (q : Nat)) ds) wr:=by
 refine oD ?_
 conv=>arg 2; whnf
 unfold bFr bOwn at *
 have hq : q <= l.length:=by omega
 obtain ⟨c0,c1,c2,c3,c4,c5,c6⟩:=(HAT.out q hlt).later 4 hown rfl
 have ok:=HV.out.2 _ (lv hlt)
 obtain ⟨ko,kc,hkv,hkl⟩:=l5 ok.keep
 have hkeep:=ok.keep
 rw [hkv] at c6 hkeep
 have hA:=ok.A
 have hk3:=HL _ (lv hlt)
 clear HL
 generalize l.getD q lk = x at *
 have HK:=zh hkeep
 have HA:=zh hA
 have HY:=zh hy
 clear hkv ok hkeep hA hy
 go_upto_region 14 with (fail)
 have ha:=lq hown (.cells #[.string x.kind,.int .i64 x.A,.int .i64 x.B,.int .i64 x.C,.int .i64 x.D,.string x.S,.slice ko x.keep.length kc] 37)
 have hxa:=hxr.alloc (.cells #[.string x.kind,.int .i64 x.A,.int .i64 x.B,.int .i64 x.C,.int .i64 x.D,.string x.S,.slice ko x.keep.length kc] 37)
 clear c0 c1 c2 c3 c4 c5 c6 hown hxr
 generalize wr.heap.size = ba at *
 generalize wr.alloc (.cells #[.string x.kind,.int .i64 x.A,.int .i64 x.B,.int .i64 x.C,.int .i64 x.D,.string x.S,.slice ko x.keep.length kc] 37) = wa at *
 obtain ⟨c,f⟩:=la 0 ha rfl
 have c0:=c 0
 have c1:=c 1
 have c2:=c 2
 have c6:=c 6
 clear c f
 go_upto_region 17 with (fail)
 have h1:=lq ha (.cells #[.int .i64 0] 3)
 have h2:=lq h1 (.cells #[.int .i64 (-1)] 3)
 have hx2:=((hxa.alloc (.cells #[.int .i64 0] 3)).alloc (.cells #[.int .i64 (-1)] 3)).alloc (.cells #[.int .u64 y] 52)
 have HA:=zh (yi sb nn y 3 _ h2 rfl)
 have h3:=lq h2 (.cells #[.int .u64 y] 52)
 have hsz : (((wa.alloc (.cells #[.int .i64 0] 3)).alloc (.cells #[.int .i64 (-1)] 3)).alloc (.cells #[.int .u64 y] 52)).heap.size = wa.heap.size + 3:=by rw [World.size_alloc,World.size_alloc,World.size_alloc]
 rw [World.size_alloc,World.size_alloc] at h3
 clear c0 c1 c2 c6 h1 h2
 go_wp2_with fail
 refine HA.out.mono ?_
 rintro e w' ⟨rfl,rfl⟩
 go_wp2_with fail
 clear HA
 generalize ((wa.alloc (.cells #[.int .i64 0] 3)).alloc (.cells #[.int .i64 (-1)] 3)).alloc (.cells #[.int .u64 y] 52) = W0 at *
 generalize wa.heap.size = kz at *
 have hds:=yY (A:=pts (kz + 2) (.cells #[.int .u64 y] 52 (0,0))::pts (kz + 1) (.cells #[.int .i64 (-1)] 3 (0,0))::pts kz (.cells #[.int .i64 0] 3 (0,0))::pts ba (.cells #[.string x.kind,.int .i64 x.A,.int .i64 x.B,.int .i64 x.C,.int .i64 x.D,.string x.S,.slice ko x.keep.length kc] 37 (0,0))::[lh sb nn y,lz mb nn y,pts pb (.cells #[.pointer (some ⟨mb,0,none⟩)] 31 (0,0)),pts rb (.cells #[.bool false] 4 (0,0)),lj w]) h3
 have hflat : ∀(a b : Int),Flat W0.heap.size (pts (kz + 2) (.cells #[.int .u64 y] 52 (0,0))::pts (kz + 1) (.cells #[.int .i64 b] 3 (0,0))::pts kz (.cells #[.int .i64 a] 3 (0,0))::pts ba (.cells #[.string x.kind,.int .i64 x.A,.int .i64 x.B,.int .i64 x.C,.int .i64 x.D,.string x.S,.slice ko x.keep.length kc] 37 (0,0))::bOwn w sb mb nn pb rb y ds):=fun a b=>lm ln (lm ln (lm ln (lm ln (yC hx2.size hds))))
 have hT0:=HT.out.later 8 h3 rfl
 have y64:=lt64 hn HY.out
 refine yL (α:=Nat) (gf:=24) (lb:=#[.pointer (some ⟨kz + 2,0,none⟩)]) (q:=21) rfl (enters_of Tryd.func24 (by kernel_rfl) rfl) (enc:=fun z : Nat=>.int .i64 (z : Nat)) (oR 4 (by decide) (kz + 2) y y64 W0 (by omega) ((la 0 h3 rfl).1 0) hT0) yj yd
  (fun pre W=>own W (pts (kz + 2) (.cells #[.int .u64 y] 52 (0,0))::pts (kz + 1) (.cells #[.int .i64 (lV pre)] 3 (0,0))::pts kz (.cells #[.int .i64 (pre.length : Nat)] 3 (0,0))::pts ba (.cells #[.string x.kind,.int .i64 x.A,.int .i64 x.B,.int .i64 x.C,.int .i64 x.D,.string x.S,.slice ko x.keep.length kc] 37 (0,0))::bOwn w sb mb nn pb rb y ds) /\ SL.Ext w W)
  (fun c pre W=>(c = .ret /\ ¬(pre <+: ll y)) \/ (c = .exit 3 /\ ((pre.length : Nat) : Int) = x.A /\ own W (pts (kz + 2) (.cells #[.int .u64 y] 52 (0,0))::pts (kz + 1) (.cells #[.int .i64 (lV pre)] 3 (0,0))::pts kz (.cells #[.int .i64 (pre.length : Nat)] 3 (0,0))::pts ba (.cells #[.string x.kind,.int .i64 x.A,.int .i64 x.B,.int .i64 x.C,.int .i64 x.D,.string x.S,.slice ko x.keep.length kc] 37 (0,0))::bOwn w sb mb nn pb rb y ds) /\ SL.Ext w W))
  (fun pre A B row hs hg hr=>⟨l6 hs.1 (hflat _ _) hg hr,Ext.grown hs.2 hg⟩)
  (fun c pre A B row hs hg hr=>hs.imp id fun ⟨a,b,c,d⟩=>⟨a,b,l6 c (hflat _ _) hg hr,Ext.grown d hg⟩)
  ⟨h3,hx2⟩ ?assign ?body ?done ?stop
 case assign=>
  intro l z W K hK
  simp only [List.setIfInBounds_toArray,List.set_cons_zero,List.set_cons_succ] at hK ⊢
  gi_wp2
  exact hK
 case body=>
  rintro l' pre z W ⟨hown,hxw⟩ hlen
  simp only [List.setIfInBounds_toArray,List.set_cons_zero,List.set_cons_succ]
  obtain ⟨kc,kf⟩:=la 2 hown rfl
  obtain ⟨lc,lf⟩:=la 1 hown rfl
  obtain ⟨rc,rf⟩:=la 7 hown rfl
  have k0:=kc 0
  have kf0:=kf 0
  have l0:=lc 0
  have lf0:=lf 0
  have r0:=rc 0
  have rf0:=rf 0
  have c1:=(la 3 hown rfl).1 1
  have p0:=(la 6 hown rfl).1 0
  clear kc kf lc lf rc rf
  have HH:=zh (lL mb 0 nn y hn (z : Int) W (lp 5 hown rfl))
  have hT:=HT.out
  have hcome : pre++[z] <+: ll y -> lV pre < z /\ hasM nn y (z : Int) = true:=come HY.out
  have HCM:=zh hcome
  have hls:=yw pre z
  have HLS:=zh hls
  clear hcome hls
  have hpl : (pre++[z]).length = pre.length + 1:=by simp
  have HPL:=zh hpl
  clear hpl
  have e1 : IntKind.i64.wrap ((pre.length : Int) + 1) = (pre.length : Int) + 1:=zi _ (by omega)
  by_cases hle : (z : Int) <= lV pre
  ·have d0 : decide ((z : Int) <= lV pre) = true:=zg hle
   gi_wp2
   refine ⟨trivial,?_⟩
   gi_wp2
   exact ⟨(KeepsOthers.setCell _ _ _).from _,.inl ⟨rfl,fun hp=>by have:=(HCM.out hp).1; omega⟩⟩
  ·have d0 : decide ((z : Int) <= lV pre) = false:=zf hle
   by_cases hh : hasM nn y (z : Int) = true
   ·rw [hh] at HH
    have h5:=lN (i:=0) (v:=.int .i64 ((pre.length : Int) + 1)) 2 (lN (i:=0) (v:=.int .i64 (z : Nat)) 1 hown rfl) rfl
    have hx5:=(hxw.setCell ⟨kz + 1,0,none⟩ (.int .i64 (z : Nat))).setCell ⟨kz,0,none⟩ (.int .i64 ((pre.length : Int) + 1))
    have hk5:=(KeepsOthers.setCell W ⟨kz + 1,0,none⟩ (.int .i64 (z : Nat))).trans (KeepsOthers.setCell (W.setCell ⟨kz + 1,0,none⟩ (.int .i64 (z : Nat))) ⟨kz,0,none⟩ (.int .i64 ((pre.length : Int) + 1)))
    have hq : ((pre.length : Int) + 1 == x.A) = true \/ ((pre.length : Int) + 1 == x.A) = false:=by cases ((pre.length : Int) + 1 == x.A) <;> simp
    clear hown hh hxw
    rcases hq with q0 | q0
    ·gi_wp2
     refine ⟨trivial,(CallsIn.inRound l' (callsIn_wide.2 HH.out)).mono ?_⟩
     rintro e w' ⟨rfl,rfl⟩
     gi_wp2
     exact ⟨hk5.from _,.inr ⟨rfl,by rw [HPL.out,<- eq_of_beq q0]; rfl,by rw [HPL.out,HLS.out]; exact h5,hx5⟩⟩
    ·gi_wp2
     refine ⟨trivial,(CallsIn.inRound l' (callsIn_wide.2 HH.out)).mono ?_⟩
     rintro e w' ⟨rfl,rfl⟩
     gi_wp2
     exact ⟨hk5.from _,fun _=>HT.out.later 8 h5 rfl,by rw [HPL.out,HLS.out]; exact h5,hx5⟩
   ·rw [Bool.not_eq_true] at hh
    rw [hh] at HH
    have HF:=zh hh
    clear hh
    gi_wp2
    refine ⟨trivial,(CallsIn.inRound l' (callsIn_wide.2 HH.out)).mono ?_⟩
    rintro e w' ⟨rfl,rfl⟩
    gi_wp2
    exact ⟨(KeepsOthers.setCell _ _ _).from _,.inl ⟨rfl,fun hp=>by have:=(HCM.out hp).2; rw [HF.out] at this; cases this⟩⟩
 case done=>
  rintro D xs W hD rfl ⟨hown,hxw⟩ hK
  have h5:=oY hown (hflat _ _) hD hK
  have h6 : own W (pts kz (.cells #[.int .i64 ((ll y).length : Nat)] 3 (0,0))::pts ba (.cells #[.string x.kind,.int .i64 x.A,.int .i64 x.B,.int .i64 x.C,.int .i64 x.D,.string x.S,.slice ko x.keep.length kc] 37 (0,0))::bOwn w sb mb nn pb rb y (D::ds)):=lF 0 (oE [pts kz (.cells #[.int .i64 ((ll y).length : Nat)] 3 (0,0)),pts ba (.cells #[.string x.kind,.int .i64 x.A,.int .i64 x.B,.int .i64 x.C,.int .i64 x.D,.string x.S,.slice ko x.keep.length kc] 37 (0,0)),lh sb nn y,lz mb nn y,pts pb (.cells #[.pointer (some ⟨mb,0,none⟩)] 31 (0,0)),pts rb (.cells #[.bool false] 4 (0,0)),lj w] (R:=ds.map lB) (lM 1 (lM 1 h5 rfl) rfl)) rfl
  rw [yI] at h6
  clear hown h5 h3 hx2 hT0 hds
  have HOK : Hid (own _ (pts kz (.cells #[.int .i64 (Ones.popc 64 y : Nat)] 3 (0,0))::pts ba (.cells #[.string x.kind,.int .i64 x.A,.int .i64 x.B,.int .i64 x.C,.int .i64 x.D,.string x.S,.slice ko x.keep.length kc] 37 (0,0))::bOwn w sb mb nn pb rb y (D::ds))):=zh h6
  have HC:=zh (fun w0 (H : own w0 (pts kz (.cells #[.int .i64 (Ones.popc 64 y : Nat)] 3 (0,0))::pts ba (.cells #[.string x.kind,.int .i64 x.A,.int .i64 x.B,.int .i64 x.C,.int .i64 x.D,.string x.S,.slice ko x.keep.length kc] 37 (0,0))::bOwn w sb mb nn pb rb y (D::ds)))=>lA mb 0 nn y w0 (lp 3 H rfl))
  have tk0:=(la 0 HOK.out rfl).1 0
  have tp0:=(la 4 HOK.out rfl).1 0
  have tc1:=(la 1 HOK.out rfl).1 1
  clear h6
  generalize hpc : Ones.popc 64 y = pc at *
  go_upto_region 24 with (fail)
  go_quiet ((go_at_call 16; exact Calls.quiet_of_same ((HC.out _ (by first | exact HOK.out | exact lg HOK.out | exact ld _ HOK.out)).mono fun e w' h=>⟨h.1,h.2.symm⟩)))
  have h7:=lo (ld nq HOK.out)
  have hx7:=hxw.drewN nq
  clear tk0 tp0 tc1 HC HOK hxw
  generalize W.drewN nq = W7 at *
  have hy7:=HY.out
  rw [<- hpc] at *
  have HOW : Hid (own _ (pts ba (.cells #[.string x.kind,.int .i64 x.A,.int .i64 x.B,.int .i64 x.C,.int .i64 x.D,.string x.S,.slice ko x.keep.length kc] 37 (0,0))::bOwn w sb mb nn pb rb y (D::ds))):=zh h7
  have HXW:=zh hx7
  have HYW:=zh hy7
  have HH1:=zh (fun w0 (H : own w0 (pts ba (.cells #[.string x.kind,.int .i64 x.A,.int .i64 x.B,.int .i64 x.C,.int .i64 x.D,.string x.S,.slice ko x.keep.length kc] 37 (0,0))::bOwn w sb mb nn pb rb y (D::ds)))=>lG sb nn y hn (lt64 hn HYW.out) x.A 1 w0 H rfl)
  have HH2:=zh (fun w0 (H : own w0 (pts ba (.cells #[.string x.kind,.int .i64 x.A,.int .i64 x.B,.int .i64 x.C,.int .i64 x.D,.string x.S,.slice ko x.keep.length kc] 37 (0,0))::bOwn w sb mb nn pb rb y (D::ds)))=>lL mb 0 nn y hn x.A w0 (lp 2 H rfl))
  have HC1:=zh (fun w0 (H : own w0 (pts ba (.cells #[.string x.kind,.int .i64 x.A,.int .i64 x.B,.int .i64 x.C,.int .i64 x.D,.string x.S,.slice ko x.keep.length kc] 37 (0,0))::bOwn w sb mb nn pb rb y (D::ds)))=>lD sb nn y (lt64 hn HYW.out) 1 w0 H rfl)
  have HC2:=zh (fun w0 (H : own w0 (pts ba (.cells #[.string x.kind,.int .i64 x.A,.int .i64 x.B,.int .i64 x.C,.int .i64 x.D,.string x.S,.slice ko x.keep.length kc] 37 (0,0))::bOwn w sb mb nn pb rb y (D::ds)))=>lA mb 0 nn y w0 (lp 2 H rfl))
  have HS1:=zh (fun w0 (H : own w0 (pts ba (.cells #[.string x.kind,.int .i64 x.A,.int .i64 x.B,.int .i64 x.C,.int .i64 x.D,.string x.S,.slice ko x.keep.length kc] 37 (0,0))::bOwn w sb mb nn pb rb y (D::ds)))=>lO sb nn y 1 w0 H rfl)
  have tp0:=(la 3 HOW.out rfl).1 0
  have tc1:=(la 0 HOW.out rfl).1 1
  generalize hasM nn y x.A = hb at *
  generalize Ones.popc 64 y = pc at *
  clear h7 hx7 hy7
  go_upto_region 46 with (fail)
  go_quiet (first | (go_at_call 17; exact Calls.quiet_of_same ((HH1.out _ (by first | exact HOW.out | exact lg HOW.out | exact ld _ HOW.out)).mono fun e w' h=>⟨h.1,h.2.symm⟩)) | (go_at_call 15; exact Calls.quiet_of_same ((HH2.out _ (by first | exact HOW.out | exact lg HOW.out | exact ld _ HOW.out)).mono fun e w' h=>⟨h.1,h.2.symm⟩)) | (go_at_call 18; exact Calls.quiet_of_same ((HC1.out _ (by first | exact HOW.out | exact lg HOW.out | exact ld _ HOW.out)).mono fun e w' h=>⟨h.1,h.2.symm⟩)) | (go_at_call 16; exact Calls.quiet_of_same ((HC2.out _ (by first | exact HOW.out | exact lg HOW.out | exact ld _ HOW.out)).mono fun e w' h=>⟨h.1,h.2.symm⟩)) | (go_at_call 19; exact Calls.quiet_of_same ((HS1.out _ (by first | exact HOW.out | exact lg HOW.out | exact ld _ HOW.out)).mono fun e w' h=>⟨h.1,h.2.symm⟩)))
  go_wp2_with fail
  refine ⟨lX (D::ds) rfl rfl rfl rfl rfl rfl rfl ⟨q + 1,y,by omega,by go_num,HXW.out.drewN _,HYW.out,ld _ (lo HOW.out)⟩,by simp [bMu,intOf]; omega⟩
 case stop=>
  rintro D c pre W hD hpre hix hK
  rcases hix with ⟨rfl,hno⟩ | ⟨rfl,hlenA,hown,hxw⟩
  ·exact absurd hpre hno
  have h5:=oY hown (hflat _ _) hD hK
  have h6 : own W (pts kz (.cells #[.int .i64 (pre.length : Nat)] 3 (0,0))::pts ba (.cells #[.string x.kind,.int .i64 x.A,.int .i64 x.B,.int .i64 x.C,.int .i64 x.D,.string x.S,.slice ko x.keep.length kc] 37 (0,0))::bOwn w sb mb nn pb rb y (D::ds)):=lF 0 (oE [pts kz (.cells #[.int .i64 (pre.length : Nat)] 3 (0,0)),pts ba (.cells #[.string x.kind,.int .i64 x.A,.int .i64 x.B,.int .i64 x.C,.int .i64 x.D,.string x.S,.slice ko x.keep.length kc] 37 (0,0)),lh sb nn y,lz mb nn y,pts pb (.cells #[.pointer (some ⟨mb,0,none⟩)] 31 (0,0)),pts rb (.cells #[.bool false] 4 (0,0)),lj w] (R:=ds.map lB) (lM 1 (lM 1 h5 rfl) rfl)) rfl
  rw [hlenA] at h6
  clear hown h5 h3 hx2 hT0 hds hpre hlenA
  have HOK : Hid (own _ (pts kz (.cells #[.int .i64 x.A] 3 (0,0))::pts ba (.cells #[.string x.kind,.int .i64 x.A,.int .i64 x.B,.int .i64 x.C,.int .i64 x.D,.string x.S,.slice ko x.keep.length kc] 37 (0,0))::bOwn w sb mb nn pb rb y (D::ds))):=zh h6
  have HC:=zh (fun w0 (H : own w0 (pts kz (.cells #[.int .i64 x.A] 3 (0,0))::pts ba (.cells #[.string x.kind,.int .i64 x.A,.int .i64 x.B,.int .i64 x.C,.int .i64 x.D,.string x.S,.slice ko x.keep.length kc] 37 (0,0))::bOwn w sb mb nn pb rb y (D::ds)))=>lA mb 0 nn y w0 (lp 3 H rfl))
  have tk0:=(la 0 HOK.out rfl).1 0
  have tp0:=(la 4 HOK.out rfl).1 0
  have tc1:=(la 1 HOK.out rfl).1 1
  clear h6
  generalize hpc : Ones.popc 64 y = pc at *
  by_cases hcp : x.A = (pc : Int)
  ·rw [hcp] at tk0
   clear hcp
   go_upto_region 24 with (fail)
   go_quiet ((go_at_call 16; exact Calls.quiet_of_same ((HC.out _ (by first | exact HOK.out | exact lg HOK.out | exact ld _ HOK.out)).mono fun e w' h=>⟨h.1,h.2.symm⟩)))
   have h7:=lo (ld nq HOK.out)
   have hx7:=hxw.drewN nq
   clear tk0 tp0 tc1 HC HOK hxw
   generalize W.drewN nq = W7 at *
   have hy7:=HY.out
   rw [<- hpc] at *
   have HOW : Hid (own _ (pts ba (.cells #[.string x.kind,.int .i64 x.A,.int .i64 x.B,.int .i64 x.C,.int .i64 x.D,.string x.S,.slice ko x.keep.length kc] 37 (0,0))::bOwn w sb mb nn pb rb y (D::ds))):=zh h7
   have HXW:=zh hx7
   have HYW:=zh hy7
   have HH1:=zh (fun w0 (H : own w0 (pts ba (.cells #[.string x.kind,.int .i64 x.A,.int .i64 x.B,.int .i64 x.C,.int .i64 x.D,.string x.S,.slice ko x.keep.length kc] 37 (0,0))::bOwn w sb mb nn pb rb y (D::ds)))=>lG sb nn y hn (lt64 hn HYW.out) x.A 1 w0 H rfl)
   have HH2:=zh (fun w0 (H : own w0 (pts ba (.cells #[.string x.kind,.int .i64 x.A,.int .i64 x.B,.int .i64 x.C,.int .i64 x.D,.string x.S,.slice ko x.keep.length kc] 37 (0,0))::bOwn w sb mb nn pb rb y (D::ds)))=>lL mb 0 nn y hn x.A w0 (lp 2 H rfl))
   have HC1:=zh (fun w0 (H : own w0 (pts ba (.cells #[.string x.kind,.int .i64 x.A,.int .i64 x.B,.int .i64 x.C,.int .i64 x.D,.string x.S,.slice ko x.keep.length kc] 37 (0,0))::bOwn w sb mb nn pb rb y (D::ds)))=>lD sb nn y (lt64 hn HYW.out) 1 w0 H rfl)
   have HC2:=zh (fun w0 (H : own w0 (pts ba (.cells #[.string x.kind,.int .i64 x.A,.int .i64 x.B,.int .i64 x.C,.int .i64 x.D,.string x.S,.slice ko x.keep.length kc] 37 (0,0))::bOwn w sb mb nn pb rb y (D::ds)))=>lA mb 0 nn y w0 (lp 2 H rfl))
   have HS1:=zh (fun w0 (H : own w0 (pts ba (.cells #[.string x.kind,.int .i64 x.A,.int .i64 x.B,.int .i64 x.C,.int .i64 x.D,.string x.S,.slice ko x.keep.length kc] 37 (0,0))::bOwn w sb mb nn pb rb y (D::ds)))=>lO sb nn y 1 w0 H rfl)
   have tp0:=(la 3 HOW.out rfl).1 0
   have tc1:=(la 0 HOW.out rfl).1 1
   generalize hasM nn y x.A = hb at *
   generalize Ones.popc 64 y = pc at *
   clear h7 hx7 hy7
   go_upto_region 46 with (fail)
   go_quiet (first | (go_at_call 17; exact Calls.quiet_of_same ((HH1.out _ (by first | exact HOW.out | exact lg HOW.out | exact ld _ HOW.out)).mono fun e w' h=>⟨h.1,h.2.symm⟩)) | (go_at_call 15; exact Calls.quiet_of_same ((HH2.out _ (by first | exact HOW.out | exact lg HOW.out | exact ld _ HOW.out)).mono fun e w' h=>⟨h.1,h.2.symm⟩)) | (go_at_call 18; exact Calls.quiet_of_same ((HC1.out _ (by first | exact HOW.out | exact lg HOW.out | exact ld _ HOW.out)).mono fun e w' h=>⟨h.1,h.2.symm⟩)) | (go_at_call 16; exact Calls.quiet_of_same ((HC2.out _ (by first | exact HOW.out | exact lg HOW.out | exact ld _ HOW.out)).mono fun e w' h=>⟨h.1,h.2.symm⟩)) | (go_at_call 19; exact Calls.quiet_of_same ((HS1.out _ (by first | exact HOW.out | exact lg HOW.out | exact ld _ HOW.out)).mono fun e w' h=>⟨h.1,h.2.symm⟩)))
   go_wp2_with fail
   refine ⟨lX (D::ds) rfl rfl rfl rfl rfl rfl rfl ⟨q + 1,y,by omega,by go_num,HXW.out.drewN _,HYW.out,ld _ (lo HOW.out)⟩,by simp [bMu,intOf]; omega⟩
  ·have hcq : (x.A != (pc : Int)) = true:=bne_iff_ne.2 hcp
   clear hcp
   go_upto_region 24 with (fail)
   go_quiet ((go_at_call 16; exact Calls.quiet_of_same ((HC.out _ (by first | exact HOK.out | exact lg HOK.out | exact ld _ HOK.out)).mono fun e w' h=>⟨h.1,h.2.symm⟩)))
   have h7:=lo (ld nq HOK.out)
   have hx7:=hxw.drewN nq
   clear tk0 tp0 tc1 HC HOK hxw
   generalize W.drewN nq = W7 at *
   clear hcq
   have hy7:=HY.out
   rw [<- hpc] at *
   have HOW : Hid (own _ (pts ba (.cells #[.string x.kind,.int .i64 x.A,.int .i64 x.B,.int .i64 x.C,.int .i64 x.D,.string x.S,.slice ko x.keep.length kc] 37 (0,0))::bOwn w sb mb nn pb rb y (D::ds))):=zh h7
   have HXW:=zh hx7
   have HYW:=zh hy7
   have HH1:=zh (fun w0 (H : own w0 (pts ba (.cells #[.string x.kind,.int .i64 x.A,.int .i64 x.B,.int .i64 x.C,.int .i64 x.D,.string x.S,.slice ko x.keep.length kc] 37 (0,0))::bOwn w sb mb nn pb rb y (D::ds)))=>lG sb nn y hn (lt64 hn HYW.out) x.A 1 w0 H rfl)
   have HH2:=zh (fun w0 (H : own w0 (pts ba (.cells #[.string x.kind,.int .i64 x.A,.int .i64 x.B,.int .i64 x.C,.int .i64 x.D,.string x.S,.slice ko x.keep.length kc] 37 (0,0))::bOwn w sb mb nn pb rb y (D::ds)))=>lL mb 0 nn y hn x.A w0 (lp 2 H rfl))
   have HC1:=zh (fun w0 (H : own w0 (pts ba (.cells #[.string x.kind,.int .i64 x.A,.int .i64 x.B,.int .i64 x.C,.int .i64 x.D,.string x.S,.slice ko x.keep.length kc] 37 (0,0))::bOwn w sb mb nn pb rb y (D::ds)))=>lD sb nn y (lt64 hn HYW.out) 1 w0 H rfl)
   have HC2:=zh (fun w0 (H : own w0 (pts ba (.cells #[.string x.kind,.int .i64 x.A,.int .i64 x.B,.int .i64 x.C,.int .i64 x.D,.string x.S,.slice ko x.keep.length kc] 37 (0,0))::bOwn w sb mb nn pb rb y (D::ds)))=>lA mb 0 nn y w0 (lp 2 H rfl))
   have HS1:=zh (fun w0 (H : own w0 (pts ba (.cells #[.string x.kind,.int .i64 x.A,.int .i64 x.B,.int .i64 x.C,.int .i64 x.D,.string x.S,.slice ko x.keep.length kc] 37 (0,0))::bOwn w sb mb nn pb rb y (D::ds)))=>lO sb nn y 1 w0 H rfl)
   have tp0:=(la 3 HOW.out rfl).1 0
   have tc1:=(la 0 HOW.out rfl).1 1
   generalize hasM nn y x.A = hb at *
   generalize Ones.popc 64 y = pc at *
   clear h7 hx7 hy7
   go_upto_region 46 with (fail)
   go_quiet (first | (go_at_call 17; exact Calls.quiet_of_same ((HH1.out _ (by first | exact HOW.out | exact lg HOW.out | exact ld _ HOW.out)).mono fun e w' h=>⟨h.1,h.2.symm⟩)) | (go_at_call 15; exact Calls.quiet_of_same ((HH2.out _ (by first | exact HOW.out | exact lg HOW.out | exact ld _ HOW.out)).mono fun e w' h=>⟨h.1,h.2.symm⟩)) | (go_at_call 18; exact Calls.quiet_of_same ((HC1.out _ (by first | exact HOW.out | exact lg HOW.out | exact ld _ HOW.out)).mono fun e w' h=>⟨h.1,h.2.symm⟩)) | (go_at_call 16; exact Calls.quiet_of_same ((HC2.out _ (by first | exact HOW.out | exact lg HOW.out | exact ld _ HOW.out)).mono fun e w' h=>⟨h.1,h.2.symm⟩)) | (go_at_call 19; exact Calls.quiet_of_same ((HS1.out _ (by first | exact HOW.out | exact lg HOW.out | exact ld _ HOW.out)).mono fun e w' h=>⟨h.1,h.2.symm⟩)))
   go_wp2_with fail
   refine ⟨lX (D::ds) rfl rfl rfl rfl rfl rfl rfl ⟨q + 1,y,by omega,by go_num,HXW.out.drewN _,HYW.out,ld _ (lo HOW.out)⟩,by simp [bMu,intOf]; omega⟩
end Go.Proofs.YtbpblokfiajpjaaDoor
namespace Go.Proofs.YtbpblokfiajpjaaDoor
open Go.RowKit Go.SL Go.Crc Go.Shelf
attribute [local go_sem ↓] Go.wp_at_zero Go.wp_at_succ
theorem o7 {fn : Func} (h : fn.results = #[.cell 4 4]) (tmps : Array Value) {b : Nat} {v : Value} {w : World} (ht : tmps.getD 4 undef = .pointer (some ⟨b,0,none⟩)) (hc : w.cell? ⟨b,0,none⟩ = some v) : (results fn tmps).run Tryd.prog w = .ok v w:=by
 have ht' : tmps[4]?.getD undef = .pointer (some ⟨b,0,none⟩):=by simpa using ht
 simp [results,h,go_sem,ht',hc]
theorem bEnd {n : Nat} {fn : Func} (h : fn.results = #[.cell 4 4]) {tmps : Array Value} {ds : List Nat} {b : Nat} {L : List SL.HP} {w0 w : World} (k : Nat) (hx : SL.Ext w0 w) (H : own w (pts b (.cells #[.bool true] 4 (0,0))::(L++ds.map lB))) (hk : L[k]? = some (lj w0)) (ht : tmps.getD 4 undef = .pointer (some ⟨b,0,none⟩)) :
  LeavesInM Fence.wide n Tryd.prog fn tmps (fun e w'=>e = .returned (.bool true) /\ Below w0.heap.size w0 w') (ds.map on) .returning w:=
 o4 (A:=pts b (.cells #[.bool true] 4 (0,0))::L) (fun w' h1 h2=>⟨.bool true,o7 h tmps ht ((la 0 h1 rfl).1 0),rfl,zp (k + 1) h1 (by rw [List.getElem?_cons_succ]; exact hk) h2⟩) ds w (by
  have h1:=ox (fun _=>oO (List.perm_append_comm (l₁:=pts b (.cells #[.bool true] 4 (0,0))::L) (l₂:=ds.map lB))) (by simpa only [List.cons_append] using H)
  exact h1) hx
theorem zM {b off cap sb mb nn pb rb : Nat} {l : List Act} {w : World} (hL : l.length <= 80) (HL : ∀a∈l,a.keep.length <= 300) (HAT : Hid (∀i,i < l.length -> lu w b (off + i * 7) (l.getD i lk))) (HV : Hid (ly w (.slice (some ⟨b,off,none⟩) l.length cap) l)) (HT : Hid (ls w)) (hn : nn <= 64) (Q0 : Exit -> Go.Act -> World -> Prop)
  (hdone : ∀a wr,(∃T x ds,SL.Ext w wr /\ own wr (bOwn w sb mb nn pb rb x ds) /\ a = bFr T (.int .i64 (nn : Nat)) (.slice (some ⟨b,off,none⟩) l.length cap) (.pointer (some ⟨rb,0,none⟩)) (.pointer (some ⟨sb,0,none⟩)) (.pointer (some ⟨pb,0,none⟩)) (.int .i64 (l.length : Nat)) ds) -> Code.wp Tryd.prog oo (Exit.then (fun a' w''=>bWI w l.length sb mb nn pb rb (.int .i64 (nn : Nat)) (.slice (some ⟨b,off,none⟩) l.length cap) (.pointer (some ⟨rb,0,none⟩)) (.pointer (some ⟨sb,0,none⟩)) (.pointer (some ⟨pb,0,none⟩)) a' w'' /\ bMu l.length a' w'' < bMu l.length a wr) Q0) a wr)
  (a : Go.Act) (wr : World) (hI : bWI w l.length sb mb nn pb rb (.int .i64 (nn : Nat)) (.slice (some ⟨b,off,none⟩) l.length cap) (.pointer (some ⟨rb,0,none⟩)) (.pointer (some ⟨sb,0,none⟩)) (.pointer (some ⟨pb,0,none⟩)) a wr) :
  Code.wp Tryd.prog oo (Exit.then (fun a' w''=>bWI w l.length sb mb nn pb rb (.int .i64 (nn : Nat)) (.slice (some ⟨b,off,none⟩) l.length cap) (.pointer (some ⟨rb,0,none⟩)) (.pointer (some ⟨sb,0,none⟩)) (.pointer (some ⟨pb,0,none⟩)) a' w'' /\ bMu l.length a' w'' < bMu l.length a wr) Q0) a wr:=by
 obtain ⟨T,k,ds,⟨q,y,hq,rfl,hxr,hy,hown⟩,rfl⟩:=hI
 by_cases hlt : q < l.length
 ·by_cases k1 : ((l.getD q lk).kind.toList == [112,117,116]) = true
  ·exact bPut hL HL HAT HV HT hn T hlt hxr hy hown Q0 k1
  by_cases k2 : ((l.getD q lk).kind.toList == [110,101,120,116]) = true
  ·exact z0 hL HL HAT HV HT hn T hlt hxr hy hown Q0 k1 k2
  by_cases k3 : ((l.getD q lk).kind.toList == [106,111,105,110]) = true
  ·exact zY hL HL HAT HV HT hn T hlt hxr hy hown Q0 k1 k2 k3
  ·exact bAll hL HL HAT HV HT hn T hlt hxr hy hown Q0 k1 k2 k3
 ·obtain rfl : q = l.length:=by omega
  exact hdone _ _ ⟨T,y,ds,hxr,hown,rfl⟩
theorem oW (n : Int) (v : Value) (l : List Act) (w : World) (hv : ly w v l) (hT : ls w) :
  Calls Tryd.prog 3 #[.int .i64 n,v] w fun e w'=>e = .returned (.bool true) /\ Below w.heap.size w w':=by
 obtain ⟨ao,bb,off,cap,rfl,hlen,hao,hat⟩:=hv.form
 have h0:=ya w
 have h1:=lq h0 (.cells #[.bool false] 4)
 have hx1:=(SL.zR w).alloc (.cells #[.bool false] 4)
 have HAT:=zh hat
 have HV:=zh hv
 have HAO:=zh hao
 have HTB:=zh hT
 have hvA:=hv.later 1 h1 rfl
 clear hat hv hao hT
 refine (callsIn_wide (n:=8)).1 ?_
 refine callsIn_of_wp_marks Tryd.func3 rfl trivial ?_ rfl
 simp only [Tryd.ntmps3,List.size_toArray,List.length_cons,List.length_nil,Nat.reduceAdd,Nat.reduceSub,Array.replicate_succ,Array.replicate_zero,List.push_toArray,List.append_toArray,List.nil_append,List.cons_append]
 refine wpIn_wide.2 ?_
 go_upto_region 1 with (fail)
 generalize w.heap.size = rb at *
 generalize w.alloc (.cells #[.bool false] 4) = w1 at *
 have HCN:=zh (yz _ w1 h1)
 go_wp2_with fail
 refine HCN.out.mono ?_
 rintro e w2 ⟨rfl,hx2,h2⟩
 clear HCN
 have HLI:=zh (yM _ l 80 w2 (HV.out.later 1 h2 rfl))
 have hx12:=hx1.trans hx2
 clear hx1 hx2 hvA h1 h0
 go_wp2_with fail
 refine HLI.out.mono ?_
 rintro e w' ⟨rfl,rfl⟩
 obtain ⟨cc,cf⟩:=la 0 h2 rfl
 have r0:=cc 0
 have rf0:=cf 0
 clear cc cf
 by_cases hL : oe l 80 = true
 ·have hl2 : l.length <= 80 /\ ∀x∈l,x.keep.length <= 300:=by
   simp only [oe,lU,Bool.and_eq_true,decide_eq_true_eq,List.all_eq_true] at hL
   exact ⟨by omega,fun x hx=>by have:=(hL.2 x hx).2; omega⟩
  rw [hL]
  clear hL
  obtain ⟨hl80,hlx⟩:=hl2
  have HLX:=zh hlx
  clear hlx
  by_cases hnb : n < 0 \/ 64 < n
  ·have HB:=zh (o5 n hnb w2)
   rw [show errV 1 = .iface 48 (.int .i64 1) from rfl] at HB
   have HS:=zh (zo 1 1 w2 (by decide))
   rw [show errV 1 = .iface 48 (.int .i64 1) from rfl] at HS
   have hd : decide (n < 0) = true \/ (decide (n < 0) = false /\ decide (64 < n) = true):=by
    simp only [decide_eq_true_eq,decide_eq_false_iff_not]
    omega
   have h3:=lN (i:=0) (v:=.bool true) 0 h2 rfl
   clear hnb
   rcases hd with d0 | ⟨d0,d1⟩
   all_goals
    go_wp2_with fail
    refine HB.out.mono ?_
    rintro e w' ⟨rfl,rfl⟩
    go_wp2_with fail
    refine HS.out.mono ?_
    rintro e w' ⟨rfl,rfl⟩
    go_wp2_with fail
    exact bEnd (ds:=[]) (L:=[lj w]) rfl 0 (hx12.setCell _ _) h3 rfl rfl
  ·obtain ⟨nn,rfl⟩:=ze (show 0 <= n by omega)
   have h64 : nn <= 64:=by omega
   have HB:=zh (oB nn h64 _ w2 h2)
   have w1' : (nn : Int) <= 64:=by omega
   have w0' : (0 : Int) <= (nn : Int):=by omega
   clear hnb
   go_wp2_with fail
   refine HB.out.mono ?_
   rintro e w3 ⟨sb,rfl,hx3,h3⟩
   have hx13:=hx12.trans hx3
   clear HB h2 hx12 hx3 r0 rf0
   have hz2 : (lw 0 0).setIfInBounds 0 (.int .i64 (nn : Nat)) = lw nn 0:=by kernel_rfl
   have HZ2:=zh hz2
   clear hz2
   first | (go_upto_region 10 with (fail); have hz : Tryd.zeroCells34 = lw 0 0:=(by kernel_rfl); rw [hz,HZ2.out]; clear hz) | (have hzv : ∀w0,(zeroValue 34).run Tryd.prog w0 = .ok (.agg (lw 0 0)) w0:=(fun w0=>by kernel_rfl); have hne : (lw 0 0 = #[]) = False:=eq_false (fun h=>absurd (congrArg Array.size h) (by simp [lw])); go_upto_region 10 with (fail); rw [HZ2.out]; clear hzv hne)
   have h4:=lq h3 (.cells (lw nn 0) 34)
   have h5:=lq h4 (.cells #[.pointer (some ⟨w3.heap.size,0,none⟩)] 31)
   have hx5:=(hx13.alloc (.cells (lw nn 0) 34)).alloc (.cells #[.pointer (some ⟨w3.heap.size,0,none⟩)] 31)
   rw [World.size_alloc] at h5
   generalize (w3.alloc (.cells (lw nn 0) 34)).alloc (.cells #[.pointer (some ⟨w3.heap.size,0,none⟩)] 31) = w5 at *
   generalize w3.heap.size = mb at *
   have h6 : own w5 (bOwn w sb mb nn (mb + 1) rb 0 []):=lF 2 (lF 1 h5 rfl) rfl
   clear h3 h4 h5
   by_cases hl0 : 0 < l.length
   ·obtain rfl:=HAO.out hl0
    go_wp2_with fail
    refine wp_loop (bWI w l.length sb mb nn (mb + 1) rb (.int .i64 (nn : Nat)) (.slice (some ⟨bb,off,none⟩) l.length cap) (.pointer (some ⟨rb,0,none⟩)) (.pointer (some ⟨sb,0,none⟩)) (.pointer (some ⟨mb + 1,0,none⟩))) (bMu l.length) ?_ ?_
    ·exact lX [] rfl rfl rfl rfl rfl rfl rfl ⟨0,0,by omega,rfl,hx5,Nat.two_pow_pos _,h6⟩
    ·intro a w'' hI
     refine zM hl80 HLX.out HAT HV HTB h64 _ ?_ a w'' hI
     rintro a wr ⟨T,x,ds,hxr,hown,rfl⟩
     conv=>arg 2; whnf
     unfold bFr
     have h7:=lN (i:=0) (v:=.bool true) 3 hown rfl
     obtain ⟨cc,cf⟩:=la 3 hown rfl
     have r0:=cc 0
     have rf0:=cf 0
     have hx7:=hxr.setCell ⟨rb,0,none⟩ (.bool true)
     clear cc cf hown hxr
     go_wp2_with fail
     exact bEnd (ds:=ds) (L:=[lh sb nn x,lz mb nn x,pts (mb + 1) (.cells #[.pointer (some ⟨mb,0,none⟩)] 31 (0,0)),lj w]) rfl 3 hx7 (lF 3 h7 rfl) rfl rfl
   ·have hl1 : (l.length : Int) = 0:=by omega
    have h7:=lN (i:=0) (v:=.bool true) 3 h6 rfl
    obtain ⟨cc,cf⟩:=la 3 h6 rfl
    have r0:=cc 0
    have rf0:=cf 0
    clear cc cf h6
    have hl2 : l.length = 0:=by omega
    rw [hl2]
    clear hl0 hl1 hl2 HAO HAT HV HLI
    go_wp2_with fail
    refine wp_loop_once ?_
    go_wp2_with fail
    exact bEnd (ds:=[]) (L:=[lh sb nn 0,lz mb nn 0,pts (mb + 1) (.cells #[.pointer (some ⟨mb,0,none⟩)] 31 (0,0)),lj w]) rfl 3 (hx5.setCell _ _) (lF 3 h7 rfl) rfl rfl
 ·rw [Bool.not_eq_true] at hL
  rw [hL]
  clear hL
  have h3:=lN (i:=0) (v:=.bool true) 0 h2 rfl
  go_wp2_with fail
  exact bEnd (ds:=[]) (L:=[lj w]) rfl 0 (hx12.setCell _ _) h3 rfl rfl
end Go.Proofs.YtbpblokfiajpjaaDoor
namespace Go.Proofs.YtbpblokfiajpjaaDoor
open Go.ChangeShapes Go.WideShapes Go.ChangeAt Go.RowKit
theorem yT : Rows.laid_math_bits_deBruijn64tab (H:=Unit) = .agg (Lib.deBruijn64tab.map fun (n : Nat)=>.lit (.int .u8 (n : Int))):=by kernel_rfl
theorem zr {W : World} (h : laidMetH Tryd.prog [("math/bits.deBruijn64tab", Rows.laid_math_bits_deBruijn64tab)] W) : ls W := by
 intro r hr
 rw [MakeChecks.laidMetH_plain _ _ _ (by kernel_rfl)] at h
 obtain ⟨ps,⟨g,t,cs,fuel,p,q,hg,ht,hv,hd,_,_⟩,_,_⟩:=h
 obtain rfl := Option.some.inj ((show Tryd.prog.globalNamed "math/bits.deBruijn64tab" = some 0 by kernel_rfl).symm.trans hg)
 obtain rfl:=Option.some.inj ((show (Tryd.prog.globals[0]?).map (·.type) = some 58 by kernel_rfl).symm.trans ht)
 obtain ⟨xs,m,_,ex,_,hl,hel⟩:=DataW.trod_array Tryd.underlying58 hd
 have c5 : Tryd.prog.cellsOf 5 = 1:=by kernel_rfl
 have hE:=hel r hr
 rw [c5,Nat.mul_one,List.getElem?_eq_getElem (by omega)] at hE
 obtain ⟨z,e1,e2,_⟩:=DataW.trod_int Tryd.underlying5 hE
 have hlen : Lib.deBruijn64tab.length = 64:=by decide
 rw [yT] at ex
 have e3 : (xs.map (·.1)) = Lib.deBruijn64tab.map fun (n : Nat)=>.lit (.int .u8 (n : Int)):=(DataW.agg.inj (Prod.mk.inj ex).1).symm
 have e4 : (xs.map (·.1))[r]? = (Lib.deBruijn64tab.map fun (n : Nat)=>(DataW.lit (.int .u8 (n : Int)) : DataW Unit))[r]?:=by rw [e3]
 rw [List.getElem?_map,List.getElem?_map,List.getElem?_eq_getElem (by omega : r < xs.length),List.getElem?_eq_getElem (by omega : r < Lib.deBruijn64tab.length),e2] at e4
 have hz : z = ((Lib.deBruijn64tab.getD r 0 : Nat) : Int):=by
  simp only [Option.map_some,Option.some.injEq,DataW.lit.injEq,Lit.int.injEq,true_and] at e4
  rw [e4,List.getD,List.getElem?_eq_getElem (by omega : r < Lib.deBruijn64tab.length)]; rfl
 rw [World.var?_cell hg hv r,<- hz]
 have : cs.toList[r]? = some (.int .u8 z):=by
  have h0 : ((cs.toList.drop r).take 1)[0]? = some (.int .u8 z):=by rw [e1]; rfl
  simpa using h0
 simpa using this
end Go.Proofs.YtbpblokfiajpjaaDoor
namespace Go.Proofs.YtbpblokfiajpjaaDoor.bitsSaysDone
open Go.ChangeShapes Go.WideShapes Go.ChangeAt Go.RowKit
open Go.ChangeMaps (open_string shut_string)
set_option linter.unusedVariables false
theorem own : ownKnob Tryd.prog.godebug = none:=by kernel_rfl
theorem zI : laidOutB Tryd.prog = true:=by kernel_rfl
theorem zO (os : Os) (started : os.Started) (H : Type) (enc : TypeId×Value -> H) :
  ReturnsInHanded {} Tryd.checked os 3 .any (fun w args=>(Rows.bitsSaysSpec.pre enc Tryd.prog Tryd.f3 Rows.bitsSaysRow.domain false w args /\ laidMetH Tryd.prog Rows.bitsSaysRow.laid w) /\ sizedMet enc Tryd.prog Tryd.f3 (OpenSpec.ofChange Rows.bitsSaysSpec) false w args)
   (Rows.bitsSaysSpec.post enc Tryd.prog Tryd.f3 false true false false):=by
 refine returnsInHanded_of_change_and (C:=Tryd.checked) (X:=fun w _=>laidMetH Tryd.prog Rows.bitsSaysRow.laid w) (fun _ _ _ hh h=>h.of_heap hh) own started (by kernel_rfl) Tryd.func3
  (ChangeSpec.witness_shaped (enc:=enc) (C:=Tryd.checked) (os:=os) (X:=fun w _=>laidMetH Tryd.prog Rows.bitsSaysRow.laid w) false (World.laidAll Tryd.prog os Rows.bitsSaysRow.laid) #[.int .i64 0,.slice none 0 0] 8 (World.laidAll_os _ _ _)
   (World.shaped_of_ZipB (by kernel_rfl) (by kernel_rfl)) (by kernel_rfl) (by kernel_rfl) (by kernel_rfl)
   (by rw [MakeChecks.laidMetH_plain _ _ _ (by kernel_rfl)]; exact laidMet_laidAll _ (by kernel_rfl) (by kernel_rfl))) ?_
 intro W base args ds gs before hval0 hW hcnd _ hL _
 have hval : ∀(j : Nat) t v,Tryd.f3.params[j]? = some t -> args[j]? = some v -> Value.okWide Tryd.prog W .any base t v:=hval0
 have hW':=hW
 obtain ⟨p,q,hA0,hV,rfl,hfz,hnd⟩:=hW
 have hA : DataW.TrodAll enc Tryd.prog W 0 (fun _=>true) true Tryd.f3.params.toList args.toList ds p:=hA0
 rw [Tryd.params3] at hA hval
 obtain ⟨v0,vs0,d0,ds0,p0,q0,hargs,rfl,rfl,h0,r0⟩:=trodAll_cons hA
 obtain ⟨v1,vs1,d1,ds1,p1,q1,rfl,rfl,rfl,h1,r1⟩:=trodAll_cons r0
 obtain ⟨rfl,rfl,rfl⟩:=trodAll_nil r1
 obtain rfl : args = #[v0,v1]:=by cases args; simp_all
 obtain ⟨rfl,rfl⟩:=trodVars_none hV
 obtain ⟨a0,rfl,rfl,rfl,k0⟩:=open_int Tryd.underlying3 (hval 0 3 v0 rfl rfl) h0
 obtain ⟨ao1,len1,cap1,rfl⟩:=okWide_slice Tryd.underlying22 (hval 1 22 v1 rfl rfl)
 have t1:=h1
 have lt1 : ∀x∈p1,x.block < W.heap.size:=by obtain ⟨m,hm⟩:=t1; exact DataW.trod_lt m _ _ _ hm
 obtain ⟨a1,k1⟩ : ∃l,ly W (.slice ao1 len1 cap1) l:=by
  obtain ⟨fuel,hf⟩:=h1
  exact yJ hf
 clear hA0 hval0
 refine (oW a0 _ a1 W k1 (zr hL)).mono fun e W' ⟨he,bel⟩=>?_
 subst he
 exact ⟨_,rfl,_,_,_,[],_,[],hW',trodAll_mk1 (shut_bool Tryd.underlying4 _),(trodAll_cons_mk (shut_int Tryd.underlying3 k0) (trodAll_cons_mk (Below.trod zI (by kernel_rfl) (of_decide_eq_true (by kernel_rfl)) t1 bel lt1) trodAll_mk0)),rfl,bel.frame _,fun h=>by cases h⟩
theorem over : Rows.bitsSaysRow.holds Tryd.pinned (OpenSpec.ofChange Rows.bitsSaysSpec):=
 OpenClaim.holds_of_wide 3 Tryd.f3 rfl rfl rfl rfl rfl rfl rfl ⟨rfl,rfl,rfl,rfl,rfl⟩ rfl rfl rfl rfl rfl (by kernel_rfl) Tryd.func3 (by kernel_rfl)
  (of_decide_eq_true (by kernel_rfl)) (by unfold Func.isWrapper; first | (rw [zt (by decide +kernel)]; kernel_rfl) | (rw [zq (by decide +kernel)]; exact ⟨rfl,rfl⟩))
  (fun os started H enc _=>zO os started H enc)
theorem proved : Rows.BitsSaysCardSaid:=
 Claim7.holds_tied_plain_at .later [] _ _ _ _ over (fun _ h=>by cases h) (by kernel_rfl) (fun _ h=>by cases h) bitsSays_row_tie rfl ⟨rfl,rfl⟩ (by kernel_rfl) rfl
  (fun f fn hf hfn=>by
   obtain rfl : f = 3 := Option.some.inj ((show Tryd.prog.funcNamed "stackyard/stackyardlaw.BitsSays" = some 3 by kernel_rfl).symm.trans hf) |>.symm
   obtain rfl : fn = Tryd.f3:=(Option.some.inj (Tryd.func3.symm.trans hfn)).symm
   exact ⟨by kernel_rfl,fun j t ht=>by
    rw [Tryd.params3] at ht
    have hm : t∈[3,22]:=by
     have:=Array.mem_of_getElem? ht
     simp only [List.mem_toArray,List.mem_cons,List.mem_nil_iff,or_false] at this ⊢
     simp only [this,true_or,or_true] <;> omega
    have hall : ([3,22].all fun u=>!Tryd.prog.wantsStandIn u) = true:=by kernel_rfl
    exact (show Tryd.prog.wantsStandIn t = false by simpa using List.all_eq_true.1 hall t hm)⟩)
  (by kernel_rfl)
#print axioms proved
end Go.Proofs.YtbpblokfiajpjaaDoor.bitsSaysDone
