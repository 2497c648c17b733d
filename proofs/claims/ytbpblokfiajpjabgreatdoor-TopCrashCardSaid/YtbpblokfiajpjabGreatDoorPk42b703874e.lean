/- Lemmas on which TopAlone and TopCrash stands: the texts Chain4 Chain5 Bldr Chain6 Chain7 Chain8 Chain9 Chain10 Image22 Chain11 Chain12. No conditions. -/
import Derived.Test.YtbpblokfiajpjabGreatDoorPk6e904d4d3a
import Derived.Lib.AppendStr
import Derived.Lib.UnsafeStr
import Derived.Lib.Builder
import Derived.Laws.Externs
import Derived.Shelf.RegionOpenPlain
set_option linter.all false
set_option maxRecDepth 1000000
set_option maxHeartbeats 32000000
namespace Go.Proofs.YtbpblokfiajpjabGreatDoor
open Go.RowKit Go.SL Go.Crc
attribute [local go_sem ↓] Go.wp_at_zero Go.wp_at_succ
def Eg (F : ShM) (x c : Int) : ByteArray×Int:=match F x.toNat with
 | some m=>m.read c
 | none=>(ByteArray.empty,4)
def CN (F : ShM) (x c : Int) : Bool:=match F x.toNat with
 | some m=>m.there c
 | none=>false
def IN (F : ShM) (l : List Int) (c i : Int) : ByteArray×Int:=if i < 0 then (zs 64,0) else Eg F (l.getD i.toNat 0) c
def oJ (F : ShM) (l : List Int) (c : Int) : ByteArray×Int:=
 if l.length = 0 then (ByteArray.empty,4) else if CN F (l.getD 0 0) c = false then (ByteArray.empty,1) else IN F l c (yK F l c)
theorem J8 (F : ShM) (l : List Int) (c : Int) : 0 <= (oJ F l c).2:=by
 unfold oJ
 split
 ·simp
 ·split
  ·simp
  ·unfold IN
   split
   ·simp
   ·unfold Eg
    split
    ·exact Pw _ _
    ·simp
theorem zx {w : World} {lb off n cap : Nat} {l : List Int} (h : lW w (.slice (some ⟨lb,off,none⟩) n cap) l) {i : Nat} (hi : i < l.length) : w.cell? ⟨lb,off + i,none⟩ = some (.int .i64 (l.getD i 0)):=by
 obtain ⟨ao,lb',off',cap',hv,h1,h2,h3,h4⟩:=h.form
 simp only [Value.slice.injEq] at hv
 have h5:=h3 (by omega)
 rw [<- hv.1] at h5
 simp only [Option.some.injEq,Addr.mk.injEq,and_true] at h5
 obtain ⟨rfl,rfl⟩:=h5
 exact h4 i hi
theorem EH {F : ShM} {k : Nat} {m : ImgM} (h : F k = some m) (c : Int) : CN F (k : Int) c = m.there c:=by unfold CN; rw [zn,h]
theorem KA {F : ShM} {k : Nat} {m : ImgM} (h : F k = some m) (c : Int) : Eg F (k : Int) c = m.read c:=by unfold Eg; rw [zn,h]
theorem Us {b : Nat} {A : Nat -> Nat×Nat×Nat} {F : ShM} {k : Nat} (hk : k < 5) {m : ImgM} (h : F k = some m) (hm : m.Ok) (c : Int) (R : List SL.HP) (w : World) (H : own w (shL b A F++R)) :
  Calls Tryz.prog 153 #[.pointer (some ⟨(A k).1,0,none⟩),.int .i64 c] w fun e w'=>e = .returned (.tuple #[.string (m.read c).1,errV (m.read c).2]) /\ Ext w w' /\ own w' (shL b A F++R):=
 (VW _ _ _ m hm c _ w (AE hk h H)).mono fun e w' ⟨h1,h2,h3⟩=>⟨h1,h2,by have:=DM hk h H h3; rwa [FK h] at this⟩
theorem M8 : zs 64 = ⟨#[0,0,0,0,0,0,0,0,0,0,0,0,0,0,0,0,0,0,0,0,0,0,0,0,0,0,0,0,0,0,0,0,0,0,0,0,0,0,0,0,0,0,0,0,0,0,0,0,0,0,0,0,0,0,0,0,0,0,0,0,0,0,0,0]⟩:=rfl
theorem FJ (b : Nat) (A : Nat -> Nat×Nat×Nat) (F : ShM) (hF : ShOk F) (v : Value) (l : List Int) (hl : ∀x∈l,lz F x) (hl5 : l.length <= 5) (c : Int) (R : List SL.HP) (w : World) (hv : ∀w' L,own w' (L++R) -> lW w' v l) (H : own w (shL b A F++R)) :
  Calls Tryz.prog 59 #[.pointer (some ⟨b,0,none⟩),v,.int .i64 c] w fun e w'=>e = .returned (.tuple #[.string (oJ F l c).1,errV (oJ F l c).2]) /\ Ext w w' /\ own w' (shL b A F++R):=by
 have hv0:=hv w _ H
 obtain ⟨ao,lb,off,cap,rfl,hlc,hcap,hao,-⟩:=hv0.form
 generalize hres : oJ F l c = res
 unfold oJ at hres
 have HV:=zh hv
 by_cases h0 : l.length = 0
 ·rw [zt h0] at hres
  subst hres
  have t0 : ((l.length : Int) == 0) = true:=by simp [h0]
  have H0:=zh h0
  clear h0 hv hv0 hao
  go_enter Tryz.func59,Tryz.ntmps59
  go_wp2_with fail
  go_ret2
  exact ⟨rfl,zR _,H⟩
 ·rw [zq h0] at hres
  have t0 : ((l.length : Int) == 0) = false:=by rw [zb]; omega
  obtain rfl:=hao (by omega)
  have hpos : 0 < l.length:=by omega
  have c0 : w.cell? ⟨lb,off,none⟩ = some (.int .i64 (l.getD 0 0)):=zx hv0 hpos
  obtain ⟨k,m,hxk,hk,hFk⟩:=oF (hl (l.getD 0 0) (by simp [hpos]))
  rw [hxk] at c0 hres
  rw [EH hFk] at hres
  have cell:=ou H hk
  rw [lU hFk] at cell
  have i1 : (0 : Int) <= (k : Int):=by omega
  have i2 : (k : Int) < 5:=by omega
  have j2 : (0 : Int) < (l.length : Int):=by omega
  have hm:=hF.ok k m hk hFk
  have hki:=fun (w' : World) (H : own w' (shL b A F++R))=>FN (A k).1 (A k).2.1 (A k).2.2 m hm c _ w' (AE hk hFk H)
  have HRES:=zh hres
  have HFO:=zh (fun (w' : World) (H : own w' (shL b A F++R))=>L4 b A F hF _ l hl hl5 c R w' (hv w' _ H) H)
  have HL:=zh hl
  clear hres hxk h0 hv hv0 hl hao
  cases ht : m.there c
  ·rw [ht,zq (by decide),show errV 1 = .iface 128 (.int .i64 1) from rfl] at hki
   have hr2:=HRES.out
   rw [ht,zt rfl] at hr2
   have HR2:=zh hr2
   have HK:=zh hki
   clear hki ht hm hFk hr2
   go_enter Tryz.func59,Tryz.ntmps59
   go_upto_region 3 with (fail)
   go_quiet ((go_at_call 151; exact Calls.quiet_of_same ((HK.out _ (by first | exact H | exact ln H | exact lI _ H)).mono fun e w' h=>⟨h.1,h.2.symm⟩)))
   go_wp2_with fail
   go_ret2
   rw [<- HR2.out]
   exact ⟨rfl,(zR w).drewN _,lI _ H⟩
  ·rw [ht,zt rfl] at hki
   have hr2:=HRES.out
   rw [ht,zq (by decide)] at hr2
   have HR2:=zh hr2
   have HK:=zh hki
   have hfr:=G5 F l c
   clear hki ht hm hFk hr2
   generalize yK F l c = fi at *
   unfold IN at HR2
   by_cases hneg : fi < 0
   ·have hr3:=HR2.out
    rw [zt hneg] at hr3
    have HR3:=zh hr3
    have d0 : decide (fi < 0) = true:=zg hneg
    clear hr3 hneg hfr
    go_enter Tryz.func59,Tryz.ntmps59
    go_upto_region 3 with (fail)
    go_quiet ((go_at_call 151; exact Calls.quiet_of_same ((HK.out _ (by first | exact H | exact ln H | exact lI _ H)).mono fun e w' h=>⟨h.1,h.2.symm⟩)))
    generalize nq = n1 at *
    go_wp2_with fail
    refine (HFO.out _ (lI n1 H)).mono ?_
    rintro e w' ⟨rfl,rfl⟩
    go_wp2_with fail
    go_ret2
    rw [<- HR3.out]
    exact ⟨rfl,(zR w).drewN _,lI _ H⟩
   ·have hr3:=HR2.out
    rw [zq hneg] at hr3
    have hfi : 0 <= fi /\ fi < l.length:=by omega
    obtain ⟨i,rfl⟩:=ze hfi.1
    have hil : i < l.length:=by omega
    rw [zn] at hr3
    obtain ⟨k2,m2,hxk2,hk2,hFk2⟩:=oF (HL.out (l.getD i 0) (by simp [hil]))
    rw [hxk2,KA hFk2] at hr3
    have HR3:=zh hr3
    have HX2:=zh hxk2
    have HSR:=zh (fun (w : World) (H : own w (shL b A F++R))=>Us hk2 hFk2 (hF.ok k2 m2 hk2 hFk2) c R w H)
    have HF2:=zh hFk2
    have u1 : (0 : Int) <= (k2 : Int):=by omega
    have u2 : (k2 : Int) < 5:=by omega
    have u3 : (i : Int) < (l.length : Int):=by omega
    have u4 : (0 : Int) <= (i : Int):=by omega
    clear hr3 hneg hfr hfi hxk2 hFk2
    go_enter Tryz.func59,Tryz.ntmps59
    go_upto_region 3 with (fail)
    go_quiet ((go_at_call 151; exact Calls.quiet_of_same ((HK.out _ (by first | exact H | exact ln H | exact lI _ H)).mono fun e w' h=>⟨h.1,h.2.symm⟩)))
    generalize nq = n1 at *
    have hd:=lI n1 H
    have hxd:=(zR w).drewN n1
    generalize w.drewN n1 = w1 at *
    clear c0 cell
    go_wp2_with fail
    refine (HFO.out _ hd).mono ?_
    rintro e w' ⟨rfl,rfl⟩
    go_upto_region 9 with (fail)
    have hz:=ln hd
    have hxz:=hxd.drew
    go_region_held3 (fun w'=>w'.cell? ⟨lb,off + i,none⟩ = some (.int .i64 (k2 : Int)) /\ w'.cell? ⟨b,k2,none⟩ = some (.pointer (some ⟨(A k2).1,0,none⟩))) (exact ⟨by rw [<- HX2.out]; exact zx (HV.out _ _ hz) hil,by rw [ou hz hk2,lU HF2.out]⟩) ((go_at_call 153; refine (HSR.out _ hz).mono ?_; rintro e w5 ⟨rfl,hx5,hz'⟩; have hxz:=hxz.trans hx5; have hz:=hz'))
    go_wp2_with fail
    go_ret2
    rw [<- HR3.out]
    exact ⟨rfl,hxz,hz⟩
theorem X1 (n : Nat) : ((n : Int)).tdiv 4 = ((n / 4 : Nat) : Int):=by
 rw [Int.tdiv_eq_ediv_of_nonneg (by omega)]; omega
theorem X3 (n : Nat) : ((n : Int)).tmod 4 = ((n % 4 : Nat) : Int):=by
 rw [Int.tmod_eq_emod_of_nonneg (by omega)]; omega
theorem Qh (n : Nat) : ((n : Int)).tdiv 16 = ((n / 16 : Nat) : Int):=by
 rw [Int.tdiv_eq_ediv_of_nonneg (by omega)]; omega
theorem Qn (n : Nat) : ((n : Int)).tmod 16 = ((n % 16 : Nat) : Int):=by
 rw [Int.tmod_eq_emod_of_nonneg (by omega)]; omega
abbrev Part:=Nat×Nat×Nat
def B0 : Nat -> Nat -> Nat -> List Part
 | 0,_,_=>[]
 | q + 1,fr,n=>if n = 0 then [] else (fr / 4,fr % 4,min n (4 - fr % 4))::B0 q (fr + min n (4 - fr % 4)) (n - min n (4 - fr % 4))
def Am (fr n : Nat) : List Part:=B0 n fr n
theorem NB (q fr : Nat) : B0 q fr 0 = []:=by cases q <;> simp [B0]
theorem N3 {q : Nat} : ∀{n fr : Nat},n <= q -> B0 q fr n = B0 n fr n:=by
 induction q using Nat.strongRecOn with
 | ind q ih=>
  intro n fr h
  cases n with
  | zero=>simp [NB]
  | succ n=>
   cases q with
   | zero=>omega
   | succ q=>
    rw [B0,B0,zq (by omega),zq (by omega)]
    congr 1
    have hm : 1 <= min (n + 1) (4 - fr % 4):=by omega
    generalize min (n + 1) (4 - fr % 4) = m at *
    rw [ih q (by omega) (by omega)]
    by_cases hq : n = q
    ·subst hq
     rw [ih n (by omega) (by omega)]
    ·rw [ih n (by omega) (by omega)]
theorem DA (fr : Nat) : Am fr 0 = []:=rfl
theorem Dz (fr : Nat) {n : Nat} (h : 0 < n) : Am fr n = (fr / 4,fr % 4,min n (4 - fr % 4))::Am (fr + min n (4 - fr % 4)) (n - min n (4 - fr % 4)):=by
 obtain ⟨n,rfl⟩ : ∃k,n = k + 1:=⟨n - 1,by omega⟩
 unfold Am
 rw [B0,zq (by omega),N3 (by omega)]
def yf (l : List Part) : List Value:=l.flatMap fun p=>[.int .i64 (p.1 : Int),.int .i64 (p.2.1 : Int),.int .i64 (p.2.2 : Int)]
theorem JA (l m : List Part) : yf (l++m) = yf l++yf m:=by simp [yf]
theorem DX {l : List Part} {i : Nat} (h : i < l.length) :
  (yf l)[i * 3]? = some (.int .i64 ((l.getD i (0,0,0)).1 : Int)) /\ (yf l)[i * 3 + 1]? = some (.int .i64 ((l.getD i (0,0,0)).2.1 : Int)) /\ (yf l)[i * 3 + 2]? = some (.int .i64 ((l.getD i (0,0,0)).2.2 : Int)):=by
 induction l generalizing i with
 | nil=>cases h
 | cons x l ih=>
  cases i with
  | zero=>exact ⟨rfl,rfl,rfl⟩
  | succ i=>
   have:=ih (i:=i) (by simpa using h)
   have e : ∀j,(yf (x::l))[(i + 1) * 3 + j]? = (yf l)[i * 3 + j]?:=fun j=>by
    show ([_,_,_]++yf l)[(i + 1) * 3 + j]? = _
    rw [show (i + 1) * 3 + j = 3 + (i * 3 + j) by omega,List.getElem?_append_right (by simp)]
    simp
   have e0:=e 0
   simp only [Nat.add_zero] at e0
   rw [e0,e 1,e 2]
   simpa using this
theorem Tr : Elem Tryz.prog 271 3 24 (.agg #[.int .i64 0,.int .i64 0,.int .i64 0]):=by unfold Elem; kernel_rfl
def lV (F : ShM) (l : List Int) (fr n : Int) : Int:=
 if l.length = 0 then 4 else if fr < 0 \/ n < 0 \/ 4 * clus F (l.getD 0 0) < fr \/ 4 * clus F (l.getD 0 0) - fr < n then 1 else 0
theorem BV (F : ShM) (l : List Int) (fr n : Int) : 0 <= lV F l fr n:=by
 unfold lV
 split
 ·simp
 ·split <;> simp
def AA (F : ShM) (l : List Int) (fr n : Int) : List Part:=if lV F l fr n = 0 then Am fr.toNat n.toNat else []
def ER (ps : List Part) (E : Int) (L : List SL.HP) (w : World) (e : Ending) (w' : World) : Prop:=
 ∃v,e = .returned (.tuple #[v,errV E]) /\ Ext w w' /\ own w' (row 271 3 v ps.length (yf ps)::L)
theorem GA (b : Nat) (A : Nat -> Nat×Nat×Nat) (F : ShM) (hF : ShOk F) (v : Value) (l : List Int) (hl : ∀x∈l,lz F x) (hl5 : l.length <= 5) (fr n : Int) (hfr : yb fr) (hn : yb n) (R : List SL.HP) (w : World) (hv : ∀w' L,own w' (L++R) -> lW w' v l) (H : own w (shL b A F++R)) :
  Calls Tryz.prog 227 #[.pointer (some ⟨b,0,none⟩),v,.int .i64 fr,.int .i64 n] w (ER (AA F l fr n) (lV F l fr n) (shL b A F++R) w):=by
 have hv0:=hv w _ H
 obtain ⟨ao,lb,off,cap,rfl,hlc,hcap,hao,-⟩:=hv0.form
 generalize hps : AA F l fr n = ps
 generalize hres : lV F l fr n = res
 unfold AA at hps
 rw [hres] at hps
 unfold lV at hres
 by_cases h0 : l.length = 0
 ·rw [zt h0] at hres
  subst hres
  rw [zq (by decide)] at hps
  subst hps
  have t0 : ((l.length : Int) == 0) = true:=by simp [h0]
  have H0:=zh h0
  clear h0 hv hv0 hao
  go_enter Tryz.func227,Tryz.ntmps227
  go_wp2_with fail
  go_ret2
  exact ⟨_,rfl,zR _,lF _ _ H⟩
 ·rw [zq h0] at hres
  have t0 : ((l.length : Int) == 0) = false:=by rw [zb]; omega
  obtain rfl:=hao (by omega)
  have hpos : 0 < l.length:=by omega
  have c0 : w.cell? ⟨lb,off,none⟩ = some (.int .i64 (l.getD 0 0)):=zx hv0 hpos
  obtain ⟨k,m,hxk,hk,hFk⟩:=oF (hl (l.getD 0 0) (by simp [hpos]))
  rw [hxk] at c0 hres
  rw [Au hFk] at hres
  have cell:=ou H hk
  rw [lU hFk] at cell
  have i1 : (0 : Int) <= (k : Int):=by omega
  have i2 : (k : Int) < 5:=by omega
  have j2 : (0 : Int) < (l.length : Int):=by omega
  obtain ⟨C,hC,q1,q2,-,-,-,-,-,-⟩:=(hF.ok k m hk hFk).nat
  have HH:=zh (fun (w : World) (H : own w (shL b A F++R))=>AT hk hFk R w H)
  unfold ol at HH
  have hf0:=Dm m.c m.p m.b
  have b1 : 1 <= m.c:=by omega
  have b2 : m.c <= 32:=by omega
  obtain ⟨n1,n2⟩:=hn
  obtain ⟨g1,g2⟩:=hfr
  have HRES:=zh hres
  have HPS:=zh hps
  have HV:=zh hv
  have HX:=zh hxk
  have HFK:=zh hFk
  clear hres hps hxk h0 hv hv0 hl hao hFk hC q1 q2 c0 cell
  have hz:=ln H
  have hxz:=(zR w).drew
  go_enter Tryz.func227,Tryz.ntmps227
  go_upto_region 3 with (fail)
  go_region_held3 (fun w'=>w'.cell? ⟨lb,off,none⟩ = some (.int .i64 (k : Int)) /\ w'.cell? ⟨b,k,none⟩ = some (.pointer (some ⟨(A k).1,0,none⟩))) (exact ⟨by rw [<- HX.out]; exact zx (HV.out _ _ hz) hpos,by rw [ou hz hk,lU HFK.out]⟩) ((go_at_call 71; refine (HH.out _ hz).mono ?_; rintro e w5 ⟨rfl,hx5,hz'⟩; have hxz:=hxz.trans hx5; have hz:=hz'))
  clear HH hf0
  generalize m.c = mc at *
  by_cases a1 : fr < 0
  ·have d1 : decide (fr < 0) = true:=zg a1
   have hr:=HRES.out
   rw [zt (.inl a1)] at hr
   subst hr
   have hp:=HPS.out
   rw [zq (by decide)] at hp
   subst hp
   clear a1
   go_wp2_with fail
   go_ret2
   exact ⟨_,rfl,hxz,lF _ _ hz⟩
  ·have d1 : decide (fr < 0) = false:=zf a1
   by_cases a2 : n < 0
   ·have d2 : decide (n < 0) = true:=zg a2
    have hr:=HRES.out
    rw [zt (.inr (.inl a2))] at hr
    subst hr
    have hp:=HPS.out
    rw [zq (by decide)] at hp
    subst hp
    clear a1 a2
    go_wp2_with fail
    go_ret2
    exact ⟨_,rfl,hxz,lF _ _ hz⟩
   ·have d2 : decide (n < 0) = false:=zf a2
    have hcm : mc * 4 = 4 * mc:=by omega
    by_cases a3 : 4 * mc < fr
    ·have d3 : decide (mc * 4 < fr) = true:=zg (by omega)
     have hr:=HRES.out
     rw [zt (.inr (.inr (.inl a3)))] at hr
     subst hr
     have hp:=HPS.out
     rw [zq (by decide)] at hp
     subst hp
     clear a1 a2 a3 hcm
     go_wp2_with fail
     go_ret2
     exact ⟨_,rfl,hxz,lF _ _ hz⟩
    ·have d3 : decide (mc * 4 < fr) = false:=zf (by omega)
     by_cases a4 : 4 * mc - fr < n
     ·have d4 : decide (mc * 4 - fr < n) = true:=zg (by omega)
      have hr:=HRES.out
      rw [zt (.inr (.inr (.inr a4)))] at hr
      subst hr
      have hp:=HPS.out
      rw [zq (by decide)] at hp
      subst hp
      have p1 : 0 <= fr:=by omega
      have p2 : fr <= 128:=by omega
      clear a1 a2 a3 a4 hcm
      go_wp2_with fail
      go_ret2
      exact ⟨_,rfl,hxz,lF _ _ hz⟩
     ·have d4 : decide (mc * 4 - fr < n) = false:=zf (by omega)
      have hr:=HRES.out
      rw [zq (by omega)] at hr
      subst hr
      have hp:=HPS.out
      rw [zt rfl] at hp
      have p1 : 0 <= fr:=by omega
      have p2 : 0 <= n:=by omega
      have p3 : fr + n <= 128:=by omega
      clear a1 a2 a3 a4 hcm HRES
      obtain ⟨fn,rfl⟩:=ze p1
      obtain ⟨nn,rfl⟩:=ze p2
      rw [zn,zn] at hp
      have HP:=zh hp
      clear hp HPS
      go_wp2_with fail
      go_loopw [2,3,11] (fun f' n' v wr=>∃(f n : Nat) (p1 : List Part),f + n <= 128 /\ f' = .int .i64 f /\ n' = .int .i64 n /\ p1.length + n <= 128 /\ Am fn nn = p1++Am f n /\ Ext w wr /\ own wr (row 271 3 v p1.length (yf p1)::(shL b A F++R))) (fun _ n' _ _=>(intOf n').toNat)
      case atStart=>exact ⟨fn,nn,[],by omega,rfl,rfl,by simp; omega,rfl,hxz,lF _ _ hz⟩
      case round=>
       clear hz hxz d1 d2 d3 d4
       obtain ⟨f,n,p1,hfn,rfl,rfl,hpl,hpp,hxr,hown⟩:=hrel
       have HPP:=zh hpp
       clear hpp
       by_cases hn0 : 0 < n
       ·have hstep:=Dz f hn0
        have HST:=zh hstep
        clear hstep
        have w1 : (0 : Int) < (n : Int):=by omega
        have td:=X1 f
        have tm:=X3 f
        have tq : f / 4 <= 128:=by omega
        have tr : f % 4 < 4:=by omega
        generalize f / 4 = fq at *
        generalize f % 4 = fm at *
        have tmin : min (n : Int) (4 - (fm : Int)) = ((min n (4 - fm) : Nat) : Int):=by omega
        have tmin2 : IntKind.i64.wrap (4 - (fm : Int)) = 4 - (fm : Int):=zi _ (by omega)
        have hm1 : 1 <= min n (4 - fm):=by omega
        have hm2 : min n (4 - fm) <= n:=by omega
        generalize min n (4 - fm) = mm at *
        go_upto_region 9 with (fail)
        have ha:=lh hown (.cells #[.int .i64 (fq : Int),.int .i64 (fm : Int),.int .i64 0] 271)
        have hxa:=hxr.alloc (.cells #[.int .i64 (fq : Int),.int .i64 (fm : Int),.int .i64 0] 271)
        generalize wr.heap.size = gx at *
        generalize wr.alloc (.cells #[.int .i64 (fq : Int),.int .i64 (fm : Int),.int .i64 0] 271) = wa at *
        obtain ⟨cc,fz⟩:=ld 0 ha rfl
        have c1:=cc 1
        have f2:=fz 2
        go_upto_region 10 with (fail)
        have hb : own (wa.setCell ⟨gx,2,none⟩ (.int .i64 (mm : Int))) (pts gx (.cells #[.int .i64 (fq : Int),.int .i64 (fm : Int),.int .i64 (mm : Int)] 271 (0,0))::row 271 3 u11 p1.length (yf p1)::(shL b A F++R)):=lp (i:=2) (v:=.int .i64 (mm : Int)) 0 ha rfl
        have hxb:=hxa.setCell ⟨gx,2,none⟩ (.int .i64 (mm : Int))
        clear ha hxa hown hxr cc fz c1 f2
        generalize wa.setCell ⟨gx,2,none⟩ (.int .i64 (mm : Int)) = wb at *
        obtain ⟨cc,-⟩:=ld 0 hb rfl
        have c0:=cc 0
        have c1:=cc 1
        have c2:=cc 2
        have hd:=lh hb (.cells #[.int .i64 (fq : Int),.int .i64 (fm : Int),.int .i64 (mm : Int)] 271)
        have hm3 : p1.length + 1 <= maxLen:=by simp only [maxLen]; omega
        have hone : ∀u∈[Value.int .i64 (fq : Int),.int .i64 (fm : Int),.int .i64 (mm : Int)],u.oneCell' = true:=fun u hu=>by
         simp at hu
         rcases hu with rfl | rfl | rfl <;> rfl
        go_wp2_with (first | (at_builtin; refine lX rfl _ _ 264 rfl 2 271 Tryz.underlying264 Tr rfl (by decide) rfl hd rfl (some ⟨_,0,none⟩) 1 1 [.int .i64 (fq : Int),.int .i64 (fm : Int),.int .i64 (mm : Int)] rfl rfl (yl _ [.int .i64 (fq : Int),.int .i64 (fm : Int),.int .i64 (mm : Int)] _) (fun h=>by cases h) hone hm3 (by omega) ?_))
        intro v4 w4 h4 hx4
        have hx5:=(hxb.alloc (.cells #[.int .i64 (fq : Int),.int .i64 (fm : Int),.int .i64 (mm : Int)] 271)).trans hx4
        obtain ⟨cd,-⟩:=ld 1 h4 rfl
        clear cc c0 c1 c2 hd hb hxb
        have c2:=cd 2
        have s1 : IntKind.i64.wrap ((f : Int) + (mm : Int)) = (f : Int) + (mm : Int):=zi _ (by omega)
        have s2 : IntKind.i64.wrap ((n : Int) - (mm : Int)) = (n : Int) - (mm : Int):=zi _ (by omega)
        go_wp2_with fail
        go_roundw
        case rel=>
         refine ⟨f + mm,n - mm,p1++[(fq,fm,mm)],by omega,by go_num,by congr 1; omega,by simp; omega,by rw [HPP.out,HST.out]; simp,hx5,?_⟩
         rw [JA,List.length_append]
         exact lg (lg h4)
        case measure=>simp [intOf]; omega
       ·obtain rfl : n = 0:=by omega
        have hr:=HPP.out
        rw [DA,List.append_nil,HP.out] at hr
        subst hr
        go_wp2_with fail
        go_ret2
        exact ⟨_,rfl,hxr,hown⟩
end Go.Proofs.YtbpblokfiajpjabGreatDoor
namespace Go.SL
open Go.RowKit Go.Lib
section
variable {P : Program}
theorem GG {w : World} {L : List HP} (k : Nat) (t u ty e : TypeId) (ht : P.underlying t = some (.slice e)) (hu : P.underlying u = some .string) (he : Elem P e 1 1 (.int .u8 0))
  {v : Value} {n : Nat} {xs : List Value} (H : own w L) (hk : L[k]? = some (row e 1 v n xs)) (s : ByteArray)
  (h63 : n + s.size <= maxLen) (hbytes : n + s.size <= 140737488355328) :
  ∃v' w',(Builtin.append_ #[t,u] ty #[v,.string s]).run P w = .ok v' w' /\ own w' (L.set k (row e 1 v' (n + s.size) (xs++strCells s))) /\ Ext w w' /\ (s.size = 0 -> v' = v):=by
 obtain ⟨i,hi,hz,hi1,hi2⟩:=info_parts he
 obtain ⟨hlen,hv⟩:=Ek k H hk
 have hkl : k < L.length:=(zS.1 hk).1
 have hsl : (strCells s).length = s.size:=strCells_length s
 have hlen' : (xs++strCells s).length = (n + s.size) * 1:=by rw [List.length_append,hlen,hsl]; omega
 have h63' : n + s.size <= 9223372036854775807:=by simp only [maxLen] at h63; omega
 have grown : ∀(old : Nat),own (w.drew.alloc (.cells (xs.toArray++(strCells s).toArray++Builtin.zeroCells (Value.int .u8 0).cells (grownCap w (n + s.size) old e - (n + s.size))) e))
   (L.set k (row e 1 (.slice (some ⟨w.heap.size,0,none⟩) (n + s.size) (grownCap w (n + s.size) old e)) (n + s.size) (xs++strCells s))):=by
  intro old
  have hge:=grownCap_ge w (n + s.size) old e
  have hcm:=grownCap_le_maxLen w (n + s.size) old e h63
  have h2:=lh (li k (ln H) hk) (.cells (xs.toArray++(strCells s).toArray++Builtin.zeroCells (Value.int .u8 0).cells (grownCap w (n + s.size) old e - (n + s.size))) e)
  have h3:=zr 0 (n:=n + s.size) (cap:=grownCap w (n + s.size) old e) (sz:=1) (xs:=xs++strCells s) h2 rfl hge hcm (by
   simp only [Array.size_append,List.size_toArray,size_zeroCells,hlen,hsl]
   rw [show (Value.int IntKind.u8 0).cells.size = 1 from rfl]
   omega) (by
   simp only [Array.toList_append,zp]
   rw [<- zp,<- hlen']
   exact List.take_left)
  exact oT H k hk h3
 rcases hv with ⟨rfl,rfl⟩ | ⟨g,cap,cur,rfl,c1,c2,c3,c4,c5⟩
 ·have hx : xs = []:=List.eq_nil_of_length_eq_zero (by simpa using hlen)
  subst hx
  by_cases hm : s.size = 0
  ·have hs : strCells s = []:=List.eq_nil_of_length_eq_zero (by rw [hsl]; exact hm)
   refine ⟨.slice none 0 0,w,?_,?_,zR _,fun _=>rfl⟩
   ·have hd : s.data = #[]:=Array.eq_empty_of_size_eq_zero hm
    simp [Builtin.append_,run_underlying ht,run_underlying hu,sizeOf,typeInfo,hi,Builtin.lenOf,Builtin.firstCells,hm,storeCells,hd]
   ·rw [hm,hs]
    exact oT H k hk (lE k H hk)
  ·have hr:=run_append_nil_string (P:=P) w t u ty e i (.int .u8 0) ht hu hi hz s (by omega) (by omega) (by rw [hi2]; omega)
   have hg:=grown 0
   simp only [Nat.zero_add,List.nil_append,Array.empty_append] at hg ⊢
   refine ⟨_,_,hr,?_,(zR _).drew.alloc _,fun h=>absurd h hm⟩
   have e1 : (strCells s).toArray = s.data.map (fun b=>Value.int .u8 b.toNat):=by
    apply Array.ext'
    simp [strCells]
   rw [<- e1]
   exact hg
 ·have hk' : (L.set k (pts g (.cells cur e (0,0))))[k]? = some (pts g (.cells cur e (0,0))):=by simp [hkl]
  have hg:=CT k c5 hk'
  by_cases hroom : n + s.size <= cap
  ·have hr:=run_append_room_string (P:=P) w t u ty e i ht hu hi hi1 g n cap cur hg s hroom (by omega)
   refine ⟨_,_,hr,?_,⟨rfl,rfl,rfl,by simp [World.setRow]⟩,fun h=>by rw [h,Nat.add_zero]⟩
   have hu' : own (w.setRow g (cur.toList.take n++strCells s++cur.toList.drop (n + s.size)).toArray) _:=Eh k (o':=.cells (cur.toList.take n++strCells s++cur.toList.drop (n + s.size)).toArray e (0,0)) c5 hk' (by
    funext x
    by_cases hx : x = g
    ·subst hx; simp only [if_true]; exact setRow_heap w x cur _ e _ hg
    ·simp only [hx,if_false]; exact setRow_other w g x _ hx)
   have hk2 : ((L.set k (pts g (.cells cur e (0,0)))).set k (pts g (.cells (cur.toList.take n++strCells s++cur.toList.drop (n + s.size)).toArray e (0,0))))[k]? =
     some (pts g (.cells (cur.toList.take n++strCells s++cur.toList.drop (n + s.size)).toArray e (0,0))):=by simp [hkl]
   have h3:=zr k (n:=n + s.size) (cap:=cap) (sz:=1) (xs:=xs++strCells s) hu' hk2 hroom c2 (by
    simp only [List.size_toArray,List.length_append,List.length_take,List.length_drop,Array.length_toList,hsl]
    omega) (by
    rw [show cur.toList.take n = xs by rw [<- c4,Nat.mul_one],<- hlen']
    exact List.take_left)
   simpa only [List.set_set] using h3
  ·have holds : ∀j u,xs[j]? = some u -> w.cell? ((⟨g,0,none⟩ : Addr).add j) = some u:=fun j u hu=>by
    have hadd : (⟨g,0,none⟩ : Addr).add j = ⟨g,j,none⟩:=by unfold Addr.add; split <;> simp_all
    rw [hadd,(ld k c5 hk').1,<- Array.getElem?_toList]
    rw [<- c4,List.getElem?_take] at hu
    split at hu
    ·exact hu
    ·cases hu
   have hr:=run_append_grow_string (P:=P) w t u ty e i (.int .u8 0) ht hu hi hz ⟨g,0,none⟩ n cap xs (by rw [hi1]; exact hlen) holds s (by omega) (by omega) (growslice_fits (by omega) (by rw [hi2]; omega))
   exact ⟨_,_,hr,grown cap,(zR _).drew.alloc _,fun h=>by omega⟩
theorem Fo {w : World} {L : List HP} {ops : Array Oper} {rest : List Oper} {o : Oper} {a : Act} {Q : Exit -> Act -> World -> Prop} (hgd : o.guard = none) (s x : Operand) (t u : TypeId)
  (ho : o.op = .call { callee:=.builtin .append,args:=#[s,x],argTypes:=#[t,u] })
  (k : Nat) (e : TypeId) (ht : P.underlying t = some (.slice e)) (hu : P.underlying u = some .string) (he : Elem P e 1 1 (.int .u8 0))
  {v : Value} {n : Nat} {xs : List Value} (hs : a.eval s = v) (H : own w L) (hk : L[k]? = some (row e 1 v n xs)) (str : ByteArray) (hx : a.eval x = .string str)
  (h63 : n + str.size <= maxLen) (hbytes : n + str.size <= 140737488355328)
  (h : ∀v' w',own w' (L.set k (row e 1 v' (n + str.size) (xs++strCells str))) -> Ext w w' -> (str.size = 0 -> v' = v) -> wpList P ops Q rest (a.put o.dst v') w') : wpList P ops Q (o::rest) a w:=
 wpList_plain hgd fun K hK=>by
  obtain ⟨v',w',hr,h2,h3,h4⟩:=GG (P:=P) k t u o.type e ht hu he H hk str h63 hbytes
  unfold Oper.wp execOp
  simp only [ho,resolve,invoke,builtin,Sem.run_bind,Sem.run_pure,Result.andThen_ok,List.map_toArray,List.map_cons,List.map_nil,hs,hx,hr]
  exact hK _ _ (h v' w' h2 h3 h4)
end
end Go.SL
namespace Go.Proofs.YtbpblokfiajpjabGreatDoor
open Go.RowKit Go.SL Go.Crc
attribute [local go_sem ↓] Go.wp_at_zero Go.wp_at_succ
def bldP (b : Nat) (u : Bool) : Value:=if u then .pointer (some ⟨b,0,none⟩) else .pointer none
def Cg (b : Nat) (bs : List UInt8) : HP:=exi fun v : Bool×Value=>star [pts b (.cells #[bldP b v.1,v.2] 269 (0,0)),row 5 1 v.2 bs.length (Lib.byteCells bs),fact (bs = [] -> v.2 = .slice none 0 0)]
theorem JL {w : World} {b : Nat} {bs : List UInt8} {R : List HP} (H : own w (Cg b bs::R)) : ∃(u : Bool) (v : Value),(bs = [] -> v = .slice none 0 0) /\ own w (pts b (.cells #[bldP b u,v] 269 (0,0))::row 5 1 v bs.length (Lib.byteCells bs)::R):=by
 obtain ⟨v,h⟩:=JO 0 (L:=fun v : Bool×Value=>[pts b (.cells #[bldP b v.1,v.2] 269 (0,0)),row 5 1 v.2 bs.length (Lib.byteCells bs),fact (bs = [] -> v.2 = .slice none 0 0)]) H rfl fun h hh=>hh
 exact ⟨v.1,v.2,V3 2 h rfl,li 2 h rfl⟩
theorem GZ {w : World} {b : Nat} {bs : List UInt8} {R : List HP} (u : Bool) {v : Value} (hv : bs = [] -> v = .slice none 0 0) (H : own w (pts b (.cells #[bldP b u,v] 269 (0,0))::row 5 1 v bs.length (Lib.byteCells bs)::R)) : own w (Cg b bs::R):=by
 have h1 : own w (pts b (.cells #[bldP b u,v] 269 (0,0))::row 5 1 v bs.length (Lib.byteCells bs)::fact (bs = [] -> v = .slice none 0 0)::R):=
  lC [pts b (.cells #[bldP b u,v] 269 (0,0)),row 5 1 v bs.length (Lib.byteCells bs)] (PD hv H)
 exact Is [pts b (.cells #[bldP b u,v] 269 (0,0)),row 5 1 v bs.length (Lib.byteCells bs),fact (bs = [] -> v = .slice none 0 0)] (fun h hh=>⟨(u,v),hh⟩) h1
theorem WG {w : World} {R : List HP} (H : own w R) : own (w.alloc (.cells #[.pointer none,.slice none 0 0] 269)) (Cg w.heap.size []::R):=by
 have h1:=lh H (.cells #[.pointer none,.slice none 0 0] 269)
 have h2:=lF 5 1 h1
 exact GZ false (fun _=>rfl) (lE 1 h2 rfl)
theorem Nq (b : Nat) (bs : List UInt8) (R : List SL.HP) (w : World) (H : own w (Cg b bs::R)) :
  Calls Tryz.prog 258 #[.pointer (some ⟨b,0,none⟩)] w fun e w'=>e = .returned (.tuple #[]) /\ Ext w w' /\ own w' (Cg b bs::R):=by
 obtain ⟨u,v,hv,h⟩:=JL H
 obtain ⟨c,f⟩:=ld 0 h rfl
 have hb:=CT 0 h rfl
 have hsb : (Tryz.prog.info? 269).map (·.size) = some 2:=by kernel_rfl
 obtain ⟨j,hj,hjs⟩:=Option.map_eq_some_iff.1 hsb
 have hsh : w.shape? b = some (269,2):=by simp [World.shape?,hb]
 cases u
 ·have c0 : w.cell? ⟨b,0,none⟩ = some (.pointer none):=c 0
  have f0:=f 0
  have HH:=zh h
  clear c f hb h
  go_enter Tryz.func258,Tryz.ntmps258
  go_wp2_with fail
  rw [Lib.run_to_unsafe w ⟨b,0,none⟩ Tryz.underlying267 Tryz.underlying299 hj (by rw [hjs]; decide) hsh (Nat.zero_lt_succ 1)]
  simp only [Result.andThen]
  rw [Oper.upon_value]
  go_wp2_with fail
  rw [run_callFunc_extern Tryz.func270 (by kernel_rfl) (by kernel_rfl) (by kernel_rfl) (e:=Extern.AbiNoEscape.same) (by kernel_rfl)]
  rw [Lib.run_noEscape]
  simp only [Result.andThen]
  rw [Oper.upon_value]
  go_wp2_with fail
  rw [Lib.run_from_unsafe w ⟨b,0,none⟩ Tryz.underlying299 Tryz.underlying267 hj hsh (by kernel_rfl)]
  simp only [Result.andThen]
  rw [Oper.upon_value]
  go_wp2_with fail
  go_end0
  exact ⟨rfl,(zR w).setCell _ _,GZ true hv (lp (i:=0) (v:=.pointer (some ⟨b,0,none⟩)) 0 HH.out rfl)⟩
 ·have c0 : w.cell? ⟨b,0,none⟩ = some (.pointer (some ⟨b,0,none⟩)):=c 0
  clear c f hb h
  go_enter Tryz.func258,Tryz.ntmps258
  go_wp2_with fail
  rw [Lib.run_neq_ptr_same w _ Tryz.underlying267 hj]
  go_wp2_with fail
  go_end0
  exact ⟨rfl,zR _,H⟩
theorem NG (b : Nat) (bs : List UInt8) (s : ByteArray) (hs : bs.length + s.size <= 100000000) (R : List SL.HP) (w : World) (H : own w (Cg b bs::R)) :
  Calls Tryz.prog 228 #[.pointer (some ⟨b,0,none⟩),.string s] w fun e w'=>e = .returned (.tuple #[.int .i64 s.size,.nilIface]) /\ Ext w w' /\ own w' (Cg b (bs++s.data.toList)::R):=by
 have HC:=zh (Nq b bs R w H)
 go_enter Tryz.func228,Tryz.ntmps228
 go_wp2_with fail
 refine HC.out.mono ?_
 rintro e w1 ⟨rfl,hx1,h1⟩
 obtain ⟨u,v,hv,h⟩:=JL h1
 have HV:=zh hv
 clear hv
 obtain ⟨ao,g,cap,rfl,r1,r2,-,-,-,-,-⟩:=lm 1 h rfl
 obtain ⟨c,f⟩:=ld 0 h rfl
 have c1 : w1.cell? ⟨b,1,none⟩ = some (.slice ao bs.length cap):=c 1
 have hl:=Lib.byteCells_length bs
 go_wp2_with (first | (at_builtin; refine Fo rfl _ _ 211 9 rfl 1 5 Tryz.underlying211 Tryz.underlying9 DR rfl h rfl s rfl (by unfold maxLen; omega) (by omega) ?_))
 intro v2 w2 h2 hx2 hv2
 have HV2:=zh hv2
 clear hv2
 obtain ⟨ao2,g2,cap2,rfl,-,-,-,-,-,-,-⟩:=lm 1 h2 rfl
 obtain ⟨c2,f2⟩:=ld 0 h2 rfl
 have f21:=f2 1
 go_wp2_with fail
 go_ret2
 refine ⟨rfl,(hx1.trans hx2).setCell _ _,?_⟩
 have h3:=lp (i:=1) (v:=.slice ao2 (bs.length + s.size) cap2) 0 h2 rfl
 have e1 : (bs++s.data.toList).length = bs.length + s.size:=by rw [List.length_append,Array.length_toList]; rfl
 have e2 : Lib.byteCells (bs++s.data.toList) = Lib.byteCells bs++Lib.strCells s:=by rw [Lib.byteCells_append,Lib.strCells_eq]
 refine GZ u (v:=.slice ao2 (bs.length + s.size) cap2) (fun hh=>?_) ?_
 ·have h6:=List.append_eq_nil_iff.1 hh
  have h7 : s = ByteArray.empty:=by
   have hd : s.data = #[]:=by simpa using h6.2
   show ByteArray.mk s.data = _
   rw [hd]; rfl
  rw [HV2.out h7]
  exact HV.out h6.1
 rw [e1,e2]
 exact h3
theorem QM {w : World} {L : List HP} (k : Nat) {g : Nat} {cur : Array Value} {T : TypeId} (n : Nat) (H : own w L) (hk : L[k]? = some (pts g (.cells cur T (0,0)))) : own (w.freeze ⟨g,0,none⟩ n) (L.eraseIdx k):=by
 by_cases hn : n = 0
 ·have e : w.freeze ⟨g,0,none⟩ n = w:=by unfold World.freeze; rw [zt hn]
  rw [e]
  exact li k H hk
 ·have hg:=CT k H hk
  have h1 : own (w.freeze ⟨g,0,none⟩ n) (L.set k (pts g (.cells cur T (0,0 + n)))):=Eh k (o':=.cells cur T (0,0 + n)) H hk (by
   funext c
   have hgb : w.heap[g]? = some (.cells cur T (0,0)):=hg
   simp only [hpOf,World.freeze,zq hn,Array.getElem?_modify]
   by_cases hc : c = g
   ·subst hc; simp [hgb]
   ·have hc' : ¬g = c:=fun e=>hc e.symm
    simp [hc,hc'])
  have hkl : k < L.length:=(zS.1 hk).1
  have h2:=li k h1 (by simp [hkl] : _ = some (pts g (.cells cur T (0,0 + n))))
  rwa [List.eraseIdx_set_eq] at h2
theorem Q6 {a w : World} (h : Ext a w) (p : Addr) (n : Nat) : Ext a (w.freeze p n):=h.trans (by
 unfold World.freeze
 split
 ·exact zR _
 ·exact ⟨rfl,rfl,rfl,by simp⟩)
theorem MW (b : Nat) (bs : List UInt8) (hs : bs.length <= 100000000) (R : List SL.HP) (w : World) (H : own w (Cg b bs::R)) :
  Calls Tryz.prog 229 #[.pointer (some ⟨b,0,none⟩)] w fun e w'=>e = .returned (.string ⟨bs.toArray⟩) /\ Ext w w' /\ own w' R:=by
 obtain ⟨u,v,hv,h⟩:=JL H
 by_cases h0 : bs = []
 ·obtain rfl:=hv h0
  subst h0
  have c1 : w.drew.cell? ⟨b,1,none⟩ = some (.slice none 0 0):=(ld 0 h rfl).1 1
  have hSD : (Builtin.unsafeSliceData_ #[211] 290 #[.slice none 0 0]).run Tryz.prog w.drew = .ok (.pointer none) w.drew:=rfl
  have hUS : (Builtin.unsafeString_ #[290,3] 9 #[.pointer none,.int .i64 0]).run Tryz.prog w.drew = .ok (.string .empty) w.drew:=Lib.run_unsafeString_none _ _ _ _ _
  have hR : own w R:=lg (lg h)
  clear hv h H
  go_enter Tryz.func229,Tryz.ntmps229
  go_wp2_with fail
  go_region
  all_goals
   go_wp2_with fail
   go_ret
   exact ⟨rfl,(zR w).drew,ln hR⟩
 ·obtain ⟨hl,⟨rfl,hz⟩ | ⟨g,cap,cur,rfl,r1,r2,r3,r4,h5⟩⟩:=Ek 1 h rfl
  ·exact absurd (List.eq_nil_of_length_eq_zero hz) h0
  ·have hl0 : bs.length≠0:=by simpa using h0
   obtain ⟨kc,-⟩:=oa 1 h rfl
   have hg:=CT 1 h5 rfl
   have c1 : w.drew.cell? ⟨b,1,none⟩ = some (.slice (some ⟨g,0,none⟩) bs.length cap):=(ld 0 h rfl).1 1
   have hSD : (Builtin.unsafeSliceData_ #[211] 290 #[.slice (some ⟨g,0,none⟩) bs.length cap]).run Tryz.prog w.drew = .ok (.pointer (some ⟨g,0,none⟩)) w.drew:=Lib.run_unsafeSliceData_row _ _ _ _ _ _ (by omega)
   have hUS : (Builtin.unsafeString_ #[290,3] 9 #[.pointer (some ⟨g,0,none⟩),.int .i64 bs.length]).run Tryz.prog w.drew = .ok (.string ⟨bs.toArray⟩) (w.drew.freeze ⟨g,0,none⟩ bs.length):=by
    refine Lib.run_unsafeString_row w.drew 290 3 9 5 Tryz.underlying290 (by kernel_rfl) g cur.size (by have hg' : w.drew.heap[g]? = some (.cells cur 5 (0,0)):=hg; simp [World.shape?,hg']) bs h0 (by omega) (by omega) ?_
    intro j x hx
    rw [add_none,Nat.zero_add]
    exact kc j _ (by simp [Lib.byteCells,hx])
   have hR : own (w.drew.freeze ⟨g,0,none⟩ bs.length) R:=lg (QM 1 bs.length (ln h5) rfl)
   have hx:=Q6 ((zR w).drew) ⟨g,0,none⟩ bs.length
   have HR:=zh hR
   have HX:=zh hx
   clear hv h H hR hx kc h5 hg hl r4 r3 h0
   go_enter Tryz.func229,Tryz.ntmps229
   go_wp2_with fail
   go_region
   all_goals
    go_wp2_with fail
    go_ret
    exact ⟨rfl,HX.out,HR.out⟩
end Go.Proofs.YtbpblokfiajpjabGreatDoor
namespace Go.Proofs.YtbpblokfiajpjabGreatDoor
open Go.RowKit Go.SL Go.Crc
attribute [local go_sem ↓] Go.wp_at_zero Go.wp_at_succ
theorem PP {F : ShM} {c : Int} : ∀{l : List Int} {i : Nat},0 <= zA F c i l -> hasC F (l.getD ((zA F c i l).toNat - i) 0) c = true:=by
 intro l
 induction l with
 | nil=>intro i h; simp [zA] at h
 | cons x l ih=>
  intro i h
  rw [zA] at h ⊢
  by_cases hx : hasC F x c = true
  ·rw [zt hx] at h ⊢
   simpa using hx
  ·rw [zq hx] at h ⊢
   have hr:=Gm (F:=F) (c:=c) (l:=l) (i:=i + 1)
   have:=ih h
   rw [show (zA F c (i + 1) l).toNat - i = (zA F c (i + 1) l).toNat - (i + 1) + 1 by omega]
   simpa using this
theorem SN {F : ShM} {l : List Int} {c : Int} (h : 0 <= yK F l c) : hasC F (l.getD (yK F l c).toNat 0) c = true:=by
 have:=PP (F:=F) (c:=c) (l:=l) (i:=0) h
 simpa [yK] using this
theorem U3 {m : ImgM} (hm : m.Ok) {y : Int} (h0 : 0 <= y) : 1 <= m.first y:=by
 unfold ImgM.first
 omega
theorem TR {m : ImgM} (hm : m.Ok) {k : Nat} (hkl : k < m.t.length) (h0 : m.kind k = 2) : (cat (m.secs (ent m.t k).2 4)).size = 64:=by
 obtain ⟨y0,y1⟩:=zE hm hkl h0
 have hin:=AU hm y0 y1
 have hf:=U3 hm y0
 have:=Dy (l:=m.secs (ent m.t k).2 4) (k:=16) fun s hs=>by
  simp only [ImgM.secs,List.mem_map,List.mem_range] at hs
  obtain ⟨j,hj,rfl⟩:=hs
  exact BJ hm.d (by omega) (by omega)
 simp [ImgM.secs] at this
 simpa [cat,ByteArray.size,ImgM.secs] using this
theorem SD {m : ImgM} (hm : m.Ok) {c : Int} (ht : m.there c = true) (hk : m.kind c≠0) : (m.read c).2 = 0 /\ (m.read c).1.size = 64:=by
 obtain ⟨k0,-,hkl⟩:=oW hm ht
 obtain ⟨n,rfl⟩:=ze k0
 rw [zn] at hkl
 unfold ImgM.read
 rw [zt ht,zq hk]
 rcases D5 hm hkl with h0 | h0 | h0
 ·exact absurd h0 hk
 ·rw [zt h0]
  exact ⟨rfl,rfl⟩
 ·rw [zq (by omega),zn]
  exact ⟨rfl,TR hm hkl h0⟩
theorem FB {F : ShM} (hF : ShOk F) {l : List Int} (hl : ∀x∈l,lz F x) (h0 : l.length≠0) {c : Int} (hc : CN F (l.getD 0 0) c = true) : (oJ F l c).2 = 0 /\ (oJ F l c).1.size = 64:=by
 unfold oJ
 rw [zq h0,zq (by rw [hc]; decide)]
 unfold IN
 split
 ·exact ⟨rfl,rfl⟩
 ·rename_i hneg
  have hh:=SN (F:=F) (l:=l) (c:=c) (by omega)
  have hr:=G5 F l c
  obtain ⟨k,m,hxk,hk,hFk⟩:=oF (hl (l.getD (yK F l c).toNat 0) (by
   have : (yK F l c).toNat < l.length:=by omega
   simp [this]))
  rw [hxk] at hh ⊢
  rw [Ql hFk] at hh
  rw [KA hFk]
  rw [Bool.and_eq_true,decide_eq_true_iff] at hh
  exact SD (hF.ok k m hk hFk) hh.1 hh.2
theorem yN {F : ShM} {l : List Int} {fr n : Int} (h : lV F l fr n = 0) : l.length≠0 /\ 0 <= fr /\ 0 <= n /\ fr + n <= 4 * clus F (l.getD 0 0):=by
 unfold lV at h
 split at h
 ·cases h
 ·rename_i h0
  split at h
  ·cases h
  ·exact ⟨h0,by omega⟩
theorem Jz {F : ShM} {l : List Int} (hl : ∀x∈l,lz F x) (h0 : l.length≠0) {c : Int} (c0 : 0 <= c) (c1 : c < clus F (l.getD 0 0)) : CN F (l.getD 0 0) c = true:=by
 obtain ⟨k,m,hxk,hk,hFk⟩:=oF (hl (l.getD 0 0) (by simp [show 0 < l.length by omega]))
 rw [hxk] at c1 ⊢
 rw [Au hFk] at c1
 rw [EH hFk]
 unfold ImgM.there
 rw [Bool.and_eq_true,decide_eq_true_iff,decide_eq_true_iff]
 exact ⟨c0,c1⟩
def EV (F : ShM) (l : List Int) (k : Nat) : ByteArray:=(oJ F l ((k / 4 : Nat) : Int)).1.extract (16 * (k % 4)) (16 * (k % 4) + 16)
def yP (F : ShM) (l : List Int) (fr n : Nat) : List ByteArray:=(List.range n).map fun (j : Nat)=>EV F l (fr + j)
def getM (F : ShM) (l : List Int) (fr n : Int) : ByteArray×Int:=if lV F l fr n = 0 then (cat (yP F l fr.toNat n.toNat),0) else (ByteArray.empty,lV F l fr n)
theorem Ls (F : ShM) (l : List Int) (fr a b : Nat) : yP F l fr (a + b) = yP F l fr a++yP F l (fr + a) b:=by
 unfold yP
 rw [List.range_add,List.map_append,List.map_map]
 congr 1
 apply List.map_congr_left
 intro j _
 simp [Nat.add_assoc]
theorem TG (F : ShM) (l : List Int) (fr : Nat) : yP F l fr 1 = [EV F l fr]:=by simp [yP,List.range_succ]
theorem Jc (l m : List ByteArray) : catL (l++m) = catL l++catL m:=by simp [catL]
theorem Bh (t : ByteArray) (a b : Nat) : (t.extract a b).data.toList = (t.data.toList.drop a).take (b - a):=by
 rw [ByteArray.data_extract,Array.toList_extract,List.extract_eq_take_drop]
theorem SI (F : ShM) (l : List Int) (c f : Nat) : ∀m : Nat,f + m <= 4 -> catL (yP F l (4 * c + f) m) = ((oJ F l (c : Int)).1.extract (16 * f) (16 * (f + m))).data.toList:=by
 intro m
 induction m with
 | zero=>intro _; rw [Bh]; simp [yP,catL]
 | succ m ih=>
  intro h
  rw [Ls,Jc,ih (by omega),TG,catL]
  simp only [List.flatMap_cons,List.flatMap_nil,List.append_nil]
  unfold EV
  rw [show (4 * c + f + m) / 4 = c by omega,show (4 * c + f + m) % 4 = f + m by omega]
  rw [Bh,Bh,Bh]
  rw [show 16 * (f + (m + 1)) - 16 * f = (16 * (f + m) - 16 * f) + 16 by omega,List.take_add,List.drop_drop]
  rw [show 16 * f + (16 * (f + m) - 16 * f) = 16 * (f + m) by omega]
  congr 2
  omega
theorem GO {F : ShM} {l : List Int} (hl : ∀x∈l,lz F x) {fr n : Nat} (h : lV F l (fr : Int) (n : Int) = 0) {k : Nat} (hk : k < fr + n) : CN F (l.getD 0 0) ((k / 4 : Nat) : Int) = true:=by
 obtain ⟨h0,-,-,h3⟩:=yN h
 exact Jz hl h0 (by omega) (by omega)
theorem V7 {F : ShM} (hF : ShOk F) {l : List Int} (hl : ∀x∈l,lz F x) {fr n : Nat} (h : lV F l (fr : Int) (n : Int) = 0) {k : Nat} (hk : k < fr + n) : (EV F l k).size = 16:=by
 obtain ⟨h0,-,-,h3⟩:=yN h
 have:=(FB hF hl h0 (GO hl h hk)).2
 unfold EV
 rw [ByteArray.size_extract,this]
 omega
theorem TD {F : ShM} (hF : ShOk F) {l : List Int} (hl : ∀x∈l,lz F x) {fr n : Nat} (h : lV F l (fr : Int) (n : Int) = 0) {k : Nat} (hk : k <= n) : (catL (yP F l fr k)).length = 16 * k:=by
 have:=Dy (l:=yP F l fr k) (k:=16) fun s hs=>by
  simp only [yP,List.mem_map,List.mem_range] at hs
  obtain ⟨j,hj,rfl⟩:=hs
  exact V7 hF hl h (by omega)
 simp [yP] at this ⊢
 omega
theorem zw {R : List SL.HP} {v : Value} {l : List Int} (hv : ∀w' L,own w' (L++R) -> lW w' v l) (X : List SL.HP) : ∀w' L,own w' (L++(X++R)) -> lW w' v l:=fun w' L h=>hv w' (L++X) (by rwa [zp])
theorem Xo (b : Nat) (A : Nat -> Nat×Nat×Nat) (F : ShM) (hF : ShOk F) (v : Value) (l : List Int) (hl : ∀x∈l,lz F x) (hl5 : l.length <= 5) (fr n : Int) (hfr : yb fr) (hn : yb n) (R : List SL.HP) (w : World) (hv : ∀w' L,own w' (L++R) -> lW w' v l) (H : own w (shL b A F++R)) :
  Calls Tryz.prog 142 #[.pointer (some ⟨b,0,none⟩),v,.int .i64 fr,.int .i64 n] w fun e w'=>e = .returned (.tuple #[.string (getM F l fr n).1,errV (getM F l fr n).2]) /\ Ext w w' /\ own w' (shL b A F++R):=by
 have hps:=GA b A F hF v l hl hl5 fr n hfr hn R w hv H
 obtain ⟨ao,lb,off,cap,rfl,hlc,hcap,hao,-⟩:=(hv w _ H).form
 unfold ER at hps
 have HPS:=zh hps
 clear hps
 by_cases hw : lV F l fr n = 0
 ·have eg : getM F l fr n = (cat (yP F l fr.toNat n.toNat),0):=by unfold getM; rw [zt hw]
  have ep : AA F l fr n = Am fr.toNat n.toNat:=by unfold AA; rw [zt hw]
  rw [eg]
  rw [hw,ep,lS] at HPS
  obtain ⟨hp0,hp1,hp2,hp3⟩:=yN hw
  obtain ⟨fn,rfl⟩:=ze hp1
  obtain ⟨nn,rfl⟩:=ze hp2
  rw [zn,zn] at HPS ⊢
  have hcl : clus F (l.getD 0 0) <= 32:=by
   obtain ⟨k,m,hxk,hk,hFk⟩:=oF (hl (l.getD 0 0) (by simp [show 0 < l.length by omega]))
   rw [hxk,Au hFk]
   obtain ⟨C,hC,q1,q2,-,-,-,-,-,-⟩:=(hF.ok k m hk hFk).nat
   omega
  have hsum : fn + nn <= 128:=by omega
  have HV:=zh hv
  have HLEN:=zh (fun (k : Nat) (hk : k <= nn)=>TD hF hl hw hk)
  have HRD:=zh (fun (k : Nat) (hk : k < fn + nn)=>FB hF hl hp0 (GO hl hw hk))
  have HREAD:=zh (fun (c : Int) (R' : List SL.HP) (hv' : ∀w' L,own w' (L++R') -> lW w' (.slice ao l.length cap) l) (w : World) (H : own w (shL b A F++R'))=>FJ b A F hF (.slice ao l.length cap) l hl hl5 c R' w hv' H)
  clear hv hw eg ep hp0 hp1 hp2 hp3 hcl hao hfr hn hF hl
  go_enter Tryz.func142,Tryz.ntmps142
  go_wp2_with fail
  refine HPS.out.mono ?_
  rintro e w2 ⟨vp,rfl,hx2,h2⟩
  obtain ⟨po,pg,pcap,rfl,r1,r2,r3,-,-,-,-⟩:=lm 0 h2 rfl
  clear HPS H r3
  generalize hq : Am fn nn = ps at *
  have HQ:=zh hq
  clear hq
  go_upto_region 5 with (fail)
  have h3:=WG h2
  have hx3:=hx2.alloc (.cells #[.pointer none,.slice none 0 0] 269)
  generalize w2.heap.size = bb at *
  generalize w2.alloc (.cells #[.pointer none,.slice none 0 0] 269) = w3 at *
  have h4 : own w3 (shL b A F++(row 271 3 (.slice po ps.length pcap) ps.length (yf ps)::Cg bb []::R)):=lC (shL b A F) (lC (row 271 3 (.slice po ps.length pcap) ps.length (yf ps)::shL b A F) h3)
  clear h2 hx2 h3
  go_wp2_with fail
  go_loopw [30] (fun i wr=>∃(k : Nat) (p1 : List Part),k <= nn /\ p1.length + (nn - k) <= 128 /\ i = .int .i64 p1.length /\ ps = p1++Am (fn + k) (nn - k) /\ Ext w wr /\ own wr (shL b A F++(row 271 3 (.slice po ps.length pcap) ps.length (yf ps)::Cg bb (catL (yP F l fn k))::R))) (fun i _=>ps.length - (intOf i).toNat)
  case atStart=>exact ⟨0,[],by omega,by simp; omega,rfl,HQ.out.symm,hx3,h4⟩
  case round=>
   clear h4 hx3
   obtain ⟨k,p1,hk,hp1,rfl,hpp,hxr,hown⟩:=hrel
   by_cases hlt : k < nn
   ·rw [Dz _ (show 0 < nn - k by omega)] at hpp
    have hlen : p1.length < ps.length:=by rw [hpp]; simp
    obtain ⟨d0,d1,d2⟩:=DX hlen
    have hget : ps.getD p1.length (0,0,0) = ((fn + k) / 4,(fn + k) % 4,min (nn - k) (4 - (fn + k) % 4)):=by rw [hpp]; simp
    rw [hget] at d0 d1 d2
    have hmore:=SI F l ((fn + k) / 4) ((fn + k) % 4) (min (nn - k) (4 - (fn + k) % 4)) (by omega)
    rw [show 4 * ((fn + k) / 4) + (fn + k) % 4 = fn + k by omega] at hmore
    have hsz:=(HRD.out (fn + k) (by omega)).2
    have hze:=(HRD.out (fn + k) (by omega)).1
    have hcl:=HLEN.out k (by omega)
    have hcl2:=Ls F l fn k (min (nn - k) (4 - (fn + k) % 4))
    have hfq : (fn + k) / 4 <= 32:=by omega
    have hfm : (fn + k) % 4 < 4:=by omega
    obtain ⟨po',pg',pcap',hv',-,-,r3',-,-,-,-⟩:=lm 6 hown rfl
    simp only [Value.slice.injEq,true_and] at hv'
    obtain ⟨rfl,rfl⟩:=hv'
    obtain rfl:=r3' (by omega)
    obtain ⟨k2,-⟩:=oa 6 hown rfl
    have c0:=k2 _ _ d0
    have c1:=k2 _ _ d1
    have c2:=k2 _ _ d2
    clear k2 d0 d1 d2 r3' hget
    have HMORE:=zh hmore
    have HCL2:=zh hcl2
    have HPP:=zh hpp
    have hm1 : 1 <= min (nn - k) (4 - (fn + k) % 4):=by omega
    have hm2 : min (nn - k) (4 - (fn + k) % 4) <= nn - k:=by omega
    have hm3 : (fn + k) % 4 + min (nn - k) (4 - (fn + k) % 4) <= 4:=by omega
    clear hmore hcl2 hpp
    generalize min (nn - k) (4 - (fn + k) % 4) = mm at *
    generalize (fn + k) / 4 = q at *
    generalize (fn + k) % 4 = fm at *
    have hread:=fun (R' : List SL.HP) (hv' : ∀w' L,own w' (L++R') -> lW w' (.slice ao l.length cap) l) (w : World) (H : own w (shL b A F++R'))=>HREAD.out (q : Int) R' hv' w H
    rw [hze,lS] at hread
    have HR2:=zh hread
    clear hread hze
    generalize (oJ F l (q : Int)).1 = t at *
    go_upto_region 8 with (fail)
    have ha:=lC (shL b A F) (lh hown (.cells #[.int .i64 (q : Int),.int .i64 (fm : Int),.int .i64 (mm : Int)] 271))
    have hxa:=hxr.alloc (.cells #[.int .i64 (q : Int),.int .i64 (fm : Int),.int .i64 (mm : Int)] 271)
    clear c0 c1 c2 hown hxr
    generalize wr.heap.size = gx at *
    generalize wr.alloc (.cells #[.int .i64 (q : Int),.int .i64 (fm : Int),.int .i64 (mm : Int)] 271) = wa at *
    obtain ⟨cc,-⟩:=ld 6 ha rfl
    have c0:=cc 0
    go_wp2_with fail
    refine (HR2.out _ (zw HV.out [_,_,_]) _ ha).mono ?_
    rintro e w5 ⟨rfl,hx5,h5⟩
    clear cc c0 ha
    have hx6:=hxa.trans hx5
    obtain ⟨cc,-⟩:=ld 6 h5 rfl
    have c1:=cc 1
    have c2:=cc 2
    have s1 : IntKind.i64.wrap ((fm : Int) * 16) = (fm : Int) * 16:=zi _ (by omega)
    have s2 : IntKind.i64.wrap ((fm : Int) + (mm : Int)) = (fm : Int) + (mm : Int):=zi _ (by omega)
    have s3 : IntKind.i64.wrap (((fm : Int) + (mm : Int)) * 16) = ((fm : Int) + (mm : Int)) * 16:=zi _ (by omega)
    have b1 : (0 : Int) <= (fm : Int) * 16:=by omega
    have b2 : (fm : Int) * 16 <= ((fm : Int) + (mm : Int)) * 16:=by omega
    have b3 : ((fm : Int) + (mm : Int)) * 16 <= (t.size : Int):=by omega
    have hsl : ∀wx : World,(Instr.slice 9 (.string t) (some (.int .i64 ((fm : Int) * 16))) (some (.int .i64 (((fm : Int) + (mm : Int)) * 16))) none).run Tryz.prog wx = .ok (.string (t.extract (16 * fm) (16 * (fm + mm)))) wx:=fun wx=>by
     have:=run_slice_string (P:=Tryz.prog) wx 9 t .i64 .i64 ((fm : Int) * 16) (((fm : Int) + (mm : Int)) * 16) Tryz.underlying9 b1 b2 b3
     rw [this,show ((fm : Int) * 16).toNat = 16 * fm from by omega,show (((fm : Int) + (mm : Int)) * 16).toNat = 16 * (fm + mm) from by omega]
    have htz : (t.extract (16 * fm) (16 * (fm + mm))).size = 16 * mm:=by rw [ByteArray.size_extract]; omega
    generalize t.extract (16 * fm) (16 * (fm + mm)) = ts at *
    have HW:=zh (fun (R : List SL.HP) (w : World) (H : own w (Cg bb (catL (yP F l fn k))::R))=>NG bb (catL (yP F l fn k)) ts (by omega) R w H)
    clear cc hx5 hsz
    go_wp2_with fail
    refine (HW.out _ _ (lE 8 h5 rfl)).mono ?_
    rintro e w6 ⟨rfl,hx7,h7⟩
    have h8:=li 7 h7 rfl
    have h9 : own w6 (shL b A F++(row 271 3 (.slice (some ⟨pg',0,none⟩) ps.length pcap) ps.length (yf ps)::Cg bb (catL (yP F l fn k)++ts.data.toList)::R)):=lC (shL b A F++[row 271 3 (.slice (some ⟨pg',0,none⟩) ps.length pcap) ps.length (yf ps)]) h8
    have hx8:=hx6.trans hx7
    clear h5 h7 h8 c1 c2
    go_wp2_with fail
    go_roundw
    case rel=>
     refine ⟨k + mm,p1++[(q,fm,mm)],by omega,by simp <;> omega,by simp,?_,hx8,?_⟩
     ·rw [HPP.out,zp,show fn + (k + mm) = fn + k + mm by omega,show nn - (k + mm) = nn - k - mm by omega]; rfl
     ·rw [HCL2.out,Jc,HMORE.out]
      exact h9
    case measure=>simp [intOf]; omega
   ·obtain rfl : k = nn:=by omega
    rw [Nat.sub_self,DA,List.append_nil] at hpp
    subst hpp
    have hcl:=HLEN.out k (by omega)
    have HB:=zh (MW bb (catL (yP F l fn k)) (by omega))
    go_wp2_with fail
    refine (HB.out _ _ (lE 7 hown rfl)).mono ?_
    rintro e w5 ⟨rfl,hx5,h5⟩
    go_wp2_with fail
    go_ret2
    exact ⟨rfl,hxr.trans hx5,li 6 h5 rfl⟩
 ·have eg : getM F l fr n = (ByteArray.empty,lV F l fr n):=by unfold getM; rw [zq hw]
  have ep : AA F l fr n = []:=by unfold AA; rw [zq hw]
  have hc:=BV F l fr n
  rw [eg]
  rw [ep] at HPS
  generalize lV F l fr n = res at *
  rw [lv (by omega)] at HPS ⊢
  clear hw eg ep hc hao hfr hn
  go_enter Tryz.func142,Tryz.ntmps142
  go_wp2_with fail
  refine HPS.out.mono ?_
  rintro e w2 ⟨vp,rfl,hx2,h2⟩
  go_wp2_with fail
  go_ret2
  exact ⟨rfl,hx2,lg h2⟩

structure lJ (n : Nat) (F F' : ShM) : Prop where
 no : ∀k,F k = none -> F' k = none
 yes : ∀k m,k < 5 -> F k = some m -> ∃m',F' k = some m' /\ Step n m m' /\ m'.b = m.b
theorem lJ.refl {F : ShM} (hF : ShOk F) (n : Nat) : lJ n F F:=⟨fun _ h=>h,fun k m hk h=>⟨m,h,Step.refl (hF.ok k m hk h) n,rfl⟩⟩
theorem lJ.trans {a b : Nat} {F G H : ShM} (h : lJ a F G) (g : lJ b G H) : lJ (a + b) F H:=
 ⟨fun k hk=>g.no k (h.no k hk),fun k m hk hm=>by
  obtain ⟨m1,h1,s1,b1⟩:=h.yes k m hk hm
  obtain ⟨m2,h2,s2,b2⟩:=g.yes k m1 hk h1
  exact ⟨m2,h2,s1.trans s2,b2.trans b1⟩⟩
theorem lJ.mono {a b : Nat} {F G : ShM} (h : lJ a F G) (hab : a <= b) : lJ b F G:=
 ⟨h.no,fun k m hk hm=>let ⟨m1,h1,s1,b1⟩:=h.yes k m hk hm; ⟨m1,h1,s1.mono hab,b1⟩⟩
theorem lJ.of_put {F : ShM} (hF : ShOk F) {k : Nat} {m m' : ImgM} (h : F k = some m) {n : Nat} (hs : Step n m m') (hb : m'.b = m.b) : lJ n F (put F k m'):=by
 refine ⟨fun j hj=>?_,fun j mj hj hmj=>?_⟩
 ·by_cases e : j = k
  ·subst e; rw [h] at hj; cases hj
  ·rw [Ak F m' e]; exact hj
 ·by_cases e : j = k
  ·subst e
   rw [h] at hmj
   cases hmj
   exact ⟨m',oU F j m',hs,hb⟩
  ·exact ⟨mj,by rw [Ak F m' e]; exact hmj,Step.refl (hF.ok j mj hj hmj) n,rfl⟩
theorem lJ.file {n : Nat} {F F' : ShM} (h : lJ n F F') {x : Int} (hx : lz F x) : lz F' x:=by
 obtain ⟨h0,h1,m,hm⟩:=hx
 obtain ⟨m',hm',-⟩:=h.yes _ m (by omega) hm
 exact ⟨h0,h1,m',hm'⟩
theorem lJ.clus_eq {n : Nat} {F F' : ShM} (h : lJ n F F') {x : Int} (hx : lz F x) : clus F' x = clus F x:=by
 obtain ⟨h0,h1,m,hm⟩:=hx
 obtain ⟨m',hm',s,-⟩:=h.yes _ m (by omega) hm
 unfold clus
 rw [hm,hm']
 exact s.c
structure ShW (N : Nat) (F : ShM) : Prop where
 ok : ∀k m,k < 5 -> F k = some m -> m.Ok
 wr : ∀k m,k < 5 -> F k = some m -> m.d.writes <= N
 pend : ∀k m,k < 5 -> F k = some m -> m.d.pend.length <= N
theorem ShW.sh {N : Nat} {F : ShM} (h : ShW N F) (hN : N < 900000) : ShOk F:=
 ⟨h.ok,fun k m hk hm=>by have:=h.wr k m hk hm; omega,fun k m hk hm=>by have:=h.pend k m hk hm; omega⟩
theorem ShW.step {N n : Nat} {F F' : ShM} (h : ShW N F) (s : lJ n F F') : ShW (N + n) F':=by
 have key : ∀k m',k < 5 -> F' k = some m' -> ∃m,F k = some m /\ Step n m m':=fun k m' hk hm'=>by
  cases e : F k with
  | none=>rw [s.no k e] at hm'; cases hm'
  | some m=>
   obtain ⟨m'',h1,h2,-⟩:=s.yes k m hk e
   rw [hm'] at h1
   cases h1
   exact ⟨m,rfl,h2⟩
 refine ⟨fun k m' hk hm'=>?_,fun k m' hk hm'=>?_,fun k m' hk hm'=>?_⟩
 ·obtain ⟨m,-,h2⟩:=key k m' hk hm'; exact h2.ok
 ·obtain ⟨m,h1,h2⟩:=key k m' hk hm'
  have:=h.wr k m hk h1
  have:=h2.wr
  omega
 ·obtain ⟨m,h1,h2⟩:=key k m' hk hm'
  have:=h.pend k m hk h1
  have:=h2.pend
  omega
theorem ShW.mono {N M : Nat} {F : ShM} (h : ShW N F) (hNM : N <= M) : ShW M F:=⟨h.ok,fun k m hk hm=>by have:=h.wr k m hk hm; omega,fun k m hk hm=>Nat.le_trans (h.pend k m hk hm) hNM⟩
theorem wr_b (m : ImgM) (k fr : Int) (s : ByteArray) : (m.wr k fr s).2.b = m.b:=by
 unfold ImgM.wr
 split
 ·rfl
 ·split <;> rfl
theorem UD (m : ImgM) (k : Nat) (e : Ent) : (m.setE k e).2.b = m.b:=by
 unfold ImgM.setE
 dsimp only
 split <;> rfl
theorem QH (m : ImgM) (k : Int) : (m.clear k).2.b = m.b:=by
 unfold ImgM.clear
 repeat' split
 ·rfl
 ·exact UD _ _ _
 ·rfl
theorem US (m : ImgM) (k : Int) (s : ByteArray) : (m.fill k s).2.b = m.b:=by
 unfold ImgM.fill ImgM.fillAt
 repeat' split
 all_goals first | rfl | exact UD _ _ _
def Av (old : ByteArray) (fr : Nat) (s : ByteArray) : ByteArray:=old.extract 0 (16 * fr)++s++old.extract (16 * fr + s.size) old.size
def topI (l : List Int) : Nat:=(l.getD 0 0).toNat
def layM (F : ShM) (l : List Int) (c fr : Nat) (s : ByteArray) : Int×ShM:=match F (topI l) with
 | none=>(0,F)
 | some m=>if m.kind (c : Int) = 2 then ((m.wr c fr s).1,put F (topI l) (m.wr c fr s).2)
  else ((m.fill c (Av (oJ F l c).1 fr s)).1,put F (topI l) (m.fill c (Av (oJ F l c).1 fr s)).2)
def Br (F : ShM) (l : List Int) (c : Nat) : Int×ShM:=match F (topI l) with
 | none=>(0,F)
 | some m=>((m.clear c).1,put F (topI l) (m.clear c).2)
def KV (F : ShM) (l : List Int) (c : Nat) : Int:=match F (topI l) with
 | none=>0
 | some m=>m.kind c
def yz (act : ShM -> Nat -> Nat -> Int×ShM) : Nat -> ShM -> Nat -> Nat -> Nat -> Int×ShM
 | 0,F,_,_,_=>(0,F)
 | q + 1,F,fr,k,n=>if n <= k then (0,F) else if (act F k (min (n - k) (4 - (fr + k) % 4))).1≠0 then act F k (min (n - k) (4 - (fr + k) % 4)) else
   yz act q (act F k (min (n - k) (4 - (fr + k) % 4))).2 fr (k + min (n - k) (4 - (fr + k) % 4)) n
def putA (l : List Int) (fr : Nat) (s : ByteArray) (F : ShM) (k m : Nat) : Int×ShM:=layM F l ((fr + k) / 4) ((fr + k) % 4) (s.extract (16 * k) (16 * (k + m)))
def Bj (l : List Int) (fr : Nat) (F : ShM) (k m : Nat) : Int×ShM:=
 if m = 4 then Br F l ((fr + k) / 4) else if KV F l ((fr + k) / 4)≠1 then layM F l ((fr + k) / 4) ((fr + k) % 4) (zs (16 * m)) else (0,F)
def putM (F : ShM) (l : List Int) (fr : Int) (s : ByteArray) : Int×ShM:=
 if s.size % 16≠0 then (1,F) else if lV F l fr ((s.size / 16 : Nat) : Int)≠0 then (lV F l fr ((s.size / 16 : Nat) : Int),F) else
  yz (putA l fr.toNat s) (s.size / 16) F fr.toNat 0 (s.size / 16)
def zu (F : ShM) (l : List Int) (fr n : Int) : Int×ShM:=
 if lV F l fr n≠0 then (lV F l fr n,F) else yz (Bj l fr.toNat) n.toNat F fr.toNat 0 n.toNat
def y8 (F : ShM) (x : Nat) (c : Int) (s : ByteArray) : Int×ShM:=match F x with
 | none=>(0,F)
 | some m=>if s = zs 64 then ((m.clear c).1,put F x (m.clear c).2) else if m.there c = false then (1,F) else if m.kind c = 2 then ((m.wr c 0 s).1,put F x (m.wr c 0 s).2) else ((m.fill c s).1,put F x (m.fill c s).2)
theorem IA {F : ShM} {l : List Int} (hl : ∀x∈l,lz F x) (h0 : l.length≠0) : ∃m,topI l < 5 /\ F (topI l) = some m /\ l.getD 0 0 = (topI l : Int):=by
 obtain ⟨k,m,hxk,hk,hFk⟩:=oF (hl (l.getD 0 0) (by simp [show 0 < l.length by omega]))
 have : topI l = k:=by unfold topI; rw [hxk]; rfl
 rw [this]
 exact ⟨m,hk,hFk,hxk⟩
theorem Mv {F : ShM} (hF : ShOk F) (l : List Int) (h5 : topI l < 5) (c fr : Nat) (s : ByteArray) : lJ 5 F (layM F l c fr s).2:=by
 unfold layM
 split
 ·exact lJ.refl hF 5
 ·rename_i m hm
  have hw:=hF.wr _ m h5 hm
  have hp:=hF.pend _ m h5 hm
  split
  ·exact lJ.of_put hF hm ((Qb (hF.ok _ m h5 hm) (by omega) (by omega) _ _ _).mono (by omega)) (wr_b _ _ _ _)
  ·exact lJ.of_put hF hm (Mj (hF.ok _ m h5 hm) (by omega) (by omega) _ _) (US _ _ _)
theorem PM {F : ShM} (hF : ShOk F) (l : List Int) (h5 : topI l < 5) (c : Nat) : lJ 5 F (Br F l c).2:=by
 unfold Br
 split
 ·exact lJ.refl hF 5
 ·rename_i m hm
  have hw:=hF.wr _ m h5 hm
  have hp:=hF.pend _ m h5 hm
  exact lJ.of_put hF hm ((JR (hF.ok _ m h5 hm) (by omega) (by omega) _).mono (by omega)) (QH _ _)
theorem Ed {F : ShM} (hF : ShOk F) (l : List Int) (h5 : topI l < 5) (fr k m : Nat) : lJ 5 F (Bj l fr F k m).2:=by
 unfold Bj
 split
 ·exact PM hF l h5 _
 ·split
  ·exact Mv hF l h5 _ _ _
  ·exact lJ.refl hF 5
theorem EM {F : ShM} (hF : ShOk F) (l : List Int) (h5 : topI l < 5) (fr : Nat) (s : ByteArray) (k m : Nat) : lJ 5 F (putA l fr s F k m).2:=Mv hF l h5 _ _ _
theorem IU {act : ShM -> Nat -> Nat -> Int×ShM} (ha : ∀F,ShOk F -> ∀k m,lJ 5 F (act F k m).2) : ∀{q : Nat} {F : ShM} {fr k n N : Nat},ShW N F -> N + 5 * q < 900000 -> lJ (5 * q) F (yz act q F fr k n).2:=by
 intro q
 induction q with
 | zero=>intro F fr k n N hF hN; exact lJ.refl (hF.sh (by omega)) _
 | succ q ih=>
  intro F fr k n N hF hN
  rw [yz]
  have hs:=ha F (hF.sh (by omega)) k (min (n - k) (4 - (fr + k) % 4))
  split
  ·exact lJ.refl (hF.sh (by omega)) _
  ·split
   ·exact hs.mono (by omega)
   ·exact (hs.trans (ih (hF.step hs) (by omega))).mono (by omega)
theorem DN {F : ShM} {N : Nat} (hF : ShW N F) {l : List Int} (h5 : topI l < 5) (hN : N + 5 * 200 < 900000) (fr : Int) (s : ByteArray) (hs : s.size <= 3200) : lJ 1000 F (putM F l fr s).2:=by
 unfold putM
 split
 ·exact lJ.refl (hF.sh (by omega)) _
 ·split
  ·exact lJ.refl (hF.sh (by omega)) _
  ·exact (IU (fun F hF k m=>EM hF l h5 _ s k m) hF (by omega)).mono (by omega)
theorem CP {F : ShM} {N : Nat} (hF : ShW N F) {l : List Int} (h5 : topI l < 5) (hN : N + 5 * 200 < 900000) (fr n : Int) (hn : n <= 200) : lJ 1000 F (zu F l fr n).2:=by
 unfold zu
 split
 ·exact lJ.refl (hF.sh (by omega)) _
 ·exact (IU (fun F hF k m=>Ed hF l h5 _ k m) hF (by omega)).mono (by omega)
theorem Tn {F : ShM} (hF : ShOk F) {x : Nat} (h5 : x < 5) (c : Int) (s : ByteArray) : lJ 5 F (y8 F x c s).2:=by
 unfold y8
 split
 ·exact lJ.refl hF 5
 ·rename_i m hm
  have hw:=hF.wr _ m h5 hm
  have hp:=hF.pend _ m h5 hm
  have ho:=hF.ok _ m h5 hm
  split
  ·exact lJ.of_put hF hm ((JR ho (by omega) (by omega) _).mono (by omega)) (QH _ _)
  ·split
   ·exact lJ.refl hF 5
   ·split
    ·exact lJ.of_put hF hm ((Qb ho (by omega) (by omega) _ _ _).mono (by omega)) (wr_b _ _ _ _)
    ·exact lJ.of_put hF hm (Mj ho (by omega) (by omega) _ _) (US _ _ _)
section
variable {b : Nat} {F : ShM} {k : Nat} {m : ImgM}
theorem G2 {A : Nat -> Nat×Nat×Nat} (hk : k < 5) (h : F k = some m) (hm : m.Ok) (c : Int) (ht : m.there c = true) (R : List SL.HP) (w : World) (H : own w (shL b A F++R)) :
  Calls Tryz.prog 151 #[.pointer (some ⟨(A k).1,0,none⟩),.int .i64 c] w fun e w'=>e = .returned (.tuple #[.int .i64 (m.kind c),.nilIface]) /\ w = w':=by
 have h1:=FN (A k).1 (A k).2.1 (A k).2.2 m hm c _ w (AE hk h H)
 rwa [ht,zt rfl] at h1
theorem P5 {A : Nat -> Nat×Nat×Nat} (hk : k < 5) (h : F k = some m) (hm : m.Ok) (c : Int) (ht : m.there c = false) (R : List SL.HP) (w : World) (H : own w (shL b A F++R)) :
  Calls Tryz.prog 151 #[.pointer (some ⟨(A k).1,0,none⟩),.int .i64 c] w fun e w'=>e = .returned (.tuple #[.int .i64 0,.iface 128 (.int .i64 1)]) /\ w = w':=by
 have h1:=FN (A k).1 (A k).2.1 (A k).2.2 m hm c _ w (AE hk h H)
 rwa [ht,zq (by decide),show errV 1 = .iface 128 (.int .i64 1) from rfl] at h1
theorem JY {A : Nat -> Nat×Nat×Nat} (hk : k < 5) (h : F k = some m) (hF : ShOk F) (c fr : Int) (f0 : yb fr) (s : ByteArray) (hs : s.size <= 9223372036854775807) (R : List SL.HP) (w : World) (H : own w (shL b A F++R)) :
  Calls Tryz.prog 259 #[.pointer (some ⟨(A k).1,0,none⟩),.int .i64 c,.int .i64 fr,.string s] w fun e w'=>e = .returned (errV (m.wr c fr s).1) /\ Ext w w' /\ own w' (shL b A (put F k (m.wr c fr s).2)++R):=
 (Va _ _ _ m (hF.ok k m hk h) (by have:=hF.pend k m hk h; omega) (by have:=hF.wr k m hk h; omega) c fr f0 s hs _ w (AE hk h H)).mono fun e w' ⟨h1,h2,h3⟩=>⟨h1,h2,DM hk h H h3⟩
theorem Lx {A : Nat -> Nat×Nat×Nat} (hk : k < 5) (h : F k = some m) (hF : ShOk F) (c : Int) (s : ByteArray) (hs : s.size <= 9223372036854775807) (R : List SL.HP) (w : World) (H : own w (shL b A F++R)) :
  Calls Tryz.prog 67 #[.pointer (some ⟨(A k).1,0,none⟩),.int .i64 c,.string s] w fun e w'=>e = .returned (errV (m.fill c s).1) /\ Ext w w' /\ own w' (shL b A (put F k (m.fill c s).2)++R):=
 (VZ _ _ _ m (hF.ok k m hk h) (by have:=hF.pend k m hk h; omega) (by have:=hF.wr k m hk h; omega) c s hs _ w (AE hk h H)).mono fun e w' ⟨h1,h2,h3⟩=>⟨h1,h2,DM hk h H h3⟩
theorem J1 {A : Nat -> Nat×Nat×Nat} (hk : k < 5) (h : F k = some m) (hF : ShOk F) (c : Int) (R : List SL.HP) (w : World) (H : own w (shL b A F++R)) :
  Calls Tryz.prog 65 #[.pointer (some ⟨(A k).1,0,none⟩),.int .i64 c] w fun e w'=>e = .returned (errV (m.clear c).1) /\ Ext w w' /\ own w' (shL b A (put F k (m.clear c).2)++R):=
 (Ty _ _ _ m (hF.ok k m hk h) (by have:=hF.wr k m hk h; omega) (by have:=hF.pend k m hk h; omega) c _ w (AE hk h H)).mono fun e w' ⟨h1,h2,h3⟩=>⟨h1,h2,DM hk h H h3⟩
end
end Go.Proofs.YtbpblokfiajpjabGreatDoor
namespace Go.Proofs.YtbpblokfiajpjabGreatDoor
open Go.RowKit Go.SL Go.Crc
attribute [local go_sem ↓] Go.wp_at_zero Go.wp_at_succ
theorem Xt {F : ShM} {l : List Int} {m : ImgM} (h : F (topI l) = some m) (c fr : Nat) (s : ByteArray) : layM F l c fr s = if m.kind (c : Int) = 2 then ((m.wr c fr s).1,put F (topI l) (m.wr c fr s).2)
  else ((m.fill c (Av (oJ F l c).1 fr s)).1,put F (topI l) (m.fill c (Av (oJ F l c).1 fr s)).2):=by unfold layM; rw [h]
theorem Jq (t : ByteArray) (h : Int) (n : Nat) (hn : h = (n : Int)) (h2 : n <= t.size) (wx : World) : (Instr.slice 9 (.string t) none (some (.int .i64 h)) none).run Tryz.prog wx = .ok (.string (t.extract 0 n)) wx:=by
 subst hn
 have:=run_slice_string_h (P:=Tryz.prog) wx 9 t Tryz.underlying9 .i64 (n : Int) (by omega) (by omega)
 rw [this,zn]
theorem Ko (t : ByteArray) (h : Int) (n : Nat) (hn : h = (n : Int)) (h2 : n <= t.size) (wx : World) : (Instr.slice 9 (.string t) (some (.int .i64 h)) none none).run Tryz.prog wx = .ok (.string (t.extract n t.size)) wx:=by
 subst hn
 have:=run_slice_string_l (P:=Tryz.prog) wx 9 t Tryz.underlying9 .i64 (n : Int) (by omega) (by omega)
 rw [this,zn]
theorem Qy (b : Nat) (A : Nat -> Nat×Nat×Nat) (F : ShM) (hF : ShOk F) (v : Value) (l : List Int) (hl : ∀x∈l,lz F x) (h0 : l.length≠0) (hl5 : l.length <= 5) (c fr n : Nat) (hc : (c : Int) < clus F (l.getD 0 0)) (hfn : fr + n <= 4) (s : ByteArray) (hs : s.size = 16 * n) (R : List SL.HP) (w : World) (hv : ∀w' L,own w' (L++R) -> lW w' v l) (H : own w (shL b A F++R)) :
  Calls Tryz.prog 242 #[.pointer (some ⟨b,0,none⟩),v,.agg #[.int .i64 c,.int .i64 fr,.int .i64 n],.string s] w fun e w'=>e = .returned (errV (layM F l c fr s).1) /\ Ext w w' /\ own w' (shL b A (layM F l c fr s).2++R):=by
 have hv0:=hv w _ H
 obtain ⟨ao,lb,off,cap,rfl,hlc,hcap,hao,-⟩:=hv0.form
 obtain rfl:=hao (by omega)
 have hpos : 0 < l.length:=by omega
 obtain ⟨m,hk,hFk,hx⟩:=IA hl h0
 have htc:=Jz hl h0 (Int.natCast_nonneg c) hc
 have hrd:=FB hF hl h0 htc
 rw [Xt hFk]
 rw [hx,EH hFk] at htc
 generalize topI l = k at *
 have c0 : w.cell? ⟨lb,off,none⟩ = some (.int .i64 (k : Int)):=by rw [<- hx]; exact zx hv0 hpos
 have cell:=ou H hk
 rw [lU hFk] at cell
 have i1 : (0 : Int) <= (k : Int):=by omega
 have i2 : (k : Int) < 5:=by omega
 have j2 : (0 : Int) < (l.length : Int):=by omega
 have hcc : c <= 32:=by
  rw [hx,Au hFk] at hc
  obtain ⟨C,hC,q1,q2,-,-,-,-,-,-⟩:=(hF.ok k m hk hFk).nat
  omega
 have HKI:=zh (fun (R : List SL.HP) (w : World) (H : own w (shL b A F++R))=>G2 hk hFk (hF.ok k m hk hFk) (c : Int) htc R w H)
 have HV:=zh hv
 have HX:=zh hx
 have HFK:=zh hFk
 have ha:=lh H (.cells #[.int .i64 (c : Int),.int .i64 (fr : Int),.int .i64 (n : Int)] 271)
 have hxa:=(zR w).alloc (.cells #[.int .i64 (c : Int),.int .i64 (fr : Int),.int .i64 (n : Int)] 271)
 have ha2:=lC (shL b A F) ha
 have c1 : (w.alloc (.cells #[.int .i64 (c : Int),.int .i64 (fr : Int),.int .i64 (n : Int)] 271)).cell? ⟨lb,off,none⟩ = some (.int .i64 (l.getD 0 0)):=zx (zw hv [_] _ (shL b A F) ha2) hpos
 rw [hx] at c1
 have cell1:=ou ha2 hk
 rw [lU hFk] at cell1
 clear c0 cell
 by_cases h2 : m.kind (c : Int) = 2
 ·rw [zt h2]
  have HWR:=zh (fun (R : List SL.HP) (w : World) (H : own w (shL b A F++R))=>JY hk hFk hF (c : Int) (fr : Int) ⟨by omega,by omega⟩ s (by omega) R w H)
  rw [h2] at HKI
  clear hrd htc hc hl hF hFk hx hv hv0 hao h2 H ha
  go_enter Tryz.func242,Tryz.ntmps242
  go_upto_region 1 with (fail)
  generalize w.heap.size = gx at *
  generalize w.alloc (.cells #[.int .i64 (c : Int),.int .i64 (fr : Int),.int .i64 (n : Int)] 271) = wa at *
  go_quiet (fail)
  have hb:=lI nq ha2
  have hxb:=hxa.drewN nq
  clear ha2 hxa c1 cell1
  generalize wa.drewN nq = wb at *
  have d0:=(ld 6 hb rfl).1 0
  go_wp2_with fail
  refine (HKI.out _ _ hb).mono ?_
  rintro e w5 ⟨rfl,rfl⟩
  have d1:=(ld 6 hb rfl).1 1
  go_wp2_with fail
  refine (HWR.out _ _ hb).mono ?_
  rintro e w6 ⟨rfl,hx6,h6⟩
  go_wp2_with fail
  go_ret
  exact ⟨rfl,hxb.trans hx6,li 6 h6 rfl⟩
 ·rw [zq h2]
  have hsp : (Av (oJ F l (c : Int)).1 fr s).size = 64:=by
   unfold Av
   rw [ByteArray.size_append,ByteArray.size_append,ByteArray.size_extract,ByteArray.size_extract,hrd.2,hs]
   omega
  have HFI:=zh (fun (R : List SL.HP) (w : World) (H : own w (shL b A F++R))=>Lx hk hFk hF (c : Int) (Av (oJ F l (c : Int)).1 fr s) (by omega) R w H)
  have hread:=fun (R' : List SL.HP) (hv' : ∀w' L,own w' (L++R') -> lW w' (.slice (some ⟨lb,off,none⟩) l.length cap) l) (w : World) (H : own w (shL b A F++R'))=>FJ b A F hF _ l hl hl5 (c : Int) R' w hv' H
  rw [hrd.1,lS] at hread
  have HRE:=zh hread
  have t2 : (m.kind (c : Int) == 2) = false:=zb.2 h2
  have hrs:=hrd.2
  unfold Av at HFI ⊢
  rw [hrs,hs] at HFI ⊢
  clear hread hrd htc hc hl hF hFk hx hv hv0 hao h2 H ha hsp
  generalize (oJ F l (c : Int)).1 = old at *
  have u1:=Jq old ((fr : Int) * 16) (16 * fr) (by omega) (by omega)
  have u2:=Ko old (((fr : Int) + (n : Int)) * 16) (16 * fr + 16 * n) (by omega) (by omega)
  rw [hrs] at u2
  have z1 : (old.extract 0 (16 * fr)).size = 16 * fr:=by rw [ByteArray.size_extract]; omega
  have z2 : (old.extract (16 * fr + 16 * n) 64).size = 64 - (16 * fr + 16 * n):=by rw [ByteArray.size_extract]; omega
  generalize old.extract 0 (16 * fr) = o1 at *
  generalize old.extract (16 * fr + 16 * n) 64 = o2 at *
  have z3 : (o1++s).size = 16 * fr + 16 * n:=by rw [ByteArray.size_append]; omega
  have y1 : (o1.size : Int) <= 8388608:=by omega
  have y2 : (s.size : Int) <= 8388608:=by omega
  have y3 : ((o1++s).size : Int) <= 8388608:=by omega
  have y4 : (o2.size : Int) <= 8388608:=by omega
  have hcc1 : ∀wx : World,(Op.stringOp .add o1 s).run Tryz.prog wx = .ok (.string (o1++s)) wx:=fun wx=>run_string_add wx o1 s y1 y2
  have hcc2 : ∀wx : World,(Op.stringOp .add (o1++s) o2).run Tryz.prog wx = .ok (.string (o1++s++o2)) wx:=fun wx=>run_string_add wx (o1++s) o2 y3 y4
  have e1 : IntKind.i64.wrap ((fr : Int) * 16) = (fr : Int) * 16:=zi _ (by omega)
  have e2 : IntKind.i64.wrap ((fr : Int) + (n : Int)) = (fr : Int) + (n : Int):=zi _ (by omega)
  have e3 : IntKind.i64.wrap (((fr : Int) + (n : Int)) * 16) = ((fr : Int) + (n : Int)) * 16:=zi _ (by omega)
  go_enter Tryz.func242,Tryz.ntmps242
  go_upto_region 1 with (fail)
  generalize w.heap.size = gx at *
  generalize w.alloc (.cells #[.int .i64 (c : Int),.int .i64 (fr : Int),.int .i64 (n : Int)] 271) = wa at *
  go_quiet (fail)
  have hb:=lI nq ha2
  have hxb:=hxa.drewN nq
  clear ha2 hxa c1 cell1
  generalize wa.drewN nq = wb at *
  have d0:=(ld 6 hb rfl).1 0
  go_wp2_with fail
  refine (HKI.out _ _ hb).mono ?_
  rintro e w5 ⟨rfl,rfl⟩
  go_wp2_with fail
  refine (HRE.out _ (zw HV.out [_]) _ hb).mono ?_
  rintro e w6 ⟨rfl,hx6,h6⟩
  clear hb d0
  have d0:=(ld 6 h6 rfl).1 0
  have d1:=(ld 6 h6 rfl).1 1
  have d2:=(ld 6 h6 rfl).1 2
  go_upto_region 10 with (fail)
  go_still_tail 19,(by kernel_rfl)
  change wpList _ _ _ _ _ w6.drew
  go_wp2_with fail
  refine (HFI.out _ _ (ln h6)).mono ?_
  rintro e w7 ⟨rfl,hx7,h7⟩
  go_wp2_with fail
  go_ret
  exact ⟨rfl,((hxb.trans hx6).drew).trans hx7,li 6 h7 rfl⟩
theorem KO (d : DevM) (c p b : Int) : (oE d c p b).2 = oC (oE d c p b).2.d c p b:=by
 unfold oE
 split
 ·rfl
 ·split
  ·rfl
  ·split <;> rfl
theorem Nb {d : DevM} (hd : d.Ok) (hf : d.fail < 0) (hp : d.pend.length < 999000) (hw : d.writes < 999000) {c p b : Int} (h : ¬CU d c p b) : (oE d c p b).1 = 0 /\ (oE d c p b).2.d.fail < 0:=by
 have hb : ¬lH c p b:=fun h'=>h (.inl h')
 have hn : zC c p <= d.fl.length:=Int.not_lt.1 fun h'=>h (.inr h')
 have hbb:=hb
 unfold lH at hbb
 have hzl : (lG c).length = c.toNat:=by simp [lG]
 have hrn : lt c.toNat <= 4:=by unfold lt; omega
 have hrl : (oI (lG c)).length = lt c.toNat:=by simp [oI,hzl]
 have hn2 : 1 + (lt c.toNat : Int) + 4 * p <= d.fl.length:=hn
 obtain ⟨o1,o2,o3,o4⟩:=Em (l:=oI (lG c)) (a:=1) hd (by omega) (by omega)
 obtain ⟨g1,g2⟩:=Gx (l:=oI (lG c)) (a:=1) hf (by omega) (by rw [hrl]; omega) (fun s hs=>by
  unfold oI at hs
  obtain ⟨k,hk,rfl⟩:=List.mem_map.1 hs
  rw [List.mem_range,hzl] at hk
  rw [Jo (P:=40) (by omega) (by omega) (CA c 40) (by rw [hzl]; exact hk)]
  exact Ci _ _)
 unfold oE
 rw [zq h,zq (by simpa using g1)]
 generalize (d.puts 1 (oI (lG c))).2 = d1 at *
 have hl1 : d1.flush.fl.length = d1.fl.length:=by simp only [DevM.flush,lP]
 obtain ⟨w1,w2⟩:=D3 (d:=d1.flush) g2 (a:=0) (by omega) (by omega) (s:=lQ c p b) (BT (by simp))
 rw [zq (by simpa using w1)]
 exact ⟨rfl,w2⟩
theorem Jb (m : ImgM) (k : Nat) (e : Ent) : 0 <= (m.setE k e).1:=by
 unfold ImgM.setE
 dsimp only
 split
 ·exact o5 _ _ _
 ·simp
theorem L2 (m : ImgM) (k fr : Int) (s : ByteArray) : 0 <= (m.wr k fr s).1:=by
 unfold ImgM.wr
 split
 ·simp
 ·split
  ·simp
  ·exact By
theorem IX (m : ImgM) (k : Int) (s : ByteArray) : 0 <= (m.fill k s).1:=by
 unfold ImgM.fill
 split
 ·simp
 ·split
  ·simp
  ·split
   ·simp
   ·unfold ImgM.fillAt
    split
    ·exact By
    ·exact Jb _ _ _
theorem GE (m : ImgM) (k : Int) : 0 <= (m.clear k).1:=by
 unfold ImgM.clear
 split
 ·split
  ·simp
  ·exact Jb _ _ _
 ·simp
theorem P7 (m : ImgM) (k : Int) : 0 <= (m.link k).1:=by
 unfold ImgM.link
 split
 ·simp
 ·split
  ·exact o5 _ _ _
  ·simp
theorem LX (F : ShM) (l : List Int) (c fr : Nat) (s : ByteArray) : 0 <= (layM F l c fr s).1:=by
 unfold layM
 split
 ·simp
 ·split
  ·exact L2 _ _ _ _
  ·exact IX _ _ _
theorem Pn (F : ShM) (l : List Int) (c : Nat) : 0 <= (Br F l c).1:=by
 unfold Br
 split
 ·simp
 ·exact GE _ _
theorem KB (l : List Int) (fr : Nat) (F : ShM) (k m : Nat) : 0 <= (Bj l fr F k m).1:=by
 unfold Bj
 split
 ·exact Pn _ _ _
 ·split
  ·exact LX _ _ _ _ _
  ·simp
theorem LM (l : List Int) (fr : Nat) (s : ByteArray) (F : ShM) (k m : Nat) : 0 <= (putA l fr s F k m).1:=LX _ _ _ _ _
theorem I6 {act : ShM -> Nat -> Nat -> Int×ShM} (ha : ∀F k m,0 <= (act F k m).1) : ∀{q : Nat} {F : ShM} {fr k n : Nat},0 <= (yz act q F fr k n).1:=by
 intro q
 induction q with
 | zero=>intro F fr k n; simp [yz]
 | succ q ih=>
  intro F fr k n
  rw [yz]
  split
  ·simp
  ·split
   ·exact ha _ _ _
   ·exact ih
theorem Vb (F : ShM) (l : List Int) (fr : Int) (s : ByteArray) : 0 <= (putM F l fr s).1:=by
 unfold putM
 split
 ·simp
 ·split
  ·exact BV _ _ _ _
  ·exact I6 fun F k m=>LM l _ s F k m
theorem KJ (F : ShM) (l : List Int) (fr n : Int) : 0 <= (zu F l fr n).1:=by
 unfold zu
 split
 ·exact BV _ _ _ _
 ·exact I6 fun F k m=>KB l _ F k m
theorem JV (F : ShM) (x : Nat) (c : Int) (s : ByteArray) : 0 <= (y8 F x c s).1:=by
 unfold y8
 split
 ·simp
 ·split
  ·exact GE _ _
  ·split
   ·simp
   ·split
    ·exact L2 _ _ _ _
    ·exact IX _ _ _
theorem SW (s : ByteArray) (a m : Nat) (h : a + m <= s.size) : (s.extract a s.size).extract 0 m = s.extract a (a + m):=by
 rw [ByteArray.extract_extract,Nat.add_zero]
 congr 1
 omega
theorem NF (s : ByteArray) (a m : Nat) (h : a + m <= s.size) : (s.extract a s.size).extract m (s.extract a s.size).size = s.extract (a + m) s.size:=by
 rw [ByteArray.extract_extract,ByteArray.size_extract]
 congr 1
 omega
theorem Jd (act : ShM -> Nat -> Nat -> Int×ShM) {q : Nat} (F : ShM) {fr k n : Nat} (h : k < n) : yz act (q + 1) F fr k n = if (act F k (min (n - k) (4 - (fr + k) % 4))).1≠0 then act F k (min (n - k) (4 - (fr + k) % 4)) else
   yz act q (act F k (min (n - k) (4 - (fr + k) % 4))).2 fr (k + min (n - k) (4 - (fr + k) % 4)) n:=by
 rw [yz,zq (by omega)]
theorem IV (act : ShM -> Nat -> Nat -> Int×ShM) (q : Nat) (F : ShM) (fr n : Nat) : yz act q F fr n n = (0,F):=by
 cases q with
 | zero=>rfl
 | succ q=>rw [yz,zt (Nat.le_refl _)]
theorem Qs {F : ShM} (hF : ShOk F) {l : List Int} (hl : ∀x∈l,lz F x) (h0 : l.length≠0) : clus F (l.getD 0 0) <= 32:=by
 obtain ⟨k,m,hxk,hk,hFk⟩:=oF (hl (l.getD 0 0) (by simp [show 0 < l.length by omega]))
 rw [hxk,Au hFk]
 obtain ⟨C,hC,q1,q2,-,-,-,-,-,-⟩:=(hF.ok k m hk hFk).nat
 omega
theorem mem0 {l : List Int} (h0 : l.length≠0) : l.getD 0 0∈l:=by simp [show 0 < l.length by omega]
theorem Vo (b : Nat) (A : Nat -> Nat×Nat×Nat) (F : ShM) (N : Nat) (hW : ShW N F) (hN : N + 1000 < 900000) (v : Value) (l : List Int) (hl : ∀x∈l,lz F x) (hl5 : l.length <= 5) (fr : Int) (hfr : yb fr) (s : ByteArray) (hs : s.size <= 3200) (R : List SL.HP) (w : World) (hv : ∀w' L,own w' (L++R) -> lW w' v l) (H : own w (shL b A F++R)) :
  Calls Tryz.prog 194 #[.pointer (some ⟨b,0,none⟩),v,.int .i64 fr,.string s] w fun e w'=>e = .returned (errV (putM F l fr s).1) /\ Ext w w' /\ own w' (shL b A (putM F l fr s).2++R):=by
 have td:=Qh s.size
 have tm:=Qn s.size
 have hF : ShOk F:=hW.sh (by omega)
 by_cases hm : s.size % 16≠0
 ·have e1 : putM F l fr s = (1,F):=by unfold putM; rw [zt hm]
  rw [e1]
  have w1 : (0 : Int) < ((s.size % 16 : Nat) : Int):=by omega
  generalize s.size % 16 = sm at *
  clear hm hv hl
  go_enter Tryz.func194,Tryz.ntmps194
  go_wp2_with fail
  go_ret
  exact ⟨rfl,zR _,H⟩
 ·have hm0 : s.size % 16 = 0:=Decidable.not_not.1 hm
  have hps:=GA b A F hF v l hl hl5 fr ((s.size / 16 : Nat) : Int) hfr ⟨by omega,by omega⟩ R w hv H
  unfold ER at hps
  have HPS:=zh hps
  have ht0 : ((s.size : Int)).tmod 16 = 0:=by rw [tm,hm0]; rfl
  have hsz : s.size = 16 * (s.size / 16):=by omega
  have hsn : s.size / 16 <= 200:=by omega
  clear hps tm
  by_cases hw : lV F l fr ((s.size / 16 : Nat) : Int) = 0
  ·have eg : putM F l fr s = yz (putA l fr.toNat s) (s.size / 16) F fr.toNat 0 (s.size / 16):=by unfold putM; rw [zq hm,zq (by rw [hw]; decide)]
   have ep : AA F l fr ((s.size / 16 : Nat) : Int) = Am fr.toNat (s.size / 16):=by unfold AA; rw [zt hw,zn]
   rw [eg]
   rw [hw,ep,lS] at HPS
   obtain ⟨hp0,hp1,-,hp3⟩:=yN hw
   obtain ⟨fn,rfl⟩:=ze hp1
   rw [zn] at HPS ⊢
   generalize s.size / 16 = nn at *
   have hcl:=Qs hF hl hp0
   have hsum : fn + nn <= 128:=by omega
   have HCL:=zh hp3
   have hf0:=hl _ (mem0 hp0)
   have HV:=zh hv
   have HSTEP:=zh (fun (F' : ShM) (n : Nat) (hn : n <= 1000) (hs : lJ n F F')=>(show ShOk F' /\ (∀x∈l,lz F' x) /\ clus F' (l.getD 0 0) = clus F (l.getD 0 0) from ⟨(hW.step hs).sh (by omega),fun x hx=>hs.file (hl x hx),hs.clus_eq hf0⟩))
   obtain ⟨ao,lb,off,cap,rfl,hlc,hcap,hao,-⟩:=(hv w _ H).form
   have HLAY:=zh (fun (F' : ShM) (hF' : ShOk F') (hl' : ∀x∈l,lz F' x) (c fr n : Nat) (hc : (c : Int) < clus F' (l.getD 0 0)) (hfn : fr + n <= 4) (t : ByteArray) (ht : t.size = 16 * n) (R' : List SL.HP) (w : World) (hv' : ∀w' L,own w' (L++R') -> lW w' (.slice ao l.length cap) l) (H : own w (shL b A F'++R'))=>Qy b A F' hF' (.slice ao l.length cap) l hl' hp0 hl5 c fr n hc hfn t ht R' w hv' H)
   generalize hres : yz (putA l fn s) nn F fn 0 nn = res
   have HRES:=zh hres
   have hrf : lJ 0 F F:=lJ.refl hF 0
   have HRF:=zh hrf
   have h5 : topI l < 5:=by obtain ⟨m0,hk0,-⟩:=IA hl hp0; exact hk0
   clear hres hv hw eg ep hp0 hp1 hp3 hcl hao hfr hF hl hm hm0 hf0 hW hrf
   go_enter Tryz.func194,Tryz.ntmps194
   go_wp2_with fail
   refine HPS.out.mono ?_
   rintro e w2 ⟨vp,rfl,hx2,h2⟩
   obtain ⟨po,pg,pcap,rfl,r1,r2,r3,-,-,-,-⟩:=lm 0 h2 rfl
   clear HPS H r3 ht0 td
   generalize hq : Am fn nn = ps at *
   have HQ:=zh hq
   clear hq
   have h3:=lC (shL b A F) h2
   clear h2
   go_wp2_with fail
   have hT0 : s.extract (16 * 0) s.size = s:=by rw [Nat.mul_zero]; exact ByteArray.extract_zero_size
   go_loopw [3,33] (fun tv iv wr=>∃(k : Nat) (p1 : List Part) (F' : ShM),k <= nn /\ p1.length + (nn - k) <= nn /\ tv = .string (s.extract (16 * k) s.size) /\ iv = .int .i64 p1.length /\ ps = p1++Am (fn + k) (nn - k) /\ lJ (5 * p1.length) F F' /\ yz (putA l fn s) (nn - p1.length) F' fn k nn = res /\ Ext w wr /\ own wr (shL b A F'++(row 271 3 (.slice po ps.length pcap) ps.length (yf ps)::R))) (fun _ iv _=>ps.length - (intOf iv).toNat)
   case atStart=>exact ⟨0,[],F,by omega,by simp,by rw [hT0],rfl,HQ.out.symm,HRF.out,HRES.out,hx2,h3⟩
   case round=>
    clear h3 hx2 hT0
    obtain ⟨k,p1,F',hk,hp1,rfl,rfl,hpp,hst,hgo,hxr,hown⟩:=hrel
    by_cases hlt : k < nn
    ·rw [Dz _ (show 0 < nn - k by omega)] at hpp
     have hlen : p1.length < ps.length:=by rw [hpp]; simp
     obtain ⟨d0,d1,d2⟩:=DX hlen
     have hget : ps.getD p1.length (0,0,0) = ((fn + k) / 4,(fn + k) % 4,min (nn - k) (4 - (fn + k) % 4)):=by rw [hpp]; simp
     rw [hget] at d0 d1 d2
     rw [show nn - p1.length = (nn - p1.length - 1) + 1 by omega,Jd _ _ hlt] at hgo
     have hco:=LM l fn s F' k (min (nn - k) (4 - (fn + k) % 4))
     obtain ⟨hok',hl',hcl'⟩:=HSTEP.out F' _ (by omega) hst
     have hpst : lJ 5 F' (putA l fn s F' k (min (nn - k) (4 - (fn + k) % 4))).2:=EM hok' l h5 fn s k _
     have hst2:=hst.trans hpst
     have hm1 : 1 <= min (nn - k) (4 - (fn + k) % 4):=by omega
     have hm2 : min (nn - k) (4 - (fn + k) % 4) <= nn - k:=by omega
     have hm3 : (fn + k) % 4 + min (nn - k) (4 - (fn + k) % 4) <= 4:=by omega
     have hqc : (((fn + k) / 4 : Nat) : Int) < clus F' (l.getD 0 0):=by rw [hcl']; have:=HCL.out; omega
     have hfq : (fn + k) / 4 <= 32:=by omega
     have hfm : (fn + k) % 4 < 4:=by omega
     generalize min (nn - k) (4 - (fn + k) % 4) = mm at *
     have hts : (s.extract (16 * k) (16 * (k + mm))).size = 16 * mm:=by rw [ByteArray.size_extract]; omega
     have hlay:=HLAY.out F' hok' hl' ((fn + k) / 4) ((fn + k) % 4) mm hqc hm3 (s.extract (16 * k) (16 * (k + mm))) hts
     have hpe : layM F' l ((fn + k) / 4) ((fn + k) % 4) (s.extract (16 * k) (16 * (k + mm))) = putA l fn s F' k mm:=rfl
     rw [hpe] at hlay
     clear hpe hqc hok' hl' hcl' hpst hst
     generalize putA l fn s F' k mm = r at *
     have x1 : (s.extract (16 * k) s.size).extract 0 (16 * mm) = s.extract (16 * k) (16 * (k + mm)):=by rw [SW _ _ _ (by omega),Nat.mul_add]
     have x2 : (s.extract (16 * k) s.size).extract (16 * mm) (s.extract (16 * k) s.size).size = s.extract (16 * (k + mm)) s.size:=by rw [NF _ _ _ (by omega),Nat.mul_add]
     have x3 : (s.extract (16 * k) s.size).size = s.size - 16 * k:=by rw [ByteArray.size_extract]; omega
     have u1:=Jq (s.extract (16 * k) s.size) ((mm : Int) * 16) (16 * mm) (by omega) (by omega)
     have u2:=Ko (s.extract (16 * k) s.size) ((mm : Int) * 16) (16 * mm) (by omega) (by omega)
     rw [x1] at u1
     rw [x2] at u2
     have e1 : IntKind.i64.wrap ((mm : Int) * 16) = (mm : Int) * 16:=zi _ (by omega)
     generalize (fn + k) / 4 = q at *
     generalize (fn + k) % 4 = fm at *
     generalize s.extract (16 * k) s.size = tv at *
     generalize s.extract (16 * k) (16 * (k + mm)) = tw at *
     generalize htx : s.extract (16 * (k + mm)) s.size = tx at *
     have HTX:=zh htx
     obtain ⟨po',pg',pcap',hv',-,-,r3',-,-,-,-⟩:=lm 6 hown rfl
     simp only [Value.slice.injEq,true_and] at hv'
     obtain ⟨rfl,rfl⟩:=hv'
     obtain rfl:=r3' (by omega)
     obtain ⟨k2,-⟩:=oa 6 hown rfl
     have c0:=k2 _ _ d0
     have c1:=k2 _ _ d1
     have c2:=k2 _ _ d2
     have HPP:=zh hpp
     have HST:=zh hst2
     clear k2 d0 d1 d2 r3' hget hpp hst2 x1 x2 x3 htx hts
     by_cases hr0 : r.1 = 0
     ·rw [zq (by rw [hr0]; decide)] at hgo
      rw [hr0,lS] at hlay
      have HL:=zh hlay
      have HGO:=zh hgo
      clear hlay hgo hr0 hco
      go_upto_region 9 with (fail)
      have ha:=lC (shL b A F') (lh hown (.cells #[.int .i64 (q : Int),.int .i64 (fm : Int),.int .i64 (mm : Int)] 271))
      have hxa:=hxr.alloc (.cells #[.int .i64 (q : Int),.int .i64 (fm : Int),.int .i64 (mm : Int)] 271)
      clear c0 c1 c2 hown hxr
      generalize wr.heap.size = gx at *
      generalize wr.alloc (.cells #[.int .i64 (q : Int),.int .i64 (fm : Int),.int .i64 (mm : Int)] 271) = wa at *
      obtain ⟨cc,-⟩:=ld 6 ha rfl
      have c0:=cc 0
      have c1:=cc 1
      have c2:=cc 2
      clear cc
      go_still_tail 8,(by kernel_rfl)
      change wpList _ _ _ _ _ wa.drew
      go_wp2_with fail
      refine (HL.out _ _ (zw HV.out [_,_]) (ln ha)).mono ?_
      rintro e w5 ⟨rfl,hx5,h5'⟩
      have hx6:=hxa.drew.trans hx5
      clear ha c0 c1 c2
      have c2:=(ld 6 h5' rfl).1 2
      go_wp2_with fail
      go_roundw
      case rel=>
       refine ⟨k + mm,p1++[(q,fm,mm)],r.2,by omega,by simp; omega,by rw [HTX.out],by simp,?_,?_,?_,hx6,li 6 h5' rfl⟩
       ·rw [HPP.out,zp,show fn + (k + mm) = fn + k + mm by omega,show nn - (k + mm) = nn - k - mm by omega]; rfl
       ·rw [List.length_append]; exact HST.out.mono (by simp; omega)
       ·rw [<- HGO.out,List.length_append]; rfl
      case measure=>simp [intOf]; omega
     ·rw [zt hr0] at hgo
      subst hgo
      have hep:=lv (e:=r.1) (by omega)
      rw [hep] at hlay
      have HEP:=zh hep
      have HL:=zh hlay
      clear hlay hr0 hco HRES hep
      go_upto_region 9 with (fail)
      have ha:=lC (shL b A F') (lh hown (.cells #[.int .i64 (q : Int),.int .i64 (fm : Int),.int .i64 (mm : Int)] 271))
      have hxa:=hxr.alloc (.cells #[.int .i64 (q : Int),.int .i64 (fm : Int),.int .i64 (mm : Int)] 271)
      clear c0 c1 c2 hown hxr
      generalize wr.heap.size = gx at *
      generalize wr.alloc (.cells #[.int .i64 (q : Int),.int .i64 (fm : Int),.int .i64 (mm : Int)] 271) = wa at *
      obtain ⟨cc,-⟩:=ld 6 ha rfl
      have c0:=cc 0
      have c1:=cc 1
      have c2:=cc 2
      clear cc
      go_still_tail 8,(by kernel_rfl)
      change wpList _ _ _ _ _ wa.drew
      go_wp2_with fail
      refine (HL.out _ _ (zw HV.out [_,_]) (ln ha)).mono ?_
      rintro e w5 ⟨rfl,hx5,h5'⟩
      have hx6:=hxa.drew.trans hx5
      clear ha c0 c1 c2
      go_wp2_with fail
      go_ret
      exact ⟨by rw [HEP.out]; rfl,hx6,li 6 (li 6 h5' rfl) rfl⟩
    ·obtain rfl : k = nn:=by omega
     rw [IV] at hgo
     rw [Nat.sub_self,DA,List.append_nil] at hpp
     subst hgo hpp
     go_wp2_with fail
     go_ret
     exact ⟨rfl,hxr,li 6 hown rfl⟩
  ·have eg : putM F l fr s = (lV F l fr ((s.size / 16 : Nat) : Int),F):=by unfold putM; rw [zq hm,zt hw]
   have ep : AA F l fr ((s.size / 16 : Nat) : Int) = []:=by unfold AA; rw [zq hw]
   have hc:=BV F l fr ((s.size / 16 : Nat) : Int)
   rw [eg]
   rw [ep] at HPS
   generalize lV F l fr ((s.size / 16 : Nat) : Int) = res at *
   generalize s.size / 16 = nn at *
   have hep:=lv (e:=res) (by omega)
   dsimp only
   rw [hep] at HPS ⊢
   clear hw eg ep hc hfr hm hm0 hep
   go_enter Tryz.func194,Tryz.ntmps194
   go_wp2_with fail
   refine HPS.out.mono ?_
   rintro e w2 ⟨vp,rfl,hx2,h2⟩
   go_wp2_with fail
   go_ret
   exact ⟨rfl,hx2,lg h2⟩

end Go.Proofs.YtbpblokfiajpjabGreatDoor
