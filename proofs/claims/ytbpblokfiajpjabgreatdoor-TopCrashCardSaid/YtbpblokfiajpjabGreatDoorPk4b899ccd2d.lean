/- Lemmas on which TopAlone and TopCrash stands: the texts Tk SL Row Acts Errs Shelf Dev Dev2 Dev3 Dev4 Dev5 Dev6 RDev Strs. No conditions. -/
import Derived.WalkKit
import Derived.Deep.RegionHeld3
import Derived.Deep.Quiet
import Derived.Laws.AppendOwn
import Derived.OwnWalk
import Derived.Lib.Hide
import Derived.Test.YtbpblokfiajpjabGreatDoorProg
import Derived.Deep.Slices
import Derived.Deep.Fields
import Derived.ProofKit
import Derived.OpenShut
import Derived.WalkLawsBesides
import Derived.StillTailTactics
import Derived.BigQuiet
import Derived.Deep.QuietTactic
import Derived.Shelf.Strings.Builder1
import Derived.Shelf.Strings.Builder2
import Derived.Shelf.Strings.OnBuilder
import Derived.Shelf.Strings.BuilderF
import Derived.Shelf.Strings.BuilderK
import Derived.Shelf.Strings.Builder2Cap
import Derived.Shelf.Strings.Search1
import Derived.Shelf.Strings.Prefix
import Derived.Shelf.Bits.Mul64
import Derived.Shelf.Strings.Repeat
import Derived.Shelf.Strings.BuilderCap
import Derived.Deep.Cut
import Derived.Lib.Join
import Derived.Deep.RegionLaw
import Derived.Laws.Strings2
import Derived.Laws.BytesArg
import Derived.Laws.OwnMore
set_option linter.all false
set_option maxRecDepth 1000000
set_option maxHeartbeats 32000000
namespace Go
theorem zq {c : Prop} {h : Decidable c} (n : ¬c) {α : Sort _} {t e : α} : ite c t e = e:=if_neg n
theorem zt {c : Prop} {h : Decidable c} (n : c) {α : Sort _} {t e : α} : ite c t e = t:=if_pos n
theorem zf {p : Prop} [Decidable p] (h : ¬p) : decide p = false:=decide_eq_false h
theorem zg {p : Prop} [Decidable p] (h : p) : decide p = true:=decide_eq_true h
theorem zb {α : Type _} [BEq α] [LawfulBEq α] {a b : α} : (a == b) = false↔a≠b:=beq_eq_false_iff_ne
theorem zi (n : Int) (h : -9223372036854775808 <= n /\ n <= 9223372036854775807) : IntKind.i64.wrap n = n:=IntWalk.i64_in n h
theorem zS {α : Type} {l : List α} {i : Nat} {a : α} : l[i]? = some a↔∃h : i < l.length,l[i] = a:=List.getElem?_eq_some_iff
end Go
namespace Go.SL
section
variable {P : Program} {ops : Array Oper} {Q : Exit -> Act -> World -> Prop} {md : Region.Mode} {S : World -> Prop}
theorem tk (i : Nat) {v : Value} {oi : Oper} {fuel : Nat} {listed : Array Bool} {a : Act} {w : World} (h : wpAnyH P md ops Q S fuel (listed.setIfInBounds i true) (a.put oi.dst v) w)
  (hi : ops[i]? = some oi:=by rfl) (hy : ∀w,S w -> (execOp a.eval oi).run P w = .ok (.value v) w:=by intro w hSw; go_simp; try with_reducible rfl) (hS : S w:=by assumption) (hs : Region.noSelect ops = true:=by kernel_rfl)
  (hf : Region.free md ops listed i = true:=by kernel_rfl) (hr : (Region.ready md ops listed).contains i = true:=by kernel_rfl) (hw : Region.wanted oi (yielded ops a.tmps) = true:=by kernel_rfl)
  (hQ : ∀c a w,Q (.panic c) (a.put oi.dst v) w -> Q (.panic c) a w:=by exact fun _ _ _ h=>h) : wpAnyH P md ops Q S (fuel + 1) listed a w:=
 wpAnyH_take hi hs hf hr hQ (Or.inl ⟨hw,hy⟩) hS h
theorem sk (i : Nat) {oi : Oper} {fuel : Nat} {listed : Array Bool} {a : Act} {w : World} (h : wpAnyH P md ops Q S fuel (listed.setIfInBounds i true) (a.put oi.dst undef) w)
  (hi : ops[i]? = some oi:=by rfl) (hS : S w:=by assumption) (hs : Region.noSelect ops = true:=by kernel_rfl) (hf : Region.free md ops listed i = true:=by kernel_rfl) (hr : (Region.ready md ops listed).contains i = true:=by kernel_rfl)
  (hw : Region.wanted oi (yielded ops a.tmps) = false:=by kernel_rfl) (hQ : ∀c a w,Q (.panic c) (a.put oi.dst undef) w -> Q (.panic c) a w:=by exact fun _ _ _ h=>h) : wpAnyH P md ops Q S (fuel + 1) listed a w:=
 wpAnyH_take hi hs hf hr hQ (Or.inr ⟨hw,rfl⟩) hS h
theorem rd (i : Nat) {o : Oper} {fuel : Nat} {listed : Array Bool} {a : Act} {w : World} (ho : ops[i]? = some o)
  (h : ∀K' : Act -> World -> Prop,Shut (∀a w,S w -> (S w -> wpAnyH P md ops Q S fuel (listed.setIfInBounds i true) a w) -> K' a w) -> if Region.wanted o (yielded ops a.tmps) = true then Oper.wp P o a w K' Q else K' (a.put o.dst undef) w)
  (hr : Region.ready md ops listed = [i]:=by kernel_rfl) : wpAnyH P md ops Q S (fuel + 1) listed a w:=
 wpAnyH_ready hr (by simp) (AllReadyH.cons ho h AllReadyH.nil)
end
theorem tA {α : Type} {l : List α} {i : Nat} {x : α} : l.toArray.setIfInBounds i x = (l.set i x).toArray:=List.setIfInBounds_toArray ..
theorem tB {α : Type} {l : List α} {i : Nat} (h : i < l.toArray.size) : l.toArray[i] = l[i]'(by simpa using h):=List.getElem_toArray h
theorem tC {α : Type} {a : α} {l : List α} {i : Nat} (h : i + 1 < (a::l).length) : (a::l)[i + 1] = l[i]'(Nat.lt_of_succ_lt_succ h):=rfl
theorem tD {α : Type} {a : α} {l : List α} (h : 0 < (a::l).length) : (a::l)[0] = a:=rfl
theorem tE {α : Type} {a x : α} {l : List α} : (a::l).set 0 x = x::l:=rfl
theorem tF {α : Type} {a x : α} {l : List α} {i : Nat} : (a::l).set (i + 1) x = a::l.set i x:=rfl
end Go.SL
namespace Go
theorem zh {p : Prop} (h : p) : RowKit.Hid p:=Lib.hid h
theorem zp {α : Type} (a b c : List α) : a++b++c = a++(b++c):=List.append_assoc a b c
theorem zn (n : Nat) : (n : Int).toNat = n:=Int.toNat_natCast n
theorem ze {a : Int} (h : 0 <= a) : ∃n : Nat,a = n:=Int.eq_ofNat_of_zero_le h
end Go
namespace Go.SL
open Go.RowKit
abbrev Hp:=Nat -> Option Obj
abbrev HP:=Hp -> Prop
def hpOf (w : World) : Hp:=fun b=>w.heap[b]?
def emp : HP:=fun h=>∀b,h b = none
def pts (b : Nat) (o : Obj) : HP:=fun h=>h b = some o /\ ∀c,c≠b -> h c = none
def sep (P Q : HP) : HP:=fun h=>∃h1 h2 : Hp,(∀b,(h1 b = none /\ h2 b = h b) \/ (h2 b = none /\ h1 b = h b)) /\ P h1 /\ Q h2
def star : List HP -> HP
 | []=>emp
 | P::l=>sep P (star l)
def exi {α : Type} (P : α -> HP) : HP:=fun h=>∃x,P x h
def fact (p : Prop) : HP:=fun h=>p /\ emp h
def own (w : World) (l : List HP) : Prop:=∃h : Hp,(∀b,h b = none \/ h b = hpOf w b) /\ star l h
theorem zX {P Q P' Q' : HP} {h : Hp} (hp : ∀h,P h -> P' h) (hq : ∀h,Q h -> Q' h) (H : sep P Q h) : sep P' Q' h:=
 let ⟨h1,h2,a,b,c⟩:=H; ⟨h1,h2,a,hp _ b,hq _ c⟩
theorem BG {P Q : HP} {h : Hp} (H : sep P Q h) : sep Q P h:=
 let ⟨h1,h2,a,b,c⟩:=H; ⟨h2,h1,fun x=>(a x).symm,c,b⟩
theorem GY {P Q R : HP} {h : Hp} (H : sep (sep P Q) R h) : sep P (sep Q R) h:=by
 obtain ⟨h12,h3,a,⟨h1,h2,b,p,q⟩,r⟩:=H
 refine ⟨h1,fun x=>(h2 x).orElse fun _=>h3 x,fun x=>?_,p,h2,h3,fun x=>?_,q,r⟩
 ·rcases a x with ⟨a1,a2⟩ | ⟨a1,a2⟩ <;> rcases b x with ⟨b1,b2⟩ | ⟨b1,b2⟩ <;> simp_all
 ·rcases a x with ⟨a1,a2⟩ | ⟨a1,a2⟩ <;> rcases b x with ⟨b1,b2⟩ | ⟨b1,b2⟩ <;> cases e2 : h2 x <;> simp_all
theorem Mw {P : HP} {h : Hp} (H : sep emp P h) : P h:=by
 obtain ⟨h1,h2,a,b,c⟩:=H
 have : h2 = h:=funext fun x=>by rcases a x with ⟨_,y⟩ | ⟨y,z⟩; exact y; rw [y,<- z,b x]
 exact this ▸ c
theorem KW {P : HP} {h : Hp} (H : P h) : sep emp P h:=⟨fun _=>none,h,fun _=>.inl ⟨rfl,rfl⟩,fun _=>rfl,H⟩
theorem JB {P Q R : HP} {h : Hp} (H : sep P (sep Q R) h) : sep Q (sep P R) h:=by
 have h1:=BG H
 have h2:=GY h1
 exact zX (fun _ h=>h) (fun _ h=>BG h) h2
theorem Fn {l m : List HP} {h : Hp} (H : sep (star l) (star m) h) : star (l++m) h:=by
 induction l generalizing h with
 | nil=>exact Mw H
 | cons P l ih=>exact zX (fun _ h=>h) (fun _ h=>ih h) (GY H)
theorem IP {l m : List HP} {h : Hp} (H : star (l++m) h) : sep (star l) (star m) h:=by
 induction l generalizing h with
 | nil=>exact KW H
 | cons P l ih=>
  have h1:=zX (fun _ h=>h) (fun _ h=>ih h) H
  obtain ⟨ha,hb,a,b,hc,hd,c,d,e⟩:=h1
  have:=BG (GY (BG (P:=P) (Q:=sep (star l) (star m)) (h:=h) ⟨ha,hb,a,b,hc,hd,c,d,e⟩ |> zX (fun _ h=>BG h) (fun _ h=>h)))
  exact zX (fun _ h=>BG h) (fun _ h=>h) (BG (zX (fun _ h=>h) (fun _ h=>h) (BG this)))
theorem DS {l : List HP} (k : Nat) {P : HP} {h : Hp} (hk : l[k]? = some P) (H : star l h) : star (P::l.eraseIdx k) h:=by
 induction l generalizing k h with
 | nil=>simp at hk
 | cons Q l ih=>
  cases k with
  | zero=>simp at hk; subst hk; exact H
  | succ k=>
   simp only [List.getElem?_cons_succ] at hk
   exact JB (zX (fun _ h=>h) (fun _ h=>ih k hk h) H)
theorem Bw {l : List HP} (k : Nat) {P : HP} {h : Hp} (hk : l[k]? = some P) (H : star (P::l.eraseIdx k) h) : star l h:=by
 induction l generalizing k h with
 | nil=>simp at hk
 | cons Q l ih=>
  cases k with
  | zero=>simp at hk; subst hk; exact H
  | succ k=>
   simp only [List.getElem?_cons_succ] at hk
   exact zX (fun _ h=>h) (fun _ h=>ih k hk h) (JB H)
theorem G8 {l m : List HP} (p : l.Perm m) {h : Hp} (H : star l h) : star m h:=by
 induction p generalizing h with
 | nil=>exact H
 | cons x _ ih=>exact zX (fun _ h=>h) (fun _ h=>ih h) H
 | swap x y l=>exact JB H
 | trans _ _ ih1 ih2=>exact ih2 (ih1 H)
theorem Xk {w : World} {b : Nat} {o : Obj} (h : hpOf w b = some o) : b < w.heap.size:=by
 rcases Nat.lt_or_ge b w.heap.size with h' | h'
 ·exact h'
 ·simp [hpOf,Array.getElem?_eq_none h'] at h
theorem V1 {P Q : HP} {h : Hp} {b : Nat} {o : Obj} (H : sep P Q h) (hp : ∀h,P h -> h b = some o) : h b = some o:=by
 obtain ⟨h1,h2,a,p,q⟩:=H
 have e:=hp _ p
 rcases a b with ⟨x,y⟩ | ⟨x,y⟩
 ·rw [e] at x; cases x
 ·rw [<- y,e]
theorem CT {w : World} {l : List HP} (k : Nat) {b : Nat} {o : Obj} (H : own w l) (hk : l[k]? = some (pts b o)) : w.heap[b]? = some o:=by
 obtain ⟨h,hs,H⟩:=H
 have e:=V1 (DS k hk H) fun _ h=>h.1
 rcases hs b with x | x
 ·rw [e] at x; cases x
 ·rw [e] at x; exact x.symm
theorem ld {w : World} {l : List HP} (k : Nat) {b : Nat} {arr : Array Value} {T : TypeId} (H : own w l) (hk : l[k]? = some (pts b (.cells arr T (0,0)))) :
  (∀o,w.cell? ⟨b,o,none⟩ = arr[o]?) /\ (∀o,w.frozen? ⟨b,o,none⟩ = false):=by
 have h:=CT k H hk
 exact ⟨fun o=>by simp [World.cell?,h],fun o=>by simp [World.frozen?,h]⟩
theorem W5 {b : Nat} {o o' : Obj} {Q : HP} {h : Hp} (H : sep (pts b o) Q h) : sep (pts b o') Q (fun c=>if c = b then some o' else h c):=by
 obtain ⟨h1,h2,a,p,q⟩:=H
 refine ⟨fun c=>if c = b then some o' else none,h2,fun c=>?_,⟨by simp,fun c hc=>by simp [hc]⟩,q⟩
 by_cases hc : c = b
 ·subst hc
  rcases a c with ⟨x,y⟩ | ⟨x,y⟩
  ·rw [p.1] at x; cases x
  ·exact .inr ⟨x,by simp⟩
 ·rcases a c with ⟨x,y⟩ | ⟨x,y⟩
  ·exact .inl ⟨by simp [hc],by simp [hc,y]⟩
  ·exact .inl ⟨by simp [hc],by simp [hc]; rw [x,<- y,p.2 c hc]⟩
theorem Wn {l : List HP} (k : Nat) {b : Nat} {o o' : Obj} {h : Hp} (H : star l h) (hk : l[k]? = some (pts b o)) : star (l.set k (pts b o')) (fun c=>if c = b then some o' else h c):=by
 have h1:=W5 (o':=o') (DS k hk H)
 refine Bw k (P:=pts b o') ?_ ?_
 ·have:=(zS.1 hk).1
  simp [this]
 ·have e : (l.set k (pts b o')).eraseIdx k = l.eraseIdx k:=by
   rw [List.eraseIdx_set_eq]
  rw [e]; exact h1
theorem QJ {w : World} {b i : Nat} {v : Value} {arr : Array Value} {T : TypeId} {fr : Nat×Nat} (h : w.heap[b]? = some (.cells arr T fr)) :
  hpOf (w.setCell ⟨b,i,none⟩ v) = fun c=>if c = b then some (.cells (arr.setIfInBounds i v) T fr) else hpOf w c:=by
 funext c
 simp only [hpOf,World.setCell,Array.getElem?_modify]
 by_cases hc : c = b
 ·subst hc; simp [h]
 ·have hc' : ¬b = c:=fun e=>hc e.symm
  simp [hc,hc']
theorem Eh {w w' : World} {l : List HP} (k : Nat) {b : Nat} {o o' : Obj} (H : own w l) (hk : l[k]? = some (pts b o)) (hw : hpOf w' = fun c=>if c = b then some o' else hpOf w c) :
  own w' (l.set k (pts b o')):=by
 obtain ⟨h,hs,H⟩:=H
 refine ⟨_,fun c=>?_,Wn k (o':=o') H hk⟩
 rw [hw]
 by_cases hc : c = b
 ·simp [hc]
 ·simp only [hc,if_false]; exact hs c
theorem lp {w : World} {l : List HP} (k : Nat) {b i : Nat} {v : Value} {arr : Array Value} {T : TypeId} {fr : Nat×Nat} (H : own w l) (hk : l[k]? = some (pts b (.cells arr T fr))) :
  own (w.setCell ⟨b,i,none⟩ v) (l.set k (pts b (.cells (arr.setIfInBounds i v) T fr))):=
 Eh k H hk (QJ (CT k H hk))
theorem Vu (w : World) (o : Obj) : hpOf (w.alloc o) = fun c=>if c = w.heap.size then some o else hpOf w c:=by
 funext c
 show (w.heap.push o)[c]? = _
 rw [Array.getElem?_push]; rfl
theorem lh {w : World} {l : List HP} (H : own w l) (o : Obj) : own (w.alloc o) (pts w.heap.size o::l):=by
 obtain ⟨h,hs,H⟩:=H
 have hn : h w.heap.size = none:=by
  rcases hs w.heap.size with x | x
  ·exact x
  ·rw [x]; simp [hpOf]
 refine ⟨fun c=>if c = w.heap.size then some o else h c,fun c=>?_,fun c=>if c = w.heap.size then some o else none,h,fun c=>?_,⟨by simp,fun c hc=>by simp [hc]⟩,H⟩
 ·rw [Vu]
  by_cases hc : c = w.heap.size
  ·simp [hc]
  ·simp only [hc,if_false]; exact hs c
 ·by_cases hc : c = w.heap.size
  ·subst hc; exact .inr ⟨hn,by simp⟩
  ·exact .inl ⟨by simp [hc],by simp [hc]⟩
theorem ln {w : World} {l : List HP} (H : own w l) : own w.drew l:=H
theorem lI {w : World} {l : List HP} (n : Nat) (H : own w l) : own (w.drewN n) l:=H
structure Ext (w w' : World) : Prop where
 os : w'.os = w.os
 tape : w'.tape = w.tape
 output : w'.output = w.output
 size : w.heap.size <= w'.heap.size
theorem Ext.refl (w : World) : Ext w w:=⟨rfl,rfl,rfl,Nat.le_refl _⟩
theorem zR (w : World) : Ext w w:=Ext.refl w
theorem Ext.trans {a b c : World} (h : Ext a b) (k : Ext b c) : Ext a c:=⟨k.os.trans h.os,k.tape.trans h.tape,k.output.trans h.output,Nat.le_trans h.size k.size⟩
theorem Ext.setCell {a w : World} (h : Ext a w) (p : Addr) (v : Value) : Ext a (w.setCell p v):=h.trans ⟨rfl,rfl,rfl,by simp [World.setCell]⟩
theorem Ext.alloc {a w : World} (h : Ext a w) (o : Obj) : Ext a (w.alloc o):=h.trans ⟨rfl,rfl,rfl,by simp⟩
theorem Ext.drew {a w : World} (h : Ext a w) : Ext a w.drew:=h.trans ⟨rfl,rfl,rfl,Nat.le_refl _⟩
theorem Ext.drewN {a w : World} (n : Nat) (h : Ext a w) : Ext a (w.drewN n):=h.trans ⟨rfl,rfl,rfl,Nat.le_refl _⟩
def oX (w : World) : HP:=fun h=>h = hpOf w
theorem EZ (w : World) : own w [oX w]:=
 ⟨hpOf w,fun _=>.inr rfl,hpOf w,fun _=>none,fun b=>.inr ⟨rfl,rfl⟩,rfl,fun _=>rfl⟩
theorem Qe {w w' : World} {l : List HP} (k : Nat) (H : own w' l) (hk : l[k]? = some (oX w)) : ∀b,b < w.heap.size -> w'.heap[b]? = w.heap[b]?:=by
 intro b hb
 obtain ⟨h,hs,H⟩:=H
 obtain ⟨h1,h2,a,p,_⟩:=DS k hk H
 have hb1 : h1 b≠none:=by rw [p]; simp [hpOf,hb]
 have e : h b = hpOf w b:=by
  rcases a b with ⟨x,y⟩ | ⟨x,y⟩
  ·exact (hb1 x).elim
  ·rw [p] at y; exact y.symm
 have hn : h b≠none:=by rw [e]; simp [hpOf,hb]
 rcases hs b with x | x
 ·exact (hn x).elim
 ·exact (x.symm.trans e)
theorem Di {w w' : World} {l : List HP} (k : Nat) (H : own w' l) (hk : l[k]? = some (oX w)) (e : Ext w w') : Below w.heap.size w w':=
 ⟨e.os,e.tape,e.output,e.size,Qe k H hk⟩
theorem y7 {w : World} {l m : List HP} (hl : ∀h,star l h -> star m h) (H : own w l) : own w m:=
 let ⟨h,hs,H⟩:=H; ⟨h,hs,hl _ H⟩
theorem lE {w : World} {l : List HP} (k : Nat) {P : HP} (H : own w l) (hk : l[k]? = some P) : own w (P::l.eraseIdx k):=y7 (fun _=>DS k hk) H
theorem lg {w : World} {P : HP} {l : List HP} (H : own w (P::l)) : own w l:=by
 obtain ⟨h,hs,h1,h2,a,_,q⟩:=H
 refine ⟨h2,fun b=>?_,q⟩
 rcases a b with ⟨_,y⟩ | ⟨y,_⟩
 ·rw [y]; exact hs b
 ·exact .inl y
theorem li {w : World} {l : List HP} (k : Nat) {P : HP} (H : own w l) (hk : l[k]? = some P) : own w (l.eraseIdx k):=lg (lE k H hk)
theorem FO {w : World} {l : List HP} (k : Nat) {P Q : HP} (hP : ∀h,P h -> Q h) (H : own w l) (hk : l[k]? = some P) : own w (l.set k Q):=by
 have h1:=lE k H hk
 have h2 : own w (Q::l.eraseIdx k):=y7 (l:=P::l.eraseIdx k) (fun _ h=>zX hP (fun _ h=>h) h) h1
 refine y7 (fun h hh=>Bw k (P:=Q) ?_ ?_) h2
 ·have:=(zS.1 hk).1
  simp [this]
 ·rw [List.eraseIdx_set_eq]; exact hh
theorem JO {w : World} {l : List HP} (k : Nat) {P : HP} {α : Sort _} {L : α -> List HP} (H : own w l) (hk : l[k]? = some P) (hP : ∀h,P h -> ∃x,star (L x) h) : ∃x,own w (L x++l.eraseIdx k):=by
 obtain ⟨h,hs,h1,h2,a,p,q⟩:=lE k H hk
 obtain ⟨x,hx⟩:=hP _ p
 exact ⟨x,h,hs,Fn ⟨h1,h2,a,hx,q⟩⟩
theorem Is {w : World} (l : List HP) {m : List HP} {P : HP} (hP : ∀h,star l h -> P h) (H : own w (l++m)) : own w (P::m):=
 y7 (fun _ h=>zX hP (fun _ h=>h) (IP h)) H
theorem oT {w w0 : World} {l : List HP} (_H0 : own w0 l) (k : Nat) {P Q : HP} (hk : l[k]? = some P) (H : own w (Q::l.eraseIdx k)) : own w (l.set k Q):=by
 refine y7 (fun h hh=>Bw k (P:=Q) ?_ ?_) H
 ·have:=(zS.1 hk).1
  simp [this]
 ·rw [List.eraseIdx_set_eq]; exact hh
theorem PD {w : World} {l : List HP} {p : Prop} (hp : p) (H : own w l) : own w (fact p::l):=
 y7 (fun h hh=>⟨fun _=>none,h,fun _=>.inl ⟨rfl,rfl⟩,⟨hp,fun _=>rfl⟩,hh⟩) H
theorem V3 {w : World} {l : List HP} (k : Nat) {p : Prop} (H : own w l) (hk : l[k]? = some (fact p)) : p:=by
 obtain ⟨h,_,h1,_,_,a,_⟩:=lE k H hk
 exact a.1
theorem Ju {w : World} {l m : List HP} (H : own w (star l::m)) : own w (l++m):=
 y7 (l:=star l::m) (fun _ h=>Fn h) H
theorem AV {w : World} (l : List HP) {m : List HP} (H : own w (l++m)) : own w (star l::m):=
 y7 (fun _ h=>IP h) H
def Rd (h : Hp) (a : Addr) (v : Value) : Prop:=a.spot = none /\ ∃c e f,h a.block = some (.cells c e f) /\ c[a.off]? = some v
theorem QP {w : World} {a : Addr} {v : Value} (h : Rd (hpOf w) a v) : w.cell? a = some v:=by
 obtain ⟨hs,c,e,f,hb,hc⟩:=h
 have hb' : w.heap[a.block]? = some (.cells c e f):=hb
 simp [World.cell?,hb',hs,hc]
theorem S3 {w : World} {a : Addr} {v : Value} (h : w.cell? a = some v) : Rd (hpOf w) a v:=by
 unfold World.cell? at h
 split at h
 ·rename_i c e f hb
  split at h
  ·cases h
  ·rename_i hs
   refine ⟨by cases hx : a.spot <;> simp_all,c,e,f,hb,h⟩
 ·cases h
theorem yI {w w' : World} {l : List HP} (k : Nat) (H : own w' l) (hk : l[k]? = some (oX w)) {a : Addr} {v : Value} (h : w.cell? a = some v) : w'.cell? a = some v:=by
 obtain ⟨hs,c,e,f,hb,hc⟩:=S3 h
 have hlt:=Xk hb
 exact QP ⟨hs,c,e,f,(Qe k H hk _ hlt).trans hb,hc⟩
def row (e : TypeId) (sz : Nat) (v : Value) (n : Nat) (xs : List Value) : HP:=fun h=>
 xs.length = n * sz /\ ((v = .slice none 0 0 /\ n = 0 /\ emp h) \/
  ∃g cap cur,v = .slice (some ⟨g,0,none⟩) n cap /\ n <= cap /\ cap <= maxLen /\ cur.size = cap * sz /\ cur.toList.take (n * sz) = xs /\ pts g (.cells cur e (0,0)) h)
theorem W3 (e : TypeId) (sz : Nat) {h : Hp} (hh : emp h) : row e sz (.slice none 0 0) 0 [] h:=⟨by simp,.inl ⟨rfl,rfl,hh⟩⟩
theorem lF {w : World} {L : List HP} (e : TypeId) (sz : Nat) (H : own w L) : own w (row e sz (.slice none 0 0) 0 []::L):=
 y7 (l:=L) (fun h hh=>⟨fun _=>none,h,fun _=>.inl ⟨rfl,rfl⟩,W3 e sz (fun _=>rfl),hh⟩) H
theorem zr {w : World} {L : List HP} (k : Nat) {g cap n sz : Nat} {cur : Array Value} {e : TypeId} {xs : List Value} (H : own w L) (hk : L[k]? = some (pts g (.cells cur e (0,0))))
  (hn : n <= cap) (hc : cap <= maxLen) (hs : cur.size = cap * sz) (ht : cur.toList.take (n * sz) = xs) : own w (L.set k (row e sz (.slice (some ⟨g,0,none⟩) n cap) n xs)):=by
 refine FO k (fun h hh=>⟨?_,.inr ⟨g,cap,cur,rfl,hn,hc,hs,ht,hh⟩⟩) H hk
 rw [<- ht,List.length_take,Array.length_toList,hs]
 exact Nat.min_eq_left (Nat.mul_le_mul_right _ hn)
theorem Ek {w : World} {L : List HP} (k : Nat) {e : TypeId} {sz : Nat} {v : Value} {n : Nat} {xs : List Value} (H : own w L) (hk : L[k]? = some (row e sz v n xs)) :
  xs.length = n * sz /\ ((v = .slice none 0 0 /\ n = 0) \/
  ∃g cap cur,v = .slice (some ⟨g,0,none⟩) n cap /\ n <= cap /\ cap <= maxLen /\ cur.size = cap * sz /\ cur.toList.take (n * sz) = xs /\ own w (L.set k (pts g (.cells cur e (0,0))))):=by
 obtain ⟨h,hs,h1,h2,a,⟨hl,p⟩,q⟩:=lE k H hk
 refine ⟨hl,?_⟩
 rcases p with ⟨rfl,rfl,_⟩ | ⟨g,cap,cur,rfl,c1,c2,c3,c4,c5⟩
 ·exact .inl ⟨rfl,rfl⟩
 ·exact .inr ⟨g,cap,cur,rfl,c1,c2,c3,c4,oT H k hk ⟨h,hs,h1,h2,a,c5,q⟩⟩
theorem lm {w : World} {L : List HP} (k : Nat) {e : TypeId} {sz : Nat} {v : Value} {n : Nat} {xs : List Value} (H : own w L) (hk : L[k]? = some (row e sz v n xs)) :
  ∃ao g cap,v = .slice ao n cap /\ n <= cap /\ cap <= maxLen /\ (0 < n -> ao = some ⟨g,0,none⟩) /\ (ao = none -> n = 0 /\ cap = 0) /\ (∀x,ao = some x -> x = ⟨g,0,none⟩) /\
   (∀j u,xs[j]? = some u -> w.cell? ⟨g,j,none⟩ = some u) /\ (ao≠none -> ∀j,w.frozen? ⟨g,j,none⟩ = false):=by
 obtain ⟨hl,⟨rfl,rfl⟩ | ⟨g,cap,cur,rfl,h1,h2,h3,h4,h5⟩⟩:=Ek k H hk
 ·have hx : xs = []:=List.eq_nil_of_length_eq_zero (by simpa using hl)
  subst hx
  exact ⟨none,0,0,rfl,Nat.le_refl _,by simp [maxLen],fun h=>absurd h (by simp),fun _=>⟨rfl,rfl⟩,(fun x h=>by cases h),(fun j u h=>by simp at h),fun h=>absurd rfl h⟩
 ·have hk' : (L.set k (pts g (.cells cur e (0,0))))[k]? = some (pts g (.cells cur e (0,0))):=by
   have:=(zS.1 hk).1
   simp [this]
  obtain ⟨hc,hf⟩:=ld k h5 hk'
  refine ⟨_,g,cap,rfl,h1,h2,fun _=>rfl,(fun h=>by cases h),(fun x h=>by cases h; rfl),fun j u hu=>?_,fun _=>hf⟩
  rw [hc,<- Array.getElem?_toList]
  rw [<- h4,List.getElem?_take] at hu
  split at hu
  ·exact hu
  ·cases hu
theorem Gy {w w' : World} {L : List HP} (H : own w L) (hb : Below w.heap.size w w') : own w' L:=by
 obtain ⟨h,hs,H⟩:=H
 refine ⟨h,fun b=>?_,H⟩
 rcases hs b with x | x
 ·exact .inl x
 ·by_cases hlt : b < w.heap.size
  ·exact .inr (by rw [x]; exact (hb.block b hlt).symm)
  ·left; rw [x]; simp [hpOf]; omega
theorem GK {w w' : World} (hb : Below w.heap.size w w') : Ext w w':=⟨hb.os,hb.tape,hb.output,hb.size⟩
theorem Xh {w w' : World} {L : List HP} {o : Obj} (H : own w L) (hold : ∀b,b < w.heap.size -> w'.heap[b]? = w.heap[b]?) (hnew : w'.heap[w.heap.size]? = some o) : own w' (pts w.heap.size o::L):=by
 obtain ⟨h,hs,H⟩:=H
 have hn : h w.heap.size = none:=by
  rcases hs w.heap.size with x | x
  ·exact x
  ·rw [x]; simp [hpOf]
 refine ⟨fun c=>if c = w.heap.size then some o else h c,fun c=>?_,fun c=>if c = w.heap.size then some o else none,h,fun c=>?_,⟨by simp,fun c hc=>by simp [hc]⟩,H⟩
 ·by_cases hc : c = w.heap.size
  ·subst hc; simp [hpOf,hnew]
  ·simp only [hc,if_false]
   rcases hs c with x | x
   ·exact .inl x
   ·by_cases hlt : c < w.heap.size
    ·exact .inr (by rw [x]; exact (hold c hlt).symm)
    ·left; rw [x]; simp [hpOf]; omega
 ·by_cases hc : c = w.heap.size
  ·subst hc; exact .inr ⟨hn,by simp⟩
  ·exact .inl ⟨by simp [hc],by simp [hc]⟩
def Elem (P : Program) (e : TypeId) (sz bytes : Nat) (z : Value) : Prop:=(P.info? e).map (fun i=>(i.zero,i.size,i.bytes)) = some (some z,sz,bytes)
section
variable {P : Program}
theorem Lo {w : World} {L : List HP} (k : Nat) (t ty e : TypeId) {sz bytes : Nat} {z : Value} (ht : P.underlying t = some (.slice e)) (he : Elem P e sz bytes z) (hzs : z.cells.size = sz) (hsz : 0 < sz)
  {v : Value} {n : Nat} {xs : List Value} (H : own w L) (hk : L[k]? = some (row e sz v n xs))
  (ao : Option Addr) (m c : Nat) (news : List Value) (hl : news.length = m * sz) (hnews : ∀ad,ao = some ad -> ∀j u,news[j]? = some u -> w.cell? (ad.add j) = some u) (hnone : ao = none -> m = 0) (h1 : ∀u∈news,u.oneCell' = true)
  (h63 : n + m <= maxLen) (hbytes : (n + m) * bytes <= 140737488355328) :
  ∃v' w',(Builtin.append_ #[t,t] ty #[v,.slice ao m c]).run P w = .ok v' w' /\ own w' (L.set k (row e sz v' (n + m) (xs++news))) /\ Ext w w':=by
 obtain ⟨i,hi,hz,rfl,rfl⟩:=info_parts he
 obtain ⟨hlen,hv⟩:=Ek k H hk
 have hkl : k < L.length:=(zS.1 hk).1
 have hlen' : (xs++news).length = (n + m) * i.size:=by rw [List.length_append,hlen,hl,Nat.add_mul]
 have h63' : n + m <= 9223372036854775807:=by simp only [maxLen] at h63; omega
 have grown : ∀(old : Nat),old < n + m -> own (w.drew.alloc (.cells (xs.toArray++news.toArray++Builtin.zeroCells z.cells (grownCap w (n + m) old e - (n + m))) e))
   (L.set k (row e i.size (.slice (some ⟨w.heap.size,0,none⟩) (n + m) (grownCap w (n + m) old e)) (n + m) (xs++news))):=by
  intro old _
  have hge:=grownCap_ge w (n + m) old e
  have hcm:=grownCap_le_maxLen w (n + m) old e h63
  have h2:=lh (li k (ln H) hk) (.cells (xs.toArray++news.toArray++Builtin.zeroCells z.cells (grownCap w (n + m) old e - (n + m))) e)
  have h3:=zr 0 (n:=n + m) (cap:=grownCap w (n + m) old e) (sz:=i.size) (xs:=xs++news) h2 rfl hge hcm (by
   simp only [Array.size_append,List.size_toArray,size_zeroCells,hzs,hlen,hl,<- Nat.add_mul]
   congr 1
   omega) (by
   simp only [Array.toList_append,zp]
   rw [<- zp,<- hlen']
   exact List.take_left)
  exact oT H k hk h3
 cases ao with
 | none=>
  obtain rfl:=hnone rfl
  have hn : news = []:=List.eq_nil_of_length_eq_zero (by simpa using hl)
  subst hn
  have hset : own w (L.set k (row e i.size v (n + 0) (xs++[]))):=by
   rw [Nat.add_zero,List.append_nil]
   exact oT H k hk (lE k H hk)
  refine ⟨v,w,?_,hset,zR _⟩
  rcases hv with ⟨rfl,rfl⟩ | ⟨g,cap,cur,rfl,c1,c2,c3,c4,c5⟩
  ·simp [Builtin.append_,run_underlying ht,sizeOf,typeInfo,hi,Builtin.lenOf,Builtin.firstCells]
  ·simp [Builtin.append_,run_underlying ht,sizeOf,typeInfo,hi,Builtin.lenOf,Builtin.firstCells,c1,storeCells]
 | some a=>
  have hnews':=hnews a rfl
  rcases hv with ⟨rfl,rfl⟩ | ⟨g,cap,cur,rfl,c1,c2,c3,c4,c5⟩
  ·have hx : xs = []:=List.eq_nil_of_length_eq_zero (by simpa using hlen)
   subst hx
   by_cases hm : m = 0
   ·subst hm
    have hn : news = []:=List.eq_nil_of_length_eq_zero (by simpa using hl)
    subst hn
    refine ⟨.slice none 0 0,w,?_,oT H k hk (lE k H hk),zR _⟩
    simp [Builtin.append_,run_underlying ht,sizeOf,typeInfo,hi,Builtin.lenOf,Builtin.firstCells,loadCells,loadCellsFrom]
   ·have hr:=run_append_nil (P:=P) w t ty e i z ht hi hz a m c news hl hnews' (by omega) (by omega) (by have hb:=hbytes; simp only [Nat.zero_add] at hb; omega)
    have hg:=grown 0 (by omega)
    simp only [Nat.zero_add,List.nil_append,Array.empty_append] at hg ⊢
    exact ⟨_,_,hr,hg,(zR _).drew.alloc _⟩
  ·have hk' : (L.set k (pts g (.cells cur e (0,0))))[k]? = some (pts g (.cells cur e (0,0))):=by simp [hkl]
   have hg:=CT k c5 hk'
   by_cases hroom : n + m <= cap
   ·have hfit : n * i.size + news.length <= cur.size:=by rw [hl,c3,<- Nat.add_mul]; exact Nat.mul_le_mul_right _ hroom
    have hr:=run_append_room (P:=P) w t ty e i ht hi g n cap cur hg a m c news hl hnews' h1 hroom hfit
    refine ⟨_,_,hr,?_,⟨rfl,rfl,rfl,by simp [World.setRow]⟩⟩
    have hu : own (w.setRow g (cur.toList.take (n * i.size)++news++cur.toList.drop (n * i.size + news.length)).toArray) _:=Eh k (o':=.cells (cur.toList.take (n * i.size)++news++cur.toList.drop (n * i.size + news.length)).toArray e (0,0)) c5 hk' (by
     funext x
     by_cases hx : x = g
     ·subst hx; simp only [if_true]; exact setRow_heap w x cur _ e _ hg
     ·simp only [hx,if_false]; exact setRow_other w g x _ hx)
    have hk2 : ((L.set k (pts g (.cells cur e (0,0)))).set k (pts g (.cells (cur.toList.take (n * i.size)++news++cur.toList.drop (n * i.size + news.length)).toArray e (0,0))))[k]? =
      some (pts g (.cells (cur.toList.take (n * i.size)++news++cur.toList.drop (n * i.size + news.length)).toArray e (0,0))):=by simp [hkl]
    have h3:=zr k (n:=n + m) (cap:=cap) (sz:=i.size) (xs:=xs++news) hu hk2 hroom c2 (by
     simp only [List.size_toArray,List.length_append,List.length_take,List.length_drop,Array.length_toList]
     omega) (by
     rw [c4,<- hlen']
     exact List.take_left)
    simpa only [List.set_set] using h3
   ·have holds : ∀j u,xs[j]? = some u -> w.cell? ((⟨g,0,none⟩ : Addr).add j) = some u:=fun j u hu=>by
     have hadd : (⟨g,0,none⟩ : Addr).add j = ⟨g,j,none⟩:=by unfold Addr.add; split <;> simp_all
     rw [hadd,(ld k c5 hk').1,<- Array.getElem?_toList]
     rw [<- c4,List.getElem?_take] at hu
     split at hu
     ·exact hu
     ·cases hu
    have hr:=run_append_grow (P:=P) w t ty e i z ht hi hz ⟨g,0,none⟩ n cap xs hlen holds a m c news hl hnews' (by omega) (by omega) (growslice_fits (by omega) hbytes)
    exact ⟨_,_,hr,grown cap (by omega),(zR _).drew.alloc _⟩
theorem Gj {w : World} {L : List HP} {o : Oper} {a : Act} {K : Act -> World -> Prop} {Q : Exit -> Act -> World -> Prop} (s x : Operand) (t : TypeId)
  (ho : o.op = .call { callee:=.builtin .append,args:=#[s,x],argTypes:=#[t,t] })
  (k : Nat) (e : TypeId) {sz bytes : Nat} {z : Value} (ht : P.underlying t = some (.slice e)) (he : Elem P e sz bytes z) (hzs : z.cells.size = sz) (hsz : 0 < sz)
  {v : Value} {n : Nat} {xs : List Value} (hs : a.eval s = v) (H : own w L) (hk : L[k]? = some (row e sz v n xs))
  (ao : Option Addr) (m c : Nat) (news : List Value) (hx : a.eval x = .slice ao m c) (hl : news.length = m * sz) (hnews : ∀ad,ao = some ad -> ∀j u,news[j]? = some u -> w.cell? (ad.add j) = some u) (hnone : ao = none -> m = 0) (h1 : ∀u∈news,u.oneCell' = true)
  (h63 : n + m <= maxLen) (hbytes : (n + m) * bytes <= 140737488355328)
  (h : ∀v' w',own w' (L.set k (row e sz v' (n + m) (xs++news))) -> Ext w w' -> K (a.put o.dst v') w') : o.wp P a w K Q:=by
 obtain ⟨v',w',hr,h2,h3⟩:=Lo (P:=P) k t o.type e ht he hzs hsz H hk ao m c news hl hnews hnone h1 h63 hbytes
 unfold Oper.wp execOp
 simp only [ho,resolve,invoke,builtin,Sem.run_bind,Sem.run_pure,Result.andThen_ok,List.map_toArray,List.map_cons,List.map_nil,hs,hx,hr]
 exact h v' w' h2 h3
theorem lX {w : World} {L : List HP} {ops : Array Oper} {rest : List Oper} {o : Oper} {a : Act} {Q : Exit -> Act -> World -> Prop} (hgd : o.guard = none) (s x : Operand) (t : TypeId)
  (ho : o.op = .call { callee:=.builtin .append,args:=#[s,x],argTypes:=#[t,t] })
  (k : Nat) (e : TypeId) {sz bytes : Nat} {z : Value} (ht : P.underlying t = some (.slice e)) (he : Elem P e sz bytes z) (hzs : z.cells.size = sz) (hsz : 0 < sz)
  {v : Value} {n : Nat} {xs : List Value} (hs : a.eval s = v) (H : own w L) (hk : L[k]? = some (row e sz v n xs))
  (ao : Option Addr) (m c : Nat) (news : List Value) (hx : a.eval x = .slice ao m c) (hl : news.length = m * sz) (hnews : ∀ad,ao = some ad -> ∀j u,news[j]? = some u -> w.cell? (ad.add j) = some u) (hnone : ao = none -> m = 0) (h1 : ∀u∈news,u.oneCell' = true)
  (h63 : n + m <= maxLen) (hbytes : (n + m) * bytes <= 140737488355328)
  (h : ∀v' w',own w' (L.set k (row e sz v' (n + m) (xs++news))) -> Ext w w' -> wpList P ops Q rest (a.put o.dst v') w') : wpList P ops Q (o::rest) a w:=
 wpList_plain hgd fun _ hK=>Gj s x t ho k e ht he hzs hsz hs H hk ao m c news hx hl hnews hnone h1 h63 hbytes fun v' w' h2 h3=>hK _ _ (h v' w' h2 h3)
theorem Af {w : World} {L : List HP} {ops : Array Oper} {o : Oper} {a : Act} {K : Act -> World -> Prop} {Q : Exit -> Act -> World -> Prop} {E : Prop} (hgd : o.guard = none) (s x : Operand) (t : TypeId)
  (ho : o.op = .call { callee:=.builtin .append,args:=#[s,x],argTypes:=#[t,t] })
  (k : Nat) (e : TypeId) {sz bytes : Nat} {z : Value} (ht : P.underlying t = some (.slice e)) (he : Elem P e sz bytes z) (hzs : z.cells.size = sz) (hsz : 0 < sz)
  {v : Value} {n : Nat} {xs : List Value} (hs : a.eval s = v) (H : own w L) (hk : L[k]? = some (row e sz v n xs))
  (ao : Option Addr) (m c : Nat) (news : List Value) (hx : a.eval x = .slice ao m c) (hl : news.length = m * sz) (hnews : ∀ad,ao = some ad -> ∀j u,news[j]? = some u -> w.cell? (ad.add j) = some u) (hnone : ao = none -> m = 0) (h1 : ∀u∈news,u.oneCell' = true)
  (h63 : n + m <= maxLen) (hbytes : (n + m) * bytes <= 140737488355328)
  (h : ∀v' w',own w' (L.set k (row e sz v' (n + m) (xs++news))) -> Ext w w' -> K (a.put o.dst v') w') : if Region.wanted o (yielded ops a.tmps) = true then Oper.wp P o a w K Q else E:=by
 rw [zt (by simp [Region.wanted,hgd])]
 exact Gj s x t ho k e ht he hzs hsz hs H hk ao m c news hx hl hnews hnone h1 h63 hbytes h
theorem CO {w : World} {L : List HP} {ops : Array Oper} {rest : List Oper} {o : Oper} {a : Act} {Q : Exit -> Act -> World -> Prop}
  (hg : o.guard = none) (l c : Operand) (t : TypeId) (hop : o.op = Op.makeSlice t l c)
  (e : TypeId) {sz bytes : Nat} {z : Value} (ht : P.underlying t = some (.slice e)) (he : Elem P e sz bytes z) (hzs : z.cells.size = sz)
  (kl kc : IntKind) (n : Nat) (hl : a.eval l = .int kl (n : Int)) (hc : a.eval c = .int kc (n : Int)) (b2 : bytes * n <= 281474976710656) (b3 : n <= maxLen) (H : own w L)
  (hK : ∀w',own w' (row e sz (.slice (some ⟨w.heap.size,0,none⟩) n n) n (madeCells z.cells (n * sz)).toList::L) -> Ext w w' -> wpList P ops Q rest (a.put o.dst (.slice (some ⟨w.heap.size,0,none⟩) n n)) w') :
  wpList P ops Q (o::rest) a w:=by
 obtain ⟨i,hi,hz,rfl,rfl⟩:=info_parts he
 refine wpList_make_full w hg l c t hop w.heap.size e i z i.size ht hi hz rfl kl kc _ _ n hl hc rfl rfl b2 b3 (Nat.le_refl _) fun w' hown hgr=>?_
 refine hK w' ?_ ⟨hgr.os,hgr.tape,hgr.output,hgr.size⟩
 obtain ⟨hlen,hv⟩:=hown
 rcases hv with ⟨hv,_⟩ | ⟨g,cap,cur,hv,hb,hg',c1,c2,c3,c4⟩
 ·cases hv
 ·simp only [Value.slice.injEq,Option.some.injEq,Addr.mk.injEq,and_true,true_and] at hv
  obtain ⟨rfl,rfl⟩:=hv
  exact zr 0 (Xh H (fun b hb=>hgr.block b hb (by simp)) hg') rfl c1 c2 c3 c4
end
end Go.SL
namespace Go.Proofs.YtbpblokfiajpjabGreatDoor
open Go.RowKit Go.SL Go.Deep Go.ChangeShapes Go.WideShapes
def SlAt (v : Value) (n : Nat) (at_ : Nat -> Nat -> Nat -> Prop) : Prop:=
 ∃(ao : Option Addr) (b off cap : Nat),v = .slice ao n cap /\ n <= cap /\ cap <= 9223372036854775807 /\ (0 < n -> ao = some ⟨b,off,none⟩) /\ ∀i,i < n -> at_ b off i
def zJ (w : World) (v : Value) (ks : List Bool) : Prop:=
 SlAt v ks.length fun b off i=>w.cell? ⟨b,off + i,none⟩ = some (.bool (ks.getD i false))
structure Act where
 kind : ByteArray
 A : Int
 B : Int
 C : Int
 D : Int
 S : ByteArray
 kv : Value
 keep : List Bool
def yb (n : Int) : Prop:=-9223372036854775808 <= n /\ n <= 9223372036854775807
def Cu (w : World) (b o : Nat) (a : Act) : Prop:=
 w.cell? ⟨b,o,none⟩ = some (.string a.kind) /\ w.cell? ⟨b,o + 1,none⟩ = some (.int .i64 a.A) /\ w.cell? ⟨b,o + 2,none⟩ = some (.int .i64 a.B) /\ w.cell? ⟨b,o + 3,none⟩ = some (.int .i64 a.C) /\
 w.cell? ⟨b,o + 4,none⟩ = some (.int .i64 a.D) /\ w.cell? ⟨b,o + 5,none⟩ = some (.string a.S) /\ w.cell? ⟨b,o + 6,none⟩ = some a.kv
structure WD (w : World) (a : Act) : Prop where
 A : yb a.A
 B : yb a.B
 C : yb a.C
 D : yb a.D
 K : a.kind.size <= 9223372036854775807
 S : a.S.size <= 9223372036854775807
 keep : zJ w a.kv a.keep
def CD : Act:=⟨ByteArray.empty,0,0,0,0,ByteArray.empty,.slice none 0 0,[]⟩
def BY (w : World) (v : Value) (l : List Act) : Prop:=
 SlAt v l.length (fun b off i=>Cu w b (off + i * 7) (l.getD i CD)) /\ ∀a∈l,WD w a
theorem FA {n : Int} (h : (Lit.int .i64 n).wf = true) : yb n:=by
 simpa [Lit.wf,IntKind.min,IntKind.max,IntKind.signed,IntKind.bits,yb] using h
section
variable {H : Type} {enc : TypeId×Value -> H} {w : World} {base : Nat} {spare : Nat -> Bool} {held : Bool}
theorem VD {a : Addr} {i : Nat} {v : Value} (h : w.cell? (a.add i) = some v) : ∃b o,a.add i = ⟨b,o,none⟩:=by
 obtain ⟨b,o,s⟩:=a
 refine ⟨b,o + i,?_⟩
 unfold Addr.add at h ⊢
 split
 ·rename_i h0
  subst h0
  simp only [if_true] at h
  have:=World.cell?_spot h
  simp_all
 ·rfl
theorem add_none {b o i : Nat} : (⟨b,o,none⟩ : Addr).add i = ⟨b,o + i,none⟩:=by
 unfold Addr.add; split <;> simp_all
theorem Wy {α : Type} {l : List α} (h : l.length = 7) : ∃c0 c1 c2 c3 c4 c5 c6,l = [c0,c1,c2,c3,c4,c5,c6]:=by
 match l,h with
 | [c0,c1,c2,c3,c4,c5,c6],_=>exact ⟨_,_,_,_,_,_,_,rfl⟩
instance : Inhabited Act:=⟨CD⟩
theorem MN {P : Program} {t : TypeId} {fs : Array Field} {fuel : Nat} {cs : List Value} {x : DataW H×List MemPlace} (ht : P.underlying t = some (.struct fs)) (hone : oneCellFields P fs = true)
  (h : DataW.trod enc P w base spare held fuel t cs = some x) :
  ∃(ys : List (DataW H×List MemPlace)) (n : Nat),ys.length = fs.size /\ ∀(j : Nat) (f : Field),fs[j]? = some f -> DataW.trod enc P w base spare held n f.type ((cs.drop j).take 1) = ys[j]?:=by
 obtain ⟨ys,n,_,_,_,hl,hg⟩:=DataW.trod_struct ht h
 refine ⟨ys,n,hl,fun j f hj=>?_⟩
 obtain ⟨ho,hk⟩:=hone_of hone j f hj
 have:=hg j f hj
 rw [ho,hk] at this
 exact this
theorem Te {fuel : Nat} {v : Value} {x : DataW H×List MemPlace} (h : DataW.trod enc Tryz.prog w base spare held fuel 43 [v] = some x) : ∃ks,zJ w v ks:=by
 rcases open_slice Tryz.underlying43 h with ⟨hcs,_⟩ | ⟨a,len,cap,m,n,D,Pl,hcs,_,hl,hm,hmm,_,hi⟩
 ·simp only [List.cons.injEq,and_true] at hcs
  subst hcs
  exact ⟨[],none,0,0,0,rfl,Nat.le_refl _,by omega,fun h=>absurd h (by simp),fun i h=>absurd h (by simp)⟩
 ·simp only [List.cons.injEq,and_true] at hcs
  subst hcs
  have hC : Tryz.prog.cellsOf 4 = 1:=by kernel_rfl
  have hlm : len <= m:=by rw [hmm]; split <;> omega
  have hb : ∀i,i < len -> ∃b,w.cell? (a.add i) = some (.bool b):=fun i h=>by
   obtain ⟨cs',hc,ht⟩:=hi i (by omega)
   obtain ⟨b,rfl,_⟩:=DataW.trod_bool Tryz.underlying4 ht
   rw [hC] at hc
   obtain ⟨_,_,hat⟩:=World.cells?_some hc
   have:=hat 0 (by omega)
   rw [Deep.add_add] at this
   simp at this
   exact ⟨b,this⟩
  obtain ⟨f,hf⟩:=Deep.choose_lt hb
  refine ⟨(List.range len).map f,some a,a.block,a.off,cap,by simp,by simpa using hl,by simpa [maxLen] using hm,fun hlt=>?_,fun i hlt=>?_⟩
  ·have h0:=hf 0 (by simpa using hlt)
   have:=World.cell?_spot h0
   simp [Addr.add] at this
   obtain ⟨b,o,s⟩:=a
   simp_all
  ·have hi:=hf i (by simpa using hlt)
   have h0:=hf 0 (by simp at hlt; omega)
   have hs:=World.cell?_spot h0
   obtain ⟨b,o,s⟩:=a
   simp [Addr.add] at hs
   subst hs
   rw [add_none] at hi
   have h' : i < len:=by simpa using hlt
   simp [h',hi]
theorem LD {fuel : Nat} {v : Value} {x : DataW H×List MemPlace} (h : DataW.trod enc Tryz.prog w base spare held fuel 25 [v] = some x) : ∃l,BY w v l:=by
 rcases open_slice Tryz.underlying25 h with ⟨hcs,_⟩ | ⟨a,len,cap,m,n,D,Pl,hcs,_,hl,hm,hmm,_,hi⟩
 ·simp only [List.cons.injEq,and_true] at hcs
  subst hcs
  exact ⟨[],⟨none,0,0,0,rfl,Nat.le_refl _,by omega,fun h=>absurd h (by simp),fun i h=>absurd h (by simp)⟩,by simp⟩
 ·simp only [List.cons.injEq,and_true] at hcs
  subst hcs
  have hC : Tryz.prog.cellsOf 45 = 7:=by kernel_rfl
  have hlm : len <= m:=by rw [hmm]; split <;> omega
  have hb : ∀i,i < len -> ∃x : Act,(∃b o,a.add (i * 7) = ⟨b,o,none⟩ /\ Cu w b o x) /\ WD w x:=fun i h=>by
   obtain ⟨cs',hc,ht⟩:=hi i (by omega)
   rw [hC] at hc
   obtain ⟨_,hlen,hat⟩:=World.cells?_some hc
   obtain ⟨ys,n',hyl,hg'⟩:=MN Tryz.underlying45 (by kernel_rfl) ht
   obtain ⟨c0,c1,c2,c3,c4,c5,c6,rfl⟩ : ∃c0 c1 c2 c3 c4 c5 c6,cs' = [c0,c1,c2,c3,c4,c5,c6]:=Wy hlen
   obtain ⟨y0,y1,y2,y3,y4,y5,y6,rfl⟩ : ∃c0 c1 c2 c3 c4 c5 c6,ys = [c0,c1,c2,c3,c4,c5,c6]:=Wy hyl
   have g0 : DataW.trod enc Tryz.prog w base spare held n' 9 [c0] = some y0:=hg' 0 _ rfl
   have g1 : DataW.trod enc Tryz.prog w base spare held n' 3 [c1] = some y1:=hg' 1 _ rfl
   have g2 : DataW.trod enc Tryz.prog w base spare held n' 3 [c2] = some y2:=hg' 2 _ rfl
   have g3 : DataW.trod enc Tryz.prog w base spare held n' 3 [c3] = some y3:=hg' 3 _ rfl
   have g4 : DataW.trod enc Tryz.prog w base spare held n' 3 [c4] = some y4:=hg' 4 _ rfl
   have g5 : DataW.trod enc Tryz.prog w base spare held n' 9 [c5] = some y5:=hg' 5 _ rfl
   have g6 : DataW.trod enc Tryz.prog w base spare held n' 43 [c6] = some y6:=hg' 6 _ rfl
   obtain ⟨k,h0,_,hk⟩:=DataW.trod_string Tryz.underlying9 g0
   obtain ⟨A,h1,_,hA⟩:=DataW.trod_int Tryz.underlying3 g1
   obtain ⟨B,h2,_,hB⟩:=DataW.trod_int Tryz.underlying3 g2
   obtain ⟨C,h3,_,hC'⟩:=DataW.trod_int Tryz.underlying3 g3
   obtain ⟨D',h4,_,hD⟩:=DataW.trod_int Tryz.underlying3 g4
   obtain ⟨S,h5,_,hS⟩:=DataW.trod_string Tryz.underlying9 g5
   obtain ⟨ks,hks⟩:=Te g6
   simp only [List.cons.injEq,and_true] at h0 h1 h2 h3 h4 h5
   subst h0 h1 h2 h3 h4 h5
   have hat0:=hat 0 (by omega)
   have hat1:=hat 1 (by omega)
   have hat2:=hat 2 (by omega)
   have hat3:=hat 3 (by omega)
   have hat4:=hat 4 (by omega)
   have hat5:=hat 5 (by omega)
   have hat6:=hat 6 (by omega)
   simp only [List.getElem?_cons_succ,List.getElem?_cons_zero,Addr.add,if_true] at hat0
   obtain ⟨b,o,e⟩:=VD (i:=i * 7) (by simpa [Addr.add] using hat0)
   rw [e,add_none] at hat1 hat2 hat3 hat4 hat5 hat6
   have hat0' : w.cell? ⟨b,o,none⟩ = some (.string k):=by rw [<- e]; simpa [Addr.add] using hat0
   exact ⟨⟨k,A,B,C,D',S,c6,ks⟩,⟨b,o,e,hat0',by simpa using hat1,by simpa using hat2,by simpa using hat3,by simpa using hat4,by simpa using hat5,by simpa using hat6⟩,
    ⟨FA hA,FA hB,FA hC',FA hD,by simpa [maxLen] using hk,by simpa [maxLen] using hS,hks⟩⟩
  obtain ⟨f,hf⟩:=Deep.choose_lt hb
  refine ⟨(List.range len).map f,⟨some a,a.block,a.off,cap,by simp,by simpa using hl,by simpa [maxLen] using hm,fun hlt=>?_,fun i hlt=>?_⟩,fun x hx=>?_⟩
  ·obtain ⟨⟨b,o,e,_⟩,_⟩:=hf 0 (by simpa using hlt)
   simp [Addr.add] at e
   rw [e]
  ·simp at hlt
   obtain ⟨⟨b0,o0,e0,_⟩,_⟩:=hf 0 (by omega)
   simp [Addr.add] at e0
   obtain ⟨⟨b,o,e,hc⟩,_⟩:=hf i hlt
   subst e0
   rw [add_none] at e
   simp at e
   obtain ⟨rfl,rfl⟩:=e
   simp [hlt,hc]
  ·simp at hx
   obtain ⟨i,hi,rfl⟩:=hx
   exact (hf i hi).2
end
end Go.Proofs.YtbpblokfiajpjabGreatDoor
namespace Go.Proofs.YtbpblokfiajpjabGreatDoor
open Go.RowKit Go.SL
theorem Ai {a b : Bool} (h : a = b) : Ending.returned (.bool a) = .returned (.bool b):=by rw [h]
theorem Dg {k : IntKind} {a b : Int} (h : a = b) : Ending.returned (.int k a) = .returned (.int k b):=by rw [h]
theorem WX {a b : ByteArray} (h : a = b) : Ending.returned (.string a) = .returned (.string b):=by rw [h]
def errV (e : Int) : Value:=if e = 0 then .nilIface else .iface 128 (.int .i64 e)
theorem lS : errV 0 = .nilIface:=rfl
theorem lv {e : Int} (h : 0 < e) : errV e = .iface 128 (.int .i64 e):=by unfold errV; rw [zq (by omega)]
theorem QS (n : Int) (w : World) : (Instr.typeAssert (.iface 128 (.int .i64 n)) 35 128 true).run Tryz.prog w = .ok (.tuple #[.int .i64 n,.bool true]) w:=by
 simp [Instr.typeAssert,run_underlying Tryz.underlying128]
def Cv (a : Act) : Bool:=decide (a.S.size <= 700) && decide (a.keep.length <= 300)
def Eb (l : List Act) (most : Int) : Bool:=decide ((l.length : Int) <= most) && l.all Cv
theorem JE {w : World} {v : Value} {ks : List Bool} (h : zJ w v ks) : ∃ao cap,v = .slice ao ks.length cap /\ ks.length <= 9223372036854775807:=by
 obtain ⟨ao,b,off,cap,hv,h1,h2,_⟩:=h
 exact ⟨ao,cap,hv,by omega⟩
theorem Cw {l : List Act} {i : Nat} (hi : i < l.length) : l.getD i CD∈l:=by
 simp [hi]
theorem MB (v : Value) (l : List Act) (most : Int) (w : World) (hv : BY w v l) :
  Calls Tryz.prog 13 #[v,.int .i64 most] w fun e w'=>e = .returned (.bool (Eb l most)) /\ w = w':=by
 obtain ⟨⟨ao,b,off,cap,rfl,hc1,hc2,hao,hat⟩,hok⟩:=hv
 by_cases hm : (l.length : Int) <= most
 ·go_enter Tryz.func13,Tryz.ntmps13
  go_wp2
  go_loop [5] (fun i=>∃k : Nat,k <= l.length /\ i = .int .i64 k /\ ∀j,j < k -> Cv (l.getD j CD) = true) (fun i=>l.length - (intOf i).toNat)
  case atStart=>exact ⟨0,Nat.zero_le _,rfl,fun j h=>absurd h (by omega)⟩
  case round=>
   obtain ⟨k,hk,rfl,hj⟩:=hrel
   by_cases hlt : k < l.length
   ·obtain rfl:=hao (by omega)
    obtain ⟨_,_,_,_,_,c5,c6⟩:=hat k hlt
    have ok:=hok _ (Cw hlt)
    obtain ⟨ko,kc,hkv,hkl⟩:=JE ok.keep
    rw [hkv] at c6
    have hS:=ok.S
    have HJ:=zh hj
    have HO:=zh hok
    clear hj hok hkv ok hat hao
    generalize hx : l.getD k CD = x at *
    have HX:=zh hx
    clear hx
    by_cases h1 : x.S.size <= 700
    ·by_cases h2 : x.keep.length <= 300
     ·go_wp2
      go_round
      case rel=>exact ⟨k + 1,by omega,by go_num,fun j h=>by
       by_cases e : j = k
       ·subst e; rw [HX.out]; simp [Cv,h1,h2]
       ·exact HJ.out j (by omega)⟩
      case measure=>simp [intOf]; omega
     ·go_wp2
      go_ret
      refine ⟨Ai ?_,rfl⟩
      symm
      unfold Eb
      rw [Bool.and_eq_false_iff]
      refine .inr (List.all_eq_false.2 ⟨_,Cw hlt,?_⟩)
      rw [HX.out]; simp [Cv,h2]
    ·go_wp2
     go_ret
     refine ⟨Ai ?_,rfl⟩
     symm
     unfold Eb
     rw [Bool.and_eq_false_iff]
     refine .inr (List.all_eq_false.2 ⟨_,Cw hlt,?_⟩)
     rw [HX.out]; simp [Cv,h1]
   ·have HJ:=zh hj
    clear hj
    go_wp2
    go_ret
    refine ⟨Ai ?_,rfl⟩
    unfold Eb
    rw [eq_comm,Bool.and_eq_true]
    refine ⟨by simpa using hm,List.all_eq_true.2 fun x hx=>?_⟩
    obtain ⟨j,hj,rfl⟩:=List.getElem_of_mem hx
    have:=HJ.out j (by omega)
    simpa [hj] using this
 ·go_enter Tryz.func13,Tryz.ntmps13
  go_wp2
  go_ret
  exact ⟨Ai (by rw [Eb,zf (show ¬(l.length : Int) <= most by omega)]; rfl),rfl⟩
end Go.Proofs.YtbpblokfiajpjabGreatDoor
namespace Go.Proofs
open Go.Shelf
def Tryz.lays105_ren : Go.Shelf.Ren:=⟨fun | 105=>154 | 212=>232 | 99=>233 | 165=>234 | 166=>228 | 170=>235 | 169=>229 | 263=>260 | 264=>261 | 206=>262 | 240=>258 | 241=>263 | 276=>270 | 277=>271 | n=>n,fun | 9=>9 | 3=>3 | 4=>4 | 20=>20 | 0=>0 | 46=>247 | 109=>274 | 5=>5 | 72=>269 | 76=>209 | 51=>283 | 146=>292 | 53=>228 | 148=>294 | 70=>267 | 37=>211 | 75=>35 | 127=>290 | 164=>299 | 80=>257 | n=>n,fun | n=>n⟩
theorem Tryz.lays105 : Go.Proofs.Lays.n105 Tryz.prog Tryz.lays105_ren:={
 mixed:=by kernel_rfl
 f99:=Tryz.func233.trans (congrArg some (by kernel_rfl))
 f105:=Tryz.func154.trans (congrArg some (by kernel_rfl))
 f165:=Tryz.func234.trans (congrArg some (by kernel_rfl))
 f166:=Tryz.func228.trans (congrArg some (by kernel_rfl))
 f169:=Tryz.func229.trans (congrArg some (by kernel_rfl))
 f170:=Tryz.func235.trans (congrArg some (by kernel_rfl))
 f206:=Tryz.func262.trans (congrArg some (by kernel_rfl))
 f212:=Tryz.func232.trans (congrArg some (by kernel_rfl))
 f240:=Tryz.func258.trans (congrArg some (by kernel_rfl))
 f241:=Tryz.func263.trans (congrArg some (by kernel_rfl))
 f263:=Tryz.func260.trans (congrArg some (by kernel_rfl))
 f264:=Tryz.func261.trans (congrArg some (by kernel_rfl))
 f276:=Tryz.func270.trans (congrArg some (by kernel_rfl))
 f277:=Tryz.func271.trans (congrArg some (by kernel_rfl))
 t0:=Tryz.underlying0
 a0:=Tryz.isAgg0
 z0:=Tryz.sizeOf0
 v0:=Tryz.zeroValue0
 t3:=Tryz.underlying3
 a3:=Tryz.isAgg3
 z3:=Tryz.sizeOf3
 v3:=Tryz.zeroValue3
 t4:=Tryz.underlying4
 a4:=Tryz.isAgg4
 z4:=Tryz.sizeOf4
 v4:=Tryz.zeroValue4
 t5:=Tryz.underlying5
 a5:=Tryz.isAgg5
 z5:=Tryz.sizeOf5
 v5:=Tryz.zeroValue5
 t9:=Tryz.underlying9
 a9:=Tryz.isAgg9
 z9:=Tryz.sizeOf9
 v9:=Tryz.zeroValue9
 t20:=Tryz.underlying20
 a20:=Tryz.isAgg20
 z20:=Tryz.sizeOf20
 v20:=Tryz.zeroValue20
 t37:=Tryz.underlying211
 a37:=Tryz.isAgg211
 z37:=Tryz.sizeOf211
 v37:=Tryz.zeroValue211
 t46:=Tryz.underlying247
 a46:=Tryz.isAgg247
 z46:=Tryz.sizeOf247
 v46:=Tryz.zeroValue247
 t51:=Tryz.underlying283
 a51:=Tryz.isAgg283
 z51:=Tryz.sizeOf283
 v51:=Tryz.zeroValue283
 t53:=Tryz.underlying228
 a53:=Tryz.isAgg228
 z53:=Tryz.sizeOf228
 v53:=Tryz.zeroValue228
 t70:=Tryz.underlying267
 a70:=Tryz.isAgg267
 z70:=Tryz.sizeOf267
 v70:=Tryz.zeroValue267
 t72:=Tryz.underlying269
 a72:=Tryz.isAgg269
 z72:=Tryz.sizeOf269
 v72:=Tryz.zeroValue269
 t75:=Tryz.underlying35
 a75:=Tryz.isAgg35
 z75:=Tryz.sizeOf35
 v75:=Tryz.zeroValue35
 t76:=Tryz.underlying209
 a76:=Tryz.isAgg209
 z76:=Tryz.sizeOf209
 v76:=Tryz.zeroValue209
 t109:=Tryz.underlying274
 a109:=Tryz.isAgg274
 z109:=Tryz.sizeOf274
 v109:=Tryz.zeroValue274
 t127:=Tryz.underlying290
 a127:=Tryz.isAgg290
 z127:=Tryz.sizeOf290
 v127:=Tryz.zeroValue290
 t146:=Tryz.underlying292
 a146:=Tryz.isAgg292
 z146:=Tryz.sizeOf292
 v146:=Tryz.zeroValue292
 t148:=Tryz.underlying294
 a148:=Tryz.isAgg294
 z148:=Tryz.sizeOf294
 v148:=Tryz.zeroValue294
 t164:=Tryz.underlying299
 a164:=Tryz.isAgg299
 z164:=Tryz.sizeOf299
 v164:=Tryz.zeroValue299 }
theorem Tryz.Builder_Extra_105 : Builder.Extra Tryz.prog Tryz.lays105_ren:={
 sizeBuilder:=by kernel_rfl
 liesBuilder:=by kernel_rfl
 t5:=Tryz.underlying5
 a5:=Tryz.isAgg5
 z5:=Tryz.sizeOf5
 v5:=Tryz.zeroValue5
 infoByte:=by kernel_rfl
 cellsByte:=by kernel_rfl
 sizeByte:=by kernel_rfl
 neB5:=by decide }
open Go.RowKit Go.Lib in
theorem Tryz.strings_Repeat (s : ByteArray) (c : Nat) (w : World) (hc : c <= 9223372036854775807) (hlen : s.size * c <= 140737488355328) :
  Calls Tryz.prog 154 #[.string s,.int .i64 c] w fun e w'=>e = .returned (.string ⟨(Lib.repeatL s.data.toList c).toArray⟩) /\ Below w.heap.size w w':=Any.strings_Repeat Tryz.lays105 Tryz.Builder_Extra_105 s c w hc hlen
end Go.Proofs
namespace Go.SL
open Go.RowKit
theorem z8 {w : World} {L : List HP} (k : Nat) {e : TypeId} {sz g n cap : Nat} {xs : List Value} (j : Nat) (u : Value) (H : own w L) (hk : L[k]? = some (row e sz (.slice (some ⟨g,0,none⟩) n cap) n xs)) (hn : 0 < n) :
  own (w.setCell ⟨g,j,none⟩ u) (L.set k (row e sz (.slice (some ⟨g,0,none⟩) n cap) n (xs.set j u))):=by
 obtain ⟨hl,⟨h1,h2⟩ | ⟨g',cap',cur,h1,h2,h3,h4,h5,h6⟩⟩:=Ek k H hk
 ·omega
 ·simp only [Value.slice.injEq,Option.some.injEq,Addr.mk.injEq,and_true,true_and] at h1
  obtain ⟨rfl,rfl⟩:=h1
  have hkl : k < L.length:=(zS.1 hk).1
  have h7:=lp k (b:=g) (arr:=cur) (T:=e) (fr:=(0,0)) (i:=j) (v:=u) h6 (by simp [hkl])
  have h8:=zr k (g:=g) (cur:=cur.setIfInBounds j u) (e:=e) (n:=n) (cap:=cap) (sz:=sz) (xs:=xs.set j u) h7 (by simp [hkl]) h2 h3 (by simpa using h4) (by
   rw [Array.toList_setIfInBounds,List.take_set,h5])
  simpa only [List.set_set] using h8
end Go.SL
namespace Go.Proofs.YtbpblokfiajpjabGreatDoor
open Go.RowKit Go.SL
theorem AX : Elem Tryz.prog 9 1 16 (.string ByteArray.empty):=by unfold Elem; kernel_rfl
structure DevM where
 fl : List ByteArray
 pend : List (Int×ByteArray)
 fail : Int
 writes : Int
def strCells (l : List ByteArray) : List Value:=l.map .string
def yp (l : List (Int×ByteArray)) : List Value:=l.flatMap fun x=>[.int .i64 x.1,.string x.2]
structure DevM.Ok (m : DevM) : Prop where
 n : m.fl.length <= 200
 fl : ∀s∈m.fl,s.size = 16
 p : m.pend.length <= 1000000
 pend : ∀x∈m.pend,0 <= x.1 /\ x.1 < m.fl.length /\ x.2.size = 16
 fail : -1 <= m.fail /\ m.fail <= 9223372036854775807
 writes : 0 <= m.writes /\ m.writes <= 1000000
def lj (b : Nat) (m : DevM) : HP:=exi fun v : Value×Value=>star [pts b (.cells #[v.1,v.2,.int .i64 m.fail,.int .i64 m.writes] 214 (0,0)),row 9 1 v.1 m.fl.length (strCells m.fl),row 245 2 v.2 m.pend.length (yp m.pend)]
theorem Cr {w : World} {b : Nat} {m : DevM} {R : List HP} (H : own w (lj b m::R)) : ∃vf vp,own w (pts b (.cells #[vf,vp,.int .i64 m.fail,.int .i64 m.writes] 214 (0,0))::row 9 1 vf m.fl.length (strCells m.fl)::row 245 2 vp m.pend.length (yp m.pend)::R):=by
 obtain ⟨v,h⟩:=JO 0 (L:=fun v : Value×Value=>[pts b (.cells #[v.1,v.2,.int .i64 m.fail,.int .i64 m.writes] 214 (0,0)),row 9 1 v.1 m.fl.length (strCells m.fl),row 245 2 v.2 m.pend.length (yp m.pend)]) H rfl fun h hh=>hh
 exact ⟨v.1,v.2,h⟩
theorem As {w : World} {b : Nat} {m : DevM} {R : List HP} {vf vp : Value} (H : own w (pts b (.cells #[vf,vp,.int .i64 m.fail,.int .i64 m.writes] 214 (0,0))::row 9 1 vf m.fl.length (strCells m.fl)::row 245 2 vp m.pend.length (yp m.pend)::R)) : own w (lj b m::R):=
 Is [pts b (.cells #[vf,vp,.int .i64 m.fail,.int .i64 m.writes] 214 (0,0)),row 9 1 vf m.fl.length (strCells m.fl),row 245 2 vp m.pend.length (yp m.pend)] (fun h hh=>⟨(vf,vp),hh⟩) H
theorem BX {l : List ByteArray} {i : Nat} (h : i < l.length) : (strCells l)[i]? = some (.string (l.getD i ByteArray.empty)):=by simp [strCells,h]
theorem Cl {l : List (Int×ByteArray)} : ∀{i : Nat},i < l.length -> (yp l)[i * 2]? = some (.int .i64 (l.getD i (0,ByteArray.empty)).1) /\ (yp l)[i * 2 + 1]? = some (.string (l.getD i (0,ByteArray.empty)).2):=by
 induction l with
 | nil=>intro i h; simp at h
 | cons x l ih=>
  intro i h
  cases i with
  | zero=>simp [yp]
  | succ i=>
   have:=ih (i:=i) (by simpa using h)
   simp only [yp,List.flatMap_cons] at this ⊢
   have e : (i + 1) * 2 = i * 2 + 2:=by omega
   rw [e]
   simpa using this
theorem NS {l : List (Int×ByteArray)} {i : Nat} (h : i < l.length) : l.getD i (0,ByteArray.empty)∈l:=by simp [h]
def DevM.seen (m : DevM) (at_ : Int) : ByteArray:=m.pend.foldl (fun s x=>if x.1 = at_ then x.2 else s) (m.fl.getD at_.toNat ByteArray.empty)
def BC (f : List ByteArray) (x : Int×ByteArray) : List ByteArray:=f.set x.1.toNat x.2
def DevM.flush (m : DevM) : DevM:={ m with fl:=m.pend.foldl BC m.fl,pend:=[] }
def yD : List (Int×ByteArray) -> List Bool -> List (Int×ByteArray)
 | x::p,k::ks=>if k then x::yD p ks else yD p ks
 | _,_=>[]
theorem MG (p : List (Int×ByteArray)) (x : Int×ByteArray) : ∀ks : List Bool,yD (p++[x]) ks = yD p ks++(if ks.getD p.length false then [x] else []):=by
 induction p with
 | nil=>intro ks; cases ks with
  | nil=>rfl
  | cons k ks=>cases k <;> rfl
 | cons y p ih=>intro ks; cases ks with
  | nil=>rfl
  | cons k ks=>
   simp only [List.cons_append,yD,ih,List.length_cons,List.getD_cons_succ]
   cases k <;> rfl
def DevM.crash (m : DevM) (keep : List Bool) : DevM:={ fl:=(yD m.pend keep).foldl BC m.fl,pend:=[],fail:=-1,writes:=m.writes }
def DevM.bad (m : DevM) (at_ : Int) (s : ByteArray) : Bool:=decide (at_ < 0) || decide ((m.fl.length : Int) <= at_) || decide (s.size≠16)
def DevM.write (m : DevM) (at_ : Int) (s : ByteArray) : Int×DevM:=
 if m.bad at_ s then (1,m) else if m.fail = 0 then (7,{ m with fail:=-1 })
 else (0,{ m with fail:=if 0 < m.fail then m.fail - 1 else m.fail,pend:=m.pend++[(at_,s)],writes:=m.writes + 1 })
theorem lP (p : List (Int×ByteArray)) : ∀f : List ByteArray,(p.foldl BC f).length = f.length:=by
 induction p with
 | nil=>intro f; rfl
 | cons x p ih=>intro f; rw [List.foldl_cons,ih]; simp [BC]
theorem EQ {p : List (Int×ByteArray)} : ∀{f : List ByteArray},(∀s∈f,s.size = 16) -> (∀x∈p,x.2.size = 16) -> ∀s∈p.foldl BC f,s.size = 16:=by
 induction p with
 | nil=>intro f h _; exact h
 | cons x p ih=>
  intro f h hp
  refine ih (fun s hs=>?_) fun y hy=>hp y (by simp [hy])
  rcases List.mem_or_eq_of_mem_set hs with h' | rfl
  ·exact h _ h'
  ·exact hp x (by simp)
theorem DevM.flush_ok {m : DevM} (h : m.Ok) : m.flush.Ok:=
 ⟨by simp only [flush,lP]; exact h.n,EQ h.fl fun x hx=>(h.pend x hx).2.2,by simp [flush],fun x hx=>by simp [flush] at hx,h.fail,h.writes⟩
theorem Az {x : Int×ByteArray} : ∀{p : List (Int×ByteArray)} {keep : List Bool},x∈yD p keep -> x∈p
 | [],[],h=>by simp [yD] at h
 | [],_::_,h=>by simp [yD] at h
 | y::p,[],h=>by simp [yD] at h
 | y::p,k::ks,h=>by
  cases k
  ·exact List.mem_cons_of_mem _ (Az (p:=p) (keep:=ks) (by simpa [yD] using h))
  ·simp only [yD,if_true,List.mem_cons] at h
   rcases h with rfl | h
   ·simp
   ·exact List.mem_cons_of_mem _ (Az h)
theorem DevM.crash_ok {m : DevM} (h : m.Ok) (keep : List Bool) : (m.crash keep).Ok:=
 ⟨by simp only [crash,lP]; exact h.n,EQ h.fl fun x hx=>(h.pend x (Az hx)).2.2,by simp [crash],fun x hx=>by simp [crash] at hx,by simp [crash],h.writes⟩
theorem DevM.write_ok {m : DevM} (h : m.Ok) (at_ : Int) (s : ByteArray) (hp : m.pend.length < 1000000) (hw : m.writes < 1000000) : (m.write at_ s).2.Ok:=by
 unfold DevM.write
 split
 ·exact h
 ·rename_i hb
  simp only [DevM.bad,Bool.or_eq_true,decide_eq_true_eq,not_or] at hb
  split
  ·exact ⟨h.n,h.fl,h.p,h.pend,by simp,h.writes⟩
  ·have hf:=h.fail
   have hw':=h.writes
   refine ⟨h.n,h.fl,by simp; omega,fun x hx=>?_,?_,?_⟩
   ·simp only [List.mem_append,List.mem_singleton] at hx
    rcases hx with hx | rfl
    ·exact h.pend x hx
    ·exact ⟨by omega,by dsimp only; omega,by dsimp only; omega⟩
   ·dsimp only; split <;> omega
   ·dsimp only; omega
theorem Nj (b : Nat) (m : DevM) (R : List HP) (w : World) (H : own w (lj b m::R)) :
  Calls Tryz.prog 212 #[.pointer (some ⟨b,0,none⟩)] w fun e w'=>e = .returned (.int .i64 m.fl.length) /\ w = w':=by
 obtain ⟨vf,vp,h⟩:=Cr H
 obtain ⟨ao,g,cap,rfl,r1,r2,_⟩:=lm 1 h rfl
 obtain ⟨c,f⟩:=ld 0 h rfl
 go_enter Tryz.func212,Tryz.ntmps212
 go_wp2
 go_ret
 exact ⟨rfl,rfl⟩
theorem OO (b : Nat) (m : DevM) (n : Int) (R : List HP) (w : World) (H : own w (lj b m::R)) :
  Calls Tryz.prog 211 #[.pointer (some ⟨b,0,none⟩),.int .i64 n] w fun e w'=>e = .returned (errV (if n < 0 then 1 else 0)) /\ Ext w w' /\ own w' (lj b (if n < 0 then m else { m with fail:=n })::R):=by
 by_cases hn : n < 0
 ·simp only [hn,if_true]
  go_enter Tryz.func211,Tryz.ntmps211
  go_wp2
  go_ret
  exact ⟨rfl,zR _,H⟩
 ·simp only [hn,if_false]
  obtain ⟨vf,vp,h⟩:=Cr H
  obtain ⟨c,f⟩:=ld 0 h rfl
  go_enter Tryz.func211,Tryz.ntmps211
  go_wp2
  go_ret
  exact ⟨rfl,(zR _).setCell _ _,As (m:={ m with fail:=n }) (lp 0 h rfl)⟩
theorem LA {p : List (Int×ByteArray)} {at_ : Int} {s : ByteArray} {k : Nat} (hk : k <= p.length) (h : ∀j,k <= j -> j < p.length -> (p.getD j (0,ByteArray.empty)).1≠at_) :
  p.foldl (fun s x=>if x.1 = at_ then x.2 else s) s = (p.take k).foldl (fun s x=>if x.1 = at_ then x.2 else s) s:=by
 conv=>lhs; rw [<- List.take_append_drop k p]
 rw [List.foldl_append]
 generalize (p.take k).foldl (fun s x=>if x.1 = at_ then x.2 else s) s = t
 have : ∀x∈p.drop k,x.1≠at_:=fun x hx=>by
  obtain ⟨j,hj,rfl⟩:=List.getElem_of_mem hx
  simp only [List.length_drop] at hj
  have:=h (k + j) (by omega) (by omega)
  simpa [show k + j < p.length by omega] using this
 generalize p.drop k = q at this
 induction q with
 | nil=>rfl
 | cons x q ih=>rw [List.foldl_cons,zq (this x (by simp))]; exact ih fun y hy=>this y (by simp [hy])
theorem yU {α : Type} {p : List α} {k : Nat} (d : α) (hk : k < p.length) : p.take (k + 1) = p.take k++[p.getD k d]:=by
 rw [List.take_add_one]; simp [hk]
theorem FS (b : Nat) (m : DevM) (hm : m.Ok) (n : Int) (R : List HP) (w : World) (H : own w (lj b m::R)) :
  Calls Tryz.prog 96 #[.pointer (some ⟨b,0,none⟩),.int .i64 n] w fun e w'=>e = .returned (if n < 0 \/ (m.fl.length : Int) <= n then .tuple #[.string ByteArray.empty,errV 1] else .tuple #[.string (m.seen n),.nilIface]) /\ w = w':=by
 obtain ⟨vf,vp,h⟩:=Cr H
 have hl1:=hm.n
 have hl2:=hm.p
 obtain ⟨af,gf,cf,rfl,f1,f2,f3,f4,f5,f6,f7⟩:=lm 1 h rfl
 obtain ⟨ap,gp,cp,rfl,p1,p2,p3,p4,p5,p6,p7⟩:=lm 2 h rfl
 obtain ⟨c,f⟩:=ld 0 h rfl
 by_cases hn : n < 0 \/ (m.fl.length : Int) <= n
 ·simp only [hn,if_true]
  clear f4 f5 f6 f7 p3 p4 p5 p6 p7 f3
  go_enter Tryz.func96,Tryz.ntmps96
  by_cases h0 : n < 0
  ·go_wp2
   all_goals go_ret2
   all_goals exact ⟨rfl,rfl⟩
  ·have hn' : (m.fl.length : Int) <= n:=by omega
   go_wp2
   all_goals go_ret2
   all_goals exact ⟨rfl,rfl⟩
 ·simp only [hn,if_false]
  have h1 : 0 <= n:=by omega
  have h2 : n < m.fl.length:=by omega
  obtain ⟨k,rfl⟩:=ze h1
  have cl : w.cell? ⟨gf,k,none⟩ = some (.string (m.fl.getD k ByteArray.empty)):=f6 k _ (BX (by omega))
  have hp : ∀i,i < m.pend.length -> w.cell? ⟨gp,i * 2,none⟩ = some (.int .i64 (m.pend.getD i (0,ByteArray.empty)).1) /\ w.cell? ⟨gp,i * 2 + 1,none⟩ = some (.string (m.pend.getD i (0,ByteArray.empty)).2):=fun i hi=>⟨p6 _ _ (Cl hi).1,p6 _ _ (Cl hi).2⟩
  obtain rfl:=f3 (by omega)
  have P3:=zh p3
  have HP:=zh hp
  clear f4 f5 f6 f7 p3 p4 p5 p6 p7 f3 hp
  go_enter Tryz.func96,Tryz.ntmps96
  go_wp2
  go_loop [6] (fun i=>∃q : Nat,q <= m.pend.length /\ i = .int .i64 ((q : Int) - 1) /\ ∀j,q <= j -> j < m.pend.length -> (m.pend.getD j (0,ByteArray.empty)).1≠(k : Int)) (fun i=>(intOf i + 1).toNat)
  case atStart=>exact ⟨m.pend.length,Nat.le_refl _,by go_num,fun j h1 h2=>absurd h1 (by omega)⟩
  case round=>
   obtain ⟨q,hq,rfl,hj⟩:=hrel
   have HJ:=zh hj
   clear hj
   cases q with
   | zero=>
    go_wp2
    go_ret2
    refine ⟨?_,rfl⟩
    rw [DevM.seen,LA (k:=0) (Nat.zero_le _) fun j h1 h2=>HJ.out j h1 h2]
    rfl
   | succ q=>
    obtain rfl:=P3.out (by omega)
    obtain ⟨c1,c2⟩:=HP.out q (by omega)
    have hseen : m.seen (k : Int) = if (m.pend.getD q (0,ByteArray.empty)).1 = (k : Int) then (m.pend.getD q (0,ByteArray.empty)).2 else m.seen k:=by
     split
     ·rename_i he
      rw [DevM.seen,LA (k:=q + 1) (by omega) fun j h1 h2=>HJ.out j h1 h2,yU (0,ByteArray.empty) (by omega),List.foldl_append]
      simp only [List.foldl_cons,List.foldl_nil]
      rw [zt he]
     ·rfl
    have HS:=zh hseen
    clear hseen
    generalize hx : m.pend.getD q (0,ByteArray.empty) = x at *
    have HX:=zh hx
    clear hx
    have e1 : ((q + 1 : Nat) : Int) - 1 = (q : Int):=by omega
    rw [e1]
    clear e1
    by_cases he : x.1 = (k : Int)
    ·have hse:=HS.out
     rw [zt he] at hse
     have HSE:=zh hse
     clear hse
     go_wp2
     go_ret2
     exact ⟨by rw [HSE.out]; rfl,rfl⟩
    ·go_wp2
     go_round
     case rel=>exact ⟨q,by omega,by go_num,fun j h1 h2=>by
      by_cases e : j = q
      ·subst e; rw [HX.out]; exact he
      ·exact HJ.out j (by omega) h2⟩
     case measure=>simp [intOf]
theorem Kz : Elem Tryz.prog 245 2 24 (.agg #[.int .i64 0,.string ByteArray.empty]):=by unfold Elem; kernel_rfl
end Go.Proofs.YtbpblokfiajpjabGreatDoor
namespace Go.Proofs.YtbpblokfiajpjabGreatDoor
open Go.RowKit Go.SL
theorem BP (b : Nat) (m : DevM) (hm : m.Ok) (n : Int) (s : ByteArray) (hs : s.size <= 9223372036854775807) (hwl : m.writes < 1000000) (hpl : m.pend.length < 1000000) (R : List SL.HP) (w : World) (H : own w (lj b m::R)) :
  Calls Tryz.prog 160 #[.pointer (some ⟨b,0,none⟩),.int .i64 n,.string s] w fun e w'=>e = .returned (errV (m.write n s).1) /\ Ext w w' /\ own w' (lj b (m.write n s).2::R):=by
 obtain ⟨vf,vp,h⟩:=Cr H
 have hl1:=hm.n
 obtain ⟨hf1,hf2⟩:=hm.fail
 obtain ⟨hw1,hw2⟩:=hm.writes
 obtain ⟨af,gf,cf,rfl,f1,f2,-,-,-,-,-⟩:=lm 1 h rfl
 by_cases hb : m.bad n s = true
 ·have e : m.write n s = (1,m):=by unfold DevM.write; rw [zt hb]
  rw [e]
  obtain ⟨c,f⟩:=ld 0 h rfl
  simp only [DevM.bad,Bool.or_eq_true,decide_eq_true_eq] at hb
  by_cases h0 : n < 0
  ·go_enter Tryz.func160,Tryz.ntmps160
   go_wp2_with fail
   all_goals go_ret
   all_goals exact ⟨rfl,zR _,H⟩
  ·by_cases h1 : (m.fl.length : Int) <= n
   ·go_enter Tryz.func160,Tryz.ntmps160
    go_wp2_with fail
    all_goals go_ret
    all_goals exact ⟨rfl,zR _,H⟩
   ·have h2 : s.size≠16:=by omega
    clear hb
    go_enter Tryz.func160,Tryz.ntmps160
    go_wp2_with fail
    all_goals go_ret
    all_goals exact ⟨rfl,zR _,H⟩
 ·have hb':=hb
  simp only [DevM.bad,Bool.or_eq_true,decide_eq_true_eq,not_or] at hb'
  obtain ⟨⟨h0,h1⟩,h2⟩:=hb'
  have h0 : 0 <= n:=by omega
  have h1 : n < m.fl.length:=by omega
  have h2 : s.size = 16:=by omega
  by_cases hz : m.fail = 0
  ·have e : m.write n s = (7,{ m with fail:=-1 }):=by unfold DevM.write; rw [zq hb,zt hz]
   rw [e]
   clear hb
   obtain ⟨c,f⟩:=ld 0 h rfl
   go_enter Tryz.func160,Tryz.ntmps160
   go_wp2_with fail
   all_goals go_ret
   all_goals exact ⟨rfl,(zR _).setCell _ _,As (m:={ m with fail:=-1 }) (lp 0 h rfl)⟩
  ·have e : m.write n s = (0,{ m with fail:=if 0 < m.fail then m.fail - 1 else m.fail,pend:=m.pend++[(n,s)],writes:=m.writes + 1 }):=by unfold DevM.write; rw [zq hb,zq hz]
   rw [e]
   clear hb e
   obtain ⟨ap,gp,cp,rfl,p1,p2,-,-,-,-,-⟩:=lm 2 h rfl
   obtain ⟨c,f⟩:=ld 0 h rfl
   have hml : m.pend.length + 1 <= maxLen:=by simp only [maxLen]; omega
   by_cases hpos : 0 < m.fail
   all_goals
    first
    | rw [zt hpos]
    | rw [zq hpos]
    go_enter Tryz.func160,Tryz.ntmps160
    go_upto_region 8 with (fail)
   all_goals first
   | (
    have hyes : 0 < m.fail:=hpos
    have h3:=lp (i:=2) (v:=.int .i64 (m.fail - 1)) 0 h rfl
    have hx3:=(zR w).setCell ⟨b,2,none⟩ (.int .i64 (m.fail - 1))
    generalize w.setCell ⟨b,2,none⟩ (.int .i64 (m.fail - 1)) = w3 at *
    have hF:=zh (rfl : m.fail - 1 = m.fail - 1))
   | (
    have h3:=h
    obtain ⟨w3,hw3⟩ : ∃w3,w3 = w:=⟨w,rfl⟩
    subst hw3
    have hx3:=zR w3
    have hF:=zh (rfl : m.fail = m.fail))
   all_goals
    clear c f
    obtain ⟨c,f⟩:=ld 0 h3 rfl
    have ha:=lh h3 (.cells #[.int .i64 n,.string s] 245)
    have hm1 : ∀ad,some (⟨w3.heap.size,0,none⟩ : Addr) = some ad -> ∀j u,[Value.int .i64 n,Value.string s][j]? = some u -> (w3.alloc (.cells #[.int .i64 n,.string s] 245)).cell? (ad.add j) = some u:=fun ad had j u hu=>by
     obtain rfl:=Option.some.inj had
     rw [add_none,Nat.zero_add,(ld 0 ha rfl).1]
     match j,hu with
     | 0,hu=>exact hu
     | 1,hu=>exact hu
    have hm2 : ∀u∈[Value.int .i64 n,Value.string s],u.oneCell' = true:=fun u hu=>by
     simp at hu
     rcases hu with rfl | rfl <;> rfl
    go_wp2_with (first | (at_builtin; refine lX rfl _ _ 212 rfl 3 245 Tryz.underlying212 Kz rfl (by decide) rfl ha rfl (some ⟨w3.heap.size,0,none⟩) 1 1 [.int .i64 n,.string s] rfl rfl hm1 (fun h=>by cases h) hm2 hml (by omega) ?_))
    clear hm1 hm2 c f
    intro v4 w4 h4 hx4
    obtain ⟨a4,g4,c4,rfl,q1,q2,-,-,-,-,-⟩:=lm 3 h4 rfl
    obtain ⟨c,f⟩:=ld 1 h4 rfl
    go_wp2_with fail
    go_ret
    refine ⟨rfl,?_,?_⟩
    ·exact (((hx3.alloc _).trans hx4).setCell _ _).setCell _ _
    ·have h5:=lp (i:=1) (v:=.slice a4 (m.pend.length + 1) c4) 1 h4 rfl
     have h6:=lp (i:=3) (v:=.int .i64 (m.writes + 1)) 1 h5 rfl
     have h7:=lg h6
     have ep : (m.pend++[(n,s)]).length = m.pend.length + 1:=by simp
     have ec : yp (m.pend++[(n,s)]) = yp m.pend++[.int .i64 n,.string s]:=by simp [yp]
     first
     | exact As (m:={ m with fail:=m.fail - 1,pend:=m.pend++[(n,s)],writes:=m.writes + 1 }) (by dsimp only; rw [ep,ec]; exact h7)
     | exact As (m:={ m with fail:=m.fail,pend:=m.pend++[(n,s)],writes:=m.writes + 1 }) (by dsimp only; rw [ep,ec]; exact h7)
end Go.Proofs.YtbpblokfiajpjabGreatDoor
namespace Go.SL
open Go.RowKit
theorem oa {w : World} {L : List HP} (k : Nat) {e : TypeId} {sz g n cap : Nat} {xs : List Value} (H : own w L) (hk : L[k]? = some (row e sz (.slice (some ⟨g,0,none⟩) n cap) n xs)) :
  (∀j u,xs[j]? = some u -> w.cell? ⟨g,j,none⟩ = some u) /\ ∀j,w.frozen? ⟨g,j,none⟩ = false:=by
 obtain ⟨ap',gp',cp',hv,-,-,-,-,k1,k2,k3⟩:=lm k H hk
 simp only [Value.slice.injEq,true_and] at hv
 obtain ⟨rfl,rfl⟩:=hv
 have:=k1 _ rfl
 simp only [Addr.mk.injEq,and_true] at this
 subst this
 exact ⟨k2,k3 (by simp)⟩
theorem lC {w : World} {a : HP} {R : List HP} (l : List HP) (H : own w (a::(l++R))) : own w (l++a::R):=y7 (fun _=>G8 List.perm_middle.symm) H
end Go.SL
namespace Go.Proofs.YtbpblokfiajpjabGreatDoor
open Go.RowKit Go.SL
theorem GX (l : List ByteArray) (k : Nat) (s : ByteArray) : strCells (l.set k s) = (strCells l).set k (.string s):=by simp [strCells,List.map_set]
def Vs (b : Nat) (m : DevM) (vf vp : Value) (R : List SL.HP) (w0 : World) (i : Value) (wr : World) : Prop:=
 ∃q : Nat,q <= m.pend.length /\ i = .int .i64 q /\ Ext w0 wr /\ own wr (pts b (.cells #[vf,vp,.int .i64 m.fail,.int .i64 m.writes] 214 (0,0))::row 9 1 vf m.fl.length (strCells ((m.pend.take q).foldl BC m.fl))::row 245 2 vp m.pend.length (yp m.pend)::R)
theorem Cz (b : Nat) (m : DevM) (hm : m.Ok) (R : List SL.HP) (w : World) (H : own w (lj b m::R)) :
  Calls Tryz.prog 158 #[.pointer (some ⟨b,0,none⟩)] w fun e w'=>e = .returned (.tuple #[]) /\ Ext w w' /\ own w' (lj b m.flush::R):=by
 obtain ⟨vf,vp,h⟩:=Cr H
 have hl1:=hm.n
 have hl2:=hm.p
 obtain ⟨ap,gp,cp,rfl,p1,p2,p3,-,-,-,-⟩:=lm 2 h rfl
 obtain ⟨af,gf,cf,rfl,f1,f2,f3,-,-,-,-⟩:=lm 1 h rfl
 obtain ⟨c,f⟩:=ld 0 h rfl
 have P3:=zh p3
 have F3:=zh f3
 clear p3 f3
 go_enter Tryz.func158,Tryz.ntmps158
 go_wp2_with fail
 go_loopw [9] (Vs b m (.slice af m.fl.length cf) (.slice ap m.pend.length cp) R w) (fun i _=>m.pend.length - (intOf i).toNat)
 case atStart=>exact ⟨0,Nat.zero_le _,rfl,zR _,h⟩
 case round=>
  clear c f h H
  obtain ⟨q,hq,rfl,hxr,hown⟩:=hrel
  by_cases hlt : q < m.pend.length
  ·obtain rfl:=P3.out (by omega)
   obtain ⟨x1,x2,x3⟩:=hm.pend _ (NS hlt)
   obtain ⟨e1,e2⟩:=Cl hlt
   obtain ⟨k2,-⟩:=oa 2 hown rfl
   have c1:=k2 _ _ e1
   have c2:=k2 _ _ e2
   have hto:=yU (0,ByteArray.empty) hlt
   have HT:=zh hto
   clear hto
   generalize hx : m.pend.getD q (0,ByteArray.empty) = x at *
   clear k2 e1 e2 hx
   obtain ⟨n,s⟩:=x
   dsimp only at x1 x2 x3 c1 c2
   obtain ⟨k,rfl⟩:=ze x1
   obtain rfl:=F3.out (by omega)
   go_upto_region 3 with (fail)
   have ha:=lh hown (.cells #[.int .i64 k,.string s] 245)
   have hxa:=hxr.alloc (.cells #[.int .i64 k,.string s] 245)
   clear c1 c2 hown
   generalize wr.heap.size = ba at *
   generalize wr.alloc (.cells #[.int .i64 k,.string s] 245) = wa at *
   obtain ⟨c0,f0⟩:=ld 0 ha rfl
   obtain ⟨c,f⟩:=ld 1 ha rfl
   obtain ⟨k2,k3⟩:=oa 2 ha rfl
   have hlen:=lP (m.pend.take q) m.fl
   generalize hfq : (m.pend.take q).foldl BC m.fl = fq at *
   have HFQ:=zh hfq
   clear hfq
   have c2:=k2 k _ (BX (by omega))
   clear k2
   go_still_tail 8,(by kernel_rfl)
   change wpList _ _ _ _ _ wa.drew
   go_wp2_with fail
   go_roundw
   case rel=>
    have h5:=z8 2 k (.string s) (ln ha) rfl (by omega)
    refine ⟨q + 1,by omega,by go_num,hxa.drew.setCell _ _,?_⟩
    have h6:=lg h5
    rw [HT.out,List.foldl_append,HFQ.out]
    simp only [List.foldl_cons,List.foldl_nil,BC,zn,GX]
    exact h6
   case measure=>simp [intOf]; omega
  ·have hq' : q = m.pend.length:=by omega
   subst hq'
   obtain ⟨c,f⟩:=ld 0 hown rfl
   go_wp2_with fail
   go_end0
   refine ⟨rfl,hxr.setCell _ _,?_⟩
   have h5:=lp (i:=1) (v:=.slice none 0 0) 0 hown rfl
   have h6:=li 2 h5 rfl
   have h7:=lC [_,_] (lF 245 2 h6)
   rw [List.take_length] at h7
   refine As (m:=m.flush) (vf:=.slice af m.fl.length cf) (vp:=.slice none 0 0) ?_
   simp only [DevM.flush,lP]
   exact h7
end Go.Proofs.YtbpblokfiajpjabGreatDoor
namespace Go.SL
open Go.RowKit
theorem ED {w : World} {L : List HP} (k : Nat) {e : TypeId} {sz n cap : Nat} {ao : Option Addr} {xs : List Value} (H : own w L) (hk : L[k]? = some (row e sz (.slice ao n cap) n xs)) :
  (∀ad,ao = some ad -> ∀j u,xs[j]? = some u -> w.cell? (ad.add j) = some u) /\ (ao = none -> n = 0):=by
 obtain ⟨ap',gp',cp',hv,-,-,-,h5,k1,k2,k3⟩:=lm k H hk
 simp only [Value.slice.injEq,true_and] at hv
 obtain ⟨rfl,rfl⟩:=hv
 refine ⟨fun ad had j u hu=>?_,fun h=>(h5 h).1⟩
 obtain rfl:=k1 _ had
 rw [Go.Proofs.YtbpblokfiajpjabGreatDoor.add_none,Nat.zero_add]
 exact k2 j u hu
end Go.SL
namespace Go.Proofs.YtbpblokfiajpjabGreatDoor
open Go.RowKit Go.SL
theorem GF {l : List ByteArray} : ∀u∈strCells l,u.oneCell' = true:=fun u hu=>by
 obtain ⟨_,_,rfl⟩:=List.mem_map.1 hu; rfl
theorem MT {l : List (Int×ByteArray)} : ∀u∈yp l,u.oneCell' = true:=fun u hu=>by
 simp only [yp,List.mem_flatMap] at hu
 obtain ⟨_,_,hu⟩:=hu
 simp at hu
 rcases hu with rfl | rfl <;> rfl
theorem MM (l : List (Int×ByteArray)) : (yp l).length = l.length * 2:=by
 induction l with
 | nil=>rfl
 | cons x l ih=>simp only [yp,List.flatMap_cons,List.length_append,List.length_cons,List.length_nil] at ih ⊢; omega
def Wa (c b : Nat) (m : DevM) (vc vf vp : Value) (ks : List Bool) (R : List SL.HP) (w0 : World) (i : Value) (wr : World) : Prop:=
 ∃q : Nat,q <= m.pend.length /\ i = .int .i64 q /\ Ext w0 wr /\ own wr (pts c (.cells #[vc,.slice none 0 0,.int .i64 (-1),.int .i64 m.writes] 214 (0,0))::row 9 1 vc m.fl.length (strCells ((yD (m.pend.take q) ks).foldl BC m.fl))::
  pts b (.cells #[vf,vp,.int .i64 m.fail,.int .i64 m.writes] 214 (0,0))::row 9 1 vf m.fl.length (strCells m.fl)::row 245 2 vp m.pend.length (yp m.pend)::R)
theorem LZ (b : Nat) (m : DevM) (hm : m.Ok) (v : Value) (ks : List Bool) (R : List SL.HP) (w : World) (hv : ∀w' l,own w' (l++R) -> zJ w' v ks) (H : own w (lj b m::R)) :
  Calls Tryz.prog 132 #[.pointer (some ⟨b,0,none⟩),v] w fun e w'=>∃c,e = .returned (.pointer (some ⟨c,0,none⟩)) /\ Ext w w' /\ own w' (lj c (m.crash ks)::lj b m::R):=by
 obtain ⟨vf,vp,h⟩:=Cr H
 have hl1:=hm.n
 have hl2:=hm.p
 obtain ⟨ao,kb,koff,kcap,rfl,kc1,kc2,-,-⟩:=hv w [lj b m] H
 obtain ⟨ap,gp,cp,rfl,p1,p2,p3,-,-,-,-⟩:=lm 2 h rfl
 obtain ⟨af,gf,cf,rfl,f1,f2,f3,-,-,-,-⟩:=lm 1 h rfl
 obtain ⟨c,f⟩:=ld 0 h rfl
 obtain ⟨n1,n2⟩:=ED 1 (ln h) rfl
 have hml : 0 + m.fl.length <= maxLen:=by simp only [maxLen]; omega
 have hnl : (strCells m.fl).length = m.fl.length * 1:=by simp [strCells]
 go_enter Tryz.func132,Tryz.ntmps132
 go_wp2_with fail
 go_region_held3 (fun w'=>w'.cell? ⟨b,0,none⟩ = some (.slice af m.fl.length cf) /\ w'.cell? ⟨b,3,none⟩ = some (.int .i64 m.writes)) (first | exact ⟨(ld 0 (ln h) rfl).1 0,(ld 0 (ln h) rfl).1 3⟩ | exact ⟨(ld 1 h2 rfl).1 0,(ld 1 h2 rfl).1 3⟩ | exact ⟨(ld 2 (lh h2 _) rfl).1 0,(ld 2 (lh h2 _) rfl).1 3⟩)
  ((refine Af (by rfl) _ _ 51 (by rfl) 0 9 Tryz.underlying51 AX rfl (by decide) (by rfl) (lF 9 1 (ln h)) rfl af m.fl.length cf (strCells m.fl) (by rfl) hnl n1 n2 GF hml (by omega) ?_; intro v2 w2 h2 hx2; obtain ⟨a2,g2,c2,rfl,q1,q2,q3,-,-,-,-⟩:=lm 0 h2 rfl))
 simp only [Nat.zero_add,List.nil_append,List.set_cons_zero] at h2 q1 q3
 have h3:=lh h2 (.cells #[.slice a2 m.fl.length c2,.slice none 0 0,.int .i64 (-1),.int .i64 m.writes] 214)
 have hx3:=(((zR w).drew).trans hx2).alloc (.cells #[.slice a2 m.fl.length c2,.slice none 0 0,.int .i64 (-1),.int .i64 m.writes] 214)
 clear n1 n2 c f h2 hx2 h H
 generalize w2.heap.size = cc at *
 generalize w2.alloc (.cells #[.slice a2 m.fl.length c2,.slice none 0 0,.int .i64 (-1),.int .i64 m.writes] 214) = w3 at *
 have P3:=zh p3
 have F3:=zh q3
 have HV:=zh hv
 clear p3 q3 f3 hv
 obtain ⟨c,f⟩:=ld 2 h3 rfl
 go_wp2_with fail
 go_loopw [24] (Wa cc b m (.slice a2 m.fl.length c2) (.slice af m.fl.length cf) (.slice ap m.pend.length cp) ks R w) (fun i _=>m.pend.length - (intOf i).toNat)
 case atStart=>exact ⟨0,Nat.zero_le _,rfl,hx3,h3⟩
 case round=>
  clear c f h3 hx3
  obtain ⟨q,hq,rfl,hxr,hown⟩:=hrel
  by_cases hlt : q < m.pend.length
  ·obtain rfl:=P3.out (by omega)
   obtain ⟨x1,x2,x3⟩:=hm.pend _ (NS hlt)
   obtain ⟨e1,e2⟩:=Cl hlt
   obtain ⟨k2,-⟩:=oa 4 hown rfl
   have c1:=k2 _ _ e1
   have c2':=k2 _ _ e2
   have hto:=MG (m.pend.take q) (m.pend.getD q (0,ByteArray.empty)) ks
   rw [<- yU (0,ByteArray.empty) hlt,List.length_take,Nat.min_eq_left (by omega)] at hto
   have HT:=zh hto
   clear hto
   generalize hx : m.pend.getD q (0,ByteArray.empty) = x at *
   clear k2 e1 e2 hx
   obtain ⟨n,s⟩:=x
   dsimp only at x1 x2 x3 c1 c2'
   obtain ⟨k,rfl⟩:=ze x1
   obtain rfl:=F3.out (by omega)
   go_upto_region 5 with (fail)
   have ha:=lh hown (.cells #[.int .i64 k,.string s] 245)
   have hxa:=hxr.alloc (.cells #[.int .i64 k,.string s] 245)
   clear c1 c2' hown
   generalize wr.heap.size = ba at *
   generalize wr.alloc (.cells #[.int .i64 k,.string s] 245) = wa at *
   obtain ⟨c0,f0⟩:=ld 0 ha rfl
   obtain ⟨c,f⟩:=ld 1 ha rfl
   obtain ⟨k2,k3⟩:=oa 2 ha rfl
   have hlen:=lP (yD (m.pend.take q) ks) m.fl
   generalize hfq : (yD (m.pend.take q) ks).foldl BC m.fl = fq at *
   have HFQ:=zh hfq
   clear hfq
   have c2:=k2 k _ (BX (by omega))
   clear k2
   obtain ⟨ao',kb',koff',kcap',hkv,-,-,hk1,hk2⟩:=HV.out wa [_,_,_,_,_,_] ha
   simp only [Value.slice.injEq,true_and] at hkv
   obtain ⟨rfl,rfl⟩:=hkv
   have hkeep : ks.getD q false = true -> q < ks.length:=fun h=>by
    rcases Nat.lt_or_ge q ks.length with h' | h'
    ·exact h'
    ·simp [h'] at h
   by_cases hin : q < ks.length
   ·obtain rfl:=hk1 (by omega)
    have ck:=hk2 q hin
    dsimp only at ck
    clear hk1 hk2
    cases hkq : ks.getD q false
    ·rw [hkq] at ck
     clear hkeep
     go_wp2_with fail
     go_roundw
     case rel=>
      refine ⟨q + 1,by omega,by go_num,hxa,?_⟩
      have h6:=lg ha
      rw [HT.out,hkq,zq (by simp),List.append_nil,HFQ.out]
      exact h6
     case measure=>simp [intOf]; omega
    ·rw [hkq] at ck
     clear hkeep
     go_upto_region 6 with (fail)
     go_still_tail 8,(by kernel_rfl)
     change wpList _ _ _ _ _ wa.drew
     go_wp2_with fail
     go_roundw
     case rel=>
      have h5:=z8 2 k (.string s) (ln ha) rfl (by omega)
      refine ⟨q + 1,by omega,by go_num,hxa.drew.setCell _ _,?_⟩
      have h6:=lg h5
      rw [HT.out,hkq,zt rfl,List.foldl_append,HFQ.out]
      simp only [List.foldl_cons,List.foldl_nil,BC,zn,GX]
      exact h6
     case measure=>simp [intOf]; omega
   ·have hkq : ks.getD q false = false:=by
     cases h : ks.getD q false
     ·rfl
     ·exact absurd (hkeep h) hin
    clear hkeep hk1 hk2
    go_wp2_with fail
    go_roundw
    case rel=>
     refine ⟨q + 1,by omega,by go_num,hxa,?_⟩
     have h6:=lg ha
     rw [HT.out,hkq,zq (by simp),List.append_nil,HFQ.out]
     exact h6
    case measure=>simp [intOf]; omega
  ·have hq' : q = m.pend.length:=by omega
   subst hq'
   rw [List.take_length] at hown
   clear HV
   go_wp2_with fail
   go_ret
   refine ⟨cc,rfl,hxr,?_⟩
   have h7:=lC [_,_] (lF 245 2 hown)
   have h8:=As (b:=cc) (m:=m.crash ks) (vf:=.slice a2 m.fl.length c2) (vp:=.slice none 0 0) (by
    simp only [DevM.crash,lP]
    exact h7)
   exact lC [_] (As (lC [_,_,_] h8))
end Go.Proofs.YtbpblokfiajpjabGreatDoor
namespace Go.SL
open Go.RowKit
end Go.SL
namespace Go.Proofs.YtbpblokfiajpjabGreatDoor
open Go.RowKit Go.SL
def catL (l : List ByteArray) : List UInt8:=l.flatMap fun s=>s.data.toList
def cat (l : List ByteArray) : ByteArray:=⟨(catL l).toArray⟩
theorem Dy {l : List ByteArray} {k : Nat} (h : ∀s∈l,s.size = k) : (catL l).length = l.length * k:=by
 induction l with
 | nil=>simp [catL]
 | cons x l ih=>
  have h1:=ih fun s hs=>h s (by simp [hs])
  have h2:=h x (by simp)
  have h3 : x.data.toList.length = k:=by rw [<- h2]; rfl
  simp only [catL,List.flatMap_cons,List.length_append,List.length_cons,Nat.add_mul,h3] at h1 ⊢
  omega
theorem FZ (b : Nat) (m : DevM) (hm : m.Ok) (R : List SL.HP) (w : World) (H : own w (lj b m::R)) :
  Calls Tryz.prog 94 #[.pointer (some ⟨b,0,none⟩)] w fun e w'=>∃c,e = .returned (.pointer (some ⟨c,0,none⟩)) /\ Ext w w' /\ own w' (lj c m::lj b m::R):=by
 obtain ⟨vf,vp,h⟩:=Cr H
 have hl1:=hm.n
 have hl2:=hm.p
 obtain ⟨ap,gp,cp,rfl,p1,p2,p3,-,-,-,-⟩:=lm 2 h rfl
 obtain ⟨af,gf,cf,rfl,f1,f2,f3,-,-,-,-⟩:=lm 1 h rfl
 obtain ⟨c,f⟩:=ld 0 h rfl
 have hml : 0 + m.fl.length <= maxLen:=by simp only [maxLen]; omega
 have hnl : (strCells m.fl).length = m.fl.length * 1:=by simp [strCells]
 have hml2 : 0 + m.pend.length <= maxLen:=by simp only [maxLen]; omega
 go_enter Tryz.func94,Tryz.ntmps94
 go_upto_region 2 with (fail)
 have h1:=lh h (.cells #[.slice af m.fl.length cf,.slice ap m.pend.length cp,.int .i64 m.fail,.int .i64 m.writes] 214)
 have hx1:=(zR w).alloc (.cells #[.slice af m.fl.length cf,.slice ap m.pend.length cp,.int .i64 m.fail,.int .i64 m.writes] 214)
 clear c f h H
 generalize w.heap.size = cc at *
 generalize w.alloc (.cells #[.slice af m.fl.length cf,.slice ap m.pend.length cp,.int .i64 m.fail,.int .i64 m.writes] 214) = w1 at *
 obtain ⟨c0,f0⟩:=ld 0 h1 rfl
 obtain ⟨c1,f1'⟩:=ld 1 h1 rfl
 obtain ⟨n1,n2⟩:=ED 2 h1 rfl
 go_wp2_with (first | (at_builtin; refine lX rfl _ _ 51 rfl 0 9 Tryz.underlying51 AX rfl (by decide) rfl (lF 9 1 h1) rfl af m.fl.length cf (strCells m.fl) rfl hnl n1 n2 GF hml (by omega) ?_))
 clear n1 n2 c0 f0 c1 f1'
 intro v2 w2 h2 hx2
 obtain ⟨a2,g2,c2,rfl,q1,q2,q3,-,-,-,-⟩:=lm 0 h2 rfl
 try simp only [Nat.zero_add,List.nil_append,List.set_cons_zero] at h2
 try simp only [Nat.zero_add] at q1
 try simp only [Nat.zero_add] at q3
 obtain ⟨c0,f0⟩:=ld 1 h2 rfl
 obtain ⟨c1,f1'⟩:=ld 2 h2 rfl
 go_upto_region 3 with (fail)
 have h3:=lp (i:=0) (v:=.slice a2 m.fl.length c2) 1 h2 rfl
 have hx3:=(hx1.trans hx2).setCell ⟨cc,0,none⟩ (.slice a2 m.fl.length c2)
 clear c0 f0 c1 f1' hx1 hx2 h1 h2
 generalize w2.setCell ⟨cc,0,none⟩ (.slice a2 m.fl.length c2) = w3 at *
 obtain ⟨c0,f0⟩:=ld 1 h3 rfl
 obtain ⟨c1,f1'⟩:=ld 2 h3 rfl
 obtain ⟨n1,n2⟩:=ED 4 h3 rfl
 go_wp2_with (first | (at_builtin; refine lX rfl _ _ 212 rfl 0 245 Tryz.underlying212 Kz rfl (by decide) rfl (lF 245 2 h3) rfl ap m.pend.length cp (yp m.pend) rfl (MM _) n1 n2 MT hml2 (by omega) ?_))
 clear n1 n2 c0 f0 c1 f1'
 intro v4 w4 h4 hx4
 obtain ⟨a4,g4,c4,rfl,q4,q5,q6,-,-,-,-⟩:=lm 0 h4 rfl
 try simp only [Nat.zero_add,List.nil_append,List.set_cons_zero] at h4
 try simp only [Nat.zero_add] at q4
 try simp only [Nat.zero_add] at q6
 obtain ⟨c0,f0⟩:=ld 2 h4 rfl
 go_wp2_with fail
 go_ret
 refine ⟨cc,rfl,(hx3.trans hx4).setCell _ _,?_⟩
 have h5:=lp (i:=1) (v:=.slice a4 m.pend.length c4) 2 h4 rfl
 have h6:=lC [_] (lC [_,_] h5)
 exact lC [_] (As (lC [_,_,_] (As h6)))
def BD : ByteArray:=⟨#[0,0,0,0,0,0,0,0,0,0,0,0,0,0,0,0]⟩
def od (n : Nat) : DevM:={ fl:=List.replicate n BD,pend:=[],fail:=-1,writes:=0 }
theorem Ao {n : Nat} (h : n <= 200) : (od n).Ok:=
 ⟨by simp [od]; exact h,fun s hs=>by rw [(List.mem_replicate.1 hs).2]; rfl,by simp [od],fun x hx=>by simp [od] at hx,by simp [od],by simp [od]⟩
theorem Yf : (⟨(Lib.repeatL (⟨#[0]⟩ : ByteArray).data.toList 16).toArray⟩ : ByteArray) = BD:=rfl
def NK (n : Int) : Bool:=decide (1 <= n /\ n <= 200)
theorem yl (w : World) (cs : List Value) (T : TypeId) : ∀ad,some (⟨w.heap.size,0,none⟩ : Addr) = some ad -> ∀j u,cs[j]? = some u -> (w.alloc (.cells cs.toArray T)).cell? (ad.add j) = some u:=fun ad had j u hu=>by
 obtain rfl:=Option.some.inj had
 rw [add_none,Nat.zero_add]
 have h:=lh (EZ w) (.cells cs.toArray T)
 rw [(ld 0 h rfl).1]
 simpa using hu
theorem La (s : ByteArray) : ∀u∈[Value.string s],u.oneCell' = true:=fun u hu=>by simp at hu; subst hu; rfl
theorem U8 (w : World) : Calls Tryz.prog 154 #[.string ⟨#[0]⟩,.int .i64 16] w fun e w'=>e = .returned (.string BD) /\ Below w.heap.size w w':=
 (Tryz.strings_Repeat ⟨#[0]⟩ 16 w (by decide) (by decide)).mono fun _ _ h=>⟨by rw [h.1,Yf],h.2⟩
def XQ (b : Nat) (n : Nat) (R : List SL.HP) (w0 : World) (i : Value) (wr : World) : Prop:=
 ∃q : Nat,q <= n /\ i = .int .i64 q /\ Ext w0 wr /\ ∃ao g cap,q <= cap /\ cap <= maxLen /\ own wr (pts b (.cells #[.slice ao q cap,.slice none 0 0,.int .i64 (-1),.int .i64 0] 214 (0,0))::row 9 1 (.slice ao q cap) q (strCells (List.replicate q BD))::R) /\ (0 < q -> ao = some ⟨g,0,none⟩)
theorem Fh (n : Nat) (R : List SL.HP) (w : World) (h : NK n = true) (H : own w R) : Calls Tryz.prog 61 #[.int .i64 n] w fun e w'=>∃b,e = .returned (.tuple #[.pointer (some ⟨b,0,none⟩),.nilIface]) /\ Ext w w' /\ own w' (lj b (od n)::R):=by
 simp only [NK,decide_eq_true_eq] at h
 obtain ⟨n1,n2⟩:=h
 go_enter Tryz.func61,Tryz.ntmps61
 go_upto_region 4 with (fail)
 have ha:=lh H (.cells #[.slice none 0 0,.slice none 0 0,.int .i64 (-1),.int .i64 0] 214)
 have hx1:=(zR w).alloc (.cells #[.slice none 0 0,.slice none 0 0,.int .i64 (-1),.int .i64 0] 214)
 generalize w.heap.size = b at *
 generalize w.alloc (.cells #[.slice none 0 0,.slice none 0 0,.int .i64 (-1),.int .i64 0] 214) = w1 at *
 have h1:=lC [_] (lF 9 1 ha)
 clear ha
 go_wp2_with fail
 go_loopw [15] (XQ b n R w) (fun i _=>n - (intOf i).toNat)
 case atStart=>exact ⟨0,Nat.zero_le _,rfl,hx1,none,0,0,Nat.le_refl _,by simp [maxLen],h1,fun h=>absurd h (by simp)⟩
 case round=>
  clear h1 hx1
  obtain ⟨q,hq,rfl,hxr,ao,g,cap,q1,q2,hown,q3⟩:=hrel
  by_cases hlt : q < n
  ·have hml : q + 1 <= maxLen:=by simp only [maxLen]; omega
   clear q3
   go_upto_region 6 with (fail)
   obtain ⟨c,f⟩:=ld 0 (ln hown) rfl
   go_region_law (first | (refine Af (by rfl) _ _ 51 (by rfl) 2 9 Tryz.underlying51 AX rfl (by decide) (by rfl) (lh h2 _) rfl (some ⟨w2.heap.size,0,none⟩) 1 1 [.string BD] (by rfl) rfl (yl w2 [.string BD] _) (fun h=>by cases h) (La _) hml (by omega) ?_; intro v4 w4 h4 hx4; obtain ⟨a4,g4,c4,rfl,s1,s2,s3,-,-,-,-⟩:=lm 2 h4 rfl; obtain rfl:=s3 (by omega); obtain ⟨cc,ff⟩:=ld 1 h4 rfl) | (go_simp; go_at_call 154; refine (U8 _).mono ?_; rintro e w2 ⟨rfl,hb2⟩; have h2:=Gy (ln hown) hb2; obtain ⟨c2,f2⟩:=ld 0 h2 rfl; have h2a:=lh h2 (.cells #[.string BD] 9); obtain ⟨c3,f3⟩:=ld 1 h2a rfl))
   all_goals
    go_wp2_with fail
    go_roundw
    case rel=>
     have h5:=lp (i:=0) (v:=.slice (some ⟨g4,0,none⟩) (q + 1) c4) 1 h4 rfl
     refine ⟨q + 1,by omega,by go_num,?_,_,g4,c4,s1,s2,?_,fun _=>rfl⟩
     ·exact (((hxr.drew.trans (GK hb2)).alloc _).trans hx4).setCell _ _
     ·have h6:=lg h5
      have e : strCells (List.replicate (q + 1) BD) = strCells (List.replicate q BD)++[.string BD]:=by simp [strCells,List.replicate_succ']
      rw [e]
      exact h6
    case measure=>simp [intOf]; omega
  ·have hq' : q = n:=by omega
   subst hq'
   clear q3
   go_wp2_with fail
   go_ret2
   refine ⟨b,rfl,hxr,As (m:=od q) (vf:=.slice ao q cap) (vp:=.slice none 0 0) ?_⟩
   have h5:=lC [_,_] (lF 245 2 hown)
   simp only [od,List.length_replicate]
   exact h5
end Go.Proofs.YtbpblokfiajpjabGreatDoor
namespace Go.Proofs.YtbpblokfiajpjabGreatDoor
open Go.RowKit Go.SL
def lw (s : ByteArray) (i : Nat) : ByteArray:=s.extract (i * 16) ((i + 1) * 16)
def zs (n : Nat) : ByteArray:=⟨(List.replicate n 0).toArray⟩
theorem AG (n : Nat) : (zs n).size = n:=by simp [zs,ByteArray.size]
theorem DR : Elem Tryz.prog 5 1 1 (.int .u8 0):=by unfold Elem; kernel_rfl
theorem F7 : Elem Tryz.prog 3 1 8 (.int .i64 0):=by unfold Elem; kernel_rfl
theorem Fd (n : Nat) (hn : n <= 1000000) (R : List SL.HP) (w : World) (H : own w R) : Calls Tryz.prog 92 #[.int .i64 n] w fun e w'=>e = .returned (.string (zs n)) /\ Ext w w' /\ own w' R:=by
 go_enter Tryz.func92,Tryz.ntmps92
 have hml : n <= maxLen:=by simp only [maxLen]; omega
 go_wp2_with (first | (refine CO rfl _ _ 211 rfl 5 Tryz.underlying211 DR rfl .i64 .i64 n rfl rfl (by omega) hml H ?_))
 intro w1 h1 hx1
 obtain ⟨k2,-⟩:=oa 0 h1 rfl
 have hcv : ∀i,i < n -> w1.cell? ⟨w.heap.size,0 + i,none⟩ = some (.int .u8 ((List.replicate n (0 : Int)).getD i 0)):=fun i hi=>by
  rw [Nat.zero_add]
  refine k2 i _ ?_
  try simp only [Nat.mul_one]
  try rw [show (Value.int IntKind.u8 0).cells = #[.int .u8 0] from rfl]
  rw [toList_madeCells_one]
  simp [hi]
 have hconv:=run_convert_bytes_arg (P:=Tryz.prog) w1 211 5 Tryz.underlying211 Tryz.underlying5 w.heap.size 0 n n (List.replicate n (0 : Int)) (by simp) hcv 9 Tryz.underlying9
 have hz : strOfNums (List.replicate n (0 : Int)) = zs n:=by
  unfold strOfNums zs
  simp
 rw [hz] at hconv
 clear hz hcv k2
 go_wp2_with fail
 go_ret
 exact ⟨rfl,hx1,lg h1⟩
def Vm (l : List (Int×ByteArray)) : List Value:=l.map fun x=>.int .i64 x.1
def U2 (l : List (Int×ByteArray)) : List Value:=l.map fun x=>.string x.2
theorem WJ (k : Int) : ∀u∈[Value.int .i64 k],u.oneCell' = true:=fun u hu=>by simp at hu; subst hu; rfl
def XV (b : Nat) (m : DevM) : HP:=exi fun v : Value×Value×Value=>star [pts b (.cells #[v.1,v.2.1,v.2.2,.int .i64 m.fail,.int .i64 m.writes] 162 (0,0)),row 9 1 v.1 m.fl.length (strCells m.fl),row 3 1 v.2.1 m.pend.length (Vm m.pend),row 9 1 v.2.2 m.pend.length (U2 m.pend)]
end Go.Proofs.YtbpblokfiajpjabGreatDoor
namespace Go.Proofs.YtbpblokfiajpjabGreatDoor
open Go.RowKit Go.SL Go.Deep Go.ChangeShapes Go.WideShapes
theorem SlAt.later {v : Value} {n : Nat} {p q : Nat -> Nat -> Nat -> Prop} (h : SlAt v n p) (hpq : ∀b o i,p b o i -> q b o i) : SlAt v n q:=by
 obtain ⟨ao,b,off,cap,hv,h1,h2,h3,h4⟩:=h
 exact ⟨ao,b,off,cap,hv,h1,h2,h3,fun i hi=>hpq _ _ _ (h4 i hi)⟩
theorem zJ.later {w w' : World} {v : Value} {ks : List Bool} (h : zJ w v ks) {l : List HP} (k : Nat) (H : own w' l) (hk : l[k]? = some (oX w)) : zJ w' v ks:=
 SlAt.later h fun _ _ _ h=>yI k H hk h
theorem Cu.later {w w' : World} {b o : Nat} {a : Act} (h : Cu w b o a) {l : List HP} (k : Nat) (H : own w' l) (hk : l[k]? = some (oX w)) : Cu w' b o a:=by
 obtain ⟨h0,h1,h2,h3,h4,h5,h6⟩:=h
 exact ⟨yI k H hk h0,yI k H hk h1,yI k H hk h2,yI k H hk h3,yI k H hk h4,yI k H hk h5,yI k H hk h6⟩
theorem BY.later {w w' : World} {v : Value} {l : List Act} (h : BY w v l) {L : List HP} (k : Nat) (H : own w' L) (hk : L[k]? = some (oX w)) : BY w' v l:=
 ⟨SlAt.later h.1 fun _ _ _ h=>Cu.later h k H hk,fun a ha=>{ h.2 a ha with keep:=(h.2 a ha).keep.later k H hk }⟩
theorem BY.form {w : World} {v : Value} {l : List Act} (h : BY w v l) : ∃ao b off cap,v = .slice ao l.length cap /\ l.length <= 9223372036854775807 /\ (0 < l.length -> ao = some ⟨b,off,none⟩) /\
  ∀i,i < l.length -> Cu w b (off + i * 7) (l.getD i CD):=by
 obtain ⟨⟨ao,b,off,cap,hv,h1,h2,h3,h4⟩,_⟩:=h
 exact ⟨ao,b,off,cap,hv,by omega,h3,h4⟩
theorem C2 {a b : ByteArray} (h : a.toList = b.toList) : a = b:=by
 rw [ByteArray.toList_eq,ByteArray.toList_eq] at h
 exact bytes_inj h
def Bs (w : World) (v : Value) (l : List ByteArray) : Prop:=
 SlAt v l.length (fun b off i=>w.cell? ⟨b,off + i,none⟩ = some (.string (l.getD i ByteArray.empty))) /\ ∀s∈l,s.size <= 9223372036854775807
theorem Bs.later {w w' : World} {v : Value} {l : List ByteArray} (h : Bs w v l) {L : List HP} (k : Nat) (H : own w' L) (hk : L[k]? = some (oX w)) : Bs w' v l:=
 ⟨SlAt.later h.1 fun _ _ _ h=>yI k H hk h,h.2⟩
theorem Bs.form {w : World} {v : Value} {l : List ByteArray} (h : Bs w v l) : ∃ao b off cap,v = .slice ao l.length cap /\ l.length <= cap /\ cap <= 9223372036854775807 /\ (0 < l.length -> ao = some ⟨b,off,none⟩) /\
  ∀i,i < l.length -> w.cell? ⟨b,off + i,none⟩ = some (.string (l.getD i ByteArray.empty)):=by
 obtain ⟨⟨ao,b,off,cap,hv,h1,h2,h3,h4⟩,_⟩:=h
 exact ⟨ao,b,off,cap,hv,h1,h2,h3,h4⟩
section
variable {H : Type} {enc : TypeId×Value -> H} {w : World} {base : Nat} {spare : Nat -> Bool} {held : Bool}
end
theorem Om {l : List ByteArray} {i : Nat} (hi : i < l.length) : l.getD i ByteArray.empty∈l:=by
 simp [hi]
end Go.Proofs.YtbpblokfiajpjabGreatDoor
