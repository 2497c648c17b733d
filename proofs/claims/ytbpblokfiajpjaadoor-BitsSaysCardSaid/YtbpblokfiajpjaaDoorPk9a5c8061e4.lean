/- Lemmas on which BitsSays stands: the texts Tk SL Acts Errs Ones Row Shelf Dev Dev2 Dev3 Dev4 Dev5 Dev6 RDev Strs Crc Sum Shape Shape2 Shape3. No conditions. -/
import Derived.WalkKit
import Derived.Deep.RegionHeld3
import Derived.Deep.Quiet
import Derived.Test.YtbpblokfiajpjaaDoorProg
import Derived.Deep.Slices
import Derived.Deep.Fields
import Derived.ProofKit
import Derived.OpenShut
import Derived.WalkLawsBesides
import Derived.StillTailTactics
import Derived.BigQuiet
import Derived.Deep.QuietTactic
import Derived.Lib.Hide
import Derived.Laws.Bits64b
import Derived.Laws.AppendOwn
import Derived.OwnWalk
import Derived.Deep.Cut
import Derived.Lib.Join
import Derived.Deep.RegionLaw
import Derived.Laws.Strings2
import Derived.Laws.BytesArg
import Derived.Laws.OwnMore
import Derived.Deep.DrawnRows
set_option linter.all false
set_option maxRecDepth 1000000
set_option maxHeartbeats 32000000
namespace Go
theorem zq {c : Prop} {h : Decidable c} (n : ¬c) {α : Sort _} {t e : α} : ite c t e = e:=if_neg n
theorem zt {c : Prop} {h : Decidable c} (n : c) {α : Sort _} {t e : α} : ite c t e = t:=if_pos n
theorem zf {p : Prop} [Decidable p] (h : ¬p) : decide p = false:=decide_eq_false h
theorem zg {p : Prop} [Decidable p] (h : p) : decide p = true:=decide_eq_true h
theorem zb {α : Type _} [BEq α] [LawfulBEq α] {a b : α} : (a == b) = false↔a≠b:=beq_eq_false_iff_ne
theorem zi (n : Int) (h : -9223372036854775808 <= n /\ n <= 9223372036854775807) : IntKind.i64.wrap n = n:=IntWalk.i64_in n h
theorem zS {α : Type} {l : List α} {i : Nat} {a : α} : l[i]? = some a↔∃h : i < l.length,l[i] = a:=List.getElem?_eq_some_iff
end Go
namespace Go.SL
section
variable {P : Program} {ops : Array Oper} {Q : Exit -> Act -> World -> Prop} {md : Region.Mode} {S : World -> Prop}
theorem tk (i : Nat) {v : Value} {oi : Oper} {fuel : Nat} {listed : Array Bool} {a : Act} {w : World} (h : wpAnyH P md ops Q S fuel (listed.setIfInBounds i true) (a.put oi.dst v) w)
  (hi : ops[i]? = some oi:=by rfl) (hy : ∀w,S w -> (execOp a.eval oi).run P w = .ok (.value v) w:=by intro w hSw; go_simp; try with_reducible rfl) (hS : S w:=by assumption) (hs : Region.noSelect ops = true:=by kernel_rfl)
  (hf : Region.free md ops listed i = true:=by kernel_rfl) (hr : (Region.ready md ops listed).contains i = true:=by kernel_rfl) (hw : Region.wanted oi (yielded ops a.tmps) = true:=by kernel_rfl)
  (hQ : ∀c a w,Q (.panic c) (a.put oi.dst v) w -> Q (.panic c) a w:=by exact fun _ _ _ h=>h) : wpAnyH P md ops Q S (fuel + 1) listed a w:=
 wpAnyH_take hi hs hf hr hQ (Or.inl ⟨hw,hy⟩) hS h
theorem rd (i : Nat) {o : Oper} {fuel : Nat} {listed : Array Bool} {a : Act} {w : World} (ho : ops[i]? = some o)
  (h : ∀K' : Act -> World -> Prop,Shut (∀a w,S w -> (S w -> wpAnyH P md ops Q S fuel (listed.setIfInBounds i true) a w) -> K' a w) -> if Region.wanted o (yielded ops a.tmps) = true then Oper.wp P o a w K' Q else K' (a.put o.dst undef) w)
  (hr : Region.ready md ops listed = [i]:=by kernel_rfl) : wpAnyH P md ops Q S (fuel + 1) listed a w:=
 wpAnyH_ready hr (by simp) (AllReadyH.cons ho h AllReadyH.nil)
end
theorem tA {α : Type} {l : List α} {i : Nat} {x : α} : l.toArray.setIfInBounds i x = (l.set i x).toArray:=List.setIfInBounds_toArray ..
theorem tB {α : Type} {l : List α} {i : Nat} (h : i < l.toArray.size) : l.toArray[i] = l[i]'(by simpa using h):=List.getElem_toArray h
theorem tC {α : Type} {a : α} {l : List α} {i : Nat} (h : i + 1 < (a::l).length) : (a::l)[i + 1] = l[i]'(Nat.lt_of_succ_lt_succ h):=rfl
theorem tD {α : Type} {a : α} {l : List α} (h : 0 < (a::l).length) : (a::l)[0] = a:=rfl
theorem tE {α : Type} {a x : α} {l : List α} : (a::l).set 0 x = x::l:=rfl
theorem tF {α : Type} {a x : α} {l : List α} {i : Nat} : (a::l).set (i + 1) x = a::l.set i x:=rfl
end Go.SL
namespace Go
theorem zh {p : Prop} (h : p) : RowKit.Hid p:=Lib.hid h
theorem zn (n : Nat) : (n : Int).toNat = n:=Int.toNat_natCast n
theorem ze {a : Int} (h : 0 <= a) : ∃n : Nat,a = n:=Int.eq_ofNat_of_zero_le h
end Go
namespace Go.SL
open Go.RowKit
abbrev Hp:=Nat -> Option Obj
abbrev HP:=Hp -> Prop
def hpOf (w : World) : Hp:=fun b=>w.heap[b]?
def emp : HP:=fun h=>∀b,h b = none
def pts (b : Nat) (o : Obj) : HP:=fun h=>h b = some o /\ ∀c,c≠b -> h c = none
def sep (P Q : HP) : HP:=fun h=>∃h1 h2 : Hp,(∀b,(h1 b = none /\ h2 b = h b) \/ (h2 b = none /\ h1 b = h b)) /\ P h1 /\ Q h2
def star : List HP -> HP
 | []=>emp
 | P::l=>sep P (star l)
def own (w : World) (l : List HP) : Prop:=∃h : Hp,(∀b,h b = none \/ h b = hpOf w b) /\ star l h
theorem lC {P Q P' Q' : HP} {h : Hp} (hp : ∀h,P h -> P' h) (hq : ∀h,Q h -> Q' h) (H : sep P Q h) : sep P' Q' h:=
 let ⟨h1,h2,a,b,c⟩:=H; ⟨h1,h2,a,hp _ b,hq _ c⟩
theorem lH {P Q : HP} {h : Hp} (H : sep P Q h) : sep Q P h:=
 let ⟨h1,h2,a,b,c⟩:=H; ⟨h2,h1,fun x=>(a x).symm,c,b⟩
theorem oh {P Q R : HP} {h : Hp} (H : sep (sep P Q) R h) : sep P (sep Q R) h:=by
 obtain ⟨h12,h3,a,⟨h1,h2,b,p,q⟩,r⟩:=H
 refine ⟨h1,fun x=>(h2 x).orElse fun _=>h3 x,fun x=>?_,p,h2,h3,fun x=>?_,q,r⟩
 ·rcases a x with ⟨a1,a2⟩ | ⟨a1,a2⟩ <;> rcases b x with ⟨b1,b2⟩ | ⟨b1,b2⟩ <;> simp_all
 ·rcases a x with ⟨a1,a2⟩ | ⟨a1,a2⟩ <;> rcases b x with ⟨b1,b2⟩ | ⟨b1,b2⟩ <;> cases e2 : h2 x <;> simp_all
theorem yD {P : HP} {h : Hp} (H : sep emp P h) : P h:=by
 obtain ⟨h1,h2,a,b,c⟩:=H
 have : h2 = h:=funext fun x=>by rcases a x with ⟨_,y⟩ | ⟨y,z⟩; exact y; rw [y,<- z,b x]
 exact this ▸ c
theorem yu {P : HP} {h : Hp} (H : P h) : sep emp P h:=⟨fun _=>none,h,fun _=>.inl ⟨rfl,rfl⟩,fun _=>rfl,H⟩
theorem oz {P Q R : HP} {h : Hp} (H : sep P (sep Q R) h) : sep Q (sep P R) h:=by
 have h1:=lH H
 have h2:=oh h1
 exact lC (fun _ h=>h) (fun _ h=>lH h) h2
theorem lT {l m : List HP} {h : Hp} (H : sep (star l) (star m) h) : star (l++m) h:=by
 induction l generalizing h with
 | nil=>exact yD H
 | cons P l ih=>exact lC (fun _ h=>h) (fun _ h=>ih h) (oh H)
theorem l8 {l m : List HP} {h : Hp} (H : star (l++m) h) : sep (star l) (star m) h:=by
 induction l generalizing h with
 | nil=>exact yu H
 | cons P l ih=>
  have h1:=lC (fun _ h=>h) (fun _ h=>ih h) H
  obtain ⟨ha,hb,a,b,hc,hd,c,d,e⟩:=h1
  have:=lH (oh (lH (P:=P) (Q:=sep (star l) (star m)) (h:=h) ⟨ha,hb,a,b,hc,hd,c,d,e⟩ |> lC (fun _ h=>lH h) (fun _ h=>h)))
  exact lC (fun _ h=>lH h) (fun _ h=>h) (lH (lC (fun _ h=>h) (fun _ h=>h) (lH this)))
theorem l7 {l : List HP} (k : Nat) {P : HP} {h : Hp} (hk : l[k]? = some P) (H : star l h) : star (P::l.eraseIdx k) h:=by
 induction l generalizing k h with
 | nil=>simp at hk
 | cons Q l ih=>
  cases k with
  | zero=>simp at hk; subst hk; exact H
  | succ k=>
   simp only [List.getElem?_cons_succ] at hk
   exact oz (lC (fun _ h=>h) (fun _ h=>ih k hk h) H)
theorem yb {l : List HP} (k : Nat) {P : HP} {h : Hp} (hk : l[k]? = some P) (H : star (P::l.eraseIdx k) h) : star l h:=by
 induction l generalizing k h with
 | nil=>simp at hk
 | cons Q l ih=>
  cases k with
  | zero=>simp at hk; subst hk; exact H
  | succ k=>
   simp only [List.getElem?_cons_succ] at hk
   exact lC (fun _ h=>h) (fun _ h=>ih k hk h) (oz H)
theorem oO {l m : List HP} (p : l.Perm m) {h : Hp} (H : star l h) : star m h:=by
 induction p generalizing h with
 | nil=>exact H
 | cons x _ ih=>exact lC (fun _ h=>h) (fun _ h=>ih h) H
 | swap x y l=>exact oz H
 | trans _ _ ih1 ih2=>exact ih2 (ih1 H)
theorem op {w : World} {b : Nat} {o : Obj} (h : hpOf w b = some o) : b < w.heap.size:=by
 rcases Nat.lt_or_ge b w.heap.size with h' | h'
 ·exact h'
 ·simp [hpOf,Array.getElem?_eq_none h'] at h
theorem y9 {P Q : HP} {h : Hp} {b : Nat} {o : Obj} (H : sep P Q h) (hp : ∀h,P h -> h b = some o) : h b = some o:=by
 obtain ⟨h1,h2,a,p,q⟩:=H
 have e:=hp _ p
 rcases a b with ⟨x,y⟩ | ⟨x,y⟩
 ·rw [e] at x; cases x
 ·rw [<- y,e]
theorem oG {w : World} {l : List HP} (k : Nat) {b : Nat} {o : Obj} (H : own w l) (hk : l[k]? = some (pts b o)) : w.heap[b]? = some o:=by
 obtain ⟨h,hs,H⟩:=H
 have e:=y9 (l7 k hk H) fun _ h=>h.1
 rcases hs b with x | x
 ·rw [e] at x; cases x
 ·rw [e] at x; exact x.symm
theorem zN {w : World} {l : List HP} (k : Nat) {b : Nat} {o : Obj} (H : own w l) (hk : l[k]? = some (pts b o)) : b < w.heap.size:=op (oG k H hk)
theorem la {w : World} {l : List HP} (k : Nat) {b : Nat} {arr : Array Value} {T : TypeId} (H : own w l) (hk : l[k]? = some (pts b (.cells arr T (0,0)))) :
  (∀o,w.cell? ⟨b,o,none⟩ = arr[o]?) /\ (∀o,w.frozen? ⟨b,o,none⟩ = false):=by
 have h:=oG k H hk
 exact ⟨fun o=>by simp [World.cell?,h],fun o=>by simp [World.frozen?,h]⟩
theorem zK {b : Nat} {o o' : Obj} {Q : HP} {h : Hp} (H : sep (pts b o) Q h) : sep (pts b o') Q (fun c=>if c = b then some o' else h c):=by
 obtain ⟨h1,h2,a,p,q⟩:=H
 refine ⟨fun c=>if c = b then some o' else none,h2,fun c=>?_,⟨by simp,fun c hc=>by simp [hc]⟩,q⟩
 by_cases hc : c = b
 ·subst hc
  rcases a c with ⟨x,y⟩ | ⟨x,y⟩
  ·rw [p.1] at x; cases x
  ·exact .inr ⟨x,by simp⟩
 ·rcases a c with ⟨x,y⟩ | ⟨x,y⟩
  ·exact .inl ⟨by simp [hc],by simp [hc,y]⟩
  ·exact .inl ⟨by simp [hc],by simp [hc]; rw [x,<- y,p.2 c hc]⟩
theorem yW {l : List HP} (k : Nat) {b : Nat} {o o' : Obj} {h : Hp} (H : star l h) (hk : l[k]? = some (pts b o)) : star (l.set k (pts b o')) (fun c=>if c = b then some o' else h c):=by
 have h1:=zK (o':=o') (l7 k hk H)
 refine yb k (P:=pts b o') ?_ ?_
 ·have:=(zS.1 hk).1
  simp [this]
 ·have e : (l.set k (pts b o')).eraseIdx k = l.eraseIdx k:=by
   rw [List.eraseIdx_set_eq]
  rw [e]; exact h1
theorem yx {w : World} {b i : Nat} {v : Value} {arr : Array Value} {T : TypeId} {fr : Nat×Nat} (h : w.heap[b]? = some (.cells arr T fr)) :
  hpOf (w.setCell ⟨b,i,none⟩ v) = fun c=>if c = b then some (.cells (arr.setIfInBounds i v) T fr) else hpOf w c:=by
 funext c
 simp only [hpOf,World.setCell,Array.getElem?_modify]
 by_cases hc : c = b
 ·subst hc; simp [h]
 ·have hc' : ¬b = c:=fun e=>hc e.symm
  simp [hc,hc']
theorem ye {w w' : World} {l : List HP} (k : Nat) {b : Nat} {o o' : Obj} (H : own w l) (hk : l[k]? = some (pts b o)) (hw : hpOf w' = fun c=>if c = b then some o' else hpOf w c) :
  own w' (l.set k (pts b o')):=by
 obtain ⟨h,hs,H⟩:=H
 refine ⟨_,fun c=>?_,yW k (o':=o') H hk⟩
 rw [hw]
 by_cases hc : c = b
 ·simp [hc]
 ·simp only [hc,if_false]; exact hs c
theorem lN {w : World} {l : List HP} (k : Nat) {b i : Nat} {v : Value} {arr : Array Value} {T : TypeId} {fr : Nat×Nat} (H : own w l) (hk : l[k]? = some (pts b (.cells arr T fr))) :
  own (w.setCell ⟨b,i,none⟩ v) (l.set k (pts b (.cells (arr.setIfInBounds i v) T fr))):=
 ye k H hk (yx (oG k H hk))
theorem y8 (w : World) (o : Obj) : hpOf (w.alloc o) = fun c=>if c = w.heap.size then some o else hpOf w c:=by
 funext c
 show (w.heap.push o)[c]? = _
 rw [Array.getElem?_push]; rfl
theorem lq {w : World} {l : List HP} (H : own w l) (o : Obj) : own (w.alloc o) (pts w.heap.size o::l):=by
 obtain ⟨h,hs,H⟩:=H
 have hn : h w.heap.size = none:=by
  rcases hs w.heap.size with x | x
  ·exact x
  ·rw [x]; simp [hpOf]
 refine ⟨fun c=>if c = w.heap.size then some o else h c,fun c=>?_,fun c=>if c = w.heap.size then some o else none,h,fun c=>?_,⟨by simp,fun c hc=>by simp [hc]⟩,H⟩
 ·rw [y8]
  by_cases hc : c = w.heap.size
  ·simp [hc]
  ·simp only [hc,if_false]; exact hs c
 ·by_cases hc : c = w.heap.size
  ·subst hc; exact .inr ⟨hn,by simp⟩
  ·exact .inl ⟨by simp [hc],by simp [hc]⟩
theorem lg {w : World} {l : List HP} (H : own w l) : own w.drew l:=H
theorem ld {w : World} {l : List HP} (n : Nat) (H : own w l) : own (w.drewN n) l:=H
structure Ext (w w' : World) : Prop where
 os : w'.os = w.os
 tape : w'.tape = w.tape
 output : w'.output = w.output
 size : w.heap.size <= w'.heap.size
theorem Ext.refl (w : World) : Ext w w:=⟨rfl,rfl,rfl,Nat.le_refl _⟩
theorem zR (w : World) : Ext w w:=Ext.refl w
theorem Ext.trans {a b c : World} (h : Ext a b) (k : Ext b c) : Ext a c:=⟨k.os.trans h.os,k.tape.trans h.tape,k.output.trans h.output,Nat.le_trans h.size k.size⟩
theorem Ext.setCell {a w : World} (h : Ext a w) (p : Addr) (v : Value) : Ext a (w.setCell p v):=h.trans ⟨rfl,rfl,rfl,by simp [World.setCell]⟩
theorem Ext.alloc {a w : World} (h : Ext a w) (o : Obj) : Ext a (w.alloc o):=h.trans ⟨rfl,rfl,rfl,by simp⟩
theorem Ext.drew {a w : World} (h : Ext a w) : Ext a w.drew:=h.trans ⟨rfl,rfl,rfl,Nat.le_refl _⟩
theorem Ext.drewN {a w : World} (n : Nat) (h : Ext a w) : Ext a (w.drewN n):=h.trans ⟨rfl,rfl,rfl,Nat.le_refl _⟩
def lj (w : World) : HP:=fun h=>h = hpOf w
theorem ya (w : World) : own w [lj w]:=
 ⟨hpOf w,fun _=>.inr rfl,hpOf w,fun _=>none,fun b=>.inr ⟨rfl,rfl⟩,rfl,fun _=>rfl⟩
theorem yg {w w' : World} {l : List HP} (k : Nat) (H : own w' l) (hk : l[k]? = some (lj w)) : ∀b,b < w.heap.size -> w'.heap[b]? = w.heap[b]?:=by
 intro b hb
 obtain ⟨h,hs,H⟩:=H
 obtain ⟨h1,h2,a,p,_⟩:=l7 k hk H
 have hb1 : h1 b≠none:=by rw [p]; simp [hpOf,hb]
 have e : h b = hpOf w b:=by
  rcases a b with ⟨x,y⟩ | ⟨x,y⟩
  ·exact (hb1 x).elim
  ·rw [p] at y; exact y.symm
 have hn : h b≠none:=by rw [e]; simp [hpOf,hb]
 rcases hs b with x | x
 ·exact (hn x).elim
 ·exact (x.symm.trans e)
theorem zp {w w' : World} {l : List HP} (k : Nat) (H : own w' l) (hk : l[k]? = some (lj w)) (e : Ext w w') : Below w.heap.size w w':=
 ⟨e.os,e.tape,e.output,e.size,yg k H hk⟩
theorem ox {w : World} {l m : List HP} (hl : ∀h,star l h -> star m h) (H : own w l) : own w m:=
 let ⟨h,hs,H⟩:=H; ⟨h,hs,hl _ H⟩
theorem lF {w : World} {l : List HP} (k : Nat) {P : HP} (H : own w l) (hk : l[k]? = some P) : own w (P::l.eraseIdx k):=ox (fun _=>l7 k hk) H
theorem lo {w : World} {P : HP} {l : List HP} (H : own w (P::l)) : own w l:=by
 obtain ⟨h,hs,h1,h2,a,_,q⟩:=H
 refine ⟨h2,fun b=>?_,q⟩
 rcases a b with ⟨_,y⟩ | ⟨y,_⟩
 ·rw [y]; exact hs b
 ·exact .inl y
theorem lM {w : World} {l : List HP} (k : Nat) {P : HP} (H : own w l) (hk : l[k]? = some P) : own w (l.eraseIdx k):=lo (lF k H hk)
def Rd (h : Hp) (a : Addr) (v : Value) : Prop:=a.spot = none /\ ∃c e f,h a.block = some (.cells c e f) /\ c[a.off]? = some v
theorem yq {w : World} {a : Addr} {v : Value} (h : Rd (hpOf w) a v) : w.cell? a = some v:=by
 obtain ⟨hs,c,e,f,hb,hc⟩:=h
 have hb' : w.heap[a.block]? = some (.cells c e f):=hb
 simp [World.cell?,hb',hs,hc]
theorem ym {w : World} {a : Addr} {v : Value} (h : w.cell? a = some v) : Rd (hpOf w) a v:=by
 unfold World.cell? at h
 split at h
 ·rename_i c e f hb
  split at h
  ·cases h
  ·rename_i hs
   refine ⟨by cases hx : a.spot <;> simp_all,c,e,f,hb,h⟩
 ·cases h
theorem lr {w w' : World} {l : List HP} (k : Nat) (H : own w' l) (hk : l[k]? = some (lj w)) {a : Addr} {v : Value} (h : w.cell? a = some v) : w'.cell? a = some v:=by
 obtain ⟨hs,c,e,f,hb,hc⟩:=ym h
 have hlt:=op hb
 exact yq ⟨hs,c,e,f,(yg k H hk _ hlt).trans hb,hc⟩
end Go.SL
namespace Go.Proofs.YtbpblokfiajpjaaDoor
open Go.RowKit Go.SL Go.Deep Go.ChangeShapes Go.WideShapes
def SlAt (v : Value) (n : Nat) (at_ : Nat -> Nat -> Nat -> Prop) : Prop:=
 ∃(ao : Option Addr) (b off cap : Nat),v = .slice ao n cap /\ n <= cap /\ cap <= 9223372036854775807 /\ (0 < n -> ao = some ⟨b,off,none⟩) /\ ∀i,i < n -> at_ b off i
def lZ (w : World) (v : Value) (ks : List Bool) : Prop:=
 SlAt v ks.length fun b off i=>w.cell? ⟨b,off + i,none⟩ = some (.bool (ks.getD i false))
structure Act where
 kind : ByteArray
 A : Int
 B : Int
 C : Int
 D : Int
 S : ByteArray
 kv : Value
 keep : List Bool
def om (n : Int) : Prop:=-9223372036854775808 <= n /\ n <= 9223372036854775807
def lu (w : World) (b o : Nat) (a : Act) : Prop:=
 w.cell? ⟨b,o,none⟩ = some (.string a.kind) /\ w.cell? ⟨b,o + 1,none⟩ = some (.int .i64 a.A) /\ w.cell? ⟨b,o + 2,none⟩ = some (.int .i64 a.B) /\ w.cell? ⟨b,o + 3,none⟩ = some (.int .i64 a.C) /\
 w.cell? ⟨b,o + 4,none⟩ = some (.int .i64 a.D) /\ w.cell? ⟨b,o + 5,none⟩ = some (.string a.S) /\ w.cell? ⟨b,o + 6,none⟩ = some a.kv
structure zy (w : World) (a : Act) : Prop where
 A : om a.A
 B : om a.B
 C : om a.C
 D : om a.D
 K : a.kind.size <= 9223372036854775807
 S : a.S.size <= 9223372036854775807
 keep : lZ w a.kv a.keep
def lk : Act:=⟨ByteArray.empty,0,0,0,0,ByteArray.empty,.slice none 0 0,[]⟩
def ly (w : World) (v : Value) (l : List Act) : Prop:=
 SlAt v l.length (fun b off i=>lu w b (off + i * 7) (l.getD i lk)) /\ ∀a∈l,zy w a
theorem og {n : Int} (h : (Lit.int .i64 n).wf = true) : om n:=by
 simpa [Lit.wf,IntKind.min,IntKind.max,IntKind.signed,IntKind.bits,om] using h
section
variable {H : Type} {enc : TypeId×Value -> H} {w : World} {base : Nat} {spare : Nat -> Bool} {held : Bool}
theorem yV {a : Addr} {i : Nat} {v : Value} (h : w.cell? (a.add i) = some v) : ∃b o,a.add i = ⟨b,o,none⟩:=by
 obtain ⟨b,o,s⟩:=a
 refine ⟨b,o + i,?_⟩
 unfold Addr.add at h ⊢
 split
 ·rename_i h0
  subst h0
  simp only [if_true] at h
  have:=World.cell?_spot h
  simp_all
 ·rfl
theorem oA {b o i : Nat} : (⟨b,o,none⟩ : Addr).add i = ⟨b,o + i,none⟩:=by
 unfold Addr.add; split <;> simp_all
theorem zw {α : Type} {l : List α} (h : l.length = 7) : ∃c0 c1 c2 c3 c4 c5 c6,l = [c0,c1,c2,c3,c4,c5,c6]:=by
 match l,h with
 | [c0,c1,c2,c3,c4,c5,c6],_=>exact ⟨_,_,_,_,_,_,_,rfl⟩
instance : Inhabited Act:=⟨lk⟩
theorem oV {P : Program} {t : TypeId} {fs : Array Field} {fuel : Nat} {cs : List Value} {x : DataW H×List MemPlace} (ht : P.underlying t = some (.struct fs)) (hone : oneCellFields P fs = true)
  (h : DataW.trod enc P w base spare held fuel t cs = some x) :
  ∃(ys : List (DataW H×List MemPlace)) (n : Nat),ys.length = fs.size /\ ∀(j : Nat) (f : Field),fs[j]? = some f -> DataW.trod enc P w base spare held n f.type ((cs.drop j).take 1) = ys[j]?:=by
 obtain ⟨ys,n,_,_,_,hl,hg⟩:=DataW.trod_struct ht h
 refine ⟨ys,n,hl,fun j f hj=>?_⟩
 obtain ⟨ho,hk⟩:=hone_of hone j f hj
 have:=hg j f hj
 rw [ho,hk] at this
 exact this
theorem yy {fuel : Nat} {v : Value} {x : DataW H×List MemPlace} (h : DataW.trod enc Tryd.prog w base spare held fuel 35 [v] = some x) : ∃ks,lZ w v ks:=by
 rcases open_slice Tryd.underlying35 h with ⟨hcs,_⟩ | ⟨a,len,cap,m,n,D,Pl,hcs,_,hl,hm,hmm,_,hi⟩
 ·simp only [List.cons.injEq,and_true] at hcs
  subst hcs
  exact ⟨[],none,0,0,0,rfl,Nat.le_refl _,by omega,fun h=>absurd h (by simp),fun i h=>absurd h (by simp)⟩
 ·simp only [List.cons.injEq,and_true] at hcs
  subst hcs
  have hC : Tryd.prog.cellsOf 4 = 1:=by kernel_rfl
  have hlm : len <= m:=by rw [hmm]; split <;> omega
  have hb : ∀i,i < len -> ∃b,w.cell? (a.add i) = some (.bool b):=fun i h=>by
   obtain ⟨cs',hc,ht⟩:=hi i (by omega)
   obtain ⟨b,rfl,_⟩:=DataW.trod_bool Tryd.underlying4 ht
   rw [hC] at hc
   obtain ⟨_,_,hat⟩:=World.cells?_some hc
   have:=hat 0 (by omega)
   rw [Deep.add_add] at this
   simp at this
   exact ⟨b,this⟩
  obtain ⟨f,hf⟩:=Deep.choose_lt hb
  refine ⟨(List.range len).map f,some a,a.block,a.off,cap,by simp,by simpa using hl,by simpa [maxLen] using hm,fun hlt=>?_,fun i hlt=>?_⟩
  ·have h0:=hf 0 (by simpa using hlt)
   have:=World.cell?_spot h0
   simp [Addr.add] at this
   obtain ⟨b,o,s⟩:=a
   simp_all
  ·have hi:=hf i (by simpa using hlt)
   have h0:=hf 0 (by simp at hlt; omega)
   have hs:=World.cell?_spot h0
   obtain ⟨b,o,s⟩:=a
   simp [Addr.add] at hs
   subst hs
   rw [oA] at hi
   have h' : i < len:=by simpa using hlt
   simp [h',hi]
theorem yJ {fuel : Nat} {v : Value} {x : DataW H×List MemPlace} (h : DataW.trod enc Tryd.prog w base spare held fuel 22 [v] = some x) : ∃l,ly w v l:=by
 rcases open_slice Tryd.underlying22 h with ⟨hcs,_⟩ | ⟨a,len,cap,m,n,D,Pl,hcs,_,hl,hm,hmm,_,hi⟩
 ·simp only [List.cons.injEq,and_true] at hcs
  subst hcs
  exact ⟨[],⟨none,0,0,0,rfl,Nat.le_refl _,by omega,fun h=>absurd h (by simp),fun i h=>absurd h (by simp)⟩,by simp⟩
 ·simp only [List.cons.injEq,and_true] at hcs
  subst hcs
  have hC : Tryd.prog.cellsOf 37 = 7:=by kernel_rfl
  have hlm : len <= m:=by rw [hmm]; split <;> omega
  have hb : ∀i,i < len -> ∃x : Act,(∃b o,a.add (i * 7) = ⟨b,o,none⟩ /\ lu w b o x) /\ zy w x:=fun i h=>by
   obtain ⟨cs',hc,ht⟩:=hi i (by omega)
   rw [hC] at hc
   obtain ⟨_,hlen,hat⟩:=World.cells?_some hc
   obtain ⟨ys,n',hyl,hg'⟩:=oV Tryd.underlying37 (by kernel_rfl) ht
   obtain ⟨c0,c1,c2,c3,c4,c5,c6,rfl⟩ : ∃c0 c1 c2 c3 c4 c5 c6,cs' = [c0,c1,c2,c3,c4,c5,c6]:=zw hlen
   obtain ⟨y0,y1,y2,y3,y4,y5,y6,rfl⟩ : ∃c0 c1 c2 c3 c4 c5 c6,ys = [c0,c1,c2,c3,c4,c5,c6]:=zw hyl
   have g0 : DataW.trod enc Tryd.prog w base spare held n' 9 [c0] = some y0:=hg' 0 _ rfl
   have g1 : DataW.trod enc Tryd.prog w base spare held n' 3 [c1] = some y1:=hg' 1 _ rfl
   have g2 : DataW.trod enc Tryd.prog w base spare held n' 3 [c2] = some y2:=hg' 2 _ rfl
   have g3 : DataW.trod enc Tryd.prog w base spare held n' 3 [c3] = some y3:=hg' 3 _ rfl
   have g4 : DataW.trod enc Tryd.prog w base spare held n' 3 [c4] = some y4:=hg' 4 _ rfl
   have g5 : DataW.trod enc Tryd.prog w base spare held n' 9 [c5] = some y5:=hg' 5 _ rfl
   have g6 : DataW.trod enc Tryd.prog w base spare held n' 35 [c6] = some y6:=hg' 6 _ rfl
   obtain ⟨k,h0,_,hk⟩:=DataW.trod_string Tryd.underlying9 g0
   obtain ⟨A,h1,_,hA⟩:=DataW.trod_int Tryd.underlying3 g1
   obtain ⟨B,h2,_,hB⟩:=DataW.trod_int Tryd.underlying3 g2
   obtain ⟨C,h3,_,hC'⟩:=DataW.trod_int Tryd.underlying3 g3
   obtain ⟨D',h4,_,hD⟩:=DataW.trod_int Tryd.underlying3 g4
   obtain ⟨S,h5,_,hS⟩:=DataW.trod_string Tryd.underlying9 g5
   obtain ⟨ks,hks⟩:=yy g6
   simp only [List.cons.injEq,and_true] at h0 h1 h2 h3 h4 h5
   subst h0 h1 h2 h3 h4 h5
   have hat0:=hat 0 (by omega)
   have hat1:=hat 1 (by omega)
   have hat2:=hat 2 (by omega)
   have hat3:=hat 3 (by omega)
   have hat4:=hat 4 (by omega)
   have hat5:=hat 5 (by omega)
   have hat6:=hat 6 (by omega)
   simp only [List.getElem?_cons_succ,List.getElem?_cons_zero,Addr.add,if_true] at hat0
   obtain ⟨b,o,e⟩:=yV (i:=i * 7) (by simpa [Addr.add] using hat0)
   rw [e,oA] at hat1 hat2 hat3 hat4 hat5 hat6
   have hat0' : w.cell? ⟨b,o,none⟩ = some (.string k):=by rw [<- e]; simpa [Addr.add] using hat0
   exact ⟨⟨k,A,B,C,D',S,c6,ks⟩,⟨b,o,e,hat0',by simpa using hat1,by simpa using hat2,by simpa using hat3,by simpa using hat4,by simpa using hat5,by simpa using hat6⟩,
    ⟨og hA,og hB,og hC',og hD,by simpa [maxLen] using hk,by simpa [maxLen] using hS,hks⟩⟩
  obtain ⟨f,hf⟩:=Deep.choose_lt hb
  refine ⟨(List.range len).map f,⟨some a,a.block,a.off,cap,by simp,by simpa using hl,by simpa [maxLen] using hm,fun hlt=>?_,fun i hlt=>?_⟩,fun x hx=>?_⟩
  ·obtain ⟨⟨b,o,e,_⟩,_⟩:=hf 0 (by simpa using hlt)
   simp [Addr.add] at e
   rw [e]
  ·simp at hlt
   obtain ⟨⟨b0,o0,e0,_⟩,_⟩:=hf 0 (by omega)
   simp [Addr.add] at e0
   obtain ⟨⟨b,o,e,hc⟩,_⟩:=hf i hlt
   subst e0
   rw [oA] at e
   simp at e
   obtain ⟨rfl,rfl⟩:=e
   simp [hlt,hc]
  ·simp at hx
   obtain ⟨i,hi,rfl⟩:=hx
   exact (hf i hi).2
end
end Go.Proofs.YtbpblokfiajpjaaDoor
namespace Go.Proofs.YtbpblokfiajpjaaDoor
open Go.RowKit Go.SL
theorem lt {a b : Bool} (h : a = b) : Ending.returned (.bool a) = .returned (.bool b):=by rw [h]
def errV (e : Int) : Value:=if e = 0 then .nilIface else .iface 48 (.int .i64 e)
theorem zl {e : Int} (h : 0 < e) : errV e = .iface 48 (.int .i64 e):=by unfold errV; rw [zq (by omega)]
theorem yX (f : Int) (w : World) : Calls Tryd.prog 8 #[.nilIface,.int .i64 f] w fun e w'=>e = .returned (.bool (f == 0)) /\ w = w':=by
 go_enter Tryd.func8,Tryd.ntmps8
 go_wp2
 go_ret
 exact ⟨rfl,rfl⟩
theorem yk (n : Int) (w : World) : (Instr.typeAssert (.iface 48 (.int .i64 n)) 27 48 true).run Tryd.prog w = .ok (.tuple #[.int .i64 n,.bool true]) w:=by
 simp [Instr.typeAssert,run_underlying Tryd.underlying48]
theorem za (n f : Int) (w : World) : Calls Tryd.prog 8 #[.iface 48 (.int .i64 n),.int .i64 f] w fun e w'=>e = .returned (.bool (decide (0 < f) && n == f)) /\ w = w':=by
 have ha:=yk n
 by_cases hf : 0 < f
 ·go_enter Tryd.func8,Tryd.ntmps8
  go_wp2
  all_goals go_ret
  all_goals exact ⟨lt (by rw [zg hf]; simp),rfl⟩
 ·go_enter Tryd.func8,Tryd.ntmps8
  go_wp2
  all_goals go_ret
  all_goals exact ⟨lt (by rw [zf (show ¬0 < f by omega)]; rfl),rfl⟩
theorem zo (n f : Int) (w : World) (hn : 0 <= n) : Calls Tryd.prog 8 #[errV n,.int .i64 f] w fun e w'=>e = .returned (.bool (decide (n = f))) /\ w = w':=by
 by_cases h : n = 0
 ·subst h
  exact (yX f w).mono fun e w' ⟨he,hw⟩=>⟨by rw [he]; exact lt (by rw [Bool.eq_iff_iff]; simp; omega),hw⟩
 ·rw [zl (by omega)]
  exact (za n f w).mono fun e w' ⟨he,hw⟩=>⟨by rw [he]; exact lt (by rw [Bool.eq_iff_iff]; simp; omega),hw⟩
def lU (a : Act) : Bool:=decide (a.S.size <= 700) && decide (a.keep.length <= 300)
def oe (l : List Act) (most : Int) : Bool:=decide ((l.length : Int) <= most) && l.all lU
theorem l5 {w : World} {v : Value} {ks : List Bool} (h : lZ w v ks) : ∃ao cap,v = .slice ao ks.length cap /\ ks.length <= 9223372036854775807:=by
 obtain ⟨ao,b,off,cap,hv,h1,h2,_⟩:=h
 exact ⟨ao,cap,hv,by omega⟩
theorem lv {l : List Act} {i : Nat} (hi : i < l.length) : l.getD i lk∈l:=by
 simp [hi]
theorem yM (v : Value) (l : List Act) (most : Int) (w : World) (hv : ly w v l) :
  Calls Tryd.prog 6 #[v,.int .i64 most] w fun e w'=>e = .returned (.bool (oe l most)) /\ w = w':=by
 obtain ⟨⟨ao,b,off,cap,rfl,hc1,hc2,hao,hat⟩,hok⟩:=hv
 by_cases hm : (l.length : Int) <= most
 ·go_enter Tryd.func6,Tryd.ntmps6
  go_wp2
  go_loop [5] (fun i=>∃k : Nat,k <= l.length /\ i = .int .i64 k /\ ∀j,j < k -> lU (l.getD j lk) = true) (fun i=>l.length - (intOf i).toNat)
  case atStart=>exact ⟨0,Nat.zero_le _,rfl,fun j h=>absurd h (by omega)⟩
  case round=>
   obtain ⟨k,hk,rfl,hj⟩:=hrel
   by_cases hlt : k < l.length
   ·obtain rfl:=hao (by omega)
    obtain ⟨_,_,_,_,_,c5,c6⟩:=hat k hlt
    have ok:=hok _ (lv hlt)
    obtain ⟨ko,kc,hkv,hkl⟩:=l5 ok.keep
    rw [hkv] at c6
    have hS:=ok.S
    have HJ:=zh hj
    have HO:=zh hok
    clear hj hok hkv ok hat hao
    generalize hx : l.getD k lk = x at *
    have HX:=zh hx
    clear hx
    by_cases h1 : x.S.size <= 700
    ·by_cases h2 : x.keep.length <= 300
     ·go_wp2
      go_round
      case rel=>exact ⟨k + 1,by omega,by go_num,fun j h=>by
       by_cases e : j = k
       ·subst e; rw [HX.out]; simp [lU,h1,h2]
       ·exact HJ.out j (by omega)⟩
      case measure=>simp [intOf]; omega
     ·go_wp2
      go_ret
      refine ⟨lt ?_,rfl⟩
      symm
      unfold oe
      rw [Bool.and_eq_false_iff]
      refine .inr (List.all_eq_false.2 ⟨_,lv hlt,?_⟩)
      rw [HX.out]; simp [lU,h2]
    ·go_wp2
     go_ret
     refine ⟨lt ?_,rfl⟩
     symm
     unfold oe
     rw [Bool.and_eq_false_iff]
     refine .inr (List.all_eq_false.2 ⟨_,lv hlt,?_⟩)
     rw [HX.out]; simp [lU,h1]
   ·have HJ:=zh hj
    clear hj
    go_wp2
    go_ret
    refine ⟨lt ?_,rfl⟩
    unfold oe
    rw [eq_comm,Bool.and_eq_true]
    refine ⟨by simpa using hm,List.all_eq_true.2 fun x hx=>?_⟩
    obtain ⟨j,hj,rfl⟩:=List.getElem_of_mem hx
    have:=HJ.out j (by omega)
    simpa [hj] using this
 ·go_enter Tryd.func6,Tryd.ntmps6
  go_wp2
  go_ret
  exact ⟨lt (by rw [oe,zf (show ¬(l.length : Int) <= most by omega)]; rfl),rfl⟩
end Go.Proofs.YtbpblokfiajpjaaDoor
namespace Go.Ones
theorem lQ (j a c x y : Nat) (ha : a < 2 ^ j) (hc : c < 2 ^ j) : (a + 2 ^ j * x) &&& (c + 2 ^ j * y) = (a &&& c) + 2 ^ j * (x &&& y):=by
 have h1 : (a + 2 ^ j * x) % 2 ^ j = a:=by rw [Nat.add_mul_mod_self_left,Nat.mod_eq_of_lt ha]
 have h2 : (c + 2 ^ j * y) % 2 ^ j = c:=by rw [Nat.add_mul_mod_self_left,Nat.mod_eq_of_lt hc]
 have hp : 0 < 2 ^ j:=Nat.two_pow_pos j
 have h3 : (a + 2 ^ j * x) / 2 ^ j = x:=by rw [Nat.add_mul_div_left _ _ hp,Nat.div_eq_of_lt ha,Nat.zero_add]
 have h4 : (c + 2 ^ j * y) / 2 ^ j = y:=by rw [Nat.add_mul_div_left _ _ hp,Nat.div_eq_of_lt hc,Nat.zero_add]
 rw [<- Nat.mod_add_div ((a + 2 ^ j * x) &&& (c + 2 ^ j * y)) (2 ^ j),Nat.and_mod_two_pow,Nat.and_div_two_pow,h1,h2,h3,h4]
def le (b : Nat) : List Nat -> Nat
 | []=>0
 | d::l=>d + b * le b l
def mask (b c : Nat) : Nat -> Nat
 | 0=>0
 | k + 1=>c + b * mask b c k
theorem and1 (n : Nat) : n &&& 1 = n % 2:=Nat.and_two_pow_sub_one_eq_mod n 1
theorem and3 (n : Nat) : n &&& 3 = n % 4:=Nat.and_two_pow_sub_one_eq_mod n 2
theorem zX (n : Nat) : n &&& 15 = n % 16:=Nat.and_two_pow_sub_one_eq_mod n 4
theorem st1 : ∀ds : List Nat,(∀d∈ds,d < 4) -> (le 4 ds / 2 &&& mask 4 1 ds.length) + (le 4 ds &&& mask 4 1 ds.length) = le 4 (ds.map fun d=>d / 2 + d % 2)
 | [],_=>by simp [le,mask]
 | d::l,h=>by
  have ih:=st1 l fun x hx=>h x (by simp [hx])
  have hd:=h d (by simp)
  simp only [le,mask,List.length_cons,List.map_cons]
  rw [<- ih]
  have e1 : (d + 4 * le 4 l) / 2 = (d / 2 + 2 * (le 4 l % 2)) + 2 ^ 2 * (le 4 l / 2):=by omega
  have e2 : 1 + 4 * mask 4 1 l.length = 1 + 2 ^ 2 * mask 4 1 l.length:=by omega
  have e3 : d + 4 * le 4 l = d + 2 ^ 2 * le 4 l:=by omega
  rw [e1,e3,e2,lQ 2 _ _ _ _ (by omega) (by omega),lQ 2 _ _ _ _ (by omega) (by omega),and1,and1]
  omega
theorem st2 : ∀ds : List Nat,(∀d∈ds,d < 16) -> (le 16 ds / 4 &&& mask 16 3 ds.length) + (le 16 ds &&& mask 16 3 ds.length) = le 16 (ds.map fun d=>d / 4 + d % 4)
 | [],_=>by simp [le,mask]
 | d::l,h=>by
  have ih:=st2 l fun x hx=>h x (by simp [hx])
  have hd:=h d (by simp)
  simp only [le,mask,List.length_cons,List.map_cons]
  rw [<- ih]
  have e1 : (d + 16 * le 16 l) / 4 = (d / 4 + 4 * (le 16 l % 4)) + 2 ^ 4 * (le 16 l / 4):=by omega
  have e2 : 3 + 16 * mask 16 3 l.length = 3 + 2 ^ 4 * mask 16 3 l.length:=by omega
  have e3 : d + 16 * le 16 l = d + 2 ^ 4 * le 16 l:=by omega
  rw [e1,e3,e2,lQ 4 _ _ _ _ (by omega) (by omega),lQ 4 _ _ _ _ (by omega) (by omega),and3,and3]
  omega
theorem zQ : ∀ds : List Nat,(∀d∈ds,d % 16 <= 4) -> le 256 ds % 16 <= 4
 | [],_=>by simp [le]
 | d::l,h=>by
  have hd:=h d (by simp)
  simp only [le]
  omega
theorem st3 : ∀ds : List Nat,(∀d∈ds,d % 16 <= 4 /\ d / 16 <= 4) -> (le 256 ds / 16 + le 256 ds) &&& mask 256 15 ds.length = le 256 (ds.map fun d=>d / 16 + d % 16)
 | [],_=>by simp [le,mask]
 | d::l,h=>by
  have ih:=st3 l fun x hx=>h x (by simp [hx])
  have hd:=h d (by simp)
  have hl:=zQ l fun x hx=>(h x (by simp [hx])).1
  simp only [le,mask,List.length_cons,List.map_cons]
  rw [<- ih]
  have e1 : (d + 256 * le 256 l) / 16 + (d + 256 * le 256 l) = (d / 16 + d % 16 + 16 * (d / 16 + le 256 l % 16)) + 2 ^ 8 * (le 256 l / 16 + le 256 l):=by omega
  have e2 : 15 + 256 * mask 256 15 l.length = 15 + 2 ^ 8 * mask 256 15 l.length:=by omega
  rw [e1,e2,lQ 8 _ _ _ _ (by omega) (by omega),zX]
  omega
def lJ (b : Nat) : List Nat -> List Nat
 | x::y::l=>(x + b * y)::lJ b l
 | l=>l
theorem l3 (b : Nat) : ∀l : List Nat,le (b * b) (lJ b l) = le b l
 | []=>rfl
 | [x]=>by simp [lJ,le]
 | x::y::l=>by
  simp only [lJ,le,l3 b l]
  rw [Nat.mul_add,Nat.mul_assoc]
  omega
def sum2 : List Nat -> List Nat
 | x::y::l=>(x + y)::sum2 l
 | l=>l
def digs : Nat -> Nat -> List Nat
 | 0,_=>[]
 | k + 1,x=>x % 4::digs k (x / 4)
theorem ov : ∀(k x : Nat),x < 4 ^ k -> le 4 (digs k x) = x
 | 0,x,h=>by simp at h; subst h; rfl
 | k + 1,x,h=>by
  simp only [digs,le]
  rw [ov k (x / 4) (by rw [Nat.pow_succ] at h; omega)]
  omega
theorem yf : ∀(k x : Nat),∀d∈digs k x,d < 4
 | 0,x,d,h=>by cases h
 | k + 1,x,d,h=>by
  simp only [digs,List.mem_cons] at h
  rcases h with rfl | h
  ·omega
  ·exact yf k _ d h
def popc : Nat -> Nat -> Nat
 | 0,_=>0
 | k + 1,x=>x % 2 + popc k (x / 2)
theorem oQ : ∀(k x : Nat),((digs k x).map fun d=>d / 2 + d % 2).sum = popc (2 * k) x
 | 0,_=>rfl
 | k + 1,x=>by
  rw [show 2 * (k + 1) = 2 * k + 1 + 1 by omega]
  simp only [digs,popc,List.map_cons,List.sum_cons]
  rw [oQ k (x / 4),show x / 4 = x / 2 / 2 by omega]
  omega
theorem zA {l : List Nat} (h : l.length = 8) : ∃a b c d e f g i,l = [a,b,c,d,e,f,g,i]:=by
 match l,h with
 | [a,b,c,d,e,f,g,i],_=>exact ⟨_,_,_,_,_,_,_,_,rfl⟩
theorem yl (b n m : Nat) (hb : n < b) : ∀(k : Nat) (l : List Nat),l.length = 2 * k -> (∀d∈l,d <= n) -> ((lJ b l).map fun e=>e / b + e % b) = sum2 l /\ (sum2 l).length = k /\ (∀d∈sum2 l,d <= 2 * n) /\ (sum2 l).sum = l.sum /\ (lJ b l).length = k /\ (∀e∈lJ b l,e % b <= n /\ e / b <= n)
 | 0,[],_,_=>⟨rfl,rfl,by simp [sum2],rfl,rfl,by simp [lJ]⟩
 | k + 1,x::y::l,hl,h=>by
  obtain ⟨h1,h2,h3,h4,h5,h6⟩:=yl b n m hb k l (by simp at hl; omega) fun d hd=>h d (by simp [hd])
  have hx:=h x (by simp)
  have hy:=h y (by simp)
  have e1 : (x + b * y) / b = y:=by rw [Nat.add_mul_div_left _ _ (by omega),Nat.div_eq_of_lt (by omega),Nat.zero_add]
  have e2 : (x + b * y) % b = x:=by rw [Nat.add_mul_mod_self_left,Nat.mod_eq_of_lt (by omega)]
  refine ⟨?_,by simp [sum2,h2],?_,by simp [sum2,h4]; omega,by simp [lJ,h5],?_⟩
  ·simp only [lJ,sum2,List.map_cons,h1,e1,e2,List.cons.injEq,and_true]
   omega
  ·intro d hd
   simp only [sum2,List.mem_cons] at hd
   rcases hd with rfl | hd
   ·omega
   ·exact h3 d hd
  ·intro e he
   simp only [lJ,List.mem_cons] at he
   rcases he with rfl | he
   ·rw [e1,e2]; exact ⟨hx,hy⟩
   ·exact h6 e he
theorem o2 : ∀(k x : Nat),(digs k x).length = k
 | 0,_=>rfl
 | k + 1,x=>by simp [digs,o2 k]
def s1 (x : Nat) : Nat:=(x / 2 &&& 6148914691236517205) + (x &&& 6148914691236517205)
def s2 (x : Nat) : Nat:=(x / 4 &&& 3689348814741910323) + (x &&& 3689348814741910323)
def s3 (x : Nat) : Nat:=(x / 16 + x) &&& 1085102592571150095
theorem yc {x : Nat} (hx : x < 2 ^ 64) : ∃a b c d e f g i : Nat,a <= 8 /\ b <= 8 /\ c <= 8 /\ d <= 8 /\ e <= 8 /\ f <= 8 /\ g <= 8 /\ i <= 8 /\
  s3 (s2 (s1 x)) = le 256 [a,b,c,d,e,f,g,i] /\ a + b + c + d + e + f + g + i = popc 64 x /\ s1 x < 2 ^ 64 /\ s2 (s1 x) < 2 ^ 64 /\ s2 (s1 x) / 16 + s2 (s1 x) < 2 ^ 64:=by
 have d0:=ov 32 x (by simpa using hx)
 have hl:=o2 32 x
 have h4:=yf 32 x
 have t1:=st1 (digs 32 x) h4
 rw [d0,hl,show mask 4 1 32 = 6148914691236517205 from rfl] at t1
 have e1 : s1 x = le 4 ((digs 32 x).map fun d=>d / 2 + d % 2):=t1
 have hp:=oQ 32 x
 have hl1 : ((digs 32 x).map fun d=>d / 2 + d % 2).length = 2 * 16:=by rw [List.length_map,hl]
 have hb1 : ∀d∈(digs 32 x).map (fun d=>d / 2 + d % 2),d <= 2:=fun d hd=>by
  obtain ⟨y,hy,rfl⟩:=List.mem_map.1 hd
  have:=h4 y hy
  omega
 generalize (digs 32 x).map (fun d=>d / 2 + d % 2) = l1 at *
 obtain ⟨p1,p2,p3,p4,p5,p6⟩:=yl 4 2 0 (by omega) 16 l1 hl1 hb1
 rw [<- l3 4 l1] at e1
 have t2:=st2 (lJ 4 l1) fun d hd=>by have:=p6 d hd; omega
 rw [p5,p1,<- e1,show mask 16 3 16 = 3689348814741910323 from rfl] at t2
 have e2 : s2 (s1 x) = le 16 (sum2 l1):=t2
 obtain ⟨q1,q2,q3,q4,q5,q6⟩:=yl 16 4 0 (by omega) 8 (sum2 l1) p2 p3
 rw [<- l3 16 (sum2 l1)] at e2
 have t3:=st3 (lJ 16 (sum2 l1)) q6
 rw [q5,q1,<- e2,show mask 256 15 8 = 1085102592571150095 from rfl] at t3
 have e3 : s3 (s2 (s1 x)) = le 256 (sum2 (sum2 l1)):=t3
 obtain ⟨a,b,c,d,e,f,g,i,hl8⟩:=zA q2
 obtain ⟨a',b',c',d',e',f',g',i',hl9⟩:=zA q5
 rw [hl8] at e3 q3 q4
 rw [hl9] at e2 q6
 have hs1 : s1 x < 2 ^ 64:=by
  have h1 : x / 2 &&& 6148914691236517205 <= 6148914691236517205:=Nat.and_le_right
  have h2 : x &&& 6148914691236517205 <= 6148914691236517205:=Nat.and_le_right
  unfold s1
  omega
 refine ⟨a,b,c,d,e,f,g,i,?_,?_,?_,?_,?_,?_,?_,?_,?_,?_,hs1,?_,?_⟩
 ·exact q3 a (by simp)
 ·exact q3 b (by simp)
 ·exact q3 c (by simp)
 ·exact q3 d (by simp)
 ·exact q3 e (by simp)
 ·exact q3 f (by simp)
 ·exact q3 g (by simp)
 ·exact q3 i (by simp)
 ·exact e3
 ·have : [a,b,c,d,e,f,g,i].sum = popc 64 x:=by rw [q4,p4,hp]
  simp only [List.sum_cons,List.sum_nil] at this
  omega
 ·have h1 : s1 x / 4 &&& 3689348814741910323 <= 3689348814741910323:=Nat.and_le_right
  have h2 : s1 x &&& 3689348814741910323 <= 3689348814741910323:=Nat.and_le_right
  unfold s2
  omega
 ·have h1 : s1 x / 4 &&& 3689348814741910323 <= 3689348814741910323:=Nat.and_le_right
  have h2 : s1 x &&& 3689348814741910323 <= 3689348814741910323:=Nat.and_le_right
  unfold s2
  omega
def addL : List Nat -> List Nat -> List Nat
 | x::l,y::m=>(x + y)::addL l m
 | [],m=>m
 | l,[]=>l
theorem lY (b : Nat) : ∀l m : List Nat,le b l + le b m = le b (addL l m)
 | x::l,y::m=>by
  simp only [le,addL,<- lY b l m,Nat.mul_add]
  omega
 | [],m=>by simp [le,addL]
 | x::l,[]=>by simp [le,addL]
theorem lE {x : Nat} (l : List Nat) (h : x < 256) : le 256 (x::l) / 256 = le 256 l:=by
 simp only [le]
 omega
theorem ol : ∀l : List Nat,(∀d∈l,d < 256) -> le 256 l < 256 ^ l.length
 | [],_=>by simp [le]
 | d::l,h=>by
  have ih:=ol l fun x hx=>h x (by simp [hx])
  have hd:=h d (by simp)
  simp only [le,List.length_cons,Nat.pow_succ]
  omega
theorem oU : ∀l : List Nat,(∀d∈l,d <= 64) -> le 256 l <= 64 * mask 256 1 l.length
 | [],_=>by simp [le,mask]
 | d::l,h=>by
  have ih:=oU l fun x hx=>h x (by simp [hx])
  have hd:=h d (by simp)
  simp only [le,List.length_cons,mask]
  omega
theorem zd {a b c d e f g i : Nat} (ha : a <= 8) (hb : b <= 8) (hc : c <= 8) (hd : d <= 8) (he : e <= 8) (hf : f <= 8) (hg : g <= 8) (hi : i <= 8) {y y1 y2 y3 : Nat}
  (hy : y = le 256 [a,b,c,d,e,f,g,i]) (h1 : y1 = y + y / 256) (h2 : y2 = y1 + y1 / 65536) (h3 : y3 = y2 + y2 / 4294967296) :
  y3 % 128 = a + b + c + d + e + f + g + i /\ y1 < 2 ^ 64 /\ y2 < 2 ^ 64 /\ y3 < 2 ^ 63:=by
 have k1 : y1 = le 256 [a + b,b + c,c + d,d + e,e + f,f + g,g + i,i]:=by
  rw [h1,hy,lE _ (by omega),lY]; rfl
 have k2 : y2 = le 256 [a + b + (c + d),b + c + (d + e),c + d + (e + f),d + e + (f + g),e + f + (g + i),f + g + i,g + i,i]:=by
  rw [h2,k1,show (65536 : Nat) = 256 * 256 from rfl,<- Nat.div_div_eq_div_mul,lE _ (by omega),lE _ (by omega),lY]; rfl
 have k3 : y3 = le 256 [a + b + (c + d) + (e + f + (g + i)),b + c + (d + e) + (f + g + i),c + d + (e + f) + (g + i),d + e + (f + g) + i,e + f + (g + i),f + g + i,g + i,i]:=by
  rw [h3,k2,show (4294967296 : Nat) = 256 * 256 * 256 * 256 from rfl,<- Nat.div_div_eq_div_mul,<- Nat.div_div_eq_div_mul,<- Nat.div_div_eq_div_mul,lE _ (by omega),lE _ (by omega),lE _ (by omega),lE _ (by omega),lY]; rfl
 have b1:=ol [a + b,b + c,c + d,d + e,e + f,f + g,g + i,i] (by intro x hx; simp only [List.mem_cons,List.not_mem_nil,or_false] at hx; omega)
 have b2:=ol [a + b + (c + d),b + c + (d + e),c + d + (e + f),d + e + (f + g),e + f + (g + i),f + g + i,g + i,i] (by intro x hx; simp only [List.mem_cons,List.not_mem_nil,or_false] at hx; omega)
 have b3:=oU [a + b + (c + d) + (e + f + (g + i)),b + c + (d + e) + (f + g + i),c + d + (e + f) + (g + i),d + e + (f + g) + i,e + f + (g + i),f + g + i,g + i,i] (by intro x hx; simp only [List.mem_cons,List.not_mem_nil,or_false] at hx; omega)
 rw [<- k1] at b1
 rw [<- k2] at b2
 rw [<- k3] at b3
 refine ⟨?_,by simpa using b1,by simpa using b2,Nat.lt_of_le_of_lt b3 (show 64 * mask 256 1 8 < 2 ^ 63 by decide)⟩
 have hz : ∀z : Nat,(a + b + (c + d) + (e + f + (g + i)) + 256 * z) % 128 = a + b + c + d + e + f + g + i:=fun z=>by omega
 rw [k3]
 exact hz _
theorem ones_all {x : Nat} (hx : x < 2 ^ 64) : ∃y1 y2 y3 : Nat,y1 = s3 (s2 (s1 x)) + s3 (s2 (s1 x)) / 256 /\ y2 = y1 + y1 / 65536 /\ y3 = y2 + y2 / 4294967296 /\ y3 % 128 = popc 64 x /\ y1 < 2 ^ 64 /\ y2 < 2 ^ 64 /\ y3 < 2 ^ 63 /\ s1 x < 2 ^ 64 /\ s2 (s1 x) < 2 ^ 64 /\ s2 (s1 x) / 16 + s2 (s1 x) < 2 ^ 64:=by
 obtain ⟨a,b,c,d,e,f,g,i,ha,hb,hc,hd,he,hf,hg,hi,h1,h2,h3,h4,h5⟩:=yc hx
 obtain ⟨k1,k2,k3,k4⟩:=zd ha hb hc hd he hf hg hi h1 rfl rfl rfl
 exact ⟨_,_,_,rfl,rfl,rfl,by rw [k1,h2],k2,k3,k4,h3,h4,h5⟩
theorem popc_le : ∀(k x : Nat),popc k x <= k
 | 0,_=>by simp [popc]
 | k + 1,x=>by have:=popc_le k (x / 2); simp only [popc]; omega
theorem popc_end : ∀(k x : Nat),popc (k + 1) x = popc k x + x / 2 ^ k % 2
 | 0,x=>by simp [popc]
 | k + 1,x=>by
  rw [popc,popc_end k (x / 2),popc,Nat.pow_succ,Nat.mul_comm,<- Nat.div_div_eq_div_mul]
  omega
end Go.Ones
namespace Go.SL
open Go.RowKit
def row (e : TypeId) (sz : Nat) (v : Value) (n : Nat) (xs : List Value) : HP:=fun h=>
 xs.length = n * sz /\ ((v = .slice none 0 0 /\ n = 0 /\ emp h) \/
  ∃g cap cur,v = .slice (some ⟨g,0,none⟩) n cap /\ n <= cap /\ cap <= maxLen /\ cur.size = cap * sz /\ cur.toList.take (n * sz) = xs /\ pts g (.cells cur e (0,0)) h)
section
variable {P : Program}
end
end Go.SL
namespace Go.Proofs.YtbpblokfiajpjaaDoor
end Go.Proofs.YtbpblokfiajpjaaDoor
namespace Go.SL
open Go.RowKit
end Go.SL
namespace Go.Proofs.YtbpblokfiajpjaaDoor
open Go.RowKit Go.SL
structure DevM where
 fl : List ByteArray
 pend : List (Int×ByteArray)
 fail : Int
 writes : Int
structure DevM.Ok (m : DevM) : Prop where
 n : m.fl.length <= 200
 fl : ∀s∈m.fl,s.size = 16
 p : m.pend.length <= 1000000
 pend : ∀x∈m.pend,0 <= x.1 /\ x.1 < m.fl.length /\ x.2.size = 16
 fail : -1 <= m.fail /\ m.fail <= 9223372036854775807
 writes : 0 <= m.writes /\ m.writes <= 1000000
def DevM.seen (m : DevM) (at_ : Int) : ByteArray:=m.pend.foldl (fun s x=>if x.1 = at_ then x.2 else s) (m.fl.getD at_.toNat ByteArray.empty)
def DevM.bad (m : DevM) (at_ : Int) (s : ByteArray) : Bool:=decide (at_ < 0) || decide ((m.fl.length : Int) <= at_) || decide (s.size≠16)
def DevM.write (m : DevM) (at_ : Int) (s : ByteArray) : Int×DevM:=
 if m.bad at_ s then (1,m) else if m.fail = 0 then (7,{ m with fail:=-1 })
 else (0,{ m with fail:=if 0 < m.fail then m.fail - 1 else m.fail,pend:=m.pend++[(at_,s)],writes:=m.writes + 1 })
end Go.Proofs.YtbpblokfiajpjaaDoor
namespace Go.Proofs.YtbpblokfiajpjaaDoor
open Go.RowKit Go.SL
end Go.Proofs.YtbpblokfiajpjaaDoor
namespace Go.SL
open Go.RowKit
theorem oE {w : World} {a : HP} {R : List HP} (l : List HP) (H : own w (a::(l++R))) : own w (l++a::R):=ox (fun _=>oO List.perm_middle.symm) H
end Go.SL
namespace Go.Proofs.YtbpblokfiajpjaaDoor
open Go.RowKit Go.SL
end Go.Proofs.YtbpblokfiajpjaaDoor
namespace Go.SL
open Go.RowKit
end Go.SL
namespace Go.Proofs.YtbpblokfiajpjaaDoor
open Go.RowKit Go.SL
end Go.Proofs.YtbpblokfiajpjaaDoor
namespace Go.SL
open Go.RowKit
end Go.SL
namespace Go.Proofs.YtbpblokfiajpjaaDoor
open Go.RowKit Go.SL
end Go.Proofs.YtbpblokfiajpjaaDoor
namespace Go.Proofs.YtbpblokfiajpjaaDoor
open Go.RowKit Go.SL
def zW (s : ByteArray) (i : Nat) : ByteArray:=s.extract (i * 16) ((i + 1) * 16)
def zs (n : Nat) : ByteArray:=⟨(List.replicate n 0).toArray⟩
end Go.Proofs.YtbpblokfiajpjaaDoor
namespace Go.Proofs.YtbpblokfiajpjaaDoor
open Go.RowKit Go.SL Go.Deep Go.ChangeShapes Go.WideShapes
theorem SlAt.later {v : Value} {n : Nat} {p q : Nat -> Nat -> Nat -> Prop} (h : SlAt v n p) (hpq : ∀b o i,p b o i -> q b o i) : SlAt v n q:=by
 obtain ⟨ao,b,off,cap,hv,h1,h2,h3,h4⟩:=h
 exact ⟨ao,b,off,cap,hv,h1,h2,h3,fun i hi=>hpq _ _ _ (h4 i hi)⟩
theorem lZ.later {w w' : World} {v : Value} {ks : List Bool} (h : lZ w v ks) {l : List HP} (k : Nat) (H : own w' l) (hk : l[k]? = some (lj w)) : lZ w' v ks:=
 SlAt.later h fun _ _ _ h=>lr k H hk h
theorem lu.later {w w' : World} {b o : Nat} {a : Act} (h : lu w b o a) {l : List HP} (k : Nat) (H : own w' l) (hk : l[k]? = some (lj w)) : lu w' b o a:=by
 obtain ⟨h0,h1,h2,h3,h4,h5,h6⟩:=h
 exact ⟨lr k H hk h0,lr k H hk h1,lr k H hk h2,lr k H hk h3,lr k H hk h4,lr k H hk h5,lr k H hk h6⟩
theorem ly.later {w w' : World} {v : Value} {l : List Act} (h : ly w v l) {L : List HP} (k : Nat) (H : own w' L) (hk : L[k]? = some (lj w)) : ly w' v l:=
 ⟨SlAt.later h.1 fun _ _ _ h=>lu.later h k H hk,fun a ha=>{ h.2 a ha with keep:=(h.2 a ha).keep.later k H hk }⟩
theorem ly.form {w : World} {v : Value} {l : List Act} (h : ly w v l) : ∃ao b off cap,v = .slice ao l.length cap /\ l.length <= 9223372036854775807 /\ (0 < l.length -> ao = some ⟨b,off,none⟩) /\
  ∀i,i < l.length -> lu w b (off + i * 7) (l.getD i lk):=by
 obtain ⟨⟨ao,b,off,cap,hv,h1,h2,h3,h4⟩,_⟩:=h
 exact ⟨ao,b,off,cap,hv,by omega,h3,h4⟩
def l2 (w : World) (v : Value) (l : List ByteArray) : Prop:=
 SlAt v l.length (fun b off i=>w.cell? ⟨b,off + i,none⟩ = some (.string (l.getD i ByteArray.empty))) /\ ∀s∈l,s.size <= 9223372036854775807
theorem l2.later {w w' : World} {v : Value} {l : List ByteArray} (h : l2 w v l) {L : List HP} (k : Nat) (H : own w' L) (hk : L[k]? = some (lj w)) : l2 w' v l:=
 ⟨SlAt.later h.1 fun _ _ _ h=>lr k H hk h,h.2⟩
theorem l2.form {w : World} {v : Value} {l : List ByteArray} (h : l2 w v l) : ∃ao b off cap,v = .slice ao l.length cap /\ l.length <= cap /\ cap <= 9223372036854775807 /\ (0 < l.length -> ao = some ⟨b,off,none⟩) /\
  ∀i,i < l.length -> w.cell? ⟨b,off + i,none⟩ = some (.string (l.getD i ByteArray.empty)):=by
 obtain ⟨⟨ao,b,off,cap,hv,h1,h2,h3,h4⟩,_⟩:=h
 exact ⟨ao,b,off,cap,hv,h1,h2,h3,h4⟩
section
variable {H : Type} {enc : TypeId×Value -> H} {w : World} {base : Nat} {spare : Nat -> Bool} {held : Bool}
end
end Go.Proofs.YtbpblokfiajpjaaDoor
namespace Go.Crc
def K : Nat:=3988292384
def st (s : Nat) : Nat:=if s % 2 = 1 then (s / 2) ^^^ K else s / 2
def stn : Nat -> Nat -> Nat
 | 0,s=>s
 | n + 1,s=>stn n (st s)
def zj (s b : Nat) : Nat:=stn 8 (s ^^^ b)
def zD (s bit : Nat) : Nat:=if (s % 2) ^^^ bit = 1 then (s / 2) ^^^ K else s / 2
def crc (s : Nat) (l : List UInt8) : Nat:=l.foldl (fun s b=>zj s b.toNat) s
def top : Nat:=4294967295
def zZ (l : List UInt8) : Nat:=crc top l ^^^ top
def zT (l : List UInt8) (i : Nat) : Nat:=((l.getD (i / 8) 0).toNat >>> (i % 8)) % 2
def bits (l : List UInt8) : Nat -> Nat -> Nat
 | 0,s=>s
 | k + 1,s=>zD (bits l k s) (zT l k)
end Go.Crc
namespace Go.Proofs.YtbpblokfiajpjaaDoor
open Go.RowKit Go.SL Go.Crc
theorem and1 (s : Nat) (h : s < 2 ^ 32) : bits .and .u32 (s : Int) 1 = ((s % 2 : Nat) : Int):=by
 have:=u32_and_nat s 1 (by omega) (by omega)
 rw [Nat.and_one_is_mod] at this
 exact this
def le32 (s : Nat) : List UInt8:=[UInt8.ofNat s,UInt8.ofNat (s / 256),UInt8.ofNat (s / 65536),UInt8.ofNat (s / 16777216)]
end Go.Proofs.YtbpblokfiajpjaaDoor
namespace Go.Proofs.YtbpblokfiajpjaaDoor
open Go.RowKit Go.SL Go.Crc
attribute [local go_sem ↓] Go.wp_at_zero Go.wp_at_succ
def yS (xs : List Int) : ByteArray:=strOfNums xs++zs (12 - xs.length)
def zx (xs : List Int) : ByteArray:=yS xs++⟨(le32 (zZ (yS xs).data.toList)).toArray⟩

def l9 (c p b : Int) : Prop:=c < 1 \/ 32 < c \/ p < 0 \/ 40 < p \/ b < -1 \/ 4 < b
instance (c p b : Int) : Decidable (l9 c p b):=by unfold l9; infer_instance
def zz (c p b : Int) : ByteArray:=zx [83,89,c,p,b + 1]
end Go.Proofs.YtbpblokfiajpjaaDoor
