/- Lemmas on which TopEnds stands: the texts YardT3 RYard3 RYard2 RYard5 RYard6 RYard7 RYard8 RYard4 RYard9 RYard10 RYard11 Yard20 Yard21 Yard14 Yard16 Yard17 Yard18 Yard19 Yard15 YardP4 YardT4. No conditions. -/
import Derived.Test.YtbpblokfiajpjabGreatDoorPk9143001118
set_option linter.all false
set_option maxRecDepth 1000000
set_option maxHeartbeats 32000000
namespace Go.Proofs.YtbpblokfiajpjabGreatDoor
open Go.RowKit Go.SL Go.Crc
theorem ER {x n : Nat} (hx : x < 2 ^ n) (h0 : x≠0) : ∃q,q < n /\ x.testBit q = true /\ ∀r,r < q -> x.testBit r = false:=by
 refine Classical.byContradiction fun hn=>h0 ?_
 have key : ∀k,k <= n -> ∀r,r < k -> x.testBit r = false:=by
  intro k
  induction k with
  | zero=>intro _ r hr; omega
  | succ k ih=>
   intro hk r hr
   by_cases e : r = k
   ·subst e
    cases hb : x.testBit r with
    | false=>rfl
    | true=>exact absurd ⟨r,by omega,hb,ih (by omega)⟩ hn
   ·exact ih (by omega) r (by omega)
 have:=Qu hx (k:=0) (fun r _ hr=>key n (Nat.le_refl n) r hr)
 simpa using this
theorem C7 {n x : Nat} (hx : x < 2 ^ n) (c : Nat) (v : Bool) (q : Nat) : (ou n x (c : Int) v).2.testBit q = if q = c /\ c < n then v else x.testBit q:=by
 unfold ou
 by_cases h : 0 <= (c : Int) /\ (c : Int) < n /\ x.testBit (c : Int).toNat≠v
 ·rw [zt h]
  obtain ⟨-,h1,h2⟩:=h
  rw [zn] at h2 ⊢
  rw [Nat.testBit_xor,Nat.testBit_two_pow]
  by_cases e : q = c
  ·subst e
   rw [zt ⟨rfl,by omega⟩]
   revert h2
   cases x.testBit q <;> cases v <;> simp
  ·rw [zq (fun h=>e h.1)]
   have : ¬c = q:=fun h=>e h.symm
   simp [this]
 ·rw [zq h]
  by_cases e : q = c /\ c < n
  ·rw [zt e]
   obtain ⟨rfl,hq⟩:=e
   refine Decidable.byContradiction fun hn=>h ⟨by omega,by omega,?_⟩
   rw [zn]
   exact hn
  ·rw [zq e]
theorem Oj : ∀{k x : Nat},Ones.popc k x = 0 -> ∀i,i < k -> x.testBit i = false:=by
 intro k
 induction k with
 | zero=>intro x _ i hi; omega
 | succ k ih=>
  intro x h i hi
  rw [Ones.popc_end] at h
  by_cases e : i = k
  ·subst e
   rw [BC]
   simp
   omega
  ·exact ih (by omega) i (by omega)
theorem GV (x : Nat) : cnt x = Ones.popc 64 x:=by unfold cnt; rfl
theorem Kn {x : Nat} (h : cnt x = 0) {i : Nat} (hi : i < 64) : x.testBit i = false:=Oj (by rw [<- GV]; exact h) i hi
theorem LA {n x : Nat} (hn : n <= 64) (hx : x < 2 ^ n) {fr : Int} (h : (zd n x fr).2 = true) : x.testBit (zd n x fr).1 = true /\ (zd n x fr).1 < n:=by
 unfold zd at h ⊢
 split at h
 ·cases h
 ·rename_i h0
  rw [zq h0]
  split
  ·rename_i h1
   obtain ⟨h1,h2,h3⟩:=h1
   obtain ⟨f,rfl⟩:=ze (show 0 <= fr by omega)
   rw [zn] at h3 ⊢
   have hd : x / 2 ^ f < 2 ^ n:=Nat.lt_of_le_of_lt (Nat.div_le_self _ _) hx
   obtain ⟨q,q1,q2,q3⟩:=ER hd h3
   rw [OE (by omega) q2 q3]
   rw [Nat.testBit_div_two_pow] at q2
   refine ⟨by rw [Nat.add_comm]; exact q2,?_⟩
   show f + q < n
   refine Decidable.byContradiction fun hn'=>?_
   rw [Nat.testBit_lt_two_pow (Nat.lt_of_lt_of_le hx (Nat.pow_le_pow_right (by decide) (by omega)))] at q2
   cases q2
  ·obtain ⟨q,q1,q2,q3⟩:=ER hx h0
   rw [OE (by omega) q2 q3]
   exact ⟨q2,q1⟩
def ol (j : JobM) (l : List Int) : List Int:=if j.kind = 1 then [j.file] else if j.kind = 2 then l.take 1++l.drop j.deep else l.drop j.deep
structure JobT (F : ShM) (C : Int) (l : List Int) (j : JobM) : Prop where
 list : j.list = l
 n : (j.n : Int) = C
 deep : j.kind≠1 -> 1 <= j.deep /\ j.deep <= l.length /\ (l.drop j.deep).headD (-1) = j.file
 com : j.kind = 3 -> j.deep < l.length
 mir : j.kind = 1 -> j.file∉l /\ lq F j.file /\ clus F j.file = C /\ bkOf F j.file = -1
 r1 : j.st = 1 -> cnt j.x≠0
 r3 : j.st = 3 -> cnt j.x = 0
 see : ∀k : Nat,(k : Int) < 4 * C -> j.x.testBit (k / 4) = false -> seeF F (ol j l) k = seeF F l k
theorem K8 {j j' : JobM} (h : oO j j') (hd : j'.deep = j.deep) (l : List Int) : ol j' l = ol j l:=by
 unfold ol
 rw [h.2.1,h.2.2.1,hd]
theorem FN {l : List Int} {d : Nat} (h1 : 1 <= d) (h2 : d <= l.length) : ∃x t r,l = x::t++r /\ l.take d = x::t /\ l.drop d = r /\ l.take 1 = [x]:=by
 cases l with
 | nil=>simp at h2; omega
 | cons x l=>
  obtain ⟨d,rfl⟩ : ∃q,d = q + 1:=⟨d - 1,by omega⟩
  exact ⟨x,l.take d,l.drop d,by rw [List.cons_append,List.take_append_drop],by simp,by simp,by simp⟩
theorem Er {F : ShM} {C : Int} {l : List Int} {N : Nat} (hF : Fl F C l) (hW : ShW N F) {j : JobM} (hl : j.list = l) (h1 : j.kind≠1) (hk : j.kind = 2 \/ j.kind = 3) (hd : 1 <= j.deep /\ j.deep <= l.length) {c i : Nat} (hi : i < 4) :
  (oH F j (c : Int) = false -> seeF F (ol j l) (4 * c + i) = seeF F l (4 * c + i)) /\ (oH F j (c : Int) = true -> ∃x∈l.take j.deep,lF F x (4 * c + i)≠none):=by
 obtain ⟨x,t,r,e1,e2,e3,e4⟩:=FN hd.1 hd.2
 have himg : ∀y∈l.take j.deep,∃m,F y.toNat = some m /\ m.Ok:=fun y hy=>by
  obtain ⟨m,a,-,-,b,-⟩:=hF.img hW (List.mem_of_mem_take hy)
  exact ⟨m,a,b⟩
 have ha : ol j l = if j.kind = 2 then x::r else r:=by
  unfold ol
  rw [zq h1,e3,e4]
  rfl
 unfold oH
 rw [zq h1,hl]
 unfold oX
 rcases Cc hi (i:=0) himg with ⟨f1,f2⟩ | ⟨p,p1,p2,p3,p4⟩
 ·rw [f1]
  refine ⟨fun _=>?_,fun h=>?_⟩
  ·rw [e2] at f2
   rw [ha,e1]
   have e0 : seeF F (x::t++r) (4 * c + i) = seeF F r (4 * c + i):=JO f2
   rw [e0]
   split
   ·exact A1 (f2 x (List.mem_cons_self ..))
   ·rfl
  ·split at h
   ·cases h
   ·cases h
 ·rw [p2]
  have hmem : (l.take j.deep).getD p 0∈l.take j.deep:=by
   rw [List.getD_eq_getElem?_getD,List.getElem?_eq_getElem p1]
   exact List.getElem_mem p1
  refine ⟨fun h=>?_,fun _=>⟨_,hmem,p3⟩⟩
  split at h
  ·rename_i h2
   have hp : p = 0:=by have:=of_decide_eq_false h; omega
   subst hp
   rw [ha,zt h2,e1]
   rw [e2] at p3
   have p3 : lF F x (4 * c + i)≠none:=p3
   cases hx : lF F x (4 * c + i) with
   | none=>exact absurd hx p3
   | some s=>rw [List.cons_append,yk hx,yk hx]
  ·exact absurd (of_decide_eq_false h) (by omega)
theorem Eg {F : ShM} {C : Int} {x : Int} {l : List Int} (h : Fl F C (x::l)) : ∀y∈l,y.toNat≠x.toNat:=fun y hy e=>by
 obtain ⟨a,-⟩:=h.file x (List.mem_cons_self ..)
 obtain ⟨b,-⟩:=h.file y (List.mem_cons_of_mem _ hy)
 have : y = x:=by omega
 subst this
 exact (List.nodup_cons.1 h.nd).1 hy
theorem IP {F : ShM} {C : Int} {l : List Int} {N : Nat} (hF : Fl F C l) (hW : ShW N F) (hN : N < 900000) {j : JobM} (hj : j.Ok) (hT : JobT F C l j) {c : Nat} (hc : (c : Int) < C) :
  ((oq F j c).1 = 0 \/ (oq F j c).1 = 6 \/ (oq F j c).1 = 7) /\ (∀k,seeF (oq F j c).2 l k = seeF F l k) /\
  (∀k,k / 4≠c -> seeF (oq F j c).2 (ol j l) k = seeF F (ol j l) k) /\ ((oq F j c).1 = 0 -> ∀k,k / 4 = c -> seeF (oq F j c).2 (ol j l) k = seeF F l k):=by
 have hl0 : l≠[]:=by have:=hj.pos; rw [hT.list] at this; intro e; rw [e] at this; exact this rfl
 obtain ⟨r1,r2,r3⟩:=CB hF hW hl0 hc
 have hs : ∀k,k / 4 = c -> lz (om F l (c : Int)).1 (k % 4) = seeF F l k:=fun k hk=>by
  rw [BU,r3 (k % 4) (by omega)]
  congr 1
  omega
 unfold oq
 split
 ·rename_i hw
  refine ⟨.inl rfl,fun _=>rfl,fun _ _=>rfl,fun _ k hk=>?_⟩
  have h1 : j.kind≠1:=fun h=>by unfold oH at hw; rw [zt h] at hw; cases hw
  have hd:=hT.deep h1
  have:=(Er hF hW hT.list h1 (hj.kind.resolve_left h1) ⟨hd.1,hd.2.1⟩ (c:=c) (i:=k % 4) (by omega)).1 hw
  rw [show 4 * c + k % 4 = k by omega] at this
  exact this
 ·rename_i hw
  rw [hT.list,zq (by rw [r1]; simp)]
  have hw : oH F j (c : Int) = true:=by simpa using hw
  generalize (om F l (c : Int)).1 = s at *
  rcases hj.kind with h1 | h23
  ·
   obtain ⟨m1,m2,m3,m4⟩:=hT.mir h1
   obtain ⟨f0,f5,m,hm⟩:=m2
   have ht : toM j = j.file:=by unfold toM; rw [zq (by omega)]
   have ho:=hW.ok _ m (by omega) hm
   have hcm : m.c = C:=by rw [<- m3]; unfold clus; rw [hm]
   have hcl : c < m.t.length:=by have:=ho.t; omega
   obtain ⟨a1,a2,a3,a4⟩:=Dp hW hN (by omega) hm hcl r2
   rw [ht]
   have ha : ol j l = [j.file]:=by unfold ol; rw [zt h1]
   rw [ha]
   refine ⟨a2,fun k=>oP fun y hy=>?_,fun k hk=>oP fun y hy=>?_,fun h0 k hk=>?_⟩
   ·unfold lF
    rw [a1 _ (by have:=(hF.file y hy).1; have : y≠j.file:=fun e=>m1 (e ▸ hy); omega)]
   ·rw [List.mem_singleton.1 hy]
    rcases a3 k with e | ⟨e,-⟩
    ·exact e
    ·exact absurd e hk
   ·rw [yk (a4 h0 k hk),hs k hk]
  ·have h1 : j.kind≠1:=by omega
   obtain ⟨d1,d2,d3⟩:=hT.deep h1
   obtain ⟨x,t,r,e1,e2,e3,e4⟩:=FN d1 d2
   rcases h23 with h2 | h3
   ·
    have ht : toM j = x:=by unfold toM; rw [zt h2,hT.list,e1]; rfl
    have hx : x∈l:=by rw [e1]; simp
    obtain ⟨m,hm,h5,h0,ho,hcm,hlm⟩:=hF.img hW hx
    obtain ⟨a1,a2,a3,a4⟩:=Dp hW hN h5 hm (by omega : c < m.t.length) r2
    rw [ht]
    have ha : ol j l = x::r:=by unfold ol; rw [zq h1,zt h2,e3,e4]; rfl
    have hF' : Fl F C (x::(t++r)):=by rw [<- List.cons_append,<- e1]; exact hF
    have hne:=Eg hF'
    have hoff : ∀y∈t++r,∀k,lF (yd F x.toNat c s).2 y k = lF F y k:=fun y hy k=>by unfold lF; rw [a1 _ (hne y hy)]
    have hr : ∀y∈r,∀k,lF (yd F x.toNat c s).2 y k = lF F y k:=fun y hy=>hoff y (List.mem_append_right _ hy)
    rw [ha]
    refine ⟨a2,fun k=>?_,fun k hk=>?_,fun h0 k hk=>?_⟩
    ·rcases a3 k with e | ⟨hk,e⟩
     ·refine oP fun y hy=>?_
      rw [e1,List.cons_append] at hy
      rcases List.mem_cons.1 hy with rfl | hy
      ·exact e
      ·exact hoff y hy k
     ·rw [hs k hk] at e
      rw [e1,List.cons_append] at e ⊢
      exact yk e
    ·refine oP fun y hy=>?_
     rcases List.mem_cons.1 hy with rfl | hy
     ·rcases a3 k with e | ⟨e,-⟩
      ·exact e
      ·exact absurd e hk
     ·exact hr y hy k
    ·rw [yk (a4 h0 k hk),hs k hk]
   ·
    have hlt:=hT.com h3
    obtain ⟨y,r',hr'⟩ : ∃y r',r = y::r':=by
     cases r with
     | nil=>have h' : (l.drop j.deep).length = l.length - j.deep:=List.length_drop; rw [e3] at h'; simp at h'; omega
     | cons y r'=>exact ⟨y,r',rfl⟩
    rw [e3,hr'] at d3
    have d3 : y = j.file:=d3
    subst hr'
    subst d3
    have ht : toM j = j.file:=by unfold toM; rw [zq (by omega)]
    have hx : j.file∈l:=by rw [e1]; simp
    obtain ⟨m,hm,h5,h0,ho,hcm,hlm⟩:=hF.img hW hx
    obtain ⟨a1,a2,a3,a4⟩:=Dp hW hN h5 hm (by omega : c < m.t.length) r2
    rw [ht]
    have ha : ol j l = j.file::r':=by unfold ol; rw [zq h1,zq (by omega),e3]
    have hnd:=hF.nd
    rw [e1] at hnd
    have hne : ∀y∈x::t,y.toNat≠j.file.toNat:=fun y hy=>by
     have h1:=(hF.file y (by rw [e1]; exact List.mem_append_left _ hy)).1
     have h2 : y≠j.file:=fun e=>(List.nodup_append.1 hnd).2.2 y hy j.file (List.mem_cons_self ..) e
     omega
    have hF2 : Fl F C (j.file::r'):=hF.sub (by rw [e1]; exact List.sublist_append_right _ _)
    have hne2:=Eg hF2
    have hup : ∀y∈x::t,∀k,lF (yd F j.file.toNat c s).2 y k = lF F y k:=fun y hy k=>by unfold lF; rw [a1 _ (hne y hy)]
    have hlo : ∀y∈r',∀k,lF (yd F j.file.toNat c s).2 y k = lF F y k:=fun y hy k=>by unfold lF; rw [a1 _ (hne2 y hy)]
    rw [ha]
    refine ⟨a2,fun k=>?_,fun k hk=>?_,fun h0 k hk=>?_⟩
    ·rcases a3 k with e | ⟨hk,e⟩
     ·refine oP fun y hy=>?_
      rw [e1] at hy
      rcases List.mem_append.1 hy with hy | hy
      ·exact hup y hy k
      ·rcases List.mem_cons.1 hy with rfl | hy
       ·exact e
       ·exact hlo y hy k
     ·obtain ⟨y,hy,hn⟩:=(Er hF hW hT.list h1 (.inr h3) ⟨d1,d2⟩ (c:=c) (i:=k % 4) (by omega)).2 hw
      rw [show 4 * c + k % 4 = k by omega,e2] at *
      rw [e1,LF (l:=x::t) ⟨y,hy,by rw [hup y hy k]; exact hn⟩,LF (l:=x::t) ⟨y,hy,hn⟩]
      exact oP fun y hy=>hup y hy k
    ·refine oP fun y hy=>?_
     rcases List.mem_cons.1 hy with rfl | hy
     ·rcases a3 k with e | ⟨e,-⟩
      ·exact e
      ·exact absurd e hk
     ·exact hlo y hy k
    ·rw [yk (a4 h0 k hk),hs k hk]
theorem DO (j : JobM) : ∃s,yX j = { j with st:=s } /\ (s = 1 -> cnt j.x≠0 \/ j.st≠1) /\ (s = 3 -> cnt j.x = 0 \/ j.st≠3) /\ (j.st = 1 \/ j.st = 3 -> (s = 1 /\ cnt j.x≠0) \/ (s = 3 /\ cnt j.x = 0)) /\ (j.st≠1 -> j.st≠3 -> s = j.st):=by
 unfold yX
 split
 ·rename_i h
  exact ⟨3,rfl,fun h=>by omega,fun _=>.inl h.2,fun _=>.inr ⟨rfl,h.2⟩,fun h'=>absurd h.1 h'⟩
 ·rename_i h
  split
  ·rename_i h'
   exact ⟨1,rfl,fun _=>.inl (by omega),fun h=>by omega,fun _=>.inl ⟨rfl,by omega⟩,fun _ h''=>absurd h'.1 h''⟩
  ·rename_i h'
   refine ⟨j.st,rfl,fun h1=>.inl fun h0=>h ⟨h1,h0⟩,fun h1=>.inl (by omega),fun h1=>?_,fun _ _=>rfl⟩
   rcases h1 with h1 | h1
   ·exact .inl ⟨h1,fun h0=>h ⟨h1,h0⟩⟩
   ·exact .inr ⟨h1,by omega⟩
theorem JobT.turn {F F' : ShM} {C : Int} {l : List Int} {j j' : JobM} (h : JobT F C l j) (hs : lT F F') (hj : oO j j') (hd : j'.deep = j.deep) (hst : j'.st = 1 \/ j'.st = 3 \/ j'.st = 2)
  (see : ∀k : Nat,(k : Int) < 4 * C -> j'.x.testBit (k / 4) = false -> seeF F' (ol j l) k = seeF F' l k) : JobT F' C l (yX j'):=by
 obtain ⟨s,e,-,-,h13,hno⟩:=DO j'
 obtain ⟨q1,q2,q3,q4,q5⟩:=hj
 rw [e]
 refine ⟨q1.trans h.list,by rw [<- h.n,<- q5],fun h1=>?_,fun h1=>?_,fun h1=>?_,fun h1=>?_,fun h1=>?_,?_⟩
 ·rw [show ({ j' with st:=s } : JobM).deep = j.deep from hd,show ({ j' with st:=s } : JobM).file = j.file from q3]
  exact h.deep (by rw [<- q2]; exact h1)
 ·rw [show ({ j' with st:=s } : JobM).deep = j.deep from hd]
  exact h.com (by rw [<- q2]; exact h1)
 ·rw [show ({ j' with st:=s } : JobM).file = j.file from q3]
  obtain ⟨m1,m2,m3,m4⟩:=h.mir (by rw [<- q2]; exact h1)
  have h5 : j.file.toNat < 5:=by have:=m2.1; have:=m2.2.1; omega
  exact ⟨m1,hs.file.2 m2,(hs.clus m2).trans m3,by rw [BS,hs _ h5,<- BS]; exact m4⟩
 ·change s = 1 at h1
  show cnt j'.x≠0
  by_cases h2 : j'.st = 1 \/ j'.st = 3
  ·rcases h13 h2 with ⟨-,h3⟩ | ⟨h3,-⟩
   ·exact h3
   ·omega
  ·have:=hno (fun h=>h2 (.inl h)) (fun h=>h2 (.inr h))
   omega
 ·change s = 3 at h1
  show cnt j'.x = 0
  by_cases h2 : j'.st = 1 \/ j'.st = 3
  ·rcases h13 h2 with ⟨h3,-⟩ | ⟨-,h3⟩
   ·omega
   ·exact h3
  ·have:=hno (fun h=>h2 (.inl h)) (fun h=>h2 (.inr h))
   omega
 ·have ha : ol { j' with st:=s } l = ol j l:=by
   unfold ol
   rw [show ({ j' with st:=s } : JobM).kind = j.kind from q2,show ({ j' with st:=s } : JobM).file = j.file from q3,show ({ j' with st:=s } : JobM).deep = j.deep from hd]
  rw [ha]
  exact see
theorem JobT.x_lt {F : ShM} {C : Int} {l : List Int} {j : JobM} (h : JobT F C l j) {k : Nat} (hk : (k : Int) < 4 * C) : k / 4 < j.n:=by have:=h.n; omega
theorem Pd {F : ShM} {C : Int} {l : List Int} {N : Nat} (hF : Fl F C l) (hW : ShW N F) (hN : N < 900000) {j : JobM} (hj : j.Ok) (hS : JobS F j) (hT : JobT F C l j) (h4 : j.st < 4) :
  ((lh F j).1.2 = 0 \/ (lh F j).1.2 = 6 \/ (lh F j).1.2 = 7 \/ ((lh F j).1.2 = 9 /\ (lh F j).2 = (F,j))) /\ (∀k,seeF (lh F j).2.1 l k = seeF F l k) /\ ((lh F j).2.2.st < 4 -> JobT (lh F j).2.1 C l (lh F j).2.2):=by
 have hst:=CU (hW.sh hN) hj hS
 unfold lh
 split
 ·exact ⟨.inr (.inr (.inr ⟨rfl,rfl⟩)),fun _=>rfl,fun _=>hT⟩
 ·rename_i h1
  split
  ·exact ⟨.inl rfl,fun _=>rfl,fun _=>hT⟩
  ·rename_i h2
   have hb : (lU j).2 = true:=by cases h : (lU j).2 <;> simp_all
   have hl4 : ¬j.level < 4:=fun h=>h2 (.inr h)
   obtain ⟨b1,b2⟩:=LA hj.n hj.x (fr:=(j.at_ : Int)) hb
   have hn:=hT.n
   change j.x.testBit (lU j).1 = true at b1
   change (lU j).1 < j.n at b2
   obtain ⟨a1,a2,a3,a4⟩:=IP hF hW hN hj hT (c:=(lU j).1) (by omega)
   split
   ·rename_i h3
    refine ⟨?_,a2,fun h=>?_⟩
    ·rcases a1 with h | h | h
     ·exact absurd h h3
     ·exact .inr (.inl h)
     ·exact .inr (.inr (.inl h))
    ·exact absurd (show (5 : Int) < 4 from h) (by decide)
   ·rename_i h3
    refine ⟨.inl rfl,a2,fun _=>?_⟩
    have h0:=Decidable.not_not.1 h3
    unfold jdid
    refine hT.turn (hst ((lU j).1 : Nat)).same ⟨rfl,rfl,rfl,rfl,rfl⟩ rfl (by dsimp only; omega) fun k hk hx=>?_
    dsimp only at hx
    rw [C7 hj.x] at hx
    rw [a2]
    by_cases e : k / 4 = (lU j).1
    ·exact a4 h0 k e
    ·rw [a3 k e]
     rw [zq (fun h=>e h.1)] at hx
     exact hT.see k hk hx
theorem JobT.pause {F : ShM} {C : Int} {l : List Int} {j : JobM} (h : JobT F C l j) (on : Bool) : JobT F C l (o8 j on).2:=by
 unfold o8
 split
 ·split
  ·exact ⟨h.list,h.n,h.deep,h.com,h.mir,fun h=>absurd (show (2 : Int) = 1 from h) (by decide),fun h=>absurd (show (2 : Int) = 3 from h) (by decide),h.see⟩
  ·exact h
 ·split
  ·exact h.turn (j':={ j with st:=1 }) (lT.refl F) ⟨rfl,rfl,rfl,rfl,rfl⟩ rfl (.inl rfl) h.see
  ·exact h
theorem JobT.tick {F : ShM} {C : Int} {l : List Int} {j : JobM} (h : JobT F C l j) (n : Int) : JobT F C l (zY j n):=by
 unfold zY
 split
 ·exact ⟨h.list,h.n,h.deep,h.com,h.mir,h.r1,h.r3,h.see⟩
 ·exact h
theorem Ji {j : JobM} (hj : j.Ok) (c : Nat) : oO j (yu j c) /\ (yu j c).deep = j.deep /\ ((yu j c).st < 4↔j.st < 4) /\ (∀q,j.x.testBit q = true -> (yu j c).x.testBit q = true) /\ (j.st < 4 -> j.kind≠2 -> c < j.n -> (yu j c).x.testBit c = true) /\ (j.kind = 2 -> yu j c = j):=by
 unfold yu
 split
 ·rename_i h
  obtain ⟨s,e,-,-,h13,hno⟩:=DO { j with x:=(ou j.n j.x (c : Int) true).2 }
  rw [e]
  refine ⟨⟨rfl,rfl,rfl,rfl,rfl⟩,rfl,⟨fun _=>h.1,fun _=>?_⟩,fun q hq=>?_,fun _ _ hc=>?_,fun h2=>absurd h2 h.2⟩
  ·show s < 4
   by_cases h2 : j.st = 1 \/ j.st = 3
   ·rcases h13 h2 with ⟨h3,-⟩ | ⟨h3,-⟩ <;> omega
   ·have : s = j.st:=hno (fun h=>h2 (.inl h)) (fun h=>h2 (.inr h))
    omega
  ·show (ou j.n j.x (c : Int) true).2.testBit q = true
   rw [C7 hj.x]
   split
   ·rfl
   ·exact hq
  ·show (ou j.n j.x (c : Int) true).2.testBit c = true
   rw [C7 hj.x,zt ⟨rfl,hc⟩]
 ·rename_i h
  exact ⟨oO.refl j,rfl,Iff.rfl,fun _ h=>h,fun a b=>absurd ⟨a,b⟩ h,fun _=>rfl⟩
theorem Jt : ∀(n : Nat) {j : JobM},j.Ok -> ∀(c : Nat),oO j (lQ j c n) /\ (lQ j c n).deep = j.deep /\ ((lQ j c n).st < 4↔j.st < 4) /\ (∀q,j.x.testBit q = true -> (lQ j c n).x.testBit q = true) /\
  (j.st < 4 -> j.kind≠2 -> ∀q,c <= q -> q < c + n -> q < j.n -> (lQ j c n).x.testBit q = true) /\ (j.kind = 2 -> lQ j c n = j):=by
 intro n
 induction n with
 | zero=>intro j _ c; exact ⟨oO.refl j,rfl,Iff.rfl,fun _ h=>h,fun _ _ q _ _=>by omega,fun _=>rfl⟩
 | succ n ih=>
  intro j hj c
  obtain ⟨a1,a2,a3,a4,a5,a6⟩:=Ji hj c
  obtain ⟨b1,b2,b3,b4,b5,b6⟩:=ih (EF hj (c : Int)) (c + 1)
  rw [lQ,show ((c : Int) + 1) = ((c + 1 : Nat) : Int) by omega]
  refine ⟨⟨b1.1.trans a1.1,b1.2.1.trans a1.2.1,b1.2.2.1.trans a1.2.2.1,b1.2.2.2.1.trans a1.2.2.2.1,b1.2.2.2.2.trans a1.2.2.2.2⟩,b2.trans a2,b3.trans a3,fun q h=>b4 q (a4 q h),fun h4 h2 q hq1 hq2 hqn=>?_,fun h2=>?_⟩
  ·by_cases e : q = c
   ·subst e
    exact b4 q (a5 h4 h2 hqn)
   ·exact b5 (a3.2 h4) (by rw [a1.2.1]; exact h2) q (by omega) (by omega) (by rw [a1.2.2.2.2]; exact hqn)
  ·rw [a6 h2]
   have:=b6 (by rw [a6 h2]; exact h2)
   rw [a6 h2] at this
   exact this
theorem Jy : ∀(n : Nat) {F : ShM} {C : Int} {l : List Int} {j : JobM} (c : Nat),j.Ok -> j.st < 4 -> ((j.st = 1 -> cnt j.x≠0) /\ (j.st = 3 -> cnt j.x = 0)) -> (((lQ j c n).st = 1 -> cnt (lQ j c n).x≠0) /\ ((lQ j c n).st = 3 -> cnt (lQ j c n).x = 0)):=by
 intro n
 induction n with
 | zero=>intro F C l j c _ _ h; exact h
 | succ n ih=>
  intro F C l j c hj h4 h
  rw [lQ,show ((c : Int) + 1) = ((c + 1 : Nat) : Int) by omega]
  refine ih (F:=F) (C:=C) (l:=l) (c + 1) (EF hj (c : Int)) ((Ji hj c).2.2.1.2 h4) ?_
  unfold yu
  split
  ·obtain ⟨s,e,-,-,h13,hno⟩:=DO { j with x:=(ou j.n j.x (c : Int) true).2 }
   rw [e]
   by_cases h2 : j.st = 1 \/ j.st = 3
   ·rcases h13 h2 with ⟨h3,h5⟩ | ⟨h3,h5⟩
    ·exact ⟨fun _=>h5,fun h=>absurd (h3.symm.trans h) (by decide)⟩
    ·exact ⟨fun h=>absurd (h3.symm.trans h) (by decide),fun _=>h5⟩
   ·have e2 : s = j.st:=hno (fun h=>h2 (.inl h)) (fun h=>h2 (.inr h))
    exact ⟨fun h=>absurd (.inl (e2.symm.trans h)) h2,fun h=>absurd (.inr (e2.symm.trans h)) h2⟩
  ·exact h
theorem JobT.wrote {F F' : ShM} {C : Int} {x : Int} {l : List Int} {N : Nat} (hF : Fl F C (x::l)) (hsh : lT F F') {fr n : Nat} {new : Nat -> ByteArray} {j : JobM} (hj : j.Ok) (h4 : j.st < 4) (hT : JobT F C (x::l) j)
  (hr : Rise F F' x) (ho : ∀i,seeF F' (x::l) i = seeF F (x::l) i \/ ∃q,q < n /\ i = fr + q) {c d : Nat} (hcd : ∀q,q < n -> c <= (fr + q) / 4 /\ (fr + q) / 4 < c + d) : JobT F' C (x::l) (lQ j c d):=by
 obtain ⟨a1,a2,a3,a4,a5,a6⟩:=Jt d hj c
 obtain ⟨t1,t3⟩:=Jy d (F:=F) (C:=C) (l:=l) c hj h4 ⟨hT.r1,hT.r3⟩
 have hne:=Eg hF
 have ha : ol (lQ j c d) (x::l) = ol j (x::l):=K8 a1 a2 _
 refine ⟨a1.1.trans hT.list,by rw [<- hT.n,<- a1.2.2.2.2],fun h1=>?_,fun h1=>?_,fun h1=>?_,t1,t3,fun k hk hx=>?_⟩
 ·rw [a2,a1.2.2.1]; exact hT.deep (by rw [<- a1.2.1]; exact h1)
 ·rw [a2]; exact hT.com (by rw [<- a1.2.1]; exact h1)
 ·rw [a1.2.2.1]
  obtain ⟨m1,m2,m3,m4⟩:=hT.mir (by rw [<- a1.2.1]; exact h1)
  have h5 : j.file.toNat < 5:=by have:=m2.1; have:=m2.2.1; omega
  exact ⟨m1,hsh.file.2 m2,(hsh.clus m2).trans m3,by rw [BS,hsh _ h5,<- BS]; exact m4⟩
 ·rw [ha]
  by_cases h2 : j.kind = 2
  ·rw [a6 h2] at hx
   have h0:=hT.see k hk hx
   obtain ⟨d1,d2,d3⟩:=hT.deep (by omega)
   have e : ol j (x::l) = x::(x::l).drop j.deep:=by unfold ol; rw [zq (by omega),zt h2]; rfl
   rw [e] at h0 ⊢
   refine hr.two (fun y hy=>hne y ?_) hne h0
   obtain ⟨p,hp⟩ : ∃p,j.deep = p + 1:=⟨j.deep - 1,by omega⟩
   rw [hp,List.drop_succ_cons] at hy
   exact List.mem_of_mem_drop hy
  ·have hx0 : j.x.testBit (k / 4) = false:=by
    cases h : j.x.testBit (k / 4) with
    | false=>rfl
    | true=>rw [a4 _ h] at hx; cases hx
   have hsee : seeF F' (x::l) k = seeF F (x::l) k:=by
    rcases ho k with e | ⟨q,hq,e⟩
    ·exact e
    ·obtain ⟨c1,c2⟩:=hcd q hq
     rw [<- e] at c1 c2
     rw [a5 h4 h2 _ c1 c2 (hT.x_lt hk)] at hx
     cases hx
   rw [hsee,<- hT.see k hk hx0]
   refine oP fun y hy=>hr.face ?_ k
   unfold ol at hy
   split at hy
   ·rename_i h1
    obtain ⟨m1,m2,-⟩:=hT.mir h1
    rw [List.mem_singleton.1 hy]
    have hx1:=(hF.file x (List.mem_cons_self ..)).1
    have : j.file≠x:=fun e=>m1 (by rw [e]; exact List.mem_cons_self ..)
    have:=m2.1
    omega
   ·rename_i h1
    obtain ⟨d1,-⟩:=hT.deep h1
    obtain ⟨p,hp⟩ : ∃p,j.deep = p + 1:=⟨j.deep - 1,by omega⟩
    rw [hp,List.drop_succ_cons] at hy
    exact hne y (List.mem_of_mem_drop hy)
theorem JobT.off {F F' : ShM} {C : Int} {l : List Int} {j : JobM} (hT : JobT F C l j) (hF : Fl F C l) {file : Int} (h0 : 0 <= file) (hn : file∉l) (hne : file≠j.file) (hF' : ∀k,k≠file.toNat -> F' k = F k) : JobT F' C l j:=by
 have hf : ∀y,0 <= y -> y≠file -> F' y.toNat = F y.toNat:=fun y hy h=>hF' _ (by omega)
 have hl : ∀y∈l,∀k,lF F' y k = lF F y k:=fun y hy k=>by unfold lF; rw [hf y (hF.file y hy).1 fun e=>hn (e ▸ hy)]
 refine ⟨hT.list,hT.n,hT.deep,hT.com,fun h1=>?_,hT.r1,hT.r3,fun k hk hx=>?_⟩
 ·obtain ⟨m1,m2,m3,m4⟩:=hT.mir h1
  have e:=hf j.file m2.1 (fun e=>hne e.symm)
  refine ⟨m1,⟨m2.1,m2.2.1,by rw [e]; exact m2.2.2⟩,?_,?_⟩
  ·unfold clus at m3 ⊢; rw [e]; exact m3
  ·unfold bkOf at m4 ⊢; rw [e]; exact m4
 ·rw [oP (l:=l) fun y hy=>hl y hy k,<- hT.see k hk hx]
  refine oP fun y hy=>?_
  unfold ol at hy
  split at hy
  ·rename_i h1
   rw [List.mem_singleton.1 hy]
   obtain ⟨-,m2,-⟩:=hT.mir h1
   unfold lF
   rw [hf j.file m2.1 (fun e=>hne e.symm)]
  ·split at hy
   ·rcases List.mem_append.1 hy with hy | hy
    ·exact hl y (List.mem_of_mem_take hy) k
    ·exact hl y (List.mem_of_mem_drop hy) k
   ·exact hl y (List.mem_of_mem_drop hy) k
theorem JobT.faces {F F' : ShM} {C : Int} {l : List Int} {j : JobM} (hT : JobT F C l j) (hs : lT F F') (hf : ∀x k,lF F' x k = lF F x k) : JobT F' C l j:=by
 refine ⟨hT.list,hT.n,hT.deep,hT.com,fun h1=>?_,hT.r1,hT.r3,fun k hk hx=>?_⟩
 ·obtain ⟨m1,m2,m3,m4⟩:=hT.mir h1
  have h5 : j.file.toNat < 5:=by have:=m2.1; have:=m2.2.1; omega
  exact ⟨m1,hs.file.2 m2,(hs.clus m2).trans m3,by rw [BS,hs _ h5,<- BS]; exact m4⟩
 ·rw [oP fun y _=>hf y k,oP (l:=l) fun y _=>hf y k]
  exact hT.see k hk hx
theorem Ld {F : ShM} {N : Nat} (hW : ShW N F) {y : Nat} (hy : y < 5) (x : Int) (k : Nat) : lF (y9 F y) x k = lF F x k:=by
 unfold y9
 split
 ·rename_i m hm
  unfold lF
  by_cases e : x.toNat = y
  ·rw [e,yg,hm]
   exact Dr (hW.ok y m hy hm) k
  ·rw [AJ _ _ e]
 ·rfl
theorem B6 {N : Nat} : ∀{l : List Int} {F : ShM},ShW N F -> (∀x∈l,lq F x) -> ∀x k,lF (ox F l) x k = lF F x k:=by
 intro l
 induction l with
 | nil=>intro F _ _ x k; rfl
 | cons y l ih=>
  intro F hW hl x k
  have hy:=hl y (List.mem_cons_self ..)
  have hy5 : y.toNat < 5:=by have:=hy.1; have:=hy.2.1; omega
  rw [ox,ih (DF hW hy5) (fun z hz=>CZ (hl z (List.mem_cons_of_mem _ hz))),Ld hW hy5]
theorem L9 {F : ShM} {N : Nat} (hW : ShW N F) (hN : N < 900000) {y : Nat} (hy : y < 5) (c : Int) (x : Int) (k : Nat) : lF (yA F y c).2 x k = lF F x k:=by
 unfold yA
 split
 ·rename_i m hm
  unfold lF
  by_cases e : x.toNat = y
  ·rw [e]
   dsimp only
   rw [yg,hm]
   exact OM (hW.ok y m hy hm) c (by have:=hW.wr y m hy hm; omega) k
  ·dsimp only
   rw [AJ _ _ e]
 ·rfl
end Go.Proofs.YtbpblokfiajpjabGreatDoor
namespace Go.Proofs.YtbpblokfiajpjabGreatDoor
open Go.RowKit Go.SL Go.Crc
attribute [local go_sem ↓] Go.wp_at_zero Go.wp_at_succ
def RA.stA (Y : RA) (k bi : Nat) : RA:={ Y with A:=SQ Y.A k (bi,(Y.A k).2) }









theorem KL (m : ld) (fr : Int) (s : ByteArray) : 0 <= (oG m fr s).1:=by
 unfold oG
 split
 ·simp
 ·exact Nm _ _ _ _
theorem KY (m : ld) (fr n : Int) : 0 <= (oD m fr n).1:=by
 unfold oD
 split
 ·simp
 ·exact GO _ _ _ _
theorem Li (j : JobM) (on : Bool) : 0 <= (o8 j on).1:=by unfold o8; split <;> split <;> simp
theorem K1 (m : ld) (a b c d : Int) : 0 <= (yv m a b c d).1:=by
 unfold yv
 split
 ·simp
 ·split
  ·simp
  ·split
   ·exact Gx _ _ _ _ _
   ·have:=IJ m.F m.dk.root a b c d
    split
    ·rename_i h; rw [h] at this; exact this
    ·split
     ·exact BM _ _
     ·exact Li _ _
theorem Mg (N : Nat) (Y : YA) (m : ld) (hm : YOk N m) (hN : N < 900000) (file : Int) (R : List SL.HP) (w : World) (H : own w (yL Y m R)) :
  Calls Tryz.prog 108 #[.pointer (some ⟨Y.y,0,none⟩),.int .i64 file] w (yj Y (l7 m file (-1)) R w):=by
 have HB:=zh (G1 N Y m hm hN file (-1) R w H)
 clear hm hN H
 go_enter Tryz.func108,Tryz.ntmps108
 go_wp2_with fail
 refine HB.out.mono ?_
 rintro e w2 ⟨Y',hy,rfl,hx,h2⟩
 go_wp2_with fail
 go_ret
 exact ⟨Y',hy,rfl,hx,h2⟩

def BH (A : Nat -> Nat×Nat×Nat) (q k : Nat) : Value:=if k < q then .pointer (some ⟨(A k).2.1,0,none⟩) else .pointer none
def nC (bs : Nat) (A : Nat -> Nat×Nat×Nat) (q : Nat) (t : Value) (dk : l6) (v : Value) : Array Value:=#[BH A q 0,BH A q 1,BH A q 2,BH A q 3,BH A q 4,t,.pointer (some ⟨bs,0,none⟩),.int .i64 dk.root,.int .i64 dk.kind,.int .i64 dk.file,.int .i64 dk.rate,.int .i64 dk.burst,v,.pointer none]
def Ah (A : Nat -> Nat×Nat×Nat) (F : ShM) (D : Nat -> DevM) (q k : Nat) : HP:=if k < q then ov A F D k else emp
def nT (y bs : Nat) (A : Nat -> Nat×Nat×Nat) (F : ShM) (D : Nat -> DevM) (q : Nat) (t : Value) (dk : l6) (v : Value) : List SL.HP:=[pts y (.cells (nC bs A q t dk v) 165 (0,0)),Ah A F D q 0,Ah A F D q 1,Ah A F D q 2,Ah A F D q 3,Ah A F D q 4]
abbrev nL (y bs : Nat) (A : Nat -> Nat×Nat×Nat) (F : ShM) (D : Nat -> DevM) (q : Nat) (t : Value) (dk : l6) (v : Value) (R : List SL.HP) : List SL.HP:=shL bs A F++(nT y bs A F D q t dk v++R)
theorem SU {y bs : Nat} {A : Nat -> Nat×Nat×Nat} {F : ShM} (D : Nat -> DevM) {t v : Value} {dk : l6} {R : List SL.HP} {w : World}
  (H : own w (pts y (.cells #[.pointer none,.pointer none,.pointer none,.pointer none,.pointer none,t,.pointer (some ⟨bs,0,none⟩),.int .i64 dk.root,.int .i64 dk.kind,.int .i64 dk.file,.int .i64 dk.rate,.int .i64 dk.burst,v,.pointer none] 165 (0,0))::(shL bs A F++R))) : own w (nL y bs A F D 0 t dk v R):=by
 have h1:=zE (zE (zE (zE (zE H))))
 have h2:=lp [emp,emp,emp,emp,emp] [_] h1
 exact lp (nT y bs A F D 0 t dk v) (shL bs A F) h2
theorem Qs {bs q : Nat} {A : Nat -> Nat×Nat×Nat} {F : ShM} {a : Nat×Nat×Nat} (hF : F q = none) : shL bs (stA A q a) F = shL bs A F:=by
 have hP : ∀k,oS (stA A q a) F k = oS A F k:=fun k=>by
  unfold oS stA
  by_cases e : k = q
  ·subst e; rw [hF]
  ·rw [zq e]
 have hV : ∀k,yc (stA A q a) F k = yc A F k:=fun k=>by
  unfold yc stA
  by_cases e : k = q
  ·subst e; rw [hF]
  ·rw [zq e]
 unfold shL oQ
 rw [hP,hP,hP,hP,hP,hV,hV,hV,hV,hV]
theorem O9 {A : Nat -> Nat×Nat×Nat} {q k : Nat} {a : Nat×Nat×Nat} : BH (stA A q a) (q + 1) k = if k = q then .pointer (some ⟨a.2.1,0,none⟩) else BH A q k:=by
 unfold BH stA
 by_cases e : k = q
 ·subst e; rw [zt rfl,zt rfl,zt (by omega)]
 ·rw [zq e,zq e]
  by_cases h : k < q
  ·rw [zt h,zt (by omega)]
  ·rw [zq h,zq (by omega)]
theorem Ps {A : Nat -> Nat×Nat×Nat} {F : ShM} {D : Nat -> DevM} {q k : Nat} {a : Nat×Nat×Nat} (hF : F q = none) : Ah (stA A q a) F D (q + 1) k = if k = q then lt a.2.1 (D q) else Ah A F D q k:=by
 unfold Ah ov stA
 by_cases e : k = q
 ·subst e; rw [zt (by omega),hF,zt rfl,zt rfl]
 ·rw [zq e,zq e]
  by_cases h : k < q
  ·rw [zt h,zt (by omega)]
  ·rw [zq h,zq (by omega)]
theorem CA {A : Nat -> Nat×Nat×Nat} {F : ShM} {D : Nat -> DevM} {q : Nat} : Ah A F D q q = emp:=zq (by omega)
theorem SX {y bs q c : Nat} {A : Nat -> Nat×Nat×Nat} {F : ShM} {D : Nat -> DevM} {t v : Value} {dk : l6} {R : List SL.HP} {w : World} (hq : q < 5) (hF : F q = none) (H : own w (lt c (D q)::nL y bs A F D q t dk v R)) :
  own (w.setCell ⟨y,q,none⟩ (.pointer (some ⟨c,0,none⟩))) (nL y bs (stA A q (0,c,0)) F D (q + 1) t dk v R):=by
 have h1:=ln (i:=q) (v:=.pointer (some ⟨c,0,none⟩)) 7 H rfl
 show own _ (shL bs (stA A q (0,c,0)) F++(nT y bs (stA A q (0,c,0)) F D (q + 1) t dk v++R))
 unfold nT nC
 rw [Qs hF]
 simp only [O9,Ps hF]
 match q,hq with
 | 0,_=>exact Ap 7 h1 (by show some (Ah A F D 0 0) = _; rw [CA])
 | 1,_=>exact Ap 8 h1 (by show some (Ah A F D 1 1) = _; rw [CA])
 | 2,_=>exact Ap 9 h1 (by show some (Ah A F D 2 2) = _; rw [CA])
 | 3,_=>exact Ap 10 h1 (by show some (Ah A F D 3 3) = _; rw [CA])
 | 4,_=>exact Ap 11 h1 (by show some (Ah A F D 4 4) = _; rw [CA])
theorem Sy {y bs tp : Nat} {A : Nat -> Nat×Nat×Nat} {F : ShM} {D : Nat -> DevM} {v : Value} {dk : l6} {top : DevM} {l : List Int} {R : List SL.HP} {w : World} (H : own w (nL y bs A F D 5 (.pointer (some ⟨tp,0,none⟩)) dk v (lt tp top::row 3 1 v l.length (lr l)::R))) :
  own w (yL ⟨y,bs,tp,A,v,0,0,0,undef⟩ ⟨F,D,top,dk,l,none⟩ R):=
 lD ((yL ⟨y,bs,tp,A,v,0,0,0,undef⟩ ⟨F,D,top,dk,l,none⟩ R).take 14) (zE H)
theorem ES {y bs q : Nat} {A : Nat -> Nat×Nat×Nat} {F : ShM} {D : Nat -> DevM} {t v : Value} {dk : l6} {R : List SL.HP} {w : World} (H : own w (nL y bs A F D q t dk v R)) : (∀i,w.cell? ⟨y,i,none⟩ = (nC bs A q t dk v)[i]?) /\ ∀i,w.frozen? ⟨y,i,none⟩ = false:=la 6 H rfl
theorem Se {y bs q k : Nat} {A : Nat -> Nat×Nat×Nat} {F : ShM} {D : Nat -> DevM} {t v : Value} {dk : l6} {R : List SL.HP} {w : World} (hk : k < 5) (H : own w (nL y bs A F D q t dk v R)) : w.cell? ⟨y,k,none⟩ = some (BH A q k):=by
 rw [(ES H).1]
 have h : k = 0 \/ k = 1 \/ k = 2 \/ k = 3 \/ k = 4:=by omega
 rcases h with rfl | rfl | rfl | rfl | rfl
 all_goals rfl
theorem Na {y bs k : Nat} {A : Nat -> Nat×Nat×Nat} {F : ShM} {D : Nat -> DevM} {t v : Value} {dk : l6} {R : List SL.HP} {w : World} (hk : k < 5) (H : own w (nL y bs A F D k t dk v R)) : w.cell? ⟨y,k,none⟩ = some (.pointer none):=by
 rw [Se hk H]; unfold BH; rw [zq (by omega)]
theorem KF {y bs q : Nat} {A : Nat -> Nat×Nat×Nat} {F : ShM} {D : Nat -> DevM} {t v : Value} {dk : l6} {P : SL.HP} {R : List SL.HP} {w : World} (H : own w (P::nL y bs A F D q t dk v R)) : own w (nL y bs A F D q t dk v (P::R)):=by
 have h:=lD (shL bs A F++nT y bs A F D q t dk v) (R:=R) (by rw [zp]; exact H)
 rwa [zp] at h




def newN (c p : Int) : Nat:=(zL c p).toNat
def newI (c p : Int) : ImgM:=(oa (lW (newN c p)) c p (-1)).2
def yq (c p : Int) : ld:=⟨put (fun _=>none) 0 (newI c p),fun _=>lW (newN c p),lW 1,lw 0,[0],none⟩
def yR (c p : Int) : ld:=(lm (yq c p) (lw 0)).2
theorem QV {c p b : Int} (h : ¬lH c p b) : 1 <= zL c p /\ zL c p <= 165:=by
 unfold lH at h
 unfold zL lA
 omega
theorem IA {c p b : Int} (h : ¬lH c p b) : (newN c p : Int) = zL c p /\ newN c p <= 165 /\ 1 <= newN c p:=by
 have:=QV h
 unfold newN
 omega
theorem OJ {c p : Int} (h : ¬lH c p (-1)) : (oa (lW (newN c p)) c p (-1)).1 = 0:=by
 obtain ⟨h1,h2,h3⟩:=IA h
 refine (JP (A5 (by omega)) (show (lW (newN c p)).fail < 0 by show (-1 : Int) < 0; decide) (by show (0 : Nat) < _; decide) (by show (0 : Int) < _; decide) ?_).1
 rintro (h4 | h4)
 ·exact h h4
 ·have : (lW (newN c p)).fl.length = newN c p:=by simp [lW]
  omega
theorem Nv (c p : Int) : (lm (yq c p) (lw 0)).1 = 0:=by
 have h : ((yq c p).top.write 0 (lw 0).s).1 = 0:=by
  refine (Ce (d:=lW 1) (by show (-1 : Int) < 0; decide) (by decide) (by show (0 : Int) < ((lW 1).fl.length : Nat); decide) ?_).1
  show (Ca 0 0 (-1) 0 0).size = 16
  unfold Ca
  rw [zv (by simp)]
 unfold lm
 rw [zq (by rw [h]; exact fun h=>h rfl)]
theorem PE (c p : Int) (h : ¬lH c p (-1)) (R : List SL.HP) (w : World) (H : own w R) :
  Calls Tryz.prog 31 #[.int .i64 c,.int .i64 p] w fun e w'=>∃Y : YA,e = .returned (.tuple #[.pointer (some ⟨Y.y,0,none⟩),.nilIface]) /\ Ext w w' /\ own w' (yL Y (yR c p) R):=by
 have hb:=lf H (.cells #[.int .i64 c,.int .i64 p,.int .i64 (-1)] 103)
 have hxb:=(zR w).alloc (.cells #[.int .i64 c,.int .i64 p,.int .i64 (-1)] 103)
 have HC:=zh (fun (R : List SL.HP) (w : World) (H : own w R)=>AQ c p (-1) R w H)
 have HNE:=zh (fun (R : List SL.HP) (w : World) (H : own w R)=>Kt c p (-1) h R w H)
 unfold oF Ai at HC
 unfold oF at HNE
 rw [zq h,lL] at HC
 obtain ⟨hn1,hn2,hn3⟩:=IA h
 have hcr:=OJ h
 have hnw:=Nv c p
 have hM : yR c p = (lm (yq c p) (lw 0)).2:=rfl
 have hM0 : yq c p = ⟨put (fun _=>none) 0 (newI c p),fun _=>lW (newN c p),lW 1,lw 0,[0],none⟩:=rfl
 have hI : newI c p = (oa (lW (newN c p)) c p (-1)).2:=rfl
 have HCR:=zh (fun (bd : Nat) (R : List SL.HP) (w : World) (H : own w (lt bd (lW (newN c p))::R))=>(GY bd (lW (newN c p)) (A5 (by omega)) (by show (0 : Nat) < _; decide) (by show (0 : Int) < _; decide) c p (-1) R w H).mono fun e w' h=>(h.resolve_left fun h=>h.1 hcr).2)
 unfold oF at HCR
 rw [<- hI] at HCR
 have HND:=zh (fun (R : List SL.HP) (w : World) (H : own w R)=>Fq (newN c p) R w (by unfold Ks; exact zg (by omega)) H)
 rw [hn1] at HND
 rw [hM]
 generalize newI c p = i0 at *
 generalize yq c p = M0 at *
 generalize newN c p = n at *
 generalize zL c p = ni at *
 have HNW:=zh hnw
 have HM0:=zh hM0
 clear h H hn1 hn2 hn3 hcr hI hM hnw hM0
 go_enter Tryz.func31,Tryz.ntmps31
 go_upto_region 2 with (fail)
 generalize w.heap.size = g at *
 generalize w.alloc (.cells #[.int .i64 c,.int .i64 p,.int .i64 (-1)] 103) = w1 at *
 obtain ⟨cg,fg⟩:=la 0 hb rfl
 have d0:=cg 0
 have d1:=cg 1
 have d2:=cg 2
 clear cg
 go_wp2_with fail
 refine (HC.out _ w1 hb).mono ?_
 rintro e w2 ⟨rfl,hx2,h2⟩
 clear d0 d1 d2 fg
 go_upto_region 5 with (fail)
 have h3:=Q5 (fun _=>(0,0,0)) h2
 have hx3:=(hxb.trans hx2).alloc (.cells #[.pointer none,.pointer none,.pointer none,.pointer none,.pointer none] 111)
 go_wp2_with fail
 generalize w2.heap.size = bs at *
 generalize w2.alloc (.cells #[.pointer none,.pointer none,.pointer none,.pointer none,.pointer none] 111) = w3 at *
 refine (BA 0 _ w3 h3).mono ?_
 rintro e w4 ⟨rfl,hx4,h4⟩
 unfold lw l6.v zQ
 dsimp only
 have h5:=lf h4 (.cells #[.int .i64 0] 3)
 have hx5:=(hx3.trans hx4).alloc (.cells #[.int .i64 0] 3)
 have h6 : own _ (row 3 1 (.slice (some ⟨w4.heap.size,0,none⟩) 1 1) 1 [.int .i64 0]::(shL bs (fun _=>(0,0,0)) (fun _=>none)++(pts g (.cells #[.int .i64 c,.int .i64 p,.int .i64 (-1)] 103 (0,0))::R))):=yt (cap:=1) (n:=1) (sz:=1) 0 h5 rfl (Nat.le_refl _) (by decide) rfl rfl
 have h7:=lf h6 (.cells #[.pointer none,.pointer none,.pointer none,.pointer none,.pointer none,.pointer none,.pointer (some ⟨bs,0,none⟩),.int .i64 0,.int .i64 0,.int .i64 (-1),.int .i64 0,.int .i64 0,.slice (some ⟨w4.heap.size,0,none⟩) 1 1,.pointer none] 165)
 have hx7:=hx5.alloc (.cells #[.pointer none,.pointer none,.pointer none,.pointer none,.pointer none,.pointer none,.pointer (some ⟨bs,0,none⟩),.int .i64 0,.int .i64 0,.int .i64 (-1),.int .i64 0,.int .i64 0,.slice (some ⟨w4.heap.size,0,none⟩) 1 1,.pointer none] 165)
 have h8:=lD (_::shL bs (fun _=>(0,0,0)) (fun _=>none)) (Iz h7)
 have h9:=SU (dk:=lw 0) (fun _=>lW n) h8
 clear h2 h3 h4 h5 h6 h7 h8 hx2 hx3 hx4 hx5 hb hxb
 go_wp2_with fail
 rw [show (w4.alloc (.cells #[.int .i64 0] 3)).heap.size = w4.heap.size + 1 by simp] at h9
 generalize w4.heap.size + 1 = y at *
 generalize w4.heap.size = sl at *
 generalize ((w4.alloc (.cells #[.int .i64 0] 3)).alloc (.cells #[.pointer none,.pointer none,.pointer none,.pointer none,.pointer none,.pointer none,.pointer (some ⟨bs,0,none⟩),.int .i64 0,.int .i64 0,.int .i64 (-1),.int .i64 0,.int .i64 0,.slice (some ⟨sl,0,none⟩) 1 1,.pointer none] 165)) = w7 at *
 go_loopw [23] (fun kv wr=>∃(q : Nat) (A : Nat -> Nat×Nat×Nat),q <= 5 /\ kv = .int .i64 q /\ Ext w wr /\ own wr (nL y bs A (fun _=>none) (fun _=>lW n) q (.pointer none) (lw 0) (.slice (some ⟨sl,0,none⟩) 1 1) (row 3 1 (.slice (some ⟨sl,0,none⟩) 1 1) 1 [.int .i64 0]::pts g (.cells #[.int .i64 c,.int .i64 p,.int .i64 (-1)] 103 (0,0))::R))) (fun kv _=>6 - (intOf kv).toNat)
 case atStart=>exact ⟨0,_,by omega,rfl,hx7,h9⟩
 case round=>
  clear h9 hx7
  obtain ⟨q,A,hq,rfl,hxr,hown⟩:=hrel
  by_cases hlt : q < 5
  ·have g1 : (q : Int) < 5:=by omega
   have g2 : (0 : Int) <= (q : Int):=by omega
   go_upto_region 9 with (fail)
   have hz:=lj hown
   have hxz:=hxr.drew
   refine wp_region_held_drew (S:=fun w'=>w'.cell? ⟨g,0,none⟩ = some (.int .i64 c) /\ w'.cell? ⟨g,1,none⟩ = some (.int .i64 p) /\ w'.cell? ⟨g,2,none⟩ = some (.int .i64 (-1))) (by kernel_rfl) (⟨(la 13 hz rfl).1 0,(la 13 hz rfl).1 1,(la 13 hz rfl).1 2⟩) (fun hHeld=>?_)
   refine tk 0 ?_
   refine tk 1 ?_
   refine tk 2 ?_
   try simp only [Act.put,tA,tB,tC,tD,tE,tF]
   refine tk 8 ?_
   refine tk 9 ?_
   try simp only [Act.put,tA,tB,tC,tD,tE,tF]
   refine rd 3 rfl fun K hK=>?_
   go_simp
   go_at_call 127
   refine (HNE.out _ _ hz).mono ?_
   rintro e w2 ⟨rfl,hx2,h2⟩
   go_simp
   refine hK.out _ _ ⟨(la 13 h2 rfl).1 0,(la 13 h2 rfl).1 1,(la 13 h2 rfl).1 2⟩ (fun _=>?_)
   clear hK K
   try simp only [Act.put,tA,tB,tC,tD,tE,tF]
   refine rd 4 rfl fun K hK=>?_
   go_simp
   go_at_call 61
   refine (HND.out _ _ h2).mono ?_
   rintro e w3 ⟨cb,rfl,hx3,h3⟩
   go_simp
   have hn3:=KF h3
   refine hK.out _ _ ⟨(la 14 hn3 rfl).1 0,(la 14 hn3 rfl).1 1,(la 14 hn3 rfl).1 2⟩ (fun _=>?_)
   clear hK K
   try simp only [Act.put,tA,tB,tC,tD,tE,tF]
   refine tk 5 ?_
   refine tk 6 ?_
   refine tk 7 ?_
   try simp only [Act.put,tA,tB,tC,tD,tE,tF]
   refine tk 10 ?_
   try simp only [Act.put,tA,tB,tC,tD,tE,tF]
   have cy:=Na hlt hn3
   have fy:=(ES hn3).2 q
   have h4:=SX (D:=fun _=>lW n) (F:=fun _=>none) (q:=q) hlt rfl h3
   refine rd 11 rfl fun K hK=>?_
   go_simp
   refine hK.out _ _ ⟨(la 13 h4 rfl).1 0,(la 13 h4 rfl).1 1,(la 13 h4 rfl).1 2⟩ (fun _=>?_)
   clear hK K
   try simp only [Act.put,tA,tB,tC,tD,tE,tF]
   refine tk 12 ?_
   try simp only [Act.put,tA,tB,tC,tD,tE,tF]
   refine wpAnyH_done (by kernel_rfl) ?_ _
   go_wp2_with fail
   go_roundw
   case rel=>exact ⟨q + 1,_,by omega,by go_num,(((hxz.trans hx2).trans hx3).setCell _ _),h4⟩
   case measure=>simp [intOf]; omega
  ·obtain rfl : q = 5:=by omega
   go_wp2_with fail
   refine (Fq 1 _ wr (by decide) hown).mono ?_
   rintro e w2 ⟨tp,rfl,hx2,h2⟩
   have hn:=KF h2
   have ct:=(ES hn).1 5
   have fy:=(ES hn).2 5
   have h3:=ln (i:=5) (v:=.pointer (some ⟨tp,0,none⟩)) 6 hn rfl
   have h4 : own (w2.setCell ⟨y,5,none⟩ (.pointer (some ⟨tp,0,none⟩))) (yL ⟨y,bs,tp,A,.slice (some ⟨sl,0,none⟩) 1 1,0,0,0,undef⟩ ⟨fun _=>none,fun _=>lW n,lW 1,lw 0,[0],none⟩ (pts g (.cells #[.int .i64 c,.int .i64 p,.int .i64 (-1)] 103 (0,0))::R)):=Sy h3
   have hx4:=(hxr.trans hx2).setCell (⟨y,5,none⟩ : Addr) (.pointer (some ⟨tp,0,none⟩))
   clear h2 hn h3 hxr hx2 hown
   go_upto_region 16 with (fail)
   clear ct fy
   generalize w2.setCell ⟨y,5,none⟩ (.pointer (some ⟨tp,0,none⟩)) = w3 at *
   have hz:=lj h4
   have hxz:=hx4.drew
   have hk0 : (0 : Nat) < 5:=by decide
   refine wp_region_held_drew (S:=fun w'=>w'.cell? ⟨y,6,none⟩ = some (.pointer (some ⟨bs,0,none⟩)) /\ w'.cell? ⟨y,0,none⟩ = some (.pointer (some ⟨(A 0).2.1,0,none⟩)) /\ w'.cell? ⟨g,0,none⟩ = some (.int .i64 c) /\ w'.cell? ⟨g,1,none⟩ = some (.int .i64 p) /\ w'.cell? ⟨g,2,none⟩ = some (.int .i64 (-1))) (by kernel_rfl) (⟨y_bs hz,GD hz hk0,(la 15 hz rfl).1 0,(la 15 hz rfl).1 1,(la 15 hz rfl).1 2⟩) (fun hHeld=>?_)
   refine tk 0 ?_
   refine tk 1 ?_
   refine tk 2 ?_
   refine tk 3 ?_
   refine tk 4 ?_
   refine tk 5 ?_
   refine tk 6 ?_
   refine tk 7 ?_
   refine tk 8 ?_
   refine tk 9 ?_
   try simp only [Act.put,tA,tB,tC,tD,tE,tF]
   refine tk 14 ?_
   try simp only [Act.put,tA,tB,tC,tD,tE,tF]
   refine rd 10 rfl fun K hK=>?_
   go_simp
   go_at_call 62
   refine (HCR.out _ _ _ (BI hk0 rfl hz)).mono ?_
   rintro e w5 ⟨bi,bh,rfl,hx5,h5⟩
   go_simp
   refine hK.out _ _ ⟨(la 8 h5 rfl).1 6,(la 8 h5 rfl).1 0,(la 17 h5 rfl).1 0,(la 17 h5 rfl).1 1,(la 17 h5 rfl).1 2⟩ (fun _=>?_)
   clear hK K
   try simp only [Act.put,tA,tB,tC,tD,tE,tF]
   refine tk 11 ?_
   refine tk 12 ?_
   refine tk 13 ?_
   try simp only [Act.put,tA,tB,tC,tD,tE,tF]
   refine tk 15 ?_
   try simp only [Act.put,tA,tB,tC,tD,tE,tF]
   have cs : w5.cell? ⟨bs,0,none⟩ = some (.pointer none):=(la 2 h5 rfl).1 0
   have fs : w5.frozen? ⟨bs,0,none⟩ = false:=(la 2 h5 rfl).2 0
   have h6:=I0 (Y:=⟨y,bs,tp,A,.slice (some ⟨sl,0,none⟩) 1 1,0,0,0,undef⟩) (m:=⟨fun _=>none,fun _=>lW n,lW 1,lw 0,[0],none⟩) hk0 rfl h5
   have hx6:=(hxz.trans hx5).setCell (⟨bs,0,none⟩ : Addr) (.pointer (some ⟨bi,0,none⟩))
   refine rd 16 rfl fun K hK=>?_
   go_simp
   refine hK.out _ _ ⟨y_bs h6,GD h6 hk0,(la 15 h6 rfl).1 0,(la 15 h6 rfl).1 1,(la 15 h6 rfl).1 2⟩ (fun _=>?_)
   clear hK K cs fs
   try simp only [Act.put,tA,tB,tC,tD,tE,tF]
   refine tk 17 ?_
   try simp only [Act.put,tA,tB,tC,tD,tE,tF]
   refine wpAnyH_done (by kernel_rfl) ?_ _
   generalize w5.setCell ⟨bs,0,none⟩ (.pointer (some ⟨bi,0,none⟩)) = w6 at *
   change own w6 (yL (YA.stA ⟨y,bs,tp,A,.slice (some ⟨sl,0,none⟩) 1 1,0,0,0,undef⟩ 0 bi bh) ⟨put (fun _=>none) 0 i0,fun _=>lW n,lW 1,lw 0,[0],none⟩ _) at h6
   rw [<- HM0.out] at h6
   have c7 : w6.cell? ⟨y,7,none⟩ = some (.int .i64 0):=by have:=yW h6; rw [HM0.out] at this; exact this
   have c8 : w6.cell? ⟨y,8,none⟩ = some (.int .i64 0):=by have:=EC h6; rw [HM0.out] at this; exact this
   have c9 : w6.cell? ⟨y,9,none⟩ = some (.int .i64 (-1)):=by have:=EP h6; rw [HM0.out] at this; exact this
   have c10 : w6.cell? ⟨y,10,none⟩ = some (.int .i64 0):=by have:=Kh h6; rw [HM0.out] at this; exact this
   have c11 : w6.cell? ⟨y,11,none⟩ = some (.int .i64 0):=by have:=Iv h6; rw [HM0.out] at this; exact this
   have hw:=fun R' w' h=>zN (YA.stA ⟨y,bs,tp,A,.slice (some ⟨sl,0,none⟩) 1 1,0,0,0,undef⟩ 0 bi bh) M0 (by rw [HM0.out]; exact A5 (by decide)) (by rw [HM0.out]; show (0 : Int) < _; decide) (by rw [HM0.out]; show (0 : Nat) < _; decide) (lw 0) (C8 (by decide) (by decide)) R' w' h
   rw [HNW.out,lL] at hw
   have HWR:=zh hw
   clear hw h4 hz h5
   go_wp2_with fail
   refine (HWR.out _ w6 h6).mono ?_
   rintro e w8 ⟨rfl,hx8,h8⟩
   go_wp2_with fail
   go_ret2
   exact ⟨_,rfl,hx6.trans hx8,zC h8⟩
end Go.Proofs.YtbpblokfiajpjabGreatDoor
namespace Go.Proofs.YtbpblokfiajpjabGreatDoor
open Go.RowKit Go.SL Go.Crc
def YLen (m : ld) : Prop:=∀k,k < 5 -> m.F k = none -> 0 < (m.D k).fl.length
structure KD (m m' : ld) : Prop where
 d : m'.D = m.D
 f : ∀k,k < 5 -> m'.F k = none -> m.F k = none
theorem KD.refl (m : ld) : KD m m:=⟨rfl,fun _ _ h=>h⟩
theorem KD.trans {a b c : ld} (h : KD a b) (g : KD b c) : KD a c:=⟨g.d.trans h.d,fun k hk e=>h.f k hk (g.f k hk e)⟩
theorem KD.of {m m' : ld} (hF : m'.F = m.F) (hD : m'.D = m.D) : KD m m':=⟨hD,fun k _ e=>by rw [<- hF]; exact e⟩
theorem YLen.kd {m m' : ld} (h : YLen m) (g : KD m m') : YLen m':=fun k hk e=>by rw [g.d]; exact h k hk (g.f k hk e)
theorem OP (m : ld) (d : l6) : KD m (lm m d).2:=by
 unfold lm
 split <;> exact KD.of rfl rfl
theorem KD.step {n : Nat} {m : ld} {F' : ShM} (s : lC n m.F F') {oj : Option JobM} {l : List Int} : KD m { m with F:=F',job:=oj,list:=l }:=⟨rfl,fun k hk e=>by
 cases h : m.F k with
 | none=>rfl
 | some i=>
  obtain ⟨i',h1,-,-⟩:=s.yes k i hk h
  rw [show F' k = none from e] at h1
  cases h1⟩
theorem G6 {c p : Int} (h : ¬lH c p (-1)) : lx 10 (yR c p) /\ YLen (yR c p):=by
 obtain ⟨h1,h2,h3⟩:=IA h
 have hcr:=OJ h
 have hok:=Ih (c:=c) (p:=p) (b:=-1) (A5 (n:=newN c p) (by omega)) (by show (0 : Nat) < _; decide) (by show (0 : Int) < _; decide)
 have his:=GX (lW (newN c p)) c p (-1)
 change (newI c p).d.Ok /\ _ /\ (newI c p).d.pend.length <= _ /\ (newI c p).d.writes <= _ /\ (_ -> (newI c p).Ok /\ _) at hok
 change newI c p = _ at his
 obtain ⟨-,-,k1,k2,k3⟩:=hok
 have k3:=(k3 hcr).1
 rw [show (lW (newN c p)).pend.length = 0 from rfl] at k1
 rw [show (lW (newN c p)).writes = 0 from rfl] at k2
 have hic : (newI c p).c = c:=by rw [his]; rfl
 have hib : (newI c p).b = -1:=by rw [his]; rfl
 have hat : (yq c p).F 0 = some (newI c p):=yg (fun _=>none) 0 (newI c p)
 have hfile : lq (yq c p).F 0:=⟨by decide,by decide,_,hat⟩
 have hbk : bkOf (yq c p).F 0 = -1:=by unfold bkOf; rw [show (0 : Int).toNat = 0 from rfl,hat]; exact hib
 have hput : ∀k i,(yq c p).F k = some i -> i = newI c p:=fun k i e=>by
  change put (fun _=>none) 0 (newI c p) k = some i at e
  unfold put at e
  split at e
  ·cases e; rfl
  ·cases e
 have hg : lx 9 (yq c p):=by
  refine ⟨⟨⟨fun k i hk e=>by rw [hput k i e]; exact k3,fun k i hk e=>by rw [hput k i e]; omega,fun k i hk e=>by rw [hput k i e]; omega⟩,fun k hk e=>⟨A5 (by omega),by show (0 : Int) <= _; omega,by show (0 : Nat) <= _; omega⟩,⟨A5 (by decide),by show (0 : Int) <= _; omega,by show (0 : Nat) <= _; omega,by show 1 <= (List.replicate 1 AO).length; decide⟩,?_,hfile,fun j hj=>by (cases hj),fun j hj=>by (cases hj)⟩,fun j hj=>by (cases hj)⟩
  show lk (yq c p).F 0 = ([0],0)
  refine Cf ⟨fun x hx=>?_,fun x hx=>?_,?_,trivial⟩ (by decide)
  ·rw [List.mem_singleton.1 hx]; exact hfile
  ·rw [List.mem_singleton.1 hx]
  ·exact hbk
 refine ⟨hg.bareW (by decide) (fun j hj=>by cases hj),YLen.kd (m:=yq c p) (fun k hk e=>?_) (OP _ _)⟩
 show 0 < (List.replicate (newN c p) AO).length
 rw [List.length_replicate]
 omega
def ld.see (m : ld) (k : Nat) : ByteArray:=seeF m.F m.list k
structure YT (C : Int) (m : ld) : Prop where
 fl : Fl m.F C m.list
 job : ∀j,m.job = some j -> j.st < 4 -> JobT m.F C m.list j
structure lJ (C : Int) (m m' : ld) : Prop where
 t : YT C m'
 see : ∀k,m'.see k = m.see k
theorem lJ.refl {C : Int} {m : ld} (h : YT C m) : lJ C m m:=⟨h,fun _=>rfl⟩
theorem YT.cl0 {C : Int} {N : Nat} {m : ld} (h : YT C m) (ho : YOk N m) : clus m.F m.dk.root = C:=by
 obtain ⟨s,hs⟩:=ho.head
 exact h.fl.cl _ (by rw [hs]; exact List.mem_cons_self ..)
theorem YT.of {N : Nat} {m : ld} (h : YOk N m) (hj : ∀j,m.job = some j -> j.st < 4 -> JobT m.F (clus m.F m.dk.root) m.list j) : YT (clus m.F m.dk.root) m:=⟨⟨h.chn.file,h.chn.cl,h.nodup⟩,hj⟩
theorem lJ.desk {C : Int} {m : ld} (h : YT C m) (t : DevM) (d : l6) : lJ C m { m with top:=t,dk:=d }:=⟨⟨h.fl,h.job⟩,fun _=>rfl⟩
theorem yh (m : ld) (d : l6) : ∃t d',(lm m d).2 = { m with top:=t,dk:=d' }:=by
 unfold lm
 split
 ·exact ⟨_,m.dk,rfl⟩
 ·exact ⟨_,d,rfl⟩
theorem lJ.job {C : Int} {m : ld} (h : YT C m) {oj : Option JobM} (hj : ∀j,oj = some j -> j.st < 4 -> JobT m.F C m.list j) : lJ C m { m with job:=oj }:=⟨⟨h.fl,hj⟩,fun _=>rfl⟩
theorem JE {C : Int} {m : ld} (h : YT C m) (on : Bool) : lJ C m (zm m on).2:=by
 unfold zm
 cases hj : m.job with
 | none=>exact lJ.refl h
 | some j=>
  dsimp only
  split
  ·exact lJ.refl h
  ·exact lJ.job h fun j' e _=>by cases e; exact (h.job j hj (by omega)).pause on
theorem JT {C : Int} {m : ld} (h : YT C m) (n : Int) : lJ C m (zX m n).2:=by
 unfold zX
 split
 ·exact lJ.refl h
 ·cases hj : m.job with
  | none=>exact lJ.refl h
  | some j=>
   dsimp only
   split
   ·exact lJ.refl h
   ·exact lJ.job h fun j' e _=>by cases e; exact (h.job j hj (by omega)).tick n
theorem lJ.faces {C : Int} {m : ld} (h : YT C m) {F' : ShM} (hs : lT m.F F') (hf : ∀x k,lF F' x k = lF m.F x k) : lJ C m { m with F:=F' }:=
 ⟨⟨h.fl.same hs,fun j hj h4=>(h.job j hj h4).faces hs hf⟩,fun k=>oP fun y _=>hf y k⟩
theorem Jz {C : Int} {N : Nat} {m : ld} (h : YT C m) (ho : YOk N m) : lJ C m (Bz m):=lJ.faces h zU (B6 ho.sh ho.files)
theorem MO {C : Int} {N : Nat} {m : ld} (h : YT C m) (ho : YOk N m) (file n : Int) : lJ C m (armM m file n).2:=by
 unfold armM
 split
 ·exact lJ.refl h
 ·rename_i hb
  split
  ·exact lJ.desk h _ _
  ·cases e : m.F file.toNat with
   | none=>exact ⟨⟨h.fl,h.job⟩,fun _=>rfl⟩
   | some i=>
    refine lJ.faces h (lT.put e rfl rfl) fun x k=>?_
    by_cases e2 : x.toNat = file.toNat
    ·unfold lF
     rw [e2,yg,e]
     exact Nc (ho.sh.ok _ i (by omega) e) k
    ·unfold lF
     rw [AJ _ _ e2]
theorem lJ.off {C : Int} {m : ld} (h : YT C m) {N : Nat} (ho : YOk N m) {file : Int} (h0 : 0 <= file) (hu : AA m file = false) {F' : ShM} {D' : Nat -> DevM} (hF : ∀k,k≠file.toNat -> F' k = m.F k) : lJ C m { m with F:=F',D:=D' }:=by
 unfold AA at hu
 rw [Bool.or_eq_false_iff,decide_eq_false_iff_not] at hu
 obtain ⟨hnl,hnb⟩:=hu
 have hf : ∀y,0 <= y -> y≠file -> F' y.toNat = m.F y.toNat:=fun y hy hne=>hF _ (by omega)
 have hl : ∀y∈m.list,F' y.toNat = m.F y.toNat:=fun y hy=>hf y (h.fl.file y hy).1 fun e=>hnl (e ▸ hy)
 refine ⟨⟨⟨fun y hy=>?_,fun y hy=>?_,h.fl.nd⟩,fun j hj h4=>?_⟩,fun k=>oP fun y hy=>by unfold lF; dsimp only; rw [hl y hy]⟩
 ·obtain ⟨a,b,c⟩:=h.fl.file y hy
  exact ⟨a,b,by dsimp only; rw [hl y hy]; exact c⟩
 ·have:=h.fl.cl y hy
  unfold clus at this ⊢
  dsimp only
  rw [hl y hy]
  exact this
 ·obtain ⟨-,-,-,hfile,-⟩:=ho.job j hj h4
  refine (h.job j hj h4).off h.fl h0 hnl ?_ hF
  intro he
  have hb : yY m = true:=by unfold yY; rw [hj]; exact zg h4
  rw [hb,<- hfile,<- he] at hnb
  simp at hnb
theorem Ek {C : Int} {m : ld} (h : YT C m) {N : Nat} (ho : YOk N m) (file back : Int) : lJ C m (l7 m file back).2:=by
 unfold l7
 split
 ·exact lJ.refl h
 ·split
  ·exact lJ.refl h
  ·rename_i hb hu
   have hu : AA m file = false:=by simpa using hu
   split
   ·exact lJ.off h ho (by omega) hu fun k hk=>zq hk
   ·exact lJ.off (D':=m.D) h ho (by omega) hu fun k hk=>zq hk
theorem Cu (d : DevM) (c p b : Int) : ∃d',(oa d c p b).2 = l5 d' c p b:=by
 unfold oa
 repeat' split
 all_goals exact ⟨_,rfl⟩
theorem La {C : Int} {m : ld} (h : YT C m) {N : Nat} (hg : lx N m) (file : Int) : lJ C m (AS m file).2:=by
 have ho:=hg.ok
 have hb:=Ek h ho file m.dk.root
 unfold AS
 split
 ·exact lJ.refl h
 ·rename_i hbusy
  split
  ·exact lJ.refl h
  ·split
   ·exact hb
   ·rename_i hc
    obtain ⟨t,d',e⟩:=yh (l7 m file m.dk.root).2 (lw file)
    split
    ·rw [e]
     exact ⟨⟨hb.t.fl,hb.t.job⟩,hb.see⟩
    ·obtain ⟨f0,f5,hu,-,hM⟩:=G0 (Decidable.not_not.1 hc)
     obtain ⟨dv,hi⟩:=Cu (devOf m file.toNat) (clus m.F m.dk.root) (zA (clus m.F m.dk.root) (devOf m file.toNat)) m.dk.root
     change (o7 m file.toNat m.dk.root).2 = _ at hi
     rw [e]
     have hbt:=hb.t.fl
     have hbs:=hb.see
     have hcl:=h.cl0 ho
     rw [hM] at hbt hbs ⊢
     rw [hi,hcl] at hbt hbs ⊢
     have hface : ∀k,lF (put m.F file.toNat (l5 dv C (zA C (devOf m file.toNat)) m.dk.root)) file k = none:=fun k=>by rw [ya (yg m.F file.toNat _)]; exact G8 k
     have hnl : file∉m.list:=by
      unfold AA at hu
      rw [Bool.or_eq_false_iff,decide_eq_false_iff_not] at hu
      exact hu.1
     refine ⟨⟨⟨fun y hy=>?_,fun y hy=>?_,List.nodup_cons.2 ⟨hnl,h.fl.nd⟩⟩,fun j hj h4=>?_⟩,fun k=>?_⟩
     ·rcases List.mem_cons.1 hy with rfl | hy
      ·exact ⟨f0,f5,_,yg ..⟩
      ·exact hbt.file y hy
     ·rcases List.mem_cons.1 hy with rfl | hy
      ·unfold clus; dsimp only; rw [yg]; rfl
      ·exact hbt.cl y hy
     ·exfalso
      apply hbusy
      unfold yY
      rw [show m.job = some j from hj]
      exact zg h4
     ·exact (A1 (hface k)).trans (hbs k)
theorem Pg {F : ShM} {j : JobM} (hn : j.n <= 64) : ∀c,c <= j.n -> ∀q,q < 64 -> (oE F j c).testBit q = (decide (q < c) && oH F j (q : Int)):=by
 intro c
 induction c with
 | zero=>intro _ q _; simp [oE]
 | succ c ih=>
  intro hc q hq
  rw [PT F j hn (by omega) q hq]
  by_cases e : q = c
  ·subst e; rw [zt rfl]; simp
  ·rw [zq e,ih (by omega) q hq]
   congr 1
   exact decide_eq_decide.2 (by omega)
theorem MN {f : Int} : ∀{l : List Int} {i : Nat},0 <= ye f i l -> ∃p : Nat,ye f i l = ((i + p : Nat) : Int) /\ p < l.length /\ (l.drop p).headD (-1) = f:=by
 intro l
 induction l with
 | nil=>intro i h; exact absurd (show (0 : Int) <= -1 from h) (by decide)
 | cons x l ih=>
  intro i h
  rw [ye] at h ⊢
  split
  ·rename_i e
   exact ⟨0,rfl,by simp,by simpa using e⟩
  ·rename_i e
   rw [zq e] at h
   obtain ⟨p,h1,h2,h3⟩:=ih h
   exact ⟨p + 1,by rw [h1]; congr 1; omega,by simpa using h2,by simpa using h3⟩
theorem QD {F : ShM} {N : Nat} (hW : ShW N F) {root kind file rate burst : Int} {l : List Int} {C : Int} (hF : Fl F C l) (hl : l≠[]) (hw : lk F root = (l,0)) (hr : clus F root = C) {j : JobM} (h : (newM F root kind file rate burst).1 = some j) : JobT F C l j:=by
 obtain ⟨x0,hx0⟩:=List.exists_mem_of_ne_nil l hl
 obtain ⟨m0,-,-,-,ho0,hc0,-⟩:=hF.img hW hx0
 obtain ⟨C0,q0,q1,q2,-⟩:=ho0.nat
 have hCn : (C.toNat : Int) = C:=by omega
 have hn64 : C.toNat <= 64:=by omega
 unfold newM at h
 rw [hw,hr] at h
 dsimp only at h
 rw [zq (by simp),zq (by simpa using hl)] at h
 have hpart : ∀(j : JobM),j.n = C.toNat -> ∀q,q < 64 -> q < C.toNat -> (oE F j j.n).testBit q = oH F j (q : Int):=fun j hj q hq hqc=>by
  rw [Pg (by omega) j.n (Nat.le_refl _) q hq,zg (by omega : q < j.n),Bool.true_and]
 split at h
 ·cases h
 ·split at h
  ·rename_i hk
   split at h
   ·cases h
   ·rename_i hfile
    split at h
    ·cases h
    ·rename_i hno
     cases h
     have hfile : lq F file:=BF.1 (by simpa using hfile)
     have h1 : ¬0 <= yl l file:=fun h=>hno (.inl h)
     have h2 : bkOf F file = -1:=Decidable.byContradiction fun h=>hno (.inr (.inl h))
     have h3 : clus F file = C:=Decidable.byContradiction fun h=>hno (.inr (.inr h))
     refine ⟨rfl,?_,fun h=>absurd hk h,fun h=>?_,fun _=>⟨fun hm=>h1 ?_,hfile,h3,h2⟩,fun h=>absurd (show (2 : Int) = 1 from h) (by decide),fun h=>absurd (show (2 : Int) = 3 from h) (by decide),fun k hk4 hx=>?_⟩
     ·show (((clus F root).toNat : Nat) : Int) = C
      rw [hr]; exact hCn
     ·exact absurd (hk.symm.trans h) (by decide)
     ·have : ∀{l : List Int} {i : Nat},file∈l -> 0 <= ye file i l:=by
       intro l
       induction l with
       | nil=>intro i h; cases h
       | cons y l ih=>
        intro i h
        rw [ye]
        split
        ·omega
        ·rename_i e
         exact ih ((List.mem_cons.1 h).resolve_left fun e'=>e e'.symm)
      exact this hm
     ·have:=hpart (jNew F root kind file rate burst l 0) (by show (clus F root).toNat = _; rw [hr]) (k / 4) (by omega) (by omega)
      change (oE F (jNew F root kind file rate burst l 0) (jNew F root kind file rate burst l 0).n).testBit (k / 4) = false at hx
      rw [this] at hx
      unfold oH at hx
      rw [zt (by exact hk)] at hx
      cases hx
  ·rename_i hk1
   have fin : ∀d : Nat,(kind = 2 \/ kind = 3) -> 1 <= d -> d <= l.length -> (l.drop d).headD (-1) = file -> (kind = 3 -> d < l.length) -> JobT F C l (yP F (jNew F root kind file rate burst l d)):=fun d hk d1 d2 d3 d4=>by
    refine ⟨rfl,?_,fun _=>⟨d1,d2,d3⟩,d4,fun h=>absurd h hk1,fun h=>absurd (show (2 : Int) = 1 from h) (by decide),fun h=>absurd (show (2 : Int) = 3 from h) (by decide),fun k hk4 hx=>?_⟩
    ·show (((clus F root).toNat : Nat) : Int) = C
     rw [hr]; exact hCn
    ·have:=hpart (jNew F root kind file rate burst l d) (by show (clus F root).toNat = _; rw [hr]) (k / 4) (by omega) (by omega)
     change (oE F (jNew F root kind file rate burst l d) (jNew F root kind file rate burst l d).n).testBit (k / 4) = false at hx
     rw [this] at hx
     have:=(Er (j:=jNew F root kind file rate burst l d) hF hW rfl hk1 hk ⟨d1,d2⟩ (c:=k / 4) (i:=k % 4) (by omega)).1 hx
     rw [show 4 * (k / 4) + k % 4 = k by omega] at this
     exact this
   split at h
   ·rename_i hk
    cases h
    refine fin l.length (.inl hk.1) (by have h0 : l.length≠0:=fun h=>hl (List.eq_nil_of_length_eq_zero h); omega) (Nat.le_refl _) ?_ fun h=>absurd (hk.1.symm.trans h) (by decide)
    rw [List.drop_length]
    exact hk.2.symm
   ·split at h
    ·rename_i hk
     split at h
     ·cases h
     ·rename_i hp
      cases h
      obtain ⟨p,h1,h2,h3⟩:=MN (f:=file) (l:=l) (i:=0) (by unfold yl at hp; omega)
      have hp' : yl l file = (p : Int):=by unfold yl; rw [h1,Nat.zero_add]
      rw [hp',zn]
      exact fin p hk (by omega) (by omega) h3 fun _=>h2
    ·cases h
theorem Ct {C : Int} {N : Nat} {m : ld} (h : YT C m) (ho : YOk N m) (kind file rate burst : Int) : lJ C m (yv m kind file rate burst).2:=by
 unfold yv
 split
 ·exact lJ.refl h
 ·split
  ·exact lJ.refl h
  ·split
   ·exact lJ.refl h
   ·have hj:=fun j (hj : (newM m.F m.dk.root kind file rate burst).1 = some j)=>QD ho.sh h.fl (by obtain ⟨s,hs⟩:=ho.head; rw [hs]; simp) ho.walk (h.cl0 ho) hj
    generalize newM m.F m.dk.root kind file rate burst = S at *
    obtain ⟨oj,f⟩:=S
    cases oj with
    | none=>exact lJ.refl h
    | some j=>
     obtain ⟨t,d',e⟩:=yh m ⟨m.dk.root,kind,file,rate,burst⟩
     dsimp only
     split
     ·rw [e]
      exact lJ.desk h t d'
     ·rw [e]
      exact ⟨⟨h.fl,fun j' e' _=>by cases e'; exact (hj j rfl).pause false⟩,fun _=>rfl⟩
theorem Oz {x : Int} : ∀{a c b d : List Int},(a++x::b).Nodup -> a++x::b = c++x::d -> b = d:=by
 intro a
 induction a with
 | nil=>
  intro c b d hn h
  cases c with
  | nil=>exact (List.cons.inj h).2
  | cons y c=>
   obtain ⟨rfl,h2⟩:=List.cons.inj h
   exact absurd (by rw [h2]; simp) (List.nodup_cons.1 hn).1
 | cons y a ih=>
  intro c b d hn h
  cases c with
  | nil=>
   obtain ⟨rfl,h2⟩:=List.cons.inj h
   exact absurd (by simp) (List.nodup_cons.1 hn).1
  | cons z c=>
   exact ih (List.nodup_cons.1 hn).2 (List.cons.inj h).2
theorem C4 {F : ShM} {C : Int} {l : List Int} {j : JobM} (hF : Fl F C l) (hT : JobT F C l j) : Fl F C (ol j l):=by
 unfold ol
 split
 ·rename_i h1
  obtain ⟨-,m2,m3,-⟩:=hT.mir h1
  exact ⟨fun y hy=>by rw [List.mem_singleton.1 hy]; exact m2,fun y hy=>by rw [List.mem_singleton.1 hy]; exact m3,by simp⟩
 ·rename_i h1
  obtain ⟨d1,d2,-⟩:=hT.deep h1
  obtain ⟨x,t,r,e1,e2,e3,e4⟩:=FN d1 d2
  split
  ·rw [e3,e4]
   refine hF.sub ?_
   rw [e1]
   exact List.Sublist.cons_cons x (List.sublist_append_right _ _)
  ·exact hF.sub (List.drop_sublist _ _)
theorem If {F : ShM} {C : Int} {l : List Int} {j : JobM} (hc : Chn F C l) (h5 : l.length <= 5) (hj : j.kind = 1 \/ j.kind = 3) (hT : JobT F C l j) : lk F j.file = (ol j l,0) /\ clus F j.file = C /\ lq F j.file:=by
 unfold ol
 by_cases h1 : j.kind = 1
 ·obtain ⟨-,m2,m3,m4⟩:=hT.mir h1
  rw [zt h1]
  refine ⟨Cf ⟨fun y hy=>by rw [List.mem_singleton.1 hy]; exact m2,fun y hy=>by rw [List.mem_singleton.1 hy],m4,trivial⟩ (by simp),m3,m2⟩
 ·obtain ⟨d1,d2,d3⟩:=hT.deep h1
  have hlt:=hT.com (hj.resolve_left h1)
  rw [zq h1,zq (by omega)]
  have hd:=hc
  rw [<- List.take_append_drop j.deep l] at hd
  have hd:=hd.drop
  have hlen : (l.drop j.deep).length = l.length - j.deep:=List.length_drop
  cases e : l.drop j.deep with
  | nil=>rw [e] at hlen; simp at hlen; omega
  | cons y r=>
   rw [e] at d3 hd hlen
   have d3 : y = j.file:=d3
   subst d3
   have hcl:=hd.cl _ (List.mem_cons_self ..)
   exact ⟨Cf (by rw [hcl]; exact hd) (by omega),hcl,hd.file _ (List.mem_cons_self ..)⟩
theorem NT {F : ShM} {C : Int} {l : List Int} {j : JobM} (hj : j.Ok) (hT : JobT F C l j) (h3 : j.st = 3) {k : Nat} (hk : (k : Int) < 4 * C) : seeF F (ol j l) k = seeF F l k:=
 hT.see k hk (Kn (hT.r3 h3) (by have:=hT.x_lt hk; have:=hj.n; omega))
theorem LZ {F : ShM} {C : Int} {l : List Int} {N : Nat} (h : Fl F C l) (hW : ShW N F) {k : Nat} (hk : 4 * C <= (k : Int)) : seeF F l k = zs 16:=D6 fun x hx=>by
 obtain ⟨m,hm,-,-,ho,-,hl⟩:=h.img hW hx
 rw [ya hm,As,EV (by omega)]
theorem IE {F : ShM} {C : Int} {l : List Int} {N : Nat} {j : JobM} (hF : Fl F C l) (hW : ShW N F) (hj : j.Ok) (hT : JobT F C l j) (h3 : j.st = 3) (k : Nat) : seeF F (ol j l) k = seeF F l k:=by
 by_cases hk : (k : Int) < 4 * C
 ·exact NT hj hT h3 hk
 ·rw [LZ hF hW (by omega),LZ (C4 hF hT) hW (by omega)]
theorem FJ {C : Int} {m : ld} (h : YT C m) (j : JobM) (root : Int) (well : Bool) {l : List Int} (hw : lk m.F root = (l,0)) (hl : Fl m.F C l) (hs : ∀k,seeF m.F l k = seeF m.F m.list k) : lJ C m (AN m j root well).2:=by
 obtain ⟨t,d',e⟩:=yh m (lw root)
 unfold AN
 split
 ·rw [e]
  exact lJ.desk h t d'
 ·rw [e,hw]
  exact ⟨⟨hl,fun j' e' h4=>by cases e'; exact absurd h4 (Dm _ _)⟩,hs⟩
theorem D1 {C : Int} {N : Nat} {m : ld} (h : YT C m) (ho : YOk N m) : lJ C m (yQ m).2:=by
 unfold yQ
 cases hj : m.job with
 | none=>exact lJ.refl h
 | some j=>
  dsimp only
  split
  ·exact lJ.refl h
  ·exact FJ h j _ false ho.walk h.fl fun _=>rfl
theorem Qf {N : Nat} {m : ld} (h : YOk N m) : m.list.length <= 5:=by
 have:=Cr (F:=m.F) (root:=m.dk.root)
 rwa [h.walk] at this
theorem lJ.trans {C : Int} {a b c : ld} (h : lJ C a b) (g : lJ C b c) : lJ C a c:=⟨g.t,fun k=>(g.see k).trans (h.see k)⟩
theorem Cw {C : Int} {N : Nat} {m : ld} (h : YT C m) (hg : lx N m) (hN : N + 1 < 900000) : lJ C m (yD m).2:=by
 have ho:=hg.ok
 unfold yD
 cases hj : m.job with
 | none=>exact lJ.refl h
 | some j=>
  dsimp only
  split
  ·exact lJ.refl h
  ·rename_i h4
   have h4 : j.st < 4:=by omega
   obtain ⟨hS,hl,hk,hf,hr⟩:=ho.job j hj h4
   have hT:=h.job j hj h4
   have hjo:=ho.jok j hj
   split
   ·exact lJ.refl h
   ·rename_i h2
    have hkj : j.kind≠2:=by rw [hk]; exact h2
    obtain ⟨hs,hjj⟩:=DX (F:=m.F) hkj
    have hW:=AE ho.sh (by omega) hjo hS
    have hface : ∀x k,lF (li m.F j).2.1 x k = lF m.F x k:=fun x k=>by
     unfold li
     split
     ·rfl
     ·split
      ·rfl
      ·exact B6 ho.sh (yG m.F j.file) x k
    have hst : lJ C m { m with F:=(li m.F j).2.1,job:=some (li m.F j).2.2 }:=by
     rw [hjj,<- hj]
     exact lJ.faces h hs hface
    split
    ·exact hst
    ·rename_i hc
     have h3 : j.st = 3:=by
      refine Decidable.byContradiction fun hn=>hc ?_
      unfold li
      rw [zt hn]
      show (9 : Int)≠0
      decide
     have hT2:=hst.t.job j (by rw [hjj]) h4
     have hch : Chn (li m.F j).2.1 C m.list:=by
      have:=ho.chn
      rw [h.cl0 ho] at this
      refine this.keep fun x hx=>hs _ ?_
      obtain ⟨a,b,-⟩:=this.file x hx
      omega
     obtain ⟨w1,w2,w3⟩:=If hch (Qf ho) (by have:=hjo.kind; omega) hT2
     refine hst.trans (FJ hst.t _ _ true ?_ (C4 hst.t.fl hT2) fun k=>IE hst.t.fl hW hjo hT2 h3 k)
     rw [<- hf]
     exact w1
theorem Lh {F : ShM} {N : Nat} (hW : ShW N F) (hN : N < 900000) {j : JobM} (hj : j.Ok) (hS : JobS F j) (x : Int) (k : Nat) : lF (li F j).2.1 x k = lF F x k:=by
 have h0:=hS.list _ (mem0 hj.pos)
 have hk : (j.list.getD 0 0).toNat < 5:=by have:=h0.1; have:=h0.2.1; omega
 unfold li
 split
 ·rfl
 ·split
  ·split <;> exact L9 hW hN hk _ x k
  ·split
   ·rfl
   ·exact B6 hW (yG F j.file) x k
theorem Bi {C : Int} {N : Nat} {m : ld} (h : YT C m) (hg : lx N m) (hN : N + 20 < 900000) : lJ C m (lZ m).2:=by
 have ho:=hg.ok
 unfold lZ
 cases hj : m.job with
 | none=>exact lJ.refl h
 | some j=>
  dsimp only
  split
  ·exact lJ.refl h
  ·rename_i h4
   have h4 : j.st < 4:=by omega
   obtain ⟨hS,hl,hk,hf,hr⟩:=ho.job j hj h4
   have hT:=h.job j hj h4
   have hjo:=ho.jok j hj
   have hst:=DE (ho.sh.sh (by omega)) hjo hS
   obtain ⟨-,s2,s3⟩:=Pd h.fl ho.sh (by omega) hjo hS hT h4
   have h1 : lJ C m { m with F:=(lh m.F j).2.1,job:=some (lh m.F j).2.2 }:=⟨⟨h.fl.same hst.same,fun j' e h4'=>by cases e; exact s3 h4'⟩,s2⟩
   split
   ·split
    ·exact h1
    ·obtain ⟨t,d',e⟩:=yh { m with F:=(lh m.F j).2.1,job:=some (lh m.F j).2.2 } (lw m.dk.root)
     rw [e]
     exact h1.trans (lJ.desk h1.t t d')
   ·split
    ·exact h1
    ·rename_i hc0 hks
     have hk2 : m.dk.kind = 2:=Decidable.byContradiction fun hn=>hks (.inl hn)
     have hs3 : (lh m.F j).2.2.st = 3:=Decidable.byContradiction fun hn=>hks (.inr hn)
     have hg1:=hg.stepJ (by omega) hj h4
     obtain ⟨s,hls⟩:=ho.head
     have hs:=Bm m.F j
     have hS1 : JobS (lh m.F j).2.1 (lh m.F j).2.2:=(hg1.ok.job _ rfl (by omega)).1
     have hjo1 : (lh m.F j).2.2.Ok:=hg1.ok.jok _ rfl
     have hW1:=hg1.ok.sh
     have hT1 : JobT (lh m.F j).2.1 C m.list (lh m.F j).2.2:=s3 (by omega)
     have hfl1:=h1.t.fl
     have hst2:=Is (F:=(lh m.F j).2.1) (j:=(lh m.F j).2.2) (by rw [hs.2.1,hk,hk2]) hg1.ok.root (D5 (by rw [hs.1,hl,hls]))
     have hlk:=hg.linked (by omega) hj h4 hk2
     have hfc:=Lh hW1 (by omega) hjo1 hS1
     dsimp only at hW1 hfl1
     have hs5 : (li (lh m.F j).2.1 (lh m.F j).2.2).1≠0 -> ∀j',some (li (lh m.F j).2.1 (lh m.F j).2.2).2.2 = some j' -> ¬j'.st < 4:=fun hc j' e=>by
      cases e
      rw [(hst2.1 hc).2 hs3]
      decide
     split
     ·rename_i hc
      obtain ⟨t,d',e⟩:=yh { m with F:=(li (lh m.F j).2.1 (lh m.F j).2.2).2.1,job:=some (li (lh m.F j).2.1 (lh m.F j).2.2).2.2 } (lw m.dk.root)
      rw [e]
      refine ⟨⟨hfl1.same (hst2.1 hc).1,fun j' e' h4'=>absurd h4' (hs5 hc j' e')⟩,fun k=>?_⟩
      exact (oP (l:=m.list) fun y _=>hfc y k).trans (s2 k)
     ·rename_i hc
      have hc:=Decidable.not_not.1 hc
      obtain ⟨b1,b2,b3,b4⟩:=hst2.2 hc
      obtain ⟨t,ht,ht1,ht2⟩:=hlk hc
      obtain ⟨tp,d',e⟩:=yh { m with F:=(li (lh m.F j).2.1 (lh m.F j).2.2).2.1,job:=some (endM (li (lh m.F j).2.1 (lh m.F j).2.2).2.2 true),list:=(lk (li (lh m.F j).2.1 (lh m.F j).2.2).2.1 m.dk.root).1 } (lw m.dk.root)
      rw [e,ht]
      have hkk : (lh m.F j).2.2.kind = 2:=by rw [hs.2.1,hk,hk2]
      obtain ⟨d1,d2,d3⟩:=hT1.deep (by omega)
      have haft : ol (lh m.F j).2.2 m.list = m.dk.root::t:=by
       unfold ol
       rw [zq (by omega),zt hkk]
       have e0 : m.list.take 1 = [m.dk.root]:=by rw [hls]; rfl
       rw [e0,List.singleton_append]
       congr 1
       rw [hs.2.2.1] at d3
       by_cases hn : j.file = -1
       ·rw [ht1 hn]
        cases e2 : m.list.drop (lh m.F j).2.2.deep with
        | nil=>rfl
        | cons y r=>
         rw [e2] at d3
         have d3 : y = j.file:=d3
         have:=(h.fl.file y (List.mem_of_mem_drop (by rw [e2]; exact List.mem_cons_self ..))).1
         omega
       ·obtain ⟨p,s',hp,rfl⟩:=ht2 hn
        cases e2 : m.list.drop (lh m.F j).2.2.deep with
        | nil=>rw [e2] at d3; exact absurd d3.symm hn
        | cons y r=>
         rw [e2] at d3
         have d3 : y = j.file:=d3
         subst d3
         congr 1
         have e3 : m.list = m.list.take (lh m.F j).2.2.deep++j.file::r:=by rw [<- e2,List.take_append_drop]
         have hnd:=h.fl.nd
         rw [e3] at hnd
         exact Oz hnd (e3.symm.trans (hp.trans (List.cons_append).symm))
      have hfa:=C4 hfl1 hT1
      rw [haft] at hfa
      refine ⟨⟨⟨fun y hy=>?_,fun y hy=>?_,hfa.nd⟩,fun j' e' h4'=>by cases e'; exact absurd h4' (Dm _ _)⟩,fun k=>?_⟩
      ·exact J1 (hfa.file y hy)
      ·have hy0:=(hfa.file y hy).1
       rcases List.mem_cons.1 hy with rfl | hy'
       ·exact b2.trans (hfa.cl _ hy)
       ·have hr0:=(hfa.file m.dk.root (List.mem_cons_self ..)).1
        have hne : y≠m.dk.root:=fun e=>(List.nodup_cons.1 hfa.nd).1 (e ▸ hy')
        have:=hfa.cl y hy
        unfold clus at this ⊢
        dsimp only
        rw [b1 _ (show y.toNat≠m.dk.root.toNat by omega)]
        exact this
      ·refine (oP (l:=m.dk.root::t) fun y _=>hfc y k).trans ?_
       rw [<- haft,IE hfl1 hW1 hjo1 hT1 hs3 k]
       exact s2 k
theorem GH {C : Int} {N : Nat} {m : ld} (h : YT C m) (ho : YOk N m) {F' : ShM} (hs : lT m.F F') {x : Int} {l : List Int} (hl : m.list = x::l) {fr n : Nat} {new : Nat -> ByteArray} {r : Int} (hp : yN x (x::l) fr new 0 n m.F (r,F')) : YT C (yy { m with F:=F' } (fr : Int) (n : Int)) /\ ∀k,(yy { m with F:=F' } (fr : Int) (n : Int)).see k = seeF F' (x::l) k:=by
 have hfl:=h.fl.same hs
 unfold yy
 cases hj : m.job with
 | none=>exact ⟨⟨hfl,fun j e=>by cases e⟩,fun k=>by unfold ld.see; rw [<- hl]⟩
 | some j=>
  dsimp only
  by_cases hn : (n : Int) = 0
  ·rw [zt hn]
   have hn0 : n = 0:=by omega
   subst hn0
   refine ⟨⟨hfl,fun j' e h4=>?_⟩,fun k=>by unfold ld.see; rw [<- hl]⟩
   cases e
   have hT:=h.job j hj h4
   rw [hl] at hT
   have hF : Fl m.F C (x::l):=by rw [<- hl]; exact h.fl
   have:=hT.wrote (N:=N) hF hs (ho.jok j hj) h4 hp.rise (fr:=fr) (n:=0) (new:=new) (fun i=>(hp.old i).imp id fun ⟨q,_,q2,_⟩=>by omega) (c:=0) (d:=0) (fun q hq=>by omega)
   show JobT F' C m.list j
   rw [hl]
   exact this
  ·rw [zq hn]
   refine ⟨⟨hfl,fun j' e h4=>?_⟩,fun k=>by unfold ld.see; rw [<- hl]⟩
   cases e
   have hd : ((fr : Int) / 4) = ((fr / 4 : Nat) : Int):=by omega
   have hd2 : (((fr : Int) + (n : Int) - 1) / 4 - (fr : Int) / 4 + 1).toNat = (fr + n - 1) / 4 - fr / 4 + 1:=by omega
   rw [hd2,hd] at h4 ⊢
   have h4':=(Jt _ (ho.jok j hj) _).2.2.1.1 h4
   have hT:=h.job j hj h4'
   rw [hl] at hT
   have hF : Fl m.F C (x::l):=by rw [<- hl]; exact h.fl
   show JobT F' C m.list _
   rw [hl]
   exact hT.wrote (N:=N) hF hs (ho.jok j hj) h4' hp.rise (fr:=fr) (n:=n) (new:=new) (fun i=>(hp.old i).imp id fun ⟨q,_,q2,q3,_⟩=>⟨q,by omega,q3⟩) (fun q hq=>by omega)
structure M1 (C : Int) (m m' : ld) (cd fr : Int) (n : Nat) (new : Nat -> ByteArray) : Prop where
 t : YT C m'
 code : cd = 0 \/ cd = 1 \/ cd = 6 \/ cd = 7
 no : cd = 1 -> m' = m
 rng : cd≠1 -> 0 <= fr /\ fr + (n : Int) <= 4 * C
 old : ∀k,m'.see k = m.see k \/ ∃j,j < n /\ (k : Int) = fr + j /\ m'.see k = new j
 did : cd = 0 -> ∀j k : Nat,j < n -> (k : Int) = fr + j -> m'.see k = new j
theorem CT {C : Int} {N : Nat} {m : ld} (h : YT C m) (ho : YOk N m) (hN : N + 1000 < 900000) (fr : Int) (s : ByteArray) (hs : s.size <= 3200) : M1 C m (oG m fr s).2 (oG m fr s).1 fr (s.size / 16) (lz s) /\ ((oG m fr s).1≠1 -> s.size % 16 = 0):=by
 obtain ⟨l,hl⟩:=ho.head
 have hF : Fl m.F C (m.dk.root::l):=by rw [<- hl]; exact h.fl
 have hst:=En ho.sh (EU ho) (by omega) fr s hs
 unfold oG
 split
 ·exact ⟨⟨h,.inr (.inl rfl),fun _=>rfl,fun h=>absurd rfl h,fun _=>.inl rfl,fun h=>by cases h⟩,fun h=>absurd rfl h⟩
 ·rename_i hb
  have hp:=PX ho.sh hN hF (Eg hF) (fr:=fr) hs
  rw [<- hl] at hp
  rcases hp with ⟨-,-,h3⟩ | ⟨h1,h2,hp⟩
  ·exact absurd h3 hb
  ·obtain ⟨-,w1,w2,w3⟩:=yF h2
   rw [show clus m.F (m.list.getD 0 0) = C by rw [hl]; exact hF.cl _ (List.mem_cons_self ..)] at w3
   obtain ⟨f,rfl⟩:=ze w1
   rw [zn] at hp
   have hp : yN m.dk.root (m.dk.root::l) f (lz s) 0 (s.size / 16) m.F (putM m.F m.list (f : Int) s):=by rw [<- hl]; exact hp
   obtain ⟨y1,y2⟩:=GH h ho hst.same hl hp
   refine ⟨⟨y1,?_,fun h0=>?_,fun _=>⟨by omega,by omega⟩,fun k=>?_,fun h0 j k hj hk=>?_⟩,fun _=>h1⟩
   ·rcases hp.code with e | e | e
    ·exact .inl e
    ·exact .inr (.inr (.inl e))
    ·exact .inr (.inr (.inr e))
   ·dsimp only at h0
    rcases hp.code with e | e | e
    all_goals
     rw [e] at h0
     cases h0
   ·rw [y2,show m.see k = seeF m.F (m.dk.root::l) k by rw [ld.see,hl]]
    rcases hp.old k with e | ⟨j,-,j2,j3,j4⟩
    ·exact .inl e
    ·exact .inr ⟨j,by omega,by omega,j4⟩
   ·dsimp only at h0 ⊢
    rw [y2]
    have:=hp.did h0 j (by omega) (by omega)
    rw [<- this]
    congr 1
    omega
theorem DJ {C : Int} {N : Nat} {m : ld} (h : YT C m) (ho : YOk N m) (hN : N + 1000 < 900000) (fr n : Int) (hn : n <= 200) : M1 C m (oD m fr n).2 (oD m fr n).1 fr n.toNat (fun _=>zs 16) /\ ((oD m fr n).1≠1 -> 0 <= n):=by
 obtain ⟨l,hl⟩:=ho.head
 have hF : Fl m.F C (m.dk.root::l):=by rw [<- hl]; exact h.fl
 have hst:=DG ho.sh (EU ho) (by omega) fr n hn
 unfold oD
 split
 ·exact ⟨⟨h,.inr (.inl rfl),fun _=>rfl,fun h=>absurd rfl h,fun _=>.inl rfl,fun h=>by cases h⟩,fun h=>absurd rfl h⟩
 ·rename_i hb
  have hp:=Ou ho.sh hN hF (Eg hF) (fr:=fr) hn
  rw [<- hl] at hp
  rcases hp with ⟨-,-,h3⟩ | ⟨h2,hp⟩
  ·exact absurd h3 hb
  ·obtain ⟨-,w1,w2,w3⟩:=yF h2
   rw [show clus m.F (m.list.getD 0 0) = C by rw [hl]; exact hF.cl _ (List.mem_cons_self ..)] at w3
   obtain ⟨f,rfl⟩:=ze w1
   obtain ⟨q,rfl⟩:=ze w2
   rw [zn,zn] at hp
   have hp : yN m.dk.root (m.dk.root::l) f (fun _=>zs 16) 0 q m.F (yB m.F m.list (f : Int) (q : Int)):=by rw [<- hl]; exact hp
   obtain ⟨y1,y2⟩:=GH h ho hst.same hl hp
   rw [zn]
   refine ⟨⟨y1,?_,fun h0=>?_,fun _=>⟨by omega,by omega⟩,fun k=>?_,fun h0 j k hj hk=>?_⟩,fun _=>w2⟩
   ·rcases hp.code with e | e | e
    ·exact .inl e
    ·exact .inr (.inr (.inl e))
    ·exact .inr (.inr (.inr e))
   ·dsimp only at h0
    rcases hp.code with e | e | e
    all_goals
     rw [e] at h0
     cases h0
   ·rw [y2,show m.see k = seeF m.F (m.dk.root::l) k by rw [ld.see,hl]]
    rcases hp.old k with e | ⟨j,-,j2,j3,j4⟩
    ·exact .inl e
    ·exact .inr ⟨j,by omega,by omega,j4⟩
   ·dsimp only at h0 ⊢
    rw [y2]
    have:=hp.did h0 j (by omega) (by omega)
    rw [<- this]
    congr 1
    omega
end Go.Proofs.YtbpblokfiajpjabGreatDoor
