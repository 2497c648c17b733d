/- Lemmas on which TopEnds stands: the texts YardT5 RowO TopDevP Guest1 Guest2 Guest3. No conditions. -/
import Derived.Test.YtbpblokfiajpjabGreatDoorPkb1fe519f44
set_option linter.all false
set_option maxRecDepth 1000000
set_option maxHeartbeats 32000000
namespace Go.Proofs.YtbpblokfiajpjabGreatDoor
open Go.RowKit Go.SL Go.Crc
structure lK where
  now : List (List ByteArray)
  cr : List (List ByteArray)
def lsAt (l : List (List ByteArray)) (i : Nat) : List ByteArray:=l.getD i []
theorem DN {l : List (List ByteArray)} {i j : Nat} {x : List ByteArray} (h : i < l.length) : lsAt (l.set i x) j = if j = i then x else lsAt l j:=by
  unfold lsAt
  by_cases e : j = i
  · subst e; rw [zt rfl,List.getD_eq_getElem?_getD,List.getElem?_set_self h]; rfl
  · rw [zq e,List.getD_eq_getElem?_getD,List.getElem?_set_ne (by omega),List.getD_eq_getElem?_getD]
def yf (g : lK) (fr : Nat) (s : ByteArray) (well : Bool) : Nat -> lK
  | 0=>g
  | k + 1=>{ now:=(yf g fr s well k).now.set (fr + k) (if well then [lz s k] else lsAt (yf g fr s well k).now (fr + k)++[lz s k]),
               cr:=(yf g fr s well k).cr.set (fr + k) (lsAt (yf g fr s well k).cr (fr + k)++[lz s k]) }
theorem BJ (g : lK) (fr : Nat) (s : ByteArray) (well : Bool) : ∀k,(yf g fr s well k).now.length = g.now.length /\ (yf g fr s well k).cr.length = g.cr.length:=by
  intro k
  induction k with
  | zero=>exact ⟨rfl,rfl⟩
  | succ k ih=>exact ⟨by rw [yf,List.length_set]; exact ih.1,by rw [yf,List.length_set]; exact ih.2⟩
theorem Gm {g : lK} {fr : Nat} {s : ByteArray} {well : Bool} : ∀{k : Nat},fr + k <= g.now.length -> fr + k <= g.cr.length -> ∀i,
    lsAt (yf g fr s well k).now i = (if fr <= i /\ i < fr + k then (if well then [lz s (i - fr)] else lsAt g.now i++[lz s (i - fr)]) else lsAt g.now i) /\
    lsAt (yf g fr s well k).cr i = (if fr <= i /\ i < fr + k then lsAt g.cr i++[lz s (i - fr)] else lsAt g.cr i):=by
  intro k
  induction k with
  | zero=>intro _ _ i; rw [zq (by omega),zq (by omega)]; exact ⟨rfl,rfl⟩
  | succ k ih=>
    intro h1 h2 i
    obtain ⟨l1,l2⟩:=BJ g fr s well k
    have hi:=ih (by omega) (by omega) i
    have hk:=ih (by omega) (by omega) (fr + k)
    rw [zq (by omega),zq (by omega)] at hk
    rw [yf]
    dsimp only
    rw [DN (by omega),DN (by omega),hk.1,hk.2]
    by_cases e : i = fr + k
    · subst e
      rw [zt rfl,zt rfl,zt (show fr <= fr + k /\ fr + k < fr + (k + 1) by omega),zt (show fr <= fr + k /\ fr + k < fr + (k + 1) by omega),Nat.add_sub_cancel_left]
      exact ⟨rfl,rfl⟩
    · rw [zq e,zq e,hi.1,hi.2]
      by_cases h : fr <= i /\ i < fr + k
      · rw [zt h,zt h,zt (show fr <= i /\ i < fr + (k + 1) by omega),zt (show fr <= i /\ i < fr + (k + 1) by omega)]
        exact ⟨rfl,rfl⟩
      · rw [zq h,zq h,zq (show ¬(fr <= i /\ i < fr + (k + 1)) by omega),zq (show ¬(fr <= i /\ i < fr + (k + 1)) by omega)]
        exact ⟨rfl,rfl⟩
def zx (g : lK) (fr : Nat) (s : ByteArray) (well : Bool) : lK:=yf g fr s well (s.size / 16)
def AV (g : lK) : lK:={ g with cr:=g.now }
def sawM (g : lK) (s : ByteArray) : lK:={ g with now:=(List.range g.now.length).map fun i=>[lz s i] }
def Qb (l : List (List ByteArray)) (s : ByteArray) : Prop:=s.size = 16 * l.length /\ ∀i,i < l.length -> lz s i∈lsAt l i
def didY (m : ld) (x : Act) : ld:=
  if (x.kind.toList == [119,114,105,116,101]) = true then (oG m x.A x.S).2
  else if (x.kind.toList == [119,105,112,101]) = true then (oD m x.A x.B).2
  else if (x.kind.toList == [102,108,117,115,104]) = true then Bz m
  else if (x.kind.toList == [98,108,97,110,107]) = true then (l7 m x.A (-1)).2
  else if (x.kind.toList == [115,110,97,112]) = true then (AS m x.A).2
  else if (x.kind.toList == [115,116,97,114,116]) = true then (yv m x.A x.B x.C x.D).2
  else if (x.kind.toList == [112,105,118,111,116]) = true then (yD m).2
  else if (x.kind.toList == [99,97,110,99,101,108]) = true then (yQ m).2
  else if (x.kind.toList == [112,97,117,115,101]) = true then (zm m (decide (0 < x.A))).2
  else if (x.kind.toList == [116,105,99,107]) = true then (zX m x.A).2
  else if (x.kind.toList == [102,97,105,108]) = true then (armM m x.A x.B).2
  else (lZ m).2
def didG (m : ld) (g : lK) (x : Act) : lK:=
  if (x.kind.toList == [119,114,105,116,101]) = true then (if (oG m x.A x.S).1 = 1 then g else zx g x.A.toNat x.S (decide ((oG m x.A x.S).1 = 0)))
  else if (x.kind.toList == [119,105,112,101]) = true then (if (oD m x.A x.B).1 = 1 then g else zx g x.A.toNat (zs (16 * x.B.toNat)) (decide ((oD m x.A x.B).1 = 0)))
  else if (x.kind.toList == [102,108,117,115,104]) = true then AV g
  else g
theorem CJ {N : Nat} {m : ld} (h : YOk N m) (hN : N < 900000) {fr n : Int} (hn : ¬n <= 200) : oD m fr n = (1,m):=by
  unfold oD
  rw [zt]
  intro h0
  obtain ⟨-,w1,w2,w3⟩:=yF h0
  obtain ⟨s,hs⟩:=h.head
  have hc:=yH (h.sh.sh hN) h.root
  rw [show m.list.getD 0 0 = m.dk.root by rw [hs]; rfl] at w3
  omega
theorem NC {N : Nat} {m : ld} (h : lx N m) (hN : N + 2000 < 900000) (x : Act) (hB : oy x.B) (hS : x.S.size <= 700) : lx (N + 1000) (didY m x):=by
  unfold didY
  by_cases k0 : (x.kind.toList == [119,114,105,116,101]) = true
  · rw [zt k0]
    exact J0 h (by omega) _ _ (by omega)
  rw [zq k0]
  by_cases k1 : (x.kind.toList == [119,105,112,101]) = true
  · rw [zt k1]
    by_cases hn : x.B <= 200
    · exact KR h (by omega) _ _ hn
    · rw [CJ h.ok (by omega) hn]; exact h.mono (by omega)
  rw [zq k1]
  by_cases k2 : (x.kind.toList == [102,108,117,115,104]) = true
  · rw [zt k2]
    exact (Kj h).mono (by omega)
  rw [zq k2]
  by_cases k3 : (x.kind.toList == [98,108,97,110,107]) = true
  · rw [zt k3]
    exact (FB h (by omega) _ _).mono (by omega)
  rw [zq k3]
  by_cases k4 : (x.kind.toList == [115,110,97,112]) = true
  · rw [zt k4]
    exact (MD h (by omega) _).mono (by omega)
  rw [zq k4]
  by_cases k5 : (x.kind.toList == [115,116,97,114,116]) = true
  · rw [zt k5]
    exact (C2 h (by omega) _ _ _ _).mono (by omega)
  rw [zq k5]
  by_cases k6 : (x.kind.toList == [112,105,118,111,116]) = true
  · rw [zt k6]
    exact (Fz h (by omega)).mono (by omega)
  rw [zq k6]
  by_cases k7 : (x.kind.toList == [99,97,110,99,101,108]) = true
  · rw [zt k7]
    exact (D4 h (by omega)).mono (by omega)
  rw [zq k7]
  by_cases k8 : (x.kind.toList == [112,97,117,115,101]) = true
  · rw [zt k8]
    exact (Kc h _).mono (by omega)
  rw [zq k8]
  by_cases k9 : (x.kind.toList == [116,105,99,107]) = true
  · rw [zt k9]
    exact (K7 h _).mono (by omega)
  rw [zq k9]
  by_cases k10 : (x.kind.toList == [102,97,105,108]) = true
  · rw [zt k10]
    exact (Om h _ _ hB).mono (by omega)
  rw [zq k10]
  exact (BK h (by omega)).mono (by omega)
structure GI (C : Int) (m : ld) (g : lK) : Prop where
  t : YT C m
  n : (g.now.length : Int) = 4 * C
  cr : g.cr.length = g.now.length
  now : ∀k,k < g.now.length -> m.see k∈lsAt g.now k
  sub : ∀k,k < g.now.length -> ∀x∈lsAt g.now k,x∈lsAt g.cr k
theorem GI.still {C : Int} {m m' : ld} {g : lK} (h : GI C m g) (s : lJ C m m') : GI C m' g:=⟨s.t,h.n,h.cr,fun k hk=>by rw [s.see]; exact h.now k hk,h.sub⟩
theorem GI.wrote {C : Int} {m m' : ld} {g : lK} (h : GI C m g) {code fr : Int} {s : ByteArray} {new : Nat -> ByteArray} (w : M1 C m m' code fr (s.size / 16) new) (hs : ∀j,j < s.size / 16 -> lz s j = new j) :
    GI C m' (if code = 1 then g else zx g fr.toNat s (decide (code = 0))):=by
  split
  · rename_i h1
    rw [w.no h1]
    exact h
  · rename_i h1
    obtain ⟨r0,r1⟩:=w.rng h1
    obtain ⟨f,rfl⟩:=ze r0
    rw [zn]
    obtain ⟨l1,l2⟩:=BJ g f s (decide (code = 0)) (s.size / 16)
    have hn:=h.n
    have hcr:=h.cr
    have hat:=fun i=>Gm (g:=g) (fr:=f) (s:=s) (well:=decide (code = 0)) (k:=s.size / 16) (by omega) (by omega) i
    refine ⟨w.t,by unfold zx; rw [l1]; exact h.n,by unfold zx; rw [l1,l2]; exact h.cr,fun k hk=>?_,fun k hk x hx=>?_⟩
    · unfold zx at hk ⊢
      rw [l1] at hk
      rw [(hat k).1]
      by_cases hr : f <= k /\ k < f + s.size / 16
      · rw [zt hr]
        by_cases h0 : code = 0
        · rw [zg h0,zt rfl,w.did h0 (k - f) k (by omega) (by omega),hs _ (by omega)]
          exact List.mem_singleton.2 rfl
        · rw [zf h0,zq (by simp)]
          rcases w.old k with e | ⟨j,j1,j2,j3⟩
          · rw [e]
            exact List.mem_append_left _ (h.now k hk)
          · rw [j3,<- hs j j1,show k - f = j by omega]
            exact List.mem_append_right _ (List.mem_singleton.2 rfl)
      · rw [zq hr]
        rcases w.old k with e | ⟨j,j1,j2,j3⟩
        · rw [e]; exact h.now k hk
        · omega
    · unfold zx at hk hx ⊢
      rw [l1] at hk
      rw [(hat k).1] at hx
      rw [(hat k).2]
      by_cases hr : f <= k /\ k < f + s.size / 16
      · rw [zt hr] at hx ⊢
        by_cases h0 : code = 0
        · rw [zg h0,zt rfl] at hx
          rw [List.mem_singleton.1 hx]
          exact List.mem_append_right _ (List.mem_singleton.2 rfl)
        · rw [zf h0,zq (by simp)] at hx
          rcases List.mem_append.1 hx with hx | hx
          · exact List.mem_append_left _ (h.sub k hk x hx)
          · exact List.mem_append_right _ hx
      · rw [zq hr] at hx ⊢
        exact h.sub k hk x hx
theorem GI.flushed {C : Int} {m : ld} {g : lK} (h : GI C m g) : GI C m (AV g):=⟨h.t,h.n,rfl,h.now,fun _ _ _ h=>h⟩
theorem NV {C : Int} {N : Nat} {m : ld} {g : lK} (h : GI C m g) (hg : lx N m) (hN : N + 2000 < 900000) (x : Act) (hS : x.S.size <= 700) : GI C (didY m x) (didG m g x):=by
  unfold didY didG
  by_cases k0 : (x.kind.toList == [119,114,105,116,101]) = true
  · rw [zt k0,zt k0]
    exact h.wrote (CT h.t hg.ok (by omega) _ _ (by omega)).1 fun _ _=>rfl
  rw [zq k0,zq k0]
  by_cases k1 : (x.kind.toList == [119,105,112,101]) = true
  · rw [zt k1,zt k1]
    by_cases hn : x.B <= 200
    · obtain ⟨w,w2⟩:=DJ h.t hg.ok (by omega) x.A x.B hn
      have e : (zs (16 * x.B.toNat)).size / 16 = x.B.toNat:=by rw [zl]; omega
      rw [<- e] at w
      exact h.wrote w fun j hj=>DQ (by omega)
    · rw [CJ hg.ok (by omega) hn,zt rfl]; exact h
  rw [zq k1,zq k1]
  by_cases k2 : (x.kind.toList == [102,108,117,115,104]) = true
  · rw [zt k2,zt k2]
    exact (h.still (Jz h.t hg.ok)).flushed
  rw [zq k2,zq k2]
  by_cases k3 : (x.kind.toList == [98,108,97,110,107]) = true
  · rw [zt k3]
    exact h.still (Ek h.t hg.ok _ _)
  rw [zq k3]
  by_cases k4 : (x.kind.toList == [115,110,97,112]) = true
  · rw [zt k4]
    exact h.still (La h.t hg _)
  rw [zq k4]
  by_cases k5 : (x.kind.toList == [115,116,97,114,116]) = true
  · rw [zt k5]
    exact h.still (Ct h.t hg.ok _ _ _ _)
  rw [zq k5]
  by_cases k6 : (x.kind.toList == [112,105,118,111,116]) = true
  · rw [zt k6]
    exact h.still (Cw h.t hg (by omega))
  rw [zq k6]
  by_cases k7 : (x.kind.toList == [99,97,110,99,101,108]) = true
  · rw [zt k7]
    exact h.still (D1 h.t hg.ok)
  rw [zq k7]
  by_cases k8 : (x.kind.toList == [112,97,117,115,101]) = true
  · rw [zt k8]
    exact h.still (JE h.t _)
  rw [zq k8]
  by_cases k9 : (x.kind.toList == [116,105,99,107]) = true
  · rw [zt k9]
    exact h.still (JT h.t _)
  rw [zq k9]
  by_cases k10 : (x.kind.toList == [102,97,105,108]) = true
  · rw [zt k10]
    exact h.still (MO h.t hg.ok _ _)
  rw [zq k10]
  exact h.still (Bi h.t hg (by omega))
theorem Dd {C : Int} {N : Nat} {m : ld} (h : YT C m) (ho : YOk N m) (hN : N < 900000) : (getM m.F m.list 0 (4 * C)).2 = 0 /\ ((getM m.F m.list 0 (4 * C)).1.size : Int) = 64 * C /\ ∀k : Nat,(k : Int) < 4 * C -> lz (getM m.F m.list 0 (4 * C)).1 k = m.see k:=by
  obtain ⟨s,hs⟩:=ho.head
  have hne : m.list≠[]:=by rw [hs]; simp
  have hcl:=h.cl0 ho
  have hc:=yH (ho.sh.sh hN) ho.root
  rw [hcl] at hc
  have hw : lN m.F m.list 0 (4 * C) = 0:=by
    unfold lN
    rw [zq (by rw [hs]; simp),show m.list.getD 0 0 = m.dk.root by rw [hs]; rfl,hcl,zq (by omega)]
  obtain ⟨c,rfl⟩:=ze (show 0 <= C by omega)
  have e4 : (4 * (c : Int)).toNat = 4 * c:=by omega
  unfold getM
  rw [zt hw]
  dsimp only
  rw [e4,Int.toNat_zero]
  have hsz : ∀x∈yi m.F m.list 0 (4 * c),x.size = 16:=fun x hx=>by
    unfold yi at hx
    obtain ⟨j,hj,rfl⟩:=List.mem_map.1 hx
    have:=List.mem_range.1 hj
    rw [Nat.zero_add,LM h.fl ho.sh hne (by omega)]
    exact O1 h.fl ho.sh hne (by omega)
  have hlen : (yi m.F m.list 0 (4 * c)).length = 4 * c:=by simp [yi]
  refine ⟨rfl,by rw [Kl hsz,hlen]; omega,fun k hk=>?_⟩
  rw [BU,Fg hsz (by rw [hlen]; omega)]
  have : (yi m.F m.list 0 (4 * c)).getD k ByteArray.empty = CN m.F m.list k:=by
    unfold yi
    rw [List.getD_eq_getElem?_getD,List.getElem?_map,List.getElem?_range (by omega)]
    simp
  rw [this,LM h.fl ho.sh hne hk]
  rfl
theorem GI.all {C : Int} {N : Nat} {m : ld} {g : lK} (h : GI C m g) (ho : YOk N m) (hN : N < 900000) : Qb g.now (getM m.F m.list 0 (4 * C)).1:=by
  obtain ⟨-,s1,s2⟩:=Dd h.t ho hN
  have hn:=h.n
  refine ⟨by omega,fun i hi=>?_⟩
  rw [s2 i (by omega)]
  exact h.now i hi
theorem GI.saw {C : Int} {N : Nat} {m : ld} {g : lK} (h : GI C m g) (ho : YOk N m) (hN : N < 900000) : GI C m (sawM g (getM m.F m.list 0 (4 * C)).1):=by
  obtain ⟨-,s1,s2⟩:=Dd h.t ho hN
  have hn:=h.n
  have hat : ∀k,k < g.now.length -> lsAt (sawM g (getM m.F m.list 0 (4 * C)).1).now k = [m.see k]:=fun k hk=>by
    unfold sawM lsAt
    dsimp only
    rw [List.getD_eq_getElem?_getD,List.getElem?_map,List.getElem?_range hk]
    simp only [Option.map_some,Option.getD_some]
    rw [s2 k (by omega)]
  have hl : (sawM g (getM m.F m.list 0 (4 * C)).1).now.length = g.now.length:=by simp [sawM]
  refine ⟨h.t,by rw [hl]; exact hn,by rw [hl]; exact h.cr,fun k hk=>?_,fun k hk x hx=>?_⟩
  · rw [hl] at hk
    rw [hat k hk]
    exact List.mem_singleton.2 rfl
  · rw [hl] at hk
    rw [hat k hk] at hx
    rw [List.mem_singleton.1 hx]
    exact h.sub k hk _ (h.now k hk)
def yM (n : Nat) : lK:={ now:=List.replicate n [zs 16],cr:=List.replicate n [zs 16] }
theorem NI {c p : Int} (h : ¬lH c p (-1)) (k : Nat) : (yR c p).see k = zs 16:=by
  obtain ⟨t,d',e⟩:=yh (yq c p) (lw 0)
  unfold yR
  rw [e]
  obtain ⟨dv,hi⟩:=Cu (lW (newN c p)) c p (-1)
  have hat : (yq c p).F 0 = some (newI c p):=yg (fun _=>none) 0 (newI c p)
  show seeF (yq c p).F [0] k = zs 16
  rw [A1]
  · rfl
  · rw [ya (x:=0) hat]
    change newI c p = _ at hi
    rw [hi]
    exact G8 k
theorem OV {c p : Int} (h : ¬lH c p (-1)) : YT c (yR c p):=by
  have hg:=(G6 h).1
  obtain ⟨t,d',e⟩:=yh (yq c p) (lw 0)
  have hj : (yR c p).job = none:=by unfold yR; rw [e]; rfl
  have hcl : clus (yR c p).F (yR c p).dk.root = c:=by
    obtain ⟨dv,hi⟩:=Cu (lW (newN c p)) c p (-1)
    have hat : (yq c p).F 0 = some (newI c p):=yg (fun _=>none) 0 (newI c p)
    change newI c p = _ at hi
    have hr : (yR c p).dk.root = 0:=by unfold yR lm; split <;> rfl
    rw [hr]
    have hF : (yR c p).F = (yq c p).F:=by unfold yR; rw [e]
    rw [hF]
    unfold clus
    rw [show (0 : Int).toNat = 0 from rfl,hat,hi]
    rfl
  have:=YT.of hg.ok fun j hj'=>by rw [hj] at hj'; cases hj'
  rwa [hcl] at this
theorem PZ {c p : Int} (h : ¬lH c p (-1)) : GI c (yR c p) (yM (4 * c.toNat)):=by
  have hb:=h
  unfold lH at hb
  have hat : ∀k,k < 4 * c.toNat -> lsAt (List.replicate (4 * c.toNat) [zs 16]) k = [zs 16]:=fun k hk=>by
    unfold lsAt
    rw [List.getD_eq_getElem?_getD,List.getElem?_replicate_of_lt hk]
    rfl
  refine ⟨OV h,by show ((List.replicate (4 * c.toNat) [zs 16]).length : Int) = _; rw [List.length_replicate]; omega,rfl,fun k hk=>?_,fun _ _ _ h=>h⟩
  have hk : k < 4 * c.toNat:=by rwa [show (yM (4 * c.toNat)).now.length = 4 * c.toNat from List.length_replicate] at hk
  show _∈lsAt (List.replicate (4 * c.toNat) [zs 16]) k
  rw [hat k hk,NI h]
  exact List.mem_singleton.2 rfl
end Go.Proofs.YtbpblokfiajpjabGreatDoor
namespace Go.SL
open Go.RowKit
def rowo (e : TypeId) (sz : Nat) (v : Value) (n : Nat) (xs : List Value) : HP:=fun h=>
 xs.length = n * sz /\ ((v = .slice none 0 0 /\ n = 0 /\ emp h) \/
  ∃g off cap cur,v = .slice (some ⟨g,off,none⟩) n cap /\ n <= cap /\ cap <= maxLen /\ cur.size = off + cap * sz /\ (cur.toList.drop off).take (n * sz) = xs /\ pts g (.cells cur e (0,0)) h)
theorem KX {e : TypeId} {sz : Nat} {v : Value} {n : Nat} {xs : List Value} {h : Hp} (H : row e sz v n xs h) : rowo e sz v n xs h:=by
 obtain ⟨hl,h1 | ⟨g,cap,cur,rfl,h1,h2,h3,h4,h5⟩⟩:=H
 ·exact ⟨hl,.inl h1⟩
 ·exact ⟨hl,.inr ⟨g,0,cap,cur,rfl,h1,h2,by omega,by simpa using h4,h5⟩⟩
theorem GL {w : World} {L : List HP} (k : Nat) {e : TypeId} {sz : Nat} {v : Value} {n : Nat} {xs : List Value} (H : own w L) (hk : L[k]? = some (row e sz v n xs)) : own w (L.set k (rowo e sz v n xs)):=
 Dv k (fun _=>KX) H hk
theorem C3 {w : World} {L : List HP} (k : Nat) {g off cap n sz : Nat} {cur : Array Value} {e : TypeId} {xs : List Value} (H : own w L) (hk : L[k]? = some (pts g (.cells cur e (0,0))))
  (hn : n <= cap) (hc : cap <= maxLen) (hs : cur.size = off + cap * sz) (ht : (cur.toList.drop off).take (n * sz) = xs) : own w (L.set k (rowo e sz (.slice (some ⟨g,off,none⟩) n cap) n xs)):=by
 refine Dv k (fun h hh=>⟨?_,.inr ⟨g,off,cap,cur,rfl,hn,hc,hs,ht,hh⟩⟩) H hk
 rw [<- ht,List.length_take,List.length_drop,Array.length_toList,hs]
 have:=Nat.mul_le_mul_right sz hn
 omega
theorem JU {w : World} {L : List HP} (k : Nat) {e : TypeId} {sz : Nat} {v : Value} {n : Nat} {xs : List Value} (H : own w L) (hk : L[k]? = some (rowo e sz v n xs)) :
  xs.length = n * sz /\ ((v = .slice none 0 0 /\ n = 0) \/
  ∃g off cap cur,v = .slice (some ⟨g,off,none⟩) n cap /\ n <= cap /\ cap <= maxLen /\ cur.size = off + cap * sz /\ (cur.toList.drop off).take (n * sz) = xs /\ own w (L.set k (pts g (.cells cur e (0,0))))):=by
 obtain ⟨h,hs,h1,h2,a,⟨hl,p⟩,q⟩:=lG k H hk
 refine ⟨hl,?_⟩
 rcases p with ⟨rfl,rfl,_⟩ | ⟨g,off,cap,cur,rfl,c1,c2,c3,c4,c5⟩
 ·exact .inl ⟨rfl,rfl⟩
 ·exact .inr ⟨g,off,cap,cur,rfl,c1,c2,c3,c4,ot H k hk ⟨h,hs,h1,h2,a,c5,q⟩⟩
theorem DW {l xs : List Value} {off m j : Nat} {u : Value} (h : (l.drop off).take m = xs) (hu : xs[j]? = some u) : l[off + j]? = some u:=by
 rw [<- h,List.getElem?_take] at hu
 split at hu
 ·rwa [List.getElem?_drop] at hu
 ·cases hu
theorem AT {w : World} {L : List HP} (k : Nat) {e : TypeId} {sz : Nat} {v : Value} {n : Nat} {xs : List Value} (H : own w L) (hk : L[k]? = some (rowo e sz v n xs)) :
  ∃ao g off cap,v = .slice ao n cap /\ n <= cap /\ cap <= maxLen /\ (0 < n -> ao = some ⟨g,off,none⟩) /\ (∀j u,xs[j]? = some u -> w.cell? ⟨g,off + j,none⟩ = some u) /\ (ao≠none -> ∀j,w.frozen? ⟨g,j,none⟩ = false):=by
 obtain ⟨hl,⟨rfl,rfl⟩ | ⟨g,off,cap,cur,rfl,h1,h2,h3,h4,h5⟩⟩:=JU k H hk
 ·have hx : xs = []:=List.eq_nil_of_length_eq_zero (by simpa using hl)
  subst hx
  exact ⟨none,0,0,0,rfl,Nat.le_refl _,by simp [maxLen],fun h=>absurd h (by simp),(fun j u h=>by simp at h),fun h=>absurd rfl h⟩
 ·have hk' : (L.set k (pts g (.cells cur e (0,0))))[k]? = some (pts g (.cells cur e (0,0))):=by
   have:=(zS.1 hk).1
   simp [this]
  obtain ⟨hc,hf⟩:=la k h5 hk'
  refine ⟨_,g,off,cap,rfl,h1,h2,fun _=>rfl,fun j u hu=>?_,fun _=>hf⟩
  rw [hc,<- Array.getElem?_toList]
  exact DW h4 hu
section
variable {P : Program}
theorem D3 (w : World) (t ty e : TypeId) (i : TypeInfo) (ht : P.underlying t = some (.slice e)) (hi : P.info? e = some i)
  (g off sLen sCap : Nat) (cur : Array Value) (hg : w.heap[g]? = some (.cells cur e (0,0)))
  (a : Addr) (m c : Nat) (news : List Value) (hl : news.length = m * i.size) (hnews : ∀j u,news[j]? = some u -> w.cell? (a.add j) = some u) (h1 : ∀u∈news,u.oneCell' = true)
  (hroom : sLen + m <= sCap) (hfit : off + sLen * i.size + news.length <= cur.size) :
  (Builtin.append_ #[t,t] ty #[.slice (some ⟨g,off,none⟩) sLen sCap,.slice (some a) m c]).run P w =
   .ok (.slice (some ⟨g,off,none⟩) (sLen + m) sCap) (w.setRow g (cur.toList.take (off + sLen * i.size)++news++cur.toList.drop (off + sLen * i.size + news.length)).toArray):=by
 have hf:=run_firstCells_some (P:=P) w i.size m a m c news hl hnews
 have hst:=run_storeCells_at P g (off + sLen * i.size) e news 0 cur w hg (by simpa using hfit) h1
 simp only [Nat.add_zero] at hst
 have hadd : (⟨g,off,none⟩ : Addr).add (sLen * i.size) = ⟨g,off + sLen * i.size,none⟩:=by unfold Addr.add; split <;> simp_all
 simp [Builtin.append_,run_underlying ht,sizeOf,typeInfo,hi,Builtin.lenOf,hroom,hf,hadd,hst]
theorem GZ {w : World} {L : List HP} (k : Nat) (t ty e : TypeId) {sz bytes : Nat} {z : Value} (ht : P.underlying t = some (.slice e)) (he : Elem P e sz bytes z) (hzs : z.cells.size = sz) (hsz : 0 < sz)
  {g off n cap : Nat} {xs : List Value} (H : own w L) (hk : L[k]? = some (rowo e sz (.slice (some ⟨g,off,none⟩) n cap) n xs))
  (a : Addr) (m c : Nat) (news : List Value) (hl : news.length = m * sz) (hnews : ∀j u,news[j]? = some u -> w.cell? (a.add j) = some u) (h1 : ∀u∈news,u.oneCell' = true)
  (h63 : n + m <= maxLen) (hbytes : (n + m) * bytes <= 140737488355328) :
  ∃g' off' cap' w',(Builtin.append_ #[t,t] ty #[.slice (some ⟨g,off,none⟩) n cap,.slice (some a) m c]).run P w = .ok (.slice (some ⟨g',off',none⟩) (n + m) cap') w' /\ n + m <= cap' /\ cap' <= maxLen /\
   own w' (L.set k (rowo e sz (.slice (some ⟨g',off',none⟩) (n + m) cap') (n + m) (xs++news))) /\ Ext w w':=by
 obtain ⟨i,hi,hz,rfl,rfl⟩:=info_parts he
 obtain ⟨hlen,hv⟩:=JU k H hk
 have hkl : k < L.length:=(zS.1 hk).1
 have hlen' : (xs++news).length = (n + m) * i.size:=by rw [List.length_append,hlen,hl,Nat.add_mul]
 have h63' : n + m <= 9223372036854775807:=by simp only [maxLen] at h63; omega
 rcases hv with ⟨h0,_⟩ | ⟨g0,off0,cap0,cur,hv0,c1,c2,c3,c4,c5⟩
 ·cases h0
 ·simp only [Value.slice.injEq,Option.some.injEq,Addr.mk.injEq,and_true,true_and] at hv0
  obtain ⟨⟨rfl,rfl⟩,rfl⟩:=hv0
  have hk' : (L.set k (pts g (.cells cur e (0,0))))[k]? = some (pts g (.cells cur e (0,0))):=by simp [hkl]
  have hg:=Be k c5 hk'
  by_cases hroom : n + m <= cap
  ·have hm1:=Nat.mul_le_mul_right i.size hroom
   have hm2:=Nat.add_mul n m i.size
   have hfit : off + n * i.size + news.length <= cur.size:=by rw [hl,c3]; omega
   have hr:=D3 (P:=P) w t ty e i ht hi g off n cap cur hg a m c news hl hnews h1 hroom hfit
   refine ⟨g,off,cap,_,hr,hroom,c2,?_,⟨rfl,rfl,rfl,by simp [World.setRow]⟩⟩
   have hu : own (w.setRow g (cur.toList.take (off + n * i.size)++news++cur.toList.drop (off + n * i.size + news.length)).toArray) _:=Cg k (o':=.cells (cur.toList.take (off + n * i.size)++news++cur.toList.drop (off + n * i.size + news.length)).toArray e (0,0)) c5 hk' (by
    funext x
    by_cases hx : x = g
    ·subst hx; simp only [if_true]; exact setRow_heap w x cur _ e _ hg
    ·simp only [hx,if_false]; exact setRow_other w g x _ hx)
   have hk2 : ((L.set k (pts g (.cells cur e (0,0)))).set k (pts g (.cells (cur.toList.take (off + n * i.size)++news++cur.toList.drop (off + n * i.size + news.length)).toArray e (0,0))))[k]? =
     some (pts g (.cells (cur.toList.take (off + n * i.size)++news++cur.toList.drop (off + n * i.size + news.length)).toArray e (0,0))):=by simp [hkl]
   have h3:=C3 k (n:=n + m) (cap:=cap) (off:=off) (sz:=i.size) (xs:=xs++news) hu hk2 hroom c2 (by
    simp only [List.size_toArray,List.length_append,List.length_take,List.length_drop,Array.length_toList]
    omega) (by
    have e1 : cur.toList.take (off + n * i.size) = cur.toList.take off++xs:=by rw [List.take_add,c4]
    have e2 : (cur.toList.take off).length = off:=by rw [List.length_take,Array.length_toList]; omega
    rw [e1,zp,zp]
    rw [List.drop_append_of_le_length (by omega),List.drop_of_length_le (by omega),List.nil_append,<- zp,<- hlen']
    exact List.take_left)
   simpa only [List.set_set] using h3
  ·have holds : ∀j u,xs[j]? = some u -> w.cell? ((⟨g,off,none⟩ : Addr).add j) = some u:=fun j u hu=>by
    have hadd : (⟨g,off,none⟩ : Addr).add j = ⟨g,off + j,none⟩:=by unfold Addr.add; split <;> simp_all
    rw [hadd,(la k c5 hk').1,<- Array.getElem?_toList]
    exact DW c4 hu
   have hr:=run_append_grow (P:=P) w t ty e i z ht hi hz ⟨g,off,none⟩ n cap xs hlen holds a m c news hl hnews (by omega) (by omega) (growslice_fits (by omega) hbytes)
   have hge:=grownCap_ge w (n + m) cap e
   have hcm:=grownCap_le_maxLen w (n + m) cap e h63
   refine ⟨w.heap.size,0,_,_,hr,hge,hcm,?_,(zR _).drew.alloc _⟩
   have h2:=lf (le k (lj H) hk) (.cells (xs.toArray++news.toArray++Builtin.zeroCells z.cells (grownCap w (n + m) cap e - (n + m))) e)
   have h3:=C3 0 (n:=n + m) (off:=0) (cap:=grownCap w (n + m) cap e) (sz:=i.size) (xs:=xs++news) h2 rfl hge hcm (by
    simp only [Array.size_append,List.size_toArray,size_zeroCells,hzs,hlen,hl,<- Nat.add_mul,Nat.zero_add]
    congr 1
    omega) (by
    simp only [Array.toList_append,zp,List.drop_zero]
    rw [<- zp,<- hlen']
    exact List.take_left)
   exact ot H k hk h3
theorem Cq {w : World} {L : List HP} {ops : Array Oper} {o : Oper} {a : Act} {K : Act -> World -> Prop} {Q : Exit -> Act -> World -> Prop} {E : Prop} (hgd : o.guard = none) (s x : Operand) (t : TypeId)
  (ho : o.op = .call { callee:=.builtin .append,args:=#[s,x],argTypes:=#[t,t] })
  (k : Nat) (e : TypeId) {sz bytes : Nat} {z : Value} (ht : P.underlying t = some (.slice e)) (he : Elem P e sz bytes z) (hzs : z.cells.size = sz) (hsz : 0 < sz)
  {g off n cap : Nat} {xs : List Value} (hs : a.eval s = .slice (some ⟨g,off,none⟩) n cap) (H : own w L) (hk : L[k]? = some (rowo e sz (.slice (some ⟨g,off,none⟩) n cap) n xs))
  (ad : Addr) (m c : Nat) (news : List Value) (hx : a.eval x = .slice (some ad) m c) (hl : news.length = m * sz) (hnews : ∀j u,news[j]? = some u -> w.cell? (ad.add j) = some u) (h1 : ∀u∈news,u.oneCell' = true)
  (h63 : n + m <= maxLen) (hbytes : (n + m) * bytes <= 140737488355328)
  (h : ∀g' off' cap' w',n + m <= cap' -> cap' <= maxLen -> own w' (L.set k (rowo e sz (.slice (some ⟨g',off',none⟩) (n + m) cap') (n + m) (xs++news))) -> Ext w w' -> K (a.put o.dst (.slice (some ⟨g',off',none⟩) (n + m) cap')) w') : if Region.wanted o (yielded ops a.tmps) = true then Oper.wp P o a w K Q else E:=by
 rw [zt (by simp [Region.wanted,hgd])]
 obtain ⟨g',off',cap',w',hr,c1,c2,h2,h3⟩:=GZ (P:=P) k t o.type e ht he hzs hsz H hk ad m c news hl hnews h1 h63 hbytes
 unfold Oper.wp execOp
 simp only [ho,resolve,invoke,builtin,Sem.run_bind,Sem.run_pure,Result.andThen_ok,List.map_toArray,List.map_cons,List.map_nil,hs,hx,hr]
 exact h g' off' cap' w' c1 c2 h2 h3
end
end Go.SL
namespace Go.Proofs.YtbpblokfiajpjabGreatDoor
open Go.RowKit Go.SL
def upd {α : Type} (f : Nat -> α) (k : Nat) (x : α) : Nat -> α:=fun j=>if j = k then x else f j
theorem Ao {α : Type} (f : Nat -> α) (k : Nat) (x : α) : upd f k x k = x:=zt rfl
theorem zr {α : Type} (f : Nat -> α) {k j : Nat} (x : α) (h : j≠k) : upd f k x j = f j:=zq h
def oI (n : Nat) (vs : Nat -> Value) (hs : Nat -> List ByteArray) : List HP:=(List.range n).map fun k=>rowo 9 1 (vs k) (hs k).length (strCells (hs k))
theorem zI (n : Nat) (vs : Nat -> Value) (hs : Nat -> List ByteArray) : (oI n vs hs).length = n:=by simp [oI]
theorem CO {n : Nat} (vs : Nat -> Value) (hs : Nat -> List ByteArray) {k : Nat} (h : k < n) : (oI n vs hs)[k]? = some (rowo 9 1 (vs k) (hs k).length (strCells (hs k))):=by simp [oI,h]
theorem M8 {n : Nat} (vs : Nat -> Value) (hs : Nat -> List ByteArray) {k : Nat} (v : Value) (l : List ByteArray) (_h : k < n) : (oI n vs hs).set k (rowo 9 1 v l.length (strCells l)) = oI n (upd vs k v) (upd hs k l):=by
 apply List.ext_getElem?
 intro j
 rw [List.getElem?_set]
 by_cases hj : j < n
 ·rw [CO _ _ hj]
  by_cases e : k = j
  ·subst e
   rw [zt rfl,zt (by rw [zI]; exact hj),CO _ _ hj,Ao,Ao]
  ·rw [zq e,CO _ _ hj,zr _ _ (fun h=>e h.symm),zr _ _ (fun h=>e h.symm)]
 ·have h1 : (oI n (upd vs k v) (upd hs k l))[j]? = none:=List.getElem?_eq_none (by rw [zI]; omega)
  have h2 : (oI n vs hs)[j]? = none:=List.getElem?_eq_none (by rw [zI]; omega)
  rw [h1,h2]
  split
  ·rw [zq (by rw [zI]; omega)]
  ·rfl
theorem Mx (n : Nat) (vs : Nat -> Value) (hs : Nat -> List ByteArray) (v : Value) (l : List ByteArray) : oI (n + 1) (upd vs n v) (upd hs n l) = oI n vs hs++[rowo 9 1 v l.length (strCells l)]:=by
 unfold oI
 rw [List.range_succ,List.map_append]
 congr 1
 ·apply List.map_congr_left
  intro j hj
  have : j≠n:=by have:=List.mem_range.1 hj; omega
  rw [zr _ _ this,zr _ _ this]
 ·simp [Ao]
theorem JS {n : Nat} {A : List HP} {R : List HP} (vs : Nat -> Value) (hs : Nat -> List ByteArray) {k : Nat} (h : k < n) : (A++(oI n vs hs++R))[A.length + k]? = some (rowo 9 1 (vs k) (hs k).length (strCells (hs k))):=by
 rw [List.getElem?_append_right (by omega),Nat.add_sub_cancel_left,List.getElem?_append_left (by rw [zI]; exact h)]
 exact CO vs hs h
theorem Og {n : Nat} {A : List HP} {R : List HP} (vs : Nat -> Value) (hs : Nat -> List ByteArray) {k : Nat} (v : Value) (l : List ByteArray) (h : k < n) :
  (A++(oI n vs hs++R)).set (A.length + k) (rowo 9 1 v l.length (strCells l)) = A++(oI n (upd vs k v) (upd hs k l)++R):=by
 rw [List.set_append_right _ _ (by omega),Nat.add_sub_cancel_left,List.set_append_left _ _ (by rw [zI]; exact h),M8 vs hs v l h]
end Go.Proofs.YtbpblokfiajpjabGreatDoor
namespace Go.SL
theorem KK {w : World} {L : List HP} {k : Nat} {P Q : HP} (hk : L[k]? = some P) (H : own w (Q::L)) : own w (L.set k Q):=by
 have h1 : own w (Q::L.eraseIdx k):=le (k + 1) H (by simpa using hk)
 exact ot (lg H) k hk h1
end Go.SL
namespace Go.Proofs.YtbpblokfiajpjabGreatDoor
open Go.RowKit Go.SL Go.Crc
attribute [local go_sem ↓] Go.wp_at_zero Go.wp_at_succ
theorem Im : Elem Tryz.prog 206 1 24 (.slice none 0 0):=by unfold Elem; kernel_rfl
def oo (n : Nat) (f : Nat -> Value) : List Value:=(List.range n).map f
theorem Cb {n : Nat} {f : Nat -> Value} {i : Nat} (h : i < n) : (oo n f)[i]? = some (f i):=by simp [oo,h]
theorem Gk {n : Nat} {f : Nat -> Value} {i : Nat} (v : Value) : (oo n f).set i v = oo n (upd f i v):=by
 apply List.ext_getElem?
 intro j
 rw [List.getElem?_set]
 by_cases hj : j < n
 ·rw [Cb hj,Cb hj]
  by_cases e : i = j
  ·subst e; rw [zt rfl,zt (by simpa [oo] using hj),Ao]
  ·rw [zq e,zr _ _ fun h=>e h.symm]
 ·have h1 : ∀f : Nat -> Value,(oo n f)[j]? = none:=fun f=>List.getElem?_eq_none (by simp [oo]; omega)
  rw [h1,h1]
  split
  ·rw [zq (by simp [oo]; omega)]
  ·rfl
theorem Fj {n : Nat} {f : Nat -> Value} (v : Value) : oo (n + 1) (upd f n v) = oo n f++[v]:=by
 unfold oo
 rw [List.range_succ,List.map_append]
 congr 1
 ·exact List.map_congr_left fun j hj=>zr _ _ (by have:=List.mem_range.1 hj; omega)
 ·simp [Ao]
def gP (gb : Nat) (vn vc : Value) (cn rn cc rc : Nat -> Value) (g : lK) : List SL.HP:=
 [pts gb (.cells #[vn,vc] 204 (0,0)),row 206 1 vn g.now.length (oo g.now.length cn),row 206 1 vc g.cr.length (oo g.cr.length cc)]++(oI g.now.length rn (lsAt g.now)++oI g.cr.length rc (lsAt g.cr))
abbrev gL (gb : Nat) (vn vc : Value) (nv cv : Nat -> Value) (g : lK) : List SL.HP:=gP gb vn vc nv nv cv cv g
section
variable {gb : Nat} {vn vc : Value} {cn rn cc rc : Nat -> Value} {g : lK} {R : List SL.HP} {w : World}
theorem zz : gP gb vn vc cn rn cc rc g++R = [pts gb (.cells #[vn,vc] 204 (0,0)),row 206 1 vn g.now.length (oo g.now.length cn),row 206 1 vc g.cr.length (oo g.cr.length cc)]++(oI g.now.length rn (lsAt g.now)++(oI g.cr.length rc (lsAt g.cr)++R)):=by
 unfold gP
 simp only [zp]
theorem GB {i : Nat} (h : i < g.now.length) : (gP gb vn vc cn rn cc rc g++R)[3 + i]? = some (rowo 9 1 (rn i) (lsAt g.now i).length (strCells (lsAt g.now i))):=by
 rw [zz]
 exact JS (A:=[_,_,_]) rn (lsAt g.now) h
theorem Qe {i : Nat} (h : i < g.cr.length) : (gP gb vn vc cn rn cc rc g++R)[3 + g.now.length + i]? = some (rowo 9 1 (rc i) (lsAt g.cr i).length (strCells (lsAt g.cr i))):=by
 rw [zz,<- zp]
 have:=JS (A:=[pts gb (.cells #[vn,vc] 204 (0,0)),row 206 1 vn g.now.length (oo g.now.length cn),row 206 1 vc g.cr.length (oo g.cr.length cc)]++oI g.now.length rn (lsAt g.now)) (R:=R) rc (lsAt g.cr) h
 rwa [List.length_append,zI] at this
theorem G7 {n : Nat} {A R : List SL.HP} (vs : Nat -> Value) (l : List (List ByteArray)) {i : Nat} (v : Value) (x : List ByteArray) (h : i < n) (hl : l.length = n) :
  (A++(oI n vs (lsAt l)++R)).set (A.length + i) (rowo 9 1 v x.length (strCells x)) = A++(oI n (upd vs i v) (lsAt (l.set i x))++R):=by
 rw [Og vs (lsAt l) v x h]
 congr 2
 unfold oI
 refine List.map_congr_left fun j hj=>?_
 rw [DN (by omega)]
 by_cases e : j = i
 ·subst e; rw [Ao,Ao,zt rfl]
 ·rw [zr _ _ e,zr _ _ e,zq e]
theorem Gu {i : Nat} (h : i < g.now.length) (v : Value) (x : List ByteArray) : (gP gb vn vc cn rn cc rc g++R).set (3 + i) (rowo 9 1 v x.length (strCells x)) = gP gb vn vc cn (upd rn i v) cc rc { g with now:=g.now.set i x }++R:=by
 rw [zz,zz]
 have:=G7 (A:=[pts gb (.cells #[vn,vc] 204 (0,0)),row 206 1 vn g.now.length (oo g.now.length cn),row 206 1 vc g.cr.length (oo g.cr.length cc)]) (R:=oI g.cr.length rc (lsAt g.cr)++R) rn g.now v x h rfl
 dsimp only
 rw [List.length_set]
 exact this
theorem I7 {i : Nat} (h : i < g.cr.length) (v : Value) (x : List ByteArray) : (gP gb vn vc cn rn cc rc g++R).set (3 + g.now.length + i) (rowo 9 1 v x.length (strCells x)) = gP gb vn vc cn rn cc (upd rc i v) { g with cr:=g.cr.set i x }++R:=by
 rw [zz,zz]
 have:=G7 (A:=[pts gb (.cells #[vn,vc] 204 (0,0)),row 206 1 vn g.now.length (oo g.now.length cn),row 206 1 vc g.cr.length (oo g.cr.length cc)]++oI g.now.length rn (lsAt g.now)) (R:=R) rc g.cr v x h rfl
 dsimp only
 rw [List.length_set]
 rw [List.length_append,zI] at this
 simp only [zp] at this
 exact this
theorem Fw {i : Nat} (h : i < g.now.length) (v : Value) (x : List ByteArray) (H : own w (rowo 9 1 v x.length (strCells x)::(gP gb vn vc cn rn cc rc g++R))) : own w (gP gb vn vc cn (upd rn i v) cc rc { g with now:=g.now.set i x }++R):=by
 rw [<- Gu h]
 exact KK (GB h) H
theorem MU {i : Nat} (h : i < g.cr.length) (v : Value) (x : List ByteArray) (H : own w (rowo 9 1 v x.length (strCells x)::(gP gb vn vc cn rn cc rc g++R))) : own w (gP gb vn vc cn rn cc (upd rc i v) { g with cr:=g.cr.set i x }++R):=by
 rw [<- I7 h]
 exact KK (Qe h) H
theorem CY {a cap i n : Nat} (hv : vn = .slice (some ⟨a,0,none⟩) n cap) (hn : g.now.length = n) (h : i < n) (v : Value) (H : own w (gP gb vn vc cn rn cc rc g++R)) : own (w.setCell ⟨a,i,none⟩ v) (gP gb vn vc (upd cn i v) rn cc rc g++R):=by
 subst hn
 have h1:=Ae (e:=206) (sz:=1) (g:=a) (n:=g.now.length) (cap:=cap) (xs:=oo g.now.length cn) 1 i v H (by rw [<- hv]; rfl) (by omega)
 rw [Gk,<- hv] at h1
 exact h1
theorem G2 {a cap i n : Nat} (hv : vc = .slice (some ⟨a,0,none⟩) n cap) (hn : g.cr.length = n) (h : i < n) (v : Value) (H : own w (gP gb vn vc cn rn cc rc g++R)) : own (w.setCell ⟨a,i,none⟩ v) (gP gb vn vc cn rn (upd cc i v) rc g++R):=by
 subst hn
 have h1:=Ae (e:=206) (sz:=1) (g:=a) (n:=g.cr.length) (cap:=cap) (xs:=oo g.cr.length cc) 2 i v H (by rw [<- hv]; rfl) (by omega)
 rw [Gk,<- hv] at h1
 exact h1
theorem S7 (h : 0 < g.now.length) (H : own w (gP gb vn vc cn rn cc rc g++R)) : ∃a cap,vn = .slice (some ⟨a,0,none⟩) g.now.length cap /\ g.now.length <= cap:=by
 obtain ⟨ao,a,cap,hv,h1,-,h3,-⟩:=ll 1 H rfl
 obtain rfl:=h3 h
 exact ⟨a,cap,hv,h1⟩
theorem SR (h : 0 < g.cr.length) (H : own w (gP gb vn vc cn rn cc rc g++R)) : ∃a cap,vc = .slice (some ⟨a,0,none⟩) g.cr.length cap /\ g.cr.length <= cap:=by
 obtain ⟨ao,a,cap,hv,h1,-,h3,-⟩:=ll 2 H rfl
 obtain rfl:=h3 h
 exact ⟨a,cap,hv,h1⟩
theorem At {w : World} (H : own w (gP gb vn vc cn rn cc rc g++R)) : w.cell? ⟨gb,0,none⟩ = some vn /\ w.cell? ⟨gb,1,none⟩ = some vc /\ w.frozen? ⟨gb,0,none⟩ = false /\ w.frozen? ⟨gb,1,none⟩ = false:=
 ⟨(la 0 H rfl).1 0,(la 0 H rfl).1 1,(la 0 H rfl).2 0,(la 0 H rfl).2 1⟩
theorem zG {a cap i n : Nat} (hv : vn = .slice (some ⟨a,0,none⟩) n cap) (hn : g.now.length = n) (h : i < n) (H : own w (gP gb vn vc cn rn cc rc g++R)) : w.cell? ⟨a,i,none⟩ = some (cn i) /\ w.frozen? ⟨a,i,none⟩ = false:=by
 subst hn
 have hc:=l8 (e:=206) (sz:=1) (g:=a) (n:=g.now.length) (cap:=cap) (xs:=oo g.now.length cn) 1 H (by rw [<- hv]; rfl)
 exact ⟨hc.1 i _ (Cb h),hc.2 i⟩
theorem Dq {a cap i n : Nat} (hv : vc = .slice (some ⟨a,0,none⟩) n cap) (hn : g.cr.length = n) (h : i < n) (H : own w (gP gb vn vc cn rn cc rc g++R)) : w.cell? ⟨a,i,none⟩ = some (cc i) /\ w.frozen? ⟨a,i,none⟩ = false:=by
 subst hn
 have hc:=l8 (e:=206) (sz:=1) (g:=a) (n:=g.cr.length) (cap:=cap) (xs:=oo g.cr.length cc) 2 H (by rw [<- hv]; rfl)
 exact ⟨hc.1 i _ (Cb h),hc.2 i⟩
end
theorem DM {w : World} {L : List SL.HP} (s : ByteArray) (H : own w L) : own (w.alloc (.cells #[.string s] 9)) (rowo 9 1 (.slice (some ⟨w.heap.size,0,none⟩) 1 1) [s].length (strCells [s])::L):=
 C3 0 (g:=w.heap.size) (off:=0) (cap:=1) (n:=1) (sz:=1) (xs:=strCells [s]) (lf H (.cells #[.string s] 9)) rfl (Nat.le_refl _) (by simp [maxLen]) rfl rfl
theorem GP (s : ByteArray) (k : Nat) (hk : 16 * k + 16 <= s.size) (hs : s.size <= 1000000) (w : World) : Calls Tryz.prog 143 #[.string s,.int .i64 k] w fun e w'=>e = .returned (.string (lz s k)) /\ w = w':=by
 have b1 : (0 : Int) <= 16 * (k : Int):=by omega
 have b2 : 16 * (k : Int) <= 16 * (k : Int) + 16:=by omega
 have b3 : 16 * (k : Int) + 16 <= (s.size : Int):=by omega
 have hsl : ∀wx : World,(Instr.slice 9 (.string s) (some (.int .i64 (16 * (k : Int)))) (some (.int .i64 (16 * (k : Int) + 16))) none).run Tryz.prog wx = .ok (.string (lz s k)) wx:=fun wx=>by
  have:=run_slice_string (P:=Tryz.prog) wx 9 s .i64 .i64 (16 * (k : Int)) (16 * (k : Int) + 16) Tryz.underlying9 b1 b2 b3
  rw [this,BU,show (16 * (k : Int)).toNat = 16 * k from by omega,show (16 * (k : Int) + 16).toNat = 16 * k + 16 from by omega]
 have hk2 : (k : Int) <= 1000000:=by omega
 clear b1 b2 b3 hk
 go_enter Tryz.func143,Tryz.ntmps143
 go_wp2_with fail
 go_ret
 exact ⟨rfl,rfl⟩
theorem NL (f : Int) (w : World) : Calls Tryz.prog 49 #[.nilIface,.int .i64 f] w fun e w'=>e = .returned (.bool (f == 0)) /\ w = w':=by
 go_enter Tryz.func49,Tryz.ntmps49
 go_wp2
 go_ret
 exact ⟨rfl,rfl⟩
theorem Q8 (n f : Int) (w : World) : Calls Tryz.prog 49 #[.iface 128 (.int .i64 n),.int .i64 f] w fun e w'=>e = .returned (.bool (decide (0 < f) && n == f)) /\ w = w':=by
 have ha:=Mi n
 by_cases hf : 0 < f
 ·go_enter Tryz.func49,Tryz.ntmps49
  go_wp2
  all_goals go_ret
  all_goals exact ⟨zK (by rw [zg hf]; simp),rfl⟩
 ·go_enter Tryz.func49,Tryz.ntmps49
  go_wp2
  all_goals go_ret
  all_goals exact ⟨zK (by rw [zf (show ¬0 < f by omega)]; rfl),rfl⟩
theorem JQ (n f : Int) (w : World) (hn : 0 <= n) : Calls Tryz.prog 49 #[errV n,.int .i64 f] w fun e w'=>e = .returned (.bool (decide (n = f))) /\ w = w':=by
 by_cases h : n = 0
 ·subst h
  exact (NL f w).mono fun e w' ⟨he,hw⟩=>⟨by rw [he]; exact zK (by rw [Bool.eq_iff_iff]; simp; omega),hw⟩
 ·rw [lu (by omega)]
  exact (Q8 n f w).mono fun e w' ⟨he,hw⟩=>⟨by rw [he]; exact zK (by rw [Bool.eq_iff_iff]; simp; omega),hw⟩
theorem QH (ao : Option Addr) (g off cap : Nat) (l : List ByteArray) (s : ByteArray) (w : World) (hlen : l.length <= 1000000) (hao : 0 < l.length -> ao = some ⟨g,off,none⟩) (hat : ∀i,i < l.length -> w.cell? ⟨g,off + i,none⟩ = some (.string (l.getD i ByteArray.empty))) (hs : s∈l) :
  Calls Tryz.prog 144 #[.slice ao l.length cap,.string s] w fun e w'=>e = .returned (.bool true) /\ w = w':=by
 have HAT:=zh hat
 have HAO:=zh hao
 clear hat hao
 go_enter Tryz.func144,Tryz.ntmps144
 go_wp2_with fail
 go_loop [5] (fun i=>∃q : Nat,q <= l.length /\ i = .int .i64 q /\ s∉l.take q) (fun i=>l.length - (intOf i).toNat)
 case atStart=>exact ⟨0,Nat.zero_le _,rfl,by simp⟩
 case round=>
  obtain ⟨q,hq,rfl,hno⟩:=hrel
  have HNO:=zh hno
  clear hno
  by_cases hlt : q < l.length
  ·obtain rfl:=HAO.out (by omega)
   have c1:=HAT.out q hlt
   have hto:=zD ByteArray.empty hlt
   have HT:=zh hto
   clear hto
   generalize l.getD q ByteArray.empty = y at *
   by_cases hy : y = s
   ·subst hy
    go_wp2_with fail
    go_ret
    exact ⟨rfl,rfl⟩
   ·have t0 : (y.toList == s.toList) = false:=by
     rw [zb]
     exact fun h=>hy (GT h)
    have HY:=zh hy
    clear hy
    go_wp2_with fail
    go_round
    case rel=>exact ⟨q + 1,by omega,by go_num,by
     rw [HT.out]
     intro h
     rcases List.mem_append.1 h with h | h
     ·exact HNO.out h
     ·exact HY.out (List.mem_singleton.1 h).symm⟩
    case measure=>simp [intOf]; omega
  ·have hq' : q = l.length:=by omega
   exact absurd (by rw [hq',List.take_length]; exact hs) HNO.out
theorem QS {gb : Nat} {vn vc : Value} {cn rn cc rc : Nat -> Value} {g : lK} {R : List SL.HP} {w : World} {i : Nat} (h : i < g.now.length) (hl : (lsAt g.now i).length <= 1000000) (s : ByteArray) (hs : s∈lsAt g.now i) (H : own w (gP gb vn vc cn rn cc rc g++R)) :
  Calls Tryz.prog 144 #[rn i,.string s] w fun e w'=>e = .returned (.bool true) /\ w = w':=by
 obtain ⟨ao,b,off,cap,hv,-,-,h3,h4,-⟩:=AT (3 + i) H (GB h)
 rw [hv]
 exact QH ao b off cap (lsAt g.now i) s w hl h3 (fun j hj=>h4 j _ (Cy hj)) hs
end Go.Proofs.YtbpblokfiajpjabGreatDoor
namespace Go.Proofs.YtbpblokfiajpjabGreatDoor
open Go.RowKit Go.SL Go.Crc
attribute [local go_sem ↓] Go.wp_at_zero Go.wp_at_succ
def LsOk (g : lK) (B : Nat) : Prop:=∀i,i < g.now.length -> 0 < (lsAt g.now i).length /\ (lsAt g.now i).length <= B /\ 0 < (lsAt g.cr i).length /\ (lsAt g.cr i).length <= B
theorem Cn {g : lK} {fr : Nat} {s : ByteArray} {well : Bool} {B k : Nat} (h1 : fr + k <= g.now.length) (h2 : fr + k <= g.cr.length) (hB : LsOk g B) : LsOk (yf g fr s well k) (B + 1):=by
 intro i hi
 rw [(BJ g fr s well k).1] at hi
 obtain ⟨a,b⟩:=Gm (well:=well) (s:=s) h1 h2 i
 obtain ⟨c,d,e,f⟩:=hB i hi
 rw [a,b]
 refine ⟨?_,?_,?_,?_⟩
 ·split
  ·split
   ·simp
   ·simp
  ·exact c
 ·split
  ·split
   ·simp
   ·simp; omega
  ·omega
 ·split
  ·simp
  ·exact e
 ·split
  ·simp; omega
  ·omega
theorem Jh (gb : Nat) (vn vc : Value) (nv0 cv0 : Nat -> Value) (g : lK) (fr : Nat) (s : ByteArray) (well : Bool) (hs : s.size % 16 = 0) (hs2 : s.size <= 100000) (hr : fr + s.size / 16 <= g.now.length) (hc : g.cr.length = g.now.length) (hn : g.now.length <= 1000) {B : Nat} (hB : LsOk g B) (hB2 : B <= 100000) (R : List SL.HP) (w : World) (H : own w (gL gb vn vc nv0 cv0 g++R)) :
  Calls Tryz.prog 140 #[.pointer (some ⟨gb,0,none⟩),.int .i64 fr,.string s,.bool well] w fun e w'=>∃nv cv,e = .returned (.tuple #[]) /\ Ext w w' /\ own w' (gL gb vn vc nv cv (zx g fr s well)++R):=by
 have HSEC:=zh (fun k (hk : k < s.size / 16) (w : World)=>GP s k (by omega) (by omega) w)
 have HB:=zh (fun k (hk : k <= s.size / 16)=>Cn (well:=well) (s:=s) (fr:=fr) (k:=k) (g:=g) (by omega) (by omega) hB)
 have HL:=zh (fun k=>BJ g fr s well k)
 have HC:=zh hc
 have HZ:=zh (show s.size = 16 * (s.size / 16) by omega)
 unfold zx
 have hz16 : (s.size : Int) = 16 * ((s.size / 16 : Nat) : Int):=by omega
 have hn16 : s.size / 16 <= 6250:=by omega
 clear hB hs hs2 hc
 generalize s.size / 16 = n at *
 go_enter Tryz.func140,Tryz.ntmps140
 go_wp2_with fail
 go_loopw [8] (fun kv wr=>∃(k : Nat) (nv cv : Nat -> Value),k <= n /\ kv = .int .i64 k /\ Ext w wr /\ own wr (gL gb vn vc nv cv (yf g fr s well k)++R)) (fun kv _=>n - (intOf kv).toNat)
 case atStart=>exact ⟨0,nv0,cv0,by omega,rfl,zR w,H⟩
 case round=>
  clear H
  obtain ⟨k,nv,cv,hk,rfl,hxr,hown⟩:=hrel
  by_cases hlt : k < n
  ·have hsec:=HSEC.out k hlt wr
   obtain ⟨l1,l2⟩:=HL.out k
   have hc:=HC.out
   have hln:=HB.out k hk
   have hsz : (s.size : Int) = 16 * (n : Int):=hz16
   generalize hgk : yf g fr s well k = gk at *
   have HNX : Hid (yf g fr s well (k + 1) = { now:=gk.now.set (fr + k) (if well then [lz s k] else lsAt gk.now (fr + k)++[lz s k]),cr:=gk.cr.set (fr + k) (lsAt gk.cr (fr + k)++[lz s k]) }):=zh (by rw [yf,hgk])
   clear hgk
   generalize lz s k = t at *
   obtain ⟨i,hi⟩ : ∃i : Nat,i = fr + k:=⟨_,rfl⟩
   rw [<- hi] at HNX
   have hi1 : i < gk.now.length:=by omega
   have hi2 : i < gk.cr.length:=by omega
   have p1 : (0 : Int) <= (k : Int):=by omega
   have p2 : (k : Int) < 6250:=by omega
   have p5 : 16 * (k : Int) < (s.size : Int):=by omega
   have e1 : (fr : Int) + (k : Int) = (i : Int):=by omega
   have p6 : (0 : Int) <= (i : Int):=by omega
   have p7 : (i : Int) <= 1000:=by omega
   have p8 : (i : Int) < (gk.now.length : Int):=by omega
   have p9 : (i : Int) < (gk.cr.length : Int):=by omega
   have e2 : IntKind.i64.wrap (i : Int) = (i : Int):=zi _ (by omega)
   obtain ⟨ln1,ln2,ln3,ln4⟩:=hln i (by omega)
   clear hi hsz hz16 l1 l2 hc
   go_wp2_with fail
   refine hsec.mono ?_
   rintro e w1 ⟨rfl,rfl⟩
   obtain ⟨a,cap,hv,hcap⟩:=S7 (by omega) hown
   obtain ⟨b,cap2,hv2,hcap2⟩:=SR (by omega) hown
   have HNX2:=zh (show ∀nv' cv' wz,own wz (gL gb vn vc nv' cv' { now:=gk.now.set i (if well then [t] else lsAt gk.now i++[t]),cr:=gk.cr.set i (lsAt gk.cr i++[t]) }++R) -> own wz (gL gb vn vc nv' cv' (yf g fr s well (k + 1))++R) from fun _ _ _ h=>by rw [HNX.out]; exact h)
   clear HNX
   cases well
   case' false=>
    rw [zq (by decide)] at HNX2
    obtain ⟨c0,-,-,-⟩:=At hown
    rw [hv] at c0
    have hat:=GB (gb:=gb) (vn:=vn) (vc:=vc) (cn:=nv) (rn:=nv) (cc:=cv) (rc:=cv) (g:=gk) (R:=R) (i:=i) hi1
    obtain ⟨ao9,g9,o9,cp9,hv9,q1,q2,q3,-,-⟩:=AT _ hown hat
    obtain rfl:=q3 ln1
    have s2:=(zG hv rfl hi1 hown).1
    rw [hv9] at s2 hat
    have H5:=zh (lj (lf hown (.cells #[.string t] 9)))
    have HX5:=zh (hxr.alloc (.cells #[.string t] 9)).drew
    have S2:=zh s2
    have HATK:=zh (show (pts wr.heap.size (.cells #[.string t] 9 (0,0))::(gL gb vn vc nv cv gk++R))[3 + i + 1]? = _ from hat)
    have HV9:=zh hv9
    have HV:=zh hv
    have hml : (lsAt gk.now i).length + 1 <= maxLen:=by simp only [maxLen]; omega
    clear s2 hat hv9 hown hxr q1 q2 q3
    go_upto_region 6 with (fail)
    refine wp_region_held_drew (S:=fun w'=>w'.cell? ⟨gb,0,none⟩ = some (.slice (some ⟨a,0,none⟩) gk.now.length cap)) (by kernel_rfl) c0 (fun hHeld=>?_)
    refine tk 0 ?_
    refine tk 1 ?_
    refine tk 2 ?_
    refine tk 3 ?_
    refine tk 4 ?_
    refine tk 5 ?_
    refine tk 6 ?_
    refine tk 7 ?_
    refine tk 8 ?_
    refine tk 9 ?_
    refine tk 10 ?_
    refine tk 11 ?_
    refine tk 12 ?_
    refine tk 13 ?_
    refine tk 14 ?_
    try simp only [Act.put,tA,tB,tC,tD,tE,tF]
    refine tk 16 ?_
    try simp only [Act.put,tA,tB,tC,tD,tE,tF]
    have HS5 : ∀(wx : World) {P : SL.HP} {cn' rn' : Nat -> Value} {g' : lK},own wx (P::(gP gb vn vc cn' rn' cv cv g'++R)) -> wx.cell? ⟨gb,0,none⟩ = some (.slice (some ⟨a,0,none⟩) gk.now.length cap):=fun wx _ _ _ _ h=>((la 1 h rfl).1 0).trans (congrArg some HV.out)
    have HS:=zh (fun wx P cn' rn' g'=>HS5 wx (P:=P) (cn':=cn') (rn':=rn') (g':=g'))
    clear HS5 c0
    refine wpAnyH_ready (rs:=[15,17]) (by kernel_rfl) (by simp) ?_
    refine AllReadyH.cons rfl (fun K hK=>?_) (AllReadyH.cons rfl (fun K hK=>?_) AllReadyH.nil)
    have s2:=S2.out
    go_simp
    refine hK.out _ _ hHeld (fun _=>?_)
    clear hK K s2
    try simp only [Act.put,tA,tB,tC,tD,tE,tF]
    refine rd 17 rfl fun K hK=>?_
    go_simp
    refine hK.out _ _ (HS.out _ _ _ _ _ H5.out) (fun _=>?_)
    clear hK K
    try simp only [Act.put,tA,tB,tC,tD,tE,tF]
    rotate_left
    go_simp
    refine hK.out _ _ (HS.out _ _ _ _ _ H5.out) (fun _=>?_)
    clear hK K
    try simp only [Act.put,tA,tB,tC,tD,tE,tF]
    refine rd 15 rfl fun K hK=>?_
    have s2 : (wr.alloc (.cells #[.string t] 9)).drew.cell? ⟨a,i,none⟩ = some (.slice (some ⟨g9,o9,none⟩) (lsAt gk.now i).length cp9):=by rw [(zG HV.out rfl hi1 (lg H5.out)).1,HV9.out]
    go_simp
    refine hK.out _ _ (HS.out _ _ _ _ _ H5.out) (fun _=>?_)
    clear hK K s2
    try simp only [Act.put,tA,tB,tC,tD,tE,tF]
    rotate_left
    all_goals
     refine rd 18 rfl fun K hK=>?_
     have h5:=H5.out
     refine Cq (by rfl) _ _ 206 (by rfl) (3 + i + 1) 9 Tryz.underlying206 BE rfl (by decide) (by rfl) h5 HATK.out ⟨wr.heap.size,0,none⟩ 1 1 [.string t] (by rfl) rfl (fun j u hu=>(yJ wr [.string t] 9) _ rfl j u hu) (Iw _) hml (by show ((lsAt gk.now i).length + 1) * 16 <= 140737488355328; omega) ?_
     intro g6 o6 cp6 w6 z1 z2 h6 hx6
     replace hx6:=HX5.out.trans hx6
     replace h6 : own w6 (pts wr.heap.size (.cells #[.string t] 9 (0,0))::(gP gb vn vc nv (upd nv i (.slice (some ⟨g6,o6,none⟩) ((lsAt gk.now i).length + 1) cp6)) cv cv { gk with now:=gk.now.set i (lsAt gk.now i++[t]) }++R)):=by
      have e:=Gu (gb:=gb) (vn:=vn) (vc:=vc) (cn:=nv) (rn:=nv) (cc:=cv) (rc:=cv) (g:=gk) (R:=R) hi1 (.slice (some ⟨g6,o6,none⟩) ((lsAt gk.now i).length + 1) cp6) (lsAt gk.now i++[t])
      rw [show (lsAt gk.now i++[t]).length = (lsAt gk.now i).length + 1 by simp,show strCells (lsAt gk.now i++[t]) = strCells (lsAt gk.now i)++[.string t] by simp [strCells]] at e
      exact (congrArg (fun l=>own w6 (pts wr.heap.size (.cells #[.string t] 9 (0,0))::l)) e).mp h6
     refine hK.out _ _ (HS.out _ _ _ _ _ h6) (fun _=>?_)
     clear hK K h5
     try simp only [Act.put,tA,tB,tC,tD,tE,tF]
     refine tk 19 ?_
     try simp only [Act.put,tA,tB,tC,tD,tE,tF]
     refine rd 20 rfl fun K hK=>?_
     obtain ⟨s4,f4⟩:=zG (g:={ gk with now:=gk.now.set i (lsAt gk.now i++[t]) }) HV.out (List.length_set ..) hi1 (lg h6)
     have h3:=CY (g:={ gk with now:=gk.now.set i (lsAt gk.now i++[t]) }) HV.out (List.length_set ..) hi1 (.slice (some ⟨g6,o6,none⟩) ((lsAt gk.now i).length + 1) cp6) (lg h6)
     have hx3:=hx6.setCell ⟨a,i,none⟩ (.slice (some ⟨g6,o6,none⟩) ((lsAt gk.now i).length + 1) cp6)
     go_simp
     refine hK.out _ _ (((la 0 h3 rfl).1 0).trans (congrArg some HV.out)) (fun _=>?_)
     clear hK K s4 f4 h6 hx6
     try simp only [Act.put,tA,tB,tC,tD,tE,tF]
     refine wpAnyH_done (by kernel_rfl) ?_ _
     generalize w6.setCell ⟨a,i,none⟩ (.slice (some ⟨g6,o6,none⟩) ((lsAt gk.now i).length + 1) cp6) = w7 at *
     go_upto_region 7 with (fail)
     generalize upd nv i (.slice (some ⟨g6,o6,none⟩) ((lsAt gk.now i).length + 1) cp6) = nv7 at *
     replace h3 : own w7 (gL gb vn vc nv7 cv { gk with now:=gk.now.set i (lsAt gk.now i++[t]) }++R):=h3
     generalize gk.now.set i (lsAt gk.now i++[t]) = now7 at *
     clear H5 HX5 S2 HATK HV9 HV hml HS hHeld
   case' true=>
    rw [zt rfl] at HNX2
    obtain ⟨c0,-,-,-⟩:=At hown
    rw [hv] at c0
    have h2:=DM t hown
    have hx2:=hxr.alloc (.cells #[.string t] 9)
    obtain ⟨c1,f1⟩:=zG hv rfl hi1 (lg h2)
    have h3:=CY hv (by dsimp only; rw [List.length_set]) hi1 (.slice (some ⟨wr.heap.size,0,none⟩) 1 1) (Fw hi1 (.slice (some ⟨wr.heap.size,0,none⟩) 1 1) [t] h2)
    have hx3:=hx2.setCell ⟨a,i,none⟩ (.slice (some ⟨wr.heap.size,0,none⟩) 1 1)
    go_upto_region 7 with (fail)
    generalize (wr.alloc (.cells #[.string t] 9)).setCell ⟨a,i,none⟩ (.slice (some ⟨wr.heap.size,0,none⟩) 1 1) = w7 at *
    generalize upd nv i (.slice (some ⟨wr.heap.size,0,none⟩) 1 1) = nv7 at *
    replace h3 : own w7 (gL gb vn vc nv7 cv { gk with now:=gk.now.set i [t] }++R):=h3
    generalize gk.now.set i [t] = now7 at *
    clear h2 hx2 c0 c1 f1 hown hxr
   all_goals
    obtain ⟨-,c0,-,-⟩:=At h3
    rw [hv2] at c0
    have hat:=Qe (gb:=gb) (vn:=vn) (vc:=vc) (cn:=nv7) (rn:=nv7) (cc:=cv) (rc:=cv) (g:={ gk with now:=now7 }) (R:=R) (i:=i) hi2
    obtain ⟨ao9,g9,o9,cp9,hv9,q1,q2,q3,-,-⟩:=AT _ h3 hat
    obtain rfl:=q3 ln3
    have s2:=(Dq (g:={ gk with now:=now7 }) hv2 rfl hi2 h3).1
    rw [hv9] at s2 hat
    have H5:=zh (lj (lf h3 (.cells #[.string t] 9)))
    have HX5:=zh (hx3.alloc (.cells #[.string t] 9)).drew
    have S2:=zh s2
    have HATK:=zh (show (pts w7.heap.size (.cells #[.string t] 9 (0,0))::(gL gb vn vc nv7 cv { gk with now:=now7 }++R))[3 + now7.length + i + 1]? = _ from hat)
    have HV9:=zh hv9
    have HV2:=zh hv2
    have hml : (lsAt gk.cr i).length + 1 <= maxLen:=by simp only [maxLen]; omega
    clear s2 hat hv9 h3 hx3 q1 q2 q3
    refine wp_region_held_drew (S:=fun w'=>w'.cell? ⟨gb,1,none⟩ = some (.slice (some ⟨b,0,none⟩) gk.cr.length cap2)) (by kernel_rfl) c0 (fun hHeld=>?_)
    refine tk 0 ?_
    refine tk 1 ?_
    refine tk 2 ?_
    refine tk 3 ?_
    refine tk 4 ?_
    refine tk 5 ?_
    refine tk 6 ?_
    refine tk 7 ?_
    refine tk 8 ?_
    refine tk 9 ?_
    refine tk 10 ?_
    refine tk 11 ?_
    refine tk 12 ?_
    refine tk 13 ?_
    refine tk 14 ?_
    try simp only [Act.put,tA,tB,tC,tD,tE,tF]
    refine tk 16 ?_
    try simp only [Act.put,tA,tB,tC,tD,tE,tF]
    have HS5 : ∀(wx : World) {P : SL.HP} {cc' rc' : Nat -> Value} {g' : lK},own wx (P::(gP gb vn vc nv7 nv7 cc' rc' g'++R)) -> wx.cell? ⟨gb,1,none⟩ = some (.slice (some ⟨b,0,none⟩) gk.cr.length cap2):=fun wx _ _ _ _ h=>((la 1 h rfl).1 1).trans (congrArg some HV2.out)
    have HS:=zh (fun wx P cc' rc' g'=>HS5 wx (P:=P) (cc':=cc') (rc':=rc') (g':=g'))
    clear HS5
    refine wpAnyH_ready (rs:=[15,17]) (by kernel_rfl) (by simp) ?_
    refine AllReadyH.cons rfl (fun K hK=>?_) (AllReadyH.cons rfl (fun K hK=>?_) AllReadyH.nil)
    have s2:=S2.out
    go_simp
    refine hK.out _ _ hHeld (fun _=>?_)
    clear hK K s2
    try simp only [Act.put,tA,tB,tC,tD,tE,tF]
    refine rd 17 rfl fun K hK=>?_
    go_simp
    refine hK.out _ _ (HS.out _ _ _ _ _ H5.out) (fun _=>?_)
    clear hK K
    try simp only [Act.put,tA,tB,tC,tD,tE,tF]
    rotate_left
    go_simp
    refine hK.out _ _ (HS.out _ _ _ _ _ H5.out) (fun _=>?_)
    clear hK K
    try simp only [Act.put,tA,tB,tC,tD,tE,tF]
    refine rd 15 rfl fun K hK=>?_
    have s2 : (w7.alloc (.cells #[.string t] 9)).drew.cell? ⟨b,i,none⟩ = some (.slice (some ⟨g9,o9,none⟩) (lsAt gk.cr i).length cp9):=by rw [(Dq (g:={ gk with now:=now7 }) HV2.out rfl hi2 (lg H5.out)).1,HV9.out]
    go_simp
    refine hK.out _ _ (HS.out _ _ _ _ _ H5.out) (fun _=>?_)
    clear hK K s2
    try simp only [Act.put,tA,tB,tC,tD,tE,tF]
    rotate_left
    all_goals
     refine rd 18 rfl fun K hK=>?_
     have h5:=H5.out
     refine Cq (by rfl) _ _ 206 (by rfl) (3 + now7.length + i + 1) 9 Tryz.underlying206 BE rfl (by decide) (by rfl) h5 HATK.out ⟨w7.heap.size,0,none⟩ 1 1 [.string t] (by rfl) rfl (fun j u hu=>(yJ w7 [.string t] 9) _ rfl j u hu) (Iw _) hml (by show ((lsAt gk.cr i).length + 1) * 16 <= 140737488355328; omega) ?_
     intro g6 o6 cp6 w6 z1 z2 h6 hx6
     replace hx6:=HX5.out.trans hx6
     replace h6 : own w6 (pts w7.heap.size (.cells #[.string t] 9 (0,0))::(gP gb vn vc nv7 nv7 cv (upd cv i (.slice (some ⟨g6,o6,none⟩) ((lsAt gk.cr i).length + 1) cp6)) { now:=now7,cr:=gk.cr.set i (lsAt gk.cr i++[t]) }++R)):=by
      have e:=I7 (gb:=gb) (vn:=vn) (vc:=vc) (cn:=nv7) (rn:=nv7) (cc:=cv) (rc:=cv) (g:={ gk with now:=now7 }) (R:=R) hi2 (.slice (some ⟨g6,o6,none⟩) ((lsAt gk.cr i).length + 1) cp6) (lsAt gk.cr i++[t])
      rw [show (lsAt gk.cr i++[t]).length = (lsAt gk.cr i).length + 1 by simp,show strCells (lsAt gk.cr i++[t]) = strCells (lsAt gk.cr i)++[.string t] by simp [strCells]] at e
      exact (congrArg (fun l=>own w6 (pts w7.heap.size (.cells #[.string t] 9 (0,0))::l)) e).mp h6
     refine hK.out _ _ (HS.out _ _ _ _ _ h6) (fun _=>?_)
     clear hK K h5
     try simp only [Act.put,tA,tB,tC,tD,tE,tF]
     refine tk 19 ?_
     try simp only [Act.put,tA,tB,tC,tD,tE,tF]
     refine rd 20 rfl fun K hK=>?_
     obtain ⟨s4,f4⟩:=Dq (g:={ now:=now7,cr:=gk.cr.set i (lsAt gk.cr i++[t]) }) HV2.out (List.length_set ..) hi2 (lg h6)
     have h7:=G2 (g:={ now:=now7,cr:=gk.cr.set i (lsAt gk.cr i++[t]) }) HV2.out (List.length_set ..) hi2 (.slice (some ⟨g6,o6,none⟩) ((lsAt gk.cr i).length + 1) cp6) (lg h6)
     have hx7:=hx6.setCell ⟨b,i,none⟩ (.slice (some ⟨g6,o6,none⟩) ((lsAt gk.cr i).length + 1) cp6)
     go_simp
     refine hK.out _ _ (((la 0 h7 rfl).1 1).trans (congrArg some HV2.out)) (fun _=>?_)
     clear hK K s4 f4 h6 hx6
     try simp only [Act.put,tA,tB,tC,tD,tE,tF]
     refine wpAnyH_done (by kernel_rfl) ?_ _
     generalize w6.setCell ⟨b,i,none⟩ (.slice (some ⟨g6,o6,none⟩) ((lsAt gk.cr i).length + 1) cp6) = w8 at *
     go_wp2_with fail
     go_roundw
     case rel=>exact ⟨k + 1,nv7,_,by omega,by go_num,hx7,HNX2.out _ _ _ h7⟩
     case measure=>simp [intOf]; omega
  ·obtain rfl : k = n:=by omega
   go_wp2_with fail
   go_end0
   exact ⟨nv,cv,rfl,hxr,hown⟩
def yK (f : Nat -> List ByteArray) (l : List (List ByteArray)) : Nat -> List (List ByteArray)
 | 0=>l
 | q + 1=>(yK f l q).set q (f q)
theorem BX (f : Nat -> List ByteArray) (l : List (List ByteArray)) : ∀q,(yK f l q).length = l.length:=by
 intro q
 induction q with
 | zero=>rfl
 | succ q ih=>rw [yK,List.length_set]; exact ih
theorem KJ {f : Nat -> List ByteArray} {l : List (List ByteArray)} : ∀{q : Nat},q <= l.length -> ∀i,lsAt (yK f l q) i = if i < q then f i else lsAt l i:=by
 intro q
 induction q with
 | zero=>intro _ i; rw [zq (by omega)]; rfl
 | succ q ih=>
  intro h i
  rw [yK,DN (by rw [BX]; omega),ih (by omega)]
  by_cases e : i = q
  ·subst e; rw [zt rfl,zt (by omega)]
  ·rw [zq e]
   by_cases h2 : i < q
   ·rw [zt h2,zt (by omega)]
   ·rw [zq h2,zq (by omega)]
theorem Nw {l m : List (List ByteArray)} (hl : l.length = m.length) (h : ∀i,i < l.length -> lsAt l i = lsAt m i) : l = m:=by
 apply List.ext_getElem hl
 intro i h1 h2
 have:=h i h1
 unfold lsAt at this
 rw [List.getD_eq_getElem?_getD,List.getD_eq_getElem?_getD,List.getElem?_eq_getElem h1,List.getElem?_eq_getElem h2] at this
 exact this
theorem IV {f : Nat -> List ByteArray} {l m : List (List ByteArray)} (hl : m.length = l.length) (h : ∀i,i < l.length -> f i = lsAt m i) : yK f l l.length = m:=by
 refine Nw (by rw [BX,hl]) fun i hi=>?_
 rw [BX] at hi
 rw [KJ (Nat.le_refl _),zt hi,h i hi]
theorem F7 (gb : Nat) (vn vc : Value) (nv0 cv0 : Nat -> Value) (g : lK) (s : ByteArray) (hs : Qb g.now s) (hn : g.now.length <= 1000) {B : Nat} (hB : LsOk g B) (hB2 : B <= 100000) (R : List SL.HP) (w : World) (H : own w (gL gb vn vc nv0 cv0 g++R)) :
  Calls Tryz.prog 44 #[.pointer (some ⟨gb,0,none⟩),.string s] w fun e w'=>∃nv,e = .returned (.bool true) /\ Ext w w' /\ own w' (gL gb vn vc nv cv0 (sawM g s)++R):=by
 obtain ⟨hs1,hs2⟩:=hs
 have HSEC:=zh (fun k (hk : k < g.now.length) (w : World)=>GP s k (by omega) (by omega) w)
 have HL:=zh (fun k=>BX (fun i=>[lz s i]) g.now k)
 have HAT:=zh (fun k (hk : k <= g.now.length) i=>KJ (f:=fun i=>[lz s i]) hk i)
 have HB:=zh hB
 have HS2:=zh hs2
 have HE:=zh (show sawM g s = { g with now:=yK (fun i=>[lz s i]) g.now g.now.length } by
  unfold sawM
  rw [IV (m:=(List.range g.now.length).map fun i=>[lz s i]) (by simp)]
  intro i hi
  unfold lsAt
  rw [List.getD_eq_getElem?_getD,List.getElem?_map,List.getElem?_range hi]
  rfl)
 have hz16 : (s.size : Int) = 16 * (g.now.length : Int):=by omega
 obtain ⟨ao0,a0,cap0,hv0,-,-,h30,-,-,-,-⟩:=ll 1 H rfl
 have hc0:=(At H).1
 clear hB hs1 hs2
 generalize hgn : g.now.length = n at *
 have HGN:=zh hgn
 clear hgn
 rw [hv0] at hc0
 go_enter Tryz.func44,Tryz.ntmps44
 go_wp2_with fail
 go_loopw [5] (fun kv wr=>∃(k : Nat) (nv : Nat -> Value),k <= n /\ kv = .int .i64 k /\ Ext w wr /\ own wr (gL gb vn vc nv cv0 { g with now:=yK (fun i=>[lz s i]) g.now k }++R)) (fun kv _=>n - (intOf kv).toNat)
 case atStart=>exact ⟨0,nv0,by omega,rfl,zR w,H⟩
 case round=>
  clear H hc0
  obtain ⟨k,nv,hk,rfl,hxr,hown⟩:=hrel
  obtain ⟨c0,-,-,-⟩:=At hown
  rw [hv0] at c0
  by_cases hlt : k < n
  ·have hsec:=HSEC.out k hlt wr
   have hlen:=HL.out k
   have hki : k < (yK (fun i=>[lz s i]) g.now k).length:=by omega
   obtain rfl:=h30 (by omega)
   have e0 : lsAt (yK (fun i=>[lz s i]) g.now k) k = lsAt g.now k:=by rw [HAT.out k hk k,zq (by omega)]
   have HHAS:=zh (QS (gb:=gb) (vn:=vn) (vc:=vc) (cn:=nv) (rn:=nv) (cc:=cv0) (rc:=cv0) (g:={ g with now:=yK (fun i=>[lz s i]) g.now k }) (R:=R) (w:=wr) (i:=k) hki (by show (lsAt (yK _ _ _) k).length <= _; rw [e0]; have:=(HB.out k (by rw [HGN.out]; exact hlt)).2.1; omega) (lz s k) (by show _∈lsAt (yK _ _ _) k; rw [e0]; exact HS2.out k hlt) hown)
   have HNX : Hid (yK (fun i=>[lz s i]) g.now (k + 1) = (yK (fun i=>[lz s i]) g.now k).set k [lz s k]):=zh rfl
   have HLL:=zh hlen
   clear hlen e0
   generalize yK (fun i=>[lz s i]) g.now k = nk at *
   generalize lz s k = t at *
   have s2:=(zG (g:={ g with now:=nk }) hv0 HLL.out hlt hown).1
   have p1 : (0 : Int) <= (k : Int):=by omega
   have p3 : (k : Int) < (n : Int):=by omega
   have h2:=DM t hown
   have hx2:=hxr.alloc (.cells #[.string t] 9)
   obtain ⟨c1,f1⟩:=zG (g:={ g with now:=nk }) hv0 HLL.out hlt (lg h2)
   have h3:=CY (g:={ g with now:=nk.set k [t] }) hv0 (by dsimp only; rw [List.length_set]; exact HLL.out) hlt (.slice (some ⟨wr.heap.size,0,none⟩) 1 1) (Fw hki (.slice (some ⟨wr.heap.size,0,none⟩) 1 1) [t] h2)
   have hx3:=hx2.setCell ⟨a0,k,none⟩ (.slice (some ⟨wr.heap.size,0,none⟩) 1 1)
   clear hown hxr h2 hx2 hki
   go_wp2_with fail
   refine hsec.mono ?_
   rintro e w1 ⟨rfl,rfl⟩
   go_wp2_with fail
   refine HHAS.out.mono ?_
   rintro e w1 ⟨rfl,rfl⟩
   go_wp2_with fail
   go_roundw
   case rel=>exact ⟨k + 1,_,by omega,by go_num,hx3,by rw [HNX.out]; exact h3⟩
   case measure=>simp [intOf]; omega
  ·obtain rfl : k = n:=by omega
   go_wp2_with fail
   go_ret
   exact ⟨nv,rfl,hxr,by rw [HE.out]; exact hown⟩
theorem Kb {w : World} {L : List SL.HP} {v : Value} {n : Nat} {xs : List Value} (H : own w (row 9 1 v n xs::L)) : own w (rowo 9 1 v n xs::L):=GL 0 H rfl
theorem Ls (gb : Nat) (vn vc : Value) (nv cv0 : Nat -> Value) (g : lK) (hc : g.cr.length = g.now.length) (hn : g.now.length <= 1000) {B : Nat} (hB : LsOk g B) (hB2 : B <= 100000) (R : List SL.HP) (w : World) (H : own w (gL gb vn vc nv cv0 g++R)) :
  Calls Tryz.prog 141 #[.pointer (some ⟨gb,0,none⟩)] w fun e w'=>∃cv,e = .returned (.tuple #[]) /\ Ext w w' /\ own w' (gL gb vn vc nv cv (AV g)++R):=by
 have HL:=zh (fun k=>BX (lsAt g.now) g.cr k)
 have HB:=zh hB
 have HE:=zh (show AV g = { g with cr:=yK (lsAt g.now) g.cr g.now.length } by
  unfold AV
  rw [<- hc,IV (m:=g.now) hc.symm fun i _=>rfl])
 obtain ⟨ao0,a0,cap0,hv0,-,-,h30,-,-,-,-⟩:=ll 1 H rfl
 obtain ⟨ao1,a1,cap1,hv1,-,-,h31,-,-,-,-⟩:=ll 2 H rfl
 clear hB
 rw [hc] at hv1 h31 HL
 generalize hgn : g.now.length = n at *
 have HGN:=zh hgn
 have HC:=zh hc
 clear hgn hc
 go_enter Tryz.func141,Tryz.ntmps141
 go_wp2_with fail
 go_loopw [2] (fun kv wr=>∃(k : Nat) (cv : Nat -> Value),k <= n /\ kv = .int .i64 k /\ Ext w wr /\ own wr (gL gb vn vc nv cv { g with cr:=yK (lsAt g.now) g.cr k }++R)) (fun kv _=>n - (intOf kv).toNat)
 case atStart=>exact ⟨0,cv0,by omega,rfl,zR w,H⟩
 case round=>
  clear H
  obtain ⟨k,cv,hk,rfl,hxr,hown⟩:=hrel
  obtain ⟨c0,d0,-,-⟩:=At hown
  rw [hv0] at c0
  rw [hv1] at d0
  by_cases hlt : k < n
  ·have hlen:=HL.out k
   obtain rfl:=h30 (by omega)
   obtain rfl:=h31 (by omega)
   obtain ⟨ln1,ln2,-,-⟩:=HB.out k (by rw [HGN.out]; exact hlt)
   have HNX : Hid (yK (lsAt g.now) g.cr (k + 1) = (yK (lsAt g.now) g.cr k).set k (lsAt g.now k)):=zh rfl
   have HLL:=zh hlen
   clear hlen
   generalize hck : yK (lsAt g.now) g.cr k = ck at *
   clear hck
   have hk2 : k < ck.length:=by rw [HLL.out]; exact hlt
   have s2:=(zG (g:={ g with cr:=ck }) hv0 HGN.out hlt hown).1
   obtain ⟨ao9,g9,o9,cp9,hv9,q1,q2,q3,q4,-⟩:=AT _ hown (GB (g:={ g with cr:=ck }) (i:=k) (by rw [HGN.out]; exact hlt))
   obtain rfl:=q3 ln1
   rw [hv9] at s2
   have p1 : (0 : Int) <= (k : Int):=by omega
   have p3 : (k : Int) < (n : Int):=by omega
   have e2 : IntKind.i64.wrap (k : Int) = (k : Int):=zi _ (by omega)
   have H5:=zh (lX 9 1 (lj hown))
   have HX5:=zh hxr.drew
   have HV0:=zh hv0
   have HV1:=zh hv1
   have HV9:=zh hv9
   have HQ4:=zh q4
   have hml : 0 + (lsAt g.now k).length <= maxLen:=by simp only [maxLen]; omega
   have hby : (0 + (lsAt g.now k).length) * 16 <= 140737488355328:=by omega
   have HS:=zh (fun (wx : World) (cc' rc' : Nat -> Value) (g' : List (List ByteArray)) (h : own wx (gP gb vn vc nv nv cc' rc' { g with cr:=g' }++R))=>show wx.cell? ⟨gb,0,none⟩ = some (.slice (some ⟨a0,0,none⟩) n cap0) /\ wx.cell? ⟨gb,1,none⟩ = some (.slice (some ⟨a1,0,none⟩) n cap1) /\ wx.cell? ⟨a0,k,none⟩ = some (.slice (some ⟨g9,o9,none⟩) (lsAt g.now k).length cp9) from
    ⟨((At h).1).trans (congrArg some HV0.out),((At h).2.1).trans (congrArg some HV1.out),((zG (g:={ g with cr:=g' }) HV0.out HGN.out hlt h).1).trans (congrArg some HV9.out)⟩)
   clear hv0 hv1 hv9 q1 q2 q3 q4 hown hxr
   go_upto_region 3 with (fail)
   refine wp_region_held_drew (S:=fun w'=>w'.cell? ⟨gb,0,none⟩ = some (.slice (some ⟨a0,0,none⟩) n cap0) /\ w'.cell? ⟨gb,1,none⟩ = some (.slice (some ⟨a1,0,none⟩) n cap1) /\ w'.cell? ⟨a0,k,none⟩ = some (.slice (some ⟨g9,o9,none⟩) (lsAt g.now k).length cp9)) (by kernel_rfl) ⟨c0,d0,s2⟩ (fun hHeld=>?_)
   refine tk 0 ?_
   refine tk 1 ?_
   refine tk 2 ?_
   refine tk 3 ?_
   refine tk 4 ?_
   refine tk 5 ?_
   refine tk 6 ?_
   refine tk 7 ?_
   refine tk 8 ?_
   refine tk 9 ?_
   refine tk 10 ?_
   refine tk 11 ?_
   try simp only [Act.put,tA,tB,tC,tD,tE,tF]
   clear c0 d0 s2
   refine rd 12 rfl fun K hK=>?_
   have h5:=H5.out
   refine Aj (by rfl) _ _ 206 (by rfl) 0 9 Tryz.underlying206 BE rfl (by decide) (by rfl) h5 rfl (some ⟨g9,o9,none⟩) (lsAt g.now k).length cp9 (strCells (lsAt g.now k)) (by rfl) (by simp [strCells]) (fun ad had j u hu=>by cases had; rw [A0]; exact HQ4.out j u hu) (fun h=>by cases h) (fun u hu=>by simp only [strCells,List.mem_map] at hu; obtain ⟨s,-,rfl⟩:=hu; rfl) hml hby ?_
   intro v6 w6 h6 hx6
   replace hx6:=HX5.out.trans hx6
   obtain ⟨aoz,gz,cpz,hz,-⟩:=ll 0 h6 rfl
   rw [Nat.zero_add] at hz
   subst hz
   replace h6 : own w6 (rowo 9 1 (.slice aoz (lsAt g.now k).length cpz) (lsAt g.now k).length (strCells (lsAt g.now k))::(gP gb vn vc nv nv cv cv { g with cr:=ck }++R)):=by
    rw [Nat.zero_add,List.nil_append] at h6
    exact Kb h6
   have h7:=MU (g:={ g with cr:=ck }) hk2 (.slice aoz (lsAt g.now k).length cpz) (lsAt g.now k) h6
   refine hK.out _ _ (HS.out _ _ _ _ h7) (fun _=>?_)
   clear hK K h5 h6
   try simp only [Act.put,tA,tB,tC,tD,tE,tF]
   refine tk 13 ?_
   try simp only [Act.put,tA,tB,tC,tD,tE,tF]
   refine rd 14 rfl fun K hK=>?_
   obtain ⟨s4,f4⟩:=Dq (g:={ g with cr:=ck.set k (lsAt g.now k) }) HV1.out (by dsimp only; rw [List.length_set]; exact HLL.out) hlt h7
   have h8:=G2 (g:={ g with cr:=ck.set k (lsAt g.now k) }) HV1.out (by dsimp only; rw [List.length_set]; exact HLL.out) hlt (.slice aoz (lsAt g.now k).length cpz) h7
   have hx8:=hx6.setCell ⟨a1,k,none⟩ (.slice aoz (lsAt g.now k).length cpz)
   go_simp
   refine hK.out _ _ (HS.out _ _ _ _ h8) (fun _=>?_)
   clear hK K s4 f4 h7 hx6
   try simp only [Act.put,tA,tB,tC,tD,tE,tF]
   refine wpAnyH_done (by kernel_rfl) ?_ _
   generalize w6.setCell ⟨a1,k,none⟩ (.slice aoz (lsAt g.now k).length cpz) = w8 at *
   go_wp2_with fail
   go_roundw
   case rel=>exact ⟨k + 1,_,by omega,by go_num,hx8,by rw [HNX.out]; exact h8⟩
   case measure=>simp [intOf]; omega
  ·obtain rfl : k = n:=by omega
   go_wp2_with fail
   go_end0
   exact ⟨cv,rfl,hxr,by rw [HE.out]; exact hown⟩
theorem Gi {n : Nat} (vs : Nat -> Value) {l : List (List ByteArray)} (hl : l.length = n) (v : Value) (x : List ByteArray) : oI (n + 1) (upd vs n v) (lsAt (l++[x])) = oI n vs (lsAt l)++[rowo 9 1 v x.length (strCells x)]:=by
 rw [<- Mx]
 unfold oI
 refine List.map_congr_left fun k hk=>?_
 have hk:=List.mem_range.1 hk
 have e : lsAt (l++[x]) k = upd (lsAt l) n x k:=by
  unfold lsAt
  by_cases h : k = n
  ·subst h
   rw [Ao,List.getD_eq_getElem?_getD,List.getElem?_append_right (by omega),hl,Nat.sub_self]
   rfl
  ·rw [zr _ _ h,List.getD_eq_getElem?_getD,List.getElem?_append_left (by omega),List.getD_eq_getElem?_getD]
 rw [e]
theorem Lm {gb : Nat} {vn' vc : Value} {nv cv : Nat -> Value} {g : lK} {R : List SL.HP} {w : World} {s : Value} {x : List ByteArray} {n : Nat} (hn : g.now.length = n)
  (H : own w (rowo 9 1 s x.length (strCells x)::([pts gb (.cells #[vn',vc] 204 (0,0)),row 206 1 vn' (n + 1) (oo n nv++[s]),row 206 1 vc g.cr.length (oo g.cr.length cv)]++(oI n nv (lsAt g.now)++(oI g.cr.length cv (lsAt g.cr)++R))))) :
  own w (gL gb vn' vc (upd nv n s) cv { g with now:=g.now++[x] }++R):=by
 subst hn
 rw [zz]
 dsimp only
 rw [List.length_append,List.length_singleton,Fj,Gi nv rfl]
 have h1:=lD ([pts gb (.cells #[vn',vc] 204 (0,0)),row 206 1 vn' (g.now.length + 1) (oo g.now.length nv++[s]),row 206 1 vc g.cr.length (oo g.cr.length cv)]++oI g.now.length nv (lsAt g.now)) (R:=oI g.cr.length cv (lsAt g.cr)++R) (by simp only [zp]; exact H)
 simp only [zp] at h1 ⊢
 exact h1
theorem Mk {gb : Nat} {vn vc' : Value} {nv cv : Nat -> Value} {g : lK} {R : List SL.HP} {w : World} {s : Value} {x : List ByteArray} {n : Nat} (hn : g.cr.length = n)
  (H : own w (rowo 9 1 s x.length (strCells x)::([pts gb (.cells #[vn,vc'] 204 (0,0)),row 206 1 vn g.now.length (oo g.now.length nv),row 206 1 vc' (n + 1) (oo n cv++[s])]++(oI g.now.length nv (lsAt g.now)++(oI n cv (lsAt g.cr)++R))))) :
  own w (gL gb vn vc' nv (upd cv n s) { g with cr:=g.cr++[x] }++R):=by
 subst hn
 rw [zz]
 dsimp only
 rw [List.length_append,List.length_singleton,Fj,Gi cv rfl]
 have h1:=lD ([pts gb (.cells #[vn,vc'] 204 (0,0)),row 206 1 vn g.now.length (oo g.now.length nv),row 206 1 vc' (g.cr.length + 1) (oo g.cr.length cv++[s])]++(oI g.now.length nv (lsAt g.now)++oI g.cr.length cv (lsAt g.cr))) (R:=R) (by simp only [zp]; exact H)
 simp only [zp] at h1 ⊢
 exact h1
theorem I6 (v : Value) (h : v.oneCell' = true) : ∀u∈[v],u.oneCell' = true:=fun u hu=>by rw [List.mem_singleton.1 hu]; exact h
theorem M7 (n : Nat) (hn : n <= 1000) (R : List SL.HP) (w : World) (H : own w R) :
  Calls Tryz.prog 52 #[.int .i64 n] w fun e w'=>∃gb vn vc nv cv,e = .returned (.pointer (some ⟨gb,0,none⟩)) /\ Ext w w' /\ own w' (gL gb vn vc nv cv (yM n)++R):=by
 have HF:=zh (fun q=>show yM (q + 1) = { now:=(yM q).now++[[zs 16]],cr:=(yM q).cr++[[zs 16]] } by unfold yM; rw [List.replicate_succ'])
 have HL:=zh (fun q=>show (yM q).now.length = q /\ (yM q).cr.length = q from ⟨List.length_replicate,List.length_replicate⟩)
 have h1:=lf (lX 206 1 (lX 206 1 H)) (.cells #[.slice none 0 0,.slice none 0 0] 204)
 have hx1:=(zR w).alloc (.cells #[.slice none 0 0,.slice none 0 0] 204)
 have h2 : own (w.alloc (.cells #[.slice none 0 0,.slice none 0 0] 204)) (gL w.heap.size (.slice none 0 0) (.slice none 0 0) (fun _=>undef) (fun _=>undef) (yM 0)++R):=h1
 clear h1 H
 go_enter Tryz.func52,Tryz.ntmps52
 go_upto_region 2 with (fail)
 generalize w.alloc (.cells #[.slice none 0 0,.slice none 0 0] 204) = w1 at *
 generalize w.heap.size = gb at *
 go_wp2_with fail
 go_loopw [4] (fun kv wr=>∃(k : Nat) (vn vc : Value) (nv cv : Nat -> Value),k <= n /\ kv = .int .i64 k /\ Ext w wr /\ own wr (gL gb vn vc nv cv (yM k)++R)) (fun kv _=>n - (intOf kv).toNat)
 case atStart=>exact ⟨0,_,_,_,_,by omega,rfl,hx1,h2⟩
 case round=>
  clear h2 hx1
  obtain ⟨k,vn,vc,nv,cv,hk,rfl,hxr,hown⟩:=hrel
  by_cases hlt : k < n
  ·have hml : k + 1 <= maxLen:=by simp only [maxLen]; omega
   obtain ⟨ln1,ln2⟩:=HL.out k
   have HNX:=HF.out k
   generalize yM k = gk at *
   have HLN:=zh ln1
   have HLC:=zh ln2
   have HNX:=zh HNX
   have hyy:=lj hown
   rw [zz,ln1,ln2] at hyy
   obtain ⟨c,f⟩:=la 0 hyy rfl
   have c0:=c 0
   clear ln1 ln2 c
   go_upto_region 5 with (fail)
   go_region_law (first | (refine Aj (by rfl) _ _ 202 (by rfl) 3 206 Tryz.underlying202 Im rfl (by decide) (by rfl) h4 rfl (some ⟨w2.heap.size + 1,0,none⟩) 1 1 [.slice (some ⟨w2.heap.size,0,none⟩) 1 1] (by rfl) rfl hnews (fun h=>by cases h) (I6 _ rfl) hml (by omega) ?_; intro v5 w5 h5 hx5; obtain ⟨a5,g5,c5,rfl,s1,s2,s3,-,-,-,-⟩:=ll 3 h5 rfl; obtain ⟨cc,ff⟩:=la 2 h5 rfl) | (go_simp; go_at_call 92; refine (CX 16 (by decide) _ _ hyy).mono ?_; rintro e w2 ⟨rfl,hx2,h2⟩; have d0:=(la 0 h2 rfl).1 0; have h3:=DM (zs 16) h2; have d1:=(la 1 h3 rfl).1 0; have h4:=lf h3 (.cells #[.slice (some ⟨w2.heap.size,0,none⟩) 1 1] 206); have hnews:=yJ (w2.alloc (.cells #[.string (zs 16)] 9)) [.slice (some ⟨w2.heap.size,0,none⟩) 1 1] 206; have es : (w2.alloc (.cells #[.string (zs 16)] 9)).heap.size = w2.heap.size + 1:=World.size_alloc _ _; simp only [es] at h4 hnews; have d2:=(la 2 h4 rfl).1 0))
   all_goals
    obtain rfl:=s3 (by omega)
    have h6:=le 0 (ln 2 (i:=0) (v:=.slice (some ⟨g5,0,none⟩) (k + 1) c5) h5 rfl) rfl
    have hx6:=((((hxr.drew.trans hx2).alloc (.cells #[.string (zs 16)] 9)).alloc (.cells #[.slice (some ⟨w2.heap.size,0,none⟩) 1 1] 206)).trans hx5).setCell ⟨gb,0,none⟩ (.slice (some ⟨g5,0,none⟩) (k + 1) c5)
    have h7 : own (w5.setCell ⟨gb,0,none⟩ (.slice (some ⟨g5,0,none⟩) (k + 1) c5)) (gL gb (.slice (some ⟨g5,0,none⟩) (k + 1) c5) vc (upd nv k (.slice (some ⟨w2.heap.size,0,none⟩) 1 1)) cv { gk with now:=gk.now++[[zs 16]] }++R):=Lm HLN.out (by rw [HLC.out]; exact h6)
    clear hown hyy h2 h3 h4 h5 h6 hx2 hx5 hxr hnews c0 d0 d1 d2 cc ff f es
    generalize w5.setCell ⟨gb,0,none⟩ (.slice (some ⟨g5,0,none⟩) (k + 1) c5) = w6 at *
    generalize upd nv k (.slice (some ⟨w2.heap.size,0,none⟩) 1 1) = nv6 at *
    generalize (Value.slice (some ⟨g5,0,none⟩) (k + 1) c5) = vn6 at *
    have HLN6 : Hid ((gk.now++[[zs 16]]).length = k + 1):=zh (by rw [List.length_append,HLN.out]; rfl)
    generalize gk.now++[[zs 16]] = now6 at *
    have hyy:=lj h7
    rw [zz,show ({ gk with now:=now6 } : lK).now.length = k + 1 from HLN6.out,show ({ gk with now:=now6 } : lK).cr.length = k from HLC.out] at hyy
    obtain ⟨c,f⟩:=la 0 hyy rfl
    have c0:=c 1
    clear c s1 s2 s3
    go_upto_region 6 with (fail)
    go_region_law (first | (refine Aj (by rfl) _ _ 202 (by rfl) 4 206 Tryz.underlying202 Im rfl (by decide) (by rfl) h4 rfl (some ⟨w2.heap.size + 1,0,none⟩) 1 1 [.slice (some ⟨w2.heap.size,0,none⟩) 1 1] (by rfl) rfl hnews (fun h=>by cases h) (I6 _ rfl) hml (by omega) ?_; intro v5 w5 h5 hx5; obtain ⟨a5,g5,c5,rfl,s1,s2,s3,-,-,-,-⟩:=ll 4 h5 rfl; obtain ⟨cc,ff⟩:=la 2 h5 rfl) | (go_simp; go_at_call 92; refine (CX 16 (by decide) _ _ hyy).mono ?_; rintro e w2 ⟨rfl,hx2,h2⟩; have d0:=(la 0 h2 rfl).1 1; have h3:=DM (zs 16) h2; have d1:=(la 1 h3 rfl).1 1; have h4:=lf h3 (.cells #[.slice (some ⟨w2.heap.size,0,none⟩) 1 1] 206); have hnews:=yJ (w2.alloc (.cells #[.string (zs 16)] 9)) [.slice (some ⟨w2.heap.size,0,none⟩) 1 1] 206; have es : (w2.alloc (.cells #[.string (zs 16)] 9)).heap.size = w2.heap.size + 1:=World.size_alloc _ _; simp only [es] at h4 hnews; have d2:=(la 2 h4 rfl).1 1))
    all_goals
     obtain rfl:=s3 (by omega)
     have h8:=le 0 (ln 2 (i:=1) (v:=.slice (some ⟨g5,0,none⟩) (k + 1) c5) h5 rfl) rfl
     have hx8:=((((hx6.drew.trans hx2).alloc (.cells #[.string (zs 16)] 9)).alloc (.cells #[.slice (some ⟨w2.heap.size,0,none⟩) 1 1] 206)).trans hx5).setCell ⟨gb,1,none⟩ (.slice (some ⟨g5,0,none⟩) (k + 1) c5)
     have h9 : own (w5.setCell ⟨gb,1,none⟩ (.slice (some ⟨g5,0,none⟩) (k + 1) c5)) (gL gb vn6 (.slice (some ⟨g5,0,none⟩) (k + 1) c5) nv6 (upd cv k (.slice (some ⟨w2.heap.size,0,none⟩) 1 1)) { now:=now6,cr:=gk.cr++[[zs 16]] }++R):=Mk (g:={ gk with now:=now6 }) HLC.out (by rw [show ({ gk with now:=now6 } : lK).now.length = k + 1 from HLN6.out]; exact h8)
     clear hyy h2 h3 h4 h5 h8 hx2 hx5 hx6 hnews c0 d0 d1 d2 cc ff f es h7
     go_wp2_with fail
     go_roundw
     case rel=>exact ⟨k + 1,_,_,_,_,by omega,by go_num,hx8,by rw [HNX.out]; exact h9⟩
     case measure=>simp [intOf]; omega
  ·obtain rfl : k = n:=by omega
   go_wp2_with fail
   go_ret
   exact ⟨gb,vn,vc,nv,cv,rfl,hxr,hown⟩
end Go.Proofs.YtbpblokfiajpjabGreatDoor
