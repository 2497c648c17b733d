/- Lemmas on which TopAlone and TopCrash stands: the texts YardT5 YardA1 YardA2 YardA3 RowO TopDevP Guest1 Guest2. No conditions. -/
import Derived.Test.YtbpblokfiajpjabGreatDoorPkb4959027cd
set_option linter.all false
set_option maxRecDepth 1000000
set_option maxHeartbeats 32000000
namespace Go.Proofs.YtbpblokfiajpjabGreatDoor
open Go.RowKit Go.SL Go.Crc
structure lO where
  now : List (List ByteArray)
  cr : List (List ByteArray)
def lsAt (l : List (List ByteArray)) (i : Nat) : List ByteArray:=l.getD i []
theorem Gb {l : List (List ByteArray)} {i j : Nat} {x : List ByteArray} (h : i < l.length) : lsAt (l.set i x) j = if j = i then x else lsAt l j:=by
  unfold lsAt
  by_cases e : j = i
  · subst e; rw [zt rfl,List.getD_eq_getElem?_getD,List.getElem?_set_self h]; rfl
  · rw [zq e,List.getD_eq_getElem?_getD,List.getElem?_set_ne (by omega),List.getD_eq_getElem?_getD]
def zd (g : lO) (fr : Nat) (s : ByteArray) (well : Bool) : Nat -> lO
  | 0=>g
  | k + 1=>{ now:=(zd g fr s well k).now.set (fr + k) (if well then [lw s k] else lsAt (zd g fr s well k).now (fr + k)++[lw s k]),
               cr:=(zd g fr s well k).cr.set (fr + k) (lsAt (zd g fr s well k).cr (fr + k)++[lw s k]) }
theorem DC (g : lO) (fr : Nat) (s : ByteArray) (well : Bool) : ∀k,(zd g fr s well k).now.length = g.now.length /\ (zd g fr s well k).cr.length = g.cr.length:=by
  intro k
  induction k with
  | zero=>exact ⟨rfl,rfl⟩
  | succ k ih=>exact ⟨by rw [zd,List.length_set]; exact ih.1,by rw [zd,List.length_set]; exact ih.2⟩
theorem F5 {g : lO} {fr : Nat} {s : ByteArray} {well : Bool} : ∀{k : Nat},fr + k <= g.now.length -> fr + k <= g.cr.length -> ∀i,
    lsAt (zd g fr s well k).now i = (if fr <= i /\ i < fr + k then (if well then [lw s (i - fr)] else lsAt g.now i++[lw s (i - fr)]) else lsAt g.now i) /\
    lsAt (zd g fr s well k).cr i = (if fr <= i /\ i < fr + k then lsAt g.cr i++[lw s (i - fr)] else lsAt g.cr i):=by
  intro k
  induction k with
  | zero=>intro _ _ i; rw [zq (by omega),zq (by omega)]; exact ⟨rfl,rfl⟩
  | succ k ih=>
    intro h1 h2 i
    obtain ⟨l1,l2⟩:=DC g fr s well k
    have hi:=ih (by omega) (by omega) i
    have hk:=ih (by omega) (by omega) (fr + k)
    rw [zq (by omega),zq (by omega)] at hk
    rw [zd]
    dsimp only
    rw [Gb (by omega),Gb (by omega),hk.1,hk.2]
    by_cases e : i = fr + k
    · subst e
      rw [zt rfl,zt rfl,zt (show fr <= fr + k /\ fr + k < fr + (k + 1) by omega),zt (show fr <= fr + k /\ fr + k < fr + (k + 1) by omega),Nat.add_sub_cancel_left]
      exact ⟨rfl,rfl⟩
    · rw [zq e,zq e,hi.1,hi.2]
      by_cases h : fr <= i /\ i < fr + k
      · rw [zt h,zt h,zt (show fr <= i /\ i < fr + (k + 1) by omega),zt (show fr <= i /\ i < fr + (k + 1) by omega)]
        exact ⟨rfl,rfl⟩
      · rw [zq h,zq h,zq (show ¬(fr <= i /\ i < fr + (k + 1)) by omega),zq (show ¬(fr <= i /\ i < fr + (k + 1)) by omega)]
        exact ⟨rfl,rfl⟩
def Al (g : lO) (fr : Nat) (s : ByteArray) (well : Bool) : lO:=zd g fr s well (s.size / 16)
def Cp (g : lO) : lO:={ g with cr:=g.now }
def sawM (g : lO) (s : ByteArray) : lO:={ g with now:=(List.range g.now.length).map fun i=>[lw s i] }
def M1 (l : List (List ByteArray)) (s : ByteArray) : Prop:=s.size = 16 * l.length /\ ∀i,i < l.length -> lw s i∈lsAt l i
def didY (m : le) (x : Act) : le:=
  if (x.kind.toList == [119,114,105,116,101]) = true then (ot m x.A x.S).2
  else if (x.kind.toList == [119,105,112,101]) = true then (ow m x.A x.B).2
  else if (x.kind.toList == [102,108,117,115,104]) = true then AD m
  else if (x.kind.toList == [98,108,97,110,107]) = true then (lZ m x.A (-1)).2
  else if (x.kind.toList == [115,110,97,112]) = true then (AC m x.A).2
  else if (x.kind.toList == [115,116,97,114,116]) = true then (zP m x.A x.B x.C x.D).2
  else if (x.kind.toList == [112,105,118,111,116]) = true then (zV m).2
  else if (x.kind.toList == [99,97,110,99,101,108]) = true then (zc m).2
  else if (x.kind.toList == [112,97,117,115,101]) = true then (zk m (decide (0 < x.A))).2
  else if (x.kind.toList == [116,105,99,107]) = true then (zQ m x.A).2
  else if (x.kind.toList == [102,97,105,108]) = true then (armM m x.A x.B).2
  else (zU m).2
def didG (m : le) (g : lO) (x : Act) : lO:=
  if (x.kind.toList == [119,114,105,116,101]) = true then (if (ot m x.A x.S).1 = 1 then g else Al g x.A.toNat x.S (decide ((ot m x.A x.S).1 = 0)))
  else if (x.kind.toList == [119,105,112,101]) = true then (if (ow m x.A x.B).1 = 1 then g else Al g x.A.toNat (zs (16 * x.B.toNat)) (decide ((ow m x.A x.B).1 = 0)))
  else if (x.kind.toList == [102,108,117,115,104]) = true then Cp g
  else g
theorem Bg {N : Nat} {m : le} (h : YOk N m) (hN : N < 900000) {fr n : Int} (hn : ¬n <= 200) : ow m fr n = (1,m):=by
  unfold ow
  rw [zt]
  intro h0
  obtain ⟨-,w1,w2,w3⟩:=yN h0
  obtain ⟨s,hs⟩:=h.head
  have hc:=zZ (h.sh.sh hN) h.root
  rw [show m.list.getD 0 0 = m.dk.root by rw [hs]; rfl] at w3
  omega
theorem Ly {N : Nat} {m : le} (h : ly N m) (hN : N + 2000 < 900000) (x : Act) (hB : yb x.B) (hS : x.S.size <= 700) : ly (N + 1000) (didY m x):=by
  unfold didY
  by_cases k0 : (x.kind.toList == [119,114,105,116,101]) = true
  · rw [zt k0]
    exact NT h (by omega) _ _ (by omega)
  rw [zq k0]
  by_cases k1 : (x.kind.toList == [119,105,112,101]) = true
  · rw [zt k1]
    by_cases hn : x.B <= 200
    · exact O8 h (by omega) _ _ hn
    · rw [Bg h.ok (by omega) hn]; exact h.mono (by omega)
  rw [zq k1]
  by_cases k2 : (x.kind.toList == [102,108,117,115,104]) = true
  · rw [zt k2]
    exact (NL h).mono (by omega)
  rw [zq k2]
  by_cases k3 : (x.kind.toList == [98,108,97,110,107]) = true
  · rw [zt k3]
    exact (IR h (by omega) _ _).mono (by omega)
  rw [zq k3]
  by_cases k4 : (x.kind.toList == [115,110,97,112]) = true
  · rw [zt k4]
    exact (Sd h (by omega) _).mono (by omega)
  rw [zq k4]
  by_cases k5 : (x.kind.toList == [115,116,97,114,116]) = true
  · rw [zt k5]
    exact (PH h (by omega) _ _ _ _).mono (by omega)
  rw [zq k5]
  by_cases k6 : (x.kind.toList == [112,105,118,111,116]) = true
  · rw [zt k6]
    exact (PF h (by omega)).mono (by omega)
  rw [zq k6]
  by_cases k7 : (x.kind.toList == [99,97,110,99,101,108]) = true
  · rw [zt k7]
    exact (O3 h (by omega)).mono (by omega)
  rw [zq k7]
  by_cases k8 : (x.kind.toList == [112,97,117,115,101]) = true
  · rw [zt k8]
    exact (Oa h _).mono (by omega)
  rw [zq k8]
  by_cases k9 : (x.kind.toList == [116,105,99,107]) = true
  · rw [zt k9]
    exact (PB h _).mono (by omega)
  rw [zq k9]
  by_cases k10 : (x.kind.toList == [102,97,105,108]) = true
  · rw [zt k10]
    exact (TC h _ _ hB).mono (by omega)
  rw [zq k10]
  exact (O9 h (by omega)).mono (by omega)
theorem Ov {N : Nat} {m : le} (l : YLen m) (h : ly N m) (hN : N + 2000 < 900000) (x : Act) (hS : x.S.size <= 700) : YLen (didY m x):=by
  unfold didY
  by_cases k0 : (x.kind.toList == [119,114,105,116,101]) = true
  · rw [zt k0]
    exact l.kd (Q8 h (by omega) _ _ (by omega))
  rw [zq k0]
  by_cases k1 : (x.kind.toList == [119,105,112,101]) = true
  · rw [zt k1]
    by_cases hn : x.B <= 200
    · exact l.kd (T8 h (by omega) _ _ hn)
    · rw [Bg h.ok (by omega) hn]; exact l
  rw [zq k1]
  by_cases k2 : (x.kind.toList == [102,108,117,115,104]) = true
  · rw [zt k2]
    exact l.kd (QI m)
  rw [zq k2]
  by_cases k3 : (x.kind.toList == [98,108,97,110,107]) = true
  · rw [zt k3]
    exact KE l h.ok (by omega) _ _
  rw [zq k3]
  by_cases k4 : (x.kind.toList == [115,110,97,112]) = true
  · rw [zt k4]
    exact Vg l h.ok (by omega) _
  rw [zq k4]
  by_cases k5 : (x.kind.toList == [115,116,97,114,116]) = true
  · rw [zt k5]
    exact l.kd (Ug _ _ _ _ _)
  rw [zq k5]
  by_cases k6 : (x.kind.toList == [112,105,118,111,116]) = true
  · rw [zt k6]
    exact l.kd (T4 _)
  rw [zq k6]
  by_cases k7 : (x.kind.toList == [99,97,110,99,101,108]) = true
  · rw [zt k7]
    exact l.kd (Sz _)
  rw [zq k7]
  by_cases k8 : (x.kind.toList == [112,97,117,115,101]) = true
  · rw [zt k8]
    exact l.kd (SR _ _)
  rw [zq k8]
  by_cases k9 : (x.kind.toList == [116,105,99,107]) = true
  · rw [zt k9]
    exact l.kd (Tq _ _)
  rw [zq k9]
  by_cases k10 : (x.kind.toList == [102,97,105,108]) = true
  · rw [zt k10]
    exact VI l _ _
  rw [zq k10]
  exact l.kd (UA h (by omega))
structure GI (C : Int) (m : le) (g : lO) : Prop where
  t : YT C m
  n : (g.now.length : Int) = 4 * C
  cr : g.cr.length = g.now.length
  now : ∀k,k < g.now.length -> m.see k∈lsAt g.now k
  sub : ∀k,k < g.now.length -> ∀x∈lsAt g.now k,x∈lsAt g.cr k
theorem GI.still {C : Int} {m m' : le} {g : lO} (h : GI C m g) (s : lT C m m') : GI C m' g:=⟨s.t,h.n,h.cr,fun k hk=>by rw [s.see]; exact h.now k hk,h.sub⟩
theorem GI.wrote {C : Int} {m m' : le} {g : lO} (h : GI C m g) {code fr : Int} {s : ByteArray} {new : Nat -> ByteArray} (w : M3 C m m' code fr (s.size / 16) new) (hs : ∀j,j < s.size / 16 -> lw s j = new j) :
    GI C m' (if code = 1 then g else Al g fr.toNat s (decide (code = 0))):=by
  split
  · rename_i h1
    rw [w.no h1]
    exact h
  · rename_i h1
    obtain ⟨r0,r1⟩:=w.rng h1
    obtain ⟨f,rfl⟩:=ze r0
    rw [zn]
    obtain ⟨l1,l2⟩:=DC g f s (decide (code = 0)) (s.size / 16)
    have hn:=h.n
    have hcr:=h.cr
    have hat:=fun i=>F5 (g:=g) (fr:=f) (s:=s) (well:=decide (code = 0)) (k:=s.size / 16) (by omega) (by omega) i
    refine ⟨w.t,by unfold Al; rw [l1]; exact h.n,by unfold Al; rw [l1,l2]; exact h.cr,fun k hk=>?_,fun k hk x hx=>?_⟩
    · unfold Al at hk ⊢
      rw [l1] at hk
      rw [(hat k).1]
      by_cases hr : f <= k /\ k < f + s.size / 16
      · rw [zt hr]
        by_cases h0 : code = 0
        · rw [zg h0,zt rfl,w.did h0 (k - f) k (by omega) (by omega),hs _ (by omega)]
          exact List.mem_singleton.2 rfl
        · rw [zf h0,zq (by simp)]
          rcases w.old k with e | ⟨j,j1,j2,j3⟩
          · rw [e]
            exact List.mem_append_left _ (h.now k hk)
          · rw [j3,<- hs j j1,show k - f = j by omega]
            exact List.mem_append_right _ (List.mem_singleton.2 rfl)
      · rw [zq hr]
        rcases w.old k with e | ⟨j,j1,j2,j3⟩
        · rw [e]; exact h.now k hk
        · omega
    · unfold Al at hk hx ⊢
      rw [l1] at hk
      rw [(hat k).1] at hx
      rw [(hat k).2]
      by_cases hr : f <= k /\ k < f + s.size / 16
      · rw [zt hr] at hx ⊢
        by_cases h0 : code = 0
        · rw [zg h0,zt rfl] at hx
          rw [List.mem_singleton.1 hx]
          exact List.mem_append_right _ (List.mem_singleton.2 rfl)
        · rw [zf h0,zq (by simp)] at hx
          rcases List.mem_append.1 hx with hx | hx
          · exact List.mem_append_left _ (h.sub k hk x hx)
          · exact List.mem_append_right _ hx
      · rw [zq hr] at hx ⊢
        exact h.sub k hk x hx
theorem GI.flushed {C : Int} {m : le} {g : lO} (h : GI C m g) : GI C m (Cp g):=⟨h.t,h.n,rfl,h.now,fun _ _ _ h=>h⟩
theorem Ej {C : Int} {N : Nat} {m : le} (h : YT C m) (ho : YOk N m) (hN : N < 900000) : (getM m.F m.list 0 (4 * C)).2 = 0 /\ ((getM m.F m.list 0 (4 * C)).1.size : Int) = 64 * C /\ ∀k : Nat,(k : Int) < 4 * C -> lw (getM m.F m.list 0 (4 * C)).1 k = m.see k:=by
  obtain ⟨s,hs⟩:=ho.head
  have hne : m.list≠[]:=by rw [hs]; simp
  have hcl:=h.cl0 ho
  have hc:=zZ (ho.sh.sh hN) ho.root
  rw [hcl] at hc
  have hw : lV m.F m.list 0 (4 * C) = 0:=by
    unfold lV
    rw [zq (by rw [hs]; simp),show m.list.getD 0 0 = m.dk.root by rw [hs]; rfl,hcl,zq (by omega)]
  obtain ⟨c,rfl⟩:=ze (show 0 <= C by omega)
  have e4 : (4 * (c : Int)).toNat = 4 * c:=by omega
  unfold getM
  rw [zt hw]
  dsimp only
  rw [e4,Int.toNat_zero]
  have hsz : ∀x∈yP m.F m.list 0 (4 * c),x.size = 16:=fun x hx=>by
    unfold yP at hx
    obtain ⟨j,hj,rfl⟩:=List.mem_map.1 hx
    have:=List.mem_range.1 hj
    rw [Nat.zero_add,Iz h.fl ho.sh hne (by omega)]
    exact VC h.fl ho.sh hne (by omega)
  have hlen : (yP m.F m.list 0 (4 * c)).length = 4 * c:=by simp [yP]
  refine ⟨rfl,by rw [NA hsz,hlen]; omega,fun k hk=>?_⟩
  rw [CB,IY hsz (by rw [hlen]; omega)]
  have : (yP m.F m.list 0 (4 * c)).getD k ByteArray.empty = EV m.F m.list k:=by
    unfold yP
    rw [List.getD_eq_getElem?_getD,List.getElem?_map,List.getElem?_range (by omega)]
    simp
  rw [this,Iz h.fl ho.sh hne hk]
  rfl
theorem GI.all {C : Int} {N : Nat} {m : le} {g : lO} (h : GI C m g) (ho : YOk N m) (hN : N < 900000) : M1 g.now (getM m.F m.list 0 (4 * C)).1:=by
  obtain ⟨-,s1,s2⟩:=Ej h.t ho hN
  have hn:=h.n
  refine ⟨by omega,fun i hi=>?_⟩
  rw [s2 i (by omega)]
  exact h.now i hi
theorem GI.saw {C : Int} {N : Nat} {m : le} {g : lO} (h : GI C m g) (ho : YOk N m) (hN : N < 900000) : GI C m (sawM g (getM m.F m.list 0 (4 * C)).1):=by
  obtain ⟨-,s1,s2⟩:=Ej h.t ho hN
  have hn:=h.n
  have hat : ∀k,k < g.now.length -> lsAt (sawM g (getM m.F m.list 0 (4 * C)).1).now k = [m.see k]:=fun k hk=>by
    unfold sawM lsAt
    dsimp only
    rw [List.getD_eq_getElem?_getD,List.getElem?_map,List.getElem?_range hk]
    simp only [Option.map_some,Option.getD_some]
    rw [s2 k (by omega)]
  have hl : (sawM g (getM m.F m.list 0 (4 * C)).1).now.length = g.now.length:=by simp [sawM]
  refine ⟨h.t,by rw [hl]; exact hn,by rw [hl]; exact h.cr,fun k hk=>?_,fun k hk x hx=>?_⟩
  · rw [hl] at hk
    rw [hat k hk]
    exact List.mem_singleton.2 rfl
  · rw [hl] at hk
    rw [hat k hk] at hx
    rw [List.mem_singleton.1 hx]
    exact h.sub k hk _ (h.now k hk)
def yY (n : Nat) : lO:={ now:=List.replicate n [zs 16],cr:=List.replicate n [zs 16] }
theorem T2 {c p : Int} (h : ¬lH c p (-1)) (k : Nat) : (yx c p).see k = zs 16:=by
  obtain ⟨t,d',e⟩:=oP (yZ c p) (lA 0)
  unfold yx
  rw [e]
  obtain ⟨dv,hi⟩:=C7 (od (newN c p)) c p (-1)
  have hat : (yZ c p).F 0 = some (newI c p):=oU (fun _=>none) 0 (newI c p)
  show seeF (yZ c p).F [0] k = zs 16
  rw [Cn]
  · rfl
  · rw [oH (x:=0) hat]
    change newI c p = _ at hi
    rw [hi]
    exact Fx k
theorem Oh {c p : Int} (h : ¬lH c p (-1)) : YT c (yx c p):=by
  have hg:=(B2 h).1
  obtain ⟨t,d',e⟩:=oP (yZ c p) (lA 0)
  have hj : (yx c p).job = none:=by unfold yx; rw [e]; rfl
  have hcl : clus (yx c p).F (yx c p).dk.root = c:=by
    obtain ⟨dv,hi⟩:=C7 (od (newN c p)) c p (-1)
    have hat : (yZ c p).F 0 = some (newI c p):=oU (fun _=>none) 0 (newI c p)
    change newI c p = _ at hi
    have hr : (yx c p).dk.root = 0:=by unfold yx lx; split <;> rfl
    rw [hr]
    have hF : (yx c p).F = (yZ c p).F:=by unfold yx; rw [e]
    rw [hF]
    unfold clus
    rw [show (0 : Int).toNat = 0 from rfl,hat,hi]
    rfl
  have:=YT.of hg.ok fun j hj'=>by rw [hj] at hj'; cases hj'
  rwa [hcl] at this
theorem Vv {c p : Int} (h : ¬lH c p (-1)) : GI c (yx c p) (yY (4 * c.toNat)):=by
  have hb:=h
  unfold lH at hb
  have hat : ∀k,k < 4 * c.toNat -> lsAt (List.replicate (4 * c.toNat) [zs 16]) k = [zs 16]:=fun k hk=>by
    unfold lsAt
    rw [List.getD_eq_getElem?_getD,List.getElem?_replicate_of_lt hk]
    rfl
  refine ⟨Oh h,by show ((List.replicate (4 * c.toNat) [zs 16]).length : Int) = _; rw [List.length_replicate]; omega,rfl,fun k hk=>?_,fun _ _ _ h=>h⟩
  have hk : k < 4 * c.toNat:=by rwa [show (yY (4 * c.toNat)).now.length = 4 * c.toNat from List.length_replicate] at hk
  show _∈lsAt (List.replicate (4 * c.toNat) [zs 16]) k
  rw [hat k hk,T2 h]
  exact List.mem_singleton.2 rfl
def SF (F : ShM) : Prop:=∀k m,k < 5 -> F k = some m -> ∃u,Safe m u
theorem SF.step {F F' : ShM} {n : Nat} (h : SF F) (s : lJ n F F') : SF F':=fun k m' hk hm'=>by
 cases hF : F k with
 | none=>rw [s.no k hF] at hm'; cases hm'
 | some m=>
  obtain ⟨m2,h2,st,-⟩:=s.yes k m hk hF
  rw [h2] at hm'
  cases hm'
  obtain ⟨u,hu⟩:=h k m hk hF
  exact st.safe u hu
theorem SF.put {F : ShM} (h : SF F) (k : Nat) {m : ImgM} {u : List Ent} (hu : Safe m u) : SF (Go.Proofs.YtbpblokfiajpjabGreatDoor.put F k m):=fun j x hj hx=>by
 unfold Go.Proofs.YtbpblokfiajpjabGreatDoor.put at hx
 split at hx
 ·cases hx; exact ⟨u,hu⟩
 ·exact h j x hj hx
theorem SF.act {F : ShM} (h : SF F) {k : Nat} (hk : k < 5) {m m' : ImgM} (hm : F k = some m) {n : Nat} (s : Step n m m') : SF (Go.Proofs.YtbpblokfiajpjabGreatDoor.put F k m'):=by
 obtain ⟨u,hu⟩:=h k m hk hm
 obtain ⟨u',hu'⟩:=s.safe u hu
 exact h.put k hu'
theorem SF.flushI {F : ShM} {N : Nat} (h : SF F) (hW : ShW N F) {k : Nat} (hk : k < 5) : SF (flushI F k):=by
 unfold Go.Proofs.YtbpblokfiajpjabGreatDoor.flushI
 split
 ·rename_i m hm
  exact h.act hk hm (zv (hW.ok k m hk hm))
 ·exact h
theorem SF.flushAll {N : Nat} : ∀{l : List Int} {F : ShM},SF F -> ShW N F -> (∀x∈l,lz F x) -> SF (oZ F l):=by
 intro l
 induction l with
 | nil=>intro F h _ _; exact h
 | cons x l ih=>
  intro F h hW hl
  have hx:=hl x List.mem_cons_self
  have h5 : x.toNat < 5:=by have:=hx.1; have:=hx.2.1; omega
  exact ih (h.flushI hW h5) (CX hW h5) fun y hy=>B5 (hl y (List.mem_cons_of_mem _ hy))
theorem SF.linkI {F : ShM} {N : Nat} (h : SF F) (hW : ShW N F) (hN : N < 900000) {k : Nat} (hk : k < 5) (c : Int) : SF (linkI F k c).2:=by
 unfold Go.Proofs.YtbpblokfiajpjabGreatDoor.linkI
 split
 ·rename_i m hm
  exact h.act hk hm (EP (hW.ok k m hk hm) (by have:=hW.wr k m hk hm; omega) c)
 ·exact h
theorem SF.settle {F : ShM} {N : Nat} (h : SF F) (hW : ShW N F) (hN : N < 900000) {j : JobM} (hj : j.Ok) (hS : JobS F j) : SF (ll F j).2.1:=by
 have h0:=hS.list _ (mem0 hj.pos)
 have hk : (j.list.getD 0 0).toNat < 5:=by have:=h0.1; have:=h0.2.1; omega
 unfold ll
 split
 ·exact h
 ·split
  ·split <;> exact h.linkI hW hN hk _
  ·split
   ·exact h
   ·exact h.flushAll hW (zo F j.file)
def DT (m : le) : Prop:=(oV (m.top.seen 0)).2 = 0 /\ (dkOf (m.top.seen 0)).root = m.dk.root
theorem Ot {N : Nat} {t : DevM} (h : t.Ok /\ t.writes <= N /\ t.pend.length <= N /\ 1 <= t.fl.length) (hN : N < 900000) (s : ByteArray) :
  ((t.write 0 s).1 = 0 -> (t.write 0 s).2.flush.seen 0 = s) /\ ((t.write 0 s).1≠0 -> (t.write 0 s).2.seen 0 = t.seen 0):=by
 obtain ⟨a,b,c,e⟩:=h
 have hok:=DevM.write_ok a 0 s (by omega) (by omega)
 rcases DevM.write_cases t 0 s with ⟨h0,hp,hf⟩ | ⟨h0,hp,hf⟩
 ·refine ⟨fun _=>?_,fun h=>absurd h0 h⟩
  have hl : (0 : Nat) < (t.write 0 s).2.fl.length:=by rw [hf]; omega
  have:=C8 hok hl
  rw [show ((0 : Nat) : Int) = 0 from rfl] at this
  rw [this,Dl hf hp]
  rfl
 ·refine ⟨fun h=>absurd h h0,fun _=>?_⟩
  unfold DevM.seen
  rw [hp,hf]
theorem Mg {N : Nat} {m : le} (ht : m.top.Ok /\ m.top.writes <= N /\ m.top.pend.length <= N /\ 1 <= m.top.fl.length) (hN : N < 900000) (h : DT m) (d : lR) (hd : d.f = 0) : DT (lx m d).2:=by
 obtain ⟨s1,s2⟩:=Ot ht hN d.s
 unfold lx
 split
 ·rename_i hc
  unfold DT
  dsimp only
  rw [s2 hc]
  exact h
 ·rename_i hc
  unfold DT
  dsimp only
  rw [s1 (Decidable.not_not.1 hc)]
  have e : oV d.s = ((d.root,d.kind,d.file,d.rate,d.burst),0):=Ie hd
  unfold dkOf
  rw [e]
  exact ⟨rfl,rfl⟩
structure SA (m : le) : Prop where
 f : SF m.F
 d : DT m
theorem SA.still {m m' : le} (h : SA m) (hF : SF m'.F) (ht : m'.top = m.top) (hd : m'.dk.root = m.dk.root) : SA m':=⟨hF,by unfold DT; rw [ht,hd]; exact h.d⟩
theorem Ws {N : Nat} {m : le} (h : SA m) (ho : YOk N m) (hN : N < 900000) (d : lR) (hd : d.f = 0) : SA (lx m d).2:=by
 refine ⟨?_,Mg ho.tp hN h.d d hd⟩
 obtain ⟨t,d',e⟩:=oP m d
 rw [e]
 exact h.f
theorem NC {N : Nat} {m : le} (h : SA m) (hg : ly N m) (hN : N + 10 < 900000) (file back : Int) : SA (lZ m file back).2:=by
 unfold lZ
 split
 ·exact h
 ·rename_i hb
  split
  ·exact h
  ·split
   ·refine h.still (fun k x hk hx=>?_) rfl rfl
    change cut m.F file.toNat k = some x at hx
    unfold cut at hx
    split at hx
    ·cases hx
    ·exact h.f k x hk hx
   ·rename_i hc
    have hc0 : (yt m file.toNat back).1 = 0:=Decidable.not_not.1 hc
    have h5 : file.toNat < 5:=by omega
    obtain ⟨d1,d2,d3⟩:=hg.ok.devOf h5
    have hcr:=(AI d1 (by omega) (by omega) (c:=clus m.F m.dk.root) (p:=yR (clus m.F m.dk.root) (devOf m file.toNat)) (b:=back)).2.2.2.2 hc0
    exact h.still (h.f.put _ hcr.2.1) rfl rfl
theorem Ft {N : Nat} {m : le} (h : SA m) (ht : m.top.Ok /\ m.top.writes <= N /\ m.top.pend.length <= N /\ 1 <= m.top.fl.length) (hN : N < 900000) {r : Int} (h0 : 0 <= r) (h5 : r < 5) : SA (lx m (lA r)).2:=by
 refine ⟨?_,Mg ht hN h.d _ (DU h0 h5)⟩
 obtain ⟨t,d',e⟩:=oP m (lA r)
 rw [e]
 exact h.f
theorem Pf (m : le) (file back : Int) : (lZ m file back).2.top = m.top /\ (lZ m file back).2.dk = m.dk:=by
 unfold lZ
 split
 ·exact ⟨rfl,rfl⟩
 ·split
  ·exact ⟨rfl,rfl⟩
  ·split <;> exact ⟨rfl,rfl⟩
theorem WS {N : Nat} {m : le} (h : SA m) (hg : ly N m) (hN : N + 20 < 900000) (file : Int) : SA (AC m file).2:=by
 have hb:=NC h hg (by omega) file m.dk.root
 have ht:=(Pf m file m.dk.root).1
 unfold AC
 split
 ·exact h
 ·split
  ·exact h
  ·split
   ·exact hb
   ·rename_i hc
    have hf : 0 <= file /\ file < 5:=by
     refine Decidable.byContradiction fun hn=>hc ?_
     unfold lZ
     rw [zt (by omega)]
     simp
    have hw:=Ft hb (N:=N) (by rw [ht]; exact hg.ok.tp) (by omega) hf.1 hf.2
    split
    ·exact hw
    ·exact ⟨hw.f,hw.d⟩
theorem VY {N : Nat} {m : le} (h : SA m) (hg : ly N m) (hN : N + 20 < 900000) (kind file rate burst : Int) : SA (zP m kind file rate burst).2:=by
 unfold zP
 split
 ·exact h
 ·split
  ·exact h
  ·split
   ·exact h
   ·rename_i hd
    have hw:=Ws h hg.ok (by omega) ⟨m.dk.root,kind,file,rate,burst⟩ (Decidable.not_not.1 hd)
    split
    ·exact h
    ·split
     ·exact hw
     ·exact ⟨hw.f,hw.d⟩
theorem Qf {N : Nat} {m : le} (h : SA m) (ht : m.top.Ok /\ m.top.writes <= N /\ m.top.pend.length <= N /\ 1 <= m.top.fl.length) (hN : N < 900000) (j : JobM) {r : Int} (h0 : 0 <= r) (h5 : r < 5) (well : Bool) : SA (AN m j r well).2:=by
 have hw:=Ft h ht hN h0 h5
 unfold AN
 split
 ·exact hw
 ·exact ⟨hw.f,hw.d⟩
theorem U5 {N : Nat} {m : le} (h : SA m) (hg : ly N m) (hN : N + 20 < 900000) : SA (zc m).2:=by
 unfold zc
 split
 ·exact h
 ·split
  ·exact h
  ·exact Qf h hg.ok.tp (by omega) _ hg.ok.root.1 hg.ok.root.2.1 _
theorem V5 {N : Nat} {m : le} (h : SA m) (hg : ly N m) (hN : N + 20 < 900000) : SA (zV m).2:=by
 unfold zV
 split
 ·exact h
 ·rename_i j hj
  split
  ·exact h
  ·rename_i h4
   obtain ⟨hS,hl,hk,hf,hr⟩:=hg.ok.job j hj (by omega)
   have hs:=h.f.settle hg.ok.sh (by omega) (hg.ok.jok j hj) hS
   split
   ·exact h
   ·rename_i h2
    have hff:=hS.file (by rw [hk]; exact h2)
    rw [hf] at hff
    have h1 : SA { m with F:=(ll m.F j).2.1,job:=some (ll m.F j).2.2 }:=h.still hs rfl rfl
    split
    ·exact h1
    ·exact Qf h1 hg.ok.tp (by omega) _ hff.1 hff.2.1 _
theorem Vk {N : Nat} {m : le} (h : SA m) (hg : ly N m) (hN : N + 20 < 900000) : SA (zU m).2:=by
 unfold zU
 cases hj : m.job with
 | none=>exact h
 | some j=>
  dsimp only
  split
  ·exact h
  ·rename_i h4
   obtain ⟨hS,hl,hk,hf,hr⟩:=hg.ok.job j hj (by omega)
   have hjo:=hg.ok.jok j hj
   have hs:=h.f.step (Bm (hg.ok.sh.sh (by omega)) hjo hS)
   have h1 : SA { m with F:=(lk m.F j).2.1,job:=some (lk m.F j).2.2 }:=h.still hs rfl rfl
   have hr0:=hg.ok.root
   split
   ·split
    ·exact h1
    ·exact Ft h1 hg.ok.tp (by omega) hr0.1 hr0.2.1
   ·split
    ·exact h1
    ·rename_i hks
     have hs3 : (lk m.F j).2.2.st = 3:=Decidable.byContradiction fun hn=>hks (.inr hn)
     have hg1:=hg.stepJ (by omega) hj (by omega)
     have hS1:=(hg1.ok.job _ rfl (by omega)).1
     have hset:=hs.settle hg1.ok.sh (by omega) (hg1.ok.jok _ rfl) hS1
     split
     ·exact Ft (m:={ m with F:=(ll (lk m.F j).2.1 (lk m.F j).2.2).2.1,job:=some (ll (lk m.F j).2.1 (lk m.F j).2.2).2.2 }) (h.still hset rfl rfl) hg.ok.tp (by omega) hr0.1 hr0.2.1
     ·have hw:=Ft (m:={ m with F:=(ll (lk m.F j).2.1 (lk m.F j).2.2).2.1,job:=some (endM (ll (lk m.F j).2.1 (lk m.F j).2.2).2.2 true),list:=(lr (ll (lk m.F j).2.1 (lk m.F j).2.2).2.1 m.dk.root).1 }) (h.still hset rfl rfl) hg.ok.tp (by omega) hr0.1 hr0.2.1
      refine ⟨hw.f,hw.d.1,hw.d.2.trans ?_⟩
      unfold lx
      split <;> rfl
theorem N5 {m : le} (h : SA m) (fr n : Int) : SA (oS m fr n):=by
 unfold oS
 split
 ·exact h
 ·split
  ·exact h
  ·exact ⟨h.f,h.d⟩
theorem TZ {N : Nat} {m : le} (h : SA m) (hg : ly N m) (hN : N + 1000 < 900000) (fr : Int) (s : ByteArray) (hs : s.size <= 3200) : SA (ot m fr s).2:=by
 unfold ot
 split
 ·exact h
 ·exact N5 (m:={ m with F:=(putM m.F m.list fr s).2 }) (h.still (h.f.step (DN hg.ok.sh (DF hg.ok) (by omega) fr s hs)) rfl rfl) _ _
theorem V6 {N : Nat} {m : le} (h : SA m) (hg : ly N m) (hN : N + 1000 < 900000) (fr n : Int) (hn : n <= 200) : SA (ow m fr n).2:=by
 unfold ow
 split
 ·exact h
 ·exact N5 (m:={ m with F:=(zu m.F m.list fr n).2 }) (h.still (h.f.step (CP hg.ok.sh (DF hg.ok) (by omega) fr n hn)) rfl rfl) _ _
theorem Vt {m : le} (h : SA m) (on : Bool) : SA (zk m on).2:=by
 unfold zk
 split
 ·exact h
 ·split
  ·exact h
  ·exact ⟨h.f,h.d⟩
theorem Xq {m : le} (h : SA m) (n : Int) : SA (zQ m n).2:=by
 unfold zQ
 split
 ·exact h
 ·split
  ·exact h
  ·split
   ·exact h
   ·exact ⟨h.f,h.d⟩
theorem X4 {N : Nat} {m : le} (h : SA m) (hg : ly N m) (file n : Int) (hn : yb n) : SA (armM m file n).2:=by
 unfold armM
 split
 ·exact h
 ·rename_i hb
  split
  ·exact ⟨h.f,h.d⟩
  ·rename_i h1
   split
   ·rename_i i hi
    exact h.still (h.f.act (by omega) hi (UX (hg.ok.sh.ok _ i (by omega) hi) (by omega) hn.2)) rfl rfl
   ·exact ⟨h.f,h.d⟩
theorem TK {N : Nat} {m : le} (h : SA m) (hg : ly N m) (hN : N + 2000 < 900000) (x : Act) (hB : yb x.B) (hS : x.S.size <= 700) : SA (didY m x):=by
 unfold didY
 by_cases k0 : (x.kind.toList == [119,114,105,116,101]) = true
 ·rw [zt k0]
  exact TZ h hg (by omega) _ _ (by omega)
 rw [zq k0]
 by_cases k1 : (x.kind.toList == [119,105,112,101]) = true
 ·rw [zt k1]
  by_cases hn : x.B <= 200
  ·exact V6 h hg (by omega) _ _ hn
  ·rw [Bg hg.ok (by omega) hn]; exact h
 rw [zq k1]
 by_cases k2 : (x.kind.toList == [102,108,117,115,104]) = true
 ·rw [zt k2]
  exact h.still (h.f.flushAll hg.ok.sh hg.ok.files) rfl rfl
 rw [zq k2]
 by_cases k3 : (x.kind.toList == [98,108,97,110,107]) = true
 ·rw [zt k3]
  exact NC h hg (by omega) _ _
 rw [zq k3]
 by_cases k4 : (x.kind.toList == [115,110,97,112]) = true
 ·rw [zt k4]
  exact WS h hg (by omega) _
 rw [zq k4]
 by_cases k5 : (x.kind.toList == [115,116,97,114,116]) = true
 ·rw [zt k5]
  exact VY h hg (by omega) _ _ _ _
 rw [zq k5]
 by_cases k6 : (x.kind.toList == [112,105,118,111,116]) = true
 ·rw [zt k6]
  exact V5 h hg (by omega)
 rw [zq k6]
 by_cases k7 : (x.kind.toList == [99,97,110,99,101,108]) = true
 ·rw [zt k7]
  exact U5 h hg (by omega)
 rw [zq k7]
 by_cases k8 : (x.kind.toList == [112,97,117,115,101]) = true
 ·rw [zt k8]
  exact Vt h _
 rw [zq k8]
 by_cases k9 : (x.kind.toList == [116,105,99,107]) = true
 ·rw [zt k9]
  exact Xq h _
 rw [zq k9]
 by_cases k10 : (x.kind.toList == [102,97,105,108]) = true
 ·rw [zt k10]
  exact X4 h hg _ _ hB
 rw [zq k10]
 exact Vk h hg (by omega)
theorem M9 {c p : Int} (hb : ¬lH c p (-1)) : SA (yx c p):=by
 obtain ⟨h1,h2,h3⟩:=Fr hb
 have hok:=AI (c:=c) (p:=p) (b:=-1) (Ao (n:=newN c p) (by omega)) (by show (0 : Nat) < _; decide) (by show (0 : Int) < _; decide)
 have hs:=(hok.2.2.2.2 (J6 hb)).2.1
 have hw:=LF c p
 refine ⟨?_,?_⟩
 ·obtain ⟨t,d',e⟩:=oP (yZ c p) (lA 0)
  unfold yx
  rw [e]
  intro k m hk hm
  change put (fun _=>none) 0 (newI c p) k = some m at hm
  unfold put at hm
  split at hm
  ·cases hm; exact ⟨_,hs⟩
  ·cases hm
 ·obtain ⟨s1,-⟩:=Ot (t:=(yZ c p).top) (N:=0) ⟨Ao (n:=1) (by decide),show (od 1).writes <= ((0 : Nat) : Int) by decide,show (od 1).pend.length <= 0 by decide,show 1 <= (od 1).fl.length by decide⟩ (by decide) (lA 0).s
  unfold yx
  unfold lx at hw ⊢
  split
  ·rename_i h
   rw [zt h] at hw
   exact absurd hw h
  ·rename_i hc
   unfold DT
   dsimp only
   rw [s1 (Decidable.not_not.1 hc)]
   have e : oV (lA 0).s = (((lA 0).root,(lA 0).kind,(lA 0).file,(lA 0).rate,(lA 0).burst),0):=Ie (DU (by decide) (by decide))
   unfold dkOf
   rw [e]
   exact ⟨rfl,rfl⟩
def oA (m : le) (k : Nat) : DevM:=if (k : Int)∈m.list then devOf m k else od 1
theorem Ib {N : Nat} {m : le} (h : YOk N m) {k : Nat} (hk : k < 5) : (oA m k).Ok /\ (oA m k).writes <= N /\ (oA m k).pend.length <= N:=by
 unfold oA
 split
 ·exact h.devOf hk
 ·exact ⟨Ao (by decide),by show (0 : Int) <= _; omega,by show (0 : Nat) <= _; omega⟩
theorem FM {N : Nat} {m : le} (h : YOk N m) (hs : SF m.F) {x : Int} (hx : x∈m.list) : ∃i,m.F x.toNat = some i /\ opF (oA m) 5 x.toNat = some { i with held:=[] }:=by
 obtain ⟨h0,h5,i,hi⟩:=h.files x hx
 have hk : x.toNat < 5:=by omega
 obtain ⟨u,hu⟩:=hs _ i hk hi
 have ho:=hu.open (h.sh.ok _ i hk hi)
 refine ⟨i,hi,?_⟩
 have hd : oA m x.toNat = i.d:=by
  unfold oA
  rw [zt (by rw [show ((x.toNat : Nat) : Int) = x by omega]; exact hx)]
  unfold devOf
  rw [hi]
 unfold opF
 rw [zt hk,hd,ho,zt rfl]
theorem Sq {N : Nat} {m : le} (h : YOk N m) (hs : SF m.F) {x : Int} (hx : x∈m.list) (k : Nat) : lD (opF (oA m) 5) x k = lD m.F x k:=by
 obtain ⟨i,h1,h2⟩:=FM h hs hx
 rw [oH h1,oH h2]
 rfl
theorem Ui {N : Nat} {m : le} (h : YOk N m) (hs : SF m.F) {x : Int} (hx : x∈m.list) : shp (opF (oA m) 5) x.toNat = shp m.F x.toNat:=by
 obtain ⟨i,h1,h2⟩:=FM h hs hx
 unfold shp
 rw [h1,h2]
 rfl
theorem SX {N : Nat} {m : le} (h : YOk N m) (hs : SF m.F) {x : Int} (hx : x∈m.list) : lz (opF (oA m) 5) x:=by
 obtain ⟨h0,h5,-⟩:=h.files x hx
 obtain ⟨i,-,h2⟩:=FM h hs hx
 exact ⟨h0,h5,_,h2⟩
theorem Ef {N : Nat} {m : le} (h : YOk N m) (hs : SF m.F) {x : Int} (hx : x∈m.list) : clus (opF (oA m) 5) x = clus m.F x:=by
 obtain ⟨i,h1,h2⟩:=FM h hs hx
 unfold clus
 rw [h1,h2]
theorem Q3 {N : Nat} {m : le} (h : YOk N m) (hs : SF m.F) : lr (opF (oA m) 5) m.dk.root = (m.list,0):=by
 obtain ⟨s,e⟩:=h.head
 have hr : m.dk.root∈m.list:=by rw [e]; exact List.mem_cons_self
 have hc:=h.chn.keep (F':=opF (oA m) 5) fun x hx=>Ui h hs hx
 rw [<- Ef h hs hr,e] at hc
 have hl:=h.list5
 rw [e] at hl ⊢
 exact CK hc hl
theorem NX (m : le) : (zT m).F = m.F /\ (zT m).list = m.list /\ (zT m).dk.root = m.dk.root:=by
 unfold zT
 split
 ·exact ⟨rfl,rfl,rfl⟩
 ·split
  ·exact ⟨rfl,rfl,rfl⟩
  ·split <;> exact ⟨rfl,rfl,rfl⟩
theorem D6 {N : Nat} {m : le} (h : YOk N m) (hs : SA m) : (yj (oA m) m.top).1 = 0 /\ (yj (oA m) m.top).2.F = opF (oA m) 5 /\ (yj (oA m) m.top).2.list = m.list /\ (yj (oA m) m.top).2.dk.root = m.dk.root:=by
 obtain ⟨d1,d2⟩:=hs.d
 have hw:=Q3 h hs.f
 unfold yj
 rw [zq (by rw [d1]; simp),zq (by rw [d2,hw]; simp)]
 obtain ⟨a1,a2,a3⟩:=NX (oO (oA m) m.top)
 refine ⟨rfl,a1,?_,a3.trans d2⟩
 rw [a2]
 show (lr (opF (oA m) 5) (dkOf (m.top.seen 0)).root).1 = m.list
 rw [d2,hw]
theorem UZ {C : Int} {F F' : ShM} {l : List Int} {N : Nat} (hF : Fl F C l) (hW : ShW N F) (hF' : Fl F' C l) (hW' : ShW N F') (hl : l≠[]) (hs : ∀k,seeF F' l k = seeF F l k) (hc : clus F (l.getD 0 0) = C) (hc' : clus F' (l.getD 0 0) = C) : getM F' l 0 (4 * C) = getM F l 0 (4 * C):=by
 unfold getM
 have hw : lV F' l 0 (4 * C) = lV F l 0 (4 * C):=by unfold lV; rw [hc,hc']
 rw [hw]
 have e : yP F' l (0 : Int).toNat (4 * C).toNat = yP F l (0 : Int).toNat (4 * C).toNat:=by
  unfold yP
  refine List.map_congr_left fun j hj=>?_
  have:=List.mem_range.1 hj
  rw [show (0 : Int).toNat = 0 from rfl,Nat.zero_add,Iz hF' hW' hl (by omega),Iz hF hW hl (by omega),hs]
 rw [e]
theorem PN {C : Int} {N : Nat} {m : le} (ht : YT C m) (h : YOk N m) (hs : SA m) : getM (yj (oA m) m.top).2.F (yj (oA m) m.top).2.list 0 (4 * C) = getM m.F m.list 0 (4 * C) /\ clus (yj (oA m) m.top).2.F (yj (oA m) m.top).2.dk.root = C:=by
 obtain ⟨-,a1,a2,a3⟩:=D6 h hs
 rw [a1,a2,a3]
 obtain ⟨s,e⟩:=h.head
 have hr : m.dk.root∈m.list:=by rw [e]; exact List.mem_cons_self
 have hg : m.list.getD 0 0 = m.dk.root:=by rw [e]; rfl
 have hc:=ht.cl0 h
 have hF' : Fl (opF (oA m) 5) C m.list:=⟨fun x hx=>SX h hs.f hx,fun x hx=>(Ef h hs.f hx).trans (ht.fl.cl x hx),ht.fl.nd⟩
 refine ⟨UZ ht.fl h.sh hF' (Ix fun k hk=>Ib h hk) (by rw [e]; simp) (fun k=>ye fun x hx=>Sq h hs.f hx k) (by rw [hg]; exact hc) (by rw [hg,Ef h hs.f hr]; exact hc),by rw [Ef h hs.f hr]; exact hc⟩
theorem Su {N : Nat} {m : le} (h : YOk N m) (hN : N < 900000) (hl : YLen m) (hs : SA m) : ly N (yj (oA m) m.top).2:=by
 refine (I8 hN (fun k hk=>Ib h hk) (fun k hk=>?_) h.tp (D6 h hs).1).1
 unfold oA
 split
 ·exact hl.dev h hk
 ·show 0 < (List.replicate 1 BD).length
  decide
def zG (f : Int) : Nat -> List Int -> Nat -> Nat
 | _,[],a=>a
 | i,x::l,a=>zG f (i + 1) l (if x = f then i else a)
def atM (was : List Int) (f : Int) : Nat:=zG f 0 was was.length
def A9 (was now : List Int) (kind file : Int) : Bool:=
 if kind = 1 then decide (now = [file]) else if kind = 3 then decide (now = was.drop (atM was file)) else decide (now = was.take 1++was.drop (atM was file))
theorem LH {f : Int} : ∀{l : List Int} {i a : Nat},f∉l -> zG f i l a = a:=by
 intro l
 induction l with
 | nil=>intro i a _; rfl
 | cons x l ih=>
  intro i a h
  rw [zG,zq (fun e=>h (by rw [e]; exact List.mem_cons_self)),ih fun e=>h (List.mem_cons_of_mem _ e)]
theorem SJ {f : Int} {b : List Int} (hb : f∉b) : ∀{c : List Int} {i a : Nat},zG f i (c++f::b) a = i + c.length:=by
 intro c
 induction c with
 | nil=>intro i a; rw [List.nil_append,zG,zt rfl,LH hb]; rfl
 | cons x c ih=>intro i a; rw [List.cons_append,zG,ih,List.length_cons]; omega
theorem QC {F : ShM} {C : Int} {l : List Int} {j : JobM} (hF : Fl F C l) (hT : JobT F C l j) (h1 : j.kind≠1) : atM l j.file = j.deep:=by
 obtain ⟨d1,d2,d3⟩:=hT.deep h1
 unfold atM
 cases e : l.drop j.deep with
 | nil=>
  rw [e] at d3
  have d3 : (-1 : Int) = j.file:=d3
  have hlen : (l.drop j.deep).length = l.length - j.deep:=List.length_drop
  rw [e] at hlen
  rw [LH fun h=>by have:=(hF.file _ h).1; omega]
  simp at hlen
  omega
 | cons y r=>
  rw [e] at d3
  have d3 : y = j.file:=d3
  subst d3
  have e3 : l = l.take j.deep++j.file::r:=by rw [<- e,List.take_append_drop]
  have hnd:=hF.nd
  rw [e3] at hnd
  have hr : j.file∉r:=(List.nodup_cons.1 (List.nodup_append.1 hnd).2.1).1
  have:=SJ hr (c:=l.take j.deep) (i:=0) (a:=l.length)
  rw [<- e3] at this
  rw [this,List.length_take]
  omega
theorem Jl {F : ShM} {C : Int} {l : List Int} {j : JobM} (hF : Fl F C l) (hT : JobT F C l j) (hk : j.kind = 1 \/ j.kind = 2 \/ j.kind = 3) : A9 l (ov j l) j.kind j.file = true:=by
 unfold A9 ov
 rcases hk with h | h | h
 ·rw [zt h,zt h]; exact zg rfl
 ·rw [zq (by omega),zq (by omega),zq (by omega),zt h,QC hF hT (by omega)]; exact zg rfl
 ·rw [zq (by omega),zt h,zq (by omega),zq (by omega),QC hF hT (by omega)]; exact zg rfl
def NoC (m : le) : Prop:=∀j,m.job = some j -> j.st≠4
def EndC (m m' : le) : Prop:=∀j,m'.job = some j -> j.st = 4 -> A9 m.list m'.list j.kind j.file = true
theorem NoC.end {m m' : le} (h : NoC m') : EndC m m':=fun j hj h4=>absurd h4 (h j hj)
theorem NoC.same {m m' : le} (h : NoC m) (e : m'.job = m.job) : NoC m':=fun j hj=>h j (by rw [<- e]; exact hj)
theorem G3 {j : JobM} (h : j.st≠4) : (An j).st≠4:=by
 unfold An
 split
 ·show (3 : Int)≠4; decide
 ·split
  ·show (1 : Int)≠4; decide
  ·exact h
theorem QZ {j : JobM} (h : j.st≠4) (c : Int) : (zl j c).st≠4:=by
 unfold zl
 split
 ·exact G3 (j:={ j with x:=(oY j.n j.x c true).2 }) h
 ·exact h
theorem Se : ∀(n : Nat) {j : JobM} (c : Int),j.st≠4 -> (ob j c n).st≠4:=by
 intro n
 induction n with
 | zero=>intro j c h; exact h
 | succ n ih=>intro j c h; exact ih (c + 1) (QZ h c)
theorem KU {m : le} (h : NoC m) (fr n : Int) : NoC (oS m fr n):=by
 unfold oS
 split
 ·exact h
 ·rename_i j hj
  split
  ·exact h
  ·intro j' hj'
   cases hj'
   exact Se _ _ (h j hj)
theorem J4 {j : JobM} (h : j.st≠4) (on : Bool) : (yX j on).2.st≠4:=by
 unfold yX
 split
 ·split
  ·show (2 : Int)≠4; decide
  ·exact h
 ·split
  ·exact G3 (j:={ j with st:=1 }) (by show (1 : Int)≠4; decide)
  ·exact h
theorem BI (m : le) (d : lR) : (lx m d).2.job = m.job /\ (lx m d).2.list = m.list:=by
 obtain ⟨t,d',e⟩:=oP m d
 rw [e]
 exact ⟨rfl,rfl⟩
theorem Mi {m : le} (h : NoC m) (file back : Int) : NoC (lZ m file back).2:=by
 unfold lZ
 split
 ·exact h
 ·split
  ·exact h
  ·split <;> exact h
theorem V8 {m : le} (h : NoC m) (file : Int) : NoC (AC m file).2:=by
 have hb:=Mi h file m.dk.root
 have hw:=hb.same (BI (lZ m file m.dk.root).2 (lA file)).1
 unfold AC
 split
 ·exact h
 ·split
  ·exact h
  ·split
   ·exact hb
   ·split
    ·exact hw
    ·exact hw
theorem Uo {m : le} (h : NoC m) (kind file rate burst : Int) : NoC (zP m kind file rate burst).2:=by
 unfold zP
 split
 ·exact h
 ·split
  ·exact h
  ·split
   ·exact h
   ·split
    ·exact h
    ·rename_i j f hf
     split
     ·exact h.same (BI _ _).1
     ·intro j' hj'
      cases hj'
      have hi:=Lj (F:=m.F) (root:=m.dk.root) (kind:=kind) (file:=file) (rate:=rate) (burst:=burst) (j:=j) (by rw [hf])
      exact J4 (by rw [hi.2.2.2.2.2.1]; decide) _
theorem Tf {m : le} (h : NoC m) : NoC (zc m).2:=by
 unfold zc
 split
 ·exact h
 ·rename_i j hj
  split
  ·exact h
  ·unfold AN
   split
   ·exact h.same (BI _ _).1
   ·intro j' hj'
    cases hj'
    show (5 : Int)≠4
    decide
theorem Tx {m : le} (h : NoC m) (on : Bool) : NoC (zk m on).2:=by
 unfold zk
 split
 ·exact h
 ·rename_i j hj
  split
  ·exact h
  ·intro j' hj'
   cases hj'
   exact J4 (h j hj) on
theorem VU {m : le} (h : NoC m) (n : Int) : NoC (zQ m n).2:=by
 unfold zQ
 split
 ·exact h
 ·split
  ·exact h
  ·rename_i j hj
   split
   ·exact h
   ·intro j' hj'
    cases hj'
    unfold AP
    split <;> exact h j hj
theorem WZ {m : le} (h : NoC m) (file n : Int) : NoC (armM m file n).2:=by
 unfold armM
 split
 ·exact h
 ·split
  ·exact h
  ·split <;> exact h
theorem TE {m : le} (h : NoC m) (fr : Int) (s : ByteArray) : NoC (ot m fr s).2:=by
 unfold ot
 split
 ·exact h
 ·exact KU (m:={ m with F:=(putM m.F m.list fr s).2 }) h _ _
theorem Wo {m : le} (h : NoC m) (fr n : Int) : NoC (ow m fr n).2:=by
 unfold ow
 split
 ·exact h
 ·exact KU (m:={ m with F:=(zu m.F m.list fr n).2 }) h _ _
theorem Pe {C : Int} {N : Nat} {m : le} (h : NoC m) (ht : YT C m) (hg : ly N m) (hN : N + 20 < 900000) : EndC m (zV m).2:=by
 have ho:=hg.ok
 unfold zV
 cases hj : m.job with
 | none=>exact h.end
 | some j=>
  dsimp only
  split
  ·exact h.end
  ·rename_i h4
   have h4 : j.st < 4:=by omega
   obtain ⟨hS,hl,hk,hf,hr⟩:=ho.job j hj h4
   have hT:=ht.job j hj h4
   have hjo:=ho.jok j hj
   split
   ·exact h.end
   ·rename_i h2
    have hkj : j.kind≠2:=by rw [hk]; exact h2
    obtain ⟨hs,hjj⟩:=Cj (F:=m.F) hkj
    have h1 : NoC { m with F:=(ll m.F j).2.1,job:=some (ll m.F j).2.2 }:=by
     rw [hjj,<- hj]
     exact h
    split
    ·exact h1.end
    ·unfold AN
     split
     ·exact (h1.same (BI _ _).1).end
     ·intro j' hj' h4'
      cases hj'
      have hch : Chn (ll m.F j).2.1 C m.list:=by
       have:=ho.chn
       rw [ht.cl0 ho] at this
       refine this.keep fun x hx=>hs _ ?_
       obtain ⟨a,b,-⟩:=this.file x hx
       omega
      have hT2 : JobT (ll m.F j).2.1 C m.list j:=by
       have hfc:=Dw ho.sh (by omega) hjo hS
       exact hT.faces hs fun x k=>hfc x k
      obtain ⟨w1,w2,w3⟩:=D2 hch (M2 ho) (by have:=hjo.kind; omega) hT2
      rw [hf] at w1
      show A9 m.list (lr (ll m.F j).2.1 m.dk.file).1 (ll m.F j).2.2.kind (ll m.F j).2.2.file = true
      rw [w1,hjj]
      exact Jl ht.fl hT hjo.kind
theorem U7 {F : ShM} {j : JobM} (h : j.st≠4) : (lk F j).2.2.st≠4:=by
 unfold lk
 split
 ·exact h
 ·split
  ·exact h
  ·split
   ·show (5 : Int)≠4; decide
   ·unfold jdid
    exact G3 (j:={ j with level:=j.level - 4,x:=(oY j.n j.x ((oo j).1 : Nat) false).2,at_:=(oo j).1 + 1 }) h
theorem Pa {F : ShM} {j : JobM} (h : j.st≠4) : (ll F j).2.2.st≠4:=by
 unfold ll
 split
 ·exact h
 ·split
  ·split
   ·show (5 : Int)≠4; decide
   ·exact h
  ·split <;> exact h
theorem S1 (F : ShM) (j : JobM) : (ll F j).2.2.kind = j.kind /\ (ll F j).2.2.file = j.file:=by
 unfold ll
 split
 ·exact ⟨rfl,rfl⟩
 ·split
  ·split <;> exact ⟨rfl,rfl⟩
  ·split <;> exact ⟨rfl,rfl⟩
theorem QO {C : Int} {N : Nat} {m : le} (h : NoC m) (ht : YT C m) (hg : ly N m) (hN : N + 20 < 900000) : EndC m (zU m).2:=by
 have ho:=hg.ok
 unfold zU
 cases hj : m.job with
 | none=>exact h.end
 | some j=>
  dsimp only
  split
  ·exact h.end
  ·rename_i h4
   have h4 : j.st < 4:=by omega
   have hn1 : (lk m.F j).2.2.st≠4:=U7 (h j hj)
   have h1 : NoC { m with F:=(lk m.F j).2.1,job:=some (lk m.F j).2.2 }:=fun j' e=>by cases e; exact hn1
   split
   ·split
    ·exact h1.end
    ·exact (h1.same (BI _ _).1).end
   ·split
    ·exact h1.end
    ·rename_i hc0 hks
     have hk2 : m.dk.kind = 2:=Decidable.byContradiction fun hn=>hks (.inl hn)
     have hs3 : (lk m.F j).2.2.st = 3:=Decidable.byContradiction fun hn=>hks (.inr hn)
     split
     ·refine NoC.end (NoC.same (m:={ m with F:=(ll (lk m.F j).2.1 (lk m.F j).2.2).2.1,job:=some (ll (lk m.F j).2.1 (lk m.F j).2.2).2.2 }) (fun j' e=>by cases e; exact Pa hn1) (BI _ _).1)
     ·rename_i hc
      have hc:=Decidable.not_not.1 hc
      obtain ⟨hS,hl,hk,hf,hr⟩:=ho.job j hj h4
      have hjo:=ho.jok j hj
      have hst:=Bm (ho.sh.sh (by omega)) hjo hS
      obtain ⟨-,-,s3⟩:=Jp ht.fl ho.sh (by omega) hjo hS (ht.job j hj h4) h4
      have hT1 : JobT (lk m.F j).2.1 C m.list (lk m.F j).2.2:=s3 (by omega)
      have hfl1 : Fl (lk m.F j).2.1 C m.list:=ht.fl.same hst.same
      have hs:=Bl m.F j
      obtain ⟨s,hls⟩:=ho.head
      obtain ⟨t,hw,ht1,ht2⟩:=hg.linked (by omega) hj h4 hk2 hc
      have hkk : (lk m.F j).2.2.kind = 2:=by rw [hs.2.1,hk,hk2]
      obtain ⟨d1,d2,d3⟩:=hT1.deep (by omega)
      have haft : ov (lk m.F j).2.2 m.list = m.dk.root::t:=by
       unfold ov
       rw [zq (by omega),zt hkk]
       have e0 : m.list.take 1 = [m.dk.root]:=by rw [hls]; rfl
       rw [e0,List.singleton_append]
       congr 1
       rw [hs.2.2.1] at d3
       by_cases hn : j.file = -1
       ·rw [ht1 hn]
        cases e2 : m.list.drop (lk m.F j).2.2.deep with
        | nil=>rfl
        | cons y r=>
         rw [e2] at d3
         have d3 : y = j.file:=d3
         have:=(ht.fl.file y (List.mem_of_mem_drop (by rw [e2]; exact List.mem_cons_self ..))).1
         omega
       ·obtain ⟨p,s',hp,rfl⟩:=ht2 hn
        cases e2 : m.list.drop (lk m.F j).2.2.deep with
        | nil=>rw [e2] at d3; exact absurd d3.symm hn
        | cons y r=>
         rw [e2] at d3
         have d3 : y = j.file:=d3
         subst d3
         congr 1
         have e3 : m.list = m.list.take (lk m.F j).2.2.deep++j.file::r:=by rw [<- e2,List.take_append_drop]
         have hnd:=ht.fl.nd
         rw [e3] at hnd
         exact Ip hnd (e3.symm.trans (hp.trans (List.cons_append).symm))
      have hend:=Jl hfl1 hT1 (.inr (.inl hkk))
      rw [haft] at hend
      have hsk:=S1 (lk m.F j).2.1 (lk m.F j).2.2
      obtain ⟨jb,ls⟩:=BI { m with F:=(ll (lk m.F j).2.1 (lk m.F j).2.2).2.1,job:=some (endM (ll (lk m.F j).2.1 (lk m.F j).2.2).2.2 true),list:=(lr (ll (lk m.F j).2.1 (lk m.F j).2.2).2.1 m.dk.root).1 } (lA m.dk.root)
      intro j' hj' h4'
      change (lx _ (lA m.dk.root)).2.job = some j' at hj'
      rw [jb] at hj'
      cases hj'
      show A9 m.list (lx _ (lA m.dk.root)).2.list _ _ = true
      rw [ls,hw]
      show A9 m.list (m.dk.root::t) (ll (lk m.F j).2.1 (lk m.F j).2.2).2.2.kind (ll (lk m.F j).2.1 (lk m.F j).2.2).2.2.file = true
      rw [hsk.1,hsk.2]
      exact hend
theorem U4 {C : Int} {N : Nat} {m : le} (h : NoC m) (ht : YT C m) (hg : ly N m) (hN : N + 2000 < 900000) (x : Act) : EndC m (didY m x):=by
 unfold didY
 by_cases k0 : (x.kind.toList == [119,114,105,116,101]) = true
 ·rw [zt k0]
  exact (TE h _ _).end
 rw [zq k0]
 by_cases k1 : (x.kind.toList == [119,105,112,101]) = true
 ·rw [zt k1]
  exact (Wo h _ _).end
 rw [zq k1]
 by_cases k2 : (x.kind.toList == [102,108,117,115,104]) = true
 ·rw [zt k2]
  exact NoC.end (m':=AD m) h
 rw [zq k2]
 by_cases k3 : (x.kind.toList == [98,108,97,110,107]) = true
 ·rw [zt k3]
  exact (Mi h _ _).end
 rw [zq k3]
 by_cases k4 : (x.kind.toList == [115,110,97,112]) = true
 ·rw [zt k4]
  exact (V8 h _).end
 rw [zq k4]
 by_cases k5 : (x.kind.toList == [115,116,97,114,116]) = true
 ·rw [zt k5]
  exact (Uo h _ _ _ _).end
 rw [zq k5]
 by_cases k6 : (x.kind.toList == [112,105,118,111,116]) = true
 ·rw [zt k6]
  exact Pe h ht hg (by omega)
 rw [zq k6]
 by_cases k7 : (x.kind.toList == [99,97,110,99,101,108]) = true
 ·rw [zt k7]
  exact (Tf h).end
 rw [zq k7]
 by_cases k8 : (x.kind.toList == [112,97,117,115,101]) = true
 ·rw [zt k8]
  exact (Tx h _).end
 rw [zq k8]
 by_cases k9 : (x.kind.toList == [116,105,99,107]) = true
 ·rw [zt k9]
  exact (VU h _).end
 rw [zq k9]
 by_cases k10 : (x.kind.toList == [102,97,105,108]) = true
 ·rw [zt k10]
  exact (WZ h _ _).end
 rw [zq k10]
 exact QO h ht hg (by omega)
end Go.Proofs.YtbpblokfiajpjabGreatDoor
namespace Go.SL
open Go.RowKit
def rowo (e : TypeId) (sz : Nat) (v : Value) (n : Nat) (xs : List Value) : HP:=fun h=>
 xs.length = n * sz /\ ((v = .slice none 0 0 /\ n = 0 /\ emp h) \/
  ∃g off cap cur,v = .slice (some ⟨g,off,none⟩) n cap /\ n <= cap /\ cap <= maxLen /\ cur.size = off + cap * sz /\ (cur.toList.drop off).take (n * sz) = xs /\ pts g (.cells cur e (0,0)) h)
theorem PK {e : TypeId} {sz : Nat} {v : Value} {n : Nat} {xs : List Value} {h : Hp} (H : row e sz v n xs h) : rowo e sz v n xs h:=by
 obtain ⟨hl,h1 | ⟨g,cap,cur,rfl,h1,h2,h3,h4,h5⟩⟩:=H
 ·exact ⟨hl,.inl h1⟩
 ·exact ⟨hl,.inr ⟨g,0,cap,cur,rfl,h1,h2,by omega,by simpa using h4,h5⟩⟩
theorem JW {w : World} {L : List HP} (k : Nat) {e : TypeId} {sz : Nat} {v : Value} {n : Nat} {xs : List Value} (H : own w L) (hk : L[k]? = some (row e sz v n xs)) : own w (L.set k (rowo e sz v n xs)):=
 FO k (fun _=>PK) H hk
theorem Fe {w : World} {L : List HP} (k : Nat) {g off cap n sz : Nat} {cur : Array Value} {e : TypeId} {xs : List Value} (H : own w L) (hk : L[k]? = some (pts g (.cells cur e (0,0))))
  (hn : n <= cap) (hc : cap <= maxLen) (hs : cur.size = off + cap * sz) (ht : (cur.toList.drop off).take (n * sz) = xs) : own w (L.set k (rowo e sz (.slice (some ⟨g,off,none⟩) n cap) n xs)):=by
 refine FO k (fun h hh=>⟨?_,.inr ⟨g,off,cap,cur,rfl,hn,hc,hs,ht,hh⟩⟩) H hk
 rw [<- ht,List.length_take,List.length_drop,Array.length_toList,hs]
 have:=Nat.mul_le_mul_right sz hn
 omega
theorem OM {w : World} {L : List HP} (k : Nat) {e : TypeId} {sz : Nat} {v : Value} {n : Nat} {xs : List Value} (H : own w L) (hk : L[k]? = some (rowo e sz v n xs)) :
  xs.length = n * sz /\ ((v = .slice none 0 0 /\ n = 0) \/
  ∃g off cap cur,v = .slice (some ⟨g,off,none⟩) n cap /\ n <= cap /\ cap <= maxLen /\ cur.size = off + cap * sz /\ (cur.toList.drop off).take (n * sz) = xs /\ own w (L.set k (pts g (.cells cur e (0,0))))):=by
 obtain ⟨h,hs,h1,h2,a,⟨hl,p⟩,q⟩:=lE k H hk
 refine ⟨hl,?_⟩
 rcases p with ⟨rfl,rfl,_⟩ | ⟨g,off,cap,cur,rfl,c1,c2,c3,c4,c5⟩
 ·exact .inl ⟨rfl,rfl⟩
 ·exact .inr ⟨g,off,cap,cur,rfl,c1,c2,c3,c4,oT H k hk ⟨h,hs,h1,h2,a,c5,q⟩⟩
theorem Gn {l xs : List Value} {off m j : Nat} {u : Value} (h : (l.drop off).take m = xs) (hu : xs[j]? = some u) : l[off + j]? = some u:=by
 rw [<- h,List.getElem?_take] at hu
 split at hu
 ·rwa [List.getElem?_drop] at hu
 ·cases hu
theorem Bt {w : World} {L : List HP} (k : Nat) {e : TypeId} {sz : Nat} {v : Value} {n : Nat} {xs : List Value} (H : own w L) (hk : L[k]? = some (rowo e sz v n xs)) :
  ∃ao g off cap,v = .slice ao n cap /\ n <= cap /\ cap <= maxLen /\ (0 < n -> ao = some ⟨g,off,none⟩) /\ (∀j u,xs[j]? = some u -> w.cell? ⟨g,off + j,none⟩ = some u) /\ (ao≠none -> ∀j,w.frozen? ⟨g,j,none⟩ = false):=by
 obtain ⟨hl,⟨rfl,rfl⟩ | ⟨g,off,cap,cur,rfl,h1,h2,h3,h4,h5⟩⟩:=OM k H hk
 ·have hx : xs = []:=List.eq_nil_of_length_eq_zero (by simpa using hl)
  subst hx
  exact ⟨none,0,0,0,rfl,Nat.le_refl _,by simp [maxLen],fun h=>absurd h (by simp),(fun j u h=>by simp at h),fun h=>absurd rfl h⟩
 ·have hk' : (L.set k (pts g (.cells cur e (0,0))))[k]? = some (pts g (.cells cur e (0,0))):=by
   have:=(zS.1 hk).1
   simp [this]
  obtain ⟨hc,hf⟩:=ld k h5 hk'
  refine ⟨_,g,off,cap,rfl,h1,h2,fun _=>rfl,fun j u hu=>?_,fun _=>hf⟩
  rw [hc,<- Array.getElem?_toList]
  exact Gn h4 hu
section
variable {P : Program}
theorem Gu (w : World) (t ty e : TypeId) (i : TypeInfo) (ht : P.underlying t = some (.slice e)) (hi : P.info? e = some i)
  (g off sLen sCap : Nat) (cur : Array Value) (hg : w.heap[g]? = some (.cells cur e (0,0)))
  (a : Addr) (m c : Nat) (news : List Value) (hl : news.length = m * i.size) (hnews : ∀j u,news[j]? = some u -> w.cell? (a.add j) = some u) (h1 : ∀u∈news,u.oneCell' = true)
  (hroom : sLen + m <= sCap) (hfit : off + sLen * i.size + news.length <= cur.size) :
  (Builtin.append_ #[t,t] ty #[.slice (some ⟨g,off,none⟩) sLen sCap,.slice (some a) m c]).run P w =
   .ok (.slice (some ⟨g,off,none⟩) (sLen + m) sCap) (w.setRow g (cur.toList.take (off + sLen * i.size)++news++cur.toList.drop (off + sLen * i.size + news.length)).toArray):=by
 have hf:=run_firstCells_some (P:=P) w i.size m a m c news hl hnews
 have hst:=run_storeCells_at P g (off + sLen * i.size) e news 0 cur w hg (by simpa using hfit) h1
 simp only [Nat.add_zero] at hst
 have hadd : (⟨g,off,none⟩ : Addr).add (sLen * i.size) = ⟨g,off + sLen * i.size,none⟩:=by unfold Addr.add; split <;> simp_all
 simp [Builtin.append_,run_underlying ht,sizeOf,typeInfo,hi,Builtin.lenOf,hroom,hf,hadd,hst]
theorem Ky {w : World} {L : List HP} (k : Nat) (t ty e : TypeId) {sz bytes : Nat} {z : Value} (ht : P.underlying t = some (.slice e)) (he : Elem P e sz bytes z) (hzs : z.cells.size = sz) (hsz : 0 < sz)
  {g off n cap : Nat} {xs : List Value} (H : own w L) (hk : L[k]? = some (rowo e sz (.slice (some ⟨g,off,none⟩) n cap) n xs))
  (a : Addr) (m c : Nat) (news : List Value) (hl : news.length = m * sz) (hnews : ∀j u,news[j]? = some u -> w.cell? (a.add j) = some u) (h1 : ∀u∈news,u.oneCell' = true)
  (h63 : n + m <= maxLen) (hbytes : (n + m) * bytes <= 140737488355328) :
  ∃g' off' cap' w',(Builtin.append_ #[t,t] ty #[.slice (some ⟨g,off,none⟩) n cap,.slice (some a) m c]).run P w = .ok (.slice (some ⟨g',off',none⟩) (n + m) cap') w' /\ n + m <= cap' /\ cap' <= maxLen /\
   own w' (L.set k (rowo e sz (.slice (some ⟨g',off',none⟩) (n + m) cap') (n + m) (xs++news))) /\ Ext w w':=by
 obtain ⟨i,hi,hz,rfl,rfl⟩:=info_parts he
 obtain ⟨hlen,hv⟩:=OM k H hk
 have hkl : k < L.length:=(zS.1 hk).1
 have hlen' : (xs++news).length = (n + m) * i.size:=by rw [List.length_append,hlen,hl,Nat.add_mul]
 have h63' : n + m <= 9223372036854775807:=by simp only [maxLen] at h63; omega
 rcases hv with ⟨h0,_⟩ | ⟨g0,off0,cap0,cur,hv0,c1,c2,c3,c4,c5⟩
 ·cases h0
 ·simp only [Value.slice.injEq,Option.some.injEq,Addr.mk.injEq,and_true,true_and] at hv0
  obtain ⟨⟨rfl,rfl⟩,rfl⟩:=hv0
  have hk' : (L.set k (pts g (.cells cur e (0,0))))[k]? = some (pts g (.cells cur e (0,0))):=by simp [hkl]
  have hg:=CT k c5 hk'
  by_cases hroom : n + m <= cap
  ·have hm1:=Nat.mul_le_mul_right i.size hroom
   have hm2:=Nat.add_mul n m i.size
   have hfit : off + n * i.size + news.length <= cur.size:=by rw [hl,c3]; omega
   have hr:=Gu (P:=P) w t ty e i ht hi g off n cap cur hg a m c news hl hnews h1 hroom hfit
   refine ⟨g,off,cap,_,hr,hroom,c2,?_,⟨rfl,rfl,rfl,by simp [World.setRow]⟩⟩
   have hu : own (w.setRow g (cur.toList.take (off + n * i.size)++news++cur.toList.drop (off + n * i.size + news.length)).toArray) _:=Eh k (o':=.cells (cur.toList.take (off + n * i.size)++news++cur.toList.drop (off + n * i.size + news.length)).toArray e (0,0)) c5 hk' (by
    funext x
    by_cases hx : x = g
    ·subst hx; simp only [if_true]; exact setRow_heap w x cur _ e _ hg
    ·simp only [hx,if_false]; exact setRow_other w g x _ hx)
   have hk2 : ((L.set k (pts g (.cells cur e (0,0)))).set k (pts g (.cells (cur.toList.take (off + n * i.size)++news++cur.toList.drop (off + n * i.size + news.length)).toArray e (0,0))))[k]? =
     some (pts g (.cells (cur.toList.take (off + n * i.size)++news++cur.toList.drop (off + n * i.size + news.length)).toArray e (0,0))):=by simp [hkl]
   have h3:=Fe k (n:=n + m) (cap:=cap) (off:=off) (sz:=i.size) (xs:=xs++news) hu hk2 hroom c2 (by
    simp only [List.size_toArray,List.length_append,List.length_take,List.length_drop,Array.length_toList]
    omega) (by
    have e1 : cur.toList.take (off + n * i.size) = cur.toList.take off++xs:=by rw [List.take_add,c4]
    have e2 : (cur.toList.take off).length = off:=by rw [List.length_take,Array.length_toList]; omega
    rw [e1,zp,zp]
    rw [List.drop_append_of_le_length (by omega),List.drop_of_length_le (by omega),List.nil_append,<- zp,<- hlen']
    exact List.take_left)
   simpa only [List.set_set] using h3
  ·have holds : ∀j u,xs[j]? = some u -> w.cell? ((⟨g,off,none⟩ : Addr).add j) = some u:=fun j u hu=>by
    have hadd : (⟨g,off,none⟩ : Addr).add j = ⟨g,off + j,none⟩:=by unfold Addr.add; split <;> simp_all
    rw [hadd,(ld k c5 hk').1,<- Array.getElem?_toList]
    exact Gn c4 hu
   have hr:=run_append_grow (P:=P) w t ty e i z ht hi hz ⟨g,off,none⟩ n cap xs hlen holds a m c news hl hnews (by omega) (by omega) (growslice_fits (by omega) hbytes)
   have hge:=grownCap_ge w (n + m) cap e
   have hcm:=grownCap_le_maxLen w (n + m) cap e h63
   refine ⟨w.heap.size,0,_,_,hr,hge,hcm,?_,(zR _).drew.alloc _⟩
   have h2:=lh (li k (ln H) hk) (.cells (xs.toArray++news.toArray++Builtin.zeroCells z.cells (grownCap w (n + m) cap e - (n + m))) e)
   have h3:=Fe 0 (n:=n + m) (off:=0) (cap:=grownCap w (n + m) cap e) (sz:=i.size) (xs:=xs++news) h2 rfl hge hcm (by
    simp only [Array.size_append,List.size_toArray,size_zeroCells,hzs,hlen,hl,<- Nat.add_mul,Nat.zero_add]
    congr 1
    omega) (by
    simp only [Array.toList_append,zp,List.drop_zero]
    rw [<- zp,<- hlen']
    exact List.take_left)
   exact oT H k hk h3
theorem EG {w : World} {L : List HP} {ops : Array Oper} {o : Oper} {a : Act} {K : Act -> World -> Prop} {Q : Exit -> Act -> World -> Prop} {E : Prop} (hgd : o.guard = none) (s x : Operand) (t : TypeId)
  (ho : o.op = .call { callee:=.builtin .append,args:=#[s,x],argTypes:=#[t,t] })
  (k : Nat) (e : TypeId) {sz bytes : Nat} {z : Value} (ht : P.underlying t = some (.slice e)) (he : Elem P e sz bytes z) (hzs : z.cells.size = sz) (hsz : 0 < sz)
  {g off n cap : Nat} {xs : List Value} (hs : a.eval s = .slice (some ⟨g,off,none⟩) n cap) (H : own w L) (hk : L[k]? = some (rowo e sz (.slice (some ⟨g,off,none⟩) n cap) n xs))
  (ad : Addr) (m c : Nat) (news : List Value) (hx : a.eval x = .slice (some ad) m c) (hl : news.length = m * sz) (hnews : ∀j u,news[j]? = some u -> w.cell? (ad.add j) = some u) (h1 : ∀u∈news,u.oneCell' = true)
  (h63 : n + m <= maxLen) (hbytes : (n + m) * bytes <= 140737488355328)
  (h : ∀g' off' cap' w',n + m <= cap' -> cap' <= maxLen -> own w' (L.set k (rowo e sz (.slice (some ⟨g',off',none⟩) (n + m) cap') (n + m) (xs++news))) -> Ext w w' -> K (a.put o.dst (.slice (some ⟨g',off',none⟩) (n + m) cap')) w') : if Region.wanted o (yielded ops a.tmps) = true then Oper.wp P o a w K Q else E:=by
 rw [zt (by simp [Region.wanted,hgd])]
 obtain ⟨g',off',cap',w',hr,c1,c2,h2,h3⟩:=Ky (P:=P) k t o.type e ht he hzs hsz H hk ad m c news hl hnews h1 h63 hbytes
 unfold Oper.wp execOp
 simp only [ho,resolve,invoke,builtin,Sem.run_bind,Sem.run_pure,Result.andThen_ok,List.map_toArray,List.map_cons,List.map_nil,hs,hx,hr]
 exact h g' off' cap' w' c1 c2 h2 h3
end
end Go.SL
namespace Go.Proofs.YtbpblokfiajpjabGreatDoor
open Go.RowKit Go.SL
def upd {α : Type} (f : Nat -> α) (k : Nat) (x : α) : Nat -> α:=fun j=>if j = k then x else f j
theorem BR {α : Type} (f : Nat -> α) (k : Nat) (x : α) : upd f k x k = x:=zt rfl
theorem AK {α : Type} (f : Nat -> α) {k j : Nat} (x : α) (h : j≠k) : upd f k x j = f j:=zq h
def yo (n : Nat) (vs : Nat -> Value) (hs : Nat -> List ByteArray) : List HP:=(List.range n).map fun k=>rowo 9 1 (vs k) (hs k).length (strCells (hs k))
theorem Bd (n : Nat) (vs : Nat -> Value) (hs : Nat -> List ByteArray) : (yo n vs hs).length = n:=by simp [yo]
theorem EO {n : Nat} (vs : Nat -> Value) (hs : Nat -> List ByteArray) {k : Nat} (h : k < n) : (yo n vs hs)[k]? = some (rowo 9 1 (vs k) (hs k).length (strCells (hs k))):=by simp [yo,h]
theorem UG {n : Nat} (vs : Nat -> Value) (hs : Nat -> List ByteArray) {k : Nat} (v : Value) (l : List ByteArray) (_h : k < n) : (yo n vs hs).set k (rowo 9 1 v l.length (strCells l)) = yo n (upd vs k v) (upd hs k l):=by
 apply List.ext_getElem?
 intro j
 rw [List.getElem?_set]
 by_cases hj : j < n
 ·rw [EO _ _ hj]
  by_cases e : k = j
  ·subst e
   rw [zt rfl,zt (by rw [Bd]; exact hj),EO _ _ hj,BR,BR]
  ·rw [zq e,EO _ _ hj,AK _ _ (fun h=>e h.symm),AK _ _ (fun h=>e h.symm)]
 ·have h1 : (yo n (upd vs k v) (upd hs k l))[j]? = none:=List.getElem?_eq_none (by rw [Bd]; omega)
  have h2 : (yo n vs hs)[j]? = none:=List.getElem?_eq_none (by rw [Bd]; omega)
  rw [h1,h2]
  split
  ·rw [zq (by rw [Bd]; omega)]
  ·rfl
theorem S6 (n : Nat) (vs : Nat -> Value) (hs : Nat -> List ByteArray) (v : Value) (l : List ByteArray) : yo (n + 1) (upd vs n v) (upd hs n l) = yo n vs hs++[rowo 9 1 v l.length (strCells l)]:=by
 unfold yo
 rw [List.range_succ,List.map_append]
 congr 1
 ·apply List.map_congr_left
  intro j hj
  have : j≠n:=by have:=List.mem_range.1 hj; omega
  rw [AK _ _ this,AK _ _ this]
 ·simp [BR]
theorem Of {n : Nat} {A : List HP} {R : List HP} (vs : Nat -> Value) (hs : Nat -> List ByteArray) {k : Nat} (h : k < n) : (A++(yo n vs hs++R))[A.length + k]? = some (rowo 9 1 (vs k) (hs k).length (strCells (hs k))):=by
 rw [List.getElem?_append_right (by omega),Nat.add_sub_cancel_left,List.getElem?_append_left (by rw [Bd]; exact h)]
 exact EO vs hs h
theorem Vd {n : Nat} {A : List HP} {R : List HP} (vs : Nat -> Value) (hs : Nat -> List ByteArray) {k : Nat} (v : Value) (l : List ByteArray) (h : k < n) :
  (A++(yo n vs hs++R)).set (A.length + k) (rowo 9 1 v l.length (strCells l)) = A++(yo n (upd vs k v) (upd hs k l)++R):=by
 rw [List.set_append_right _ _ (by omega),Nat.add_sub_cancel_left,List.set_append_left _ _ (by rw [Bd]; exact h),UG vs hs v l h]
end Go.Proofs.YtbpblokfiajpjabGreatDoor
namespace Go.SL
theorem JG {w : World} {L : List HP} {k : Nat} {P Q : HP} (hk : L[k]? = some P) (H : own w (Q::L)) : own w (L.set k Q):=by
 have h1 : own w (Q::L.eraseIdx k):=li (k + 1) H (by simpa using hk)
 exact oT (lg H) k hk h1
end Go.SL
namespace Go.Proofs.YtbpblokfiajpjabGreatDoor
open Go.RowKit Go.SL Go.Crc
attribute [local go_sem ↓] Go.wp_at_zero Go.wp_at_succ
theorem Ku : Elem Tryz.prog 206 1 24 (.slice none 0 0):=by unfold Elem; kernel_rfl
def oR (n : Nat) (f : Nat -> Value) : List Value:=(List.range n).map f
theorem Ea {n : Nat} {f : Nat -> Value} {i : Nat} (h : i < n) : (oR n f)[i]? = some (f i):=by simp [oR,h]
theorem Ki {n : Nat} {f : Nat -> Value} {i : Nat} (v : Value) : (oR n f).set i v = oR n (upd f i v):=by
 apply List.ext_getElem?
 intro j
 rw [List.getElem?_set]
 by_cases hj : j < n
 ·rw [Ea hj,Ea hj]
  by_cases e : i = j
  ·subst e; rw [zt rfl,zt (by simpa [oR] using hj),BR]
  ·rw [zq e,AK _ _ fun h=>e h.symm]
 ·have h1 : ∀f : Nat -> Value,(oR n f)[j]? = none:=fun f=>List.getElem?_eq_none (by simp [oR]; omega)
  rw [h1,h1]
  split
  ·rw [zq (by simp [oR]; omega)]
  ·rfl
theorem IW {n : Nat} {f : Nat -> Value} (v : Value) : oR (n + 1) (upd f n v) = oR n f++[v]:=by
 unfold oR
 rw [List.range_succ,List.map_append]
 congr 1
 ·exact List.map_congr_left fun j hj=>AK _ _ (by have:=List.mem_range.1 hj; omega)
 ·simp [BR]
def gP (gb : Nat) (vn vc : Value) (cn rn cc rc : Nat -> Value) (g : lO) : List SL.HP:=
 [pts gb (.cells #[vn,vc] 204 (0,0)),row 206 1 vn g.now.length (oR g.now.length cn),row 206 1 vc g.cr.length (oR g.cr.length cc)]++(yo g.now.length rn (lsAt g.now)++yo g.cr.length rc (lsAt g.cr))
abbrev gL (gb : Nat) (vn vc : Value) (nv cv : Nat -> Value) (g : lO) : List SL.HP:=gP gb vn vc nv nv cv cv g
section
variable {gb : Nat} {vn vc : Value} {cn rn cc rc : Nat -> Value} {g : lO} {R : List SL.HP} {w : World}
theorem AY : gP gb vn vc cn rn cc rc g++R = [pts gb (.cells #[vn,vc] 204 (0,0)),row 206 1 vn g.now.length (oR g.now.length cn),row 206 1 vc g.cr.length (oR g.cr.length cc)]++(yo g.now.length rn (lsAt g.now)++(yo g.cr.length rc (lsAt g.cr)++R)):=by
 unfold gP
 simp only [zp]
theorem JZ {i : Nat} (h : i < g.now.length) : (gP gb vn vc cn rn cc rc g++R)[3 + i]? = some (rowo 9 1 (rn i) (lsAt g.now i).length (strCells (lsAt g.now i))):=by
 rw [AY]
 exact Of (A:=[_,_,_]) rn (lsAt g.now) h
theorem S4 {i : Nat} (h : i < g.cr.length) : (gP gb vn vc cn rn cc rc g++R)[3 + g.now.length + i]? = some (rowo 9 1 (rc i) (lsAt g.cr i).length (strCells (lsAt g.cr i))):=by
 rw [AY,<- zp]
 have:=Of (A:=[pts gb (.cells #[vn,vc] 204 (0,0)),row 206 1 vn g.now.length (oR g.now.length cn),row 206 1 vc g.cr.length (oR g.cr.length cc)]++yo g.now.length rn (lsAt g.now)) (R:=R) rc (lsAt g.cr) h
 rwa [List.length_append,Bd] at this
theorem Kp {n : Nat} {A R : List SL.HP} (vs : Nat -> Value) (l : List (List ByteArray)) {i : Nat} (v : Value) (x : List ByteArray) (h : i < n) (hl : l.length = n) :
  (A++(yo n vs (lsAt l)++R)).set (A.length + i) (rowo 9 1 v x.length (strCells x)) = A++(yo n (upd vs i v) (lsAt (l.set i x))++R):=by
 rw [Vd vs (lsAt l) v x h]
 congr 2
 unfold yo
 refine List.map_congr_left fun j hj=>?_
 rw [Gb (by omega)]
 by_cases e : j = i
 ·subst e; rw [BR,BR,zt rfl]
 ·rw [AK _ _ e,AK _ _ e,zq e]
theorem Kx {i : Nat} (h : i < g.now.length) (v : Value) (x : List ByteArray) : (gP gb vn vc cn rn cc rc g++R).set (3 + i) (rowo 9 1 v x.length (strCells x)) = gP gb vn vc cn (upd rn i v) cc rc { g with now:=g.now.set i x }++R:=by
 rw [AY,AY]
 have:=Kp (A:=[pts gb (.cells #[vn,vc] 204 (0,0)),row 206 1 vn g.now.length (oR g.now.length cn),row 206 1 vc g.cr.length (oR g.cr.length cc)]) (R:=yo g.cr.length rc (lsAt g.cr)++R) rn g.now v x h rfl
 dsimp only
 rw [List.length_set]
 exact this
theorem Lq {i : Nat} (h : i < g.cr.length) (v : Value) (x : List ByteArray) : (gP gb vn vc cn rn cc rc g++R).set (3 + g.now.length + i) (rowo 9 1 v x.length (strCells x)) = gP gb vn vc cn rn cc (upd rc i v) { g with cr:=g.cr.set i x }++R:=by
 rw [AY,AY]
 have:=Kp (A:=[pts gb (.cells #[vn,vc] 204 (0,0)),row 206 1 vn g.now.length (oR g.now.length cn),row 206 1 vc g.cr.length (oR g.cr.length cc)]++yo g.now.length rn (lsAt g.now)) (R:=R) rc g.cr v x h rfl
 dsimp only
 rw [List.length_set]
 rw [List.length_append,Bd] at this
 simp only [zp] at this
 exact this
theorem Fb {i : Nat} (h : i < g.now.length) (v : Value) (x : List ByteArray) (H : own w (rowo 9 1 v x.length (strCells x)::(gP gb vn vc cn rn cc rc g++R))) : own w (gP gb vn vc cn (upd rn i v) cc rc { g with now:=g.now.set i x }++R):=by
 rw [<- Kx h]
 exact JG (JZ h) H
theorem Ke {i : Nat} (h : i < g.cr.length) (v : Value) (x : List ByteArray) (H : own w (rowo 9 1 v x.length (strCells x)::(gP gb vn vc cn rn cc rc g++R))) : own w (gP gb vn vc cn rn cc (upd rc i v) { g with cr:=g.cr.set i x }++R):=by
 rw [<- Lq h]
 exact JG (S4 h) H
theorem Dx {a cap i n : Nat} (hv : vn = .slice (some ⟨a,0,none⟩) n cap) (hn : g.now.length = n) (h : i < n) (v : Value) (H : own w (gP gb vn vc cn rn cc rc g++R)) : own (w.setCell ⟨a,i,none⟩ v) (gP gb vn vc (upd cn i v) rn cc rc g++R):=by
 subst hn
 have h1:=z8 (e:=206) (sz:=1) (g:=a) (n:=g.now.length) (cap:=cap) (xs:=oR g.now.length cn) 1 i v H (by rw [<- hv]; rfl) (by omega)
 rw [Ki,<- hv] at h1
 exact h1
theorem F9 {a cap i n : Nat} (hv : vc = .slice (some ⟨a,0,none⟩) n cap) (hn : g.cr.length = n) (h : i < n) (v : Value) (H : own w (gP gb vn vc cn rn cc rc g++R)) : own (w.setCell ⟨a,i,none⟩ v) (gP gb vn vc cn rn (upd cc i v) rc g++R):=by
 subst hn
 have h1:=z8 (e:=206) (sz:=1) (g:=a) (n:=g.cr.length) (cap:=cap) (xs:=oR g.cr.length cc) 2 i v H (by rw [<- hv]; rfl) (by omega)
 rw [Ki,<- hv] at h1
 exact h1
theorem Yp (h : 0 < g.now.length) (H : own w (gP gb vn vc cn rn cc rc g++R)) : ∃a cap,vn = .slice (some ⟨a,0,none⟩) g.now.length cap /\ g.now.length <= cap:=by
 obtain ⟨ao,a,cap,hv,h1,-,h3,-⟩:=lm 1 H rfl
 obtain rfl:=h3 h
 exact ⟨a,cap,hv,h1⟩
theorem Yg (h : 0 < g.cr.length) (H : own w (gP gb vn vc cn rn cc rc g++R)) : ∃a cap,vc = .slice (some ⟨a,0,none⟩) g.cr.length cap /\ g.cr.length <= cap:=by
 obtain ⟨ao,a,cap,hv,h1,-,h3,-⟩:=lm 2 H rfl
 obtain rfl:=h3 h
 exact ⟨a,cap,hv,h1⟩
theorem Ax {w : World} (H : own w (gP gb vn vc cn rn cc rc g++R)) : w.cell? ⟨gb,0,none⟩ = some vn /\ w.cell? ⟨gb,1,none⟩ = some vc /\ w.frozen? ⟨gb,0,none⟩ = false /\ w.frozen? ⟨gb,1,none⟩ = false:=
 ⟨(ld 0 H rfl).1 0,(ld 0 H rfl).1 1,(ld 0 H rfl).2 0,(ld 0 H rfl).2 1⟩
theorem AO {a cap i n : Nat} (hv : vn = .slice (some ⟨a,0,none⟩) n cap) (hn : g.now.length = n) (h : i < n) (H : own w (gP gb vn vc cn rn cc rc g++R)) : w.cell? ⟨a,i,none⟩ = some (cn i) /\ w.frozen? ⟨a,i,none⟩ = false:=by
 subst hn
 have hc:=oa (e:=206) (sz:=1) (g:=a) (n:=g.now.length) (cap:=cap) (xs:=oR g.now.length cn) 1 H (by rw [<- hv]; rfl)
 exact ⟨hc.1 i _ (Ea h),hc.2 i⟩
theorem Dp {a cap i n : Nat} (hv : vc = .slice (some ⟨a,0,none⟩) n cap) (hn : g.cr.length = n) (h : i < n) (H : own w (gP gb vn vc cn rn cc rc g++R)) : w.cell? ⟨a,i,none⟩ = some (cc i) /\ w.frozen? ⟨a,i,none⟩ = false:=by
 subst hn
 have hc:=oa (e:=206) (sz:=1) (g:=a) (n:=g.cr.length) (cap:=cap) (xs:=oR g.cr.length cc) 2 H (by rw [<- hv]; rfl)
 exact ⟨hc.1 i _ (Ea h),hc.2 i⟩
end
theorem Dt {w : World} {L : List SL.HP} (s : ByteArray) (H : own w L) : own (w.alloc (.cells #[.string s] 9)) (rowo 9 1 (.slice (some ⟨w.heap.size,0,none⟩) 1 1) [s].length (strCells [s])::L):=
 Fe 0 (g:=w.heap.size) (off:=0) (cap:=1) (n:=1) (sz:=1) (xs:=strCells [s]) (lh H (.cells #[.string s] 9)) rfl (Nat.le_refl _) (by simp [maxLen]) rfl rfl
theorem FI (s : ByteArray) (k : Nat) (hk : 16 * k + 16 <= s.size) (hs : s.size <= 1000000) (w : World) : Calls Tryz.prog 143 #[.string s,.int .i64 k] w fun e w'=>e = .returned (.string (lw s k)) /\ w = w':=by
 have b1 : (0 : Int) <= 16 * (k : Int):=by omega
 have b2 : 16 * (k : Int) <= 16 * (k : Int) + 16:=by omega
 have b3 : 16 * (k : Int) + 16 <= (s.size : Int):=by omega
 have hsl : ∀wx : World,(Instr.slice 9 (.string s) (some (.int .i64 (16 * (k : Int)))) (some (.int .i64 (16 * (k : Int) + 16))) none).run Tryz.prog wx = .ok (.string (lw s k)) wx:=fun wx=>by
  have:=run_slice_string (P:=Tryz.prog) wx 9 s .i64 .i64 (16 * (k : Int)) (16 * (k : Int) + 16) Tryz.underlying9 b1 b2 b3
  rw [this,CB,show (16 * (k : Int)).toNat = 16 * k from by omega,show (16 * (k : Int) + 16).toNat = 16 * k + 16 from by omega]
 have hk2 : (k : Int) <= 1000000:=by omega
 clear b1 b2 b3 hk
 go_enter Tryz.func143,Tryz.ntmps143
 go_wp2_with fail
 go_ret
 exact ⟨rfl,rfl⟩
theorem X5 (f : Int) (w : World) : Calls Tryz.prog 49 #[.nilIface,.int .i64 f] w fun e w'=>e = .returned (.bool (f == 0)) /\ w = w':=by
 go_enter Tryz.func49,Tryz.ntmps49
 go_wp2
 go_ret
 exact ⟨rfl,rfl⟩
theorem XY (n f : Int) (w : World) : Calls Tryz.prog 49 #[.iface 128 (.int .i64 n),.int .i64 f] w fun e w'=>e = .returned (.bool (decide (0 < f) && n == f)) /\ w = w':=by
 have ha:=QS n
 by_cases hf : 0 < f
 ·go_enter Tryz.func49,Tryz.ntmps49
  go_wp2
  all_goals go_ret
  all_goals exact ⟨Ai (by rw [zg hf]; simp),rfl⟩
 ·go_enter Tryz.func49,Tryz.ntmps49
  go_wp2
  all_goals go_ret
  all_goals exact ⟨Ai (by rw [zf (show ¬0 < f by omega)]; rfl),rfl⟩
theorem UM (n f : Int) (w : World) (hn : 0 <= n) : Calls Tryz.prog 49 #[errV n,.int .i64 f] w fun e w'=>e = .returned (.bool (decide (n = f))) /\ w = w':=by
 by_cases h : n = 0
 ·subst h
  exact (X5 f w).mono fun e w' ⟨he,hw⟩=>⟨by rw [he]; exact Ai (by rw [Bool.eq_iff_iff]; simp; omega),hw⟩
 ·rw [lv (by omega)]
  exact (XY n f w).mono fun e w' ⟨he,hw⟩=>⟨by rw [he]; exact Ai (by rw [Bool.eq_iff_iff]; simp; omega),hw⟩
theorem QE (ao : Option Addr) (g off cap : Nat) (l : List ByteArray) (s : ByteArray) (w : World) (hlen : l.length <= 1000000) (hao : 0 < l.length -> ao = some ⟨g,off,none⟩) (hat : ∀i,i < l.length -> w.cell? ⟨g,off + i,none⟩ = some (.string (l.getD i ByteArray.empty))) (hs : s∈l) :
  Calls Tryz.prog 144 #[.slice ao l.length cap,.string s] w fun e w'=>e = .returned (.bool true) /\ w = w':=by
 have HAT:=zh hat
 have HAO:=zh hao
 clear hat hao
 go_enter Tryz.func144,Tryz.ntmps144
 go_wp2_with fail
 go_loop [5] (fun i=>∃q : Nat,q <= l.length /\ i = .int .i64 q /\ s∉l.take q) (fun i=>l.length - (intOf i).toNat)
 case atStart=>exact ⟨0,Nat.zero_le _,rfl,by simp⟩
 case round=>
  obtain ⟨q,hq,rfl,hno⟩:=hrel
  have HNO:=zh hno
  clear hno
  by_cases hlt : q < l.length
  ·obtain rfl:=HAO.out (by omega)
   have c1:=HAT.out q hlt
   have hto:=yU ByteArray.empty hlt
   have HT:=zh hto
   clear hto
   generalize l.getD q ByteArray.empty = y at *
   by_cases hy : y = s
   ·subst hy
    go_wp2_with fail
    go_ret
    exact ⟨rfl,rfl⟩
   ·have t0 : (y.toList == s.toList) = false:=by
     rw [zb]
     exact fun h=>hy (C2 h)
    have HY:=zh hy
    clear hy
    go_wp2_with fail
    go_round
    case rel=>exact ⟨q + 1,by omega,by go_num,by
     rw [HT.out]
     intro h
     rcases List.mem_append.1 h with h | h
     ·exact HNO.out h
     ·exact HY.out (List.mem_singleton.1 h).symm⟩
    case measure=>simp [intOf]; omega
  ·have hq' : q = l.length:=by omega
   exact absurd (by rw [hq',List.take_length]; exact hs) HNO.out
theorem WL {gb : Nat} {vn vc : Value} {cn rn cc rc : Nat -> Value} {g : lO} {R : List SL.HP} {w : World} {i : Nat} (h : i < g.now.length) (hl : (lsAt g.now i).length <= 1000000) (s : ByteArray) (hs : s∈lsAt g.now i) (H : own w (gP gb vn vc cn rn cc rc g++R)) :
  Calls Tryz.prog 144 #[rn i,.string s] w fun e w'=>e = .returned (.bool true) /\ w = w':=by
 obtain ⟨ao,b,off,cap,hv,-,-,h3,h4,-⟩:=Bt (3 + i) H (JZ h)
 rw [hv]
 exact QE ao b off cap (lsAt g.now i) s w hl h3 (fun j hj=>h4 j _ (BX hj)) hs
theorem XJ {gb : Nat} {vn vc : Value} {cn rn cc rc : Nat -> Value} {g : lO} {R : List SL.HP} {w : World} {i : Nat} (h : i < g.cr.length) (hl : (lsAt g.cr i).length <= 1000000) (s : ByteArray) (hs : s∈lsAt g.cr i) (H : own w (gP gb vn vc cn rn cc rc g++R)) :
  Calls Tryz.prog 144 #[rc i,.string s] w fun e w'=>e = .returned (.bool true) /\ w = w':=by
 obtain ⟨ao,b,off,cap,hv,-,-,h3,h4,-⟩:=Bt (3 + g.now.length + i) H (S4 h)
 rw [hv]
 exact QE ao b off cap (lsAt g.cr i) s w hl h3 (fun j hj=>h4 j _ (BX hj)) hs
end Go.Proofs.YtbpblokfiajpjabGreatDoor
namespace Go.Proofs.YtbpblokfiajpjabGreatDoor
open Go.RowKit Go.SL Go.Crc
attribute [local go_sem ↓] Go.wp_at_zero Go.wp_at_succ
def LsOk (g : lO) (B : Nat) : Prop:=∀i,i < g.now.length -> 0 < (lsAt g.now i).length /\ (lsAt g.now i).length <= B /\ 0 < (lsAt g.cr i).length /\ (lsAt g.cr i).length <= B
theorem Ez {g : lO} {fr : Nat} {s : ByteArray} {well : Bool} {B k : Nat} (h1 : fr + k <= g.now.length) (h2 : fr + k <= g.cr.length) (hB : LsOk g B) : LsOk (zd g fr s well k) (B + 1):=by
 intro i hi
 rw [(DC g fr s well k).1] at hi
 obtain ⟨a,b⟩:=F5 (well:=well) (s:=s) h1 h2 i
 obtain ⟨c,d,e,f⟩:=hB i hi
 rw [a,b]
 refine ⟨?_,?_,?_,?_⟩
 ·split
  ·split
   ·simp
   ·simp
  ·exact c
 ·split
  ·split
   ·simp
   ·simp; omega
  ·omega
 ·split
  ·simp
  ·exact e
 ·split
  ·simp; omega
  ·omega
theorem LJ (gb : Nat) (vn vc : Value) (nv0 cv0 : Nat -> Value) (g : lO) (fr : Nat) (s : ByteArray) (well : Bool) (hs : s.size % 16 = 0) (hs2 : s.size <= 100000) (hr : fr + s.size / 16 <= g.now.length) (hc : g.cr.length = g.now.length) (hn : g.now.length <= 1000) {B : Nat} (hB : LsOk g B) (hB2 : B <= 100000) (R : List SL.HP) (w : World) (H : own w (gL gb vn vc nv0 cv0 g++R)) :
  Calls Tryz.prog 140 #[.pointer (some ⟨gb,0,none⟩),.int .i64 fr,.string s,.bool well] w fun e w'=>∃nv cv,e = .returned (.tuple #[]) /\ Ext w w' /\ own w' (gL gb vn vc nv cv (Al g fr s well)++R):=by
 have HSEC:=zh (fun k (hk : k < s.size / 16) (w : World)=>FI s k (by omega) (by omega) w)
 have HB:=zh (fun k (hk : k <= s.size / 16)=>Ez (well:=well) (s:=s) (fr:=fr) (k:=k) (g:=g) (by omega) (by omega) hB)
 have HL:=zh (fun k=>DC g fr s well k)
 have HC:=zh hc
 have HZ:=zh (show s.size = 16 * (s.size / 16) by omega)
 unfold Al
 have hz16 : (s.size : Int) = 16 * ((s.size / 16 : Nat) : Int):=by omega
 have hn16 : s.size / 16 <= 6250:=by omega
 clear hB hs hs2 hc
 generalize s.size / 16 = n at *
 go_enter Tryz.func140,Tryz.ntmps140
 go_wp2_with fail
 go_loopw [8] (fun kv wr=>∃(k : Nat) (nv cv : Nat -> Value),k <= n /\ kv = .int .i64 k /\ Ext w wr /\ own wr (gL gb vn vc nv cv (zd g fr s well k)++R)) (fun kv _=>n - (intOf kv).toNat)
 case atStart=>exact ⟨0,nv0,cv0,by omega,rfl,zR w,H⟩
 case round=>
  clear H
  obtain ⟨k,nv,cv,hk,rfl,hxr,hown⟩:=hrel
  by_cases hlt : k < n
  ·have hsec:=HSEC.out k hlt wr
   obtain ⟨l1,l2⟩:=HL.out k
   have hc:=HC.out
   have hln:=HB.out k hk
   have hsz : (s.size : Int) = 16 * (n : Int):=hz16
   generalize hgk : zd g fr s well k = gk at *
   have HNX : Hid (zd g fr s well (k + 1) = { now:=gk.now.set (fr + k) (if well then [lw s k] else lsAt gk.now (fr + k)++[lw s k]),cr:=gk.cr.set (fr + k) (lsAt gk.cr (fr + k)++[lw s k]) }):=zh (by rw [zd,hgk])
   clear hgk
   generalize lw s k = t at *
   obtain ⟨i,hi⟩ : ∃i : Nat,i = fr + k:=⟨_,rfl⟩
   rw [<- hi] at HNX
   have hi1 : i < gk.now.length:=by omega
   have hi2 : i < gk.cr.length:=by omega
   have p1 : (0 : Int) <= (k : Int):=by omega
   have p2 : (k : Int) < 6250:=by omega
   have p5 : 16 * (k : Int) < (s.size : Int):=by omega
   have e1 : (fr : Int) + (k : Int) = (i : Int):=by omega
   have p6 : (0 : Int) <= (i : Int):=by omega
   have p7 : (i : Int) <= 1000:=by omega
   have p8 : (i : Int) < (gk.now.length : Int):=by omega
   have p9 : (i : Int) < (gk.cr.length : Int):=by omega
   have e2 : IntKind.i64.wrap (i : Int) = (i : Int):=zi _ (by omega)
   obtain ⟨ln1,ln2,ln3,ln4⟩:=hln i (by omega)
   clear hi hsz hz16 l1 l2 hc
   go_wp2_with fail
   refine hsec.mono ?_
   rintro e w1 ⟨rfl,rfl⟩
   obtain ⟨a,cap,hv,hcap⟩:=Yp (by omega) hown
   obtain ⟨b,cap2,hv2,hcap2⟩:=Yg (by omega) hown
   have HNX2:=zh (show ∀nv' cv' wz,own wz (gL gb vn vc nv' cv' { now:=gk.now.set i (if well then [t] else lsAt gk.now i++[t]),cr:=gk.cr.set i (lsAt gk.cr i++[t]) }++R) -> own wz (gL gb vn vc nv' cv' (zd g fr s well (k + 1))++R) from fun _ _ _ h=>by rw [HNX.out]; exact h)
   clear HNX
   cases well
   case' false=>
    rw [zq (by decide)] at HNX2
    obtain ⟨c0,-,-,-⟩:=Ax hown
    rw [hv] at c0
    have hat:=JZ (gb:=gb) (vn:=vn) (vc:=vc) (cn:=nv) (rn:=nv) (cc:=cv) (rc:=cv) (g:=gk) (R:=R) (i:=i) hi1
    obtain ⟨ao9,g9,o9,cp9,hv9,q1,q2,q3,-,-⟩:=Bt _ hown hat
    obtain rfl:=q3 ln1
    have s2:=(AO hv rfl hi1 hown).1
    rw [hv9] at s2 hat
    have H5:=zh (ln (lh hown (.cells #[.string t] 9)))
    have HX5:=zh (hxr.alloc (.cells #[.string t] 9)).drew
    have S2:=zh s2
    have HATK:=zh (show (pts wr.heap.size (.cells #[.string t] 9 (0,0))::(gL gb vn vc nv cv gk++R))[3 + i + 1]? = _ from hat)
    have HV9:=zh hv9
    have HV:=zh hv
    have hml : (lsAt gk.now i).length + 1 <= maxLen:=by simp only [maxLen]; omega
    clear s2 hat hv9 hown hxr q1 q2 q3
    go_upto_region 6 with (fail)
    refine wp_region_held_drew (S:=fun w'=>w'.cell? ⟨gb,0,none⟩ = some (.slice (some ⟨a,0,none⟩) gk.now.length cap)) (by kernel_rfl) c0 (fun hHeld=>?_)
    refine tk 0 ?_
    refine tk 1 ?_
    refine tk 2 ?_
    refine tk 3 ?_
    refine tk 4 ?_
    refine tk 5 ?_
    refine tk 6 ?_
    refine tk 7 ?_
    refine tk 8 ?_
    refine tk 9 ?_
    refine tk 10 ?_
    refine tk 11 ?_
    refine tk 12 ?_
    refine tk 13 ?_
    refine tk 14 ?_
    try simp only [Act.put,tA,tB,tC,tD,tE,tF]
    refine tk 16 ?_
    try simp only [Act.put,tA,tB,tC,tD,tE,tF]
    have HS5 : ∀(wx : World) {P : SL.HP} {cn' rn' : Nat -> Value} {g' : lO},own wx (P::(gP gb vn vc cn' rn' cv cv g'++R)) -> wx.cell? ⟨gb,0,none⟩ = some (.slice (some ⟨a,0,none⟩) gk.now.length cap):=fun wx _ _ _ _ h=>((ld 1 h rfl).1 0).trans (congrArg some HV.out)
    have HS:=zh (fun wx P cn' rn' g'=>HS5 wx (P:=P) (cn':=cn') (rn':=rn') (g':=g'))
    clear HS5 c0
    refine wpAnyH_ready (rs:=[15,17]) (by kernel_rfl) (by simp) ?_
    refine AllReadyH.cons rfl (fun K hK=>?_) (AllReadyH.cons rfl (fun K hK=>?_) AllReadyH.nil)
    have s2:=S2.out
    go_simp
    refine hK.out _ _ hHeld (fun _=>?_)
    clear hK K s2
    try simp only [Act.put,tA,tB,tC,tD,tE,tF]
    refine rd 17 rfl fun K hK=>?_
    go_simp
    refine hK.out _ _ (HS.out _ _ _ _ _ H5.out) (fun _=>?_)
    clear hK K
    try simp only [Act.put,tA,tB,tC,tD,tE,tF]
    rotate_left
    go_simp
    refine hK.out _ _ (HS.out _ _ _ _ _ H5.out) (fun _=>?_)
    clear hK K
    try simp only [Act.put,tA,tB,tC,tD,tE,tF]
    refine rd 15 rfl fun K hK=>?_
    have s2 : (wr.alloc (.cells #[.string t] 9)).drew.cell? ⟨a,i,none⟩ = some (.slice (some ⟨g9,o9,none⟩) (lsAt gk.now i).length cp9):=by rw [(AO HV.out rfl hi1 (lg H5.out)).1,HV9.out]
    go_simp
    refine hK.out _ _ (HS.out _ _ _ _ _ H5.out) (fun _=>?_)
    clear hK K s2
    try simp only [Act.put,tA,tB,tC,tD,tE,tF]
    rotate_left
    all_goals
     refine rd 18 rfl fun K hK=>?_
     have h5:=H5.out
     refine EG (by rfl) _ _ 206 (by rfl) (3 + i + 1) 9 Tryz.underlying206 AX rfl (by decide) (by rfl) h5 HATK.out ⟨wr.heap.size,0,none⟩ 1 1 [.string t] (by rfl) rfl (fun j u hu=>(yl wr [.string t] 9) _ rfl j u hu) (La _) hml (by show ((lsAt gk.now i).length + 1) * 16 <= 140737488355328; omega) ?_
     intro g6 o6 cp6 w6 z1 z2 h6 hx6
     replace hx6:=HX5.out.trans hx6
     replace h6 : own w6 (pts wr.heap.size (.cells #[.string t] 9 (0,0))::(gP gb vn vc nv (upd nv i (.slice (some ⟨g6,o6,none⟩) ((lsAt gk.now i).length + 1) cp6)) cv cv { gk with now:=gk.now.set i (lsAt gk.now i++[t]) }++R)):=by
      have e:=Kx (gb:=gb) (vn:=vn) (vc:=vc) (cn:=nv) (rn:=nv) (cc:=cv) (rc:=cv) (g:=gk) (R:=R) hi1 (.slice (some ⟨g6,o6,none⟩) ((lsAt gk.now i).length + 1) cp6) (lsAt gk.now i++[t])
      rw [show (lsAt gk.now i++[t]).length = (lsAt gk.now i).length + 1 by simp,show strCells (lsAt gk.now i++[t]) = strCells (lsAt gk.now i)++[.string t] by simp [strCells]] at e
      exact (congrArg (fun l=>own w6 (pts wr.heap.size (.cells #[.string t] 9 (0,0))::l)) e).mp h6
     refine hK.out _ _ (HS.out _ _ _ _ _ h6) (fun _=>?_)
     clear hK K h5
     try simp only [Act.put,tA,tB,tC,tD,tE,tF]
     refine tk 19 ?_
     try simp only [Act.put,tA,tB,tC,tD,tE,tF]
     refine rd 20 rfl fun K hK=>?_
     obtain ⟨s4,f4⟩:=AO (g:={ gk with now:=gk.now.set i (lsAt gk.now i++[t]) }) HV.out (List.length_set ..) hi1 (lg h6)
     have h3:=Dx (g:={ gk with now:=gk.now.set i (lsAt gk.now i++[t]) }) HV.out (List.length_set ..) hi1 (.slice (some ⟨g6,o6,none⟩) ((lsAt gk.now i).length + 1) cp6) (lg h6)
     have hx3:=hx6.setCell ⟨a,i,none⟩ (.slice (some ⟨g6,o6,none⟩) ((lsAt gk.now i).length + 1) cp6)
     go_simp
     refine hK.out _ _ (((ld 0 h3 rfl).1 0).trans (congrArg some HV.out)) (fun _=>?_)
     clear hK K s4 f4 h6 hx6
     try simp only [Act.put,tA,tB,tC,tD,tE,tF]
     refine wpAnyH_done (by kernel_rfl) ?_ _
     generalize w6.setCell ⟨a,i,none⟩ (.slice (some ⟨g6,o6,none⟩) ((lsAt gk.now i).length + 1) cp6) = w7 at *
     go_upto_region 7 with (fail)
     generalize upd nv i (.slice (some ⟨g6,o6,none⟩) ((lsAt gk.now i).length + 1) cp6) = nv7 at *
     replace h3 : own w7 (gL gb vn vc nv7 cv { gk with now:=gk.now.set i (lsAt gk.now i++[t]) }++R):=h3
     generalize gk.now.set i (lsAt gk.now i++[t]) = now7 at *
     clear H5 HX5 S2 HATK HV9 HV hml HS hHeld
   case' true=>
    rw [zt rfl] at HNX2
    obtain ⟨c0,-,-,-⟩:=Ax hown
    rw [hv] at c0
    have h2:=Dt t hown
    have hx2:=hxr.alloc (.cells #[.string t] 9)
    obtain ⟨c1,f1⟩:=AO hv rfl hi1 (lg h2)
    have h3:=Dx hv (by dsimp only; rw [List.length_set]) hi1 (.slice (some ⟨wr.heap.size,0,none⟩) 1 1) (Fb hi1 (.slice (some ⟨wr.heap.size,0,none⟩) 1 1) [t] h2)
    have hx3:=hx2.setCell ⟨a,i,none⟩ (.slice (some ⟨wr.heap.size,0,none⟩) 1 1)
    go_upto_region 7 with (fail)
    generalize (wr.alloc (.cells #[.string t] 9)).setCell ⟨a,i,none⟩ (.slice (some ⟨wr.heap.size,0,none⟩) 1 1) = w7 at *
    generalize upd nv i (.slice (some ⟨wr.heap.size,0,none⟩) 1 1) = nv7 at *
    replace h3 : own w7 (gL gb vn vc nv7 cv { gk with now:=gk.now.set i [t] }++R):=h3
    generalize gk.now.set i [t] = now7 at *
    clear h2 hx2 c0 c1 f1 hown hxr
   all_goals
    obtain ⟨-,c0,-,-⟩:=Ax h3
    rw [hv2] at c0
    have hat:=S4 (gb:=gb) (vn:=vn) (vc:=vc) (cn:=nv7) (rn:=nv7) (cc:=cv) (rc:=cv) (g:={ gk with now:=now7 }) (R:=R) (i:=i) hi2
    obtain ⟨ao9,g9,o9,cp9,hv9,q1,q2,q3,-,-⟩:=Bt _ h3 hat
    obtain rfl:=q3 ln3
    have s2:=(Dp (g:={ gk with now:=now7 }) hv2 rfl hi2 h3).1
    rw [hv9] at s2 hat
    have H5:=zh (ln (lh h3 (.cells #[.string t] 9)))
    have HX5:=zh (hx3.alloc (.cells #[.string t] 9)).drew
    have S2:=zh s2
    have HATK:=zh (show (pts w7.heap.size (.cells #[.string t] 9 (0,0))::(gL gb vn vc nv7 cv { gk with now:=now7 }++R))[3 + now7.length + i + 1]? = _ from hat)
    have HV9:=zh hv9
    have HV2:=zh hv2
    have hml : (lsAt gk.cr i).length + 1 <= maxLen:=by simp only [maxLen]; omega
    clear s2 hat hv9 h3 hx3 q1 q2 q3
    refine wp_region_held_drew (S:=fun w'=>w'.cell? ⟨gb,1,none⟩ = some (.slice (some ⟨b,0,none⟩) gk.cr.length cap2)) (by kernel_rfl) c0 (fun hHeld=>?_)
    refine tk 0 ?_
    refine tk 1 ?_
    refine tk 2 ?_
    refine tk 3 ?_
    refine tk 4 ?_
    refine tk 5 ?_
    refine tk 6 ?_
    refine tk 7 ?_
    refine tk 8 ?_
    refine tk 9 ?_
    refine tk 10 ?_
    refine tk 11 ?_
    refine tk 12 ?_
    refine tk 13 ?_
    refine tk 14 ?_
    try simp only [Act.put,tA,tB,tC,tD,tE,tF]
    refine tk 16 ?_
    try simp only [Act.put,tA,tB,tC,tD,tE,tF]
    have HS5 : ∀(wx : World) {P : SL.HP} {cc' rc' : Nat -> Value} {g' : lO},own wx (P::(gP gb vn vc nv7 nv7 cc' rc' g'++R)) -> wx.cell? ⟨gb,1,none⟩ = some (.slice (some ⟨b,0,none⟩) gk.cr.length cap2):=fun wx _ _ _ _ h=>((ld 1 h rfl).1 1).trans (congrArg some HV2.out)
    have HS:=zh (fun wx P cc' rc' g'=>HS5 wx (P:=P) (cc':=cc') (rc':=rc') (g':=g'))
    clear HS5
    refine wpAnyH_ready (rs:=[15,17]) (by kernel_rfl) (by simp) ?_
    refine AllReadyH.cons rfl (fun K hK=>?_) (AllReadyH.cons rfl (fun K hK=>?_) AllReadyH.nil)
    have s2:=S2.out
    go_simp
    refine hK.out _ _ hHeld (fun _=>?_)
    clear hK K s2
    try simp only [Act.put,tA,tB,tC,tD,tE,tF]
    refine rd 17 rfl fun K hK=>?_
    go_simp
    refine hK.out _ _ (HS.out _ _ _ _ _ H5.out) (fun _=>?_)
    clear hK K
    try simp only [Act.put,tA,tB,tC,tD,tE,tF]
    rotate_left
    go_simp
    refine hK.out _ _ (HS.out _ _ _ _ _ H5.out) (fun _=>?_)
    clear hK K
    try simp only [Act.put,tA,tB,tC,tD,tE,tF]
    refine rd 15 rfl fun K hK=>?_
    have s2 : (w7.alloc (.cells #[.string t] 9)).drew.cell? ⟨b,i,none⟩ = some (.slice (some ⟨g9,o9,none⟩) (lsAt gk.cr i).length cp9):=by rw [(Dp (g:={ gk with now:=now7 }) HV2.out rfl hi2 (lg H5.out)).1,HV9.out]
    go_simp
    refine hK.out _ _ (HS.out _ _ _ _ _ H5.out) (fun _=>?_)
    clear hK K s2
    try simp only [Act.put,tA,tB,tC,tD,tE,tF]
    rotate_left
    all_goals
     refine rd 18 rfl fun K hK=>?_
     have h5:=H5.out
     refine EG (by rfl) _ _ 206 (by rfl) (3 + now7.length + i + 1) 9 Tryz.underlying206 AX rfl (by decide) (by rfl) h5 HATK.out ⟨w7.heap.size,0,none⟩ 1 1 [.string t] (by rfl) rfl (fun j u hu=>(yl w7 [.string t] 9) _ rfl j u hu) (La _) hml (by show ((lsAt gk.cr i).length + 1) * 16 <= 140737488355328; omega) ?_
     intro g6 o6 cp6 w6 z1 z2 h6 hx6
     replace hx6:=HX5.out.trans hx6
     replace h6 : own w6 (pts w7.heap.size (.cells #[.string t] 9 (0,0))::(gP gb vn vc nv7 nv7 cv (upd cv i (.slice (some ⟨g6,o6,none⟩) ((lsAt gk.cr i).length + 1) cp6)) { now:=now7,cr:=gk.cr.set i (lsAt gk.cr i++[t]) }++R)):=by
      have e:=Lq (gb:=gb) (vn:=vn) (vc:=vc) (cn:=nv7) (rn:=nv7) (cc:=cv) (rc:=cv) (g:={ gk with now:=now7 }) (R:=R) hi2 (.slice (some ⟨g6,o6,none⟩) ((lsAt gk.cr i).length + 1) cp6) (lsAt gk.cr i++[t])
      rw [show (lsAt gk.cr i++[t]).length = (lsAt gk.cr i).length + 1 by simp,show strCells (lsAt gk.cr i++[t]) = strCells (lsAt gk.cr i)++[.string t] by simp [strCells]] at e
      exact (congrArg (fun l=>own w6 (pts w7.heap.size (.cells #[.string t] 9 (0,0))::l)) e).mp h6
     refine hK.out _ _ (HS.out _ _ _ _ _ h6) (fun _=>?_)
     clear hK K h5
     try simp only [Act.put,tA,tB,tC,tD,tE,tF]
     refine tk 19 ?_
     try simp only [Act.put,tA,tB,tC,tD,tE,tF]
     refine rd 20 rfl fun K hK=>?_
     obtain ⟨s4,f4⟩:=Dp (g:={ now:=now7,cr:=gk.cr.set i (lsAt gk.cr i++[t]) }) HV2.out (List.length_set ..) hi2 (lg h6)
     have h7:=F9 (g:={ now:=now7,cr:=gk.cr.set i (lsAt gk.cr i++[t]) }) HV2.out (List.length_set ..) hi2 (.slice (some ⟨g6,o6,none⟩) ((lsAt gk.cr i).length + 1) cp6) (lg h6)
     have hx7:=hx6.setCell ⟨b,i,none⟩ (.slice (some ⟨g6,o6,none⟩) ((lsAt gk.cr i).length + 1) cp6)
     go_simp
     refine hK.out _ _ (((ld 0 h7 rfl).1 1).trans (congrArg some HV2.out)) (fun _=>?_)
     clear hK K s4 f4 h6 hx6
     try simp only [Act.put,tA,tB,tC,tD,tE,tF]
     refine wpAnyH_done (by kernel_rfl) ?_ _
     generalize w6.setCell ⟨b,i,none⟩ (.slice (some ⟨g6,o6,none⟩) ((lsAt gk.cr i).length + 1) cp6) = w8 at *
     go_wp2_with fail
     go_roundw
     case rel=>exact ⟨k + 1,nv7,_,by omega,by go_num,hx7,HNX2.out _ _ _ h7⟩
     case measure=>simp [intOf]; omega
  ·obtain rfl : k = n:=by omega
   go_wp2_with fail
   go_end0
   exact ⟨nv,cv,rfl,hxr,hown⟩
end Go.Proofs.YtbpblokfiajpjabGreatDoor
