/- YardOpens answers true, whatever lies on the devices and whatever the acts, and leaves what it was given as it was. No conditions. -/
import Derived.Test.YtbpblokfiajpjabGreatDoorPk0cc4906ee9
import Derived.Test.YtbpblokfiajpjabGreatDoorProg
import Derived.Test.YtbpblokfiajpjabGreatDoorRows
import Derived.LaidMore
import Derived.Lay
import Derived.Test.YtbpblokfiajpjabGreatDoorCards
import Derived.Test.YtbpblokfiajpjabGreatDoorTie
import Derived.ShutString
import Derived.ChangeOld
import Derived.Below
import Derived.LaidOnce
import Derived.SevenTiedAt
set_option linter.all false
set_option maxRecDepth 1000000
set_option maxHeartbeats 32000000
namespace Go.Proofs.YtbpblokfiajpjabGreatDoor
open Go.RowKit Go.SL Go.Crc
def YLen (m : lf) : Prop:=∀k,k < 5 -> m.F k = none -> 0 < (m.D k).fl.length
theorem YLen.dev {N : Nat} {m : lf} (h : YLen m) (ho : YOk N m) {k : Nat} (hk : k < 5) : 0 < (devOf m k).fl.length:=by
 unfold devOf
 cases e : m.F k with
 | none=>exact h k hk e
 | some i=>
  have:=(ho.sh.ok k i hk e).need
  obtain ⟨-,-,hp⟩ : True /\ True /\ 0 <= i.p:=⟨trivial,trivial,by have:=(ho.sh.ok k i hk e).head; unfold lG at this; omega⟩
  dsimp only
  omega
structure KD (m m' : lf) : Prop where
 d : m'.D = m.D
 f : ∀k,k < 5 -> m'.F k = none -> m.F k = none
theorem KD.refl (m : lf) : KD m m:=⟨rfl,fun _ _ h=>h⟩
theorem KD.trans {a b c : lf} (h : KD a b) (g : KD b c) : KD a c:=⟨g.d.trans h.d,fun k hk e=>h.f k hk (g.f k hk e)⟩
theorem KD.of {m m' : lf} (hF : m'.F = m.F) (hD : m'.D = m.D) : KD m m':=⟨hD,fun k _ e=>by rw [<- hF]; exact e⟩
theorem YLen.kd {m m' : lf} (h : YLen m) (g : KD m m') : YLen m':=fun k hk e=>by rw [g.d]; exact h k hk (g.f k hk e)
theorem Aq (m : lf) (d : lK) : KD m (lw m d).2:=by
 unfold lw
 split <;> exact KD.of rfl rfl
theorem KD.step {n : Nat} {m : lf} {F' : ShM} (s : lI n m.F F') {oj : Option JobM} {l : List Int} : KD m { m with F:=F',job:=oj,list:=l }:=⟨rfl,fun k hk e=>by
 cases h : m.F k with
 | none=>rfl
 | some i=>
  obtain ⟨i',h1,-,-⟩:=s.yes k i hk h
  rw [show F' k = none from e] at h1
  cases h1⟩
theorem Kc (m : lf) (a b : Int) : KD m (yz m a b):=by
 unfold yz
 split
 ·exact KD.refl m
 ·split
  ·exact KD.refl m
  ·exact KD.of rfl rfl
theorem Qe {N : Nat} {m : lf} (h : lH N m) (hN : N + 1000 < 900000) (fr : Int) (s : ByteArray) (hs : s.size <= 3200) : KD m (zF m fr s).2:=by
 have hst:=Fd h.ok.sh (EZ h.ok) (by omega) fr s hs
 unfold zF
 split
 ·exact KD.refl m
 ·exact (KD.step (oj:=m.job) (l:=m.list) hst).trans (Kc _ _ _)
theorem SJ {N : Nat} {m : lf} (h : lH N m) (hN : N + 1000 < 900000) (fr n : Int) (hn : n <= 200) : KD m (zL m fr n).2:=by
 have hst:=D8 h.ok.sh (EZ h.ok) (by omega) fr n hn
 unfold zL
 split
 ·exact KD.refl m
 ·exact (KD.step (oj:=m.job) (l:=m.list) hst).trans (Kc _ _ _)
theorem P8 (m : lf) : KD m (z8 m):=⟨rfl,fun k hk e=>((Bv (l:=m.list) (F:=m.F)).none hk).1 e⟩
theorem S8 (m : lf) (a b c d : Int) : KD m (Aj m a b c d).2:=by
 unfold Aj
 repeat' split
 all_goals first
  | exact KD.refl m
  | exact Aq _ _
  | exact (Aq m _).trans (KD.of rfl rfl)
theorem Na (m : lf) (j : JobM) (r : Int) (b : Bool) : KD m (BJ m j r b).2:=by
 unfold BJ
 split
 ·exact Aq _ _
 ·exact (Aq m _).trans (KD.of rfl rfl)
theorem PF (m : lf) : KD m (zG m).2:=by
 unfold zG
 repeat' split
 all_goals first
  | exact KD.refl m
  | exact Na _ _ _ _
theorem Eb {m : lf} {j : JobM} {F : ShM} (hF : ∀k,k < 5 -> F k = none -> m.F k = none) {oj : Option JobM} {l : List Int} : KD m { m with F:=(lz F j).2.1,job:=oj,list:=l }:=
 ⟨rfl,fun k hk e=>hF k hk ((BW hk).1 e)⟩
theorem Sc (m : lf) : KD m (Ai m).2:=by
 unfold Ai
 split
 ·exact KD.refl m
 ·split
  ·exact KD.refl m
  ·split
   ·exact KD.refl m
   ·split
    ·exact Eb (fun _ _ h=>h)
    ·exact (Eb (oj:=some _) (l:=m.list) (fun _ _ h=>h)).trans (Na _ _ _ _)
theorem Qb (m : lf) (b : Bool) : KD m (zH m b).2:=by
 unfold zH
 repeat' split
 all_goals exact KD.of rfl rfl
theorem Td (m : lf) (n : Int) : KD m (Ag m n).2:=by
 unfold Ag
 repeat' split
 all_goals exact KD.of rfl rfl
theorem K7 {N : Nat} {m : lf} (h : lH N m) (hN : N + 20 < 900000) : KD m (zj m).2:=by
 unfold zj
 cases hj : m.job with
 | none=>exact KD.refl m
 | some j=>
  dsimp only
  split
  ·exact KD.refl m
  ·rename_i h4
   obtain ⟨hS,-⟩:=h.ok.job j hj (by omega)
   have hst:=Ef (h.ok.sh.sh (by omega)) (h.ok.jok j hj) hS
   have h1 : KD m { m with F:=(lZ m.F j).2.1,job:=some (lZ m.F j).2.2 }:=KD.step (l:=m.list) hst
   split
   ·split
    ·exact h1
    ·exact h1.trans (Aq _ _)
   ·split
    ·exact h1
    ·split
     ·exact (Eb (oj:=some _) (l:=m.list) h1.f).trans (Aq _ _)
     ·exact (Eb (oj:=some _) (l:=_) h1.f).trans ((Aq _ _).trans (KD.of rfl rfl))
theorem T7 {m : lf} (h : YLen m) (f n : Int) : YLen (armM m f n).2:=by
 unfold armM
 split
 ·exact h
 ·split
  ·exact h.kd (KD.of rfl rfl)
  ·split
   ·rename_i i e
    exact h.kd ⟨rfl,fun k hk e2=>by
     dsimp only at e2
     unfold put at e2
     split at e2
     ·cases e2
     ·exact e2⟩
   ·rename_i e
    intro k hk e2
    dsimp only at e2 ⊢
    unfold setD
    split
    ·rename_i hk2; subst hk2; exact h _ hk e2
    ·exact h k hk e2
theorem JN {N : Nat} {m : lf} (h : YLen m) (ho : YOk N m) (hN : N < 900000) (f b : Int) : YLen (oC m f b).2:=by
 unfold oC
 split
 ·exact h
 ·split
  ·exact h
  ·rename_i hb hu
   have hk5 : f.toNat < 5:=by omega
   split
   ·intro k hk e2
    dsimp only at e2 ⊢
    unfold setD
    split
    ·obtain ⟨d1,d2,d3⟩:=Gz ho hk5
     have hc:=(FG (c:=clus m.F m.dk.root) (p:=zN (clus m.F m.dk.root) (devOf m f.toNat)) (b:=b) d1 (by omega) (by omega)).2.1
     change (yS m f.toNat b).2.d.fl.length = _ at hc
     rw [hc]
     exact h.dev ho hk5
    ·rename_i hk2
     unfold cut at e2
     rw [if_neg hk2] at e2
     exact h k hk e2
   ·exact h.kd ⟨rfl,fun k hk e2=>by
     dsimp only at e2
     unfold put at e2
     split at e2
     ·cases e2
     ·exact e2⟩
theorem S9 {N : Nat} {m : lf} (h : YLen m) (ho : YOk N m) (hN : N < 900000) (f : Int) : YLen (Ba m f).2:=by
 have hb:=JN h ho hN f m.dk.root
 unfold Ba
 split
 ·exact h
 ·split
  ·exact h
  ·split
   ·exact hb
   ·split
    ·exact hb.kd (Aq _ _)
    ·exact hb.kd ((Aq _ _).trans (KD.of rfl rfl))
theorem PZ {N : Nat} {m : lf} (h : lH N m) (hN : N + 2000 < 900000) (x : Act) (hA : lN x.A) (hB : lN x.B) (hS : x.S.size <= 700) : lH (N + 1000) (Gd m x):=by
 unfold Gd
 by_cases k0 : (x.kind.toList == [119,114,105,116,101]) = true
 ·rw [if_pos k0]
  exact (Im h (by omega) _ _ (by omega))
 rw [if_neg k0]
 by_cases k1 : (x.kind.toList == [119,105,112,101]) = true
 ·rw [if_pos k1]
  split
  ·exact h.mono (by omega)
  ·exact Ox h (by omega) _ _ (by omega)
 rw [if_neg k1]
 by_cases k2 : (x.kind.toList == [114,101,97,100]) = true
 ·rw [if_pos k2]
  exact h.mono (by omega)
 rw [if_neg k2]
 by_cases k3 : (x.kind.toList == [102,108,117,115,104]) = true
 ·rw [if_pos k3]
  exact (IU (EG h) (by omega)).mono (by omega)
 rw [if_neg k3]
 by_cases k4 : (x.kind.toList == [98,108,97,110,107]) = true
 ·rw [if_pos k4]
  exact (IX h (by omega) _ _).mono (by omega)
 rw [if_neg k4]
 by_cases k5 : (x.kind.toList == [115,110,97,112]) = true
 ·rw [if_pos k5]
  exact (PW h (by omega) _).mono (by omega)
 rw [if_neg k5]
 by_cases k6 : (x.kind.toList == [115,116,97,114,116]) = true
 ·rw [if_pos k6]
  exact (NS h (by omega) _ _ _ _).mono (by omega)
 rw [if_neg k6]
 by_cases k7 : (x.kind.toList == [112,105,118,111,116]) = true
 ·rw [if_pos k7]
  exact (NQ h (by omega)).mono (by omega)
 rw [if_neg k7]
 by_cases k8 : (x.kind.toList == [99,97,110,99,101,108]) = true
 ·rw [if_pos k8]
  exact (M8 h (by omega)).mono (by omega)
 rw [if_neg k8]
 by_cases k9 : (x.kind.toList == [112,97,117,115,101]) = true
 ·rw [if_pos k9]
  exact (Mz h _).mono (by omega)
 rw [if_neg k9]
 by_cases k10 : (x.kind.toList == [116,105,99,107]) = true
 ·rw [if_pos k10]
  exact (OK h _).mono (by omega)
 rw [if_neg k10]
 by_cases k11 : (x.kind.toList == [102,97,105,108]) = true
 ·rw [if_pos k11]
  exact (TS h _ _ hB).mono (by omega)
 rw [if_neg k11]
 exact (IU h (by omega)).mono (by omega)
theorem Sm {N : Nat} {m : lf} (l : YLen m) (h : lH N m) (hN : N + 2000 < 900000) (x : Act) (hS : x.S.size <= 700) : YLen (Gd m x):=by
 unfold Gd
 by_cases k0 : (x.kind.toList == [119,114,105,116,101]) = true
 ·rw [if_pos k0]
  exact l.kd (Qe h (by omega) _ _ (by omega))
 rw [if_neg k0]
 by_cases k1 : (x.kind.toList == [119,105,112,101]) = true
 ·rw [if_pos k1]
  split
  ·exact l
  ·exact l.kd (SJ h (by omega) _ _ (by omega))
 rw [if_neg k1]
 by_cases k2 : (x.kind.toList == [114,101,97,100]) = true
 ·rw [if_pos k2]
  exact l
 rw [if_neg k2]
 by_cases k3 : (x.kind.toList == [102,108,117,115,104]) = true
 ·rw [if_pos k3]
  exact (l.kd (P8 m)).kd (K7 (EG h) (by omega))
 rw [if_neg k3]
 by_cases k4 : (x.kind.toList == [98,108,97,110,107]) = true
 ·rw [if_pos k4]
  exact JN l h.ok (by omega) _ _
 rw [if_neg k4]
 by_cases k5 : (x.kind.toList == [115,110,97,112]) = true
 ·rw [if_pos k5]
  exact S9 l h.ok (by omega) _
 rw [if_neg k5]
 by_cases k6 : (x.kind.toList == [115,116,97,114,116]) = true
 ·rw [if_pos k6]
  exact l.kd (S8 _ _ _ _ _)
 rw [if_neg k6]
 by_cases k7 : (x.kind.toList == [112,105,118,111,116]) = true
 ·rw [if_pos k7]
  exact l.kd (Sc _)
 rw [if_neg k7]
 by_cases k8 : (x.kind.toList == [99,97,110,99,101,108]) = true
 ·rw [if_pos k8]
  exact l.kd (PF _)
 rw [if_neg k8]
 by_cases k9 : (x.kind.toList == [112,97,117,115,101]) = true
 ·rw [if_pos k9]
  exact l.kd (Qb _ _)
 rw [if_neg k9]
 by_cases k10 : (x.kind.toList == [116,105,99,107]) = true
 ·rw [if_pos k10]
  exact l.kd (Td _ _)
 rw [if_neg k10]
 by_cases k11 : (x.kind.toList == [102,97,105,108]) = true
 ·rw [if_pos k11]
  exact T7 l _ _
 rw [if_neg k11]
 exact l.kd (K7 h (by omega))
theorem QH {c p : Int} (h : ¬lG c p (-1)) : lH 10 (Gj c p) /\ YLen (Gj c p):=by
 obtain ⟨h1,h2,h3⟩:=KT h
 have hcr:=TE h
 have hok:=FG (c:=c) (p:=p) (b:=-1) (Cx (n:=newN c p) (by omega)) (by show (0 : Nat) < _; decide) (by show (0 : Int) < _; decide)
 have his:=JY (ow (newN c p)) c p (-1)
 change (newI c p).d.Ok /\ _ /\ (newI c p).d.pend.length <= _ /\ (newI c p).d.writes <= _ /\ (_ -> (newI c p).Ok /\ _) at hok
 change newI c p = _ at his
 obtain ⟨-,-,k1,k2,k3⟩:=hok
 have k3:=(k3 hcr).1
 rw [show (ow (newN c p)).pend.length = 0 from rfl] at k1
 rw [show (ow (newN c p)).writes = 0 from rfl] at k2
 have hic : (newI c p).c = c:=by rw [his]; rfl
 have hib : (newI c p).b = -1:=by rw [his]; rfl
 have hat : (Bd c p).F 0 = some (newI c p):=zq (fun _=>none) 0 (newI c p)
 have hfile : lx (Bd c p).F 0:=⟨by decide,by decide,_,hat⟩
 have hbk : bkOf (Bd c p).F 0 = -1:=by unfold bkOf; rw [show (0 : Int).toNat = 0 from rfl,hat]; exact hib
 have hput : ∀k i,(Bd c p).F k = some i -> i = newI c p:=fun k i e=>by
  change put (fun _=>none) 0 (newI c p) k = some i at e
  unfold put at e
  split at e
  ·cases e; rfl
  ·cases e
 have hg : lH 9 (Bd c p):=by
  refine ⟨⟨⟨fun k i hk e=>by rw [hput k i e]; exact k3,fun k i hk e=>by rw [hput k i e]; omega,fun k i hk e=>by rw [hput k i e]; omega⟩,fun k hk e=>⟨Cx (by omega),by show (0 : Int) <= _; omega,by show (0 : Nat) <= _; omega⟩,⟨Cx (by decide),by show (0 : Int) <= _; omega,by show (0 : Nat) <= _; omega,by show 1 <= (List.replicate 1 yW).length; decide⟩,?_,hfile,fun j hj=>by (cases hj),fun j hj=>by (cases hj)⟩,fun j hj=>by (cases hj)⟩
  show ls (Bd c p).F 0 = ([0],0)
  refine IA ⟨fun x hx=>?_,fun x hx=>?_,?_,trivial⟩ (by decide)
  ·rw [List.mem_singleton.1 hx]; exact hfile
  ·rw [List.mem_singleton.1 hx]
  ·exact hbk
 refine ⟨hg.bareW (by decide) (fun j hj=>by cases hj),YLen.kd (m:=Bd c p) (fun k hk e=>?_) (Aq _ _)⟩
 show 0 < (List.replicate (newN c p) yW).length
 rw [List.length_replicate]
 omega
theorem N1 {D : Nat -> DevM} {top : DevM} {N : Nat} (hN : N < 900000) (hD : ∀k,k < 5 -> (D k).Ok /\ (D k).writes <= N /\ (D k).pend.length <= N) (hD0 : ∀k,k < 5 -> 0 < (D k).fl.length) (ht : top.Ok /\ top.writes <= N /\ top.pend.length <= N /\ 1 <= top.fl.length) (h : (Ak D top).1 = 0) :
  lH N (Ak D top).2 /\ YLen (Ak D top).2:=by
 unfold Ak at h ⊢
 split at h
 ·rename_i h1; exact absurd h h1
 ·rename_i h1
  split at h
  ·rename_i h2; exact absurd h h2
  ·rename_i h2
   rw [if_neg h1,if_neg h2]
   have h1:=Decidable.not_not.1 h1
   have h2:=Decidable.not_not.1 h2
   have hdr:=Gn (KV h1)
   unfold yr at hdr
   have hr:=KI (F:=opF D 5) (r:=(dkOf (top.seen 0)).root) (by omega) h2
   have hg : lH N (yh D top):=⟨⟨KK hD,fun k hk _=>hD k hk,ht,by show ls (opF D 5) (dkOf (top.seen 0)).root = ((ls (opF D 5) (dkOf (top.seen 0)).root).1,0); (exact Prod.ext rfl h2),hr,fun j hj=>by (cases hj),fun j hj=>by (cases hj)⟩,fun j hj=>by (cases hj)⟩
   have hl : YLen (yh D top):=fun k hk _=>hD0 k hk
   have hbare : ∀r,r = (yh D top).dk.root -> lH N { yh D top with dk:=lC r }:=fun r e=>by
    subst e
    exact ⟨⟨hg.ok.sh,hg.ok.dv,hg.ok.tp,hg.ok.walk,hg.ok.root,fun j hj=>by (cases hj),fun j hj=>by (cases hj)⟩,fun j hj=>by (cases hj)⟩
   dsimp only
   unfold DY
   split
   ·exact ⟨hg,hl⟩
   ·split
    ·exact ⟨hbare _ rfl,hl.kd (KD.of rfl rfl)⟩
    ·have hng:=fun j (hj : (newM (yh D top).F (yh D top).dk.root (yh D top).dk.kind (yh D top).dk.file (yh D top).dk.rate (yh D top).dk.burst).1 = some j)=>Fa (hg.ok.sh.sh hN) A4 hj
     have hni:=fun j (hj : (newM (yh D top).F (yh D top).dk.root (yh D top).dk.kind (yh D top).dk.file (yh D top).dk.rate (yh D top).dk.burst).1 = some j)=>O5 hj
     split
     ·exact ⟨hbare _ rfl,hl.kd (KD.of rfl rfl)⟩
     ·rename_i j f e
      rw [e] at hng hni
      obtain ⟨a,b⟩:=hng j rfl
      obtain ⟨-,i1,i2,i3,i4,-,i5⟩:=hni j rfl
      rw [hg.ok.walk] at i1 i5
      refine ⟨⟨⟨hg.ok.sh,hg.ok.dv,hg.ok.tp,hg.ok.walk,hg.ok.root,fun k hk=>by (cases hk; exact a),fun k hk _=>by (cases hk; exact ⟨b,i1,i2,i3,i4⟩)⟩,fun k hk _ h2=>by cases hk; rw [i3]; exact i5 (i2.symm.trans h2)⟩,hl.kd (KD.of rfl rfl)⟩
end Go.Proofs.YtbpblokfiajpjabGreatDoor
namespace Go.Proofs.YtbpblokfiajpjabGreatDoor
open Go.RowKit Go.SL Go.Crc
attribute [local go_sem ↓] Go.wp_at_zero Go.wp_at_succ
theorem J5 (Y : RA) (m : lf) (R : List SL.HP) {k : Nat} (hk : k < 5) : AN Y m R k = AN Y m [] k++R:=by
 have h1 : ∀R,ryL Y m R = ryL Y m []++R:=fun R=>by
  show rshL _ _ _++(ryT _ _++R) = (rshL _ _ _++(ryT _ _++[]))++R
  rw [List.append_nil,zp]
 have h2 : (ryL Y m []).length = 15:=rfl
 unfold AN
 rw [h1 R]
 cases m.F k with
 | none=>dsimp only; rw [List.set_append_left _ _ (by omega)]
 | some i=>dsimp only; rw [List.eraseIdx_append_of_lt_length (by omega)]; rfl
theorem OB {Y : RA} {m : lf} {R : List SL.HP} {w : World} {k : Nat} (hk : k < 5) (H : own w (lo (Y.A k).2 (devOf m k)::AN Y m R k)) : own w (ryL Y m R):=by
 have hs:=IS m k
 unfold Bx at hs
 unfold devOf AN at H
 cases e : m.F k with
 | none=>
  rw [e] at H hs
  dsimp only at hs
  unfold devOf at hs
  rw [e] at hs
  have h1:=IN hk e H
  rwa [hs] at h1
 | some i=>
  rw [e] at H
  have h1:=yB [lX (Y.A k).1 (Y.A k).2 i,lo (Y.A k).2 i.d] (BZ H)
  exact CV (1 + k) (by rw [KS Y m R hk]; unfold ox; rw [e]) h1
theorem Ui {P : List SL.HP} {B : Nat -> Nat} {Y2 : RA} {m : lf} {R : List SL.HP} {i : Nat} {w : World} (hi : i < 5) (H : own w (P++(devL B (devOf m) 5++ryL Y2 m R))) :
  own w (ll (B i) (devOf m i)::lo (Y2.A i).2 (devOf m i)::((AN Y2 m [] i++P)++(devL B (devOf m) 5++R).eraseIdx (4 - i))):=by
 have h1:=lq (P++devL B (devOf m) 5) (rshL Y2.bs Y2.A m.F++ryT Y2 m) (R:=R) (by simpa only [zp] using H)
 have h2:=II (Y:=Y2) (m:=m) (R:=P++(devL B (devOf m) 5++R)) hi (by simpa only [zp] using h1)
 rw [J5 Y2 m _ hi] at h2
 have h3:=Pk (l:=lo (Y2.A i).2 (devOf m i)::(AN Y2 m [] i++P)) (B:=B) (D:=devOf m) (X:=R) hi (by simpa only [zp,List.cons_append] using h2)
 exact h3
theorem VG {P : List SL.HP} {B : Nat -> Nat} {Y2 : RA} {m : lf} {R : List SL.HP} {i : Nat} {w : World} (hi : i < 5)
  (H : own w (ll (B i) (devOf m i)::lo (Y2.A i).2 (devOf m i)::((AN Y2 m [] i++P)++(devL B (devOf m) 5++R).eraseIdx (4 - i)))) : own w (P++(devL B (devOf m) 5++ryL Y2 m R)):=by
 have h3:=Ss (l:=lo (Y2.A i).2 (devOf m i)::(AN Y2 m [] i++P)) (B:=B) (D:=devOf m) (X:=R) hi H
 have h2 : own w (lo (Y2.A i).2 (devOf m i)::AN Y2 m (P++(devL B (devOf m) 5++R)) i):=by
  rw [J5 Y2 m _ hi]
  simpa only [zp,List.cons_append] using h3
 have h1:=OB hi h2
 have h0:=lq (rshL Y2.bs Y2.A m.F++ryT Y2 m) (P++devL B (devOf m) 5) (R:=R) (by simpa only [zp] using h1)
 simpa only [zp] using h0
theorem SB (m : lf) : ∃a b c d,Fx m = .agg #[.int .i64 a,.int .i64 b,.int .i64 c,.int .i64 d]:=by
 unfold Fx
 split
 ·exact ⟨_,_,_,_,rfl⟩
 ·exact ⟨_,_,_,_,rfl⟩
theorem YOk.len5 {N : Nat} {m : lf} (h : YOk N m) : m.list.length <= 5:=by
 have:=A4 (F:=m.F) (root:=m.dk.root)
 rwa [h.walk] at this
theorem YOk.clus {N : Nat} {m : lf} (h : YOk N m) : 1 <= clus m.F m.dk.root /\ clus m.F m.dk.root <= 32:=by
 obtain ⟨k,i,hk,hk5,hi⟩:=lT h.root
 have hc:=(h.sh.ok k i hk5 hi).head
 unfold lG at hc
 rw [hk,yo hi]
 omega
theorem PR (N : Nat) (Y : YA) (Y2 : RA) (m : lf) (hm : YOk N m) (hN : N < 900000) (R : List SL.HP) (w : World) (H : own w (yL Y m (ryL Y2 m R))) :
  Calls Tryz.prog 30 #[.pointer (some ⟨Y.y,0,none⟩),.pointer (some ⟨Y2.y,0,none⟩)] w fun e w'=>e = .returned (.bool true) /\ Ext w w' /\ own w' (yL Y m (ryL Y2 m R)):=by
 obtain ⟨c1,c2⟩:=hm.clus
 have HCH:=zh (fun (R : List SL.HP) (w : World) (H : own w (yL Y m R))=>PX Y m hm.len5 R w H)
 have HST:=zh (fun (R : List SL.HP) (w : World) (H : own w (yL Y m R))=>Ot Y m hm.jok R w H)
 have HRT:=zh (fun (R : List SL.HP) (w : World) (H : own w (ryL Y2 m R))=>MP Y2 m R w H)
 obtain ⟨s1,s2,s3,s4,hs⟩:=SB m
 rw [hs] at HST HRT
 have HSE:=zh (fun (R : List SL.HP) (w : World) (H : own w (yL Y m R))=>EE N Y m hm hN R w H)
 have hcode : 0 <= (getM m.F m.list 0 (clus m.F m.dk.root * 4)).2:=Lz _ _ _ _
 have HP:=zh (fun (R' : List SL.HP) w' h=>It N Y m hm hN 0 (clus m.F m.dk.root * 4) (by unfold lN; omega) (by unfold lN; omega) R' w' h)
 have HR:=zh (fun (R' : List SL.HP) (w' : World) (h : own w' (ryL Y2 m R'))=>Lh N Y2 m hm hN 0 (clus m.F m.dk.root * 4) (by unfold lN; omega) (by unfold lN; omega) R' w' h)
 have HDV:=zh (fun (R : List SL.HP) (w : World) (H : own w (yL Y m R))=>TT N Y m hm R w H)
 have HTP:=zh hm.tp.1
 have HOK:=zh (fun (k : Nat) (hk : k < 5)=>(Gz hm hk).1)
 generalize clus m.F m.dk.root * 4 = n at *
 generalize getM m.F m.list 0 n = S at *
 obtain ⟨t,f⟩:=S
 dsimp only at hcode HP HR
 obtain ⟨rao,rlb,roff,rcap,hrv,-,-,-,-⟩:=(BF (yw_r H)).form
 have cl0 : ∀w' R',own w' (ryL Y2 m R') -> w'.cell? ⟨Y2.y,12,none⟩ = some (.slice rao m.list.length rcap) /\ w'.cell? ⟨Y2.y,6,none⟩ = some (.pointer (some ⟨Y2.bs,0,none⟩)):=fun w' R' h=>⟨by rw [<- hrv]; exact Aw h,Br h⟩
 have HCL:=zh cl0
 have HIV:=zh (fun (w' : World) R' (h : own w' (ryL Y2 m R'))=>show lR w' (.slice rao m.list.length rcap) m.list from (by rw [<- hrv]; exact BF h))
 rw [hrv] at HR
 clear hm c1 c2 hs hrv cl0
 have hd:=lj H
 have hxd:=(Ext.refl w).drew
 go_enter Tryz.func30,Tryz.ntmps30
 go_upto_region 1 with (fail)
 go_region_held3 (fun w'=>w'.cell? ⟨Y2.y,12,none⟩ = some (.slice rao m.list.length rcap)) (first | exact (HCL.out _ _ (yw_r hd)).1 | exact (HCL.out _ _ (yw_r h3)).1 | exact (HCL.out _ _ (yw_r h5)).1 | exact (HCL.out _ _ (yw_r h6)).1) (first | (go_at_call 51; refine (HCH.out _ _ hd).mono ?_; rintro e w3 ⟨cv,rfl,hx3,h3'⟩; have hci:=lY 15 h3' rfl; have h3:=lh 15 h3' rfl) | (go_at_call 55; refine (JZ _ _ m.list m.list _ hci (HIV.out _ _ (yw_r h3))).mono ?_; rintro e w' ⟨rfl,nn,rfl⟩) | (go_at_call 47; refine (HST.out _ _ (lm nn h3)).mono ?_; rintro e w5 ⟨rfl,hx5,h5⟩) | (go_at_call 122; refine (HRT.out _ _ (yw_r h5)).mono ?_; rintro e w6 ⟨rfl,hx6,h6'⟩; have h6:=yw_b h6'))
 have hxe:=(((hxd.trans hx3).drewN nn).trans hx5).trans hx6
 clear hd hxd hx3 hx5 hx6 h3 h3' h5 h6' hci HCH HST HRT HIV H
 go_wp2_with fail
 refine (HSE.out _ _ h6).mono ?_
 rintro e w7 ⟨rfl,hx7,h7⟩
 go_wp2_with fail
 refine (HP.out _ _ h7).mono ?_
 rintro e w8 ⟨rfl,hx8,h8⟩
 have hxg:=(hxe.trans hx7).trans hx8
 clear h6 h7 hxe hx7 hx8 HSE HP
 go_upto_region 5 with (fail)
 have hz:=lj h8
 have hxz:=hxg.drew
 go_region_held3 (fun w'=>w'.cell? ⟨Y2.y,12,none⟩ = some (.slice rao m.list.length rcap) /\ w'.cell? ⟨Y2.y,6,none⟩ = some (.pointer (some ⟨Y2.bs,0,none⟩))) (first | exact HCL.out _ _ (yw_r hz) | exact HCL.out _ _ (yw_r h9)) (first | (go_at_call 105; refine (HR.out _ _ (yw_r hz)).mono ?_; rintro e w9 ⟨rfl,hx9,h9'⟩; have h9:=yw_b h9'))
 have hxh:=hxz.trans hx9
 clear hz hxz hx9 h8 h9' hxg HR HCL
 go_wp2_with fail
 refine (HDV.out _ _ h9).mono ?_
 rintro e w10 ⟨v,B,bt,rfl,hx10,h10⟩
 have hxi:=hxh.trans hx10
 clear h9 hxh hx10 HDV
 obtain ⟨vo,g,vcap,rfl,-,-,hvo,-,-,-,-⟩:=lk 16 h10 rfl
 obtain rfl:=hvo (by decide)
 have h11:=lq (shL Y.bs Y.A m.F++(yT Y m++(ll bt m.top::row 53 1 (.slice (some ⟨g,0,none⟩) 5 vcap) 5 (ptrs B 5)::devL B (devOf m) 5))) (rshL Y2.bs Y2.A m.F++ryT Y2 m) (R:=R) (by simpa only [zp,List.cons_append] using h10)
 have h12 : own w10 (ryL Y2 m (shL Y.bs Y.A m.F++(yT Y m++(ll bt m.top::row 53 1 (.slice (some ⟨g,0,none⟩) 5 vcap) 5 (ptrs B 5)::(devL B (devOf m) 5++R))))):=by simpa only [zp,List.cons_append] using h11
 have ct:=JW h12
 have h13:=lt 30 (JQ h12) rfl
 go_wp2_with fail
 refine (zg f f _ hcode).mono ?_
 rintro e w' ⟨rfl,rfl⟩
 go_wp2_with fail
 refine (Ld bt Y2.tp m.top HTP.out _ _ h13).mono ?_
 rintro e w14 ⟨rfl,hx14,h14⟩
 have h15:=CV (l:=lo Y2.tp m.top::(ryL Y2 m (shL Y.bs Y.A m.F++(yT Y m++(ll bt m.top::row 53 1 (.slice (some ⟨g,0,none⟩) 5 vcap) 5 (ptrs B 5)::(devL B (devOf m) 5++R))))).eraseIdx 12) (P:=ll bt m.top) 30 rfl h14
 have h16:=CV (l:=ryL Y2 m (shL Y.bs Y.A m.F++(yT Y m++(ll bt m.top::row 53 1 (.slice (some ⟨g,0,none⟩) 5 vcap) 5 (ptrs B 5)::(devL B (devOf m) 5++R))))) (P:=lo Y2.tp m.top) 12 rfl h15
 have h17:=lq (rshL Y2.bs Y2.A m.F++ryT Y2 m) (shL Y.bs Y.A m.F++(yT Y m++(ll bt m.top::row 53 1 (.slice (some ⟨g,0,none⟩) 5 vcap) 5 (ptrs B 5)::devL B (devOf m) 5))) (R:=R) (by simpa only [zp,List.cons_append] using h16)
 have h18 : own w14 ((shL Y.bs Y.A m.F++(yT Y m++[ll bt m.top,row 53 1 (.slice (some ⟨g,0,none⟩) 5 vcap) 5 (ptrs B 5)]))++(devL B (devOf m) 5++ryL Y2 m R)):=by simpa only [zp,List.cons_append,List.nil_append] using h17
 have hxj:=hxi.trans hx14
 have HS:=zh (fun (w' : World) (q : Nat) (hq : q < 5) (h : own w' ((shL Y.bs Y.A m.F++(yT Y m++[ll bt m.top,row 53 1 (.slice (some ⟨g,0,none⟩) 5 vcap) 5 (ptrs B 5)]))++(devL B (devOf m) 5++ryL Y2 m R)))=>show w'.cell? ⟨g,q,none⟩ = some (.pointer (some ⟨B q,0,none⟩)) /\ w'.cell? ⟨Y2.y,q,none⟩ = some (.pointer (some ⟨(Y2.A q).2,0,none⟩)) from (by
  have h1 : own w' (yL Y m (ll bt m.top::row 53 1 (.slice (some ⟨g,0,none⟩) 5 vcap) 5 (ptrs B 5)::(devL B (devOf m) 5++ryL Y2 m R))):=by simpa only [zp,List.cons_append,List.nil_append] using h
  have h2:=lq ((shL Y.bs Y.A m.F++(yT Y m++[ll bt m.top,row 53 1 (.slice (some ⟨g,0,none⟩) 5 vcap) 5 (ptrs B 5)]))++devL B (devOf m) 5) (rshL Y2.bs Y2.A m.F++ryT Y2 m) (R:=R) (by simpa only [zp] using h)
  have h3 : own w' (ryL Y2 m ((shL Y.bs Y.A m.F++(yT Y m++[ll bt m.top,row 53 1 (.slice (some ⟨g,0,none⟩) 5 vcap) 5 (ptrs B 5)]))++(devL B (devOf m) 5++R))):=by simpa only [zp] using h2
  refine ⟨(lJ 16 h1 rfl).1 q _ ?_,Es h3 hq⟩
  unfold ptrs
  rw [List.getElem?_map,List.getElem?_range hq]
  rfl))
 have HFIN:=zh (fun (w' : World) (h : own w' ((shL Y.bs Y.A m.F++(yT Y m++[ll bt m.top,row 53 1 (.slice (some ⟨g,0,none⟩) 5 vcap) 5 (ptrs B 5)]))++(devL B (devOf m) 5++ryL Y2 m R)))=>show own w' (yL Y m (ryL Y2 m R)) from (by
  have h1:=lq (shL Y.bs Y.A m.F++yT Y m) ([ll bt m.top,row 53 1 (.slice (some ⟨g,0,none⟩) 5 vcap) 5 (ptrs B 5)]++devL B (devOf m) 5) (R:=ryL Y2 m R) (by simpa only [zp] using h)
  have h2:=At ([ll bt m.top,row 53 1 (.slice (some ⟨g,0,none⟩) 5 vcap) 5 (ptrs B 5)]++devL B (devOf m) 5) h1
  simpa only [zp] using h2))
 clear h10 h11 h12 h13 h14 h15 h16 h17 hxi hx14 ct HTP
 go_wp2_with fail
 go_loopw [12] (fun kv wr=>∃q : Nat,q <= 5 /\ kv = .int .i64 q /\ Ext w wr /\ own wr ((shL Y.bs Y.A m.F++(yT Y m++[ll bt m.top,row 53 1 (.slice (some ⟨g,0,none⟩) 5 vcap) 5 (ptrs B 5)]))++(devL B (devOf m) 5++ryL Y2 m R))) (fun kv _=>6 - (intOf kv).toNat)
 case atStart=>exact ⟨0,by omega,rfl,hxj,h18⟩
 case round=>
  clear h18 hxj
  obtain ⟨q,hq,rfl,hxr,hown⟩:=hrel
  by_cases hlt : q < 5
  ·have g1 : (q : Int) < 5:=by omega
   have g2 : (0 : Int) <= (q : Int):=by omega
   go_upto_region 12 with (fail)
   have hz:=lj hown
   have hxz:=hxr.drew
   go_region_held3 (fun w'=>w'.cell? ⟨g,q,none⟩ = some (.pointer (some ⟨B q,0,none⟩)) /\ w'.cell? ⟨Y2.y,q,none⟩ = some (.pointer (some ⟨(Y2.A q).2,0,none⟩))) (first | exact HS.out _ q hlt hz | exact HS.out _ q hlt h19) (first | (go_at_call 124; refine (Ld (B q) (Y2.A q).2 (devOf m q) (HOK.out q hlt) _ _ (Ui hlt hz)).mono ?_; rintro e w15 ⟨rfl,hx15,h19'⟩; have h19:=VG hlt h19'))
   go_wp2_with fail
   go_roundw
   case rel=>exact ⟨q + 1,by omega,by go_num,hxz.trans hx15,h19⟩
   case measure=>simp [intOf]; omega
  ·obtain rfl : q = 5:=by omega
   go_wp2_with fail
   go_ret
   exact ⟨rfl,hxr,HFIN.out _ hown⟩
def wkM : lf:=(zF (Gj 2 2) 3 Ft).2
theorem wk_1 : (zF (Gj 2 2) 3 Ft).1 = 0:=by kernel_rfl
theorem wk_2 : (getM wkM.F wkM.list 3 1).1 = Ft:=by kernel_rfl
theorem wk_3 : (getM wkM.F wkM.list 3 1).2 = 0:=by kernel_rfl
theorem wk_4 : clus wkM.F wkM.dk.root * 4 = 8:=by kernel_rfl
theorem wk_5 : (Ft.toList == [48,49,50,51,52,53,54,55,56,57,97,98,99,100,101,102]) = true:=by kernel_rfl
theorem SD (R : List SL.HP) (w : World) (H : own w R) :
  Calls Tryz.prog 24 #[] w fun e w'=>e = .returned (.bool true) /\ Ext w w' /\ own w' R:=by
 have hb : ¬lG 2 2 (-1):=by unfold lG; omega
 have hg:=(QH hb).1
 have hw:=Im hg (by omega) 3 Ft (by decide)
 have HN:=zh (T0 2 2 hb R w H)
 have HW:=zh (fun (Y : YA) w' h=>O7 10 Y (Gj 2 2) hg.ok (by omega) 3 (by unfold lN; omega) Ft (by decide) R w' h)
 unfold zm at HW
 rw [wk_1,l9] at HW
 change lH 1010 wkM at hw
 change Hid (∀(Y : YA) w',_ -> Calls _ _ _ w' fun e w''=>∃Y',Y'.y = Y.y /\ e = _ /\ Ext w' w'' /\ own w'' (yL Y' wkM R)) at HW
 have HRD:=zh (fun (Y : YA) w' h=>It 1010 Y wkM hw.ok (by omega) 3 1 (by unfold lN; omega) (by unfold lN; omega) R w' h)
 rw [wk_2,wk_3,l9] at HRD
 have HSE:=zh (fun (Y : YA) w' h=>EE 1010 Y wkM hw.ok (by omega) R w' h)
 rw [wk_4] at HSE
 have e5:=wk_5
 generalize wkM = M at *
 clear hb hg hw H
 go_enter Tryz.func24,Tryz.ntmps24
 go_wp2_with fail
 refine HN.out.mono ?_
 rintro e w2 ⟨Y,rfl,hx2,h2⟩
 go_wp2_with fail
 refine (HW.out Y w2 h2).mono ?_
 rintro e w3 ⟨Y',hy,rfl,hx3,h3⟩
 rw [<- hy]
 clear hy
 go_wp2_with fail
 refine (HRD.out Y' w3 h3).mono ?_
 rintro e w4 ⟨rfl,hx4,h4⟩
 go_wp2_with fail
 refine (FM 0 w4).mono ?_
 rintro e w' ⟨rfl,rfl⟩
 go_wp2_with fail
 refine (FM 0 w4).mono ?_
 rintro e w' ⟨rfl,rfl⟩
 go_wp2_with fail
 refine (HSE.out Y' w4 h4).mono ?_
 rintro e w5 ⟨rfl,hx5,h5⟩
 go_wp2_with fail
 go_ret
 exact ⟨by first | rfl | (simp; done),((hx2.trans hx3).trans hx4).trans hx5,At (shL Y'.bs Y'.A M.F++yT Y' M) (by rw [zp]; exact h5)⟩

theorem DU (b : List ByteArray) (k : Nat) : (srcD b k).Ok /\ (srcD b k).writes <= (0 : Nat) /\ (srcD b k).pend.length <= 0 /\ 0 < (srcD b k).fl.length:=by
 have h:=K3 b k
 unfold srcD
 generalize srcM b k = s at *
 unfold ofOk at h
 simp only [decide_eq_true_eq] at h
 obtain ⟨h1,h2,h3⟩:=h
 refine ⟨⟨?_,?_,?_,?_,?_,?_⟩,?_,?_,?_⟩
 ·show (AY _ _ _).length <= 200
  simp [AY]; omega
 ·intro x hx
  obtain ⟨i,hi,rfl⟩:=List.mem_map.1 hx
  have:=List.mem_range.1 hi
  rw [if_pos this]
  unfold ol
  rw [ByteArray.size_extract]
  omega
 ·show (0 : Nat) <= _; omega
 ·intro x hx; cases hx
 ·exact ⟨by show (-1 : Int) <= -1; omega,by show (-1 : Int) <= _; omega⟩
 ·exact ⟨by show (0 : Int) <= 0; omega,by show (0 : Int) <= _; omega⟩
 ·show (0 : Int) <= _; omega
 ·show (0 : Nat) <= _; omega
 ·show 0 < (AY _ _ _).length
  simp [AY]; omega
theorem MO {w : World} {a b c d e : SL.HP} {R : List SL.HP} (H : own w (a::b::c::d::e::R)) : own w (e::R):=le (le (le (le H)))
theorem Vi {w : World} {B B' B2 B2' : Nat -> Nat} {D D2 : Nat -> DevM} {p1 p2 p3 p4 p5 x : SL.HP} (H : own w (p1::p2::(devL B2 D2 5++(yc B2' D2 5++(p3::p4::p5::(devL B D 5++(yc B' D 5++[x]))))))) :
  own w (devL B D 5++(ll (B2 0) (D2 0)::(yc B' D 5++(lo (B2' 0) (D2 0)::[p1,p2,p4,p5,x])))):=by
 have h1:=lq [p1,p2] [ll (B2 4) (D2 4),ll (B2 3) (D2 3),ll (B2 2) (D2 2),ll (B2 1) (D2 1),ll (B2 0) (D2 0)] (R:=yc B2' D2 5++(p3::p4::p5::(devL B D 5++(yc B' D 5++[x])))) H
 have h2 : own w ([ll (B2 0) (D2 0),p1,p2]++([lo (B2' 4) (D2 4),lo (B2' 3) (D2 3),lo (B2' 2) (D2 2),lo (B2' 1) (D2 1)]++([lo (B2' 0) (D2 0),p3,p4,p5]++(devL B D 5++(yc B' D 5++[x]))))):=MO h1
 have h3:=lq _ _ h2
 have h4 : own w (lo (B2' 1) (D2 1)::([ll (B2 0) (D2 0),p1,p2]++([lo (B2' 0) (D2 0),p3,p4,p5]++(devL B D 5++(yc B' D 5++[x]))))):=le (le (le h3))
 have h5:=le h4
 have h6:=lh 4 h5 rfl
 have h7:=lq [ll (B2 0) (D2 0),p1,p2,lo (B2' 0) (D2 0),p4,p5] (devL B D 5) (R:=yc B' D 5++[x]) h6
 refine FV (List.Perm.append_left _ ?_) h7
 refine List.Perm.cons _ ?_
 have : ([p1,p2,lo (B2' 0) (D2 0),p4,p5]++(yc B' D 5++[x])).Perm (yc B' D 5++([p1,p2,lo (B2' 0) (D2 0),p4,p5]++[x])):=List.perm_append_comm_assoc _ _ _
 refine this.trans (List.Perm.append_left _ ?_)
 exact List.Perm.append_right [x] (l₁:=[p1,p2,lo (B2' 0) (D2 0),p4,p5]) (l₂:=[lo (B2' 0) (D2 0),p1,p2,p4,p5]) ((List.Perm.cons _ (List.Perm.swap _ _ _)).trans (List.Perm.swap _ _ _))
def opR (B B' B2 B2' : Nat -> Nat) (D : Nat -> DevM) (top : DevM) (f11 f10 f9 f8 : Nat) (w : World) : List SL.HP:=yc B' D 5++(lo (B2' 0) top::[pts f11 (.cells (lQ B2' 5) 56 (0,0)),pts f10 (.cells (lQ B2 5) 54 (0,0)),pts f9 (.cells (lQ B' 5) 56 (0,0)),pts f8 (.cells (lQ B 5) 54 (0,0)),yy w])
theorem UK {B B' B2 B2' : Nat -> Nat} {D : Nat -> DevM} {top : DevM} {f11 f10 f9 f8 : Nat} {w w' : World} {L : List SL.HP} (h : own w' (L++opR B B' B2 B2' D top f11 f10 f9 f8 w)) : Q4 w' (.slice (some ⟨f8,0,none⟩) 5 5) B:=⟨f8,0,5,rfl,fun k hk=>by
 have hc:=(ld (L.length + 9) (b:=f8) (arr:=lQ B 5) (T:=54) h (by rw [List.getElem?_append_right (by omega),Nat.add_sub_cancel_left]; rfl)).1 k
 rw [Nat.zero_add,hc]
 have h5 : k = 0 \/ k = 1 \/ k = 2 \/ k = 3 \/ k = 4:=by omega
 rcases h5 with rfl | rfl | rfl | rfl | rfl <;> rfl⟩
theorem N8 {w : World} (C Z : List SL.HP) {E : List SL.HP} (H : own w (C++(Z++E))) : own w (C++E):=At Z (lq C Z H)
theorem O4 {B B' B2 B2' : Nat -> Nat} {D : Nat -> DevM} {top : DevM} {f11 f10 f9 f8 : Nat} {w w' : World} {X : List SL.HP} (h : own w' (X++opR B B' B2 B2' D top f11 f10 f9 f8 w)) :
  own w' (yc B' D 5++(lo (B2' 0) top::(X++[pts f11 (.cells (lQ B2' 5) 56 (0,0)),pts f10 (.cells (lQ B2 5) 54 (0,0)),pts f9 (.cells (lQ B' 5) 56 (0,0)),pts f8 (.cells (lQ B 5) 54 (0,0)),yy w]))):=
 lq X (yc B' D 5++[lo (B2' 0) top]) h
theorem KZ (vb : Value) (b : List ByteArray) (t : ByteArray) (v : Value) (l : List Act) (w : World) (hb : zx w vb b) (ht : t.size <= 9223372036854775807) (hv : CR w v l) (hT : yH w) :
  Calls Tryz.prog 4 #[vb,.string t,v] w fun e w'=>e = .returned (.bool true) /\ Below w.heap.size w w':=by
 obtain ⟨ao,bb,off,cap,rfl,hlen,hao,hat⟩:=hv.form
 obtain ⟨bo,bbb,boff,bcap,rfl,hbl,hbc,-,-⟩:=hb.form
 have h0:=IV w
 have HAT:=zh hat
 have HV:=zh hv
 have HAO:=zh hao
 have HB:=zh hb
 have HTR:=zh (fun w' L (h : own w' (L++[yy w]))=>hT.later L.length h (by rw [List.getElem?_append_right (Nat.le_refl _),Nat.sub_self]; rfl))
 clear hat hv hao hT hb
 go_enter Tryz.func4,Tryz.ntmps4
 go_wp2_with fail
 refine (SD _ w h0).mono ?_
 rintro e w1 ⟨rfl,hx1,h1⟩
 by_cases hb5 : b.length <= 5
 case' neg=>
  have k1 : (5 : Int) < (b.length : Int):=by omega
  go_wp2_with fail
  go_ret
  exact ⟨rfl,Dc 0 h1 rfl hx1⟩
 have k1 : ¬((5 : Int) < (b.length : Int)):=by omega
 go_wp2_with fail
 refine (SX _ l 30 w1 (HV.out.later 0 h1 rfl)).mono ?_
 rintro e w' ⟨rfl,rfl⟩
 by_cases hL : Gt l 30 = true
 case' neg=>
  rw [Bool.not_eq_true] at hL
  rw [hL]
  clear hL
  go_wp2_with fail
  go_ret
  exact ⟨rfl,Dc 0 h1 rfl hx1⟩
 have hl2 : l.length <= 30 /\ ∀x∈l,x.S.size <= 700 /\ x.keep.length <= 300:=by
  simp only [Gt,C8,Bool.and_eq_true,decide_eq_true_eq,List.all_eq_true] at hL
  exact ⟨by omega,fun x hx=>⟨by have:=(hL.2 x hx).1; omega,by have:=(hL.2 x hx).2; omega⟩⟩
 rw [hL]
 clear hL
 obtain ⟨hl60,hlx⟩:=hl2
 have HLX:=zh hlx
 clear hlx
 go_wp2_with fail
 refine (VH _ b 3300 w1 (HB.out.later 0 h1 rfl)).mono ?_
 rintro e w' ⟨rfl,rfl⟩
 by_cases hF : fewB b 3300 = true
 case' neg=>
  rw [Bool.not_eq_true] at hF
  rw [hF]
  clear hF
  go_wp2_with fail
  go_ret
  exact ⟨rfl,Dc 0 h1 rfl hx1⟩
 have hf2 : ∀i,i < b.length -> (b.getD i ByteArray.empty).size <= 3300:=fun i hi=>by
  simp only [fewB,G3,Bool.and_eq_true,List.all_eq_true,decide_eq_true_eq] at hF
  have:=hF.2 _ (Da hi)
  omega
 rw [hF]
 clear hF
 by_cases ht1 : t.size <= 100
 case' neg=>
  have k2 : (100 : Int) < (t.size : Int):=by omega
  go_wp2_with fail
  go_ret
  exact ⟨rfl,Dc 0 h1 rfl hx1⟩
 have k2 : ¬((100 : Int) < (t.size : Int)):=by omega
 have HDV:=zh (IZ b (.slice bo b.length bcap) [yy w] (fun w' L h=>HB.out.later L.length h (by rw [List.getElem?_append_right (Nat.le_refl _),Nat.sub_self]; rfl)) hf2 w1 h1)
 clear hf2
 go_wp2_with fail
 refine HDV.out.mono ?_
 rintro e w2 ⟨B,B',he,hx2,h2⟩
 rw [show lQ B 5 = #[.pointer (some ⟨B 0,0,none⟩),.pointer (some ⟨B 1,0,none⟩),.pointer (some ⟨B 2,0,none⟩),.pointer (some ⟨B 3,0,none⟩),.pointer (some ⟨B 4,0,none⟩)] from rfl,show lQ B' 5 = #[.pointer (some ⟨B' 0,0,none⟩),.pointer (some ⟨B' 1,0,none⟩),.pointer (some ⟨B' 2,0,none⟩),.pointer (some ⟨B' 3,0,none⟩),.pointer (some ⟨B' 4,0,none⟩)] from rfl] at he
 subst he
 clear HDV
 have es : ∀(w : World) (o : Obj),(w.alloc o).heap.size = w.heap.size + 1:=fun w o=>by simp
 have h3:=li (li (li h2 (.cells #[.pointer (some ⟨B 0,0,none⟩),.pointer (some ⟨B 1,0,none⟩),.pointer (some ⟨B 2,0,none⟩),.pointer (some ⟨B 3,0,none⟩),.pointer (some ⟨B 4,0,none⟩)] 54)) (.cells #[.pointer (some ⟨B' 0,0,none⟩),.pointer (some ⟨B' 1,0,none⟩),.pointer (some ⟨B' 2,0,none⟩),.pointer (some ⟨B' 3,0,none⟩),.pointer (some ⟨B' 4,0,none⟩)] 56)) (.cells #[.string t] 9)
 have hx3:=(((hx1.trans hx2).alloc (.cells #[.pointer (some ⟨B 0,0,none⟩),.pointer (some ⟨B 1,0,none⟩),.pointer (some ⟨B 2,0,none⟩),.pointer (some ⟨B 3,0,none⟩),.pointer (some ⟨B 4,0,none⟩)] 54)).alloc (.cells #[.pointer (some ⟨B' 0,0,none⟩),.pointer (some ⟨B' 1,0,none⟩),.pointer (some ⟨B' 2,0,none⟩),.pointer (some ⟨B' 3,0,none⟩),.pointer (some ⟨B' 4,0,none⟩)] 56)).alloc (.cells #[.string t] 9)
 simp only [es] at h3
 clear es h0 h1 h2 hx1 hx2
 go_wp2_with fail
 generalize ((w2.alloc (.cells #[.pointer (some ⟨B 0,0,none⟩),.pointer (some ⟨B 1,0,none⟩),.pointer (some ⟨B 2,0,none⟩),.pointer (some ⟨B 3,0,none⟩),.pointer (some ⟨B 4,0,none⟩)] 54)).alloc (.cells #[.pointer (some ⟨B' 0,0,none⟩),.pointer (some ⟨B' 1,0,none⟩),.pointer (some ⟨B' 2,0,none⟩),.pointer (some ⟨B' 3,0,none⟩),.pointer (some ⟨B' 4,0,none⟩)] 56)).alloc (.cells #[.string t] 9) = w3 at *
 generalize w2.heap.size + 1 + 1 = fg at *
 generalize w2.heap.size + 1 = f9 at *
 generalize w2.heap.size = f8 at *
 refine (IZ [t] (.slice (some ⟨fg,0,none⟩) 1 1) _ (fun w' L h=>Jn L.length h (by rw [List.getElem?_append_right (Nat.le_refl _),Nat.sub_self]; rfl) ht) (fun i hi=>by
  have : i = 0:=by simpa using hi
  subst this
  show t.size <= 3300
  omega) w3 h3).mono ?_
 rintro e w4 ⟨B2,B2',he,hx4,h4⟩
 rw [show lQ B2 5 = #[.pointer (some ⟨B2 0,0,none⟩),.pointer (some ⟨B2 1,0,none⟩),.pointer (some ⟨B2 2,0,none⟩),.pointer (some ⟨B2 3,0,none⟩),.pointer (some ⟨B2 4,0,none⟩)] from rfl,show lQ B2' 5 = #[.pointer (some ⟨B2' 0,0,none⟩),.pointer (some ⟨B2' 1,0,none⟩),.pointer (some ⟨B2' 2,0,none⟩),.pointer (some ⟨B2' 3,0,none⟩),.pointer (some ⟨B2' 4,0,none⟩)] from rfl] at he
 subst he
 have es : ∀(w : World) (o : Obj),(w.alloc o).heap.size = w.heap.size + 1:=fun w o=>by simp
 have h5:=li (li h4 (.cells #[.pointer (some ⟨B2 0,0,none⟩),.pointer (some ⟨B2 1,0,none⟩),.pointer (some ⟨B2 2,0,none⟩),.pointer (some ⟨B2 3,0,none⟩),.pointer (some ⟨B2 4,0,none⟩)] 54)) (.cells #[.pointer (some ⟨B2' 0,0,none⟩),.pointer (some ⟨B2' 1,0,none⟩),.pointer (some ⟨B2' 2,0,none⟩),.pointer (some ⟨B2' 3,0,none⟩),.pointer (some ⟨B2' 4,0,none⟩)] 56)
 have hx5:=((hx3.trans hx4).alloc (.cells #[.pointer (some ⟨B2 0,0,none⟩),.pointer (some ⟨B2 1,0,none⟩),.pointer (some ⟨B2 2,0,none⟩),.pointer (some ⟨B2 3,0,none⟩),.pointer (some ⟨B2 4,0,none⟩)] 54)).alloc (.cells #[.pointer (some ⟨B2' 0,0,none⟩),.pointer (some ⟨B2' 1,0,none⟩),.pointer (some ⟨B2' 2,0,none⟩),.pointer (some ⟨B2' 3,0,none⟩),.pointer (some ⟨B2' 4,0,none⟩)] 56)
 simp only [es] at h5
 clear es h3 h4 hx3 hx4
 have h6 : own _ (devL B (srcD b) 5++(ll (B2 0) (srcD [t] 0)::opR B B' B2 B2' (srcD b) (srcD [t] 0) (w4.heap.size + 1) w4.heap.size f9 f8 w)):=Vi h5
 clear h5
 go_upto_region 10 with (fail)
 generalize (w4.alloc (.cells #[.pointer (some ⟨B2 0,0,none⟩),.pointer (some ⟨B2 1,0,none⟩),.pointer (some ⟨B2 2,0,none⟩),.pointer (some ⟨B2 3,0,none⟩),.pointer (some ⟨B2 4,0,none⟩)] 54)).alloc (.cells #[.pointer (some ⟨B2' 0,0,none⟩),.pointer (some ⟨B2' 1,0,none⟩),.pointer (some ⟨B2' 2,0,none⟩),.pointer (some ⟨B2' 3,0,none⟩),.pointer (some ⟨B2' 4,0,none⟩)] 56) = w5 at *
 generalize w4.heap.size + 1 = f11 at *
 generalize w4.heap.size = f10 at *
 have hD : ∀k,k < 5 -> (srcD b k).Ok /\ (srcD b k).writes <= (0 : Nat) /\ (srcD b k).pend.length <= 0:=fun k _=>⟨(DU b k).1,(DU b k).2.1,(DU b k).2.2.1⟩
 have hD0 : ∀k,k < 5 -> 0 < (srcD b k).fl.length:=fun k _=>(DU b k).2.2.2
 have hT0:=DU [t] 0
 have hop:=fun h=>N1 (D:=srcD b) (top:=srcD [t] 0) (N:=0) (by omega) hD hD0 ⟨hT0.1,hT0.2.1,hT0.2.2.1,hT0.2.2.2⟩ h
 have HCA:=zh (fun w' H=>S5 0 B (srcD b) hD hD0 (by omega) (B2 0) (srcD [t] 0) hT0.1 hT0.2.2.2 (.slice (some ⟨f8,0,none⟩) 5 5) (opR B B' B2 B2' (srcD b) (srcD [t] 0) f11 f10 f9 f8 w) (fun w' L h=>UK h) w' H)
 have HCB:=zh (fun R w H=>Qy 0 B' (srcD b) hD hD0 (by omega) (B2' 0) (srcD [t] 0) hT0.1 hT0.2.2.2 R w H)
 have hcc : 0 <= (Ak (srcD b) (srcD [t] 0)).1:=Oe _ _
 unfold Ng at HCA
 unfold LQ JE at HCB
 clear hD hD0 hT0
 generalize Ak (srcD b) (srcD [t] 0) = S at *
 obtain ⟨oc,om⟩:=S
 dsimp only at HCA HCB hop hcc
 generalize srcD [t] 0 = top at *
 generalize srcD b = D at *
 have hd:=lj h6
 have hxd:=hx5.drew
 clear h6 hx5
 have t0 : w5.drew.cell? ⟨f10,0,none⟩ = some (.pointer (some ⟨B2 0,0,none⟩)):=(ld 13 (b:=f10) (arr:=lQ B2 5) (T:=54) hd rfl).1 0
 by_cases hoc : oc = 0
 case' neg=>
  have HC1:=zh (fun w H=>(HCA.out w H).mono fun e w' h=>(h.resolve_right fun h=>hoc h.1).2)
  have HC2:=zh (fun R w H=>(HCB.out R w H).mono fun e w' h=>(h.resolve_right fun h=>hoc h.1).2)
  have hop' : 0 < oc:=by omega
  have HSM:=zh (fun (w : World)=>(Mv oc oc w).mono fun e w' h=>show e = .returned (.bool true) /\ w = w' from ⟨by rw [h.1,decide_eq_true hop']; simp,h.2⟩)
  rw [ly hop'] at HC1
  clear hoc hcc HCA HCB hop hop'
  go_region_held3 (fun w'=>w'.cell? ⟨f10,0,none⟩ = some (.pointer (some ⟨B2 0,0,none⟩))) (first | exact t0 | exact (ld 13 (b:=f10) (arr:=lQ B2 5) (T:=54) h7 rfl).1 0) ((go_at_call 27; refine (HC1.out _ hd).mono ?_; rintro e w6 ⟨rfl,hx6,h7⟩))
  have hx7:=hxd.trans hx6
  have v:=(ld 14 (b:=f9) (arr:=lQ B' 5) (T:=56) h7 rfl).1
  have v0 : w6.cell? ⟨f9,0,none⟩ = some (.pointer (some ⟨B' 0,0,none⟩)):=v 0
  have v1 : w6.cell? ⟨f9,1,none⟩ = some (.pointer (some ⟨B' 1,0,none⟩)):=v 1
  have v2 : w6.cell? ⟨f9,2,none⟩ = some (.pointer (some ⟨B' 2,0,none⟩)):=v 2
  have v3 : w6.cell? ⟨f9,3,none⟩ = some (.pointer (some ⟨B' 3,0,none⟩)):=v 3
  have v4 : w6.cell? ⟨f9,4,none⟩ = some (.pointer (some ⟨B' 4,0,none⟩)):=v 4
  have v5 : w6.cell? ⟨f11,0,none⟩ = some (.pointer (some ⟨B2' 0,0,none⟩)):=(ld 12 (b:=f11) (arr:=lQ B2' 5) (T:=56) h7 rfl).1 0
  clear v hd hxd hx6 t0
  have h8:=O4 (X:=devL B D 5++[ll (B2 0) top]) (by simpa only [zp,List.singleton_append] using h7)
  go_wp2_with fail
  refine (HC2.out _ _ h8).mono ?_
  rintro e w7 ⟨rfl,hx8,h9⟩
  go_wp2_with fail
  refine (HSM.out w7).mono ?_
  rintro e w' ⟨rfl,rfl⟩
  go_wp2_with fail
  go_ret
  exact ⟨rfl,Dc 10 h9 rfl (hx7.trans hx8)⟩
 have HC1:=zh (fun w H=>(HCA.out w H).mono fun e w' h=>(h.resolve_left fun h=>h.1 hoc).2)
 have HC2:=zh (fun R w H=>(HCB.out R w H).mono fun e w' h=>(h.resolve_left fun h=>h.1 hoc).2)
 have HOP:=zh (hop hoc)
 clear hoc hcc HCA HCB hop
 go_region_held3 (fun w'=>w'.cell? ⟨f10,0,none⟩ = some (.pointer (some ⟨B2 0,0,none⟩))) (first | exact t0 | exact (ld 28 (b:=f10) (arr:=lQ B2 5) (T:=54) h7 rfl).1 0) ((go_at_call 27; refine (HC1.out _ hd).mono ?_; rintro e w6 ⟨Y,rfl,hx6,h7⟩))
 have hx7:=hxd.trans hx6
 have v:=(ld 29 (b:=f9) (arr:=lQ B' 5) (T:=56) h7 rfl).1
 have v0 : w6.cell? ⟨f9,0,none⟩ = some (.pointer (some ⟨B' 0,0,none⟩)):=v 0
 have v1 : w6.cell? ⟨f9,1,none⟩ = some (.pointer (some ⟨B' 1,0,none⟩)):=v 1
 have v2 : w6.cell? ⟨f9,2,none⟩ = some (.pointer (some ⟨B' 2,0,none⟩)):=v 2
 have v3 : w6.cell? ⟨f9,3,none⟩ = some (.pointer (some ⟨B' 3,0,none⟩)):=v 3
 have v4 : w6.cell? ⟨f9,4,none⟩ = some (.pointer (some ⟨B' 4,0,none⟩)):=v 4
 have v5 : w6.cell? ⟨f11,0,none⟩ = some (.pointer (some ⟨B2' 0,0,none⟩)):=(ld 27 (b:=f11) (arr:=lQ B2' 5) (T:=56) h7 rfl).1 0
 clear v hd hxd hx6 t0
 have h8:=O4 (X:=yL Y om (devL B D 5++[ll (B2 0) top])) (by simpa only [zp,List.singleton_append] using h7)
 go_wp2_with fail
 refine (HC2.out _ _ h8).mono ?_
 rintro e w7 ⟨Y2,rfl,hx8,h9⟩
 have hx9:=hx7.trans hx8
 have h10 : own w7 (yL Y om (ryL Y2 om [yy w])):=by
  have g1 : own w7 (rshL Y2.bs Y2.A om.F++(ryT Y2 om++((shL Y.bs Y.A om.F++(yT Y om++(devL B D 5++[ll (B2 0) top])))++([pts f11 (.cells (lQ B2' 5) 56 (0,0)),pts f10 (.cells (lQ B2 5) 54 (0,0)),pts f9 (.cells (lQ B' 5) 56 (0,0)),pts f8 (.cells (lQ B 5) 54 (0,0))]++[yy w])))):=h9
  have g2:=N8 (rshL Y2.bs Y2.A om.F++(ryT Y2 om++(shL Y.bs Y.A om.F++yT Y om))) (devL B D 5++([ll (B2 0) top]++[pts f11 (.cells (lQ B2' 5) 56 (0,0)),pts f10 (.cells (lQ B2 5) 54 (0,0)),pts f9 (.cells (lQ B' 5) 56 (0,0)),pts f8 (.cells (lQ B 5) 54 (0,0))])) (E:=[yy w]) (by simpa only [zp] using g1)
  exact yw_b (by simpa only [zp] using g2)
 clear h7 h8 h9 hx7 hx8 v0 v1 v2 v3 v4 v5
 go_wp2_with fail
 refine (FM 0 w7).mono ?_
 rintro e w' ⟨rfl,rfl⟩
 go_wp2_with fail
 go_loopw [16] (fun kv wr=>∃(q : Nat) (Y' : YA) (Y2' : RA) (m : lf),q <= l.length /\ kv = .int .i64 q /\ Y'.y = Y.y /\ Y2'.y = Y2.y /\ lH (10 + 1000 * q) m /\ YLen m /\ Ext w wr /\ own wr (yL Y' m (ryL Y2' m [yy w]))) (fun kv _=>l.length - (intOf kv).toNat)
 case atStart=>exact ⟨0,Y,Y2,om,by omega,rfl,rfl,rfl,HOP.out.1.mono (by omega),HOP.out.2,hx9,h10⟩
 case round=>
  clear h10 hx9 HOP
  obtain ⟨q,Y',Y2',m,hq,rfl,hy,hy2,hgm,hlm,hxr,hown⟩:=hrel
  by_cases hlt : q < l.length
  ·obtain rfl:=HAO.out (by omega)
   obtain ⟨c0,c1,c2,c3,c4,c5,c6⟩:=(HAT.out q hlt).later 30 hown rfl
   have ok:=HV.out.2 _ (EQ hlt)
   obtain ⟨hS7,hK3⟩:=HLX.out _ (EQ hlt)
   obtain ⟨ko,kc,hkv,hkl⟩:=Nw ok.keep
   rw [hkv] at c6
   generalize hx : l.getD q Di = x at *
   by_cases hcr : (x.kind.toList == [99,114,97,115,104]) = true
   ·clear ok hkv hkl
    have hg2:=hgm.mono (show 10 + 1000 * q <= 10 + 1000 * (q + 1) by omega)
    go_wp2_with fail
    go_roundw
    case rel=>exact ⟨q + 1,Y',Y2',m,by omega,by go_num,hy,hy2,hg2,hlm,hxr,hown⟩
    case measure=>simp [intOf]; omega
   ·have HYA:=zh (QW Y' Y2' m (10 + 1000 * q) hgm (by omega) x ok.A ok.B hS7 ko x.keep.length kc [yy w] HTR.out wr hown)
    have hg2:=PZ hgm (by omega) x ok.A ok.B hS7
    have hl2:=Sm hlm hgm (by omega) x hS7
    unfold Af at HYA
    rw [hy,hy2] at HYA
    generalize Gd m x = M at *
    have HG2:=zh (And.intro (hg2.mono (show 10 + 1000 * q + 1000 <= 10 + 1000 * (q + 1) by omega)) hl2)
    clear hgm hlm hg2 hl2 ok hkv hkl hown
    go_wp2_with fail
    refine HYA.out.mono ?_
    rintro e w5 ⟨Y'',Y2'',hz,hz2,rfl,hx5,h5⟩
    go_wp2_with fail
    go_roundw
    case rel=>exact ⟨q + 1,Y'',Y2'',M,by omega,by go_num,hz,hz2,HG2.out.1,HG2.out.2,hxr.trans hx5,h5⟩
    case measure=>simp [intOf]; omega
  ·obtain rfl : q = l.length:=by omega
   have HAS:=zh (PR (10 + 1000 * l.length) Y' Y2' m hgm.ok (by omega) _ wr hown)
   rw [hy,hy2] at HAS
   clear hgm hlm hown
   go_wp2_with fail
   refine HAS.out.mono ?_
   rintro e w7 ⟨rfl,hx7,h7⟩
   go_wp2_with fail
   go_ret
   exact ⟨rfl,Dc 30 h7 rfl (hxr.trans hx7)⟩
end Go.Proofs.YtbpblokfiajpjabGreatDoor
namespace Go.Proofs.YtbpblokfiajpjabGreatDoor
open Go.ChangeShapes Go.WideShapes Go.ChangeAt Go.RowKit
theorem T8 : Rows.laid_math_bits_deBruijn64tab (H:=Unit) = .agg (Lib.deBruijn64tab.map fun (n : Nat)=>.lit (.int .u8 (n : Int))):=by kernel_rfl
theorem T5 {W : World} (h : laidMetH Tryz.prog [("math/bits.deBruijn64tab", Rows.laid_math_bits_deBruijn64tab)] W) : yH W := by
 intro r hr
 rw [MakeChecks.laidMetH_plain _ _ _ (by kernel_rfl)] at h
 obtain ⟨ps,⟨g,t,cs,fuel,p,q,hg,ht,hv,hd,_,_⟩,_,_⟩:=h
 obtain rfl := Option.some.inj ((show Tryz.prog.globalNamed "math/bits.deBruijn64tab" = some 0 by kernel_rfl).symm.trans hg)
 obtain rfl:=Option.some.inj ((show (Tryz.prog.globals[0]?).map (·.type) = some 291 by kernel_rfl).symm.trans ht)
 obtain ⟨xs,m,_,ex,_,hl,hel⟩:=DataW.trod_array Tryz.underlying291 hd
 have c5 : Tryz.prog.cellsOf 5 = 1:=by kernel_rfl
 have hE:=hel r hr
 rw [c5,Nat.mul_one,List.getElem?_eq_getElem (by omega)] at hE
 obtain ⟨z,e1,e2,_⟩:=DataW.trod_int Tryz.underlying5 hE
 have hlen : Lib.deBruijn64tab.length = 64:=by decide
 rw [T8] at ex
 have e3 : (xs.map (·.1)) = Lib.deBruijn64tab.map fun (n : Nat)=>.lit (.int .u8 (n : Int)):=(DataW.agg.inj (Prod.mk.inj ex).1).symm
 have e4 : (xs.map (·.1))[r]? = (Lib.deBruijn64tab.map fun (n : Nat)=>(DataW.lit (.int .u8 (n : Int)) : DataW Unit))[r]?:=by rw [e3]
 rw [List.getElem?_map,List.getElem?_map,List.getElem?_eq_getElem (by omega : r < xs.length),List.getElem?_eq_getElem (by omega : r < Lib.deBruijn64tab.length),e2] at e4
 have hz : z = ((Lib.deBruijn64tab.getD r 0 : Nat) : Int):=by
  simp only [Option.map_some,Option.some.injEq,DataW.lit.injEq,Lit.int.injEq,true_and] at e4
  rw [e4,List.getD,List.getElem?_eq_getElem (by omega : r < Lib.deBruijn64tab.length)]; rfl
 rw [World.var?_cell hg hv r,<- hz]
 have : cs.toList[r]? = some (.int .u8 z):=by
  have h0 : ((cs.toList.drop r).take 1)[0]? = some (.int .u8 z):=by rw [e1]; rfl
  simpa using h0
 simpa using this
end Go.Proofs.YtbpblokfiajpjabGreatDoor
namespace Go.Proofs.YtbpblokfiajpjabGreatDoor.yardOpensDone
open Go.ChangeShapes Go.WideShapes Go.ChangeAt Go.RowKit
open Go.ChangeMaps (open_string shut_string)
set_option linter.unusedVariables false
theorem own : ownKnob Tryz.prog.godebug = none:=by kernel_rfl
theorem Pa : laidOutB Tryz.prog = true:=by kernel_rfl
theorem VU (os : Os) (started : os.Started) (H : Type) (enc : TypeId×Value -> H) :
  ReturnsInHanded {} Tryz.checked os 4 .any (fun w args=>(Rows.yardOpensSpec.pre enc Tryz.prog Tryz.f4 Rows.yardOpensRow.domain false w args /\ laidMetH Tryz.prog Rows.yardOpensRow.laid w) /\ sizedMet enc Tryz.prog Tryz.f4 (OpenSpec.ofChange Rows.yardOpensSpec) false w args)
   (Rows.yardOpensSpec.post enc Tryz.prog Tryz.f4 false true false false):=by
 refine returnsInHanded_of_change_and (C:=Tryz.checked) (X:=fun w _=>laidMetH Tryz.prog Rows.yardOpensRow.laid w) (fun _ _ _ hh h=>h.of_heap hh) own started (by kernel_rfl) Tryz.func4
  (ChangeSpec.witness_shaped (enc:=enc) (C:=Tryz.checked) (os:=os) (X:=fun w _=>laidMetH Tryz.prog Rows.yardOpensRow.laid w) false (World.laidAll Tryz.prog os Rows.yardOpensRow.laid) #[.slice none 0 0,.string ByteArray.empty,.slice none 0 0] 8 (World.laidAll_os _ _ _)
   (World.shaped_of_ZipB (by kernel_rfl) (by kernel_rfl)) (by kernel_rfl) (by kernel_rfl) (by kernel_rfl)
   (by rw [MakeChecks.laidMetH_plain _ _ _ (by kernel_rfl)]; exact laidMet_laidAll _ (by kernel_rfl) (by kernel_rfl))) ?_
 intro W base args ds gs before hval0 hW hcnd _ hL _
 have hval : ∀(j : Nat) t v,Tryz.f4.params[j]? = some t -> args[j]? = some v -> Value.okWide Tryz.prog W .any base t v:=hval0
 have hW':=hW
 obtain ⟨p,q,hA0,hV,rfl,hfz,hnd⟩:=hW
 have hA : DataW.TrodAll enc Tryz.prog W 0 (fun _=>true) true Tryz.f4.params.toList args.toList ds p:=hA0
 rw [Tryz.params4] at hA hval
 obtain ⟨v0,vs0,d0,ds0,p0,q0,hargs,rfl,rfl,h0,r0⟩:=trodAll_cons hA
 obtain ⟨v1,vs1,d1,ds1,p1,q1,rfl,rfl,rfl,h1,r1⟩:=trodAll_cons r0
 obtain ⟨v2,vs2,d2,ds2,p2,q2,rfl,rfl,rfl,h2,r2⟩:=trodAll_cons r1
 obtain ⟨rfl,rfl,rfl⟩:=trodAll_nil r2
 obtain rfl : args = #[v0,v1,v2]:=by cases args; simp_all
 obtain ⟨rfl,rfl⟩:=trodVars_none hV
 obtain ⟨ao0,len0,cap0,rfl⟩:=okWide_slice Tryz.underlying51 (hval 0 51 v0 rfl rfl)
 have t0:=h0
 have lt0 : ∀x∈p0,x.block < W.heap.size:=by obtain ⟨m,hm⟩:=t0; exact DataW.trod_lt m _ _ _ hm
 obtain ⟨a0,k0⟩ : ∃l,zx W (.slice ao0 len0 cap0) l:=by
  obtain ⟨fuel,hf⟩:=h0
  exact Q6 hf
 obtain ⟨a1,rfl,rfl,rfl,k1⟩:=open_string Tryz.underlying9 (hval 1 9 v1 rfl rfl) h1
 obtain ⟨ao2,len2,cap2,rfl⟩:=okWide_slice Tryz.underlying25 (hval 2 25 v2 rfl rfl)
 have t2:=h2
 have lt2 : ∀x∈p2,x.block < W.heap.size:=by obtain ⟨m,hm⟩:=t2; exact DataW.trod_lt m _ _ _ hm
 obtain ⟨a2,k2⟩ : ∃l,CR W (.slice ao2 len2 cap2) l:=by
  obtain ⟨fuel,hf⟩:=h2
  exact SY hf
 clear hA0 hval0
 refine (KZ _ a0 a1 _ a2 W k0 (by simpa [maxLen] using k1) k2 (T5 hL)).mono fun e W' ⟨he,bel⟩=>?_
 subst he
 exact ⟨_,rfl,_,_,_,[],_,[],hW',trodAll_mk1 (shut_bool Tryz.underlying4 _),(trodAll_cons_mk (Below.trod Pa (by kernel_rfl) (of_decide_eq_true (by kernel_rfl)) t0 bel lt0) (trodAll_cons_mk (shut_string Tryz.underlying9 k1) (trodAll_cons_mk (Below.trod Pa (by kernel_rfl) (of_decide_eq_true (by kernel_rfl)) t2 bel lt2) trodAll_mk0))),rfl,bel.frame _,fun h=>by cases h⟩
theorem andB {a b : Bool} (ha : a = true) (hb : b = true) : (a && b) = true:=by rw [ha,hb]; rfl
theorem WT : Rows.yardOpensRow.wf (OpenSpec.ofChange Rows.yardOpensSpec) = true:=by kernel_rfl
theorem WN : laidOutB Tryz.prog = true:=by kernel_rfl
theorem WR : mapsRowed Tryz.prog = true:=by kernel_rfl
theorem Wz : Tryz.f4.params.all (Tryz.prog.readableRec ·) = true:=by kernel_rfl
theorem WS : namedTie Tryz.prog Rows.yardOpensRow.named Rows.yardOpensSpec.vars = true:=by kernel_rfl
theorem WI : (Rows.yardOpensRow.stops == []) = true:=by kernel_rfl
theorem WC : (Tryz.prog.stops == []) = true:=by kernel_rfl
theorem WX : (Rows.yardOpensRow.knobs == []) = true:=by kernel_rfl
theorem WE : (Tryz.prog.stopKnobs == []) = true:=by kernel_rfl
theorem WP : (Rows.yardOpensRow.inPlace == Tryz.prog.inPlace 4) = true:=by kernel_rfl
theorem Wc : (Rows.yardOpensRow.unfollowed == Tryz.prog.unfollowed 4) = true:=by kernel_rfl
theorem VL : (Rows.yardOpensRow.recurses == Tryz.prog.recurses 4) = true:=by kernel_rfl
theorem VW : (Rows.yardOpensRow.named == Tryz.prog.varsNamed 4) = true:=by kernel_rfl
theorem VK : (Rows.yardOpensRow.maps == (Tryz.f4.params.toList++Rows.yardOpensSpec.plain.varTypes Tryz.prog).any (Tryz.prog.mapsRec ·)) = true:=by kernel_rfl
theorem We : (Rows.yardOpensRow.ifaces == (Tryz.f4.params.toList++Rows.yardOpensSpec.plain.varTypes Tryz.prog).any (Tryz.prog.ifacesRec ·)) = true:=by kernel_rfl
theorem VV : (Rows.yardOpensRow.mapsOut == Tryz.prog.mapsAmong Tryz.f4.resultTypes.toList) = true:=by kernel_rfl
theorem VO : (Rows.yardOpensRow.loops == (Tryz.f4.params.toList++Rows.yardOpensSpec.plain.varTypes Tryz.prog).any (Tryz.prog.loopsFrom ·)) = true:=by kernel_rfl
theorem V6 : (Rows.yardOpensRow.wideKeys == (Tryz.f4.params.toList++Rows.yardOpensSpec.plain.varTypes Tryz.prog++Tryz.f4.resultTypes.toList).any (Tryz.prog.wideKeysFrom ·)) = true:=by kernel_rfl
theorem V4 : Rows.yardOpensSpec.vars.all (Tryz.prog.varReadable ·) = true:=by kernel_rfl
theorem Wh : Tryz.f4.resultTypes.all (fun t=>Tryz.prog.readableRec t && decide (t < Tryz.prog.types.size)) = true:=by kernel_rfl
theorem Wa : (Rows.yardOpensRow.ifacesOut == Tryz.f4.resultTypes.toList.any (Tryz.prog.ifacesRec ·)) = true:=by kernel_rfl
theorem VJ : (Rows.yardOpensRow.loopsOut == Tryz.f4.resultTypes.toList.any (Tryz.prog.loopsFrom ·)) = true:=by kernel_rfl
theorem VX : (Rows.yardOpensRow.plainKeys == Tryz.prog.plainKeys) = true:=by kernel_rfl
theorem V2 : Rows.yardOpensRow.shortTexts.isNone = true:=by kernel_rfl
theorem Wq : Tryz.prog.stopsHeard = true:=by kernel_rfl
theorem Ws : Tryz.prog.mayEnter = true:=by kernel_rfl
theorem VT : (Rows.yardOpensRow.lifted == Tryz.prog.liftsFinal) = true:=by kernel_rfl
theorem Wi : (Tryz.prog.make == some Rows.yardOpensRow.make) = true:=by kernel_rfl
theorem V1 : (Rows.yardOpensRow.kinds == (if Rows.yardOpensRow.domain.isEmpty then [] else Tryz.f4.params.toList.map fun t=>match Tryz.prog.underlying t with | some (.int k)=>some k | _=>none)) = true:=by kernel_rfl
theorem VZ : (Rows.yardOpensRow.pinned == Rows.yardOpensRow.pinnedBy) = true:=by kernel_rfl
theorem Wv : (Rows.yardOpensRow.veiled == (Tryz.f4.params.toList++Rows.yardOpensSpec.plain.varTypes Tryz.prog++Tryz.f4.resultTypes.toList).any (Tryz.prog.veiledRec ·)) = true:=by kernel_rfl
theorem Wx : Rows.yardOpensRow.veiledFits Tryz.prog Tryz.f4.params.toList (Tryz.f4.params.toList++Rows.yardOpensSpec.plain.varTypes Tryz.prog++Tryz.f4.resultTypes.toList) = true:=by kernel_rfl
theorem Wn : joinedFacts Tryz.prog 4 Tryz.f4 Rows.yardOpensSpec Rows.yardOpensRow = true:=by
 unfold joinedFacts
 exact (andB (andB (andB (andB (andB (andB (andB (andB (andB (andB (andB (andB (andB (andB (andB (andB (andB (andB (andB (andB (andB (andB (andB (andB (andB (andB (andB (andB (andB (andB (andB WT WN) WR) Wz) WS) WI) WC) WX) WE) WP) Wc) VL) VW) VK) We) VV) VO) V6) V4) Wh) Wa) VJ) VX) V2) Wq) Ws) VT) Wi) V1) VZ) Wv) Wx)
theorem VI : Tryz.prog.funcNamed Rows.yardOpensRow.func = some 4:=by kernel_rfl
theorem over : Rows.yardOpensRow.holds Tryz.pinned (OpenSpec.ofChange Rows.yardOpensSpec):=
 OpenClaim.holds_of_wide 4 Tryz.f4 rfl rfl rfl rfl rfl rfl rfl ⟨rfl,rfl,rfl,rfl,rfl⟩ rfl rfl rfl rfl rfl VI Tryz.func4 Wn
  (of_decide_eq_true (by kernel_rfl)) (by unfold Func.isWrapper; first | (rw [if_pos (by decide +kernel)]; kernel_rfl) | (rw [if_neg (by decide +kernel)]; exact ⟨rfl,rfl⟩))
  (fun os started H enc _=>VU os started H enc)
theorem proved : Rows.YardOpensCardSaid:=
 Claim7.holds_tied_plain_at .later [] _ _ _ _ over (fun _ h=>by cases h) (by kernel_rfl) (fun _ h=>by cases h) yardOpens_row_tie rfl ⟨rfl,rfl⟩ (by kernel_rfl) rfl
  (fun f fn hf hfn=>by
   obtain rfl : f = 4 := Option.some.inj ((show Tryz.prog.funcNamed "stackyard/stackyardlaw.YardOpens" = some 4 by kernel_rfl).symm.trans hf) |>.symm
   obtain rfl : fn = Tryz.f4:=(Option.some.inj (Tryz.func4.symm.trans hfn)).symm
   exact ⟨by kernel_rfl,fun j t ht=>by
    rw [Tryz.params4] at ht
    have hm : t∈[51,9,25]:=by
     have:=Array.mem_of_getElem? ht
     simp only [List.mem_toArray,List.mem_cons,List.mem_nil_iff,or_false] at this ⊢
     simp only [this,true_or,or_true] <;> omega
    have hall : ([51,9,25].all fun u=>!Tryz.prog.wantsStandIn u) = true:=by kernel_rfl
    exact (show Tryz.prog.wantsStandIn t = false by simpa using List.all_eq_true.1 hall t hm)⟩)
  (by kernel_rfl)
#print axioms proved
end Go.Proofs.YtbpblokfiajpjabGreatDoor.yardOpensDone
