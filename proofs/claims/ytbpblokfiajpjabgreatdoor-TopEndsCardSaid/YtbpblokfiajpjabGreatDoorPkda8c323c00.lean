/- Lemmas on which TopEnds stands: the texts YardT1 Ones Image17 Image19 Image20 Image21 Ints Chain1 Chain2 Chain3 Chain4. No conditions. -/
import Derived.Test.YtbpblokfiajpjabGreatDoorPk2b24bac909
import Derived.Laws.Bits64b
set_option linter.all false
set_option maxRecDepth 1000000
set_option maxHeartbeats 32000000
namespace Go.Proofs.YtbpblokfiajpjabGreatDoor
open Go.RowKit Go.SL Go.Crc
def ImgM.face (m : ImgM) (k : Nat) : Option ByteArray:=if (ent m.t (k / 4)).1 = 0 then none else some (cont m.d m.base (ent m.t (k / 4)) (k % 4))
theorem As {m : ImgM} {k : Nat} : m.face k = none↔(ent m.t (k / 4)).1 = 0:=by
 unfold ImgM.face
 split <;> simp_all
theorem CH {m : ImgM} {k : Nat} (h : (ent m.t (k / 4)).1 = 2) : m.face k = some (m.d.seen (m.base + 4 * (ent m.t (k / 4)).2 + ((k % 4 : Nat) : Int))):=by
 unfold ImgM.face cont
 rw [zq (by omega),zq (by omega),zq (by omega)]
theorem CM {m : ImgM} {k : Nat} (h : (ent m.t (k / 4)).1 = 1) : m.face k = some (zs 16):=by
 unfold ImgM.face cont
 rw [zq (by omega),zq (by omega),zt h]
theorem Am {m : ImgM} (hm : m.Ok) (c : Nat) : (ent m.t c).1 = 0 \/ (ent m.t c).1 = 1 \/ ((ent m.t c).1 = 2 /\ c < m.t.length):=by
 by_cases h : c < m.t.length
 ·have:=Ad (hm.ents _ (zj h))
  omega
 ·left; rw [EV (by omega)]
theorem AZ {m : ImgM} (hm : m.Ok) {d' : DevM} {k : Nat} (h : (ent m.t (k / 4)).1 = 2 -> d'.seen (m.base + 4 * (ent m.t (k / 4)).2 + ((k % 4 : Nat) : Int)) = m.d.seen (m.base + 4 * (ent m.t (k / 4)).2 + ((k % 4 : Nat) : Int))) : ({ m with d:=d' } : ImgM).face k = m.face k:=by
 rcases Am hm (k / 4) with e | e | ⟨e,-⟩
 ·rw [As.2 e,(As (m:={ m with d:=d' })).2 e]
 ·rw [CM e,CM (m:={ m with d:=d' }) e]
 ·rw [CH e,CH (m:={ m with d:=d' }) e,<- h e]
  rfl
theorem DH {m : ImgM} (hm : m.Ok) {d' : DevM} (hf : d'.fl = m.d.fl) (hp : d'.pend = m.d.pend) (k : Nat) : ({ m with d:=d' } : ImgM).face k = m.face k:=
 AZ hm fun _=>zJ (q:=[]) hf (by rw [hp,List.append_nil]) (fun x hx=>by cases hx)
theorem Ix {m : ImgM} (hm : m.Ok) {c : Nat} (h : (ent m.t c).1 = 2) (hc : c < m.t.length) {j : Nat} (hj : j < 4) : 1 + (lA m.t.length : Int) <= m.base + 4 * (ent m.t c).2 + (j : Int) /\ m.base + 4 * (ent m.t c).2 + (j : Int) < m.d.fl.length:=by
 obtain ⟨r0,r1⟩:=yI hm hc h
 have h1:=zT hm r0 r1
 have h2:=zP hm r0
 rw [zo] at h1 h2
 omega
theorem Dr {m : ImgM} (hm : m.Ok) (k : Nat) : m.flush.face k = m.face k:=by
 refine AZ hm fun e=>?_
 rcases Am hm (k / 4) with e' | e' | ⟨-,hc⟩
 ·omega
 ·omega
 ·obtain ⟨a1,a2⟩:=Ix hm e hc (j:=k % 4) (by omega)
  generalize m.base + 4 * (ent m.t (k / 4)).2 + ((k % 4 : Nat) : Int) = a at *
  obtain ⟨n,rfl⟩:=ze (show 0 <= a by omega)
  exact B8 hm.d (by omega)
theorem Nc {m : ImgM} (hm : m.Ok) {n : Int} (k : Nat) : ({ m with d:={ m.d with fail:=n } } : ImgM).face k = m.face k:=DH hm rfl rfl k
theorem Fk {d : DevM} {a : Int} {s : ByteArray} (h : (d.write a s).1≠0) : (d.write a s).2.pend = d.pend /\ (d.write a s).2.fl = d.fl:=by
 rcases DevM.write_cases d a s with h' | h'
 ·exact absurd h'.1 h
 ·exact h'.2
theorem I5 {d : DevM} {a : Int} {s : ByteArray} (h : (d.write a s).1 = 0) : (d.write a s).2.pend = d.pend++[(a,s)] /\ (d.write a s).2.fl = d.fl:=by
 rcases DevM.write_cases d a s with h' | h'
 ·exact h'.2
 ·exact absurd h h'.1
theorem IX {m : ImgM} (hm : m.Ok) {c : Nat} (hc : c < m.t.length) {e : Ent} (he : lR e m.p = true) (k : Nat) :
  ((m.setE c e).1≠0 -> (m.setE c e).2.face k = m.face k) /\
  ((m.setE c e).1 = 0 -> (m.setE c e).2.face k = if k / 4 = c then (if e.1 = 0 then none else some (cont m.d m.base e (k % 4))) else m.face k):=by
 have hb:=Dc hm
 have hr:=yr hc
 have hrg:=Ad he
 rw [Ck hm hc he]
 split
 ·rename_i h
  obtain ⟨h1,h2⟩:=Fk h
  exact ⟨fun _=>DH hm h2 h1 k,fun h'=>absurd h' h⟩
 ·rename_i h
  obtain ⟨h1,h2⟩:=I5 (Decidable.not_not.1 h)
  generalize (m.d.write (1 + ((c / 8 : Nat) : Int)) (oc (m.t.set c e) (c / 8))).2 = d' at *
  have hsee : ∀a : Int,m.base <= a -> d'.seen a = m.d.seen a:=fun a ha=>zJ h2 h1 fun x hx=>by rw [List.mem_singleton.1 hx]; dsimp only; omega
  refine ⟨fun h'=>absurd rfl h',fun _=>?_⟩
  by_cases hk : k / 4 = c
  ·rw [zt hk]
   unfold ImgM.face
   dsimp only
   rw [Ab hc,zt hk]
   congr 2
   change (if e.1 = 0 then dash else if e.1 = 1 then zs 16 else d'.seen (m.base + 4 * e.2 + ((k % 4 : Nat) : Int))) = _
   rw [hsee (m.base + 4 * e.2 + ((k % 4 : Nat) : Int)) (by omega)]
   rfl
  ·rw [zq hk]
   have e1 : ({ m with d:=d',t:=m.t.set c e,held:=if (ent m.t c).1 = 2 then m.held++[(ent m.t c).2] else m.held } : ImgM).face k = ({ m with d:=d' } : ImgM).face k:=by
    unfold ImgM.face
    dsimp only
    rw [Ab hc,zq hk]
    rfl
   rw [e1]
   refine AZ hm fun e2=>hsee _ ?_
   rcases Am hm (k / 4) with e' | e' | ⟨-,hc'⟩
   ·omega
   ·omega
   ·have:=(Ix hm e2 hc' (j:=k % 4) (by omega)).1
    omega
theorem GA {m : ImgM} (hm : m.Ok) (c : Int) (k : Nat) : ((m.clear c).1≠0 -> (m.clear c).2.face k = m.face k) /\ ((m.clear c).1 = 0 -> (m.clear c).2.face k = if ((k / 4 : Nat) : Int) = c then some (zs 16) else m.face k):=by
 unfold ImgM.clear
 split
 ·rename_i ht
  obtain ⟨c0,-,hcl⟩:=oN hm ht
  obtain ⟨n,rfl⟩:=ze c0
  rw [zn] at hcl ⊢
  split
  ·rename_i h1
   refine ⟨fun _=>rfl,fun _=>?_⟩
   split
   ·rename_i hk
    have hk : k / 4 = n:=by omega
    refine CM ?_
    rw [hk]
    exact h1
   ·rfl
  ·have h:=IX hm hcl (e:=(1,0)) rfl k
   refine ⟨h.1,fun h0=>(h.2 h0).trans ?_⟩
   by_cases hk : k / 4 = n
   ·rw [zt hk,zq (by decide),zt (show ((k / 4 : Nat) : Int) = (n : Int) by omega)]
    rfl
   ·rw [zq hk,zq (by omega)]
 ·exact ⟨fun _=>rfl,fun h=>by cases h⟩
theorem Ez {l : List ByteArray} {d : DevM} {a : Int} (x : Int) : (∀i : Nat,i < l.length -> x≠a + (i : Int)) -> (d.puts a l).2.seen x = d.seen x:=fun h=>by
 obtain ⟨h1,q,h2,h3,-⟩:=DevM.puts_cases l d a
 exact zJ h1 h2 fun y hy e=>by
  have:=h3 y hy
  exact h (y.1 - a).toNat (by omega) (by omega)
theorem J8 {l : List ByteArray} {d : DevM} {a : Int} {i : Nat} (hi : i < l.length) : (d.puts a l).2.seen (a + (i : Int)) = d.seen (a + (i : Int)) \/ (d.puts a l).2.seen (a + (i : Int)) = l.getD i ByteArray.empty:=by
 obtain ⟨h1,q,h2,-,j,j1,j2,-⟩:=DevM.puts_cases l d a
 by_cases hj : i < j
 ·right
  rw [Dx h1 h2,j2]
  exact GW (f:=fun i=>l.getD i ByteArray.empty) hj
 ·left
  refine zJ h1 h2 fun x hx=>?_
  rw [j2] at hx
  obtain ⟨r,hr,rfl⟩:=List.mem_map.1 hx
  have:=List.mem_range.1 hr
  dsimp only
  omega
theorem E9 {m : ImgM} (hm : m.Ok) (c fr : Int) (s : ByteArray) (k : Nat) :
  ((m.wr c fr s).2.face k = m.face k \/ (m.face k≠none /\ ∃i : Nat,i < s.size / 16 /\ (k : Int) = 4 * c + fr + i /\ (m.wr c fr s).2.face k = some (lz s i))) /\
  ((m.wr c fr s).1 = 0 -> ∀i : Nat,i < s.size / 16 -> (k : Int) = 4 * c + fr + i -> (m.wr c fr s).2.face k = some (lz s i)):=by
 unfold ImgM.wr
 split
 ·exact ⟨.inl rfl,fun h=>by cases h⟩
 ·rename_i hb
  split
  ·exact ⟨.inl rfl,fun h=>by cases h⟩
  ·rename_i hk2
   have hk2:=Decidable.not_not.1 hk2
   unfold ImgM.wrBad at hb
   have ht : m.there c = true:=by
    cases h : m.there c
    ·exact absurd (.inl h) hb
    ·rfl
   have b1 : 0 <= fr:=Int.not_lt.1 fun h=>hb (.inr (.inl h))
   have b3 : (s.size : Int) <= 16 * (4 - fr):=Int.not_lt.1 fun h=>hb (.inr (.inr (.inr (.inr h))))
   obtain ⟨c0,-,hcl⟩:=oN hm ht
   obtain ⟨n,rfl⟩:=ze c0
   rw [zn] at hcl ⊢
   have hk2 : (ent m.t n).1 = 2:=hk2
   rw [zo]
   have hl:=oZ s (s.size / 16)
   have hother : ∀x : Int,(∀i : Nat,i < s.size / 16 -> x≠m.base + 4 * (ent m.t n).2 + fr + (i : Int)) -> (m.d.puts (m.base + 4 * (ent m.t n).2 + fr) (lv s (s.size / 16))).2.seen x = m.d.seen x:=fun x hx=>
    Ez x fun i hi=>hx i (by rwa [hl] at hi)
   have hor : ∀i : Nat,i < s.size / 16 -> (m.d.puts (m.base + 4 * (ent m.t n).2 + fr) (lv s (s.size / 16))).2.seen (m.base + 4 * (ent m.t n).2 + fr + (i : Int)) = m.d.seen (m.base + 4 * (ent m.t n).2 + fr + (i : Int)) \/
     (m.d.puts (m.base + 4 * (ent m.t n).2 + fr) (lv s (s.size / 16))).2.seen (m.base + 4 * (ent m.t n).2 + fr + (i : Int)) = lz s i:=fun i hi=>by
    have:=J8 (d:=m.d) (a:=m.base + 4 * (ent m.t n).2 + fr) (l:=lv s (s.size / 16)) (i:=i) (by rw [hl]; exact hi)
    rwa [CW hi] at this
   have hall : (m.d.puts (m.base + 4 * (ent m.t n).2 + fr) (lv s (s.size / 16))).1 = 0 -> ∀i : Nat,i < s.size / 16 -> (m.d.puts (m.base + 4 * (ent m.t n).2 + fr) (lv s (s.size / 16))).2.seen (m.base + 4 * (ent m.t n).2 + fr + (i : Int)) = lz s i:=fun h i hi=>by
    have:=CG h (r:=i) (by rw [hl]; exact hi)
    rwa [CW hi] at this
   generalize m.d.puts (m.base + 4 * (ent m.t n).2 + fr) (lv s (s.size / 16)) = S at *
   obtain ⟨f,d'⟩:=S
   dsimp only at *
   refine ⟨?_,fun h0 i hi hki=>?_⟩
   ·by_cases hex : ∃i : Nat,i < s.size / 16 /\ (k : Int) = 4 * (n : Int) + fr + i
    ·obtain ⟨i,hi,hki⟩:=hex
     have hkn : k / 4 = n:=by omega
     have hkm : ((k % 4 : Nat) : Int) = fr + i:=by omega
     have e0 : (ent m.t (k / 4)).1 = 2:=by rw [hkn]; exact hk2
     rcases hor i hi with h | h
     ·left
      refine AZ hm fun _=>?_
      rw [hkn,hkm,show m.base + 4 * (ent m.t n).2 + (fr + (i : Int)) = m.base + 4 * (ent m.t n).2 + fr + (i : Int) by omega]
      exact h
     ·right
      refine ⟨fun hn=>by rw [As] at hn; omega,i,hi,hki,?_⟩
      rw [CH (m:={ m with d:=d' }) e0]
      show some (d'.seen (m.base + 4 * (ent m.t (k / 4)).2 + ((k % 4 : Nat) : Int))) = _
      rw [hkn,hkm,show m.base + 4 * (ent m.t n).2 + (fr + (i : Int)) = m.base + 4 * (ent m.t n).2 + fr + (i : Int) by omega,h]
    ·left
     refine AZ hm fun e=>hother _ fun i hi ha=>hex ⟨i,hi,?_⟩
     have hkl : k / 4 < m.t.length:=by
      rcases Am hm (k / 4) with e' | e' | ⟨-,hc⟩
      ·omega
      ·omega
      ·exact hc
     have hpl : (ent m.t (k / 4)).2 = (ent m.t n).2 /\ ((k % 4 : Nat) : Int) = fr + i:=by omega
     have:=hm.one (k / 4) n hkl hcl e (Prod.ext (by rw [e,hk2]) hpl.1)
     omega
   ·have hkn : k / 4 = n:=by omega
    have hkm : ((k % 4 : Nat) : Int) = fr + i:=by omega
    have e0 : (ent m.t (k / 4)).1 = 2:=by rw [hkn]; exact hk2
    rw [CH (m:={ m with d:=d' }) e0]
    show some (d'.seen (m.base + 4 * (ent m.t (k / 4)).2 + ((k % 4 : Nat) : Int))) = _
    rw [hkn,hkm,show m.base + 4 * (ent m.t n).2 + (fr + (i : Int)) = m.base + 4 * (ent m.t n).2 + fr + (i : Int) by omega,hall h0 i hi]
theorem IG {m : ImgM} (hm : m.Ok) (hw : m.d.writes < 999000) (hp : m.d.pend.length < 999000) (c : Int) (s : ByteArray) (k : Nat) :
  ((m.fill c s).1≠0 -> (m.fill c s).2.face k = m.face k) /\ ((m.fill c s).1 = 0 -> (m.fill c s).2.face k = if ((k / 4 : Nat) : Int) = c then some (lz s (k % 4)) else m.face k):=by
 unfold ImgM.fill
 split
 ·exact ⟨fun _=>rfl,fun h=>by cases h⟩
 ·rename_i hb
  split
  ·exact ⟨fun _=>rfl,fun h=>by cases h⟩
  ·rename_i hkd
   split
   ·exact ⟨fun _=>rfl,fun h=>by cases h⟩
   ·rename_i hfr
    have ht : m.there c = true:=by
     cases h : m.there c
     ·exact absurd (.inl h) hb
     ·rfl
    have hsz : s.size = 64:=Decidable.byContradiction fun h=>hb (.inr h)
    obtain ⟨c0,-,hcl⟩:=oN hm ht
    obtain ⟨n,rfl⟩:=ze c0
    rw [zn] at hcl ⊢
    have hkd : (ent m.t n).1≠2:=hkd
    obtain ⟨C,hC,q1,q2,q3,q4,q5,q6,-⟩:=hm.nat
    obtain ⟨P,hP⟩:=ze q5
    rcases AL m hP with hq | ⟨q,hq,hqP,ho,-⟩
    ·exact absurd (by rw [hq]; decide) hfr
    ·obtain ⟨n1,-⟩:=FS ho
     rw [hq]
     have hfi:=zT hm (y:=(q : Int)) (by omega) (by omega)
     have hfg:=zP hm (y:=(q : Int)) (by omega)
     have hbase:=Dc hm
     have s1:=BQ (n:=4) hm hw hp hfg (l:=lv s 4) (by rw [oZ]; omega) (by omega)
     have s2:=yZ s1.ok
     have hl1:=s1.len
     dsimp only at hl1
     have he : lR (2,(q : Int)) m.p = true:=by unfold lR; rw [zt rfl]; simp; omega
     have hface : ∀k,({ m with d:=(m.d.puts (m.first (q : Int)) (lv s 4)).2 } : ImgM).face k = m.face k:=fun k=>by
      refine AZ hm fun e=>Ez _ fun i hi ha=>?_
      rw [oZ] at hi
      rw [zo] at ha
      rcases Am hm (k / 4) with e' | e' | ⟨-,hc⟩
      ·omega
      ·omega
      ·have h1 : (ent m.t (k / 4)).2 = (q : Int):=by omega
       exact n1 (by rw [<- show ent m.t (k / 4) = (2,(q : Int)) from Prod.ext e h1]; exact zj hc)
     have hface2 : ∀k,({ m with d:=(m.d.puts (m.first (q : Int)) (lv s 4)).2 } : ImgM).flush.face k = m.face k:=fun k=>(Dr s1.ok k).trans (hface k)
     unfold ImgM.fillAt
     split
     ·rename_i h1
      exact ⟨fun _=>hface k,fun h=>absurd h h1⟩
     ·rename_i h1
      have h1:=Decidable.not_not.1 h1
      have hse:=IX (m:=({ m with d:=(m.d.puts (m.first (q : Int)) (lv s 4)).2 } : ImgM).flush) s2.ok (c:=n) hcl (e:=(2,(q : Int))) he k
      refine ⟨fun h=>(hse.1 h).trans (hface2 k),fun h=>(hse.2 h).trans ?_⟩
      by_cases hk : k / 4 = n
      ·rw [zt hk,zq (by simp),zt (show ((k / 4 : Nat) : Int) = (n : Int) by omega)]
       congr 1
       have hns:=s1.ok.d
       have hseen:=CG (d:=m.d) (a:=m.first (q : Int)) (l:=lv s 4) h1 (r:=k % 4) (by rw [oZ]; omega)
       rw [CW (by omega)] at hseen
       show (m.d.puts (m.first (q : Int)) (lv s 4)).2.flush.seen (m.base + 4 * (q : Int) + ((k % 4 : Nat) : Int)) = _
       rw [zo] at hseen hfi hfg hl1 hns ⊢
       have h0 : 0 <= m.base + 4 * (q : Int) + ((k % 4 : Nat) : Int):=by omega
       generalize hA : m.base + 4 * (q : Int) + ((k % 4 : Nat) : Int) = A at *
       obtain ⟨a,rfl⟩:=ze h0
       rw [B8 hns (by dsimp only; omega)]
       exact hseen
      ·rw [zq hk,zq (by omega)]
       exact hface2 k
theorem OM {m : ImgM} (hm : m.Ok) (x : Int) (hw : m.d.writes < 999000) (k : Nat) : (m.link x).2.face k = m.face k:=by
 have hff:=Dr hm k
 have s0:=yZ hm
 unfold ImgM.link
 split
 ·rfl
 ·split
  ·rename_i h
   obtain ⟨h1,h2⟩:=Fk h
   exact (DH s0.ok h2 h1 k).trans hff
  ·rename_i h
   obtain ⟨h1,h2⟩:=I5 (Decidable.not_not.1 h)
   have okw:=DevM.write_ok (DevM.flush_ok hm.d) 0 (lM m.c m.p x) (by simp [DevM.flush]) (by show m.d.flush.writes < _; have : m.d.flush.writes = m.d.writes:=rfl; omega)
   have e : ({ m.flush with d:=(m.d.flush.write 0 (lM m.c m.p x)).2.flush,b:=x } : ImgM).face k = ({ m.flush with d:=(m.d.flush.write 0 (lM m.c m.p x)).2.flush } : ImgM).face k:=rfl
   refine e.trans ((AZ s0.ok fun e2=>?_).trans hff)
   rcases Am s0.ok (k / 4) with e' | e' | ⟨-,hc⟩
   ·omega
   ·omega
   ·obtain ⟨a1,a2⟩:=Ix s0.ok e2 hc (j:=k % 4) (by omega)
    have hl : (m.d.flush.write 0 (lM m.c m.p x)).2.fl.length = m.flush.d.fl.length:=by rw [h2]; rfl
    generalize m.flush.base + 4 * (ent m.flush.t (k / 4)).2 + ((k % 4 : Nat) : Int) = a at *
    obtain ⟨n,rfl⟩:=ze (show 0 <= a by omega)
    rw [B8 okw (by rw [hl]; omega)]
    exact zJ h2 h1 fun y hy=>by rw [List.mem_singleton.1 hy]; dsimp only; omega
theorem G8 {d : DevM} {c p b : Int} (k : Nat) : (l5 d c p b).face k = none:=As.2 (by
 show (ent (ly c) (k / 4)).1 = 0
 unfold ent ly
 by_cases h : k / 4 < c.toNat
 ·simp [List.getD_eq_getElem?_getD,h]
 ·simp [List.getD_eq_getElem?_getD,h])
theorem IW {m : ImgM} (hm : m.Ok) {c : Nat} (hc : c < m.t.length) {j : Nat} (hj : j < 4) : (m.face (4 * c + j) = none /\ (m.read (c : Int)).2≠0) \/ ((m.read (c : Int)).2 = 0 /\ m.face (4 * c + j) = some ((m.read (c : Int)).1.extract (16 * j) (16 * j + 16))):=by
 have h:=GG hm (k:=4 * c + j) (by omega)
 have e1 : (4 * c + j) / 4 = c:=by omega
 have e2 : (4 * c + j) % 4 = j:=by omega
 have hth : m.there (c : Int) = true:=by have:=hm.t; unfold ImgM.there; simp; omega
 have hkd : m.kind (c : Int) = (ent m.t c).1:=rfl
 rw [e1,e2] at h
 rcases h with ⟨h1,h2⟩ | ⟨h1,h2,h3⟩
 ·left
  refine ⟨As.2 ?_,h1⟩
  rw [e1]
  refine Decidable.byContradiction fun hn=>h1 ?_
  unfold ImgM.read
  rw [zt hth,zq (by rw [hkd]; exact hn)]
  split <;> rfl
 ·right
  refine ⟨h1,?_⟩
  rw [h3]
  have hn : (ent m.t c).1≠0:=fun hn=>by
   unfold ImgM.read at h1
   rw [zt hth,zt (by rw [hkd]; exact hn)] at h1
   cases h1
  unfold ImgM.face ImgM.shown
  rw [e1,e2,zq hn]
end Go.Proofs.YtbpblokfiajpjabGreatDoor
namespace Go.Ones
theorem Bp (j a c x y : Nat) (ha : a < 2 ^ j) (hc : c < 2 ^ j) : (a + 2 ^ j * x) &&& (c + 2 ^ j * y) = (a &&& c) + 2 ^ j * (x &&& y):=by
 have h1 : (a + 2 ^ j * x) % 2 ^ j = a:=by rw [Nat.add_mul_mod_self_left,Nat.mod_eq_of_lt ha]
 have h2 : (c + 2 ^ j * y) % 2 ^ j = c:=by rw [Nat.add_mul_mod_self_left,Nat.mod_eq_of_lt hc]
 have hp : 0 < 2 ^ j:=Nat.two_pow_pos j
 have h3 : (a + 2 ^ j * x) / 2 ^ j = x:=by rw [Nat.add_mul_div_left _ _ hp,Nat.div_eq_of_lt ha,Nat.zero_add]
 have h4 : (c + 2 ^ j * y) / 2 ^ j = y:=by rw [Nat.add_mul_div_left _ _ hp,Nat.div_eq_of_lt hc,Nat.zero_add]
 rw [<- Nat.mod_add_div ((a + 2 ^ j * x) &&& (c + 2 ^ j * y)) (2 ^ j),Nat.and_mod_two_pow,Nat.and_div_two_pow,h1,h2,h3,h4]
def lB (b : Nat) : List Nat -> Nat
 | []=>0
 | d::l=>d + b * lB b l
def mask (b c : Nat) : Nat -> Nat
 | 0=>0
 | k + 1=>c + b * mask b c k
theorem and1 (n : Nat) : n &&& 1 = n % 2:=Nat.and_two_pow_sub_one_eq_mod n 1
theorem and3 (n : Nat) : n &&& 3 = n % 4:=Nat.and_two_pow_sub_one_eq_mod n 2
theorem SN (n : Nat) : n &&& 15 = n % 16:=Nat.and_two_pow_sub_one_eq_mod n 4
theorem st1 : ∀ds : List Nat,(∀d∈ds,d < 4) -> (lB 4 ds / 2 &&& mask 4 1 ds.length) + (lB 4 ds &&& mask 4 1 ds.length) = lB 4 (ds.map fun d=>d / 2 + d % 2)
 | [],_=>by simp [lB,mask]
 | d::l,h=>by
  have ih:=st1 l fun x hx=>h x (by simp [hx])
  have hd:=h d (by simp)
  simp only [lB,mask,List.length_cons,List.map_cons]
  rw [<- ih]
  have e1 : (d + 4 * lB 4 l) / 2 = (d / 2 + 2 * (lB 4 l % 2)) + 2 ^ 2 * (lB 4 l / 2):=by omega
  have e2 : 1 + 4 * mask 4 1 l.length = 1 + 2 ^ 2 * mask 4 1 l.length:=by omega
  have e3 : d + 4 * lB 4 l = d + 2 ^ 2 * lB 4 l:=by omega
  rw [e1,e3,e2,Bp 2 _ _ _ _ (by omega) (by omega),Bp 2 _ _ _ _ (by omega) (by omega),and1,and1]
  omega
theorem st2 : ∀ds : List Nat,(∀d∈ds,d < 16) -> (lB 16 ds / 4 &&& mask 16 3 ds.length) + (lB 16 ds &&& mask 16 3 ds.length) = lB 16 (ds.map fun d=>d / 4 + d % 4)
 | [],_=>by simp [lB,mask]
 | d::l,h=>by
  have ih:=st2 l fun x hx=>h x (by simp [hx])
  have hd:=h d (by simp)
  simp only [lB,mask,List.length_cons,List.map_cons]
  rw [<- ih]
  have e1 : (d + 16 * lB 16 l) / 4 = (d / 4 + 4 * (lB 16 l % 4)) + 2 ^ 4 * (lB 16 l / 4):=by omega
  have e2 : 3 + 16 * mask 16 3 l.length = 3 + 2 ^ 4 * mask 16 3 l.length:=by omega
  have e3 : d + 16 * lB 16 l = d + 2 ^ 4 * lB 16 l:=by omega
  rw [e1,e3,e2,Bp 4 _ _ _ _ (by omega) (by omega),Bp 4 _ _ _ _ (by omega) (by omega),and3,and3]
  omega
theorem SJ : ∀ds : List Nat,(∀d∈ds,d % 16 <= 4) -> lB 256 ds % 16 <= 4
 | [],_=>by simp [lB]
 | d::l,h=>by
  have hd:=h d (by simp)
  simp only [lB]
  omega
theorem st3 : ∀ds : List Nat,(∀d∈ds,d % 16 <= 4 /\ d / 16 <= 4) -> (lB 256 ds / 16 + lB 256 ds) &&& mask 256 15 ds.length = lB 256 (ds.map fun d=>d / 16 + d % 16)
 | [],_=>by simp [lB,mask]
 | d::l,h=>by
  have ih:=st3 l fun x hx=>h x (by simp [hx])
  have hd:=h d (by simp)
  have hl:=SJ l fun x hx=>(h x (by simp [hx])).1
  simp only [lB,mask,List.length_cons,List.map_cons]
  rw [<- ih]
  have e1 : (d + 256 * lB 256 l) / 16 + (d + 256 * lB 256 l) = (d / 16 + d % 16 + 16 * (d / 16 + lB 256 l % 16)) + 2 ^ 8 * (lB 256 l / 16 + lB 256 l):=by omega
  have e2 : 15 + 256 * mask 256 15 l.length = 15 + 2 ^ 8 * mask 256 15 l.length:=by omega
  rw [e1,e2,Bp 8 _ _ _ _ (by omega) (by omega),SN]
  omega
def Ay (b : Nat) : List Nat -> List Nat
 | x::y::l=>(x + b * y)::Ay b l
 | l=>l
theorem Cz (b : Nat) : ∀l : List Nat,lB (b * b) (Ay b l) = lB b l
 | []=>rfl
 | [x]=>by simp [Ay,lB]
 | x::y::l=>by
  simp only [Ay,lB,Cz b l]
  rw [Nat.mul_add,Nat.mul_assoc]
  omega
def sum2 : List Nat -> List Nat
 | x::y::l=>(x + y)::sum2 l
 | l=>l
def digs : Nat -> Nat -> List Nat
 | 0,_=>[]
 | k + 1,x=>x % 4::digs k (x / 4)
theorem Fx : ∀(k x : Nat),x < 4 ^ k -> lB 4 (digs k x) = x
 | 0,x,h=>by simp at h; subst h; rfl
 | k + 1,x,h=>by
  simp only [digs,lB]
  rw [Fx k (x / 4) (by rw [Nat.pow_succ] at h; omega)]
  omega
theorem LB : ∀(k x : Nat),∀d∈digs k x,d < 4
 | 0,x,d,h=>by cases h
 | k + 1,x,d,h=>by
  simp only [digs,List.mem_cons] at h
  rcases h with rfl | h
  ·omega
  ·exact LB k _ d h
def popc : Nat -> Nat -> Nat
 | 0,_=>0
 | k + 1,x=>x % 2 + popc k (x / 2)
theorem IR : ∀(k x : Nat),((digs k x).map fun d=>d / 2 + d % 2).sum = popc (2 * k) x
 | 0,_=>rfl
 | k + 1,x=>by
  rw [show 2 * (k + 1) = 2 * k + 1 + 1 by omega]
  simp only [digs,popc,List.map_cons,List.sum_cons]
  rw [IR k (x / 4),show x / 4 = x / 2 / 2 by omega]
  omega
theorem P9 {l : List Nat} (h : l.length = 8) : ∃a b c d e f g i,l = [a,b,c,d,e,f,g,i]:=by
 match l,h with
 | [a,b,c,d,e,f,g,i],_=>exact ⟨_,_,_,_,_,_,_,_,rfl⟩
theorem MH (b n m : Nat) (hb : n < b) : ∀(k : Nat) (l : List Nat),l.length = 2 * k -> (∀d∈l,d <= n) -> ((Ay b l).map fun e=>e / b + e % b) = sum2 l /\ (sum2 l).length = k /\ (∀d∈sum2 l,d <= 2 * n) /\ (sum2 l).sum = l.sum /\ (Ay b l).length = k /\ (∀e∈Ay b l,e % b <= n /\ e / b <= n)
 | 0,[],_,_=>⟨rfl,rfl,by simp [sum2],rfl,rfl,by simp [Ay]⟩
 | k + 1,x::y::l,hl,h=>by
  obtain ⟨h1,h2,h3,h4,h5,h6⟩:=MH b n m hb k l (by simp at hl; omega) fun d hd=>h d (by simp [hd])
  have hx:=h x (by simp)
  have hy:=h y (by simp)
  have e1 : (x + b * y) / b = y:=by rw [Nat.add_mul_div_left _ _ (by omega),Nat.div_eq_of_lt (by omega),Nat.zero_add]
  have e2 : (x + b * y) % b = x:=by rw [Nat.add_mul_mod_self_left,Nat.mod_eq_of_lt (by omega)]
  refine ⟨?_,by simp [sum2,h2],?_,by simp [sum2,h4]; omega,by simp [Ay,h5],?_⟩
  ·simp only [Ay,sum2,List.map_cons,h1,e1,e2,List.cons.injEq,and_true]
   omega
  ·intro d hd
   simp only [sum2,List.mem_cons] at hd
   rcases hd with rfl | hd
   ·omega
   ·exact h3 d hd
  ·intro e he
   simp only [Ay,List.mem_cons] at he
   rcases he with rfl | he
   ·rw [e1,e2]; exact ⟨hx,hy⟩
   ·exact h6 e he
theorem J4 : ∀(k x : Nat),(digs k x).length = k
 | 0,_=>rfl
 | k + 1,x=>by simp [digs,J4 k]
def s1 (x : Nat) : Nat:=(x / 2 &&& 6148914691236517205) + (x &&& 6148914691236517205)
def s2 (x : Nat) : Nat:=(x / 4 &&& 3689348814741910323) + (x &&& 3689348814741910323)
def s3 (x : Nat) : Nat:=(x / 16 + x) &&& 1085102592571150095
theorem Lp {x : Nat} (hx : x < 2 ^ 64) : ∃a b c d e f g i : Nat,a <= 8 /\ b <= 8 /\ c <= 8 /\ d <= 8 /\ e <= 8 /\ f <= 8 /\ g <= 8 /\ i <= 8 /\
  s3 (s2 (s1 x)) = lB 256 [a,b,c,d,e,f,g,i] /\ a + b + c + d + e + f + g + i = popc 64 x /\ s1 x < 2 ^ 64 /\ s2 (s1 x) < 2 ^ 64 /\ s2 (s1 x) / 16 + s2 (s1 x) < 2 ^ 64:=by
 have d0:=Fx 32 x (by simpa using hx)
 have hl:=J4 32 x
 have h4:=LB 32 x
 have t1:=st1 (digs 32 x) h4
 rw [d0,hl,show mask 4 1 32 = 6148914691236517205 from rfl] at t1
 have e1 : s1 x = lB 4 ((digs 32 x).map fun d=>d / 2 + d % 2):=t1
 have hp:=IR 32 x
 have hl1 : ((digs 32 x).map fun d=>d / 2 + d % 2).length = 2 * 16:=by rw [List.length_map,hl]
 have hb1 : ∀d∈(digs 32 x).map (fun d=>d / 2 + d % 2),d <= 2:=fun d hd=>by
  obtain ⟨y,hy,rfl⟩:=List.mem_map.1 hd
  have:=h4 y hy
  omega
 generalize (digs 32 x).map (fun d=>d / 2 + d % 2) = l1 at *
 obtain ⟨p1,p2,p3,p4,p5,p6⟩:=MH 4 2 0 (by omega) 16 l1 hl1 hb1
 rw [<- Cz 4 l1] at e1
 have t2:=st2 (Ay 4 l1) fun d hd=>by have:=p6 d hd; omega
 rw [p5,p1,<- e1,show mask 16 3 16 = 3689348814741910323 from rfl] at t2
 have e2 : s2 (s1 x) = lB 16 (sum2 l1):=t2
 obtain ⟨q1,q2,q3,q4,q5,q6⟩:=MH 16 4 0 (by omega) 8 (sum2 l1) p2 p3
 rw [<- Cz 16 (sum2 l1)] at e2
 have t3:=st3 (Ay 16 (sum2 l1)) q6
 rw [q5,q1,<- e2,show mask 256 15 8 = 1085102592571150095 from rfl] at t3
 have e3 : s3 (s2 (s1 x)) = lB 256 (sum2 (sum2 l1)):=t3
 obtain ⟨a,b,c,d,e,f,g,i,hl8⟩:=P9 q2
 obtain ⟨a',b',c',d',e',f',g',i',hl9⟩:=P9 q5
 rw [hl8] at e3 q3 q4
 rw [hl9] at e2 q6
 have hs1 : s1 x < 2 ^ 64:=by
  have h1 : x / 2 &&& 6148914691236517205 <= 6148914691236517205:=Nat.and_le_right
  have h2 : x &&& 6148914691236517205 <= 6148914691236517205:=Nat.and_le_right
  unfold s1
  omega
 refine ⟨a,b,c,d,e,f,g,i,?_,?_,?_,?_,?_,?_,?_,?_,?_,?_,hs1,?_,?_⟩
 ·exact q3 a (by simp)
 ·exact q3 b (by simp)
 ·exact q3 c (by simp)
 ·exact q3 d (by simp)
 ·exact q3 e (by simp)
 ·exact q3 f (by simp)
 ·exact q3 g (by simp)
 ·exact q3 i (by simp)
 ·exact e3
 ·have : [a,b,c,d,e,f,g,i].sum = popc 64 x:=by rw [q4,p4,hp]
  simp only [List.sum_cons,List.sum_nil] at this
  omega
 ·have h1 : s1 x / 4 &&& 3689348814741910323 <= 3689348814741910323:=Nat.and_le_right
  have h2 : s1 x &&& 3689348814741910323 <= 3689348814741910323:=Nat.and_le_right
  unfold s2
  omega
 ·have h1 : s1 x / 4 &&& 3689348814741910323 <= 3689348814741910323:=Nat.and_le_right
  have h2 : s1 x &&& 3689348814741910323 <= 3689348814741910323:=Nat.and_le_right
  unfold s2
  omega
def addL : List Nat -> List Nat -> List Nat
 | x::l,y::m=>(x + y)::addL l m
 | [],m=>m
 | l,[]=>l
theorem Cd (b : Nat) : ∀l m : List Nat,lB b l + lB b m = lB b (addL l m)
 | x::l,y::m=>by
  simp only [lB,addL,<- Cd b l m,Nat.mul_add]
  omega
 | [],m=>by simp [lB,addL]
 | x::l,[]=>by simp [lB,addL]
theorem zO {x : Nat} (l : List Nat) (h : x < 256) : lB 256 (x::l) / 256 = lB 256 l:=by
 simp only [lB]
 omega
theorem Es : ∀l : List Nat,(∀d∈l,d < 256) -> lB 256 l < 256 ^ l.length
 | [],_=>by simp [lB]
 | d::l,h=>by
  have ih:=Es l fun x hx=>h x (by simp [hx])
  have hd:=h d (by simp)
  simp only [lB,List.length_cons,Nat.pow_succ]
  omega
theorem Jk : ∀l : List Nat,(∀d∈l,d <= 64) -> lB 256 l <= 64 * mask 256 1 l.length
 | [],_=>by simp [lB,mask]
 | d::l,h=>by
  have ih:=Jk l fun x hx=>h x (by simp [hx])
  have hd:=h d (by simp)
  simp only [lB,List.length_cons,mask]
  omega
theorem PI {a b c d e f g i : Nat} (ha : a <= 8) (hb : b <= 8) (hc : c <= 8) (hd : d <= 8) (he : e <= 8) (hf : f <= 8) (hg : g <= 8) (hi : i <= 8) {y y1 y2 y3 : Nat}
  (hy : y = lB 256 [a,b,c,d,e,f,g,i]) (h1 : y1 = y + y / 256) (h2 : y2 = y1 + y1 / 65536) (h3 : y3 = y2 + y2 / 4294967296) :
  y3 % 128 = a + b + c + d + e + f + g + i /\ y1 < 2 ^ 64 /\ y2 < 2 ^ 64 /\ y3 < 2 ^ 63:=by
 have k1 : y1 = lB 256 [a + b,b + c,c + d,d + e,e + f,f + g,g + i,i]:=by
  rw [h1,hy,zO _ (by omega),Cd]; rfl
 have k2 : y2 = lB 256 [a + b + (c + d),b + c + (d + e),c + d + (e + f),d + e + (f + g),e + f + (g + i),f + g + i,g + i,i]:=by
  rw [h2,k1,show (65536 : Nat) = 256 * 256 from rfl,<- Nat.div_div_eq_div_mul,zO _ (by omega),zO _ (by omega),Cd]; rfl
 have k3 : y3 = lB 256 [a + b + (c + d) + (e + f + (g + i)),b + c + (d + e) + (f + g + i),c + d + (e + f) + (g + i),d + e + (f + g) + i,e + f + (g + i),f + g + i,g + i,i]:=by
  rw [h3,k2,show (4294967296 : Nat) = 256 * 256 * 256 * 256 from rfl,<- Nat.div_div_eq_div_mul,<- Nat.div_div_eq_div_mul,<- Nat.div_div_eq_div_mul,zO _ (by omega),zO _ (by omega),zO _ (by omega),zO _ (by omega),Cd]; rfl
 have b1:=Es [a + b,b + c,c + d,d + e,e + f,f + g,g + i,i] (by intro x hx; simp only [List.mem_cons,List.not_mem_nil,or_false] at hx; omega)
 have b2:=Es [a + b + (c + d),b + c + (d + e),c + d + (e + f),d + e + (f + g),e + f + (g + i),f + g + i,g + i,i] (by intro x hx; simp only [List.mem_cons,List.not_mem_nil,or_false] at hx; omega)
 have b3:=Jk [a + b + (c + d) + (e + f + (g + i)),b + c + (d + e) + (f + g + i),c + d + (e + f) + (g + i),d + e + (f + g) + i,e + f + (g + i),f + g + i,g + i,i] (by intro x hx; simp only [List.mem_cons,List.not_mem_nil,or_false] at hx; omega)
 rw [<- k1] at b1
 rw [<- k2] at b2
 rw [<- k3] at b3
 refine ⟨?_,by simpa using b1,by simpa using b2,Nat.lt_of_le_of_lt b3 (show 64 * mask 256 1 8 < 2 ^ 63 by decide)⟩
 have hz : ∀z : Nat,(a + b + (c + d) + (e + f + (g + i)) + 256 * z) % 128 = a + b + c + d + e + f + g + i:=fun z=>by omega
 rw [k3]
 exact hz _
theorem ones_all {x : Nat} (hx : x < 2 ^ 64) : ∃y1 y2 y3 : Nat,y1 = s3 (s2 (s1 x)) + s3 (s2 (s1 x)) / 256 /\ y2 = y1 + y1 / 65536 /\ y3 = y2 + y2 / 4294967296 /\ y3 % 128 = popc 64 x /\ y1 < 2 ^ 64 /\ y2 < 2 ^ 64 /\ y3 < 2 ^ 63 /\ s1 x < 2 ^ 64 /\ s2 (s1 x) < 2 ^ 64 /\ s2 (s1 x) / 16 + s2 (s1 x) < 2 ^ 64:=by
 obtain ⟨a,b,c,d,e,f,g,i,ha,hb,hc,hd,he,hf,hg,hi,h1,h2,h3,h4,h5⟩:=Lp hx
 obtain ⟨k1,k2,k3,k4⟩:=PI ha hb hc hd he hf hg hi h1 rfl rfl rfl
 exact ⟨_,_,_,rfl,rfl,rfl,by rw [k1,h2],k2,k3,k4,h3,h4,h5⟩
theorem popc_le : ∀(k x : Nat),popc k x <= k
 | 0,_=>by simp [popc]
 | k + 1,x=>by have:=popc_le k (x / 2); simp only [popc]; omega
theorem popc_end : ∀(k x : Nat),popc (k + 1) x = popc k x + x / 2 ^ k % 2
 | 0,x=>by simp [popc]
 | k + 1,x=>by
  rw [popc,popc_end k (x / 2),popc,Nat.pow_succ,Nat.mul_comm,<- Nat.div_div_eq_div_mul]
  omega
end Go.Ones
namespace Go.Proofs.YtbpblokfiajpjabGreatDoor
open Go.RowKit Go.SL Go.Crc
attribute [local go_sem ↓] Go.wp_at_zero Go.wp_at_succ
def LQ (L : DevM -> List HP) (d : DevM) (at_ : Int) (l : List ByteArray) (res : Int×DevM) (w0 : World) (i : Value) (wr : World) : Prop:=
 ∃(k : Nat) (dk : DevM),k <= l.length /\ i = .int .i64 k /\ dk.puts (at_ + k) (l.drop k) = res /\ dk.Ok /\ dk.pend.length <= d.pend.length + k /\ dk.writes <= d.writes + k /\ Ext w0 wr /\ own wr (L dk)
theorem Kd {w : World} {L : List HP} (C : Nat) (hC : C <= 1000) (H : own w L) :
  own (w.alloc (.cells (madeCells #[.int .i64 0,.int .i64 0] (C * 2)) 221)) (row 221 2 (.slice (some ⟨w.heap.size,0,none⟩) C C) C (lP (List.replicate C (0,0)))::L):=
 yt 0 (n:=C) (cap:=C) (sz:=2) (xs:=lP (List.replicate C (0,0))) (lf H (.cells (madeCells #[.int .i64 0,.int .i64 0] (C * 2)) 221)) rfl (Nat.le_refl _) (by simp only [maxLen]; omega) (size_madeCells _ _) (by
  rw [DY]
  exact List.take_of_length_le (by rw [Km]; simp))
theorem NR {w : World} {L : List HP} (d : DevM) (bd C : Nat) (hC : C <= 1000) (p b : Int) (H : own w L) :
  own (((w.alloc (.cells (madeCells #[.int .i64 0,.int .i64 0] (C * 2)) 221)).alloc (.map #[] 0)).alloc (.cells #[.pointer (some ⟨bd,0,none⟩),.int .i64 (C : Int),.int .i64 p,.int .i64 b,.slice (some ⟨w.heap.size,0,none⟩) C C,.map (some (w.heap.size + 1))] 218)) (lE (w.heap.size + 1 + 1) bd (w.heap.size + 1) (l5 d C p b)::L):=by
 have h1:=Kd C hC H
 have h2:=Ja h1
 have h3:=lf h2 (.cells #[.pointer (some ⟨bd,0,none⟩),.int .i64 (C : Int),.int .i64 p,.int .i64 b,.slice (some ⟨w.heap.size,0,none⟩) C C,.map (some (w.heap.size + 1))] 218)
 have e1 : (w.alloc (.cells (madeCells #[.int .i64 0,.int .i64 0] (C * 2)) 221)).heap.size = w.heap.size + 1:=by simp
 have e2 : ((w.alloc (.cells (madeCells #[.int .i64 0,.int .i64 0] (C * 2)) 221)).alloc (.map #[] 0)).heap.size = w.heap.size + 1 + 1:=by simp
 rw [e1,e2] at h3
 have h4:=lD [_] (lG 2 h3 rfl)
 exact oJ (m:=l5 d C p b) (by
  show own _ (pts (w.heap.size + 1 + 1) _::row 221 2 _ (List.replicate C ((0,0) : Ent)).length _::yU (w.heap.size + 1) []::L)
  rw [List.length_replicate]
  exact h4)
theorem Nu {w : World} {L : List HP} (d : DevM) (bd C : Nat) (hC : C <= 1000) (p b : Int) (H : own w L) :
  own (((w.alloc (.map #[] 0)).alloc (.cells (madeCells #[.int .i64 0,.int .i64 0] (C * 2)) 221)).alloc (.cells #[.pointer (some ⟨bd,0,none⟩),.int .i64 (C : Int),.int .i64 p,.int .i64 b,.slice (some ⟨w.heap.size + 1,0,none⟩) C C,.map (some w.heap.size)] 218)) (lE (w.heap.size + 1 + 1) bd w.heap.size (l5 d C p b)::L):=by
 have h1:=Ja H
 have h2:=Kd C hC h1
 have h3:=lf h2 (.cells #[.pointer (some ⟨bd,0,none⟩),.int .i64 (C : Int),.int .i64 p,.int .i64 b,.slice (some ⟨w.heap.size + 1,0,none⟩) C C,.map (some w.heap.size)] 218)
 have e1 : (w.alloc (.map #[] 0)).heap.size = w.heap.size + 1:=by simp
 have e2 : ((w.alloc (.map #[] 0)).alloc (.cells (madeCells #[.int .i64 0,.int .i64 0] (C * 2)) 221)).heap.size = w.heap.size + 1 + 1:=by simp
 rw [e1,e2] at h3
 exact oJ (m:=l5 d C p b) (by
  show own _ (pts (w.heap.size + 1 + 1) _::row 221 2 _ (List.replicate C ((0,0) : Ent)).length _::yU w.heap.size []::L)
  rw [List.length_replicate]
  exact h3)
theorem ID {c : Int} {k : Nat} (h : k < lA (ly c).length) : (l4 (ly c)).drop k = (lS (ly c) k).1::(l4 (ly c)).drop (k + 1):=by
 rw [List.drop_eq_getElem_cons (by simp [l4]; exact h)]
 simp [l4]
theorem G9 (C : Nat) : ∀e∈ly (C : Int),lR e 40 = true:=fun e he=>by
 unfold ly at he
 rw [(List.mem_replicate.1 he).2]; rfl
theorem GY (bd : Nat) (d : DevM) (hd : d.Ok) (hp : d.pend.length < 999000) (hw : d.writes < 999000) (c p b : Int) (R : List SL.HP) (w : World) (H : own w (lt bd d::R)) :
  Calls Tryz.prog 62 #[.pointer (some ⟨bd,0,none⟩),oF c p b] w (O8 bd (oa d c p b) R w):=by
 have hE : oa d c p b = if Bl d c p b then (1,l5 d c p b)
  else if (d.puts 1 (l4 (ly c))).1≠0 then ((d.puts 1 (l4 (ly c))).1,l5 (d.puts 1 (l4 (ly c))).2 c p b)
  else if ((d.puts 1 (l4 (ly c))).2.flush.write 0 (lM c p b)).1≠0 then (((d.puts 1 (l4 (ly c))).2.flush.write 0 (lM c p b)).1,l5 ((d.puts 1 (l4 (ly c))).2.flush.write 0 (lM c p b)).2 c p b)
  else (0,l5 ((d.puts 1 (l4 (ly c))).2.flush.write 0 (lM c p b)).2.flush c p b):=rfl
 generalize oa d c p b = S at *
 have HE:=zh hE
 clear hE
 have ha:=lf H (.cells #[.int .i64 c,.int .i64 p,.int .i64 b] 103)
 have hxa:=(zR w).alloc (.cells #[.int .i64 c,.int .i64 p,.int .i64 b] 103)
 have HFT:=zh (fun (R : List SL.HP) (w : World) (H : own w (lt bd d::R))=>OY bd d hd c p b R w H)
 unfold oF at HFT
 unfold oF
 go_enter Tryz.func62,Tryz.ntmps62
 go_upto_region 1 with (fail)
 obtain ⟨cc,ff⟩:=la 0 ha rfl
 generalize w.heap.size = gh at *
 generalize w.alloc (.cells #[.int .i64 c,.int .i64 p,.int .i64 b] 103) = w1 at *
 go_wp2_with fail
 refine (HFT.out _ w1 (lG 1 ha rfl)).mono ?_
 rintro e w2 ⟨rfl,hx2,h2⟩
 replace hx2:=hxa.trans hx2
 clear cc ff ha hxa
 by_cases hb : Bl d c p b
 ·have hS : S = (1,l5 d c p b):=by rw [HE.out,zt hb]
  have HS:=zh hS
  rw [show fitF d c p b = 1 from zt hb,show errV 1 = .iface 128 (.int .i64 1) from rfl]
  clear hb hS
  go_wp2_with fail
  go_ret2
  rw [HS.out]
  exact .inl ⟨by simp,rfl,hx2,le 1 h2 rfl⟩
 ·rw [show fitF d c p b = 0 from zq hb,lL]
  have hhb : ¬lH c p b:=fun h=>hb (.inl h)
  have hh:=hhb
  unfold lH at hh
  obtain ⟨C,rfl⟩:=ze (show 0 <= c by omega)
  have c1 : 1 <= C:=by omega
  have c2 : C <= 32:=by omega
  have hE2:=HE.out
  rw [zq hb] at hE2
  have hzt : ly (C : Int) = List.replicate C (0,0):=rfl
  have hz : (madeCells #[.int .i64 0,.int .i64 0] (C * 2)).toList = lP (List.replicate C (0,0)):=DY C
  have hlen : (List.replicate C ((0,0) : Ent)).length = C:=by simp
  have hmk : ∀wx : World,(Instr.makeSlice 150 (.int .i64 (C : Int)) (.int .i64 (C : Int))).run Tryz.prog wx = .ok (.slice (some ⟨wx.heap.size,0,none⟩) C C) (wx.alloc (.cells (madeCells #[.int .i64 0,.int .i64 0] (C * 2)) 221)):=fun wx=>by
   obtain ⟨i,hi,hzz,hs1,hs2⟩:=info_parts MC
   have:=run_makeSlice (P:=Tryz.prog) wx 150 221 i _ Tryz.underlying150 hi hzz .i64 .i64 (C : Int) (C : Int) (by omega) (by omega) (by rw [hs1,zn]; omega) (by rw [hs2]; omega) (by omega)
   rw [hs1,zn] at this
   exact this
  have hmm:=run_makeMap (P:=Tryz.prog) 216
  have hd1:=lj h2
  have HB:=zh hhb
  have HE2:=zh hE2
  have HZ:=zh hz
  clear hb hhb hh hE2 hz hzt hlen
  obtain ⟨cc,ff⟩:=la 1 h2 rfl
  go_upto_region 4 with (fail)
  go_region_held3 (fun w'=>w'.cell? ⟨gh,0,none⟩ = some (.int .i64 (C : Int)) /\ w'.cell? ⟨gh,1,none⟩ = some (.int .i64 p) /\ w'.cell? ⟨gh,2,none⟩ = some (.int .i64 b)) (first | exact ⟨(la 1 hd1 rfl).1 0,(la 1 hd1 rfl).1 1,(la 1 hd1 rfl).1 2⟩ | exact ⟨(la 2 (lf hd1 _) rfl).1 0,(la 2 (lf hd1 _) rfl).1 1,(la 2 (lf hd1 _) rfl).1 2⟩ | exact ⟨(la 3 (lf (lf hd1 _) _) rfl).1 0,(la 3 (lf (lf hd1 _) _) rfl).1 1,(la 3 (lf (lf hd1 _) _) rfl).1 2⟩ | exact ⟨(la 4 (lf (lf (lf hd1 _) _) _) rfl).1 0,(la 4 (lf (lf (lf hd1 _) _) _) rfl).1 1,(la 4 (lf (lf (lf hd1 _) _) _) rfl).1 2⟩) (fail)
  ·
   have h4:=lj (NR d bd C (by omega) p b h2)
   have hx4:=(((hx2.alloc (.cells (madeCells #[.int .i64 0,.int .i64 0] (C * 2)) 221)).alloc (.map #[] 0)).alloc (.cells #[.pointer (some ⟨bd,0,none⟩),.int .i64 (C : Int),.int .i64 p,.int .i64 b,.slice (some ⟨w2.heap.size,0,none⟩) C C,.map (some (w2.heap.size + 1))] 218)).drew
   generalize (((w2.alloc (.cells (madeCells #[.int .i64 0,.int .i64 0] (C * 2)) 221)).alloc (.map #[] 0)).alloc (.cells #[.pointer (some ⟨bd,0,none⟩),.int .i64 (C : Int),.int .i64 p,.int .i64 b,.slice (some ⟨w2.heap.size,0,none⟩) C C,.map (some (w2.heap.size + 1))] 218)).drew = w4 at h4 hx4 ⊢
   generalize w2.heap.size + 1 + 1 = bi at *
   generalize w2.heap.size + 1 = bh at *
   obtain ⟨cc,ff⟩:=la 2 h4 rfl
   have hlz : (ly (C : Int)).length = C:=by simp [ly]
   have hrz : lA (ly (C : Int)).length = lA C:=by rw [hlz]
   have hrn : lA C <= 4:=by unfold lA; omega
   have hll : (l4 (ly (C : Int))).length = lA C:=by simp [l4,hlz]
   have HGET:=zh (fun (k : Nat) (h : k < lA C)=>ID (c:=(C : Int)) (k:=k) (by rw [hlz]; exact h))
   have HEND:=zh (show (l4 (ly (C : Int))).drop (lA C) = [] from List.drop_of_length_le (by omega))
   have HOK:=zh (fun (k : Nat) (h : k < lA C)=>C5 (t:=ly (C : Int)) (r:=k) (by rw [hlz]; omega) (by rw [hlz]; exact h) (G9 C))
   have HRW:=zh (Aw C (by omega))
   have hpo:=Cl (l:=l4 (ly (C : Int))) (d:=d) (a:=1) hd (by omega) (by omega)
   have hpn:=z8 (l:=l4 (ly (C : Int))) (d:=d) (a:=1)
   rw [hll] at hpo
   have HIR:=zh (fun (dk : DevM) (okd : dk.Ok) (hw : dk.writes < 1000000) (hp : dk.pend.length < 1000000) (k : Nat) (hk : k < lA C) (R : List SL.HP) (w : World) (H : own w (lE bi bd bh (l5 d C p b)::lt bd dk::R))=>
    DI bi bd bh (l5 dk C p b) okd (show (ly (C : Int)).length <= 1000 by rw [hlz]; omega) hw hp k (by omega) (HOK.out k hk) R w H)
   have HE3:=HE2.out
   generalize hrl : l4 (ly (C : Int)) = RL at *
   generalize hres : d.puts 1 RL = res at *
   have HRES:=zh hres
   have HE4:=zh HE3
   generalize hN : lA C = N at *
   obtain ⟨o1,o2,o3,o4⟩:=hpo
   clear HE3 hlz hrz HE2 HE hd1 hmk hmm hres hrl HZ
   go_wp2_with fail
   refine (HRW.out w4).mono ?_
   rintro e w' ⟨rfl,rfl⟩
   go_wp2_with fail
   go_loopw [27] (LQ (fun dk=>lE bi bd bh (l5 d C p b)::lt bd dk::pts gh (.cells #[.int .i64 C,.int .i64 p,.int .i64 b] 103 (0,0))::R) d 1 RL res w) (fun i _=>N - (intOf i).toNat)
   case atStart=>exact ⟨0,d,by omega,rfl,by simpa using HRES.out,hd,by omega,by simp,hx4,h4⟩
   case round=>
    clear cc ff
    obtain ⟨k,dk,hk,rfl,hput,okd,hpk,hwk,hxr,hown⟩:=hrel
    rw [hll] at hk
    by_cases hlt : k < N
    ·rw [HGET.out k hlt] at hput
     have HPUT:=zh hput
     clear hput
     have e1 : IntKind.i64.wrap ((k : Int) + 1) = (k : Int) + 1:=zi _ (by omega)
     have hkN : (k : Int) < (N : Int):=by omega
     have HW:=zh (HIR.out dk okd (by omega) (by omega) k hlt)
     have hcode:=ow dk (1 + (k : Int)) (lS (ly (C : Int)) k).1
     obtain ⟨l1,l2,l3⟩:=oU dk (1 + (k : Int)) (lS (ly (C : Int)) k).1
     have okw:=DevM.write_ok okd (1 + (k : Int)) (lS (ly (C : Int)) k).1 (by omega) (by omega)
     have hstep : dk.puts (1 + (k : Int)) ((lS (ly (C : Int)) k).1::RL.drop (k + 1)) = if (dk.write (1 + (k : Int)) (lS (ly (C : Int)) k).1).1≠0 then dk.write (1 + (k : Int)) (lS (ly (C : Int)) k).1 else (dk.write (1 + (k : Int)) (lS (ly (C : Int)) k).1).2.puts (1 + (k : Int) + 1) (RL.drop (k + 1)):=rfl
     rw [HPUT.out] at hstep
     have HSTP:=zh hstep
     clear hstep l1
     change Hid (∀(R : List SL.HP) (w : World),own w (lE bi bd bh (l5 d C p b)::lt bd dk::R) -> Calls Tryz.prog 157 #[.pointer (some ⟨bi,0,none⟩),.int .i64 k] w fun e w'=>e = .returned (errV (dk.write (1 + (k : Int)) (lS (ly (C : Int)) k).1).1) /\ Ext w w' /\ own w' (lE bi bd bh (l5 d C p b)::lt bd (dk.write (1 + (k : Int)) (lS (ly (C : Int)) k).1).2::R)) at HW
     generalize dk.write (1 + (k : Int)) (lS (ly (C : Int)) k).1 = r at *
     clear HIR HGET HOK
     go_wp2_with fail
     refine (HW.out _ wr hown).mono ?_
     rintro e w5 ⟨rfl,hx5',h5⟩
     have hx5:=hxr.trans hx5'
     clear hx5' hown hxr
     by_cases hz : r.1 = 0
     ·have HZ:=zh hz
      rw [hz,lL]
      clear hz
      go_wp2_with fail
      go_roundw
      case rel=>exact ⟨k + 1,r.2,by rw [hll]; omega,by go_num,by have:=HSTP.out; rw [zq (by simpa using HZ.out)] at this; rw [this]; congr 1 <;> omega,okw,by omega,by omega,hx5,h5⟩
      case measure=>simp [intOf]; omega
     ·have hfin : res = r:=by have:=HSTP.out; rw [zt hz] at this; exact this
      have hS2 : S = (r.1,l5 r.2 C p b):=by rw [HE4.out,hfin,zt hz]
      have HF:=zh hS2
      have hpz : 0 < r.1:=by omega
      have HPE:=zh (lu hpz)
      rw [lu hpz]
      clear hz hfin hS2
      go_wp2_with fail
      go_ret2
      rw [HF.out]
      exact .inl ⟨by dsimp only; omega,by dsimp only; rw [HPE.out]; rfl,hx5,le 1 (le 0 h5 rfl) rfl⟩
    ·have hke : k = N:=by omega
     subst hke
     rw [HEND.out,DevM.puts] at hput
     have hr0 : res.1 = 0:=by rw [<- hput]
     have hr2 : res.2 = dk:=by rw [<- hput]
     have hS2:=HE4.out
     rw [zq (by simpa using hr0),hr2] at hS2
     have HF:=zh hS2
     clear hput hlt hS2 hr0 hr2
     have HFL:=zh (fun (R : List SL.HP) (w : World) (H : own w (lt bd dk::R))=>A6 bd dk okd R w H)
     have okf:=DevM.flush_ok okd
     have hpl : dk.flush.pend.length = 0:=rfl
     have hwl : dk.flush.writes = dk.writes:=rfl
     have hhs : (lM C p b).size = 16:=zv (by simp)
     have HWR:=zh (fun (R : List SL.HP) (w : World) (H : own w (lt bd dk.flush::R))=>Au bd dk.flush okf 0 (lM C p b) (by omega) (by omega) (by omega) R w H)
     have hcode:=ow dk.flush 0 (lM C p b)
     have okw:=DevM.write_ok okf 0 (lM C p b) (by omega) (by omega)
     generalize dk.flush = df at *
     have HHD:=zh (fun (R : List SL.HP) (w : World) (H : own w R)=>DA C p b R w H)
     rw [show Ai C p b = 0 from zq HB.out,zt rfl,lL] at HHD
     unfold oF at HHD
     generalize lM C p b = hs at *
     generalize df.write 0 hs = r at *
     clear HIR HGET HOK
     go_wp2_with fail
     refine (HFL.out _ wr (lG 1 hown rfl)).mono ?_
     rintro e w5 ⟨rfl,hx5,h5'⟩
     have h5:=ot hown 1 rfl h5'
     obtain ⟨cc,ff⟩:=la 2 h5 rfl
     go_wp2_with fail
     refine (HHD.out _ w5 h5).mono ?_
     rintro e w6 ⟨rfl,hx6,h6⟩
     clear cc ff
     go_wp2_with fail
     refine (HWR.out _ w6 (lG 1 h6 rfl)).mono ?_
     rintro e w7 ⟨rfl,hx7,h7'⟩
     have h7:=ot h6 1 rfl h7'
     have hx7f:=((hxr.trans hx5).trans hx6).trans hx7
     by_cases hz : r.1 = 0
     ·have hS2:=HF.out
      rw [zq (by simpa using hz)] at hS2
      have HS2:=zh hS2
      have HFL2:=zh (fun (R : List SL.HP) (w : World) (H : own w (lt bd r.2::R))=>A6 bd r.2 okw R w H)
      rw [hz,lL]
      clear hz hS2
      go_wp2_with fail
      refine (HFL2.out _ w7 (lG 1 h7 rfl)).mono ?_
      rintro e w8 ⟨rfl,hx8,h8'⟩
      have h8:=ot h7 1 rfl h8'
      go_wp2_with fail
      go_ret2
      rw [HS2.out]
      exact .inr ⟨rfl,bi,bh,rfl,hx7f.trans hx8,le 2 h8 rfl⟩
     ·have hS2:=HF.out
      rw [zt hz] at hS2
      have HS2:=zh hS2
      have hpz : 0 < r.1:=by omega
      have HPE:=zh (lu hpz)
      rw [lu hpz]
      clear hz hS2
      go_wp2_with fail
      go_ret2
      rw [HS2.out]
      exact .inl ⟨by dsimp only; omega,by dsimp only; rw [HPE.out]; rfl,hx7f,le 1 (le 0 h7 rfl) rfl⟩
  ·
   have h4:=lj (Nu d bd C (by omega) p b h2)
   have hx4:=(((hx2.alloc (.map #[] 0)).alloc (.cells (madeCells #[.int .i64 0,.int .i64 0] (C * 2)) 221)).alloc (.cells #[.pointer (some ⟨bd,0,none⟩),.int .i64 (C : Int),.int .i64 p,.int .i64 b,.slice (some ⟨w2.heap.size + 1,0,none⟩) C C,.map (some w2.heap.size)] 218)).drew
   generalize (((w2.alloc (.map #[] 0)).alloc (.cells (madeCells #[.int .i64 0,.int .i64 0] (C * 2)) 221)).alloc (.cells #[.pointer (some ⟨bd,0,none⟩),.int .i64 (C : Int),.int .i64 p,.int .i64 b,.slice (some ⟨w2.heap.size + 1,0,none⟩) C C,.map (some w2.heap.size)] 218)).drew = w4 at h4 hx4 ⊢
   generalize w2.heap.size + 1 + 1 = bi at *
   generalize w2.heap.size = bh at *
   obtain ⟨cc,ff⟩:=la 2 h4 rfl
   have hlz : (ly (C : Int)).length = C:=by simp [ly]
   have hrz : lA (ly (C : Int)).length = lA C:=by rw [hlz]
   have hrn : lA C <= 4:=by unfold lA; omega
   have hll : (l4 (ly (C : Int))).length = lA C:=by simp [l4,hlz]
   have HGET:=zh (fun (k : Nat) (h : k < lA C)=>ID (c:=(C : Int)) (k:=k) (by rw [hlz]; exact h))
   have HEND:=zh (show (l4 (ly (C : Int))).drop (lA C) = [] from List.drop_of_length_le (by omega))
   have HOK:=zh (fun (k : Nat) (h : k < lA C)=>C5 (t:=ly (C : Int)) (r:=k) (by rw [hlz]; omega) (by rw [hlz]; exact h) (G9 C))
   have HRW:=zh (Aw C (by omega))
   have hpo:=Cl (l:=l4 (ly (C : Int))) (d:=d) (a:=1) hd (by omega) (by omega)
   have hpn:=z8 (l:=l4 (ly (C : Int))) (d:=d) (a:=1)
   rw [hll] at hpo
   have HIR:=zh (fun (dk : DevM) (okd : dk.Ok) (hw : dk.writes < 1000000) (hp : dk.pend.length < 1000000) (k : Nat) (hk : k < lA C) (R : List SL.HP) (w : World) (H : own w (lE bi bd bh (l5 d C p b)::lt bd dk::R))=>
    DI bi bd bh (l5 dk C p b) okd (show (ly (C : Int)).length <= 1000 by rw [hlz]; omega) hw hp k (by omega) (HOK.out k hk) R w H)
   have HE3:=HE2.out
   generalize hrl : l4 (ly (C : Int)) = RL at *
   generalize hres : d.puts 1 RL = res at *
   have HRES:=zh hres
   have HE4:=zh HE3
   generalize hN : lA C = N at *
   obtain ⟨o1,o2,o3,o4⟩:=hpo
   clear HE3 hlz hrz HE2 HE hd1 hmk hmm hres hrl HZ
   go_wp2_with fail
   refine (HRW.out w4).mono ?_
   rintro e w' ⟨rfl,rfl⟩
   go_wp2_with fail
   go_loopw [27] (LQ (fun dk=>lE bi bd bh (l5 d C p b)::lt bd dk::pts gh (.cells #[.int .i64 C,.int .i64 p,.int .i64 b] 103 (0,0))::R) d 1 RL res w) (fun i _=>N - (intOf i).toNat)
   case atStart=>exact ⟨0,d,by omega,rfl,by simpa using HRES.out,hd,by omega,by simp,hx4,h4⟩
   case round=>
    clear cc ff
    obtain ⟨k,dk,hk,rfl,hput,okd,hpk,hwk,hxr,hown⟩:=hrel
    rw [hll] at hk
    by_cases hlt : k < N
    ·rw [HGET.out k hlt] at hput
     have HPUT:=zh hput
     clear hput
     have e1 : IntKind.i64.wrap ((k : Int) + 1) = (k : Int) + 1:=zi _ (by omega)
     have hkN : (k : Int) < (N : Int):=by omega
     have HW:=zh (HIR.out dk okd (by omega) (by omega) k hlt)
     have hcode:=ow dk (1 + (k : Int)) (lS (ly (C : Int)) k).1
     obtain ⟨l1,l2,l3⟩:=oU dk (1 + (k : Int)) (lS (ly (C : Int)) k).1
     have okw:=DevM.write_ok okd (1 + (k : Int)) (lS (ly (C : Int)) k).1 (by omega) (by omega)
     have hstep : dk.puts (1 + (k : Int)) ((lS (ly (C : Int)) k).1::RL.drop (k + 1)) = if (dk.write (1 + (k : Int)) (lS (ly (C : Int)) k).1).1≠0 then dk.write (1 + (k : Int)) (lS (ly (C : Int)) k).1 else (dk.write (1 + (k : Int)) (lS (ly (C : Int)) k).1).2.puts (1 + (k : Int) + 1) (RL.drop (k + 1)):=rfl
     rw [HPUT.out] at hstep
     have HSTP:=zh hstep
     clear hstep l1
     change Hid (∀(R : List SL.HP) (w : World),own w (lE bi bd bh (l5 d C p b)::lt bd dk::R) -> Calls Tryz.prog 157 #[.pointer (some ⟨bi,0,none⟩),.int .i64 k] w fun e w'=>e = .returned (errV (dk.write (1 + (k : Int)) (lS (ly (C : Int)) k).1).1) /\ Ext w w' /\ own w' (lE bi bd bh (l5 d C p b)::lt bd (dk.write (1 + (k : Int)) (lS (ly (C : Int)) k).1).2::R)) at HW
     generalize dk.write (1 + (k : Int)) (lS (ly (C : Int)) k).1 = r at *
     clear HIR HGET HOK
     go_wp2_with fail
     refine (HW.out _ wr hown).mono ?_
     rintro e w5 ⟨rfl,hx5',h5⟩
     have hx5:=hxr.trans hx5'
     clear hx5' hown hxr
     by_cases hz : r.1 = 0
     ·have HZ:=zh hz
      rw [hz,lL]
      clear hz
      go_wp2_with fail
      go_roundw
      case rel=>exact ⟨k + 1,r.2,by rw [hll]; omega,by go_num,by have:=HSTP.out; rw [zq (by simpa using HZ.out)] at this; rw [this]; congr 1 <;> omega,okw,by omega,by omega,hx5,h5⟩
      case measure=>simp [intOf]; omega
     ·have hfin : res = r:=by have:=HSTP.out; rw [zt hz] at this; exact this
      have hS2 : S = (r.1,l5 r.2 C p b):=by rw [HE4.out,hfin,zt hz]
      have HF:=zh hS2
      have hpz : 0 < r.1:=by omega
      have HPE:=zh (lu hpz)
      rw [lu hpz]
      clear hz hfin hS2
      go_wp2_with fail
      go_ret2
      rw [HF.out]
      exact .inl ⟨by dsimp only; omega,by dsimp only; rw [HPE.out]; rfl,hx5,le 1 (le 0 h5 rfl) rfl⟩
    ·have hke : k = N:=by omega
     subst hke
     rw [HEND.out,DevM.puts] at hput
     have hr0 : res.1 = 0:=by rw [<- hput]
     have hr2 : res.2 = dk:=by rw [<- hput]
     have hS2:=HE4.out
     rw [zq (by simpa using hr0),hr2] at hS2
     have HF:=zh hS2
     clear hput hlt hS2 hr0 hr2
     have HFL:=zh (fun (R : List SL.HP) (w : World) (H : own w (lt bd dk::R))=>A6 bd dk okd R w H)
     have okf:=DevM.flush_ok okd
     have hpl : dk.flush.pend.length = 0:=rfl
     have hwl : dk.flush.writes = dk.writes:=rfl
     have hhs : (lM C p b).size = 16:=zv (by simp)
     have HWR:=zh (fun (R : List SL.HP) (w : World) (H : own w (lt bd dk.flush::R))=>Au bd dk.flush okf 0 (lM C p b) (by omega) (by omega) (by omega) R w H)
     have hcode:=ow dk.flush 0 (lM C p b)
     have okw:=DevM.write_ok okf 0 (lM C p b) (by omega) (by omega)
     generalize dk.flush = df at *
     have HHD:=zh (fun (R : List SL.HP) (w : World) (H : own w R)=>DA C p b R w H)
     rw [show Ai C p b = 0 from zq HB.out,zt rfl,lL] at HHD
     unfold oF at HHD
     generalize lM C p b = hs at *
     generalize df.write 0 hs = r at *
     clear HIR HGET HOK
     go_wp2_with fail
     refine (HFL.out _ wr (lG 1 hown rfl)).mono ?_
     rintro e w5 ⟨rfl,hx5,h5'⟩
     have h5:=ot hown 1 rfl h5'
     obtain ⟨cc,ff⟩:=la 2 h5 rfl
     go_wp2_with fail
     refine (HHD.out _ w5 h5).mono ?_
     rintro e w6 ⟨rfl,hx6,h6⟩
     clear cc ff
     go_wp2_with fail
     refine (HWR.out _ w6 (lG 1 h6 rfl)).mono ?_
     rintro e w7 ⟨rfl,hx7,h7'⟩
     have h7:=ot h6 1 rfl h7'
     have hx7f:=((hxr.trans hx5).trans hx6).trans hx7
     by_cases hz : r.1 = 0
     ·have hS2:=HF.out
      rw [zq (by simpa using hz)] at hS2
      have HS2:=zh hS2
      have HFL2:=zh (fun (R : List SL.HP) (w : World) (H : own w (lt bd r.2::R))=>A6 bd r.2 okw R w H)
      rw [hz,lL]
      clear hz hS2
      go_wp2_with fail
      refine (HFL2.out _ w7 (lG 1 h7 rfl)).mono ?_
      rintro e w8 ⟨rfl,hx8,h8'⟩
      have h8:=ot h7 1 rfl h8'
      go_wp2_with fail
      go_ret2
      rw [HS2.out]
      exact .inr ⟨rfl,bi,bh,rfl,hx7f.trans hx8,le 2 h8 rfl⟩
     ·have hS2:=HF.out
      rw [zt hz] at hS2
      have HS2:=zh hS2
      have hpz : 0 < r.1:=by omega
      have HPE:=zh (lu hpz)
      rw [lu hpz]
      clear hz hS2
      go_wp2_with fail
      go_ret2
      rw [HS2.out]
      exact .inl ⟨by dsimp only; omega,by dsimp only; rw [HPE.out]; rfl,hx7f,le 1 (le 0 h7 rfl) rfl⟩


theorem B2 {fn : Func} {p : Tmp} {ty : TypeId} (h : fn.results = #[.cell p ty]) (tmps : Array Value) (P : Program) (w : World) :
  (results fn tmps).run P w = ((asAddr (tmps.getD p undef)).run P w).andThen fun a w₁=>(loadVar ty a).run P w₁:=by
 simp only [results,h]
 simp [Sem.run_bind,Result.andThen]
theorem JI {fn : Func} {t : Tmp} (h : fn.results = #[.cell t 103]) (tmps : Array Value) (w : World) (g : Nat) (c p b : Int) (hg : tmps.getD t undef = .pointer (some ⟨g,0,none⟩))
  (h0 : w.cell? ⟨g,0,none⟩ = some (.int .i64 c)) (h1 : w.cell? ⟨g,1,none⟩ = some (.int .i64 p)) (h2 : w.cell? ⟨g,2,none⟩ = some (.int .i64 b)) :
  (results fn tmps).run Tryz.prog w = .ok (oF c p b) w:=by
 rw [B2 h,hg]
 unfold oF
 go_simp
theorem Ll (b bd bh : Nat) (m : ImgM) (R : List SL.HP) (w : World) (H : own w (lE b bd bh m::R)) :
  Calls Tryz.prog 71 #[.pointer (some ⟨b,0,none⟩)] w fun e w'=>e = .returned (oF m.c m.p m.b) /\ Ext w w' /\ own w' (lE b bd bh m::R):=by
 obtain ⟨v,h⟩:=oR H
 have ha:=lf h (.cells #[.int .i64 0,.int .i64 0,.int .i64 0] 103)
 have hxa:=(zR w).alloc (.cells #[.int .i64 0,.int .i64 0,.int .i64 0] 103)
 go_enter Tryz.func71,Tryz.ntmps71
 go_upto_region 1 with (fail)
 generalize w.heap.size = g at *
 generalize w.alloc (.cells #[.int .i64 0,.int .i64 0,.int .i64 0] 103) = w1 at *
 obtain ⟨cc,ff⟩:=la 1 ha rfl
 obtain ⟨cg,fg⟩:=la 0 ha rfl
 go_wp2_with fail
 have h5:=ln (i:=2) (v:=.int .i64 m.b) 0 (ln (i:=1) (v:=.int .i64 m.p) 0 (ln (i:=0) (v:=.int .i64 m.c) 0 ha rfl) rfl) rfl
 obtain ⟨c3,-⟩:=la 0 h5 rfl
 refine bodyPost_ret (JI rfl _ _ g m.c m.p m.b rfl (c3 0) (c3 1) (c3 2)) rfl ?_
 exact ⟨rfl,((hxa.setCell _ _).setCell _ _).setCell _ _,oJ (lg h5)⟩
theorem Lc (m : ImgM) (k : Int) : 0 <= (m.read k).2:=by
 unfold ImgM.read
 split
 ·split
  ·decide
  ·split <;> simp
 ·simp
end Go.Proofs.YtbpblokfiajpjabGreatDoor
namespace Go.Proofs.YtbpblokfiajpjabGreatDoor
open Go.RowKit Go.SL
def lV (w : World) (v : Value) (l : List Int) : Prop:=SlAt v l.length (fun b off i=>w.cell? ⟨b,off + i,none⟩ = some (.int .i64 (l.getD i 0)))
theorem lV.form {w : World} {v : Value} {l : List Int} (h : lV w v l) : ∃ao b off cap,v = .slice ao l.length cap /\ l.length <= cap /\ cap <= 9223372036854775807 /\ (0 < l.length -> ao = some ⟨b,off,none⟩) /\
  ∀i,i < l.length -> w.cell? ⟨b,off + i,none⟩ = some (.int .i64 (l.getD i 0)):=by
 obtain ⟨ao,b,off,cap,hv,h1,h2,h3,h4⟩:=h
 exact ⟨ao,b,off,cap,hv,h1,h2,h3,h4⟩
end Go.Proofs.YtbpblokfiajpjabGreatDoor
namespace Go.Proofs.YtbpblokfiajpjabGreatDoor
open Go.RowKit Go.SL Go.Crc
attribute [local go_sem ↓] Go.wp_at_zero Go.wp_at_succ
abbrev ShM:=Nat -> Option ImgM
def put (F : ShM) (k : Nat) (m : ImgM) : ShM:=fun j=>if j = k then some m else F j
theorem FM {F : ShM} {k : Nat} {m : ImgM} (h : F k = some m) : put F k m = F:=funext fun j=>by unfold put; split <;> simp_all
theorem yg (F : ShM) (k : Nat) (m : ImgM) : put F k m k = some m:=zt rfl
theorem AJ (F : ShM) {k j : Nat} (m : ImgM) (h : j≠k) : put F k m j = F j:=zq h
def yc (A : Nat -> Nat×Nat×Nat) (F : ShM) (k : Nat) : Value:=match F k with
 | none=>.pointer none
 | some _=>.pointer (some ⟨(A k).1,0,none⟩)
def oS (A : Nat -> Nat×Nat×Nat) (F : ShM) (k : Nat) : HP:=match F k with
 | none=>emp
 | some m=>star [lE (A k).1 (A k).2.1 (A k).2.2 m,lt (A k).2.1 m.d]
def oQ (A : Nat -> Nat×Nat×Nat) (F : ShM) : Array Value:=#[yc A F 0,yc A F 1,yc A F 2,yc A F 3,yc A F 4]
def shL (b : Nat) (A : Nat -> Nat×Nat×Nat) (F : ShM) : List SL.HP:=[pts b (.cells (oQ A F) 111 (0,0)),oS A F 0,oS A F 1,oS A F 2,oS A F 3,oS A F 4]
theorem It {b : Nat} {A : Nat -> Nat×Nat×Nat} {F : ShM} {R : List SL.HP} {k : Nat} (hk : k < 5) : (shL b A F++R)[1 + k]? = some (oS A F k):=by
 rcases k with _ | _ | _ | _ | _ | k
 ·rfl
 ·rfl
 ·rfl
 ·rfl
 ·rfl
 ·omega
theorem N0 {A : Nat -> Nat×Nat×Nat} {F : ShM} {k : Nat} {m m' : ImgM} (h : F k = some m) (j : Nat) : yc A (put F k m') j = yc A F j:=by
 unfold yc put
 by_cases e : j = k
 ·subst e; rw [zt rfl,h]
 ·rw [zq e]
theorem Qk {b : Nat} {A : Nat -> Nat×Nat×Nat} {F : ShM} {R : List SL.HP} {k : Nat} (hk : k < 5) {m m' : ImgM} (h : F k = some m) :
  (shL b A F++R).set (1 + k) (star [lE (A k).1 (A k).2.1 (A k).2.2 m',lt (A k).2.1 m'.d]) = shL b A (put F k m')++R:=by
 have hc : oQ A (put F k m') = oQ A F:=by unfold oQ; simp only [N0 h]
 have hs : ∀j,j≠k -> oS A (put F k m') j = oS A F j:=fun j hj=>by unfold oS; rw [AJ F m' hj]
 have hk' : oS A (put F k m') k = star [lE (A k).1 (A k).2.1 (A k).2.2 m',lt (A k).2.1 m'.d]:=by unfold oS; rw [yg]
 rcases k with _ | _ | _ | _ | _ | k
 case succ.succ.succ.succ.succ=>omega
 all_goals
  unfold shL
  rw [hc,<- hk']
  simp [hs]
theorem zk {b : Nat} {A : Nat -> Nat×Nat×Nat} {F : ShM} {R : List SL.HP} {w : World} {k : Nat} (hk : k < 5) {m : ImgM} (h : F k = some m) (H : own w (shL b A F++R)) :
  own w (lE (A k).1 (A k).2.1 (A k).2.2 m::lt (A k).2.1 m.d::(shL b A F++R).eraseIdx (1 + k)):=by
 have h1:=lG (1 + k) H (It hk)
 have hs : oS A F k = star [lE (A k).1 (A k).2.1 (A k).2.2 m,lt (A k).2.1 m.d]:=by unfold oS; rw [h]
 rw [hs] at h1
 exact FO h1
theorem BZ {b : Nat} {A : Nat -> Nat×Nat×Nat} {F : ShM} {R : List SL.HP} {w w0 : World} {k : Nat} (hk : k < 5) {m m' : ImgM} (h : F k = some m) (H0 : own w0 (shL b A F++R))
  (H : own w (lE (A k).1 (A k).2.1 (A k).2.2 m'::lt (A k).2.1 m'.d::(shL b A F++R).eraseIdx (1 + k))) : own w (shL b A (put F k m')++R):=by
 have h1:=AF [lE (A k).1 (A k).2.1 (A k).2.2 m',lt (A k).2.1 m'.d] H
 have h2:=ot H0 (1 + k) (It hk) h1
 rwa [Qk hk h] at h2
theorem l9 {b : Nat} {A : Nat -> Nat×Nat×Nat} {F : ShM} {R : List SL.HP} {w : World} (H : own w (shL b A F++R)) {k : Nat} (hk : k < 5) : w.cell? ⟨b,k,none⟩ = some (yc A F k):=by
 rw [(la (l:=shL b A F++R) (b:=b) (arr:=oQ A F) (T:=111) 0 H rfl).1]
 rcases k with _ | _ | _ | _ | _ | k
 ·rfl
 ·rfl
 ·rfl
 ·rfl
 ·rfl
 ·omega
theorem lO {A : Nat -> Nat×Nat×Nat} {F : ShM} {k : Nat} {m : ImgM} (h : F k = some m) : yc A F k = .pointer (some ⟨(A k).1,0,none⟩):=by unfold yc; rw [h]
theorem Gz {A : Nat -> Nat×Nat×Nat} {F : ShM} {k : Nat} (h : F k = none) : yc A F k = .pointer none:=by unfold yc; rw [h]
def EG (A : Nat -> Nat×Nat) (F : ShM) (k : Nat) : Value:=match F k with
 | none=>.pointer none
 | some _=>.pointer (some ⟨(A k).1,0,none⟩)
def Ev (A : Nat -> Nat×Nat) (F : ShM) (k : Nat) : HP:=match F k with
 | none=>emp
 | some m=>star [Sz (A k).1 (A k).2 m,Ss (A k).2 m.d]
def O4 (A : Nat -> Nat×Nat) (F : ShM) : Array Value:=#[EG A F 0,EG A F 1,EG A F 2,EG A F 3,EG A F 4]
def rshL (b : Nat) (A : Nat -> Nat×Nat) (F : ShM) : List SL.HP:=[pts b (.cells (O4 A F) 114 (0,0)),Ev A F 0,Ev A F 1,Ev A F 2,Ev A F 3,Ev A F 4]
structure ShOk (F : ShM) : Prop where
 ok : ∀k m,k < 5 -> F k = some m -> m.Ok
 wr : ∀k m,k < 5 -> F k = some m -> m.d.writes < 900000
 pend : ∀k m,k < 5 -> F k = some m -> m.d.pend.length < 900000
def clus (F : ShM) (root : Int) : Int:=match F root.toNat with
 | some m=>m.c
 | none=>0
def oL (F : ShM) (root : Int) : Nat -> List Int -> Int -> List Int×Int
 | 0,l,_=>(l,0)
 | n + 1,l,at_=>if at_ = -1 then (l,0) else if at_ < 0 \/ 5 <= at_ then ([],4) else match F at_.toNat with
  | none=>([],4)
  | some m=>if l.length = 5 then ([],10) else if m.c≠clus F root then ([],2) else oL F root n (l++[at_]) m.b
def lk (F : ShM) (root : Int) : List Int×Int:=oL F root 6 [] root
def lq (F : ShM) (x : Int) : Prop:=0 <= x /\ x < 5 /\ ∃m,F x.toNat = some m
theorem Kg {F : ShM} {root : Int} : ∀{n : Nat} {l : List Int} {at_ : Int},(∀x∈l,lq F x) -> ∀x∈(oL F root n l at_).1,lq F x:=by
 intro n
 induction n with
 | zero=>intro l at_ h; exact h
 | succ n ih=>
  intro l at_ h
  rw [oL]
  split
  ·exact h
  ·split
   ·intro x hx; cases hx
   ·rename_i h1
    split
    ·intro x hx; cases hx
    ·rename_i m hm
     split
     ·intro x hx; cases hx
     ·split
      ·intro x hx; cases hx
      ·refine ih fun x hx=>?_
       rcases List.mem_append.1 hx with hx | hx
       ·exact h x hx
       ·rw [List.mem_singleton.1 hx]; exact ⟨by omega,by omega,m,hm⟩
theorem yG (F : ShM) (root : Int) : ∀x∈(lk F root).1,lq F x:=Kg fun x hx=>by cases hx
theorem Aa {F : ShM} {root : Int} : ∀{n : Nat} {l : List Int} {at_ : Int},0 <= (oL F root n l at_).2:=by
 intro n
 induction n with
 | zero=>intro l at_; simp [oL]
 | succ n ih=>
  intro l at_
  rw [oL]
  split
  ·simp
  ·split
   ·simp
   ·split
    ·simp
    ·split
     ·simp
     ·split
      ·simp
      ·exact ih
theorem GQ {F : ShM} {root : Int} : ∀{n : Nat} {l : List Int} {at_ : Int},l.length <= 5 -> (oL F root n l at_).1.length <= 5:=by
 intro n
 induction n with
 | zero=>intro l at_ h; exact h
 | succ n ih=>
  intro l at_ h
  rw [oL]
  split
  ·exact h
  ·split
   ·simp
   ·split
    ·simp
    ·split
     ·simp
     ·split
      ·simp
      ·exact ih (by simp; omega)
def lr (l : List Int) : List Value:=l.map (Value.int .i64)
theorem Lv {l : List Int} {i : Nat} (h : i < l.length) : (lr l)[i]? = some (.int .i64 (l.getD i 0)):=by simp [lr,h]
theorem oM {w : World} {L : List HP} (k : Nat) {v : Value} {l : List Int} (H : own w L) (hk : L[k]? = some (row 3 1 v l.length (lr l))) : lV w v l:=by
 obtain ⟨ao,g,cap,rfl,h1,h2,h3,-,-,h6,-⟩:=ll k H hk
 refine ⟨ao,g,0,cap,rfl,h1,by simp only [maxLen] at h2; omega,h3,fun i hi=>?_⟩
 dsimp only
 rw [Nat.zero_add]
 exact h6 _ _ (Lv hi)
def N2 : Value -> Nat
 | .slice _ n _=>n
 | _=>0
def AW (val : Int -> Value) (res : List Int×Int) (L : List SL.HP) (w : World) (e : Ending) (w' : World) : Prop:=
 ∃v,e = .returned (.tuple #[v,val res.2]) /\ Ext w w' /\ own w' (row 3 1 v res.1.length (lr res.1)::L)
def QC (F : ShM) (root : Int) (res : List Int×Int) (L : List SL.HP) (w0 : World) (v i : Value) (wr : World) : Prop:=
 ∃(n : Nat) (l : List Int) (at_ : Int),n + l.length = 6 /\ l.length <= 5 /\ i = .int .i64 at_ /\ ((l = [] /\ at_ = root) \/ (lq F root /\ -1 <= at_ /\ at_ <= 4)) /\ oL F root n l at_ = res /\ Ext w0 wr /\ own wr (row 3 1 v l.length (lr l)::L)
theorem zF {b : Nat} {A : Nat -> Nat×Nat×Nat} {F : ShM} {k : Nat} (hk : k < 5) {m : ImgM} (h : F k = some m) (R : List SL.HP) (w : World) (H : own w (shL b A F++R)) :
  Calls Tryz.prog 71 #[.pointer (some ⟨(A k).1,0,none⟩)] w fun e w'=>e = .returned (oF m.c m.p m.b) /\ Ext w w' /\ own w' (shL b A F++R):=
 (Ll _ _ _ m _ w (zk hk h H)).mono fun e w' ⟨h1,h2,h3⟩=>⟨h1,h2,by have:=BZ hk h H h3; rwa [FM h] at this⟩
theorem Iu (l m : List Int) : lr (l++m) = lr l++lr m:=by simp [lr]
theorem y8 {F : ShM} {r : Nat} {m : ImgM} (h : F r = some m) : clus F (r : Int) = m.c:=by unfold clus; rw [zn,h]
theorem Bv (c p b : Int) (w : World) : (Instr.field 103 (.agg #[.int .i64 c,.int .i64 p,.int .i64 b]) 0).run Tryz.prog w = .ok (.int .i64 c) w:=by kernel_rfl
theorem Lz (c p b : Int) (w : World) : (Instr.field 103 (.agg #[.int .i64 c,.int .i64 p,.int .i64 b]) 2).run Tryz.prog w = .ok (.int .i64 b) w:=by kernel_rfl
theorem Bx (b : Nat) (A : Nat -> Nat×Nat×Nat) (F : ShM) (hF : ShOk F) (root : Int) (R : List SL.HP) (w : World) (H : own w (shL b A F++R)) :
  Calls Tryz.prog 69 #[.pointer (some ⟨b,0,none⟩),.int .i64 root] w (AW errV (lk F root) (shL b A F++R) w):=by
 generalize hres : lk F root = res
 have HRES:=zh hres
 clear hres
 go_enter Tryz.func69,Tryz.ntmps69
 go_wp2_with fail
 go_loopw [6,7] (QC F root res (shL b A F++R) w) (fun v _ _=>6 - N2 v)
 case atStart=>exact ⟨6,[],root,rfl,by simp,rfl,.inl ⟨rfl,rfl⟩,HRES.out,zR _,lX _ _ H⟩
 case round=>
  obtain ⟨n,l,at_,hn,hl,rfl,hor,hgo,hxr,hown⟩:=hrel
  obtain ⟨n,rfl⟩ : ∃k,n = k + 1:=⟨n - 1,by omega⟩
  rw [oL] at hgo
  have hsh : own wr (shL b A F++R):=lg hown
  by_cases h1 : at_ = -1
  ·rw [zt h1] at hgo
   subst h1
   subst hgo
   go_wp2_with fail
   go_ret2
   exact ⟨_,rfl,hxr,hown⟩
  ·rw [zq h1] at hgo
   by_cases h2 : at_ < 0 \/ 5 <= at_
   ·rw [zt h2] at hgo
    subst hgo
    have t1 : (at_ != -1) = true:=bne_iff_ne.2 h1
    by_cases h3 : at_ < 0
    ·clear h1 h2
     go_wp2_with fail
     go_ret2
     exact ⟨_,rfl,hxr,lX _ _ hsh⟩
    ·have h4 : 5 <= at_:=by omega
     clear h1 h2
     go_wp2_with fail
     go_ret2
     exact ⟨_,rfl,hxr,lX _ _ hsh⟩
   ·rw [zq h2] at hgo
    obtain ⟨k,rfl⟩:=ze (show 0 <= at_ by omega)
    have hk : k < 5:=by omega
    have i1 : (0 : Int) <= (k : Int):=by omega
    have i2 : (k : Int) < 5:=by omega
    have t1 : ((k : Int) != -1) = true:=bne_iff_ne.2 h1
    rw [zn] at hgo
    have cell:=l9 hsh hk
    clear h1 h2
    cases hFk : F k with
    | none=>
     rw [hFk] at hgo
     rw [Gz hFk] at cell
     have hgo' : res = ([],4):=hgo.symm
     subst hgo'
     clear hgo
     go_wp2_with fail
     go_ret2
     exact ⟨_,rfl,hxr,lX _ _ hsh⟩
    | some m=>
     rw [hFk] at hgo
     dsimp only at hgo
     rw [lO hFk] at cell
     obtain ⟨ao,g,cap,rfl,r1,r2,r3,-,-,-,-⟩:=ll 0 hown rfl
     by_cases h5 : l.length = 5
     ·rw [zt h5] at hgo
      have hgo' : res = ([],10):=hgo.symm
      subst hgo'
      have t5 : ((l.length : Int) == 5) = true:=by simp [h5]
      have H5:=zh h5
      clear hgo h5
      go_wp2_with fail
      go_ret2
      exact ⟨_,rfl,hxr,lX _ _ hsh⟩
     ·rw [zq h5] at hgo
      have t5 : ((l.length : Int) == 5) = false:=by
       rw [zb]; omega
      have hroot : lq F root:=by
       rcases hor with ⟨-,h⟩ | ⟨h,-⟩
       ·rw [<- h]; exact ⟨by omega,by omega,m,by rw [zn]; exact hFk⟩
       ·exact h
      have HFILE:=zh hroot
      obtain ⟨q1,q2,mr,hmr⟩:=hroot
      obtain ⟨r,rfl⟩:=ze q1
      rw [zn] at hmr
      have hr : r < 5:=by omega
      have cellr:=l9 hsh hr
      rw [lO hmr] at cellr
      rw [y8 hmr] at hgo
      have HGO:=zh hgo
      have HFK:=zh hFk
      have HMR:=zh hmr
      have HH1:=zh (fun (R' : List SL.HP) (w : World) (H : own w (shL b A F++R'))=>zF hk hFk R' w H)
      have HH2:=zh (fun (R' : List SL.HP) (w : World) (H : own w (shL b A F++R'))=>zF hr hmr R' w H)
      unfold oF at HH1 HH2
      obtain ⟨C,-,-,-,-,-,-,-,b1,b2⟩:=(hF.ok k m hk hFk).nat
      have hl4 : l.length <= 4:=by omega
      clear hor hgo hFk hmr h5 hl r3
      have f1:=Bv m.c m.p m.b
      have f2:=Bv mr.c mr.p mr.b
      have f3:=Lz m.c m.p m.b
      by_cases hcc : m.c = mr.c
      ·have t6 : (m.c != mr.c) = false:=by simp [hcc]
       have HGO2:=HGO.out
       rw [zq (by simpa using hcc)] at HGO2
       have HGO3:=zh HGO2
       clear hcc HGO2 HGO
       go_upto_region 8 with (fail)
       clear cell cellr
       have hz : own wr.drew (shL b A F++(row 3 1 (.slice ao l.length cap) l.length (lr l)::R)):=lj (lD (shL b A F) hown)
       have hxz:=hxr.drew
       clear hown hxr hsh
       go_region_held3 (fun w'=>w'.cell? ⟨b,k,none⟩ = some (.pointer (some ⟨(A k).1,0,none⟩)) /\ w'.cell? ⟨b,r,none⟩ = some (.pointer (some ⟨(A r).1,0,none⟩))) (exact ⟨by rw [l9 hz hk,lO HFK.out],by rw [l9 hz hr,lO HMR.out]⟩) (first | (go_at_call 71; refine (HH1.out _ _ hz).mono ?_; rintro e w5 ⟨rfl,hx5,hz'⟩; have hxz:=hxz.trans hx5; have hz:=hz') | (go_at_call 71; refine (HH2.out _ _ hz).mono ?_; rintro e w6 ⟨rfl,hx6,hz'⟩; have hxz:=hxz.trans hx6; have hz:=hz'))
       all_goals
        have hz2 : own _ (row 3 1 (.slice ao l.length cap) l.length (lr l)::(shL b A F++R)):=lG 6 hz rfl
        have hm5 : l.length + 1 <= maxLen:=by simp only [maxLen]; omega
        have ha2:=lf hz2 (.cells #[.int .i64 (k : Int)] 3)
        go_wp2_with (first | (at_builtin; refine yb rfl _ _ 95 rfl 1 3 Tryz.underlying95 Ky rfl (by decide) rfl ha2 rfl (some ⟨_,0,none⟩) 1 1 [.int .i64 (k : Int)] rfl rfl (yJ _ [.int .i64 (k : Int)] _) (fun h=>by cases h) (QO _) hm5 (by omega) ?_))
        intro v' w7 h7' hx7
        obtain ⟨ao',g',cap',rfl,-,-,-,-,-,-,-⟩:=ll 1 h7' rfl
        have h7 : own w7 (shL b A F++(row 3 1 (.slice ao' (l.length + 1) cap') (l.length + 1) (lr l++[.int .i64 (k : Int)])::R)):=lD (shL b A F) (lg h7')
        have hx8:=(hxz.alloc (.cells #[.int .i64 (k : Int)] 3)).trans hx7
        have cell:=l9 h7 hk
        rw [lO HFK.out] at cell
        clear hz hxz hz2 ha2 h7' hx7
        go_wp2_with fail
        refine (HH1.out _ w7 h7).mono ?_
        rintro e w8 ⟨rfl,hx9,h8⟩
        clear cell
        go_wp2_with fail
        go_roundw
        case rel=>exact ⟨n,l++[(k : Int)],m.b,by simp; omega,by simp; omega,rfl,.inr ⟨HFILE.out,by omega,by omega⟩,HGO3.out,hx8.trans hx9,by rw [Iu,List.length_append]; exact lG 6 h8 rfl⟩
        case measure=>simp [N2]; omega
      ·have t6 : (m.c != mr.c) = true:=by simpa using hcc
       have hgo' : res = ([],2):=by have:=HGO.out; rw [zt (by simpa using hcc)] at this; exact this.symm
       clear HGO hcc
       subst hgo'
       go_upto_region 8 with (fail)
       clear cell cellr
       have hz : own wr.drew (shL b A F++(row 3 1 (.slice ao l.length cap) l.length (lr l)::R)):=lj (lD (shL b A F) hown)
       have hxz:=hxr.drew
       clear hown hxr hsh
       go_region_held3 (fun w'=>w'.cell? ⟨b,k,none⟩ = some (.pointer (some ⟨(A k).1,0,none⟩)) /\ w'.cell? ⟨b,r,none⟩ = some (.pointer (some ⟨(A r).1,0,none⟩))) (exact ⟨by rw [l9 hz hk,lO HFK.out],by rw [l9 hz hr,lO HMR.out]⟩) (first | (go_at_call 71; refine (HH1.out _ _ hz).mono ?_; rintro e w5 ⟨rfl,hx5,hz'⟩; have hxz:=hxz.trans hx5; have hz:=hz') | (go_at_call 71; refine (HH2.out _ _ hz).mono ?_; rintro e w6 ⟨rfl,hx6,hz'⟩; have hxz:=hxz.trans hx6; have hz:=hz'))
       all_goals
        go_wp2_with fail
        go_ret2
        exact ⟨_,rfl,hxz,lX _ _ (le 6 hz rfl)⟩
def hasC (F : ShM) (x c : Int) : Bool:=match F x.toNat with
 | some m=>m.there c && decide (m.kind c≠0)
 | none=>false
def yo (F : ShM) (c : Int) : Nat -> List Int -> Int
 | _,[]=>-1
 | i,x::l=>if hasC F x c = true then (i : Int) else yo F c (i + 1) l
def oX (F : ShM) (l : List Int) (c : Int) : Int:=yo F c 0 l
theorem DZ {F : ShM} {c : Int} : ∀{l : List Int} {i : Nat},yo F c i l = -1 \/ ((i : Int) <= yo F c i l /\ yo F c i l < (i : Int) + l.length):=by
 intro l
 induction l with
 | nil=>intro i; exact .inl rfl
 | cons x l ih=>
  intro i
  rw [yo]
  split
  ·right; simp only [List.length_cons]; omega
  ·rcases ih (i:=i + 1) with h | h
   ·exact .inl h
   ·right; simp only [List.length_cons]; omega
theorem Ee (F : ShM) (l : List Int) (c : Int) : oX F l c = -1 \/ (0 <= oX F l c /\ oX F l c < l.length):=by
 have:=DZ (F:=F) (c:=c) (l:=l) (i:=0)
 unfold oX
 omega
theorem LC {F : ShM} {k : Nat} {m : ImgM} (h : F k = some m) (c : Int) : hasC F (k : Int) c = (m.there c && decide (m.kind c≠0)):=by unfold hasC; rw [zn,h]
theorem og {F : ShM} {x : Int} (h : lq F x) : ∃(k : Nat) (m : ImgM),x = k /\ k < 5 /\ F k = some m:=by
 obtain ⟨h0,h1,m,hm⟩:=h
 exact ⟨x.toNat,m,by omega,by omega,hm⟩
theorem Jj (b : Nat) (A : Nat -> Nat×Nat×Nat) (F : ShM) (hF : ShOk F) (v : Value) (l : List Int) (hl : ∀x∈l,lq F x) (hl5 : l.length <= 5) (c : Int) (R : List SL.HP) (w : World) (hv : lV w v l) (H : own w (shL b A F++R)) :
  Calls Tryz.prog 152 #[.pointer (some ⟨b,0,none⟩),v,.int .i64 c] w fun e w'=>e = .returned (.int .i64 (oX F l c)) /\ w = w':=by
 obtain ⟨ao,lb,off,cap,rfl,hlc,hcap,hao,hat⟩:=hv.form
 generalize hres : oX F l c = res
 unfold oX at hres
 have HRES:=zh hres
 have HAO:=zh hao
 have HAT:=zh hat
 have HL:=zh hl
 have HOW:=zh H
 clear hres hao hat hl hv
 go_enter Tryz.func152,Tryz.ntmps152
 go_wp2_with fail
 go_loop [13] (fun i=>∃q : Nat,q <= l.length /\ i = .int .i64 q /\ yo F c q (l.drop q) = res) (fun i=>l.length - (intOf i).toNat)
 case atStart=>exact ⟨0,Nat.zero_le _,rfl,HRES.out⟩
 case round=>
  obtain ⟨q,hq,rfl,hgo⟩:=hrel
  by_cases hlt : q < l.length
  ·obtain rfl:=HAO.out (by omega)
   have c1:=HAT.out q hlt
   rw [BW 0 hlt,yo] at hgo
   obtain ⟨k,m,hxk,hk,hFk⟩:=og (HL.out (l.getD q 0) (by simp [hlt]))
   rw [hxk] at c1 hgo
   rw [LC hFk] at hgo
   have cell:=l9 HOW.out hk
   rw [lO hFk] at cell
   have i1 : (0 : Int) <= (k : Int):=by omega
   have i2 : (k : Int) < 5:=by omega
   have hm:=hF.ok k m hk hFk
   have hki:=DC (A k).1 (A k).2.1 (A k).2.2 m hm c _ w (zk hk hFk HOW.out)
   have HGO:=zh hgo
   clear hgo hxk
   cases ht : m.there c
   ·rw [ht,zq (by decide),show errV 1 = .iface 128 (.int .i64 1) from rfl] at hki
    have HK:=zh hki
    have HT:=zh ht
    clear hki ht hm hFk
    go_wp2_with fail
    refine HK.out.mono ?_
    rintro e w' ⟨rfl,rfl⟩
    go_wp2_with fail
    go_round
    case rel=>exact ⟨q + 1,by omega,by go_num,by have:=HGO.out; rw [HT.out] at this; simpa using this⟩
    case measure=>simp [intOf]; omega
   ·rw [ht,zt rfl] at hki
    have HK:=zh hki
    have HT:=zh ht
    clear hki ht hm hFk
    by_cases hz : m.kind c = 0
    ·rw [hz] at HK
     have HZ:=zh hz
     clear hz
     go_wp2_with fail
     refine HK.out.mono ?_
     rintro e w' ⟨rfl,rfl⟩
     go_wp2_with fail
     go_round
     case rel=>exact ⟨q + 1,by omega,by go_num,by have:=HGO.out; rw [HT.out,HZ.out] at this; simpa using this⟩
     case measure=>simp [intOf]; omega
    ·have t0 : (m.kind c != 0) = true:=bne_iff_ne.2 hz
     have HZ:=zh hz
     clear hz
     go_wp2_with fail
     refine HK.out.mono ?_
     rintro e w' ⟨rfl,rfl⟩
     go_wp2_with fail
     go_ret
     have:=HGO.out
     rw [HT.out,zt (by simpa using HZ.out)] at this
     exact ⟨By this,rfl⟩
  ·obtain rfl : l.length = q:=by omega
   rw [List.drop_of_length_le (Nat.le_refl _)] at hgo
   have hgo' : res = -1:=hgo.symm
   subst hgo'
   clear hgo
   go_wp2_with fail
   go_ret
   exact ⟨rfl,rfl⟩
def Cj (F : ShM) (x c : Int) : ByteArray×Int:=match F x.toNat with
 | some m=>m.read c
 | none=>(ByteArray.empty,4)
def Br (F : ShM) (x c : Int) : Bool:=match F x.toNat with
 | some m=>m.there c
 | none=>false
def Fd (F : ShM) (l : List Int) (c i : Int) : ByteArray×Int:=if i < 0 then (zs 64,0) else Cj F (l.getD i.toNat 0) c
def om (F : ShM) (l : List Int) (c : Int) : ByteArray×Int:=
 if l.length = 0 then (ByteArray.empty,4) else if Br F (l.getD 0 0) c = false then (ByteArray.empty,1) else Fd F l c (oX F l c)
theorem Ib (F : ShM) (l : List Int) (c : Int) : 0 <= (om F l c).2:=by
 unfold om
 split
 ·simp
 ·split
  ·simp
  ·unfold Fd
   split
   ·simp
   ·unfold Cj
    split
    ·exact Lc _ _
    ·simp
theorem ym {w : World} {lb off n cap : Nat} {l : List Int} (h : lV w (.slice (some ⟨lb,off,none⟩) n cap) l) {i : Nat} (hi : i < l.length) : w.cell? ⟨lb,off + i,none⟩ = some (.int .i64 (l.getD i 0)):=by
 obtain ⟨ao,lb',off',cap',hv,h1,h2,h3,h4⟩:=h.form
 simp only [Value.slice.injEq] at hv
 have h5:=h3 (by omega)
 rw [<- hv.1] at h5
 simp only [Option.some.injEq,Addr.mk.injEq,and_true] at h5
 obtain ⟨rfl,rfl⟩:=h5
 exact h4 i hi
theorem CC {F : ShM} {k : Nat} {m : ImgM} (h : F k = some m) (c : Int) : Br F (k : Int) c = m.there c:=by unfold Br; rw [zn,h]
theorem GM {F : ShM} {k : Nat} {m : ImgM} (h : F k = some m) (c : Int) : Cj F (k : Int) c = m.read c:=by unfold Cj; rw [zn,h]
theorem Ng {b : Nat} {A : Nat -> Nat×Nat×Nat} {F : ShM} {k : Nat} (hk : k < 5) {m : ImgM} (h : F k = some m) (hm : m.Ok) (c : Int) (R : List SL.HP) (w : World) (H : own w (shL b A F++R)) :
  Calls Tryz.prog 153 #[.pointer (some ⟨(A k).1,0,none⟩),.int .i64 c] w fun e w'=>e = .returned (.tuple #[.string (m.read c).1,errV (m.read c).2]) /\ Ext w w' /\ own w' (shL b A F++R):=
 (O3 _ _ _ m hm c _ w (zk hk h H)).mono fun e w' ⟨h1,h2,h3⟩=>⟨h1,h2,by have:=BZ hk h H h3; rwa [FM h] at this⟩
theorem J3 : zs 64 = ⟨#[0,0,0,0,0,0,0,0,0,0,0,0,0,0,0,0,0,0,0,0,0,0,0,0,0,0,0,0,0,0,0,0,0,0,0,0,0,0,0,0,0,0,0,0,0,0,0,0,0,0,0,0,0,0,0,0,0,0,0,0,0,0,0,0]⟩:=rfl
theorem Dz (b : Nat) (A : Nat -> Nat×Nat×Nat) (F : ShM) (hF : ShOk F) (v : Value) (l : List Int) (hl : ∀x∈l,lq F x) (hl5 : l.length <= 5) (c : Int) (R : List SL.HP) (w : World) (hv : ∀w' L,own w' (L++R) -> lV w' v l) (H : own w (shL b A F++R)) :
  Calls Tryz.prog 59 #[.pointer (some ⟨b,0,none⟩),v,.int .i64 c] w fun e w'=>e = .returned (.tuple #[.string (om F l c).1,errV (om F l c).2]) /\ Ext w w' /\ own w' (shL b A F++R):=by
 have hv0:=hv w _ H
 obtain ⟨ao,lb,off,cap,rfl,hlc,hcap,hao,-⟩:=hv0.form
 generalize hres : om F l c = res
 unfold om at hres
 have HV:=zh hv
 by_cases h0 : l.length = 0
 ·rw [zt h0] at hres
  subst hres
  have t0 : ((l.length : Int) == 0) = true:=by simp [h0]
  have H0:=zh h0
  clear h0 hv hv0 hao
  go_enter Tryz.func59,Tryz.ntmps59
  go_wp2_with fail
  go_ret2
  exact ⟨rfl,zR _,H⟩
 ·rw [zq h0] at hres
  have t0 : ((l.length : Int) == 0) = false:=by rw [zb]; omega
  obtain rfl:=hao (by omega)
  have hpos : 0 < l.length:=by omega
  have c0 : w.cell? ⟨lb,off,none⟩ = some (.int .i64 (l.getD 0 0)):=ym hv0 hpos
  obtain ⟨k,m,hxk,hk,hFk⟩:=og (hl (l.getD 0 0) (by simp [hpos]))
  rw [hxk] at c0 hres
  rw [CC hFk] at hres
  have cell:=l9 H hk
  rw [lO hFk] at cell
  have i1 : (0 : Int) <= (k : Int):=by omega
  have i2 : (k : Int) < 5:=by omega
  have j2 : (0 : Int) < (l.length : Int):=by omega
  have hm:=hF.ok k m hk hFk
  have hki:=fun (w' : World) (H : own w' (shL b A F++R))=>DC (A k).1 (A k).2.1 (A k).2.2 m hm c _ w' (zk hk hFk H)
  have HRES:=zh hres
  have HFO:=zh (fun (w' : World) (H : own w' (shL b A F++R))=>Jj b A F hF _ l hl hl5 c R w' (hv w' _ H) H)
  have HL:=zh hl
  clear hres hxk h0 hv hv0 hl hao
  cases ht : m.there c
  ·rw [ht,zq (by decide),show errV 1 = .iface 128 (.int .i64 1) from rfl] at hki
   have hr2:=HRES.out
   rw [ht,zt rfl] at hr2
   have HR2:=zh hr2
   have HK:=zh hki
   clear hki ht hm hFk hr2
   go_enter Tryz.func59,Tryz.ntmps59
   go_upto_region 3 with (fail)
   go_quiet ((go_at_call 151; exact Calls.quiet_of_same ((HK.out _ (by first | exact H | exact lj H | exact lI _ H)).mono fun e w' h=>⟨h.1,h.2.symm⟩)))
   go_wp2_with fail
   go_ret2
   rw [<- HR2.out]
   exact ⟨rfl,(zR w).drewN _,lI _ H⟩
  ·rw [ht,zt rfl] at hki
   have hr2:=HRES.out
   rw [ht,zq (by decide)] at hr2
   have HR2:=zh hr2
   have HK:=zh hki
   have hfr:=Ee F l c
   clear hki ht hm hFk hr2
   generalize oX F l c = fi at *
   unfold Fd at HR2
   by_cases hneg : fi < 0
   ·have hr3:=HR2.out
    rw [zt hneg] at hr3
    have HR3:=zh hr3
    have d0 : decide (fi < 0) = true:=zg hneg
    clear hr3 hneg hfr
    go_enter Tryz.func59,Tryz.ntmps59
    go_upto_region 3 with (fail)
    go_quiet ((go_at_call 151; exact Calls.quiet_of_same ((HK.out _ (by first | exact H | exact lj H | exact lI _ H)).mono fun e w' h=>⟨h.1,h.2.symm⟩)))
    generalize nq = n1 at *
    go_wp2_with fail
    refine (HFO.out _ (lI n1 H)).mono ?_
    rintro e w' ⟨rfl,rfl⟩
    go_wp2_with fail
    go_ret2
    rw [<- HR3.out]
    exact ⟨rfl,(zR w).drewN _,lI _ H⟩
   ·have hr3:=HR2.out
    rw [zq hneg] at hr3
    have hfi : 0 <= fi /\ fi < l.length:=by omega
    obtain ⟨i,rfl⟩:=ze hfi.1
    have hil : i < l.length:=by omega
    rw [zn] at hr3
    obtain ⟨k2,m2,hxk2,hk2,hFk2⟩:=og (HL.out (l.getD i 0) (by simp [hil]))
    rw [hxk2,GM hFk2] at hr3
    have HR3:=zh hr3
    have HX2:=zh hxk2
    have HSR:=zh (fun (w : World) (H : own w (shL b A F++R))=>Ng hk2 hFk2 (hF.ok k2 m2 hk2 hFk2) c R w H)
    have HF2:=zh hFk2
    have u1 : (0 : Int) <= (k2 : Int):=by omega
    have u2 : (k2 : Int) < 5:=by omega
    have u3 : (i : Int) < (l.length : Int):=by omega
    have u4 : (0 : Int) <= (i : Int):=by omega
    clear hr3 hneg hfr hfi hxk2 hFk2
    go_enter Tryz.func59,Tryz.ntmps59
    go_upto_region 3 with (fail)
    go_quiet ((go_at_call 151; exact Calls.quiet_of_same ((HK.out _ (by first | exact H | exact lj H | exact lI _ H)).mono fun e w' h=>⟨h.1,h.2.symm⟩)))
    generalize nq = n1 at *
    have hd:=lI n1 H
    have hxd:=(zR w).drewN n1
    generalize w.drewN n1 = w1 at *
    clear c0 cell
    go_wp2_with fail
    refine (HFO.out _ hd).mono ?_
    rintro e w' ⟨rfl,rfl⟩
    go_upto_region 9 with (fail)
    have hz:=lj hd
    have hxz:=hxd.drew
    go_region_held3 (fun w'=>w'.cell? ⟨lb,off + i,none⟩ = some (.int .i64 (k2 : Int)) /\ w'.cell? ⟨b,k2,none⟩ = some (.pointer (some ⟨(A k2).1,0,none⟩))) (exact ⟨by rw [<- HX2.out]; exact ym (HV.out _ _ hz) hil,by rw [l9 hz hk2,lO HF2.out]⟩) ((go_at_call 153; refine (HSR.out _ hz).mono ?_; rintro e w5 ⟨rfl,hx5,hz'⟩; have hxz:=hxz.trans hx5; have hz:=hz'))
    go_wp2_with fail
    go_ret2
    rw [<- HR3.out]
    exact ⟨rfl,hxz,hz⟩
end Go.Proofs.YtbpblokfiajpjabGreatDoor
