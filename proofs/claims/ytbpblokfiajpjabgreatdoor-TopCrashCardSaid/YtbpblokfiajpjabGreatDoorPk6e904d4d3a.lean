/- Lemmas on which TopAlone and TopCrash stands: the texts YardT1 Ones Image17 Image19 Image20 Image21 Ints Chain1 Chain2 Chain3. No conditions. -/
import Derived.Test.YtbpblokfiajpjabGreatDoorPk329ba7704c
import Derived.Laws.Bits64b
set_option linter.all false
set_option maxRecDepth 1000000
set_option maxHeartbeats 32000000
namespace Go.Proofs.YtbpblokfiajpjabGreatDoor
open Go.RowKit Go.SL Go.Crc
def ImgM.face (m : ImgM) (k : Nat) : Option ByteArray:=if (ent m.t (k / 4)).1 = 0 then none else some (cont m.d m.base (ent m.t (k / 4)) (k % 4))
theorem Aa {m : ImgM} {k : Nat} : m.face k = none↔(ent m.t (k / 4)).1 = 0:=by
 unfold ImgM.face
 split <;> simp_all
theorem AQ {m : ImgM} {k : Nat} (h : (ent m.t (k / 4)).1 = 2) : m.face k = some (m.d.seen (m.base + 4 * (ent m.t (k / 4)).2 + ((k % 4 : Nat) : Int))):=by
 unfold ImgM.face cont
 rw [zq (by omega),zq (by omega),zq (by omega)]
theorem Bf {m : ImgM} {k : Nat} (h : (ent m.t (k / 4)).1 = 1) : m.face k = some (zs 16):=by
 unfold ImgM.face cont
 rw [zq (by omega),zq (by omega),zt h]
theorem Be {m : ImgM} (hm : m.Ok) (c : Nat) : (ent m.t c).1 = 0 \/ (ent m.t c).1 = 1 \/ ((ent m.t c).1 = 2 /\ c < m.t.length):=by
 by_cases h : c < m.t.length
 ·have:=zm (hm.ents _ (yV h))
  omega
 ·left; rw [Fv (by omega)]
theorem Ct {m : ImgM} (hm : m.Ok) {d' : DevM} {k : Nat} (h : (ent m.t (k / 4)).1 = 2 -> d'.seen (m.base + 4 * (ent m.t (k / 4)).2 + ((k % 4 : Nat) : Int)) = m.d.seen (m.base + 4 * (ent m.t (k / 4)).2 + ((k % 4 : Nat) : Int))) : ({ m with d:=d' } : ImgM).face k = m.face k:=by
 rcases Be hm (k / 4) with e | e | ⟨e,-⟩
 ·rw [Aa.2 e,(Aa (m:={ m with d:=d' })).2 e]
 ·rw [Bf e,Bf (m:={ m with d:=d' }) e]
 ·rw [AQ e,AQ (m:={ m with d:=d' }) e,<- h e]
  rfl
theorem F6 {m : ImgM} (hm : m.Ok) {d' : DevM} (hf : d'.fl = m.d.fl) (hp : d'.pend = m.d.pend) (k : Nat) : ({ m with d:=d' } : ImgM).face k = m.face k:=
 Ct hm fun _=>AM (q:=[]) hf (by rw [hp,List.append_nil]) (fun x hx=>by cases hx)
theorem Lf {m : ImgM} (hm : m.Ok) {c : Nat} (h : (ent m.t c).1 = 2) (hc : c < m.t.length) {j : Nat} (hj : j < 4) : 1 + (lt m.t.length : Int) <= m.base + 4 * (ent m.t c).2 + (j : Int) /\ m.base + 4 * (ent m.t c).2 + (j : Int) < m.d.fl.length:=by
 obtain ⟨r0,r1⟩:=zE hm hc h
 have h1:=AU hm r0 r1
 have h2:=Aw hm r0
 rw [zD] at h1 h2
 omega
theorem CY {m : ImgM} (hm : m.Ok) (k : Nat) : m.flush.face k = m.face k:=by
 refine Ct hm fun e=>?_
 rcases Be hm (k / 4) with e' | e' | ⟨-,hc⟩
 ·omega
 ·omega
 ·obtain ⟨a1,a2⟩:=Lf hm e hc (j:=k % 4) (by omega)
  generalize m.base + 4 * (ent m.t (k / 4)).2 + ((k % 4 : Nat) : Int) = a at *
  obtain ⟨n,rfl⟩:=ze (show 0 <= a by omega)
  exact C8 hm.d (by omega)
theorem Mr {m : ImgM} (hm : m.Ok) {n : Int} (k : Nat) : ({ m with d:={ m.d with fail:=n } } : ImgM).face k = m.face k:=F6 hm rfl rfl k
theorem B7 {d : DevM} {a : Int} {s : ByteArray} (h : (d.write a s).1≠0) : (d.write a s).2.pend = d.pend /\ (d.write a s).2.fl = d.fl:=by
 rcases DevM.write_cases d a s with h' | h'
 ·exact absurd h'.1 h
 ·exact h'.2
theorem GR {d : DevM} {a : Int} {s : ByteArray} (h : (d.write a s).1 = 0) : (d.write a s).2.pend = d.pend++[(a,s)] /\ (d.write a s).2.fl = d.fl:=by
 rcases DevM.write_cases d a s with h' | h'
 ·exact h'.2
 ·exact absurd h h'.1
theorem Mc {m : ImgM} (hm : m.Ok) {c : Nat} (hc : c < m.t.length) {e : Ent} (he : lK e m.p = true) (k : Nat) :
  ((m.setE c e).1≠0 -> (m.setE c e).2.face k = m.face k) /\
  ((m.setE c e).1 = 0 -> (m.setE c e).2.face k = if k / 4 = c then (if e.1 = 0 then none else some (cont m.d m.base e (k % 4))) else m.face k):=by
 have hb:=CC hm
 have hr:=yi hc
 have hrg:=zm he
 rw [Dr hm hc he]
 split
 ·rename_i h
  obtain ⟨h1,h2⟩:=B7 h
  exact ⟨fun _=>F6 hm h2 h1 k,fun h'=>absurd h' h⟩
 ·rename_i h
  obtain ⟨h1,h2⟩:=GR (Decidable.not_not.1 h)
  generalize (m.d.write (1 + ((c / 8 : Nat) : Int)) (lN (m.t.set c e) (c / 8))).2 = d' at *
  have hsee : ∀a : Int,m.base <= a -> d'.seen a = m.d.seen a:=fun a ha=>AM h2 h1 fun x hx=>by rw [List.mem_singleton.1 hx]; dsimp only; omega
  refine ⟨fun h'=>absurd rfl h',fun _=>?_⟩
  by_cases hk : k / 4 = c
  ·rw [zt hk]
   unfold ImgM.face
   dsimp only
   rw [Bb hc,zt hk]
   congr 2
   change (if e.1 = 0 then dash else if e.1 = 1 then zs 16 else d'.seen (m.base + 4 * e.2 + ((k % 4 : Nat) : Int))) = _
   rw [hsee (m.base + 4 * e.2 + ((k % 4 : Nat) : Int)) (by omega)]
   rfl
  ·rw [zq hk]
   have e1 : ({ m with d:=d',t:=m.t.set c e,held:=if (ent m.t c).1 = 2 then m.held++[(ent m.t c).2] else m.held } : ImgM).face k = ({ m with d:=d' } : ImgM).face k:=by
    unfold ImgM.face
    dsimp only
    rw [Bb hc,zq hk]
    rfl
   rw [e1]
   refine Ct hm fun e2=>hsee _ ?_
   rcases Be hm (k / 4) with e' | e' | ⟨-,hc'⟩
   ·omega
   ·omega
   ·have:=(Lf hm e2 hc' (j:=k % 4) (by omega)).1
    omega
theorem Kh {m : ImgM} (hm : m.Ok) (c : Int) (k : Nat) : ((m.clear c).1≠0 -> (m.clear c).2.face k = m.face k) /\ ((m.clear c).1 = 0 -> (m.clear c).2.face k = if ((k / 4 : Nat) : Int) = c then some (zs 16) else m.face k):=by
 unfold ImgM.clear
 split
 ·rename_i ht
  obtain ⟨c0,-,hcl⟩:=oW hm ht
  obtain ⟨n,rfl⟩:=ze c0
  rw [zn] at hcl ⊢
  split
  ·rename_i h1
   refine ⟨fun _=>rfl,fun _=>?_⟩
   split
   ·rename_i hk
    have hk : k / 4 = n:=by omega
    refine Bf ?_
    rw [hk]
    exact h1
   ·rfl
  ·have h:=Mc hm hcl (e:=(1,0)) rfl k
   refine ⟨h.1,fun h0=>(h.2 h0).trans ?_⟩
   by_cases hk : k / 4 = n
   ·rw [zt hk,zq (by decide),zt (show ((k / 4 : Nat) : Int) = (n : Int) by omega)]
    rfl
   ·rw [zq hk,zq (by omega)]
 ·exact ⟨fun _=>rfl,fun h=>by cases h⟩
theorem G7 {l : List ByteArray} {d : DevM} {a : Int} (x : Int) : (∀i : Nat,i < l.length -> x≠a + (i : Int)) -> (d.puts a l).2.seen x = d.seen x:=fun h=>by
 obtain ⟨h1,q,h2,h3,-⟩:=DevM.puts_cases l d a
 exact AM h1 h2 fun y hy e=>by
  have:=h3 y hy
  exact h (y.1 - a).toNat (by omega) (by omega)
theorem Oe {l : List ByteArray} {d : DevM} {a : Int} {i : Nat} (hi : i < l.length) : (d.puts a l).2.seen (a + (i : Int)) = d.seen (a + (i : Int)) \/ (d.puts a l).2.seen (a + (i : Int)) = l.getD i ByteArray.empty:=by
 obtain ⟨h1,q,h2,-,j,j1,j2,-⟩:=DevM.puts_cases l d a
 by_cases hj : i < j
 ·right
  rw [Dl h1 h2,j2]
  exact FT (f:=fun i=>l.getD i ByteArray.empty) hj
 ·left
  refine AM h1 h2 fun x hx=>?_
  rw [j2] at hx
  obtain ⟨r,hr,rfl⟩:=List.mem_map.1 hx
  have:=List.mem_range.1 hr
  dsimp only
  omega
theorem IJ {m : ImgM} (hm : m.Ok) (c fr : Int) (s : ByteArray) (k : Nat) :
  ((m.wr c fr s).2.face k = m.face k \/ (m.face k≠none /\ ∃i : Nat,i < s.size / 16 /\ (k : Int) = 4 * c + fr + i /\ (m.wr c fr s).2.face k = some (lw s i))) /\
  ((m.wr c fr s).1 = 0 -> ∀i : Nat,i < s.size / 16 -> (k : Int) = 4 * c + fr + i -> (m.wr c fr s).2.face k = some (lw s i)):=by
 unfold ImgM.wr
 split
 ·exact ⟨.inl rfl,fun h=>by cases h⟩
 ·rename_i hb
  split
  ·exact ⟨.inl rfl,fun h=>by cases h⟩
  ·rename_i hk2
   have hk2:=Decidable.not_not.1 hk2
   unfold ImgM.wrBad at hb
   have ht : m.there c = true:=by
    cases h : m.there c
    ·exact absurd (.inl h) hb
    ·rfl
   have b1 : 0 <= fr:=Int.not_lt.1 fun h=>hb (.inr (.inl h))
   have b3 : (s.size : Int) <= 16 * (4 - fr):=Int.not_lt.1 fun h=>hb (.inr (.inr (.inr (.inr h))))
   obtain ⟨c0,-,hcl⟩:=oW hm ht
   obtain ⟨n,rfl⟩:=ze c0
   rw [zn] at hcl ⊢
   have hk2 : (ent m.t n).1 = 2:=hk2
   rw [zD]
   have hl:=yq s (s.size / 16)
   have hother : ∀x : Int,(∀i : Nat,i < s.size / 16 -> x≠m.base + 4 * (ent m.t n).2 + fr + (i : Int)) -> (m.d.puts (m.base + 4 * (ent m.t n).2 + fr) (lB s (s.size / 16))).2.seen x = m.d.seen x:=fun x hx=>
    G7 x fun i hi=>hx i (by rwa [hl] at hi)
   have hor : ∀i : Nat,i < s.size / 16 -> (m.d.puts (m.base + 4 * (ent m.t n).2 + fr) (lB s (s.size / 16))).2.seen (m.base + 4 * (ent m.t n).2 + fr + (i : Int)) = m.d.seen (m.base + 4 * (ent m.t n).2 + fr + (i : Int)) \/
     (m.d.puts (m.base + 4 * (ent m.t n).2 + fr) (lB s (s.size / 16))).2.seen (m.base + 4 * (ent m.t n).2 + fr + (i : Int)) = lw s i:=fun i hi=>by
    have:=Oe (d:=m.d) (a:=m.base + 4 * (ent m.t n).2 + fr) (l:=lB s (s.size / 16)) (i:=i) (by rw [hl]; exact hi)
    rwa [E8 hi] at this
   have hall : (m.d.puts (m.base + 4 * (ent m.t n).2 + fr) (lB s (s.size / 16))).1 = 0 -> ∀i : Nat,i < s.size / 16 -> (m.d.puts (m.base + 4 * (ent m.t n).2 + fr) (lB s (s.size / 16))).2.seen (m.base + 4 * (ent m.t n).2 + fr + (i : Int)) = lw s i:=fun h i hi=>by
    have:=EJ h (r:=i) (by rw [hl]; exact hi)
    rwa [E8 hi] at this
   generalize m.d.puts (m.base + 4 * (ent m.t n).2 + fr) (lB s (s.size / 16)) = S at *
   obtain ⟨f,d'⟩:=S
   dsimp only at *
   refine ⟨?_,fun h0 i hi hki=>?_⟩
   ·by_cases hex : ∃i : Nat,i < s.size / 16 /\ (k : Int) = 4 * (n : Int) + fr + i
    ·obtain ⟨i,hi,hki⟩:=hex
     have hkn : k / 4 = n:=by omega
     have hkm : ((k % 4 : Nat) : Int) = fr + i:=by omega
     have e0 : (ent m.t (k / 4)).1 = 2:=by rw [hkn]; exact hk2
     rcases hor i hi with h | h
     ·left
      refine Ct hm fun _=>?_
      rw [hkn,hkm,show m.base + 4 * (ent m.t n).2 + (fr + (i : Int)) = m.base + 4 * (ent m.t n).2 + fr + (i : Int) by omega]
      exact h
     ·right
      refine ⟨fun hn=>by rw [Aa] at hn; omega,i,hi,hki,?_⟩
      rw [AQ (m:={ m with d:=d' }) e0]
      show some (d'.seen (m.base + 4 * (ent m.t (k / 4)).2 + ((k % 4 : Nat) : Int))) = _
      rw [hkn,hkm,show m.base + 4 * (ent m.t n).2 + (fr + (i : Int)) = m.base + 4 * (ent m.t n).2 + fr + (i : Int) by omega,h]
    ·left
     refine Ct hm fun e=>hother _ fun i hi ha=>hex ⟨i,hi,?_⟩
     have hkl : k / 4 < m.t.length:=by
      rcases Be hm (k / 4) with e' | e' | ⟨-,hc⟩
      ·omega
      ·omega
      ·exact hc
     have hpl : (ent m.t (k / 4)).2 = (ent m.t n).2 /\ ((k % 4 : Nat) : Int) = fr + i:=by omega
     have:=hm.one (k / 4) n hkl hcl e (Prod.ext (by rw [e,hk2]) hpl.1)
     omega
   ·have hkn : k / 4 = n:=by omega
    have hkm : ((k % 4 : Nat) : Int) = fr + i:=by omega
    have e0 : (ent m.t (k / 4)).1 = 2:=by rw [hkn]; exact hk2
    rw [AQ (m:={ m with d:=d' }) e0]
    show some (d'.seen (m.base + 4 * (ent m.t (k / 4)).2 + ((k % 4 : Nat) : Int))) = _
    rw [hkn,hkm,show m.base + 4 * (ent m.t n).2 + (fr + (i : Int)) = m.base + 4 * (ent m.t n).2 + fr + (i : Int) by omega,hall h0 i hi]
theorem Ma {m : ImgM} (hm : m.Ok) (hw : m.d.writes < 999000) (hp : m.d.pend.length < 999000) (c : Int) (s : ByteArray) (k : Nat) :
  ((m.fill c s).1≠0 -> (m.fill c s).2.face k = m.face k) /\ ((m.fill c s).1 = 0 -> (m.fill c s).2.face k = if ((k / 4 : Nat) : Int) = c then some (lw s (k % 4)) else m.face k):=by
 unfold ImgM.fill
 split
 ·exact ⟨fun _=>rfl,fun h=>by cases h⟩
 ·rename_i hb
  split
  ·exact ⟨fun _=>rfl,fun h=>by cases h⟩
  ·rename_i hkd
   split
   ·exact ⟨fun _=>rfl,fun h=>by cases h⟩
   ·rename_i hfr
    have ht : m.there c = true:=by
     cases h : m.there c
     ·exact absurd (.inl h) hb
     ·rfl
    have hsz : s.size = 64:=Decidable.byContradiction fun h=>hb (.inr h)
    obtain ⟨c0,-,hcl⟩:=oW hm ht
    obtain ⟨n,rfl⟩:=ze c0
    rw [zn] at hcl ⊢
    have hkd : (ent m.t n).1≠2:=hkd
    obtain ⟨C,hC,q1,q2,q3,q4,q5,q6,-⟩:=hm.nat
    obtain ⟨P,hP⟩:=ze q5
    rcases Bx m hP with hq | ⟨q,hq,hqP,ho,-⟩
    ·exact absurd (by rw [hq]; decide) hfr
    ·obtain ⟨n1,-⟩:=FQ ho
     rw [hq]
     have hfi:=AU hm (y:=(q : Int)) (by omega) (by omega)
     have hfg:=Aw hm (y:=(q : Int)) (by omega)
     have hbase:=CC hm
     have s1:=CJ (n:=4) hm hw hp hfg (l:=lB s 4) (by rw [yq]; omega) (by omega)
     have s2:=zv s1.ok
     have hl1:=s1.len
     dsimp only at hl1
     have he : lK (2,(q : Int)) m.p = true:=by unfold lK; rw [zt rfl]; simp; omega
     have hface : ∀k,({ m with d:=(m.d.puts (m.first (q : Int)) (lB s 4)).2 } : ImgM).face k = m.face k:=fun k=>by
      refine Ct hm fun e=>G7 _ fun i hi ha=>?_
      rw [yq] at hi
      rw [zD] at ha
      rcases Be hm (k / 4) with e' | e' | ⟨-,hc⟩
      ·omega
      ·omega
      ·have h1 : (ent m.t (k / 4)).2 = (q : Int):=by omega
       exact n1 (by rw [<- show ent m.t (k / 4) = (2,(q : Int)) from Prod.ext e h1]; exact yV hc)
     have hface2 : ∀k,({ m with d:=(m.d.puts (m.first (q : Int)) (lB s 4)).2 } : ImgM).flush.face k = m.face k:=fun k=>(CY s1.ok k).trans (hface k)
     unfold ImgM.fillAt
     split
     ·rename_i h1
      exact ⟨fun _=>hface k,fun h=>absurd h h1⟩
     ·rename_i h1
      have h1:=Decidable.not_not.1 h1
      have hse:=Mc (m:=({ m with d:=(m.d.puts (m.first (q : Int)) (lB s 4)).2 } : ImgM).flush) s2.ok (c:=n) hcl (e:=(2,(q : Int))) he k
      refine ⟨fun h=>(hse.1 h).trans (hface2 k),fun h=>(hse.2 h).trans ?_⟩
      by_cases hk : k / 4 = n
      ·rw [zt hk,zq (by simp),zt (show ((k / 4 : Nat) : Int) = (n : Int) by omega)]
       congr 1
       have hns:=s1.ok.d
       have hseen:=EJ (d:=m.d) (a:=m.first (q : Int)) (l:=lB s 4) h1 (r:=k % 4) (by rw [yq]; omega)
       rw [E8 (by omega)] at hseen
       show (m.d.puts (m.first (q : Int)) (lB s 4)).2.flush.seen (m.base + 4 * (q : Int) + ((k % 4 : Nat) : Int)) = _
       rw [zD] at hseen hfi hfg hl1 hns ⊢
       have h0 : 0 <= m.base + 4 * (q : Int) + ((k % 4 : Nat) : Int):=by omega
       generalize hA : m.base + 4 * (q : Int) + ((k % 4 : Nat) : Int) = A at *
       obtain ⟨a,rfl⟩:=ze h0
       rw [C8 hns (by dsimp only; omega)]
       exact hseen
      ·rw [zq hk,zq (by omega)]
       exact hface2 k
theorem TN {m : ImgM} (hm : m.Ok) (x : Int) (hw : m.d.writes < 999000) (k : Nat) : (m.link x).2.face k = m.face k:=by
 have hff:=CY hm k
 have s0:=zv hm
 unfold ImgM.link
 split
 ·rfl
 ·split
  ·rename_i h
   obtain ⟨h1,h2⟩:=B7 h
   exact (F6 s0.ok h2 h1 k).trans hff
  ·rename_i h
   obtain ⟨h1,h2⟩:=GR (Decidable.not_not.1 h)
   have okw:=DevM.write_ok (DevM.flush_ok hm.d) 0 (lQ m.c m.p x) (by simp [DevM.flush]) (by show m.d.flush.writes < _; have : m.d.flush.writes = m.d.writes:=rfl; omega)
   have e : ({ m.flush with d:=(m.d.flush.write 0 (lQ m.c m.p x)).2.flush,b:=x } : ImgM).face k = ({ m.flush with d:=(m.d.flush.write 0 (lQ m.c m.p x)).2.flush } : ImgM).face k:=rfl
   refine e.trans ((Ct s0.ok fun e2=>?_).trans hff)
   rcases Be s0.ok (k / 4) with e' | e' | ⟨-,hc⟩
   ·omega
   ·omega
   ·obtain ⟨a1,a2⟩:=Lf s0.ok e2 hc (j:=k % 4) (by omega)
    have hl : (m.d.flush.write 0 (lQ m.c m.p x)).2.fl.length = m.flush.d.fl.length:=by rw [h2]; rfl
    generalize m.flush.base + 4 * (ent m.flush.t (k / 4)).2 + ((k % 4 : Nat) : Int) = a at *
    obtain ⟨n,rfl⟩:=ze (show 0 <= a by omega)
    rw [C8 okw (by rw [hl]; omega)]
    exact AM h2 h1 fun y hy=>by rw [List.mem_singleton.1 hy]; dsimp only; omega
theorem Fx {d : DevM} {c p b : Int} (k : Nat) : (oC d c p b).face k = none:=Aa.2 (by
 show (ent (lG c) (k / 4)).1 = 0
 unfold ent lG
 by_cases h : k / 4 < c.toNat
 ·simp [List.getD_eq_getElem?_getD,h]
 ·simp [List.getD_eq_getElem?_getD,h])
theorem Mz {m : ImgM} (hm : m.Ok) {c : Nat} (hc : c < m.t.length) {j : Nat} (hj : j < 4) : (m.face (4 * c + j) = none /\ (m.read (c : Int)).2≠0) \/ ((m.read (c : Int)).2 = 0 /\ m.face (4 * c + j) = some ((m.read (c : Int)).1.extract (16 * j) (16 * j + 16))):=by
 have h:=KZ hm (k:=4 * c + j) (by omega)
 have e1 : (4 * c + j) / 4 = c:=by omega
 have e2 : (4 * c + j) % 4 = j:=by omega
 have hth : m.there (c : Int) = true:=by have:=hm.t; unfold ImgM.there; simp; omega
 have hkd : m.kind (c : Int) = (ent m.t c).1:=rfl
 rw [e1,e2] at h
 rcases h with ⟨h1,h2⟩ | ⟨h1,h2,h3⟩
 ·left
  refine ⟨Aa.2 ?_,h1⟩
  rw [e1]
  refine Decidable.byContradiction fun hn=>h1 ?_
  unfold ImgM.read
  rw [zt hth,zq (by rw [hkd]; exact hn)]
  split <;> rfl
 ·right
  refine ⟨h1,?_⟩
  rw [h3]
  have hn : (ent m.t c).1≠0:=fun hn=>by
   unfold ImgM.read at h1
   rw [zt hth,zt (by rw [hkd]; exact hn)] at h1
   cases h1
  unfold ImgM.face ImgM.shown
  rw [e1,e2,zq hn]
end Go.Proofs.YtbpblokfiajpjabGreatDoor
namespace Go.Ones
theorem Dd (j a c x y : Nat) (ha : a < 2 ^ j) (hc : c < 2 ^ j) : (a + 2 ^ j * x) &&& (c + 2 ^ j * y) = (a &&& c) + 2 ^ j * (x &&& y):=by
 have h1 : (a + 2 ^ j * x) % 2 ^ j = a:=by rw [Nat.add_mul_mod_self_left,Nat.mod_eq_of_lt ha]
 have h2 : (c + 2 ^ j * y) % 2 ^ j = c:=by rw [Nat.add_mul_mod_self_left,Nat.mod_eq_of_lt hc]
 have hp : 0 < 2 ^ j:=Nat.two_pow_pos j
 have h3 : (a + 2 ^ j * x) / 2 ^ j = x:=by rw [Nat.add_mul_div_left _ _ hp,Nat.div_eq_of_lt ha,Nat.zero_add]
 have h4 : (c + 2 ^ j * y) / 2 ^ j = y:=by rw [Nat.add_mul_div_left _ _ hp,Nat.div_eq_of_lt hc,Nat.zero_add]
 rw [<- Nat.mod_add_div ((a + 2 ^ j * x) &&& (c + 2 ^ j * y)) (2 ^ j),Nat.and_mod_two_pow,Nat.and_div_two_pow,h1,h2,h3,h4]
def lM (b : Nat) : List Nat -> Nat
 | []=>0
 | d::l=>d + b * lM b l
def mask (b c : Nat) : Nat -> Nat
 | 0=>0
 | k + 1=>c + b * mask b c k
theorem and1 (n : Nat) : n &&& 1 = n % 2:=Nat.and_two_pow_sub_one_eq_mod n 1
theorem and3 (n : Nat) : n &&& 3 = n % 4:=Nat.and_two_pow_sub_one_eq_mod n 2
theorem X7 (n : Nat) : n &&& 15 = n % 16:=Nat.and_two_pow_sub_one_eq_mod n 4
theorem st1 : ∀ds : List Nat,(∀d∈ds,d < 4) -> (lM 4 ds / 2 &&& mask 4 1 ds.length) + (lM 4 ds &&& mask 4 1 ds.length) = lM 4 (ds.map fun d=>d / 2 + d % 2)
 | [],_=>by simp [lM,mask]
 | d::l,h=>by
  have ih:=st1 l fun x hx=>h x (by simp [hx])
  have hd:=h d (by simp)
  simp only [lM,mask,List.length_cons,List.map_cons]
  rw [<- ih]
  have e1 : (d + 4 * lM 4 l) / 2 = (d / 2 + 2 * (lM 4 l % 2)) + 2 ^ 2 * (lM 4 l / 2):=by omega
  have e2 : 1 + 4 * mask 4 1 l.length = 1 + 2 ^ 2 * mask 4 1 l.length:=by omega
  have e3 : d + 4 * lM 4 l = d + 2 ^ 2 * lM 4 l:=by omega
  rw [e1,e3,e2,Dd 2 _ _ _ _ (by omega) (by omega),Dd 2 _ _ _ _ (by omega) (by omega),and1,and1]
  omega
theorem st2 : ∀ds : List Nat,(∀d∈ds,d < 16) -> (lM 16 ds / 4 &&& mask 16 3 ds.length) + (lM 16 ds &&& mask 16 3 ds.length) = lM 16 (ds.map fun d=>d / 4 + d % 4)
 | [],_=>by simp [lM,mask]
 | d::l,h=>by
  have ih:=st2 l fun x hx=>h x (by simp [hx])
  have hd:=h d (by simp)
  simp only [lM,mask,List.length_cons,List.map_cons]
  rw [<- ih]
  have e1 : (d + 16 * lM 16 l) / 4 = (d / 4 + 4 * (lM 16 l % 4)) + 2 ^ 4 * (lM 16 l / 4):=by omega
  have e2 : 3 + 16 * mask 16 3 l.length = 3 + 2 ^ 4 * mask 16 3 l.length:=by omega
  have e3 : d + 16 * lM 16 l = d + 2 ^ 4 * lM 16 l:=by omega
  rw [e1,e3,e2,Dd 4 _ _ _ _ (by omega) (by omega),Dd 4 _ _ _ _ (by omega) (by omega),and3,and3]
  omega
theorem Ys : ∀ds : List Nat,(∀d∈ds,d % 16 <= 4) -> lM 256 ds % 16 <= 4
 | [],_=>by simp [lM]
 | d::l,h=>by
  have hd:=h d (by simp)
  simp only [lM]
  omega
theorem st3 : ∀ds : List Nat,(∀d∈ds,d % 16 <= 4 /\ d / 16 <= 4) -> (lM 256 ds / 16 + lM 256 ds) &&& mask 256 15 ds.length = lM 256 (ds.map fun d=>d / 16 + d % 16)
 | [],_=>by simp [lM,mask]
 | d::l,h=>by
  have ih:=st3 l fun x hx=>h x (by simp [hx])
  have hd:=h d (by simp)
  have hl:=Ys l fun x hx=>(h x (by simp [hx])).1
  simp only [lM,mask,List.length_cons,List.map_cons]
  rw [<- ih]
  have e1 : (d + 256 * lM 256 l) / 16 + (d + 256 * lM 256 l) = (d / 16 + d % 16 + 16 * (d / 16 + lM 256 l % 16)) + 2 ^ 8 * (lM 256 l / 16 + lM 256 l):=by omega
  have e2 : 15 + 256 * mask 256 15 l.length = 15 + 2 ^ 8 * mask 256 15 l.length:=by omega
  rw [e1,e2,Dd 8 _ _ _ _ (by omega) (by omega),X7]
  omega
def B3 (b : Nat) : List Nat -> List Nat
 | x::y::l=>(x + b * y)::B3 b l
 | l=>l
theorem Ex (b : Nat) : ∀l : List Nat,lM (b * b) (B3 b l) = lM b l
 | []=>rfl
 | [x]=>by simp [B3,lM]
 | x::y::l=>by
  simp only [B3,lM,Ex b l]
  rw [Nat.mul_add,Nat.mul_assoc]
  omega
def sum2 : List Nat -> List Nat
 | x::y::l=>(x + y)::sum2 l
 | l=>l
def digs : Nat -> Nat -> List Nat
 | 0,_=>[]
 | k + 1,x=>x % 4::digs k (x / 4)
theorem I1 : ∀(k x : Nat),x < 4 ^ k -> lM 4 (digs k x) = x
 | 0,x,h=>by simp at h; subst h; rfl
 | k + 1,x,h=>by
  simp only [digs,lM]
  rw [I1 k (x / 4) (by rw [Nat.pow_succ] at h; omega)]
  omega
theorem Qg : ∀(k x : Nat),∀d∈digs k x,d < 4
 | 0,x,d,h=>by cases h
 | k + 1,x,d,h=>by
  simp only [digs,List.mem_cons] at h
  rcases h with rfl | h
  ·omega
  ·exact Qg k _ d h
def popc : Nat -> Nat -> Nat
 | 0,_=>0
 | k + 1,x=>x % 2 + popc k (x / 2)
theorem L9 : ∀(k x : Nat),((digs k x).map fun d=>d / 2 + d % 2).sum = popc (2 * k) x
 | 0,_=>rfl
 | k + 1,x=>by
  rw [show 2 * (k + 1) = 2 * k + 1 + 1 by omega]
  simp only [digs,popc,List.map_cons,List.sum_cons]
  rw [L9 k (x / 4),show x / 4 = x / 2 / 2 by omega]
  omega
theorem WF {l : List Nat} (h : l.length = 8) : ∃a b c d e f g i,l = [a,b,c,d,e,f,g,i]:=by
 match l,h with
 | [a,b,c,d,e,f,g,i],_=>exact ⟨_,_,_,_,_,_,_,_,rfl⟩
theorem QU (b n m : Nat) (hb : n < b) : ∀(k : Nat) (l : List Nat),l.length = 2 * k -> (∀d∈l,d <= n) -> ((B3 b l).map fun e=>e / b + e % b) = sum2 l /\ (sum2 l).length = k /\ (∀d∈sum2 l,d <= 2 * n) /\ (sum2 l).sum = l.sum /\ (B3 b l).length = k /\ (∀e∈B3 b l,e % b <= n /\ e / b <= n)
 | 0,[],_,_=>⟨rfl,rfl,by simp [sum2],rfl,rfl,by simp [B3]⟩
 | k + 1,x::y::l,hl,h=>by
  obtain ⟨h1,h2,h3,h4,h5,h6⟩:=QU b n m hb k l (by simp at hl; omega) fun d hd=>h d (by simp [hd])
  have hx:=h x (by simp)
  have hy:=h y (by simp)
  have e1 : (x + b * y) / b = y:=by rw [Nat.add_mul_div_left _ _ (by omega),Nat.div_eq_of_lt (by omega),Nat.zero_add]
  have e2 : (x + b * y) % b = x:=by rw [Nat.add_mul_mod_self_left,Nat.mod_eq_of_lt (by omega)]
  refine ⟨?_,by simp [sum2,h2],?_,by simp [sum2,h4]; omega,by simp [B3,h5],?_⟩
  ·simp only [B3,sum2,List.map_cons,h1,e1,e2,List.cons.injEq,and_true]
   omega
  ·intro d hd
   simp only [sum2,List.mem_cons] at hd
   rcases hd with rfl | hd
   ·omega
   ·exact h3 d hd
  ·intro e he
   simp only [B3,List.mem_cons] at he
   rcases he with rfl | he
   ·rw [e1,e2]; exact ⟨hx,hy⟩
   ·exact h6 e he
theorem OW : ∀(k x : Nat),(digs k x).length = k
 | 0,_=>rfl
 | k + 1,x=>by simp [digs,OW k]
def s1 (x : Nat) : Nat:=(x / 2 &&& 6148914691236517205) + (x &&& 6148914691236517205)
def s2 (x : Nat) : Nat:=(x / 4 &&& 3689348814741910323) + (x &&& 3689348814741910323)
def s3 (x : Nat) : Nat:=(x / 16 + x) &&& 1085102592571150095
theorem PW {x : Nat} (hx : x < 2 ^ 64) : ∃a b c d e f g i : Nat,a <= 8 /\ b <= 8 /\ c <= 8 /\ d <= 8 /\ e <= 8 /\ f <= 8 /\ g <= 8 /\ i <= 8 /\
  s3 (s2 (s1 x)) = lM 256 [a,b,c,d,e,f,g,i] /\ a + b + c + d + e + f + g + i = popc 64 x /\ s1 x < 2 ^ 64 /\ s2 (s1 x) < 2 ^ 64 /\ s2 (s1 x) / 16 + s2 (s1 x) < 2 ^ 64:=by
 have d0:=I1 32 x (by simpa using hx)
 have hl:=OW 32 x
 have h4:=Qg 32 x
 have t1:=st1 (digs 32 x) h4
 rw [d0,hl,show mask 4 1 32 = 6148914691236517205 from rfl] at t1
 have e1 : s1 x = lM 4 ((digs 32 x).map fun d=>d / 2 + d % 2):=t1
 have hp:=L9 32 x
 have hl1 : ((digs 32 x).map fun d=>d / 2 + d % 2).length = 2 * 16:=by rw [List.length_map,hl]
 have hb1 : ∀d∈(digs 32 x).map (fun d=>d / 2 + d % 2),d <= 2:=fun d hd=>by
  obtain ⟨y,hy,rfl⟩:=List.mem_map.1 hd
  have:=h4 y hy
  omega
 generalize (digs 32 x).map (fun d=>d / 2 + d % 2) = l1 at *
 obtain ⟨p1,p2,p3,p4,p5,p6⟩:=QU 4 2 0 (by omega) 16 l1 hl1 hb1
 rw [<- Ex 4 l1] at e1
 have t2:=st2 (B3 4 l1) fun d hd=>by have:=p6 d hd; omega
 rw [p5,p1,<- e1,show mask 16 3 16 = 3689348814741910323 from rfl] at t2
 have e2 : s2 (s1 x) = lM 16 (sum2 l1):=t2
 obtain ⟨q1,q2,q3,q4,q5,q6⟩:=QU 16 4 0 (by omega) 8 (sum2 l1) p2 p3
 rw [<- Ex 16 (sum2 l1)] at e2
 have t3:=st3 (B3 16 (sum2 l1)) q6
 rw [q5,q1,<- e2,show mask 256 15 8 = 1085102592571150095 from rfl] at t3
 have e3 : s3 (s2 (s1 x)) = lM 256 (sum2 (sum2 l1)):=t3
 obtain ⟨a,b,c,d,e,f,g,i,hl8⟩:=WF q2
 obtain ⟨a',b',c',d',e',f',g',i',hl9⟩:=WF q5
 rw [hl8] at e3 q3 q4
 rw [hl9] at e2 q6
 have hs1 : s1 x < 2 ^ 64:=by
  have h1 : x / 2 &&& 6148914691236517205 <= 6148914691236517205:=Nat.and_le_right
  have h2 : x &&& 6148914691236517205 <= 6148914691236517205:=Nat.and_le_right
  unfold s1
  omega
 refine ⟨a,b,c,d,e,f,g,i,?_,?_,?_,?_,?_,?_,?_,?_,?_,?_,hs1,?_,?_⟩
 ·exact q3 a (by simp)
 ·exact q3 b (by simp)
 ·exact q3 c (by simp)
 ·exact q3 d (by simp)
 ·exact q3 e (by simp)
 ·exact q3 f (by simp)
 ·exact q3 g (by simp)
 ·exact q3 i (by simp)
 ·exact e3
 ·have : [a,b,c,d,e,f,g,i].sum = popc 64 x:=by rw [q4,p4,hp]
  simp only [List.sum_cons,List.sum_nil] at this
  omega
 ·have h1 : s1 x / 4 &&& 3689348814741910323 <= 3689348814741910323:=Nat.and_le_right
  have h2 : s1 x &&& 3689348814741910323 <= 3689348814741910323:=Nat.and_le_right
  unfold s2
  omega
 ·have h1 : s1 x / 4 &&& 3689348814741910323 <= 3689348814741910323:=Nat.and_le_right
  have h2 : s1 x &&& 3689348814741910323 <= 3689348814741910323:=Nat.and_le_right
  unfold s2
  omega
def addL : List Nat -> List Nat -> List Nat
 | x::l,y::m=>(x + y)::addL l m
 | [],m=>m
 | l,[]=>l
theorem D8 (b : Nat) : ∀l m : List Nat,lM b l + lM b m = lM b (addL l m)
 | x::l,y::m=>by
  simp only [lM,addL,<- D8 b l m,Nat.mul_add]
  omega
 | [],m=>by simp [lM,addL]
 | x::l,[]=>by simp [lM,addL]
theorem Bn {x : Nat} (l : List Nat) (h : x < 256) : lM 256 (x::l) / 256 = lM 256 l:=by
 simp only [lM]
 omega
theorem Io : ∀l : List Nat,(∀d∈l,d < 256) -> lM 256 l < 256 ^ l.length
 | [],_=>by simp [lM]
 | d::l,h=>by
  have ih:=Io l fun x hx=>h x (by simp [hx])
  have hd:=h d (by simp)
  simp only [lM,List.length_cons,Nat.pow_succ]
  omega
theorem LS : ∀l : List Nat,(∀d∈l,d <= 64) -> lM 256 l <= 64 * mask 256 1 l.length
 | [],_=>by simp [lM,mask]
 | d::l,h=>by
  have ih:=LS l fun x hx=>h x (by simp [hx])
  have hd:=h d (by simp)
  simp only [lM,List.length_cons,mask]
  omega
theorem Wr {a b c d e f g i : Nat} (ha : a <= 8) (hb : b <= 8) (hc : c <= 8) (hd : d <= 8) (he : e <= 8) (hf : f <= 8) (hg : g <= 8) (hi : i <= 8) {y y1 y2 y3 : Nat}
  (hy : y = lM 256 [a,b,c,d,e,f,g,i]) (h1 : y1 = y + y / 256) (h2 : y2 = y1 + y1 / 65536) (h3 : y3 = y2 + y2 / 4294967296) :
  y3 % 128 = a + b + c + d + e + f + g + i /\ y1 < 2 ^ 64 /\ y2 < 2 ^ 64 /\ y3 < 2 ^ 63:=by
 have k1 : y1 = lM 256 [a + b,b + c,c + d,d + e,e + f,f + g,g + i,i]:=by
  rw [h1,hy,Bn _ (by omega),D8]; rfl
 have k2 : y2 = lM 256 [a + b + (c + d),b + c + (d + e),c + d + (e + f),d + e + (f + g),e + f + (g + i),f + g + i,g + i,i]:=by
  rw [h2,k1,show (65536 : Nat) = 256 * 256 from rfl,<- Nat.div_div_eq_div_mul,Bn _ (by omega),Bn _ (by omega),D8]; rfl
 have k3 : y3 = lM 256 [a + b + (c + d) + (e + f + (g + i)),b + c + (d + e) + (f + g + i),c + d + (e + f) + (g + i),d + e + (f + g) + i,e + f + (g + i),f + g + i,g + i,i]:=by
  rw [h3,k2,show (4294967296 : Nat) = 256 * 256 * 256 * 256 from rfl,<- Nat.div_div_eq_div_mul,<- Nat.div_div_eq_div_mul,<- Nat.div_div_eq_div_mul,Bn _ (by omega),Bn _ (by omega),Bn _ (by omega),Bn _ (by omega),D8]; rfl
 have b1:=Io [a + b,b + c,c + d,d + e,e + f,f + g,g + i,i] (by intro x hx; simp only [List.mem_cons,List.not_mem_nil,or_false] at hx; omega)
 have b2:=Io [a + b + (c + d),b + c + (d + e),c + d + (e + f),d + e + (f + g),e + f + (g + i),f + g + i,g + i,i] (by intro x hx; simp only [List.mem_cons,List.not_mem_nil,or_false] at hx; omega)
 have b3:=LS [a + b + (c + d) + (e + f + (g + i)),b + c + (d + e) + (f + g + i),c + d + (e + f) + (g + i),d + e + (f + g) + i,e + f + (g + i),f + g + i,g + i,i] (by intro x hx; simp only [List.mem_cons,List.not_mem_nil,or_false] at hx; omega)
 rw [<- k1] at b1
 rw [<- k2] at b2
 rw [<- k3] at b3
 refine ⟨?_,by simpa using b1,by simpa using b2,Nat.lt_of_le_of_lt b3 (show 64 * mask 256 1 8 < 2 ^ 63 by decide)⟩
 have hz : ∀z : Nat,(a + b + (c + d) + (e + f + (g + i)) + 256 * z) % 128 = a + b + c + d + e + f + g + i:=fun z=>by omega
 rw [k3]
 exact hz _
theorem ones_all {x : Nat} (hx : x < 2 ^ 64) : ∃y1 y2 y3 : Nat,y1 = s3 (s2 (s1 x)) + s3 (s2 (s1 x)) / 256 /\ y2 = y1 + y1 / 65536 /\ y3 = y2 + y2 / 4294967296 /\ y3 % 128 = popc 64 x /\ y1 < 2 ^ 64 /\ y2 < 2 ^ 64 /\ y3 < 2 ^ 63 /\ s1 x < 2 ^ 64 /\ s2 (s1 x) < 2 ^ 64 /\ s2 (s1 x) / 16 + s2 (s1 x) < 2 ^ 64:=by
 obtain ⟨a,b,c,d,e,f,g,i,ha,hb,hc,hd,he,hf,hg,hi,h1,h2,h3,h4,h5⟩:=PW hx
 obtain ⟨k1,k2,k3,k4⟩:=Wr ha hb hc hd he hf hg hi h1 rfl rfl rfl
 exact ⟨_,_,_,rfl,rfl,rfl,by rw [k1,h2],k2,k3,k4,h3,h4,h5⟩
theorem popc_le : ∀(k x : Nat),popc k x <= k
 | 0,_=>by simp [popc]
 | k + 1,x=>by have:=popc_le k (x / 2); simp only [popc]; omega
theorem popc_end : ∀(k x : Nat),popc (k + 1) x = popc k x + x / 2 ^ k % 2
 | 0,x=>by simp [popc]
 | k + 1,x=>by
  rw [popc,popc_end k (x / 2),popc,Nat.pow_succ,Nat.mul_comm,<- Nat.div_div_eq_div_mul]
  omega
end Go.Ones
namespace Go.Proofs.YtbpblokfiajpjabGreatDoor
open Go.RowKit Go.SL Go.Crc
attribute [local go_sem ↓] Go.wp_at_zero Go.wp_at_succ
def Qd (L : DevM -> List HP) (d : DevM) (at_ : Int) (l : List ByteArray) (res : Int×DevM) (w0 : World) (i : Value) (wr : World) : Prop:=
 ∃(k : Nat) (dk : DevM),k <= l.length /\ i = .int .i64 k /\ dk.puts (at_ + k) (l.drop k) = res /\ dk.Ok /\ dk.pend.length <= d.pend.length + k /\ dk.writes <= d.writes + k /\ Ext w0 wr /\ own wr (L dk)
theorem On {w : World} {L : List HP} (C : Nat) (hC : C <= 1000) (H : own w L) :
  own (w.alloc (.cells (madeCells #[.int .i64 0,.int .i64 0] (C * 2)) 221)) (row 221 2 (.slice (some ⟨w.heap.size,0,none⟩) C C) C (lY (List.replicate C (0,0)))::L):=
 zr 0 (n:=C) (cap:=C) (sz:=2) (xs:=lY (List.replicate C (0,0))) (lh H (.cells (madeCells #[.int .i64 0,.int .i64 0] (C * 2)) 221)) rfl (Nat.le_refl _) (by simp only [maxLen]; omega) (size_madeCells _ _) (by
  rw [Gr]
  exact List.take_of_length_le (by rw [Ny]; simp))
theorem Vi {w : World} {L : List HP} (d : DevM) (bd C : Nat) (hC : C <= 1000) (p b : Int) (H : own w L) :
  own (((w.alloc (.cells (madeCells #[.int .i64 0,.int .i64 0] (C * 2)) 221)).alloc (.map #[] 0)).alloc (.cells #[.pointer (some ⟨bd,0,none⟩),.int .i64 (C : Int),.int .i64 p,.int .i64 b,.slice (some ⟨w.heap.size,0,none⟩) C C,.map (some (w.heap.size + 1))] 218)) (lL (w.heap.size + 1 + 1) bd (w.heap.size + 1) (oC d C p b)::L):=by
 have h1:=On C hC H
 have h2:=GL h1
 have h3:=lh h2 (.cells #[.pointer (some ⟨bd,0,none⟩),.int .i64 (C : Int),.int .i64 p,.int .i64 b,.slice (some ⟨w.heap.size,0,none⟩) C C,.map (some (w.heap.size + 1))] 218)
 have e1 : (w.alloc (.cells (madeCells #[.int .i64 0,.int .i64 0] (C * 2)) 221)).heap.size = w.heap.size + 1:=by simp
 have e2 : ((w.alloc (.cells (madeCells #[.int .i64 0,.int .i64 0] (C * 2)) 221)).alloc (.map #[] 0)).heap.size = w.heap.size + 1 + 1:=by simp
 rw [e1,e2] at h3
 have h4:=lC [_] (lE 2 h3 rfl)
 exact yc (m:=oC d C p b) (by
  show own _ (pts (w.heap.size + 1 + 1) _::row 221 2 _ (List.replicate C ((0,0) : Ent)).length _::Aj (w.heap.size + 1) []::L)
  rw [List.length_replicate]
  exact h4)
theorem TP {w : World} {L : List HP} (d : DevM) (bd C : Nat) (hC : C <= 1000) (p b : Int) (H : own w L) :
  own (((w.alloc (.map #[] 0)).alloc (.cells (madeCells #[.int .i64 0,.int .i64 0] (C * 2)) 221)).alloc (.cells #[.pointer (some ⟨bd,0,none⟩),.int .i64 (C : Int),.int .i64 p,.int .i64 b,.slice (some ⟨w.heap.size + 1,0,none⟩) C C,.map (some w.heap.size)] 218)) (lL (w.heap.size + 1 + 1) bd w.heap.size (oC d C p b)::L):=by
 have h1:=GL H
 have h2:=On C hC h1
 have h3:=lh h2 (.cells #[.pointer (some ⟨bd,0,none⟩),.int .i64 (C : Int),.int .i64 p,.int .i64 b,.slice (some ⟨w.heap.size + 1,0,none⟩) C C,.map (some w.heap.size)] 218)
 have e1 : (w.alloc (.map #[] 0)).heap.size = w.heap.size + 1:=by simp
 have e2 : ((w.alloc (.map #[] 0)).alloc (.cells (madeCells #[.int .i64 0,.int .i64 0] (C * 2)) 221)).heap.size = w.heap.size + 1 + 1:=by simp
 rw [e1,e2] at h3
 exact yc (m:=oC d C p b) (by
  show own _ (pts (w.heap.size + 1 + 1) _::row 221 2 _ (List.replicate C ((0,0) : Ent)).length _::Aj w.heap.size []::L)
  rw [List.length_replicate]
  exact h3)
theorem Mh {c : Int} {k : Nat} (h : k < lt (lG c).length) : (oI (lG c)).drop k = (oe (lG c) k).1::(oI (lG c)).drop (k + 1):=by
 rw [List.drop_eq_getElem_cons (by simp [oI]; exact h)]
 simp [oI]
theorem KF (C : Nat) : ∀e∈lG (C : Int),lK e 40 = true:=fun e he=>by
 unfold lG at he
 rw [(List.mem_replicate.1 he).2]; rfl
theorem Kl (bd : Nat) (d : DevM) (hd : d.Ok) (hp : d.pend.length < 999000) (hw : d.writes < 999000) (c p b : Int) (R : List SL.HP) (w : World) (H : own w (lj bd d::R)) :
  Calls Tryz.prog 62 #[.pointer (some ⟨bd,0,none⟩),ol c p b] w (OY bd (oE d c p b) R w):=by
 have hE : oE d c p b = if CU d c p b then (1,oC d c p b)
  else if (d.puts 1 (oI (lG c))).1≠0 then ((d.puts 1 (oI (lG c))).1,oC (d.puts 1 (oI (lG c))).2 c p b)
  else if ((d.puts 1 (oI (lG c))).2.flush.write 0 (lQ c p b)).1≠0 then (((d.puts 1 (oI (lG c))).2.flush.write 0 (lQ c p b)).1,oC ((d.puts 1 (oI (lG c))).2.flush.write 0 (lQ c p b)).2 c p b)
  else (0,oC ((d.puts 1 (oI (lG c))).2.flush.write 0 (lQ c p b)).2.flush c p b):=rfl
 generalize oE d c p b = S at *
 have HE:=zh hE
 clear hE
 have ha:=lh H (.cells #[.int .i64 c,.int .i64 p,.int .i64 b] 103)
 have hxa:=(zR w).alloc (.cells #[.int .i64 c,.int .i64 p,.int .i64 b] 103)
 have HFT:=zh (fun (R : List SL.HP) (w : World) (H : own w (lj bd d::R))=>OX bd d hd c p b R w H)
 unfold ol at HFT
 unfold ol
 go_enter Tryz.func62,Tryz.ntmps62
 go_upto_region 1 with (fail)
 obtain ⟨cc,ff⟩:=ld 0 ha rfl
 generalize w.heap.size = gh at *
 generalize w.alloc (.cells #[.int .i64 c,.int .i64 p,.int .i64 b] 103) = w1 at *
 go_wp2_with fail
 refine (HFT.out _ w1 (lE 1 ha rfl)).mono ?_
 rintro e w2 ⟨rfl,hx2,h2⟩
 replace hx2:=hxa.trans hx2
 clear cc ff ha hxa
 by_cases hb : CU d c p b
 ·have hS : S = (1,oC d c p b):=by rw [HE.out,zt hb]
  have HS:=zh hS
  rw [show fitF d c p b = 1 from zt hb,show errV 1 = .iface 128 (.int .i64 1) from rfl]
  clear hb hS
  go_wp2_with fail
  go_ret2
  rw [HS.out]
  exact .inl ⟨by simp,rfl,hx2,li 1 h2 rfl⟩
 ·rw [show fitF d c p b = 0 from zq hb,lS]
  have hhb : ¬lH c p b:=fun h=>hb (.inl h)
  have hh:=hhb
  unfold lH at hh
  obtain ⟨C,rfl⟩:=ze (show 0 <= c by omega)
  have c1 : 1 <= C:=by omega
  have c2 : C <= 32:=by omega
  have hE2:=HE.out
  rw [zq hb] at hE2
  have hzt : lG (C : Int) = List.replicate C (0,0):=rfl
  have hz : (madeCells #[.int .i64 0,.int .i64 0] (C * 2)).toList = lY (List.replicate C (0,0)):=Gr C
  have hlen : (List.replicate C ((0,0) : Ent)).length = C:=by simp
  have hmk : ∀wx : World,(Instr.makeSlice 150 (.int .i64 (C : Int)) (.int .i64 (C : Int))).run Tryz.prog wx = .ok (.slice (some ⟨wx.heap.size,0,none⟩) C C) (wx.alloc (.cells (madeCells #[.int .i64 0,.int .i64 0] (C * 2)) 221)):=fun wx=>by
   obtain ⟨i,hi,hzz,hs1,hs2⟩:=info_parts Gc
   have:=run_makeSlice (P:=Tryz.prog) wx 150 221 i _ Tryz.underlying150 hi hzz .i64 .i64 (C : Int) (C : Int) (by omega) (by omega) (by rw [hs1,zn]; omega) (by rw [hs2]; omega) (by omega)
   rw [hs1,zn] at this
   exact this
  have hmm:=run_makeMap (P:=Tryz.prog) 216
  have hd1:=ln h2
  have HB:=zh hhb
  have HE2:=zh hE2
  have HZ:=zh hz
  clear hb hhb hh hE2 hz hzt hlen
  obtain ⟨cc,ff⟩:=ld 1 h2 rfl
  go_upto_region 4 with (fail)
  go_region_held3 (fun w'=>w'.cell? ⟨gh,0,none⟩ = some (.int .i64 (C : Int)) /\ w'.cell? ⟨gh,1,none⟩ = some (.int .i64 p) /\ w'.cell? ⟨gh,2,none⟩ = some (.int .i64 b)) (first | exact ⟨(ld 1 hd1 rfl).1 0,(ld 1 hd1 rfl).1 1,(ld 1 hd1 rfl).1 2⟩ | exact ⟨(ld 2 (lh hd1 _) rfl).1 0,(ld 2 (lh hd1 _) rfl).1 1,(ld 2 (lh hd1 _) rfl).1 2⟩ | exact ⟨(ld 3 (lh (lh hd1 _) _) rfl).1 0,(ld 3 (lh (lh hd1 _) _) rfl).1 1,(ld 3 (lh (lh hd1 _) _) rfl).1 2⟩ | exact ⟨(ld 4 (lh (lh (lh hd1 _) _) _) rfl).1 0,(ld 4 (lh (lh (lh hd1 _) _) _) rfl).1 1,(ld 4 (lh (lh (lh hd1 _) _) _) rfl).1 2⟩) (fail)
  ·
   have h4:=ln (Vi d bd C (by omega) p b h2)
   have hx4:=(((hx2.alloc (.cells (madeCells #[.int .i64 0,.int .i64 0] (C * 2)) 221)).alloc (.map #[] 0)).alloc (.cells #[.pointer (some ⟨bd,0,none⟩),.int .i64 (C : Int),.int .i64 p,.int .i64 b,.slice (some ⟨w2.heap.size,0,none⟩) C C,.map (some (w2.heap.size + 1))] 218)).drew
   generalize (((w2.alloc (.cells (madeCells #[.int .i64 0,.int .i64 0] (C * 2)) 221)).alloc (.map #[] 0)).alloc (.cells #[.pointer (some ⟨bd,0,none⟩),.int .i64 (C : Int),.int .i64 p,.int .i64 b,.slice (some ⟨w2.heap.size,0,none⟩) C C,.map (some (w2.heap.size + 1))] 218)).drew = w4 at h4 hx4 ⊢
   generalize w2.heap.size + 1 + 1 = bi at *
   generalize w2.heap.size + 1 = bh at *
   obtain ⟨cc,ff⟩:=ld 2 h4 rfl
   have hlz : (lG (C : Int)).length = C:=by simp [lG]
   have hrz : lt (lG (C : Int)).length = lt C:=by rw [hlz]
   have hrn : lt C <= 4:=by unfold lt; omega
   have hll : (oI (lG (C : Int))).length = lt C:=by simp [oI,hlz]
   have HGET:=zh (fun (k : Nat) (h : k < lt C)=>Mh (c:=(C : Int)) (k:=k) (by rw [hlz]; exact h))
   have HEND:=zh (show (oI (lG (C : Int))).drop (lt C) = [] from List.drop_of_length_le (by omega))
   have HOK:=zh (fun (k : Nat) (h : k < lt C)=>EW (t:=lG (C : Int)) (r:=k) (by rw [hlz]; omega) (by rw [hlz]; exact h) (KF C))
   have HRW:=zh (Ay C (by omega))
   have hpo:=Em (l:=oI (lG (C : Int))) (d:=d) (a:=1) hd (by omega) (by omega)
   have hpn:=By (l:=oI (lG (C : Int))) (d:=d) (a:=1)
   rw [hll] at hpo
   have HIR:=zh (fun (dk : DevM) (okd : dk.Ok) (hw : dk.writes < 1000000) (hp : dk.pend.length < 1000000) (k : Nat) (hk : k < lt C) (R : List SL.HP) (w : World) (H : own w (lL bi bd bh (oC d C p b)::lj bd dk::R))=>
    Fy bi bd bh (oC dk C p b) okd (show (lG (C : Int)).length <= 1000 by rw [hlz]; omega) hw hp k (by omega) (HOK.out k hk) R w H)
   have HE3:=HE2.out
   generalize hrl : oI (lG (C : Int)) = RL at *
   generalize hres : d.puts 1 RL = res at *
   have HRES:=zh hres
   have HE4:=zh HE3
   generalize hN : lt C = N at *
   obtain ⟨o1,o2,o3,o4⟩:=hpo
   clear HE3 hlz hrz HE2 HE hd1 hmk hmm hres hrl HZ
   go_wp2_with fail
   refine (HRW.out w4).mono ?_
   rintro e w' ⟨rfl,rfl⟩
   go_wp2_with fail
   go_loopw [27] (Qd (fun dk=>lL bi bd bh (oC d C p b)::lj bd dk::pts gh (.cells #[.int .i64 C,.int .i64 p,.int .i64 b] 103 (0,0))::R) d 1 RL res w) (fun i _=>N - (intOf i).toNat)
   case atStart=>exact ⟨0,d,by omega,rfl,by simpa using HRES.out,hd,by omega,by simp,hx4,h4⟩
   case round=>
    clear cc ff
    obtain ⟨k,dk,hk,rfl,hput,okd,hpk,hwk,hxr,hown⟩:=hrel
    rw [hll] at hk
    by_cases hlt : k < N
    ·rw [HGET.out k hlt] at hput
     have HPUT:=zh hput
     clear hput
     have e1 : IntKind.i64.wrap ((k : Int) + 1) = (k : Int) + 1:=zi _ (by omega)
     have hkN : (k : Int) < (N : Int):=by omega
     have HW:=zh (HIR.out dk okd (by omega) (by omega) k hlt)
     have hcode:=o5 dk (1 + (k : Int)) (oe (lG (C : Int)) k).1
     obtain ⟨l1,l2,l3⟩:=yJ dk (1 + (k : Int)) (oe (lG (C : Int)) k).1
     have okw:=DevM.write_ok okd (1 + (k : Int)) (oe (lG (C : Int)) k).1 (by omega) (by omega)
     have hstep : dk.puts (1 + (k : Int)) ((oe (lG (C : Int)) k).1::RL.drop (k + 1)) = if (dk.write (1 + (k : Int)) (oe (lG (C : Int)) k).1).1≠0 then dk.write (1 + (k : Int)) (oe (lG (C : Int)) k).1 else (dk.write (1 + (k : Int)) (oe (lG (C : Int)) k).1).2.puts (1 + (k : Int) + 1) (RL.drop (k + 1)):=rfl
     rw [HPUT.out] at hstep
     have HSTP:=zh hstep
     clear hstep l1
     change Hid (∀(R : List SL.HP) (w : World),own w (lL bi bd bh (oC d C p b)::lj bd dk::R) -> Calls Tryz.prog 157 #[.pointer (some ⟨bi,0,none⟩),.int .i64 k] w fun e w'=>e = .returned (errV (dk.write (1 + (k : Int)) (oe (lG (C : Int)) k).1).1) /\ Ext w w' /\ own w' (lL bi bd bh (oC d C p b)::lj bd (dk.write (1 + (k : Int)) (oe (lG (C : Int)) k).1).2::R)) at HW
     generalize dk.write (1 + (k : Int)) (oe (lG (C : Int)) k).1 = r at *
     clear HIR HGET HOK
     go_wp2_with fail
     refine (HW.out _ wr hown).mono ?_
     rintro e w5 ⟨rfl,hx5',h5⟩
     have hx5:=hxr.trans hx5'
     clear hx5' hown hxr
     by_cases hz : r.1 = 0
     ·have HZ:=zh hz
      rw [hz,lS]
      clear hz
      go_wp2_with fail
      go_roundw
      case rel=>exact ⟨k + 1,r.2,by rw [hll]; omega,by go_num,by have:=HSTP.out; rw [zq (by simpa using HZ.out)] at this; rw [this]; congr 1 <;> omega,okw,by omega,by omega,hx5,h5⟩
      case measure=>simp [intOf]; omega
     ·have hfin : res = r:=by have:=HSTP.out; rw [zt hz] at this; exact this
      have hS2 : S = (r.1,oC r.2 C p b):=by rw [HE4.out,hfin,zt hz]
      have HF:=zh hS2
      have hpz : 0 < r.1:=by omega
      have HPE:=zh (lv hpz)
      rw [lv hpz]
      clear hz hfin hS2
      go_wp2_with fail
      go_ret2
      rw [HF.out]
      exact .inl ⟨by dsimp only; omega,by dsimp only; rw [HPE.out]; rfl,hx5,li 1 (li 0 h5 rfl) rfl⟩
    ·have hke : k = N:=by omega
     subst hke
     rw [HEND.out,DevM.puts] at hput
     have hr0 : res.1 = 0:=by rw [<- hput]
     have hr2 : res.2 = dk:=by rw [<- hput]
     have hS2:=HE4.out
     rw [zq (by simpa using hr0),hr2] at hS2
     have HF:=zh hS2
     clear hput hlt hS2 hr0 hr2
     have HFL:=zh (fun (R : List SL.HP) (w : World) (H : own w (lj bd dk::R))=>Cz bd dk okd R w H)
     have okf:=DevM.flush_ok okd
     have hpl : dk.flush.pend.length = 0:=rfl
     have hwl : dk.flush.writes = dk.writes:=rfl
     have hhs : (lQ C p b).size = 16:=BT (by simp)
     have HWR:=zh (fun (R : List SL.HP) (w : World) (H : own w (lj bd dk.flush::R))=>BP bd dk.flush okf 0 (lQ C p b) (by omega) (by omega) (by omega) R w H)
     have hcode:=o5 dk.flush 0 (lQ C p b)
     have okw:=DevM.write_ok okf 0 (lQ C p b) (by omega) (by omega)
     generalize dk.flush = df at *
     have HHD:=zh (fun (R : List SL.HP) (w : World) (H : own w R)=>Eu C p b R w H)
     rw [show AB C p b = 0 from zq HB.out,zt rfl,lS] at HHD
     unfold ol at HHD
     generalize lQ C p b = hs at *
     generalize df.write 0 hs = r at *
     clear HIR HGET HOK
     go_wp2_with fail
     refine (HFL.out _ wr (lE 1 hown rfl)).mono ?_
     rintro e w5 ⟨rfl,hx5,h5'⟩
     have h5:=oT hown 1 rfl h5'
     obtain ⟨cc,ff⟩:=ld 2 h5 rfl
     go_wp2_with fail
     refine (HHD.out _ w5 h5).mono ?_
     rintro e w6 ⟨rfl,hx6,h6⟩
     clear cc ff
     go_wp2_with fail
     refine (HWR.out _ w6 (lE 1 h6 rfl)).mono ?_
     rintro e w7 ⟨rfl,hx7,h7'⟩
     have h7:=oT h6 1 rfl h7'
     have hx7f:=((hxr.trans hx5).trans hx6).trans hx7
     by_cases hz : r.1 = 0
     ·have hS2:=HF.out
      rw [zq (by simpa using hz)] at hS2
      have HS2:=zh hS2
      have HFL2:=zh (fun (R : List SL.HP) (w : World) (H : own w (lj bd r.2::R))=>Cz bd r.2 okw R w H)
      rw [hz,lS]
      clear hz hS2
      go_wp2_with fail
      refine (HFL2.out _ w7 (lE 1 h7 rfl)).mono ?_
      rintro e w8 ⟨rfl,hx8,h8'⟩
      have h8:=oT h7 1 rfl h8'
      go_wp2_with fail
      go_ret2
      rw [HS2.out]
      exact .inr ⟨rfl,bi,bh,rfl,hx7f.trans hx8,li 2 h8 rfl⟩
     ·have hS2:=HF.out
      rw [zt hz] at hS2
      have HS2:=zh hS2
      have hpz : 0 < r.1:=by omega
      have HPE:=zh (lv hpz)
      rw [lv hpz]
      clear hz hS2
      go_wp2_with fail
      go_ret2
      rw [HS2.out]
      exact .inl ⟨by dsimp only; omega,by dsimp only; rw [HPE.out]; rfl,hx7f,li 1 (li 0 h7 rfl) rfl⟩
  ·
   have h4:=ln (TP d bd C (by omega) p b h2)
   have hx4:=(((hx2.alloc (.map #[] 0)).alloc (.cells (madeCells #[.int .i64 0,.int .i64 0] (C * 2)) 221)).alloc (.cells #[.pointer (some ⟨bd,0,none⟩),.int .i64 (C : Int),.int .i64 p,.int .i64 b,.slice (some ⟨w2.heap.size + 1,0,none⟩) C C,.map (some w2.heap.size)] 218)).drew
   generalize (((w2.alloc (.map #[] 0)).alloc (.cells (madeCells #[.int .i64 0,.int .i64 0] (C * 2)) 221)).alloc (.cells #[.pointer (some ⟨bd,0,none⟩),.int .i64 (C : Int),.int .i64 p,.int .i64 b,.slice (some ⟨w2.heap.size + 1,0,none⟩) C C,.map (some w2.heap.size)] 218)).drew = w4 at h4 hx4 ⊢
   generalize w2.heap.size + 1 + 1 = bi at *
   generalize w2.heap.size = bh at *
   obtain ⟨cc,ff⟩:=ld 2 h4 rfl
   have hlz : (lG (C : Int)).length = C:=by simp [lG]
   have hrz : lt (lG (C : Int)).length = lt C:=by rw [hlz]
   have hrn : lt C <= 4:=by unfold lt; omega
   have hll : (oI (lG (C : Int))).length = lt C:=by simp [oI,hlz]
   have HGET:=zh (fun (k : Nat) (h : k < lt C)=>Mh (c:=(C : Int)) (k:=k) (by rw [hlz]; exact h))
   have HEND:=zh (show (oI (lG (C : Int))).drop (lt C) = [] from List.drop_of_length_le (by omega))
   have HOK:=zh (fun (k : Nat) (h : k < lt C)=>EW (t:=lG (C : Int)) (r:=k) (by rw [hlz]; omega) (by rw [hlz]; exact h) (KF C))
   have HRW:=zh (Ay C (by omega))
   have hpo:=Em (l:=oI (lG (C : Int))) (d:=d) (a:=1) hd (by omega) (by omega)
   have hpn:=By (l:=oI (lG (C : Int))) (d:=d) (a:=1)
   rw [hll] at hpo
   have HIR:=zh (fun (dk : DevM) (okd : dk.Ok) (hw : dk.writes < 1000000) (hp : dk.pend.length < 1000000) (k : Nat) (hk : k < lt C) (R : List SL.HP) (w : World) (H : own w (lL bi bd bh (oC d C p b)::lj bd dk::R))=>
    Fy bi bd bh (oC dk C p b) okd (show (lG (C : Int)).length <= 1000 by rw [hlz]; omega) hw hp k (by omega) (HOK.out k hk) R w H)
   have HE3:=HE2.out
   generalize hrl : oI (lG (C : Int)) = RL at *
   generalize hres : d.puts 1 RL = res at *
   have HRES:=zh hres
   have HE4:=zh HE3
   generalize hN : lt C = N at *
   obtain ⟨o1,o2,o3,o4⟩:=hpo
   clear HE3 hlz hrz HE2 HE hd1 hmk hmm hres hrl HZ
   go_wp2_with fail
   refine (HRW.out w4).mono ?_
   rintro e w' ⟨rfl,rfl⟩
   go_wp2_with fail
   go_loopw [27] (Qd (fun dk=>lL bi bd bh (oC d C p b)::lj bd dk::pts gh (.cells #[.int .i64 C,.int .i64 p,.int .i64 b] 103 (0,0))::R) d 1 RL res w) (fun i _=>N - (intOf i).toNat)
   case atStart=>exact ⟨0,d,by omega,rfl,by simpa using HRES.out,hd,by omega,by simp,hx4,h4⟩
   case round=>
    clear cc ff
    obtain ⟨k,dk,hk,rfl,hput,okd,hpk,hwk,hxr,hown⟩:=hrel
    rw [hll] at hk
    by_cases hlt : k < N
    ·rw [HGET.out k hlt] at hput
     have HPUT:=zh hput
     clear hput
     have e1 : IntKind.i64.wrap ((k : Int) + 1) = (k : Int) + 1:=zi _ (by omega)
     have hkN : (k : Int) < (N : Int):=by omega
     have HW:=zh (HIR.out dk okd (by omega) (by omega) k hlt)
     have hcode:=o5 dk (1 + (k : Int)) (oe (lG (C : Int)) k).1
     obtain ⟨l1,l2,l3⟩:=yJ dk (1 + (k : Int)) (oe (lG (C : Int)) k).1
     have okw:=DevM.write_ok okd (1 + (k : Int)) (oe (lG (C : Int)) k).1 (by omega) (by omega)
     have hstep : dk.puts (1 + (k : Int)) ((oe (lG (C : Int)) k).1::RL.drop (k + 1)) = if (dk.write (1 + (k : Int)) (oe (lG (C : Int)) k).1).1≠0 then dk.write (1 + (k : Int)) (oe (lG (C : Int)) k).1 else (dk.write (1 + (k : Int)) (oe (lG (C : Int)) k).1).2.puts (1 + (k : Int) + 1) (RL.drop (k + 1)):=rfl
     rw [HPUT.out] at hstep
     have HSTP:=zh hstep
     clear hstep l1
     change Hid (∀(R : List SL.HP) (w : World),own w (lL bi bd bh (oC d C p b)::lj bd dk::R) -> Calls Tryz.prog 157 #[.pointer (some ⟨bi,0,none⟩),.int .i64 k] w fun e w'=>e = .returned (errV (dk.write (1 + (k : Int)) (oe (lG (C : Int)) k).1).1) /\ Ext w w' /\ own w' (lL bi bd bh (oC d C p b)::lj bd (dk.write (1 + (k : Int)) (oe (lG (C : Int)) k).1).2::R)) at HW
     generalize dk.write (1 + (k : Int)) (oe (lG (C : Int)) k).1 = r at *
     clear HIR HGET HOK
     go_wp2_with fail
     refine (HW.out _ wr hown).mono ?_
     rintro e w5 ⟨rfl,hx5',h5⟩
     have hx5:=hxr.trans hx5'
     clear hx5' hown hxr
     by_cases hz : r.1 = 0
     ·have HZ:=zh hz
      rw [hz,lS]
      clear hz
      go_wp2_with fail
      go_roundw
      case rel=>exact ⟨k + 1,r.2,by rw [hll]; omega,by go_num,by have:=HSTP.out; rw [zq (by simpa using HZ.out)] at this; rw [this]; congr 1 <;> omega,okw,by omega,by omega,hx5,h5⟩
      case measure=>simp [intOf]; omega
     ·have hfin : res = r:=by have:=HSTP.out; rw [zt hz] at this; exact this
      have hS2 : S = (r.1,oC r.2 C p b):=by rw [HE4.out,hfin,zt hz]
      have HF:=zh hS2
      have hpz : 0 < r.1:=by omega
      have HPE:=zh (lv hpz)
      rw [lv hpz]
      clear hz hfin hS2
      go_wp2_with fail
      go_ret2
      rw [HF.out]
      exact .inl ⟨by dsimp only; omega,by dsimp only; rw [HPE.out]; rfl,hx5,li 1 (li 0 h5 rfl) rfl⟩
    ·have hke : k = N:=by omega
     subst hke
     rw [HEND.out,DevM.puts] at hput
     have hr0 : res.1 = 0:=by rw [<- hput]
     have hr2 : res.2 = dk:=by rw [<- hput]
     have hS2:=HE4.out
     rw [zq (by simpa using hr0),hr2] at hS2
     have HF:=zh hS2
     clear hput hlt hS2 hr0 hr2
     have HFL:=zh (fun (R : List SL.HP) (w : World) (H : own w (lj bd dk::R))=>Cz bd dk okd R w H)
     have okf:=DevM.flush_ok okd
     have hpl : dk.flush.pend.length = 0:=rfl
     have hwl : dk.flush.writes = dk.writes:=rfl
     have hhs : (lQ C p b).size = 16:=BT (by simp)
     have HWR:=zh (fun (R : List SL.HP) (w : World) (H : own w (lj bd dk.flush::R))=>BP bd dk.flush okf 0 (lQ C p b) (by omega) (by omega) (by omega) R w H)
     have hcode:=o5 dk.flush 0 (lQ C p b)
     have okw:=DevM.write_ok okf 0 (lQ C p b) (by omega) (by omega)
     generalize dk.flush = df at *
     have HHD:=zh (fun (R : List SL.HP) (w : World) (H : own w R)=>Eu C p b R w H)
     rw [show AB C p b = 0 from zq HB.out,zt rfl,lS] at HHD
     unfold ol at HHD
     generalize lQ C p b = hs at *
     generalize df.write 0 hs = r at *
     clear HIR HGET HOK
     go_wp2_with fail
     refine (HFL.out _ wr (lE 1 hown rfl)).mono ?_
     rintro e w5 ⟨rfl,hx5,h5'⟩
     have h5:=oT hown 1 rfl h5'
     obtain ⟨cc,ff⟩:=ld 2 h5 rfl
     go_wp2_with fail
     refine (HHD.out _ w5 h5).mono ?_
     rintro e w6 ⟨rfl,hx6,h6⟩
     clear cc ff
     go_wp2_with fail
     refine (HWR.out _ w6 (lE 1 h6 rfl)).mono ?_
     rintro e w7 ⟨rfl,hx7,h7'⟩
     have h7:=oT h6 1 rfl h7'
     have hx7f:=((hxr.trans hx5).trans hx6).trans hx7
     by_cases hz : r.1 = 0
     ·have hS2:=HF.out
      rw [zq (by simpa using hz)] at hS2
      have HS2:=zh hS2
      have HFL2:=zh (fun (R : List SL.HP) (w : World) (H : own w (lj bd r.2::R))=>Cz bd r.2 okw R w H)
      rw [hz,lS]
      clear hz hS2
      go_wp2_with fail
      refine (HFL2.out _ w7 (lE 1 h7 rfl)).mono ?_
      rintro e w8 ⟨rfl,hx8,h8'⟩
      have h8:=oT h7 1 rfl h8'
      go_wp2_with fail
      go_ret2
      rw [HS2.out]
      exact .inr ⟨rfl,bi,bh,rfl,hx7f.trans hx8,li 2 h8 rfl⟩
     ·have hS2:=HF.out
      rw [zt hz] at hS2
      have HS2:=zh hS2
      have hpz : 0 < r.1:=by omega
      have HPE:=zh (lv hpz)
      rw [lv hpz]
      clear hz hS2
      go_wp2_with fail
      go_ret2
      rw [HS2.out]
      exact .inl ⟨by dsimp only; omega,by dsimp only; rw [HPE.out]; rfl,hx7f,li 1 (li 0 h7 rfl) rfl⟩
theorem JX (l m : List ByteArray) : strCells (l++m) = strCells l++strCells m:=by simp [strCells]
def WN (L : List SL.HP) (d : DevM) (C : Nat) (w0 : World) (v i : Value) (wr : World) : Prop:=
 ∃q : Nat,q <= lt C /\ i = .int .i64 q /\ Ext w0 wr /\ own wr (row 9 1 v q (strCells ((oy d C).take q))::L)
theorem Wc (s : ByteArray) : ∀u∈[Value.string s],u.oneCell' = true:=fun u hu=>by simp at hu; subst hu; rfl
theorem Wv (bd : Nat) (d : DevM) (hd : d.Ok) (hn1 : 0 < d.fl.length) (R : List SL.HP) (w : World) (H : own w (lj bd d::R)) :
  Calls Tryz.prog 95 #[.pointer (some ⟨bd,0,none⟩)] w (OY bd (zB d) R w):=by
 have hE : zB d = DD d (oh (d.seen 0)):=rfl
 generalize zB d = S at *
 have hs0:=BJ hd (a:=0) (by omega) (by omega)
 have hsn:=FS bd d hd 0 R w H
 rw [zq (by omega)] at hsn
 have hgd:=fun h=>I4 (s:=d.seen 0) h
 have hnn:=Gk (d.seen 0)
 have HHD:=zh (fun (R : List SL.HP) (w : World) (H : own w R)=>OF (d.seen 0) (by omega) R w H)
 have HSN:=zh hsn
 have HGD:=zh hgd
 clear hsn hgd hs0
 generalize d.seen 0 = s0 at *
 generalize oh s0 = hh at *
 obtain ⟨⟨c,p,b⟩,f⟩:=hh
 have HE:=zh hE
 clear hE
 dsimp only at hnn HGD HHD
 unfold ol at HHD
 have hn:=hd.n
 go_enter Tryz.func95,Tryz.ntmps95
 go_wp2_with fail
 refine HSN.out.mono ?_
 rintro e w1 ⟨rfl,rfl⟩
 go_wp2_with fail
 refine (HHD.out _ w H).mono ?_
 rintro e w2 ⟨rfl,hx2,h2⟩
 go_upto_region 5 with (fail)
 have h3:=lh h2 (.cells #[.int .i64 c,.int .i64 p,.int .i64 b] 103)
 have hx3:=hx2.alloc (.cells #[.int .i64 c,.int .i64 p,.int .i64 b] 103)
 generalize w2.heap.size = gh at *
 generalize w2.alloc (.cells #[.int .i64 c,.int .i64 p,.int .i64 b] 103) = w3 at *
 clear h2 hx2 HHD HSN
 by_cases hf : f = 0
 ·subst hf
  have hgood:=HGD.out rfl
  have hE2:=HE.out
  unfold DD at hE2
  rw [zq (by simp)] at hE2
  dsimp only at hE2
  have hbb:=hgood
  unfold lH at hbb
  obtain ⟨C,rfl⟩:=ze (show 0 <= c by omega)
  have c1 : 1 <= C:=by omega
  have c2 : C <= 32:=by omega
  rw [zn] at hE2
  have hND : zC (C : Int) p = 1 + (lt C : Int) + 4 * p:=by unfold zC; rw [zn]
  have hp0 : 0 <= p:=by omega
  have hr1 : 1 <= lt C:=by unfold lt; omega
  have hr4 : lt C <= 4:=by unfold lt; omega
  have HFT:=zh (fun (R : List SL.HP) (w : World) (H : own w (lj bd d::R))=>OX bd d hd (C : Int) p b R w H)
  unfold ol at HFT
  have HE2:=zh hE2
  have HGG:=zh hgood
  clear hE2 hgood HGD hbb HE
  obtain ⟨c0,f0⟩:=ld 0 h3 rfl
  rw [lS]
  by_cases hl : (d.fl.length : Int) < zC (C : Int) p
  ·have hS : S = (1,Q1 d):=by rw [HE2.out,zt hl]
   have HS:=zh hS
   have hq : fitF d (C : Int) p b = 1:=zt (.inr hl)
   rw [hq,show errV 1 = .iface 128 (.int .i64 1) from rfl] at HFT
   clear hl hS hq hND
   go_wp2_with fail
   refine (HFT.out _ w3 (lE 1 h3 rfl)).mono ?_
   rintro e w4 ⟨rfl,hx4,h4⟩
   go_wp2_with fail
   go_ret2
   rw [HS.out]
   exact .inl ⟨by simp,rfl,hx3.trans hx4,li 1 h4 rfl⟩
  ·have hS : S = Kb d (C : Int) p b (za (C : Int) p b (oy d C)):=by rw [HE2.out,zq hl]
   have hge : 1 + (lt C : Int) + 4 * p <= d.fl.length:=by omega
   have hq : fitF d (C : Int) p b = 0:=zq (fun h=>h.elim HGG.out hl)
   rw [hq,lS] at HFT
   have HS:=zh hS
   have hrl : (lt C : Int) < d.fl.length:=by omega
   have HSZ:=zh (MH hd hrl)
   have hTN:=Fm (C : Int) p b (oy d C)
   have HTK:=zh (fun (q : Nat) (h : q < lt C)=>MV d (C:=C) h)
   have HRL:=zh (N0 d C)
   have HRW:=zh (Ay C (by omega))
   have HSN:=zh (fun (q : Nat) (hq : q < lt C) (R : List SL.HP) (w : World) (H : own w (lj bd d::R))=>(by
    have h:=FS bd d hd (1 + (q : Int)) R w H
    rw [zq (by omega)] at h
    exact h : Calls Tryz.prog 96 #[.pointer (some ⟨bd,0,none⟩),.int .i64 (1 + (q : Int))] w fun e w'=>e = .returned (.tuple #[.string (d.seen (1 + (q : Int))),.nilIface]) /\ w = w'))
   clear hl hS hrl hq hND
   go_wp2_with fail
   refine (HFT.out _ w3 (lE 1 h3 rfl)).mono ?_
   rintro e w4 ⟨rfl,hx4,h4⟩
   have hx6:=hx3.trans hx4
   clear c0 f0
   obtain ⟨c0,f0⟩:=ld 1 h4 rfl
   have h7:=lF 9 1 h4
   go_wp2_with fail
   refine (HRW.out w4).mono ?_
   rintro e w' ⟨rfl,rfl⟩
   go_wp2_with fail
   clear c0 f0 HFT
   go_loopw [7,37] (WN (lj bd d::pts gh (.cells #[.int .i64 (C : Int),.int .i64 p,.int .i64 b] 103 (0,0))::R) d C w) (fun _ i _=>lt C - (intOf i).toNat)
   case atStart=>exact ⟨0,by omega,rfl,hx6,h7⟩
   case round=>
    obtain ⟨q,hq,rfl,hxr,hown⟩:=hrel
    clear h7 h4 h3 hx3 hx4 hx6
    obtain ⟨cg,fg⟩:=ld 2 hown rfl
    by_cases hlt : q < lt C
    ·have hE:=HTK.out q hlt
     have HT2:=zh hE
     have e1 : IntKind.i64.wrap (1 + (q : Int)) = 1 + (q : Int):=zi _ (by omega)
     have hqN : (q : Int) < (lt C : Int):=by omega
     have HQ:=zh (HSN.out q hlt)
     clear hE
     generalize d.seen (1 + (q : Int)) = sq at *
     have hml : q + 1 <= maxLen:=by simp only [maxLen]; omega
     go_wp2_with fail
     refine (HQ.out _ wr (lE 1 hown rfl)).mono ?_
     rintro e w' ⟨rfl,rfl⟩
     have ha2:=lh hown (.cells #[.string sq] 9)
     go_wp2_with (first | (at_builtin; refine lX rfl _ _ 51 rfl 1 9 Tryz.underlying51 AX rfl (by decide) rfl ha2 rfl (some ⟨wr.heap.size,0,none⟩) 1 1 [.string sq] rfl rfl (yl wr [.string sq] _) (fun h=>by cases h) (Wc sq) hml (by omega) ?_))
     intro v' w6 h6' hx6
     have hx7:=(hxr.alloc (.cells #[.string sq] 9)).trans hx6
     have h7:=lg h6'
     clear ha2 hown hxr hx6 h6'
     go_wp2_with fail
     go_roundw
     case rel=>exact ⟨q + 1,by omega,by go_num,hx7,by rw [HT2.out,JX]; exact h7⟩
     case measure=>simp [intOf]; omega
    ·have hqe : q = lt C:=by omega
     subst hqe
     have htk : (oy d C).take (lt C) = oy d C:=List.take_of_length_le (by rw [HRL.out]; exact Nat.le_refl _)
     rw [htk] at hown
     obtain ⟨ao,g,cap,rfl,r1,r2,r3,-,-,-,-⟩:=lm 0 hown rfl
     obtain rfl:=r3 (by omega)
     have hr : (oy d C).length <= 1000:=by rw [HRL.out]; omega
     have HSR:=zh (fun w' (L : List SL.HP) (H : own w' (L++(row 9 1 (.slice (some ⟨g,0,none⟩) (lt C) cap) (lt C) (strCells (oy d C))::lj bd d::pts gh (.cells #[.int .i64 (C : Int),.int .i64 p,.int .i64 b] 103 (0,0))::R)))=>(by
      have h:=Wq (L.length + 0) (l:=oy d C) (rest:=[]) H (L0 (l:=L) rfl) (by simp [strCells]) (fun s hs=>by have:=HSZ.out s hs; omega)
      rw [HRL.out] at h
      exact h : Bs w' (.slice (some ⟨g,0,none⟩) (lt C) cap) (oy d C)))
     have HS2:=HS.out
     generalize hT : za (C : Int) p b (oy d C) = TF at *
     obtain ⟨T,F⟩:=TF
     have HTB:=zh (fun w' (H : own w' (row 9 1 (.slice (some ⟨g,0,none⟩) (lt C) cap) (lt C) (strCells (oy d C))::lj bd d::pts gh (.cells #[.int .i64 (C : Int),.int .i64 p,.int .i64 b] 103 (0,0))::R))=>ML (C : Int) p b (.slice (some ⟨g,0,none⟩) (lt C) cap) (oy d C) T F hT hr _ w' HSR.out H)
     have HS3:=zh HS2
     unfold ol at HTB
     dsimp only at hTN
     clear hT HS2 HS HTK HSN htk r3 hr HSR hq hlt
     by_cases hF : F = 0
     ·subst hF
      rw [lS] at HTB
      have hmm:=run_makeMap (P:=Tryz.prog) 216
      go_wp2_with fail
      refine (HTB.out wr hown).mono ?_
      rintro e w6 ⟨vt,rfl,hx6',h6⟩
      obtain ⟨at_,gt,capt,rfl,-,-,-,-,-,-,-⟩:=lm 0 h6 rfl
      have hx7:=hxr.trans hx6'
      clear cg fg hown hxr hx6'
      obtain ⟨cg,fg⟩:=ld 3 h6 rfl
      have h7:=GL h6
      have h8:=lh h7 (.cells #[.pointer (some ⟨bd,0,none⟩),.int .i64 (C : Int),.int .i64 p,.int .i64 b,.slice at_ T.length capt,.map (some w6.heap.size)] 218)
      rw [show (w6.alloc (.map #[] 0)).heap.size = w6.heap.size + 1 by simp] at h8
      go_wp2_with fail
      go_ret2
      rw [HS3.out]
      have h9:=yc (m:=⟨d,(C : Int),p,b,T,[]⟩) (lC [_,_] (lE 1 h8 rfl |> fun h=>lE 1 h rfl |> fun h=>lC [_] (lE 0 h rfl)))
      exact .inr ⟨rfl,_,_,rfl,(hx7.alloc _).alloc _,li 2 (li 1 h9 rfl) rfl⟩
     ·have hpF : 0 < F:=by omega
      have HPE:=zh (lv hpF)
      rw [lv hpF] at HTB
      have HF:=zh hF
      clear hF
      go_wp2_with fail
      refine (HTB.out wr hown).mono ?_
      rintro e w6 ⟨vt,rfl,hx6',h6⟩
      go_wp2_with fail
      go_ret2
      rw [HS3.out]
      exact .inl ⟨HF.out,by dsimp only [Kb]; rw [HPE.out]; rfl,hxr.trans hx6',li 1 (li 1 (li 1 (lE 2 h6 rfl) rfl) rfl) rfl⟩
 ·have hpos : 0 < f:=by omega
  have hE2:=HE.out
  unfold DD at hE2
  rw [zt (by simpa using hf)] at hE2
  have HS:=zh hE2
  have HPE:=zh (lv hpos)
  rw [lv hpos]
  have HF:=zh hf
  clear hE2 HE hf HGD
  go_wp2_with fail
  go_ret2
  rw [HS.out]
  exact .inl ⟨HF.out,by dsimp only; rw [HPE.out]; rfl,hx3,li 1 (lE 1 h3 rfl) rfl⟩
theorem D1 {fn : Func} {p : Tmp} {ty : TypeId} (h : fn.results = #[.cell p ty]) (tmps : Array Value) (P : Program) (w : World) :
  (results fn tmps).run P w = ((asAddr (tmps.getD p undef)).run P w).andThen fun a w₁=>(loadVar ty a).run P w₁:=by
 simp only [results,h]
 simp [Sem.run_bind,Result.andThen]
theorem MR {fn : Func} {t : Tmp} (h : fn.results = #[.cell t 103]) (tmps : Array Value) (w : World) (g : Nat) (c p b : Int) (hg : tmps.getD t undef = .pointer (some ⟨g,0,none⟩))
  (h0 : w.cell? ⟨g,0,none⟩ = some (.int .i64 c)) (h1 : w.cell? ⟨g,1,none⟩ = some (.int .i64 p)) (h2 : w.cell? ⟨g,2,none⟩ = some (.int .i64 b)) :
  (results fn tmps).run Tryz.prog w = .ok (ol c p b) w:=by
 rw [D1 h,hg]
 unfold ol
 go_simp
theorem Pi (b bd bh : Nat) (m : ImgM) (R : List SL.HP) (w : World) (H : own w (lL b bd bh m::R)) :
  Calls Tryz.prog 71 #[.pointer (some ⟨b,0,none⟩)] w fun e w'=>e = .returned (ol m.c m.p m.b) /\ Ext w w' /\ own w' (lL b bd bh m::R):=by
 obtain ⟨v,h⟩:=yB H
 have ha:=lh h (.cells #[.int .i64 0,.int .i64 0,.int .i64 0] 103)
 have hxa:=(zR w).alloc (.cells #[.int .i64 0,.int .i64 0,.int .i64 0] 103)
 go_enter Tryz.func71,Tryz.ntmps71
 go_upto_region 1 with (fail)
 generalize w.heap.size = g at *
 generalize w.alloc (.cells #[.int .i64 0,.int .i64 0,.int .i64 0] 103) = w1 at *
 obtain ⟨cc,ff⟩:=ld 1 ha rfl
 obtain ⟨cg,fg⟩:=ld 0 ha rfl
 go_wp2_with fail
 have h5:=lp (i:=2) (v:=.int .i64 m.b) 0 (lp (i:=1) (v:=.int .i64 m.p) 0 (lp (i:=0) (v:=.int .i64 m.c) 0 ha rfl) rfl) rfl
 obtain ⟨c3,-⟩:=ld 0 h5 rfl
 refine bodyPost_ret (MR rfl _ _ g m.c m.p m.b rfl (c3 0) (c3 1) (c3 2)) rfl ?_
 exact ⟨rfl,((hxa.setCell _ _).setCell _ _).setCell _ _,yc (lg h5)⟩
theorem Pw (m : ImgM) (k : Int) : 0 <= (m.read k).2:=by
 unfold ImgM.read
 split
 ·split
  ·decide
  ·split <;> simp
 ·simp
end Go.Proofs.YtbpblokfiajpjabGreatDoor
namespace Go.Proofs.YtbpblokfiajpjabGreatDoor
open Go.RowKit Go.SL
def lW (w : World) (v : Value) (l : List Int) : Prop:=SlAt v l.length (fun b off i=>w.cell? ⟨b,off + i,none⟩ = some (.int .i64 (l.getD i 0)))
theorem lW.form {w : World} {v : Value} {l : List Int} (h : lW w v l) : ∃ao b off cap,v = .slice ao l.length cap /\ l.length <= cap /\ cap <= 9223372036854775807 /\ (0 < l.length -> ao = some ⟨b,off,none⟩) /\
  ∀i,i < l.length -> w.cell? ⟨b,off + i,none⟩ = some (.int .i64 (l.getD i 0)):=by
 obtain ⟨ao,b,off,cap,hv,h1,h2,h3,h4⟩:=h
 exact ⟨ao,b,off,cap,hv,h1,h2,h3,h4⟩
theorem Kv (w : World) (a b : Nat) : (w.drewN a).drewN b = w.drewN (a + b):=by simp [World.drewN,Nat.add_assoc]
theorem AL (va vb : Value) (la lb : List Int) (w : World) (ha : lW w va la) (hb : lW w vb lb) :
  Calls Tryz.prog 55 #[va,vb] w fun e w'=>e = .returned (.bool (decide (la = lb))) /\ ∃n,w' = w.drewN n:=by
 obtain ⟨aoa,ba,offa,capa,rfl,a1,a2,a3,a4⟩:=ha.form
 obtain ⟨aob,bb,offb,capb,rfl,b1,b2,b3,b4⟩:=hb.form
 by_cases hl : la.length = lb.length
 ·go_enter Tryz.func55,Tryz.ntmps55
  have hl2 : ((la.length : Int) != (lb.length : Int)) = false:=by rw [hl]; simp
  have HL:=zh hl
  clear hl
  go_wp2_with fail
  go_loopw [5] (fun i wr=>∃k : Nat,k <= la.length /\ i = .int .i64 k /\ (∀j,j < k -> la.getD j 0 = lb.getD j 0) /\ ∃n,wr = w.drewN n) (fun i _=>la.length - (intOf i).toNat)
  case atStart=>exact ⟨0,by omega,rfl,fun j hj=>absurd hj (by omega),0,rfl⟩
  case round=>
   obtain ⟨k,hk,rfl,hj,nd,rfl⟩:=hrel
   have HJ:=zh hj
   clear hj
   by_cases hlt : k < la.length
   ·obtain rfl:=a3 (by omega)
    have hlt2 : k < lb.length:=by rw [<- HL.out]; exact hlt
    obtain rfl:=b3 (by omega)
    have c1:=a4 k hlt
    have c2:=b4 k hlt2
    clear a3 a4 b3 b4 ha hb
    generalize hxa : la.getD k 0 = xa at *
    generalize hxb : lb.getD k 0 = xb at *
    have HXA:=zh hxa
    have HXB:=zh hxb
    clear hxa hxb
    have ha5 : (k : Int) < (la.length : Int):=by omega
    have hb5 : (k : Int) < (lb.length : Int):=by omega
    by_cases hx : xa = xb
    ·have HX:=zh hx
     have ht : (xa != xb) = false:=by rw [hx]; simp
     clear hx
     go_wp2_with fail
     go_quiet (fail)
     go_wp2_with fail
     go_roundw
     case rel=>exact ⟨k + 1,by omega,by go_num,(fun j hj=>by
      by_cases e : j = k
      ·subst e; rw [HXA.out,HXB.out,HX.out]
      ·exact HJ.out j (by omega)),nd + nq,by first | rfl | exact Kv _ _ _⟩
     case measure=>simp [intOf]; omega
    ·have ht : (xa != xb) = true:=by rw [bne_iff_ne]; exact hx
     have HX:=zh hx
     clear hx
     go_wp2_with fail
     go_quiet (fail)
     go_wp2_with fail
     go_ret
     refine ⟨Ai ?_,nd + nq,by first | rfl | exact Kv _ _ _⟩
     symm
     apply zf
     intro e
     exact HX.out (by rw [<- HXA.out,<- HXB.out,e])
   ·obtain rfl : k = la.length:=by omega
    go_wp2_with fail
    go_ret
    refine ⟨Ai ?_,_,rfl⟩
    symm
    apply zg
    apply List.ext_getElem HL.out
    intro i h1 h2
    have:=HJ.out i h1
    simpa [h1,h2] using this
 ·have hl2 : ((la.length : Int) != (lb.length : Int)) = true:=by rw [bne_iff_ne]; omega
  go_enter Tryz.func55,Tryz.ntmps55
  have HL:=zh hl
  clear hl
  go_wp2_with fail
  go_ret
  refine ⟨Ai ?_,0,rfl⟩
  symm
  apply zf
  intro e
  exact HL.out (by rw [e])
end Go.Proofs.YtbpblokfiajpjabGreatDoor
namespace Go.Proofs.YtbpblokfiajpjabGreatDoor
open Go.RowKit Go.SL Go.Crc
attribute [local go_sem ↓] Go.wp_at_zero Go.wp_at_succ
abbrev ShM:=Nat -> Option ImgM
def put (F : ShM) (k : Nat) (m : ImgM) : ShM:=fun j=>if j = k then some m else F j
theorem FK {F : ShM} {k : Nat} {m : ImgM} (h : F k = some m) : put F k m = F:=funext fun j=>by unfold put; split <;> simp_all
theorem oU (F : ShM) (k : Nat) (m : ImgM) : put F k m k = some m:=zt rfl
theorem Ak (F : ShM) {k j : Nat} (m : ImgM) (h : j≠k) : put F k m j = F j:=zq h
def yE (A : Nat -> Nat×Nat×Nat) (F : ShM) (k : Nat) : Value:=match F k with
 | none=>.pointer none
 | some _=>.pointer (some ⟨(A k).1,0,none⟩)
def oG (A : Nat -> Nat×Nat×Nat) (F : ShM) (k : Nat) : HP:=match F k with
 | none=>emp
 | some m=>star [lL (A k).1 (A k).2.1 (A k).2.2 m,lj (A k).2.1 m.d]
def yk (A : Nat -> Nat×Nat×Nat) (F : ShM) : Array Value:=#[yE A F 0,yE A F 1,yE A F 2,yE A F 3,yE A F 4]
def shL (b : Nat) (A : Nat -> Nat×Nat×Nat) (F : ShM) : List SL.HP:=[pts b (.cells (yk A F) 111 (0,0)),oG A F 0,oG A F 1,oG A F 2,oG A F 3,oG A F 4]
theorem Lm {b : Nat} {A : Nat -> Nat×Nat×Nat} {F : ShM} {R : List SL.HP} {k : Nat} (hk : k < 5) : (shL b A F++R)[1 + k]? = some (oG A F k):=by
 rcases k with _ | _ | _ | _ | _ | k
 ·rfl
 ·rfl
 ·rfl
 ·rfl
 ·rfl
 ·omega
theorem TW {A : Nat -> Nat×Nat×Nat} {F : ShM} {k : Nat} {m m' : ImgM} (h : F k = some m) (j : Nat) : yE A (put F k m') j = yE A F j:=by
 unfold yE put
 by_cases e : j = k
 ·subst e; rw [zt rfl,h]
 ·rw [zq e]
theorem WH {b : Nat} {A : Nat -> Nat×Nat×Nat} {F : ShM} {R : List SL.HP} {k : Nat} (hk : k < 5) {m m' : ImgM} (h : F k = some m) :
  (shL b A F++R).set (1 + k) (star [lL (A k).1 (A k).2.1 (A k).2.2 m',lj (A k).2.1 m'.d]) = shL b A (put F k m')++R:=by
 have hc : yk A (put F k m') = yk A F:=by unfold yk; simp only [TW h]
 have hs : ∀j,j≠k -> oG A (put F k m') j = oG A F j:=fun j hj=>by unfold oG; rw [Ak F m' hj]
 have hk' : oG A (put F k m') k = star [lL (A k).1 (A k).2.1 (A k).2.2 m',lj (A k).2.1 m'.d]:=by unfold oG; rw [oU]
 rcases k with _ | _ | _ | _ | _ | k
 case succ.succ.succ.succ.succ=>omega
 all_goals
  unfold shL
  rw [hc,<- hk']
  simp [hs]
theorem AE {b : Nat} {A : Nat -> Nat×Nat×Nat} {F : ShM} {R : List SL.HP} {w : World} {k : Nat} (hk : k < 5) {m : ImgM} (h : F k = some m) (H : own w (shL b A F++R)) :
  own w (lL (A k).1 (A k).2.1 (A k).2.2 m::lj (A k).2.1 m.d::(shL b A F++R).eraseIdx (1 + k)):=by
 have h1:=lE (1 + k) H (Lm hk)
 have hs : oG A F k = star [lL (A k).1 (A k).2.1 (A k).2.2 m,lj (A k).2.1 m.d]:=by unfold oG; rw [h]
 rw [hs] at h1
 exact Ju h1
theorem DM {b : Nat} {A : Nat -> Nat×Nat×Nat} {F : ShM} {R : List SL.HP} {w w0 : World} {k : Nat} (hk : k < 5) {m m' : ImgM} (h : F k = some m) (H0 : own w0 (shL b A F++R))
  (H : own w (lL (A k).1 (A k).2.1 (A k).2.2 m'::lj (A k).2.1 m'.d::(shL b A F++R).eraseIdx (1 + k))) : own w (shL b A (put F k m')++R):=by
 have h1:=AV [lL (A k).1 (A k).2.1 (A k).2.2 m',lj (A k).2.1 m'.d] H
 have h2:=oT H0 (1 + k) (Lm hk) h1
 rwa [WH hk h] at h2
theorem ou {b : Nat} {A : Nat -> Nat×Nat×Nat} {F : ShM} {R : List SL.HP} {w : World} (H : own w (shL b A F++R)) {k : Nat} (hk : k < 5) : w.cell? ⟨b,k,none⟩ = some (yE A F k):=by
 rw [(ld (l:=shL b A F++R) (b:=b) (arr:=yk A F) (T:=111) 0 H rfl).1]
 rcases k with _ | _ | _ | _ | _ | k
 ·rfl
 ·rfl
 ·rfl
 ·rfl
 ·rfl
 ·omega
theorem lU {A : Nat -> Nat×Nat×Nat} {F : ShM} {k : Nat} {m : ImgM} (h : F k = some m) : yE A F k = .pointer (some ⟨(A k).1,0,none⟩):=by unfold yE; rw [h]
theorem CV {A : Nat -> Nat×Nat×Nat} {F : ShM} {k : Nat} (h : F k = none) : yE A F k = .pointer none:=by unfold yE; rw [h]
def Gv (A : Nat -> Nat×Nat) (F : ShM) (k : Nat) : Value:=match F k with
 | none=>.pointer none
 | some _=>.pointer (some ⟨(A k).1,0,none⟩)
def G1 (A : Nat -> Nat×Nat) (F : ShM) (k : Nat) : HP:=match F k with
 | none=>emp
 | some m=>star [Xz (A k).1 (A k).2 m,XV (A k).2 m.d]
def Vw (A : Nat -> Nat×Nat) (F : ShM) : Array Value:=#[Gv A F 0,Gv A F 1,Gv A F 2,Gv A F 3,Gv A F 4]
def rshL (b : Nat) (A : Nat -> Nat×Nat) (F : ShM) : List SL.HP:=[pts b (.cells (Vw A F) 114 (0,0)),G1 A F 0,G1 A F 1,G1 A F 2,G1 A F 3,G1 A F 4]
structure ShOk (F : ShM) : Prop where
 ok : ∀k m,k < 5 -> F k = some m -> m.Ok
 wr : ∀k m,k < 5 -> F k = some m -> m.d.writes < 900000
 pend : ∀k m,k < 5 -> F k = some m -> m.d.pend.length < 900000
def clus (F : ShM) (root : Int) : Int:=match F root.toNat with
 | some m=>m.c
 | none=>0
def ym (F : ShM) (root : Int) : Nat -> List Int -> Int -> List Int×Int
 | 0,l,_=>(l,0)
 | n + 1,l,at_=>if at_ = -1 then (l,0) else if at_ < 0 \/ 5 <= at_ then ([],4) else match F at_.toNat with
  | none=>([],4)
  | some m=>if l.length = 5 then ([],10) else if m.c≠clus F root then ([],2) else ym F root n (l++[at_]) m.b
def lr (F : ShM) (root : Int) : List Int×Int:=ym F root 6 [] root
def lz (F : ShM) (x : Int) : Prop:=0 <= x /\ x < 5 /\ ∃m,F x.toNat = some m
theorem Oq {F : ShM} {root : Int} : ∀{n : Nat} {l : List Int} {at_ : Int},(∀x∈l,lz F x) -> ∀x∈(ym F root n l at_).1,lz F x:=by
 intro n
 induction n with
 | zero=>intro l at_ h; exact h
 | succ n ih=>
  intro l at_ h
  rw [ym]
  split
  ·exact h
  ·split
   ·intro x hx; cases hx
   ·rename_i h1
    split
    ·intro x hx; cases hx
    ·rename_i m hm
     split
     ·intro x hx; cases hx
     ·split
      ·intro x hx; cases hx
      ·refine ih fun x hx=>?_
       rcases List.mem_append.1 hx with hx | hx
       ·exact h x hx
       ·rw [List.mem_singleton.1 hx]; exact ⟨by omega,by omega,m,hm⟩
theorem zo (F : ShM) (root : Int) : ∀x∈(lr F root).1,lz F x:=Oq fun x hx=>by cases hx
theorem Ar {F : ShM} {root : Int} : ∀{n : Nat} {l : List Int} {at_ : Int},0 <= (ym F root n l at_).2:=by
 intro n
 induction n with
 | zero=>intro l at_; simp [ym]
 | succ n ih=>
  intro l at_
  rw [ym]
  split
  ·simp
  ·split
   ·simp
   ·split
    ·simp
    ·split
     ·simp
     ·split
      ·simp
      ·exact ih
theorem Kf {F : ShM} {root : Int} : ∀{n : Nat} {l : List Int} {at_ : Int},l.length <= 5 -> (ym F root n l at_).1.length <= 5:=by
 intro n
 induction n with
 | zero=>intro l at_ h; exact h
 | succ n ih=>
  intro l at_ h
  rw [ym]
  split
  ·exact h
  ·split
   ·simp
   ·split
    ·simp
    ·split
     ·simp
     ·split
      ·simp
      ·exact ih (by simp; omega)
def lq (l : List Int) : List Value:=l.map (Value.int .i64)
theorem PO {l : List Int} {i : Nat} (h : i < l.length) : (lq l)[i]? = some (.int .i64 (l.getD i 0)):=by simp [lq,h]
theorem oz {w : World} {L : List HP} (k : Nat) {v : Value} {l : List Int} (H : own w L) (hk : L[k]? = some (row 3 1 v l.length (lq l))) : lW w v l:=by
 obtain ⟨ao,g,cap,rfl,h1,h2,h3,-,-,h6,-⟩:=lm k H hk
 refine ⟨ao,g,0,cap,rfl,h1,by simp only [maxLen] at h2; omega,h3,fun i hi=>?_⟩
 dsimp only
 rw [Nat.zero_add]
 exact h6 _ _ (PO hi)
def TI : Value -> Nat
 | .slice _ n _=>n
 | _=>0
def BH (val : Int -> Value) (res : List Int×Int) (L : List SL.HP) (w : World) (e : Ending) (w' : World) : Prop:=
 ∃v,e = .returned (.tuple #[v,val res.2]) /\ Ext w w' /\ own w' (row 3 1 v res.1.length (lq res.1)::L)
def W1 (F : ShM) (root : Int) (res : List Int×Int) (L : List SL.HP) (w0 : World) (v i : Value) (wr : World) : Prop:=
 ∃(n : Nat) (l : List Int) (at_ : Int),n + l.length = 6 /\ l.length <= 5 /\ i = .int .i64 at_ /\ ((l = [] /\ at_ = root) \/ (lz F root /\ -1 <= at_ /\ at_ <= 4)) /\ ym F root n l at_ = res /\ Ext w0 wr /\ own wr (row 3 1 v l.length (lq l)::L)
theorem AT {b : Nat} {A : Nat -> Nat×Nat×Nat} {F : ShM} {k : Nat} (hk : k < 5) {m : ImgM} (h : F k = some m) (R : List SL.HP) (w : World) (H : own w (shL b A F++R)) :
  Calls Tryz.prog 71 #[.pointer (some ⟨(A k).1,0,none⟩)] w fun e w'=>e = .returned (ol m.c m.p m.b) /\ Ext w w' /\ own w' (shL b A F++R):=
 (Pi _ _ _ m _ w (AE hk h H)).mono fun e w' ⟨h1,h2,h3⟩=>⟨h1,h2,by have:=DM hk h H h3; rwa [FK h] at this⟩
theorem Ld (l m : List Int) : lq (l++m) = lq l++lq m:=by simp [lq]
theorem Au {F : ShM} {r : Nat} {m : ImgM} (h : F r = some m) : clus F (r : Int) = m.c:=by unfold clus; rw [zn,h]
theorem Dm (c p b : Int) (w : World) : (Instr.field 103 (.agg #[.int .i64 c,.int .i64 p,.int .i64 b]) 0).run Tryz.prog w = .ok (.int .i64 c) w:=by kernel_rfl
theorem Lk (c p b : Int) (w : World) : (Instr.field 103 (.agg #[.int .i64 c,.int .i64 p,.int .i64 b]) 2).run Tryz.prog w = .ok (.int .i64 b) w:=by kernel_rfl
theorem Cq (b : Nat) (A : Nat -> Nat×Nat×Nat) (F : ShM) (hF : ShOk F) (root : Int) (R : List SL.HP) (w : World) (H : own w (shL b A F++R)) :
  Calls Tryz.prog 69 #[.pointer (some ⟨b,0,none⟩),.int .i64 root] w (BH errV (lr F root) (shL b A F++R) w):=by
 generalize hres : lr F root = res
 have HRES:=zh hres
 clear hres
 go_enter Tryz.func69,Tryz.ntmps69
 go_wp2_with fail
 go_loopw [6,7] (W1 F root res (shL b A F++R) w) (fun v _ _=>6 - TI v)
 case atStart=>exact ⟨6,[],root,rfl,by simp,rfl,.inl ⟨rfl,rfl⟩,HRES.out,zR _,lF _ _ H⟩
 case round=>
  obtain ⟨n,l,at_,hn,hl,rfl,hor,hgo,hxr,hown⟩:=hrel
  obtain ⟨n,rfl⟩ : ∃k,n = k + 1:=⟨n - 1,by omega⟩
  rw [ym] at hgo
  have hsh : own wr (shL b A F++R):=lg hown
  by_cases h1 : at_ = -1
  ·rw [zt h1] at hgo
   subst h1
   subst hgo
   go_wp2_with fail
   go_ret2
   exact ⟨_,rfl,hxr,hown⟩
  ·rw [zq h1] at hgo
   by_cases h2 : at_ < 0 \/ 5 <= at_
   ·rw [zt h2] at hgo
    subst hgo
    have t1 : (at_ != -1) = true:=bne_iff_ne.2 h1
    by_cases h3 : at_ < 0
    ·clear h1 h2
     go_wp2_with fail
     go_ret2
     exact ⟨_,rfl,hxr,lF _ _ hsh⟩
    ·have h4 : 5 <= at_:=by omega
     clear h1 h2
     go_wp2_with fail
     go_ret2
     exact ⟨_,rfl,hxr,lF _ _ hsh⟩
   ·rw [zq h2] at hgo
    obtain ⟨k,rfl⟩:=ze (show 0 <= at_ by omega)
    have hk : k < 5:=by omega
    have i1 : (0 : Int) <= (k : Int):=by omega
    have i2 : (k : Int) < 5:=by omega
    have t1 : ((k : Int) != -1) = true:=bne_iff_ne.2 h1
    rw [zn] at hgo
    have cell:=ou hsh hk
    clear h1 h2
    cases hFk : F k with
    | none=>
     rw [hFk] at hgo
     rw [CV hFk] at cell
     have hgo' : res = ([],4):=hgo.symm
     subst hgo'
     clear hgo
     go_wp2_with fail
     go_ret2
     exact ⟨_,rfl,hxr,lF _ _ hsh⟩
    | some m=>
     rw [hFk] at hgo
     dsimp only at hgo
     rw [lU hFk] at cell
     obtain ⟨ao,g,cap,rfl,r1,r2,r3,-,-,-,-⟩:=lm 0 hown rfl
     by_cases h5 : l.length = 5
     ·rw [zt h5] at hgo
      have hgo' : res = ([],10):=hgo.symm
      subst hgo'
      have t5 : ((l.length : Int) == 5) = true:=by simp [h5]
      have H5:=zh h5
      clear hgo h5
      go_wp2_with fail
      go_ret2
      exact ⟨_,rfl,hxr,lF _ _ hsh⟩
     ·rw [zq h5] at hgo
      have t5 : ((l.length : Int) == 5) = false:=by
       rw [zb]; omega
      have hroot : lz F root:=by
       rcases hor with ⟨-,h⟩ | ⟨h,-⟩
       ·rw [<- h]; exact ⟨by omega,by omega,m,by rw [zn]; exact hFk⟩
       ·exact h
      have HFILE:=zh hroot
      obtain ⟨q1,q2,mr,hmr⟩:=hroot
      obtain ⟨r,rfl⟩:=ze q1
      rw [zn] at hmr
      have hr : r < 5:=by omega
      have cellr:=ou hsh hr
      rw [lU hmr] at cellr
      rw [Au hmr] at hgo
      have HGO:=zh hgo
      have HFK:=zh hFk
      have HMR:=zh hmr
      have HH1:=zh (fun (R' : List SL.HP) (w : World) (H : own w (shL b A F++R'))=>AT hk hFk R' w H)
      have HH2:=zh (fun (R' : List SL.HP) (w : World) (H : own w (shL b A F++R'))=>AT hr hmr R' w H)
      unfold ol at HH1 HH2
      obtain ⟨C,-,-,-,-,-,-,-,b1,b2⟩:=(hF.ok k m hk hFk).nat
      have hl4 : l.length <= 4:=by omega
      clear hor hgo hFk hmr h5 hl r3
      have f1:=Dm m.c m.p m.b
      have f2:=Dm mr.c mr.p mr.b
      have f3:=Lk m.c m.p m.b
      by_cases hcc : m.c = mr.c
      ·have t6 : (m.c != mr.c) = false:=by simp [hcc]
       have HGO2:=HGO.out
       rw [zq (by simpa using hcc)] at HGO2
       have HGO3:=zh HGO2
       clear hcc HGO2 HGO
       go_upto_region 8 with (fail)
       clear cell cellr
       have hz : own wr.drew (shL b A F++(row 3 1 (.slice ao l.length cap) l.length (lq l)::R)):=ln (lC (shL b A F) hown)
       have hxz:=hxr.drew
       clear hown hxr hsh
       go_region_held3 (fun w'=>w'.cell? ⟨b,k,none⟩ = some (.pointer (some ⟨(A k).1,0,none⟩)) /\ w'.cell? ⟨b,r,none⟩ = some (.pointer (some ⟨(A r).1,0,none⟩))) (exact ⟨by rw [ou hz hk,lU HFK.out],by rw [ou hz hr,lU HMR.out]⟩) (first | (go_at_call 71; refine (HH1.out _ _ hz).mono ?_; rintro e w5 ⟨rfl,hx5,hz'⟩; have hxz:=hxz.trans hx5; have hz:=hz') | (go_at_call 71; refine (HH2.out _ _ hz).mono ?_; rintro e w6 ⟨rfl,hx6,hz'⟩; have hxz:=hxz.trans hx6; have hz:=hz'))
       all_goals
        have hz2 : own _ (row 3 1 (.slice ao l.length cap) l.length (lq l)::(shL b A F++R)):=lE 6 hz rfl
        have hm5 : l.length + 1 <= maxLen:=by simp only [maxLen]; omega
        have ha2:=lh hz2 (.cells #[.int .i64 (k : Int)] 3)
        go_wp2_with (first | (at_builtin; refine lX rfl _ _ 95 rfl 1 3 Tryz.underlying95 F7 rfl (by decide) rfl ha2 rfl (some ⟨_,0,none⟩) 1 1 [.int .i64 (k : Int)] rfl rfl (yl _ [.int .i64 (k : Int)] _) (fun h=>by cases h) (WJ _) hm5 (by omega) ?_))
        intro v' w7 h7' hx7
        obtain ⟨ao',g',cap',rfl,-,-,-,-,-,-,-⟩:=lm 1 h7' rfl
        have h7 : own w7 (shL b A F++(row 3 1 (.slice ao' (l.length + 1) cap') (l.length + 1) (lq l++[.int .i64 (k : Int)])::R)):=lC (shL b A F) (lg h7')
        have hx8:=(hxz.alloc (.cells #[.int .i64 (k : Int)] 3)).trans hx7
        have cell:=ou h7 hk
        rw [lU HFK.out] at cell
        clear hz hxz hz2 ha2 h7' hx7
        go_wp2_with fail
        refine (HH1.out _ w7 h7).mono ?_
        rintro e w8 ⟨rfl,hx9,h8⟩
        clear cell
        go_wp2_with fail
        go_roundw
        case rel=>exact ⟨n,l++[(k : Int)],m.b,by simp; omega,by simp; omega,rfl,.inr ⟨HFILE.out,by omega,by omega⟩,HGO3.out,hx8.trans hx9,by rw [Ld,List.length_append]; exact lE 6 h8 rfl⟩
        case measure=>simp [TI]; omega
      ·have t6 : (m.c != mr.c) = true:=by simpa using hcc
       have hgo' : res = ([],2):=by have:=HGO.out; rw [zt (by simpa using hcc)] at this; exact this.symm
       clear HGO hcc
       subst hgo'
       go_upto_region 8 with (fail)
       clear cell cellr
       have hz : own wr.drew (shL b A F++(row 3 1 (.slice ao l.length cap) l.length (lq l)::R)):=ln (lC (shL b A F) hown)
       have hxz:=hxr.drew
       clear hown hxr hsh
       go_region_held3 (fun w'=>w'.cell? ⟨b,k,none⟩ = some (.pointer (some ⟨(A k).1,0,none⟩)) /\ w'.cell? ⟨b,r,none⟩ = some (.pointer (some ⟨(A r).1,0,none⟩))) (exact ⟨by rw [ou hz hk,lU HFK.out],by rw [ou hz hr,lU HMR.out]⟩) (first | (go_at_call 71; refine (HH1.out _ _ hz).mono ?_; rintro e w5 ⟨rfl,hx5,hz'⟩; have hxz:=hxz.trans hx5; have hz:=hz') | (go_at_call 71; refine (HH2.out _ _ hz).mono ?_; rintro e w6 ⟨rfl,hx6,hz'⟩; have hxz:=hxz.trans hx6; have hz:=hz'))
       all_goals
        go_wp2_with fail
        go_ret2
        exact ⟨_,rfl,hxz,lF _ _ (li 6 hz rfl)⟩
def hasC (F : ShM) (x c : Int) : Bool:=match F x.toNat with
 | some m=>m.there c && decide (m.kind c≠0)
 | none=>false
def zA (F : ShM) (c : Int) : Nat -> List Int -> Int
 | _,[]=>-1
 | i,x::l=>if hasC F x c = true then (i : Int) else zA F c (i + 1) l
def yK (F : ShM) (l : List Int) (c : Int) : Int:=zA F c 0 l
theorem Gm {F : ShM} {c : Int} : ∀{l : List Int} {i : Nat},zA F c i l = -1 \/ ((i : Int) <= zA F c i l /\ zA F c i l < (i : Int) + l.length):=by
 intro l
 induction l with
 | nil=>intro i; exact .inl rfl
 | cons x l ih=>
  intro i
  rw [zA]
  split
  ·right; simp only [List.length_cons]; omega
  ·rcases ih (i:=i + 1) with h | h
   ·exact .inl h
   ·right; simp only [List.length_cons]; omega
theorem G5 (F : ShM) (l : List Int) (c : Int) : yK F l c = -1 \/ (0 <= yK F l c /\ yK F l c < l.length):=by
 have:=Gm (F:=F) (c:=c) (l:=l) (i:=0)
 unfold yK
 omega
theorem Ql {F : ShM} {k : Nat} {m : ImgM} (h : F k = some m) (c : Int) : hasC F (k : Int) c = (m.there c && decide (m.kind c≠0)):=by unfold hasC; rw [zn,h]
theorem oF {F : ShM} {x : Int} (h : lz F x) : ∃(k : Nat) (m : ImgM),x = k /\ k < 5 /\ F k = some m:=by
 obtain ⟨h0,h1,m,hm⟩:=h
 exact ⟨x.toNat,m,by omega,by omega,hm⟩
theorem L4 (b : Nat) (A : Nat -> Nat×Nat×Nat) (F : ShM) (hF : ShOk F) (v : Value) (l : List Int) (hl : ∀x∈l,lz F x) (hl5 : l.length <= 5) (c : Int) (R : List SL.HP) (w : World) (hv : lW w v l) (H : own w (shL b A F++R)) :
  Calls Tryz.prog 152 #[.pointer (some ⟨b,0,none⟩),v,.int .i64 c] w fun e w'=>e = .returned (.int .i64 (yK F l c)) /\ w = w':=by
 obtain ⟨ao,lb,off,cap,rfl,hlc,hcap,hao,hat⟩:=hv.form
 generalize hres : yK F l c = res
 unfold yK at hres
 have HRES:=zh hres
 have HAO:=zh hao
 have HAT:=zh hat
 have HL:=zh hl
 have HOW:=zh H
 clear hres hao hat hl hv
 go_enter Tryz.func152,Tryz.ntmps152
 go_wp2_with fail
 go_loop [13] (fun i=>∃q : Nat,q <= l.length /\ i = .int .i64 q /\ zA F c q (l.drop q) = res) (fun i=>l.length - (intOf i).toNat)
 case atStart=>exact ⟨0,Nat.zero_le _,rfl,HRES.out⟩
 case round=>
  obtain ⟨q,hq,rfl,hgo⟩:=hrel
  by_cases hlt : q < l.length
  ·obtain rfl:=HAO.out (by omega)
   have c1:=HAT.out q hlt
   rw [BS 0 hlt,zA] at hgo
   obtain ⟨k,m,hxk,hk,hFk⟩:=oF (HL.out (l.getD q 0) (by simp [hlt]))
   rw [hxk] at c1 hgo
   rw [Ql hFk] at hgo
   have cell:=ou HOW.out hk
   rw [lU hFk] at cell
   have i1 : (0 : Int) <= (k : Int):=by omega
   have i2 : (k : Int) < 5:=by omega
   have hm:=hF.ok k m hk hFk
   have hki:=FN (A k).1 (A k).2.1 (A k).2.2 m hm c _ w (AE hk hFk HOW.out)
   have HGO:=zh hgo
   clear hgo hxk
   cases ht : m.there c
   ·rw [ht,zq (by decide),show errV 1 = .iface 128 (.int .i64 1) from rfl] at hki
    have HK:=zh hki
    have HT:=zh ht
    clear hki ht hm hFk
    go_wp2_with fail
    refine HK.out.mono ?_
    rintro e w' ⟨rfl,rfl⟩
    go_wp2_with fail
    go_round
    case rel=>exact ⟨q + 1,by omega,by go_num,by have:=HGO.out; rw [HT.out] at this; simpa using this⟩
    case measure=>simp [intOf]; omega
   ·rw [ht,zt rfl] at hki
    have HK:=zh hki
    have HT:=zh ht
    clear hki ht hm hFk
    by_cases hz : m.kind c = 0
    ·rw [hz] at HK
     have HZ:=zh hz
     clear hz
     go_wp2_with fail
     refine HK.out.mono ?_
     rintro e w' ⟨rfl,rfl⟩
     go_wp2_with fail
     go_round
     case rel=>exact ⟨q + 1,by omega,by go_num,by have:=HGO.out; rw [HT.out,HZ.out] at this; simpa using this⟩
     case measure=>simp [intOf]; omega
    ·have t0 : (m.kind c != 0) = true:=bne_iff_ne.2 hz
     have HZ:=zh hz
     clear hz
     go_wp2_with fail
     refine HK.out.mono ?_
     rintro e w' ⟨rfl,rfl⟩
     go_wp2_with fail
     go_ret
     have:=HGO.out
     rw [HT.out,zt (by simpa using HZ.out)] at this
     exact ⟨Dg this,rfl⟩
  ·obtain rfl : l.length = q:=by omega
   rw [List.drop_of_length_le (Nat.le_refl _)] at hgo
   have hgo' : res = -1:=hgo.symm
   subst hgo'
   clear hgo
   go_wp2_with fail
   go_ret
   exact ⟨rfl,rfl⟩
end Go.Proofs.YtbpblokfiajpjabGreatDoor
