/- Lemmas on which TopCrash stands: the texts YardC1 YardC2 YardC3 YardC0 YardC4. No conditions. -/
import Derived.Test.YtbpblokfiajpjabGreatDoorPkc0fe62c00b
set_option linter.all false
set_option maxRecDepth 1000000
set_option maxHeartbeats 32000000
namespace Go.Proofs.YtbpblokfiajpjabGreatDoor
open Go.RowKit Go.SL Go.Crc
def BF (m : ImgM) (k : Nat) (o : Option ByteArray) : Prop:=
 ∃s,poss m.d (1 + ((k / 4 / 8 : Nat) : Int)) s /\ (((verE s (k / 4)).1 = 0 /\ o = none) \/ ((verE s (k / 4)).1 = 1 /\ o = some (zs 16)) \/ ((verE s (k / 4)).1 = 2 /\ ∃x,poss m.d (m.base + 4 * (verE s (k / 4)).2 + ((k % 4 : Nat) : Int)) x /\ o = some x))
def Hd (m : ImgM) : Prop:=∀i,i < m.t.length -> ∀s,poss m.d (1 + ((i / 8 : Nat) : Int)) s -> (verE s i).1 = 2 -> ent m.t i = verE s i \/ (verE s i).2∈m.held
theorem OC {m : ImgM} {u : List Ent} (hm : m.Ok) (hs : Safe m u) {k : Nat} (hk : k < 4 * m.t.length) : BF m k (m.face k):=by
 have hi : k / 4 < m.t.length:=by omega
 obtain ⟨p1,p2⟩:=CG hm hs hi
 refine ⟨_,p1,?_⟩
 rw [p2]
 rcases Be hm (k / 4) with e | e | ⟨e,-⟩
 ·exact .inl ⟨e,Aa.2 e⟩
 ·exact .inr (.inl ⟨e,Bf e⟩)
 ·exact .inr (.inr ⟨e,_,ET _ _,AQ e⟩)
theorem GB {d : DevM} {a : Int} {x : ByteArray} (hp : d.pend = []) (h : poss d a x) : x = d.seen a:=by
 rcases h with h | h
 ·rw [h,y9 (fun x hx=>by rw [hp] at hx; cases hx)]
 ·rw [hp] at h; cases h
theorem BW {m : ImgM} {u : List Ent} (hm : m.Ok) (hs : Safe m u) (hp : m.d.pend = []) : Hd m /\ ∀k,k < 4 * m.t.length -> ∀o,BF m k o -> o = m.face k:=by
 have key : ∀i,i < m.t.length -> ∀s,poss m.d (1 + ((i / 8 : Nat) : Int)) s -> verE s i = ent m.t i:=fun i hi s h=>by
  rw [GB hp h]
  exact (CG hm hs hi).2
 refine ⟨fun i hi s h _=>.inl (key i hi s h).symm,fun k hk o h=>?_⟩
 obtain ⟨s,h1,h2⟩:=h
 rw [key (k / 4) (by omega) s h1] at h2
 rcases h2 with ⟨e,rfl⟩ | ⟨e,rfl⟩ | ⟨e,x,hx,rfl⟩
 ·exact (Aa.2 e).symm
 ·exact (Bf e).symm
 ·rw [AQ e,GB hp hx]
theorem Wp {m : ImgM} {u : List Ent} (hm : m.Ok) (hs : Safe m u) (keep : List Bool) {T : List Ent} (hT : Sub m.p u T) (hs' : Safe ⟨m.d.crash keep,m.c,m.p,m.b,T,[]⟩ T) {k : Nat} (hk : k < 4 * m.t.length) :
  BF m k ((⟨m.d.crash keep,m.c,m.p,m.b,T,[]⟩ : ImgM).face k):=by
 obtain ⟨C,hC,q1,q2,q3,q4,q5,q6,-⟩:=hm.nat
 have hTl : T.length = m.t.length:=hT.1.trans hs.ulen
 have hi : k / 4 < m.t.length:=by omega
 have hneed:=hm.need
 rw [Bu hm] at hneed
 have hr:=yi hi
 have hse:=hs'.see (k / 4 / 8) (by dsimp only; rw [hTl]; exact hr)
 dsimp only at hse
 have hpo : poss m.d (1 + ((k / 4 / 8 : Nat) : Int)) (lN T (k / 4 / 8)):=by
  rw [<- hse,show (1 + ((k / 4 / 8 : Nat) : Int)) = ((1 + k / 4 / 8 : Nat) : Int) by omega]
  exact D9 hm.d keep (by omega)
 have hv : verE (lN T (k / 4 / 8)) (k / 4) = ent T (k / 4):=Df q6 hT.ents _
 have hok:=hT.ents _ (yV (t:=T) (k:=k / 4) (by omega))
 have hrg:=zm hok
 refine ⟨_,hpo,?_⟩
 rw [hv]
 have h3 : (ent T (k / 4)).1 = 0 \/ (ent T (k / 4)).1 = 1 \/ (ent T (k / 4)).1 = 2:=by omega
 rcases h3 with e | e | e
 ·exact .inl ⟨e,Aa.2 e⟩
 ·exact .inr (.inl ⟨e,Bf (m:=⟨m.d.crash keep,m.c,m.p,m.b,T,[]⟩) e⟩)
 ·refine .inr (.inr ⟨e,_,?_,AQ (m:=⟨m.d.crash keep,m.c,m.p,m.b,T,[]⟩) e⟩)
  have hp2 : (ent T (k / 4)).2 < m.p:=by
   unfold lK at hok
   rw [zt e] at hok
   simp at hok
   exact hok.2
  have hb : m.base = 1 + (lt m.t.length : Int):=by unfold ImgM.base; rw [Bu hm]
  show poss m.d (m.base + 4 * (ent T (k / 4)).2 + ((k % 4 : Nat) : Int)) ((m.d.crash keep).seen (m.base + 4 * (ent T (k / 4)).2 + ((k % 4 : Nat) : Int)))
  obtain ⟨a,ha⟩:=ze (show 0 <= m.base + 4 * (ent T (k / 4)).2 + ((k % 4 : Nat) : Int) by omega)
  rw [ha]
  exact D9 hm.d keep (by omega)
structure PS (m m' : ImgM) : Prop where
 hd : Hd m'
 len : m'.t.length = m.t.length
 pf : ∀k,k < 4 * m.t.length -> ∀o,BF m' k o -> BF m k o \/ o = m'.face k
theorem PS.refl {m : ImgM} (h : Hd m) : PS m m:=⟨h,rfl,fun _ _ _ h=>.inl h⟩
theorem Mp {d d' : DevM} (hf : d'.fl = d.fl) (hp : d'.pend = d.pend) {a : Int} {x : ByteArray} : poss d' a x↔poss d a x:=by
 unfold poss
 rw [hf,hp]
theorem Xd {m : ImgM} {d' : DevM} (hf : d'.fl = m.d.fl) (hp : d'.pend = m.d.pend) {k : Nat} {o : Option ByteArray} : BF { m with d:=d' } k o↔BF m k o:=by
 unfold BF
 dsimp only
 simp only [Mp hf hp]
 rfl
theorem PS.dev {m : ImgM} (h : Hd m) {d' : DevM} (hf : d'.fl = m.d.fl) (hp : d'.pend = m.d.pend) : PS m { m with d:=d' }:=
 ⟨fun i hi s hs e=>h i hi s ((Mp hf hp).1 hs) e,rfl,fun _ _ _ h=>.inl ((Xd hf hp).1 h)⟩
theorem Jt {m m' : ImgM} {u : List Ent} (hm : m'.Ok) (hs : Safe m' u) (hp : m'.d.pend = []) (hl : m'.t.length = m.t.length) : PS m m':=by
 obtain ⟨h1,h2⟩:=BW hm hs hp
 exact ⟨h1,hl,fun k hk o h=>.inr (h2 k (by omega) o h)⟩
theorem Wg {m : ImgM} {u : List Ent} (hm : m.Ok) (hs : Safe m u) : PS m m.flush:=Jt (zv hm).ok (hs.flush hm) rfl rfl
theorem Xj {m : ImgM} (h : Hd m) (n : Int) : PS m { m with d:={ m.d with fail:=n } }:=PS.dev h rfl rfl
theorem Xy {m : ImgM} {u : List Ent} (hm : m.Ok) (hs : Safe m u) (hh : Hd m) (hw : m.d.writes < 999000) (k : Int) : PS m (m.link k).2:=by
 obtain ⟨u',hu'⟩:=(EP hm hw k).safe u hs
 have ho:=(EP hm hw k).ok
 revert ho hu'
 unfold ImgM.link
 split
 ·exact fun _ _=>PS.refl hh
 ·split
  ·rename_i h
   intro hu' ho
   exact Jt ho hu' (by dsimp only; rw [(B7 h).1]; rfl) rfl
  ·intro hu' ho
   exact Jt ho hu' rfl rfl
theorem WE {m : ImgM} {u : List Ent} (hm : m.Ok) (hs : Safe m u) (hh : Hd m) (c fr : Int) (s : ByteArray) : PS m (m.wr c fr s).2:=by
 unfold ImgM.wr
 split
 ·exact PS.refl hh
 ·rename_i hb
  split
  ·exact PS.refl hh
  ·rename_i hk2
   have hk2:=Decidable.not_not.1 hk2
   unfold ImgM.wrBad at hb
   have ht : m.there c = true:=by
    cases h : m.there c
    ·exact absurd (.inl h) hb
    ·rfl
   have b1 : 0 <= fr:=Int.not_lt.1 fun h=>hb (.inr (.inl h))
   have b3 : (s.size : Int) <= 16 * (4 - fr):=Int.not_lt.1 fun h=>hb (.inr (.inr (.inr (.inr h))))
   obtain ⟨c0,-,hcl⟩:=oW hm ht
   obtain ⟨n,rfl⟩:=ze c0
   rw [zn] at hcl ⊢
   have hk2 : (ent m.t n).1 = 2:=hk2
   obtain ⟨r0,r1⟩:=zE hm hcl hk2
   have hfg:=Aw hm r0
   have hbase:=CC hm
   rw [zD] at hfg ⊢
   have hl:=yq s (s.size / 16)
   obtain ⟨h1,q,h2,h3,j,j1,j2,-⟩:=DevM.puts_cases (lB s (s.size / 16)) m.d (m.base + 4 * (ent m.t n).2 + fr)
   rw [hl] at h3 j1
   generalize (m.d.puts (m.base + 4 * (ent m.t n).2 + fr) (lB s (s.size / 16))).2 = d' at *
   have hver : ∀i,i < m.t.length -> ∀s,poss d' (1 + ((i / 8 : Nat) : Int)) s -> poss m.d (1 + ((i / 8 : Nat) : Int)) s:=fun i hi s hp=>by
    rcases AZ h1 h2 hp with h' | h'
    ·exact h'
    ·have:=(h3 _ h').1
     have:=yi hi
     dsimp only at *
     omega
   refine ⟨fun i hi s hp e=>hh i hi s (hver i hi s hp) e,rfl,fun k hk o hp=>?_⟩
   obtain ⟨s',p1,p2⟩:=hp
   have hv:=hver (k / 4) (by omega) s' p1
   rcases p2 with p2 | p2 | ⟨e,x,hx,rfl⟩
   ·exact .inl ⟨s',hv,.inl p2⟩
   ·exact .inl ⟨s',hv,.inr (.inl p2)⟩
   ·rcases AZ h1 h2 hx with h' | h'
    ·exact .inl ⟨s',hv,.inr (.inr ⟨e,x,h',rfl⟩)⟩
    ·right
     obtain ⟨e1,e2⟩:=IH hm hs (by omega) hv
     have he:=e2 e
     rw [j2] at h'
     obtain ⟨i,hi,hie⟩:=List.mem_map.1 h'
     have hi':=List.mem_range.1 hi
     simp only [Prod.mk.injEq] at hie
     obtain ⟨a1,a2⟩:=hie
     have hpl : (verE s' (k / 4)).2 = (ent m.t n).2 /\ k % 4 = fr.toNat + i:=by
      change m.base + 4 * (ent m.t n).2 + fr + (i : Int) = m.base + 4 * (verE s' (k / 4)).2 + ((k % 4 : Nat) : Int) at a1
      omega
     obtain ⟨c1,c2⟩:=hpl
     have hcu:=(hs.cur.2 n (by rw [hs.ulen]; exact hcl)).2 hk2
     have hck : k / 4 = n:=by
      refine hs.uuniq (k / 4) n (by rw [hs.ulen]; omega) (by rw [hs.ulen]; exact hcl) (by rw [<- he]; exact e) ?_
      rw [<- he,<- hcu]
      exact Prod.ext (by rw [e,hk2]) c1
     rw [AQ (m:={ m with d:=d' }) (by rw [hck]; exact hk2),<- a2]
     congr 1
     show _ = d'.seen (m.base + 4 * (ent m.t (k / 4)).2 + ((k % 4 : Nat) : Int))
     rw [hck,show m.base + 4 * (ent m.t n).2 + ((k % 4 : Nat) : Int) = m.base + 4 * (ent m.t n).2 + fr + (i : Int) by omega,Dl h1 h2,j2]
     exact (FT (f:=fun i=>(lB s (s.size / 16)).getD i ByteArray.empty) hi').symm
theorem Qk {m : ImgM} {u : List Ent} (hm : m.Ok) (hs : Safe m u) (hh : Hd m) {c : Nat} (hc : c < m.t.length) {e : Ent} (he : lK e m.p = true)
  (h2 : e.1 = 2 -> ∀j : Nat,j < 4 -> ∀x,poss m.d (m.base + 4 * e.2 + (j : Int)) x -> x = m.d.seen (m.base + 4 * e.2 + (j : Int))) : PS m (m.setE c e).2:=by
 obtain ⟨C,hC,q1,q2,q3,q4,q5,q6,-⟩:=hm.nat
 have hb:=CC hm
 have hr8:=yi hc
 have hrg:=zm he
 rw [Dr hm hc he]
 split
 ·rename_i h
  obtain ⟨h1,h3⟩:=B7 h
  exact PS.dev hh h3 h1
 ·rename_i h
  obtain ⟨e1,e2⟩:=GR (Decidable.not_not.1 h)
  generalize (m.d.write (1 + ((c / 8 : Nat) : Int)) (lN (m.t.set c e) (c / 8))).2 = d' at *
  have hset : ∀x∈m.t.set c e,lK x m.p = true:=fun x hx=>by
   rcases List.mem_or_eq_of_mem_set hx with h | h
   ·exact hm.ents x h
   ·rw [h]; exact he
  have hl : (m.t.set c e).length = m.t.length:=List.length_set
  have hver : ∀i,i < m.t.length -> ∀s,poss d' (1 + ((i / 8 : Nat) : Int)) s -> poss m.d (1 + ((i / 8 : Nat) : Int)) s \/ verE s i = ent (m.t.set c e) i:=fun i hi s hp=>by
   rcases AZ e2 e1 hp with h' | h'
   ·exact .inl h'
   ·right
    have h'':=List.mem_singleton.1 h'
    simp only [Prod.mk.injEq] at h''
    rw [h''.2,show c / 8 = i / 8 by omega]
    exact Df q6 hset i
  have hdat : ∀(y : Int) (j : Nat) (x : ByteArray),0 <= y -> poss d' (m.base + 4 * y + (j : Int)) x -> poss m.d (m.base + 4 * y + (j : Int)) x:=fun y j x y0 hp=>by
   rcases AZ e2 e1 hp with h' | h'
   ·exact h'
   ·have h'':=List.mem_singleton.1 h'
    simp only [Prod.mk.injEq] at h''
    omega
  have hsee : ∀(y : Int) (j : Nat),0 <= y -> d'.seen (m.base + 4 * y + (j : Int)) = m.d.seen (m.base + 4 * y + (j : Int)):=fun y j y0=>
   AM e2 e1 fun x hx=>by rw [List.mem_singleton.1 hx]; dsimp only; omega
  have hents:=fun j=>Bb (t:=m.t) (e:=e) (j:=j) hc
  refine ⟨fun i hi s hp e'=>?_,hl,fun k hk o hp=>?_⟩
  ·dsimp only at hi hp ⊢
   rw [hl] at hi
   rcases hver i hi s hp with h' | h'
   ·rcases hh i hi s h' e' with h'' | h''
    ·by_cases hik : i = c
     ·right
      subst hik
      rw [<- h''] at e' ⊢
      rw [zt e']
      simp
     ·left
      rw [hents,zq hik]
      exact h''
    ·right
     split
     ·exact List.mem_append_left _ h''
     ·exact h''
   ·exact .inl h'.symm
  ·obtain ⟨s',p1,p2⟩:=hp
   change poss d' (1 + ((k / 4 / 8 : Nat) : Int)) s' at p1
   rcases hver (k / 4) (by omega) s' p1 with h' | h'
   ·left
    rcases p2 with p2 | p2 | ⟨e',x,hx,rfl⟩
    ·exact ⟨s',h',.inl p2⟩
    ·exact ⟨s',h',.inr (.inl p2)⟩
    ·obtain ⟨o1,-⟩:=IH hm hs (by omega) h'
     have:=zm o1
     exact ⟨s',h',.inr (.inr ⟨e',x,hdat _ _ _ (by omega) hx,rfl⟩)⟩
   ·have hok:=hset _ (yV (t:=m.t.set c e) (k:=k / 4) (by rw [hl]; omega))
    rw [<- h'] at hok
    have hrg':=zm hok
    rcases p2 with ⟨e',rfl⟩ | ⟨e',rfl⟩ | ⟨e',x,hx,rfl⟩
    ·right
     exact (Aa.2 (by show (ent (m.t.set c e) (k / 4)).1 = 0; rw [<- h']; exact e')).symm
    ·right
     exact (Bf (by show (ent (m.t.set c e) (k / 4)).1 = 1; rw [<- h']; exact e')).symm
    ·change poss d' (m.base + 4 * (verE s' (k / 4)).2 + ((k % 4 : Nat) : Int)) x at hx
     have hx':=hdat _ _ _ (by omega) hx
     by_cases hik : k / 4 = c
     ·have hve : verE s' (k / 4) = e:=by rw [h',hents,zt hik]
      right
      rw [AQ (by show (ent (m.t.set c e) (k / 4)).1 = 2; rw [<- h']; exact e')]
      congr 1
      show x = d'.seen (m.base + 4 * (ent (m.t.set c e) (k / 4)).2 + ((k % 4 : Nat) : Int))
      rw [<- h',hsee _ _ (by omega)]
      rw [hve] at e' hx' ⊢
      exact h2 e' (k % 4) (by omega) x hx'
     ·have hve : verE s' (k / 4) = ent m.t (k / 4):=by rw [h',hents,zq hik]
      obtain ⟨c1,c2⟩:=CG hm hs (i:=k / 4) (by omega)
      rw [hve] at e' hx'
      exact .inl ⟨_,c1,.inr (.inr ⟨by rw [c2]; exact e',x,by rw [c2]; exact hx',rfl⟩)⟩
theorem Ow {m : ImgM} {u : List Ent} (hm : m.Ok) (hs : Safe m u) (hh : Hd m) (c : Int) : PS m (m.clear c).2:=by
 unfold ImgM.clear
 split
 ·rename_i ht
  obtain ⟨c0,-,hcl⟩:=oW hm ht
  split
  ·exact PS.refl hh
  ·exact Qk hm hs hh hcl rfl fun h=>by cases h
 ·exact PS.refl hh
theorem Qi {m : ImgM} {u : List Ent} (hm : m.Ok) (hs : Safe m u) (hh : Hd m) (hw : m.d.writes < 999000) (hp : m.d.pend.length < 999000) (c : Int) (s : ByteArray) : PS m (m.fill c s).2:=by
 unfold ImgM.fill
 split
 ·exact PS.refl hh
 ·rename_i hb
  split
  ·exact PS.refl hh
  ·rename_i hkd
   split
   ·exact PS.refl hh
   ·rename_i hfr
    have ht : m.there c = true:=by
     cases h : m.there c
     ·exact absurd (.inl h) hb
     ·rfl
    have hsz : s.size = 64:=Decidable.byContradiction fun h=>hb (.inr h)
    obtain ⟨c0,-,hcl⟩:=oW hm ht
    obtain ⟨n,rfl⟩:=ze c0
    rw [zn] at hcl ⊢
    obtain ⟨C,hC,q1,q2,q3,q4,q5,q6,-⟩:=hm.nat
    obtain ⟨P,hP⟩:=ze q5
    rcases Bx m hP with hq | ⟨q,hq,hqP,ho,-⟩
    ·exact absurd (by rw [hq]; decide) hfr
    ·obtain ⟨n1,n2⟩:=FQ ho
     rw [hq]
     have hfi:=AU hm (y:=(q : Int)) (by omega) (by omega)
     have hfg:=Aw hm (y:=(q : Int)) (by omega)
     have hbase:=CC hm
     have s1:=CJ (n:=4) hm hw hp hfg (l:=lB s 4) (by rw [yq]; omega) (by omega)
     have s2:=zv s1.ok
     obtain ⟨g1,qq,g2,g3,-⟩:=DevM.puts_cases (lB s 4) m.d (m.first (q : Int))
     rw [yq] at g3
     rw [zD] at *
     have he : lK (2,(q : Int)) m.p = true:=by unfold lK; rw [zt rfl]; simp; omega
     obtain ⟨u2,hs2⟩:=(s1.trans s2).safe u hs
     have hver : ∀i,i < m.t.length -> ∀s',poss (m.d.puts (m.base + 4 * (q : Int)) (lB s 4)).2 (1 + ((i / 8 : Nat) : Int)) s' -> poss m.d (1 + ((i / 8 : Nat) : Int)) s':=fun i hi s' hp'=>by
      rcases AZ g1 g2 hp' with h' | h'
      ·exact h'
      ·have:=(g3 _ h').1
       have:=yi hi
       dsimp only at *
       omega
     have hsub : ∀k,k < 4 * m.t.length -> ∀o,BF { m with d:=(m.d.puts (m.base + 4 * (q : Int)) (lB s 4)).2 } k o -> BF m k o:=fun k hk o hpf=>by
      obtain ⟨s',p1,p2⟩:=hpf
      have hv:=hver (k / 4) (by omega) s' p1
      rcases p2 with p2 | p2 | ⟨e,x,hx,rfl⟩
      ·exact ⟨s',hv,.inl p2⟩
      ·exact ⟨s',hv,.inr (.inl p2)⟩
      ·refine ⟨s',hv,.inr (.inr ⟨e,x,?_,rfl⟩)⟩
       rcases AZ g1 g2 hx with h' | h'
       ·exact h'
       ·exfalso
        have:=g3 _ h'
        have hpl : (verE s' (k / 4)).2 = (q : Int):=by
         change m.base + 4 * (q : Int) <= m.base + 4 * (verE s' (k / 4)).2 + ((k % 4 : Nat) : Int) /\ m.base + 4 * (verE s' (k / 4)).2 + ((k % 4 : Nat) : Int) < _ at this
         omega
        rcases hh (k / 4) (by omega) s' hv e with h'' | h''
        ·exact n1 (by rw [<- show ent m.t (k / 4) = (2,(q : Int)) from by rw [h'']; exact Prod.ext e hpl]; exact yV (by omega))
        ·exact n2 (hpl ▸ h'')
     unfold ImgM.fillAt
     rw [zD]
     split
     ·exact ⟨fun i hi s' hp' e=>hh i hi s' (hver i hi s' hp') e,rfl,fun k hk o h=>.inl (hsub k hk o h)⟩
     ·rename_i h1
      obtain ⟨t1,t2⟩:=BW s2.ok hs2 rfl
      have ps:=Qk s2.ok hs2 t1 (c:=n) hcl (e:=(2,(q : Int))) he fun _ j hj x hx=>GB rfl hx
      refine ⟨ps.hd,ps.len,fun k hk o h=>(ps.pf k hk o h).imp (fun h=>?_) id⟩
      rw [t2 k hk o h]
      obtain ⟨u1,hs1⟩:=s1.safe u hs
      rw [CY s1.ok k]
      exact hsub k hk _ (OC s1.ok hs1 hk)
def HF (F : ShM) : Prop:=∀k m,k < 5 -> F k = some m -> Hd m
theorem HF.put {F : ShM} (h : HF F) (k : Nat) {m : ImgM} (hm : Hd m) : HF (Go.Proofs.YtbpblokfiajpjabGreatDoor.put F k m):=fun j x hj hx=>by
 unfold Go.Proofs.YtbpblokfiajpjabGreatDoor.put at hx
 split at hx
 ·cases hx; exact hm
 ·exact h j x hj hx
def pvF (F : ShM) : List Int -> Nat -> ByteArray -> Prop
 | [],_,v=>v = zs 16
 | x::l,k,v=>∃m,F x.toNat = some m /\ (BF m k (some v) \/ (BF m k none /\ pvF F l k v))
theorem NN {F F' : ShM} : ∀{l : List Int},(∀x∈l,F' x.toNat = F x.toNat) -> ∀{k : Nat} {v : ByteArray},pvF F' l k v -> pvF F l k v:=by
 intro l
 induction l with
 | nil=>intro _ k v h; exact h
 | cons x l ih=>
  intro h k v hv
  obtain ⟨m,h1,h2⟩:=hv
  rw [h x List.mem_cons_self] at h1
  exact ⟨m,h1,h2.imp id fun h3=>⟨h3.1,ih (fun y hy=>h y (List.mem_cons_of_mem _ hy)) h3.2⟩⟩
theorem Xp {F : ShM} {C : Int} {N : Nat} (hW : ShW N F) (hs : SF F) {k : Nat} (hk : (k : Int) < 4 * C) {r : List Int} {v : ByteArray} (hv : pvF F r k v) : ∀{t : List Int},Fl F C t -> (∀y∈t,lD F y k = none) -> pvF F (t++r) k v:=by
 intro t
 induction t with
 | nil=>intro _ _; exact hv
 | cons x t ih=>
  intro h hn
  obtain ⟨m,hm,h5,h0,ho,hc,hl⟩:=h.img hW (List.mem_cons_self ..)
  obtain ⟨u,hu⟩:=hs _ m h5 hm
  have hp:=OC ho hu (k:=k) (by omega)
  have e:=hn x (List.mem_cons_self ..)
  rw [oH hm] at e
  rw [e] at hp
  exact ⟨m,hm,.inr ⟨hp,ih h.tail fun y hy=>hn y (List.mem_cons_of_mem _ hy)⟩⟩
theorem Gh {F : ShM} {C : Int} {N : Nat} (hW : ShW N F) (hs : SF F) {k : Nat} (hk : (k : Int) < 4 * C) {v : ByteArray} : ∀{l : List Int},Fl F C l -> (∀x∈l,∀m,F x.toNat = some m -> m.d.pend = []) -> pvF F l k v -> v = seeF F l k:=by
 intro l
 induction l with
 | nil=>intro _ _ h; exact h
 | cons x l ih=>
  intro h hp hv
  obtain ⟨m,hm,h5,h0,ho,hc,hl⟩:=h.img hW (List.mem_cons_self ..)
  obtain ⟨u,hu⟩:=hs _ m h5 hm
  obtain ⟨m',hm',h2⟩:=hv
  rw [hm] at hm'
  cases hm'
  have hst:=(BW ho hu (hp x (List.mem_cons_self ..) m hm)).2 k (by omega)
  rw [seeF,oH hm]
  rcases h2 with h2 | ⟨h2,h3⟩
  ·rw [<- hst _ h2]; rfl
  ·rw [<- hst _ h2]
   exact ih h.tail (fun y hy=>hp y (List.mem_cons_of_mem _ hy)) h3
def PR (C : Int) (F F' : ShM) (l : List Int) (Q : Nat -> ByteArray -> Prop) : Prop:=∀k : Nat,(k : Int) < 4 * C -> ∀v,pvF F' l k v -> pvF F l k v \/ Q k v
theorem PR.refl {C : Int} {F : ShM} {l : List Int} {Q : Nat -> ByteArray -> Prop} : PR C F F l Q:=fun _ _ _ h=>.inl h
theorem PR.trans {C : Int} {F G H : ShM} {l : List Int} {Q : Nat -> ByteArray -> Prop} (h : PR C F G l Q) (g : PR C G H l Q) : PR C F H l Q:=fun k hk v hv=>(g k hk v hv).elim (h k hk v) .inr
theorem PR.mono {C : Int} {F G : ShM} {l : List Int} {Q Q' : Nat -> ByteArray -> Prop} (h : PR C F G l Q) (hq : ∀k v,Q k v -> Q' k v) : PR C F G l Q':=fun k hk v hv=>(h k hk v hv).imp id (hq k v)
theorem K3 {F : ShM} {C : Int} {N : Nat} (hW : ShW N F) (hs : SF F) {x : Nat} {m m' : ImgM} (hm : F x = some m) (hps : PS m m') {Q : Nat -> ByteArray -> Prop} (hQ : ∀k,m'.face k = m.face k \/ ∃v,m'.face k = some v /\ Q k v) : ∀{l : List Int},Fl F C l -> PR C F (put F x m') l Q:=by
 intro l
 induction l with
 | nil=>intro _ k _ v h; exact .inl h
 | cons y l ih=>
  intro h k hk v hv
  obtain ⟨m1,h1,h2⟩:=hv
  by_cases e : y.toNat = x
  ·obtain ⟨my,hmy,h5,h0,ho,hc,hl⟩:=h.img hW (List.mem_cons_self ..)
   rw [e] at h1 hmy h5
   rw [oU] at h1
   cases h1
   rw [hm] at hmy
   cases hmy
   obtain ⟨u,hu⟩:=hs _ m h5 hm
   have hn:=OC ho hu (k:=k) (by omega)
   rcases h2 with h2 | ⟨h2,h3⟩
   ·rcases hps.pf k (by omega) _ h2 with h4 | h4
    ·exact .inl ⟨m,by rw [e]; exact hm,.inl h4⟩
    ·rcases hQ k with e3 | ⟨v',e3,q⟩
     ·rw [e3] at h4
      rw [<- h4] at hn
      exact .inl ⟨m,by rw [e]; exact hm,.inl hn⟩
     ·rw [e3] at h4
      cases h4
      exact .inr q
   ·have hno : BF m k none:=by
     rcases hps.pf k (by omega) _ h2 with h4 | h4
     ·exact h4
     ·rcases hQ k with e3 | ⟨v',e3,q⟩
      ·rw [e3] at h4
       rw [<- h4] at hn
       exact hn
      ·rw [e3] at h4
       cases h4
    exact (ih h.tail k hk v h3).imp (fun h5=>⟨m,by rw [e]; exact hm,.inr ⟨hno,h5⟩⟩) id
  ·rw [Ak _ _ e] at h1
   rcases h2 with h2 | ⟨h2,h3⟩
   ·exact .inl ⟨m1,h1,.inl h2⟩
   ·exact (ih h.tail k hk v h3).imp (fun h5=>⟨m1,h1,.inr ⟨h2,h5⟩⟩) id
def TF (F : ShM) (x : Int) (F' : ShM) : Prop:=F' = F \/ ∃m m',F x.toNat = some m /\ F' = put F x.toNat m' /\ PS m m'
theorem TF.hf {F F' : ShM} {x : Int} (h : TF F x F') (hh : HF F) : HF F':=by
 rcases h with rfl | ⟨m,m',hm,rfl,hp⟩
 ·exact hh
 ·exact hh.put _ hp.hd
theorem TF.pr {F F' : ShM} {x : Int} {C : Int} {N : Nat} (h : TF F x F') (hW : ShW N F) (hs : SF F) {l : List Int} (hF : Fl F C l) {Q : Nat -> ByteArray -> Prop} (hQ : ∀k,lD F' x k = lD F x k \/ ∃v,lD F' x k = some v /\ Q k v) : PR C F F' l Q:=by
 rcases h with rfl | ⟨m,m',hm,rfl,hp⟩
 ·exact PR.refl
 ·refine K3 hW hs hm hp (fun k=>?_) hF
  have:=hQ k
  rwa [oH (oU F x.toNat m'),oH hm] at this
theorem TF.top {F F' : ShM} {x : Int} {C : Int} {N : Nat} (h : TF F x F') (hW : ShW N F) (hs : SF F) {l : List Int} (hF : Fl F C (x::l)) (hr : Rise F F' x) : PR C F F' (x::l) (fun k v=>v = seeF F' (x::l) k):=
 h.pr hW hs hF fun k=>(hr.up k).imp id fun hn=>by
  cases e : lD F' x k with
  | none=>exact absurd e hn
  | some v=>exact ⟨v,rfl,(yQ e).symm⟩
theorem Qw {F : ShM} {C : Int} {N : Nat} (hW : ShW N F) (hN : N < 900000) (hs : SF F) (hh : HF F) {x : Int} {l : List Int} (h : Fl F C (x::l)) (c fr : Nat) (s : ByteArray) : TF F x (layM F (x::l) c fr s).2:=by
 obtain ⟨m,hm,h5,h0,ho,hc,hl⟩:=h.img hW (List.mem_cons_self ..)
 obtain ⟨u,hu⟩:=hs _ m h5 hm
 have hw:=hW.wr _ m h5 hm
 have hp:=hW.pend _ m h5 hm
 have hd:=hh _ m h5 hm
 unfold layM
 rw [show topI (x::l) = x.toNat from rfl,hm]
 dsimp only
 split
 ·exact .inr ⟨m,_,hm,rfl,WE ho hu hd _ _ _⟩
 ·exact .inr ⟨m,_,hm,rfl,Qi ho hu hd (by omega) (by omega) _ _⟩
theorem Vc {F : ShM} {C : Int} {N : Nat} (hW : ShW N F) (hs : SF F) (hh : HF F) {x : Int} {l : List Int} (h : Fl F C (x::l)) (c : Nat) : TF F x (Br F (x::l) c).2:=by
 obtain ⟨m,hm,h5,h0,ho,hc,hl⟩:=h.img hW (List.mem_cons_self ..)
 obtain ⟨u,hu⟩:=hs _ m h5 hm
 have hd:=hh _ m h5 hm
 unfold Br
 rw [show topI (x::l) = x.toNat from rfl,hm]
 exact .inr ⟨m,_,hm,rfl,Ow ho hu hd _⟩
theorem Vl {F : ShM} {C : Int} {N : Nat} (hW : ShW N F) (hN : N < 900000) (hs : SF F) (hh : HF F) {x : Int} {l : List Int} (h : Fl F C (x::l)) (fr k n : Nat) : TF F x (Bj (x::l) fr F k n).2:=by
 unfold Bj
 split
 ·exact Vc hW hs hh h _
 ·split
  ·exact Qw hW hN hs hh h _ _ _
  ·exact .inl rfl
theorem Lt {act : ShM -> Nat -> Nat -> Int×ShM} {C : Int} {x : Int} {l : List Int} {fr n : Nat} {new : Nat -> ByteArray}
  (ha : ∀(N : Nat) (F : ShM) (k m : Nat),ShW N F -> N < 900000 -> SF F -> HF F -> Fl F C (x::l) -> k + m <= n -> 0 < m -> (fr + k) % 4 + m <= 4 -> (zH x (x::l) fr new k m F (act F k m) /\ lJ 5 F (act F k m).2) /\ TF F x (act F k m).2) :
  ∀{q : Nat} {F : ShM} {k N : Nat},ShW N F -> N + 5 * q < 900000 -> SF F -> HF F -> Fl F C (x::l) -> n - k <= q -> HF (yz act q F fr k n).2 /\ PR C F (yz act q F fr k n).2 (x::l) (fun i v=>v = seeF F (x::l) i \/ ∃j,k <= j /\ j < n /\ i = fr + j /\ v = new j):=by
 intro q
 induction q with
 | zero=>intro F k N hW hN hs hh h hq; rw [yz]; exact ⟨hh,PR.refl⟩
 | succ q ih=>
  intro F k N hW hN hs hh h hq
  rw [yz]
  split
  ·exact ⟨hh,PR.refl⟩
  ·obtain ⟨⟨hp,hst⟩,ht⟩:=ha N F k (min (n - k) (4 - (fr + k) % 4)) hW (by omega) hs hh h (by omega) (by omega) (by omega)
   have h1 : PR C F (act F k (min (n - k) (4 - (fr + k) % 4))).2 (x::l) (fun i v=>v = seeF F (x::l) i \/ ∃j,k <= j /\ j < n /\ i = fr + j /\ v = new j):=(ht.top hW hs h hp.rise).mono fun i v e=>by
    rw [e]
    exact (hp.old i).imp id fun ⟨j,j1,j2,j3,j4⟩=>⟨j,j1,by omega,j3,j4⟩
   split
   ·exact ⟨ht.hf hh,h1⟩
   ·obtain ⟨g1,g2⟩:=ih (hW.step hst) (by omega) (hs.step hst) (ht.hf hh) (h.same hst.same) (k:=k + min (n - k) (4 - (fr + k) % 4)) (by omega)
    refine ⟨g1,h1.trans (g2.mono fun i v e=>?_)⟩
    rcases e with e | ⟨j,j1,j2,j3,j4⟩
    ·rw [e]
     exact (hp.old i).imp id fun ⟨j,j1,j2,j3,j4⟩=>⟨j,j1,by omega,j3,j4⟩
    ·exact .inr ⟨j,by omega,j2,j3,j4⟩
theorem W8 {F : ShM} {C : Int} {N : Nat} {x : Int} {l : List Int} (hW : ShW N F) (hN : N + 1000 < 900000) (hs : SF F) (hh : HF F) (h : Fl F C (x::l)) (hl : ∀y∈l,y.toNat≠x.toNat) {fr : Int} {s : ByteArray} (hz : s.size <= 3200) :
  HF (putM F (x::l) fr s).2 /\ PR C F (putM F (x::l) fr s).2 (x::l) (fun i v=>v = seeF F (x::l) i \/ ∃j,j < s.size / 16 /\ i = fr.toNat + j /\ v = lw s j):=by
 unfold putM
 split
 ·exact ⟨hh,PR.refl⟩
 ·split
  ·exact ⟨hh,PR.refl⟩
  ·rename_i h2
   have h2:=Decidable.not_not.1 h2
   obtain ⟨-,w1,w2,w3⟩:=yN h2
   have hcl : clus F ((x::l).getD 0 0) = C:=h.cl x (List.mem_cons_self ..)
   rw [hcl] at w3
   have h5 : topI (x::l) < 5:=by obtain ⟨m,-,h5,-⟩:=h.img hW (List.mem_cons_self ..); exact h5
   obtain ⟨g1,g2⟩:=Lt (act:=putA (x::l) fr.toNat s) (fr:=fr.toNat) (q:=s.size / 16) (k:=0) (new:=lw s) (n:=s.size / 16) (fun N' F' k m hW' hN' hs' hh' h' hkm hm hf=>⟨⟨N1 hW' hN' h' hl (by omega) hf (by omega),EM (hW'.sh hN') _ h5 _ s k m⟩,Qw hW' hN' hs' hh' h' _ _ _⟩) hW (by omega) hs hh h (by omega)
   exact ⟨g1,g2.mono fun i v e=>e.imp id fun ⟨j,_,j2,j3,j4⟩=>⟨j,j2,j3,j4⟩⟩
theorem V2 {F : ShM} {C : Int} {N : Nat} {x : Int} {l : List Int} (hW : ShW N F) (hN : N + 1000 < 900000) (hs : SF F) (hh : HF F) (h : Fl F C (x::l)) (hl : ∀y∈l,y.toNat≠x.toNat) {fr n : Int} (hn : n <= 200) :
  HF (zu F (x::l) fr n).2 /\ PR C F (zu F (x::l) fr n).2 (x::l) (fun i v=>v = seeF F (x::l) i \/ ∃j,j < n.toNat /\ i = fr.toNat + j /\ v = zs 16):=by
 unfold zu
 split
 ·exact ⟨hh,PR.refl⟩
 ·rename_i h2
  have h2:=Decidable.not_not.1 h2
  obtain ⟨-,w1,w2,w3⟩:=yN h2
  have hcl : clus F ((x::l).getD 0 0) = C:=h.cl x (List.mem_cons_self ..)
  rw [hcl] at w3
  have h5 : topI (x::l) < 5:=by obtain ⟨m,-,h5,-⟩:=h.img hW (List.mem_cons_self ..); exact h5
  obtain ⟨g1,g2⟩:=Lt (act:=Bj (x::l) fr.toNat) (fr:=fr.toNat) (q:=n.toNat) (k:=0) (new:=fun _=>zs 16) (n:=n.toNat) (fun N' F' k m hW' hN' hs' hh' h' hkm hm hf=>⟨⟨LP hW' hN' h' hl hf (by omega),Ed (hW'.sh hN') _ h5 _ k m⟩,Vl hW' hN' hs' hh' h' _ _ _⟩) hW (by omega) hs hh h (by omega)
  exact ⟨g1,g2.mono fun i v e=>e.imp id fun ⟨j,_,j2,j3,j4⟩=>⟨j,j2,j3,j4⟩⟩
theorem Uf {F : ShM} {C : Int} {N : Nat} (hW : ShW N F) (hs : SF F) (hh : HF F) {k : Nat} (hk : k < 5) {l : List Int} (h : Fl F C l) : HF (flushI F k) /\ PR C F (flushI F k) l (fun _ _=>False):=by
 unfold flushI
 split
 ·rename_i m hm
  obtain ⟨u,hu⟩:=hs k m hk hm
  have ho:=hW.ok k m hk hm
  have hp:=Wg ho hu
  exact ⟨hh.put k hp.hd,K3 hW hs hm hp (fun i=>.inl (CY ho i)) h⟩
 ·exact ⟨hh,PR.refl⟩
theorem Jg {C : Int} {N : Nat} {l : List Int} : ∀{l' : List Int} {F : ShM},ShW N F -> SF F -> HF F -> (∀x∈l',lz F x) -> Fl F C l -> HF (oZ F l') /\ PR C F (oZ F l') l (fun _ _=>False):=by
 intro l'
 induction l' with
 | nil=>intro F _ _ hh _ _; exact ⟨hh,PR.refl⟩
 | cons x l' ih=>
  intro F hW hs hh hl h
  have hx:=hl x List.mem_cons_self
  have h5 : x.toNat < 5:=by have:=hx.1; have:=hx.2.1; omega
  obtain ⟨a1,a2⟩:=Uf hW hs hh h5 h
  obtain ⟨b1,b2⟩:=ih (CX hW h5) (hs.flushI hW h5) a1 (fun y hy=>B5 (hl y (List.mem_cons_of_mem _ hy))) (h.same (E9 F x.toNat))
  exact ⟨b1,a2.trans b2⟩
theorem Oi {F : ShM} {k j : Nat} (h : ∀m,F j = some m -> m.d.pend = []) : ∀m,flushI F k j = some m -> m.d.pend = []:=by
 intro m hm
 cases e : F k with
 | none=>
  have e2 : flushI F k = F:=by unfold flushI; rw [e]
  rw [e2] at hm
  exact h m hm
 | some i=>
  have e2 : flushI F k = put F k i.flush:=by unfold flushI; rw [e]
  rw [e2] at hm
  unfold put at hm
  split at hm
  ·cases hm; rfl
  ·exact h m hm
theorem Pq {F : ShM} {k : Nat} : ∀m,flushI F k k = some m -> m.d.pend = []:=by
 intro m hm
 cases e : F k with
 | none=>
  have e2 : flushI F k = F:=by unfold flushI; rw [e]
  rw [e2,e] at hm
  cases hm
 | some i=>
  have e2 : flushI F k = put F k i.flush:=by unfold flushI; rw [e]
  rw [e2,oU] at hm
  cases hm
  rfl
theorem K5 : ∀{l : List Int} {F : ShM} {j : Nat},(∀m,F j = some m -> m.d.pend = []) -> ∀m,oZ F l j = some m -> m.d.pend = []:=by
 intro l
 induction l with
 | nil=>intro F j h; exact h
 | cons x l ih=>intro F j h; exact ih (Oi h)
theorem Gq : ∀{l : List Int} {F : ShM},∀x∈l,∀m,oZ F l x.toNat = some m -> m.d.pend = []:=by
 intro l
 induction l with
 | nil=>intro F x hx; cases hx
 | cons y l ih=>
  intro F x hx
  rcases List.mem_cons.1 hx with rfl | hx
  ·show ∀m,oZ (flushI F x.toNat) l x.toNat = some m -> _
   exact K5 Pq
  ·exact ih x hx
theorem VQ {F : ShM} {C : Int} {N : Nat} (hW : ShW N F) (hN : N < 900000) (hs : SF F) (hh : HF F) {k : Nat} (hk : k < 5) (c : Int) {l : List Int} (h : Fl F C l) : HF (linkI F k c).2 /\ PR C F (linkI F k c).2 l (fun _ _=>False):=by
 have hf:=fun (x : Int) i=>KQ hW hN hk c x i
 revert hf
 unfold linkI
 split
 ·rename_i m hm
  intro hf
  obtain ⟨u,hu⟩:=hs k m hk hm
  have ho:=hW.ok k m hk hm
  have hw:=hW.wr k m hk hm
  have hp:=Xy ho hu (hh k m hk hm) (by omega) c
  refine ⟨hh.put k hp.hd,K3 hW hs hm hp (fun i=>.inl ?_) h⟩
  have:=hf (k : Int) i
  rwa [oH (x:=(k : Int)) (m:=(m.link c).2) (by rw [zn]; exact oU F k _),oH (x:=(k : Int)) (m:=m) (by rw [zn]; exact hm)] at this
 ·exact fun _=>⟨hh,PR.refl⟩
theorem Tk {F : ShM} {k : Nat} {c : Int} (h : (linkI F k c).1 = 0) : ∀m,(linkI F k c).2 k = some m -> m.d.pend = []:=by
 unfold linkI at h ⊢
 split
 ·rename_i m hm
  rw [hm] at h
  dsimp only at h ⊢
  intro m' hm'
  rw [oU] at hm'
  cases hm'
  revert h
  unfold ImgM.link
  split
  ·intro h; cases h
  ·split
   ·rename_i h1; intro h; exact absurd h h1
   ·intro _; rfl
 ·rename_i hn; intro m hm; exact absurd (show F k = some m from hm) (by rw [hn]; simp)
theorem L8 {F : ShM} {C : Int} {l : List Int} {N : Nat} (hF : Fl F C l) (hW : ShW N F) {j : JobM} (hj : j.Ok) (hT : JobT F C l j) : ∃m,F (toM j).toNat = some m /\ (toM j).toNat < 5 /\ (m.t.length : Int) = C:=by
 have hp:=hj.pos
 rw [hT.list] at hp
 by_cases h2 : j.kind = 2
 ·have ht : toM j = l.getD 0 0:=by unfold toM; rw [zt h2,hT.list]
  obtain ⟨m,a,b,-,-,-,c⟩:=hF.img hW (mem0 (l:=l) (by omega))
  exact ⟨m,by rw [ht]; exact a,by rw [ht]; exact b,c⟩
 ·have ht : toM j = j.file:=by unfold toM; rw [zq h2]
  rw [ht]
  by_cases h1 : j.kind = 1
  ·obtain ⟨-,⟨f0,f5,m,hm⟩,m3,-⟩:=hT.mir h1
   have ho:=hW.ok _ m (by omega) hm
   have hc : m.c = C:=by rw [<- m3]; unfold clus; rw [hm]
   have:=ho.t
   exact ⟨m,hm,by omega,by omega⟩
  ·obtain ⟨d1,d2,d3⟩:=hT.deep h1
   have hlt:=hT.com (by have:=hj.kind; omega)
   have hx : j.file∈l:=by
    have hlen : (l.drop j.deep).length = l.length - j.deep:=List.length_drop
    cases e : l.drop j.deep with
    | nil=>rw [e] at hlen; simp at hlen; omega
    | cons y r=>
     rw [e] at d3
     have d3 : y = j.file:=d3
     rw [<- d3]
     exact List.mem_of_mem_drop (by rw [e]; exact List.mem_cons_self)
   obtain ⟨m,a,b,-,-,-,c⟩:=hF.img hW hx
   exact ⟨m,a,b,c⟩
theorem We {F : ShM} {N : Nat} (hW : ShW N F) (hN : N < 900000) (hs : SF F) (hh : HF F) {x : Int} {m : ImgM} (h5 : x.toNat < 5) (hm : F x.toNat = some m) (c : Int) (s : ByteArray) : TF F x (y8 F x.toNat c s).2:=by
 obtain ⟨u,hu⟩:=hs _ m h5 hm
 have ho:=hW.ok _ m h5 hm
 have hw:=hW.wr _ m h5 hm
 have hp:=hW.pend _ m h5 hm
 have hd:=hh _ m h5 hm
 unfold y8
 rw [hm]
 dsimp only
 split
 ·exact .inr ⟨m,_,hm,rfl,Ow ho hu hd _⟩
 ·split
  ·exact .inl rfl
  ·split
   ·exact .inr ⟨m,_,hm,rfl,WE ho hu hd _ _ _⟩
   ·exact .inr ⟨m,_,hm,rfl,Qi ho hu hd (by omega) (by omega) _ _⟩
theorem Wd {F : ShM} {C : Int} {l : List Int} {N : Nat} (hF : Fl F C l) (hW : ShW N F) (hN : N < 900000) (hs : SF F) (hh : HF F) {j : JobM} (hj : j.Ok) (hT : JobT F C l j) {c : Nat} (hc : (c : Int) < C) :
  HF (yr F j c).2 /\ PR C F (yr F j c).2 l (fun k v=>v = seeF F l k):=by
 have hl0 : l≠[]:=by have:=hj.pos; rw [hT.list] at this; intro e; rw [e] at this; exact this rfl
 obtain ⟨r1,r2,r3⟩:=Dk hF hW hl0 hc
 have hsee : ∀k,k / 4 = c -> lw (oJ F l (c : Int)).1 (k % 4) = seeF F l k:=fun k hk=>by
  rw [CB,r3 (k % 4) (by omega)]
  congr 1
  omega
 unfold yr
 split
 ·exact ⟨hh,PR.refl⟩
 ·rw [hT.list,zq (by rw [r1]; simp)]
  obtain ⟨m,hm,h5,hl⟩:=L8 hF hW hj hT
  obtain ⟨a1,a2,a3,a4⟩:=C3 hW hN h5 hm (c:=c) (by omega) r2
  have ht:=We hW hN hs hh h5 hm (c : Int) (oJ F l (c : Int)).1
  refine ⟨ht.hf hh,ht.pr hW hs hF fun k=>(a3 k).imp id fun ⟨e1,e2⟩=>⟨_,e2,hsee k e1⟩⟩
theorem VO {F : ShM} {C : Int} {l : List Int} {N : Nat} (hF : Fl F C l) (hW : ShW N F) (hN : N < 900000) (hs : SF F) (hh : HF F) {j : JobM} (hj : j.Ok) (hT : JobT F C l j) :
  HF (lk F j).2.1 /\ PR C F (lk F j).2.1 l (fun k v=>v = seeF F l k):=by
 unfold lk
 split
 ·exact ⟨hh,PR.refl⟩
 ·split
  ·exact ⟨hh,PR.refl⟩
  ·rename_i h2
   have hb : (oo j).2 = true:=by cases h : (oo j).2 <;> simp_all
   obtain ⟨b1,b2⟩:=Lc hj.n hj.x (fr:=(j.at_ : Int)) hb
   have hn:=hT.n
   change (oo j).1 < j.n at b2
   have:=Wd hF hW hN hs hh hj hT (c:=(oo j).1) (by omega)
   split <;> exact this
def NMk (F : ShM) (l : List Int) (d : Nat) (k : Nat) : Prop:=lD F (l.getD 0 0) k≠none \/ ∀y∈l.take d,lD F y k = none
def NM (F : ShM) (C : Int) (l : List Int) (j : JobM) : Prop:=j.kind = 2 -> ∀k : Nat,(k : Int) < 4 * C -> j.x.testBit (k / 4) = false -> NMk F l j.deep k
theorem NM.of {F : ShM} {C : Int} {l : List Int} {j j' : JobM} (h : NM F C l j) (h1 : j'.kind = j.kind) (h2 : j'.deep = j.deep) (h3 : j'.x = j.x) : NM F C l j':=fun hk k hk4 hx=>by
 rw [h2]
 exact h (h1 ▸ hk) k hk4 (h3 ▸ hx)
theorem NMk.faces {F F' : ShM} {l : List Int} {d k : Nat} (h : NMk F l d k) (h0 : l.length≠0) (hf : ∀y∈l,lD F' y k = lD F y k) : NMk F' l d k:=by
 rcases h with h | h
 ·exact .inl (by rw [hf _ (mem0 h0)]; exact h)
 ·exact .inr fun y hy=>(hf y (List.mem_of_mem_take hy)).trans (h y hy)
theorem NM.faces {F F' : ShM} {C : Int} {l : List Int} {j : JobM} (h : NM F C l j) (h0 : l.length≠0) (hf : ∀y∈l,∀k,lD F' y k = lD F y k) : NM F' C l j:=fun hk k hk4 hx=>(h hk k hk4 hx).faces h0 fun y hy=>hf y hy k
theorem NMk.rise {F F' : ShM} {x : Int} {l : List Int} {d k : Nat} (h : NMk F (x::l) d k) (hr : Rise F F' x) (hl : ∀y∈l,y.toNat≠x.toNat) : NMk F' (x::l) d k:=by
 rcases hr.up k with e | e
 ·refine h.faces (by simp) fun y hy=>?_
  rcases List.mem_cons.1 hy with rfl | hy
  ·exact e
  ·exact hr.face (hl y hy) k
 ·exact .inl e
theorem Ni {F : ShM} {C : Int} {l : List Int} {N : Nat} (hF : Fl F C l) (hW : ShW N F) {j : JobM} (hl : j.list = l) (h2 : j.kind = 2) (hd : 1 <= j.deep /\ j.deep <= l.length) {c i : Nat} (hi : i < 4) (hw : oQ F j (c : Int) = false) : NMk F l j.deep (4 * c + i):=by
 have himg : ∀y∈l.take j.deep,∃m,F y.toNat = some m /\ m.Ok:=fun y hy=>by
  obtain ⟨m,a,-,-,b,-⟩:=hF.img hW (List.mem_of_mem_take hy)
  exact ⟨m,a,b⟩
 unfold oQ at hw
 rw [zq (by omega),zt h2,hl] at hw
 unfold yK at hw
 rcases Dc hi (i:=0) himg with ⟨-,f2⟩ | ⟨p,p1,p2,p3,-⟩
 ·exact .inr f2
 ·rw [p2] at hw
  have hp : p = 0:=by have:=of_decide_eq_false hw; omega
  subst hp
  refine .inl ?_
  have e : (l.take j.deep).getD 0 0 = l.getD 0 0:=by
   obtain ⟨x,t,r,e1,e2,-⟩:=EE hd.1 hd.2
   rw [e2,e1]
   rfl
  rw [<- e]
  exact p3
theorem Qo {F : ShM} {N : Nat} (hW : ShW N F) {root kind file rate burst : Int} {l : List Int} {C : Int} (hF : Fl F C l) (hl : l≠[]) (hw : lr F root = (l,0)) (hr : clus F root = C) {j : JobM} (h : (newM F root kind file rate burst).1 = some j) : NM F C l j:=by
 have hT:=Ln hW hF hl hw hr h
 intro hk2 k hk hx
 have hd:=hT.deep (by omega)
 obtain ⟨x0,hx0⟩:=List.exists_mem_of_ne_nil l hl
 obtain ⟨m0,-,-,-,ho0,hc0,-⟩:=hF.img hW hx0
 obtain ⟨C0,q0,q1,q2,-⟩:=ho0.nat
 have key : ∃j0 : JobM,j = zK F j0 /\ j0.n = C.toNat:=by
  have hn : ∀d,(jNew F root kind file rate burst l d).n = C.toNat:=fun d=>by show (clus F root).toNat = _; rw [hr]
  unfold newM at h
  rw [hw] at h
  dsimp only at h
  rw [zq (by simp),zq (by simpa using hl)] at h
  split at h
  ·cases h
  ·split at h
   ·split at h
    ·cases h
    ·split at h
     ·cases h
     ·cases h; exact ⟨_,rfl,hn _⟩
   ·split at h
    ·cases h; exact ⟨_,rfl,hn _⟩
    ·split at h
     ·split at h
      ·cases h
      ·cases h; exact ⟨_,rfl,hn _⟩
     ·cases h
 obtain ⟨j0,rfl,hn⟩:=key
 have hw0 : oQ F (zK F j0) ((k / 4 : Nat) : Int) = oQ F j0 ((k / 4 : Nat) : Int):=rfl
 change (ya F j0 j0.n).testBit (k / 4) = false at hx
 rw [OP (by omega) j0.n (Nat.le_refl _) (k / 4) (by omega),zg (by omega : k / 4 < j0.n),Bool.true_and,<- hw0] at hx
 have:=Ni hF hW hT.list hk2 ⟨hd.1,hd.2.1⟩ (c:=k / 4) (i:=k % 4) (by omega) hx
 rwa [show 4 * (k / 4) + k % 4 = k by omega] at this
theorem VM {F : ShM} {C : Int} {l : List Int} {N : Nat} (hF : Fl F C l) (hW : ShW N F) (hN : N < 900000) {j : JobM} (hj : j.Ok) (hT : JobT F C l j) (h : NM F C l j) (h4 : (lk F j).2.2.st < 4) : NM (lk F j).2.1 C l (lk F j).2.2:=by
 have hl0 : l≠[]:=by have:=hj.pos; rw [hT.list] at this; intro e; rw [e] at this; exact this rfl
 revert h4
 unfold lk
 split
 ·exact fun _=>h
 ·split
  ·exact fun _=>h
  ·rename_i h2
   have hb : (oo j).2 = true:=by cases h : (oo j).2 <;> simp_all
   obtain ⟨b1,b2⟩:=Lc hj.n hj.x (fr:=(j.at_ : Int)) hb
   have hn:=hT.n
   change (oo j).1 < j.n at b2
   split
   ·intro h4
    exact absurd (show (5 : Int) < 4 from h4) (by decide)
   ·rename_i h3
    have h0:=Decidable.not_not.1 h3
    intro _
    obtain ⟨s,e,-⟩:=Dh { j with level:=j.level - 4,x:=(oY j.n j.x ((oo j).1 : Nat) false).2,at_:=(oo j).1 + 1 }
    unfold jdid
    rw [e]
    intro hk2 k hk hx
    have hk2 : j.kind = 2:=hk2
    change (oY j.n j.x ((oo j).1 : Nat) false).2.testBit (k / 4) = false at hx
    show NMk (yr F j ((oo j).1 : Nat)).2 l j.deep k
    rw [IG hj.x] at hx
    have hd:=hT.deep (by omega)
    revert h0
    unfold yr
    split
    ·rename_i hw
     intro _
     by_cases ek : k / 4 = (oo j).1
     ·have:=Ni hF hW hT.list hk2 ⟨hd.1,hd.2.1⟩ (c:=k / 4) (i:=k % 4) (by omega) (by rw [ek]; exact hw)
      rwa [show 4 * (k / 4) + k % 4 = k by omega] at this
     ·rw [zq (fun h=>ek h.1)] at hx
      exact h hk2 k hk hx
    ·obtain ⟨r1,r2,r3⟩:=Dk hF hW hl0 (c:=(oo j).1) (by omega)
     rw [hT.list,zq (by rw [r1]; simp)]
     obtain ⟨m,hm,h5,hml⟩:=L8 hF hW hj hT
     intro h0
     obtain ⟨a1,a2,a3,a4⟩:=C3 hW hN h5 hm (c:=(oo j).1) (by omega) r2
     have ht : toM j = l.getD 0 0:=by unfold toM; rw [zt hk2,hT.list]
     by_cases ek : k / 4 = (oo j).1
     ·refine .inl ?_
      rw [<- ht,a4 h0 k ek]
      simp
     ·rw [zq (fun h=>ek h.1)] at hx
      refine (h hk2 k hk hx).faces (by simpa using hl0) fun y hy=>?_
      by_cases ey : y.toNat = (toM j).toNat
      ·have : y = toM j:=by
        have:=(hF.file y hy).1
        have:=(hF.file _ (mem0 (l:=l) (by simpa using hl0))).1
        rw [ht] at ey ⊢
        omega
       subst this
       rcases a3 k with e | ⟨e,-⟩
       ·exact e
       ·exact absurd e ek
      ·unfold lD
       rw [a1 _ ey]
structure CI (C : Int) (m : le) : Prop where
 hf : HF m.F
 tp : m.top.pend = []
 nm : ∀j,m.job = some j -> j.st < 4 -> NM m.F C m.list j
def PY (C : Int) (m m' : le) : Prop:=∀k : Nat,(k : Int) < 4 * C -> ∀v,pvF m'.F m'.list k v -> pvF m.F m.list k v \/ v = m.see k
structure CS (C : Int) (m m' : le) : Prop where
 ci : CI C m'
 pv : PY C m m'
theorem CS.refl {C : Int} {m : le} (h : CI C m) : CS C m m:=⟨h,fun _ _ _ hv=>.inl hv⟩
theorem CS.of {C : Int} {m m' : le} (h : CI C m) (hF : m'.F = m.F) (hl : m'.list = m.list) (ht : m'.top.pend = []) (hj : ∀j,m'.job = some j -> j.st < 4 -> NM m.F C m.list j) : CS C m m':=
 ⟨⟨by rw [hF]; exact h.hf,ht,by rw [hF,hl]; exact hj⟩,fun k _ v hv=>.inl (by rw [hF,hl] at hv; exact hv)⟩
theorem Ml {m : le} (h : m.top.pend = []) (d : lR) : (lx m d).2.top.pend = []:=by
 unfold lx
 split
 ·rename_i hc
  exact (B7 hc).1.trans h
 ·rfl
theorem CS.desk {C : Int} {m m' : le} (h : CS C m m') (d : lR) : CS C m (lx m' d).2:=by
 have ht:=Ml h.ci.tp d
 obtain ⟨t,d',e⟩:=oP m' d
 rw [e] at ht ⊢
 exact ⟨⟨h.ci.hf,ht,h.ci.nm⟩,h.pv⟩
theorem CS.dk {C : Int} {m m' : le} (h : CS C m m') (d : lR) : CS C m { m' with dk:=d }:=⟨⟨h.ci.hf,h.ci.tp,h.ci.nm⟩,h.pv⟩
theorem CS.off {C : Int} {N : Nat} {m : le} (h : CI C m) (ht : YT C m) (ho : YOk N m) {file : Int} (h0 : 0 <= file) (hu : A1 m file = false) {F' : ShM} {D' : Nat -> DevM} (hF : ∀k,k≠file.toNat -> F' k = m.F k) (hH : HF F') : CS C m { m with F:=F',D:=D' }:=by
 unfold A1 at hu
 rw [Bool.or_eq_false_iff,decide_eq_false_iff_not] at hu
 have hl : ∀y∈m.list,F' y.toNat = m.F y.toNat:=fun y hy=>hF _ (by
  have:=(ht.fl.file y hy).1
  have : y≠file:=fun e=>hu.1 (e ▸ hy)
  omega)
 obtain ⟨s,hs⟩:=ho.head
 refine ⟨⟨hH,h.tp,fun j hj h4=>(h.nm j hj h4).faces (by rw [hs]; simp) fun y hy k=>?_⟩,fun k _ v hv=>.inl (NN hl hv)⟩
 unfold lD
 dsimp only
 rw [hl y hy]
theorem QG {C : Int} {N : Nat} {m : le} (h : CI C m) (ht : YT C m) (hg : ly N m) (hN : N + 10 < 900000) (file back : Int) : CS C m (lZ m file back).2:=by
 unfold lZ
 split
 ·exact CS.refl h
 ·split
  ·exact CS.refl h
  ·rename_i hb hu
   have hu : A1 m file = false:=by simpa using hu
   split
   ·refine CS.off h ht hg.ok (by omega) hu (fun k hk=>zq hk) fun k i hk hi=>?_
    unfold cut at hi
    split at hi
    ·cases hi
    ·exact h.hf k i hk hi
   ·rename_i hc
    have hc0 : (yt m file.toNat back).1 = 0:=Decidable.not_not.1 hc
    obtain ⟨d1,d2,d3⟩:=hg.ok.devOf (k:=file.toNat) (by omega)
    obtain ⟨o1,o2,o3,-⟩:=(AI d1 (by omega) (by omega) (c:=clus m.F m.dk.root) (p:=yR (clus m.F m.dk.root) (devOf m file.toNat)) (b:=back)).2.2.2.2 hc0
    exact CS.off (D':=m.D) h ht hg.ok (by omega) hu (fun k hk=>zq hk) (h.hf.put _ (BW o1 o2 o3).1)
theorem XF {C : Int} {N : Nat} {m : le} (h : CI C m) (ht : YT C m) (hg : ly N m) (hN : N + 10 < 900000) (file : Int) : CS C m (AC m file).2:=by
 have hb:=QG h ht hg hN file m.dk.root
 unfold AC
 split
 ·exact CS.refl h
 ·rename_i hbusy
  split
  ·exact CS.refl h
  ·split
   ·exact hb
   ·rename_i hc
    have hw:=hb.desk (lA file)
    split
    ·exact hw
    ·obtain ⟨f0,f5,hu,hc0,hM⟩:=Ge (Decidable.not_not.1 hc)
     have htp:=hw.ci.tp
     obtain ⟨t,d',e⟩:=oP (lZ m file m.dk.root).2 (lA file)
     rw [e] at htp ⊢
     rw [hM] at hb htp ⊢
     obtain ⟨d1,d2,d3⟩:=hg.ok.devOf (k:=file.toNat) (by omega)
     obtain ⟨o1,o2,o3,-⟩:=(AI d1 (by omega) (by omega) (c:=clus m.F m.dk.root) (p:=yR (clus m.F m.dk.root) (devOf m file.toNat)) (b:=m.dk.root)).2.2.2.2 hc0
     obtain ⟨dv,hi⟩:=C7 (devOf m file.toNat) (clus m.F m.dk.root) (yR (clus m.F m.dk.root) (devOf m file.toNat)) m.dk.root
     have hcl:=ht.cl0 hg.ok
     have hlen : ((yt m file.toNat m.dk.root).2.t.length : Int) = C:=by
      have:=o1.t
      have e2 : (oE (devOf m file.toNat) (clus m.F m.dk.root) (yR (clus m.F m.dk.root) (devOf m file.toNat)) m.dk.root).2.c = clus m.F m.dk.root:=by rw [hi]; rfl
      rw [e2] at this
      rw [<- hcl]
      exact this
     have hface : ∀k,(yt m file.toNat m.dk.root).2.face k = none:=fun k=>by
      change (yt m file.toNat m.dk.root).2 = _ at hi
      rw [hi]
      exact Fx k
     refine ⟨⟨hb.ci.hf,htp,fun j hj h4=>?_⟩,fun k hk v hv=>?_⟩
     ·exfalso
      apply hbusy
      unfold Ae
      rw [show m.job = some j from hj]
      exact zg h4
     ·obtain ⟨i,h1,h2⟩:=hv
      dsimp only at h1
      rw [oU] at h1
      cases h1
      have hst:=(BW o1 o2 o3).2 k (by have : (oE (devOf m file.toNat) (clus m.F m.dk.root) (yR (clus m.F m.dk.root) (devOf m file.toNat)) m.dk.root).2 = (yt m file.toNat m.dk.root).2:=rfl; rw [this]; omega)
      rcases h2 with h2 | ⟨-,h3⟩
      ·have:=hst _ h2
       rw [show (oE (devOf m file.toNat) (clus m.F m.dk.root) (yR (clus m.F m.dk.root) (devOf m file.toNat)) m.dk.root).2.face k = none from hface k] at this
       cases this
      ·exact hb.pv k hk v h3
theorem W7 {C : Int} {N : Nat} {m : le} (h : CI C m) (ht : YT C m) (ho : YOk N m) (kind file rate burst : Int) : CS C m (zP m kind file rate burst).2:=by
 unfold zP
 split
 ·exact CS.refl h
 ·split
  ·exact CS.refl h
  ·split
   ·exact CS.refl h
   ·have hj:=fun j (hj : (newM m.F m.dk.root kind file rate burst).1 = some j)=>Qo ho.sh ht.fl (by obtain ⟨s,hs⟩:=ho.head; rw [hs]; simp) ho.walk (ht.cl0 ho) hj
    generalize newM m.F m.dk.root kind file rate burst = S at *
    obtain ⟨oj,f⟩:=S
    have hw:=(CS.refl h).desk ⟨m.dk.root,kind,file,rate,burst⟩
    cases oj with
    | none=>exact CS.refl h
    | some j=>
     dsimp only
     split
     ·exact hw
     ·have htp:=hw.ci.tp
      obtain ⟨t,d',e⟩:=oP m ⟨m.dk.root,kind,file,rate,burst⟩
      rw [e] at htp ⊢
      refine CS.of h rfl rfl htp fun j' e' _=>?_
      cases e'
      have hn:=hj j rfl
      unfold yX
      rw [zq (by simp)]
      split
      ·obtain ⟨s,e,-⟩:=Dh { j with st:=1 }
       rw [e]
       exact hn.of rfl rfl rfl
      ·exact hn
theorem Xf {C : Int} {m : le} (h : CI C m) (on : Bool) : CS C m (zk m on).2:=by
 unfold zk
 cases hj : m.job with
 | none=>exact CS.refl h
 | some j=>
  dsimp only
  split
  ·exact CS.refl h
  ·refine CS.of h rfl rfl h.tp fun j' e' _=>?_
   cases e'
   have hn:=h.nm j hj (by omega)
   unfold yX
   split
   ·split
    ·exact hn.of rfl rfl rfl
    ·exact hn
   ·split
    ·obtain ⟨s,e,-⟩:=Dh { j with st:=1 }
     rw [e]
     exact hn.of rfl rfl rfl
    ·exact hn
theorem XN {C : Int} {m : le} (h : CI C m) (n : Int) : CS C m (zQ m n).2:=by
 unfold zQ
 split
 ·exact CS.refl h
 ·cases hj : m.job with
  | none=>exact CS.refl h
  | some j=>
   dsimp only
   split
   ·exact CS.refl h
   ·refine CS.of h rfl rfl h.tp fun j' e' _=>?_
    cases e'
    have hn:=h.nm j hj (by omega)
    unfold AP
    split
    ·exact hn.of rfl rfl rfl
    ·exact hn
theorem Ym {C : Int} {N : Nat} {m : le} (h : CI C m) (ht : YT C m) (ho : YOk N m) (hs : SA m) (file n : Int) : CS C m (armM m file n).2:=by
 unfold armM
 split
 ·exact CS.refl h
 ·rename_i hb
  split
  ·exact CS.of h rfl rfl h.tp h.nm
  ·cases e : m.F file.toNat with
   | none=>exact CS.of h rfl rfl h.tp h.nm
   | some i=>
    have hp:=Xj (h.hf _ i (by omega) e) n
    have hface:=fun k=>Mr (ho.sh.ok _ i (by omega) e) (n:=n) k
    obtain ⟨s,hls⟩:=ho.head
    refine ⟨⟨h.hf.put _ hp.hd,h.tp,fun j hj h4=>(h.nm j hj h4).faces (by rw [hls]; simp) fun x _ k=>?_⟩,fun k hk v hv=>.inl ?_⟩
    ·by_cases e2 : x.toNat = file.toNat
     ·unfold lD
      dsimp only
      rw [e2,oU,e]
      exact hface k
     ·unfold lD
      dsimp only
      rw [Ak _ _ e2]
    ·exact (K3 ho.sh hs.f e hp (Q:=fun _ _=>False) (fun k=>.inl (hface k)) ht.fl k hk v hv).resolve_right id
theorem Xs {C : Int} {N : Nat} {m : le} (h : CI C m) (ht : YT C m) (ho : YOk N m) (hs : SA m) : CI C (AD m) /\ ∀k : Nat,(k : Int) < 4 * C -> ∀v,pvF (AD m).F (AD m).list k v -> v = m.see k:=by
 obtain ⟨a1,a2⟩:=Jg (l:=m.list) ho.sh hs.f h.hf ho.files ht.fl
 have hf:=Ce ho.sh ho.files
 obtain ⟨s,hls⟩:=ho.head
 have hsm:=Ah (F:=m.F) (l:=m.list)
 have hW:=EB ho.sh ho.files
 refine ⟨⟨a1,h.tp,fun j hj h4=>(h.nm j hj h4).faces (by show m.list.length≠0; rw [hls]; simp) fun x _ k=>hf x k⟩,fun k hk v hv=>?_⟩
 have:=Gh hW (hs.f.flushAll ho.sh ho.files) hk (ht.fl.same hsm) (fun x hx=>Gq x hx) hv
 rw [this]
 exact ye fun x _=>hf x k
theorem VJ {C : Int} {N : Nat} {m : le} (h : CI C m) (ho : YOk N m) : CS C m (zc m).2:=by
 unfold zc
 cases hj : m.job with
 | none=>exact CS.refl h
 | some j=>
  dsimp only
  split
  ·exact CS.refl h
  ·have hw:=(CS.refl h).desk (lA m.dk.root)
   unfold AN
   split
   ·exact hw
   ·have htp:=hw.ci.tp
    obtain ⟨t,d',e⟩:=oP m (lA m.dk.root)
    rw [e] at htp ⊢
    refine CS.of h rfl (by dsimp only; rw [ho.walk]) htp fun j' e' h4=>?_
    cases e'
    exact absurd h4 (CH _ _)
theorem WI {C : Int} {N : Nat} {m : le} (h : CI C m) (ht : YT C m) (hg : ly N m) (hN : N + 1 < 900000) (hs : SA m) : CS C m (zV m).2:=by
 have ho:=hg.ok
 unfold zV
 cases hj : m.job with
 | none=>exact CS.refl h
 | some j=>
  dsimp only
  split
  ·exact CS.refl h
  ·rename_i h4
   have h4 : j.st < 4:=by omega
   obtain ⟨hS,hl,hk,hf,hr⟩:=ho.job j hj h4
   have hT:=ht.job j hj h4
   have hjo:=ho.jok j hj
   split
   ·exact CS.refl h
   ·rename_i h2
    have hkj : j.kind≠2:=by rw [hk]; exact h2
    obtain ⟨hsm,hjj⟩:=Cj (F:=m.F) hkj
    have hW:=AW ho.sh (by omega) hjo hS
    have hsf:=hs.f.settle ho.sh (by omega) hjo hS
    have hface:=Dw ho.sh (by omega) hjo hS
    obtain ⟨s,hls⟩:=ho.head
    have hpr : HF (ll m.F j).2.1 /\ PR C m.F (ll m.F j).2.1 m.list (fun _ _=>False):=by
     unfold ll
     split
     ·exact ⟨h.hf,PR.refl⟩
     ·split
      ·exact ⟨h.hf,PR.refl⟩
      ·exact Jg ho.sh hs.f h.hf (zo m.F j.file) ht.fl
    have h1 : CS C m { m with F:=(ll m.F j).2.1,job:=some (ll m.F j).2.2 }:=by
     refine ⟨⟨hpr.1,h.tp,fun j' e' h4'=>?_⟩,fun k hk v hv=>.inl ((hpr.2 k hk v hv).resolve_right id)⟩
     cases e'
     rw [hjj]
     exact (h.nm j hj h4).faces (by rw [hls]; simp) fun x _ k=>hface x k
    split
    ·exact h1
    ·rename_i hc
     have h3 : j.st = 3:=by
      refine Decidable.byContradiction fun hn=>hc ?_
      unfold ll
      rw [zt hn]
      show (9 : Int)≠0
      decide
     have hw:=h1.desk (lA m.dk.file)
     unfold AN
     split
     ·exact hw
     ·have htp:=hw.ci.tp
      obtain ⟨t,d',e⟩:=oP { m with F:=(ll m.F j).2.1,job:=some (ll m.F j).2.2 } (lA m.dk.file)
      rw [e] at htp ⊢
      have hch0 : Chn m.F C m.list:=by
       have:=ho.chn
       rwa [ht.cl0 ho] at this
      have hch : Chn (ll m.F j).2.1 C m.list:=hch0.keep fun x hx=>hsm _ (by
       obtain ⟨a,b,-⟩:=hch0.file x hx
       omega)
      have hT2 : JobT (ll m.F j).2.1 C m.list j:=by
       have:=(lT.faces ht hsm hface).t.job j hj h4
       exact this
      obtain ⟨w1,-,-⟩:=D2 hch (M2 ho) (by have:=hjo.kind; omega) hT2
      obtain ⟨w0,-,-⟩:=D2 hch0 (M2 ho) (by have:=hjo.kind; omega) hT
      rw [<- hf]
      refine ⟨⟨hpr.1,htp,fun j' e' h4'=>by cases e'; exact absurd h4' (CH _ _)⟩,fun k hk v hv=>.inr ?_⟩
      dsimp only at hv
      rw [w1] at hv
      have hfa:=Dv (ht.fl.same hsm) hT2
      have:=Gh hW hsf hk hfa (fun x hx i hi=>?_) hv
      ·rw [this,Lu hjo hT2 h3 hk]
       exact ye fun x _=>hface x k
      ·revert hi
       unfold ll
       rw [zq (by omega),zq hkj]
       split
       ·rename_i hc2; exact absurd (by rw [w0]) hc2
       ·rw [w0]
        exact Gq x hx i
theorem XW {C : Int} {N : Nat} {m : le} (h : CI C m) (ht : YT C m) (hg : ly N m) (hN : N + 20 < 900000) (hs : SA m) : CS C m (zU m).2:=by
 have ho:=hg.ok
 unfold zU
 cases hj : m.job with
 | none=>exact CS.refl h
 | some j=>
  dsimp only
  split
  ·exact CS.refl h
  ·rename_i h4
   have h4 : j.st < 4:=by omega
   obtain ⟨hS,hl,hk,hf,hr⟩:=ho.job j hj h4
   have hT:=ht.job j hj h4
   have hjo:=ho.jok j hj
   have hst:=Bm (ho.sh.sh (by omega)) hjo hS
   obtain ⟨-,s2,s3⟩:=Jp ht.fl ho.sh (by omega) hjo hS hT h4
   obtain ⟨p1,p2⟩:=VO ht.fl ho.sh (by omega) hs.f h.hf hjo hT
   have h1 : CS C m { m with F:=(lk m.F j).2.1,job:=some (lk m.F j).2.2 }:=
    ⟨⟨p1,h.tp,fun j' e h4'=>by cases e; exact VM ht.fl ho.sh (by omega) hjo hT (h.nm j hj h4) h4'⟩,fun k hk v hv=>p2 k hk v hv⟩
   split
   ·split
    ·exact h1
    ·exact h1.desk (lA m.dk.root)
   ·split
    ·exact h1
    ·rename_i hc0 hks
     have hk2 : m.dk.kind = 2:=Decidable.byContradiction fun hn=>hks (.inl hn)
     have hs3 : (lk m.F j).2.2.st = 3:=Decidable.byContradiction fun hn=>hks (.inr hn)
     have hg1:=hg.stepJ (by omega) hj h4
     obtain ⟨s,hls⟩:=ho.head
     have hsj:=Bl m.F j
     have hS1 : JobS (lk m.F j).2.1 (lk m.F j).2.2:=(hg1.ok.job _ rfl (by omega)).1
     have hjo1 : (lk m.F j).2.2.Ok:=hg1.ok.jok _ rfl
     have hW1:=hg1.ok.sh
     have hT1 : JobT (lk m.F j).2.1 C m.list (lk m.F j).2.2:=s3 (by omega)
     have hfl1 : Fl (lk m.F j).2.1 C m.list:=ht.fl.same hst.same
     have hsf1:=hs.f.step hst
     have hkk : (lk m.F j).2.2.kind = 2:=by rw [hsj.2.1,hk,hk2]
     have hhd : (lk m.F j).2.2.list.getD 0 0 = m.dk.root:=DO (by rw [hsj.1,hl,hls])
     have hst2:=ID (F:=(lk m.F j).2.1) (j:=(lk m.F j).2.2) hkk hg1.ok.root hhd
     have hlk:=hg.linked (by omega) hj h4 hk2
     have hfc:=Dw hW1 (by omega) hjo1 hS1
     have hW2:=AW hW1 (by omega) hjo1 hS1
     have hsf2:=hsf1.settle hW1 (by omega) hjo1 hS1
     have hnm1:=h1.ci.nm _ rfl (by omega)
     dsimp only at hW1 hnm1
     have hr5 : m.dk.root.toNat < 5:=by have:=ho.root.1; have:=ho.root.2.1; omega
     have hform : (ll (lk m.F j).2.1 (lk m.F j).2.2).2.1 = (linkI (lk m.F j).2.1 m.dk.root.toNat (lk m.F j).2.2.file).2 /\ (ll (lk m.F j).2.1 (lk m.F j).2.2).1 = (linkI (lk m.F j).2.1 m.dk.root.toNat (lk m.F j).2.2.file).1:=by
      unfold ll
      rw [zq (by omega),zt hkk,hhd]
      split
      ·exact ⟨rfl,rfl⟩
      ·rename_i hc
       exact ⟨rfl,(Decidable.not_not.1 hc).symm⟩
     obtain ⟨q1,q2⟩:=VQ hW1 (by omega) hsf1 p1 hr5 (lk m.F j).2.2.file hfl1
     rw [<- hform.1] at q1 q2
     split
     ·rename_i hc
      refine CS.desk (m':={ m with F:=(ll (lk m.F j).2.1 (lk m.F j).2.2).2.1,job:=some (ll (lk m.F j).2.1 (lk m.F j).2.2).2.2 }) ⟨⟨q1,h.tp,fun j' e' h4'=>?_⟩,fun k hk v hv=>?_⟩ (lA m.dk.root)
      ·cases e'
       rw [(hst2.1 hc).2 hs3] at h4'
       exact absurd h4' (by decide)
      ·exact p2 k hk v ((q2 k hk v hv).resolve_right id)
     ·rename_i hc
      have hc:=Decidable.not_not.1 hc
      obtain ⟨b1,b2,b3,b4⟩:=hst2.2 hc
      obtain ⟨t,hwt,ht1,ht2⟩:=hlk hc
      obtain ⟨d1,d2,d3⟩:=hT1.deep (by omega)
      have haft : m.list.drop (lk m.F j).2.2.deep = t:=by
       rw [hsj.2.2.1] at d3
       by_cases hn : j.file = -1
       ·rw [ht1 hn]
        cases e2 : m.list.drop (lk m.F j).2.2.deep with
        | nil=>rfl
        | cons y r=>
         rw [e2] at d3
         have d3 : y = j.file:=d3
         have:=(ht.fl.file y (List.mem_of_mem_drop (by rw [e2]; exact List.mem_cons_self ..))).1
         omega
       ·obtain ⟨p,s',hp,rfl⟩:=ht2 hn
        cases e2 : m.list.drop (lk m.F j).2.2.deep with
        | nil=>rw [e2] at d3; exact absurd d3.symm hn
        | cons y r=>
         rw [e2] at d3
         have d3 : y = j.file:=d3
         subst d3
         congr 1
         have e3 : m.list = m.list.take (lk m.F j).2.2.deep++j.file::r:=by rw [<- e2,List.take_append_drop]
         have hnd:=ht.fl.nd
         rw [e3] at hnd
         exact Ip hnd (e3.symm.trans (hp.trans (List.cons_append).symm))
      have hbase : CS C m { m with F:=(ll (lk m.F j).2.1 (lk m.F j).2.2).2.1,job:=some (endM (ll (lk m.F j).2.1 (lk m.F j).2.2).2.2 true),list:=(lr (ll (lk m.F j).2.1 (lk m.F j).2.2).2.1 m.dk.root).1 }:=by
       refine ⟨⟨q1,h.tp,fun j' e' h4'=>by cases e'; exact absurd h4' (CH _ _)⟩,fun k hk v hv=>?_⟩
       dsimp only at hv
       rw [hwt] at hv
       obtain ⟨i,hi,h2⟩:=hv
       obtain ⟨r0,rm,hi5⟩ : m.dk.root∈m.list /\ True /\ True:=⟨by rw [hls]; exact List.mem_cons_self,trivial,trivial⟩
       have hfl2 : Fl (ll (lk m.F j).2.1 (lk m.F j).2.2).2.1 C [m.dk.root]:=⟨fun y hy=>by rw [List.mem_singleton.1 hy]; exact b4,fun y hy=>by rw [List.mem_singleton.1 hy]; exact b2.trans (hfl1.cl _ r0),by simp⟩
       obtain ⟨i',hi',h5,h0,hoi,hci,hli⟩:=hfl2.img hW2 (List.mem_singleton.2 rfl)
       rw [hi] at hi'
       cases hi'
       obtain ⟨u,hu⟩:=hsf2 _ i h5 hi
       have hpd : i.d.pend = []:=Tk (by rw [<- hform.2]; exact hc) i (by rw [<- hform.1]; exact hi)
       have hstl:=(BW hoi hu hpd).2 k (by omega)
       have hfr : i.face k = lD (lk m.F j).2.1 m.dk.root k:=by rw [<- hfc m.dk.root k,oH hi]
       rcases h2 with h2 | ⟨h2,h3⟩
       ·right
        have e:=hstl _ h2
        rw [hfr] at e
        rw [show m.see k = seeF (lk m.F j).2.1 m.list k from (s2 k).symm,hls]
        exact (yQ e.symm).symm
       ·have e:=hstl _ h2
        rw [hfr] at e
        have hnk:=hnm1 hkk k hk (OI (hT1.r3 hs3) (by have:=hT1.x_lt hk; have:=hjo1.n; omega))
        have hall : ∀y∈m.list.take (lk m.F j).2.2.deep,lD (lk m.F j).2.1 y k = none:=by
         rcases hnk with hnk | hnk
         ·rw [DO hls] at hnk
          exact absurd e.symm hnk
         ·exact hnk
        have hoff : ∀y∈t,(ll (lk m.F j).2.1 (lk m.F j).2.2).2.1 y.toNat = (lk m.F j).2.1 y.toNat:=fun y hy=>b1 _ (by
         have hym : y∈m.list:=List.mem_of_mem_drop (by rw [haft]; exact hy)
         have hy0:=(hfl1.file y hym).1
         have hne : y≠m.dk.root:=fun e=>by
          have hnd:=ht.fl.nd
          rw [<- List.take_append_drop (lk m.F j).2.2.deep m.list,haft] at hnd
          refine (List.nodup_append.1 hnd).2.2 m.dk.root ?_ y hy e.symm
          obtain ⟨x,t',r,e1,e2,-⟩:=EE d1 d2
          rw [e2]
          have : x = m.dk.root:=by
           rw [hls,List.cons_append] at e1
           exact (List.cons.inj e1).1.symm
          rw [this]
          exact List.mem_cons_self
         have hr0 : 0 <= m.dk.root:=ho.root.1
         show y.toNat≠m.dk.root.toNat
         omega)
        have h4:=NN hoff h3
        have h6:=Xp hW1 hsf1 hk h4 (t:=m.list.take (lk m.F j).2.2.deep) (hfl1.sub (List.take_sublist _ _)) hall
        rw [<- haft,List.take_append_drop] at h6
        exact p2 k hk v h6
      exact (hbase.desk (lA m.dk.root)).dk (lA m.dk.root)
theorem QX {s : ByteArray} (hs : s.size = 16) : strOfNums (yw (yG s)) = s:=by
 apply Go.WideShapes.bytes_inj
 have hl : s.data.toList.length = 16:=by rw [Array.length_toList]; exact hs
 have hlen : (yw (yG s)).length = 16:=by rw [Du,Ap]
 have hb : ∀i,i < 16 -> UInt8.ofNat (bt s i).toNat = s.data.toList.getD i 0:=fun i hi=>by
  unfold bt
  rw [zn,UInt8.ofNat_toNat]
 refine List.ext_getElem? fun i=>?_
 by_cases hi : i < 16
 ·have hk : i / 2 < (yG s).length:=by rw [Ap]; omega
  obtain ⟨g1,g2⟩:=I7 (l:=yG s) (k:=i / 2) hk
  have he : ent (yG s) (i / 2) = sEnt s (i / 2):=by rw [El hk]; simp [yG]
  rw [he] at g1 g2
  have hx : (yw (yG s))[i]? = some (bt s i):=by
   by_cases h2 : i % 2 = 0
   ·have e : (yw (yG s))[i]? = (yw (yG s))[2 * (i / 2)]?:=by rw [show 2 * (i / 2) = i by omega]
    rw [e,g1]
    show some (bt s (2 * (i / 2))) = _
    rw [show 2 * (i / 2) = i by omega]
   ·have e : (yw (yG s))[i]? = (yw (yG s))[2 * (i / 2) + 1]?:=by rw [show 2 * (i / 2) + 1 = i by omega]
    rw [e,g2]
    show some (bt s (2 * (i / 2) + 1)) = _
    rw [show 2 * (i / 2) + 1 = i by omega]
  simp only [strOfNums,List.getElem?_map,hx,Option.map_some]
  rw [hb i hi,List.getD_eq_getElem?_getD,List.getElem?_eq_getElem (by omega)]
  rfl
 ·rw [List.getElem?_eq_none (by simp only [strOfNums,List.length_map]; omega),List.getElem?_eq_none (by omega)]
theorem Pv {C : Nat} {P : Int} : ∀{l t t' : List Ent},t.length <= C -> yF C P t l = some t' -> t'.take t.length = t /\ t.length <= t'.length /\ t'.length <= C /\ ∀k,k < l.length -> l.getD k (0,0) = t'.getD (t.length + k) (0,0):=by
 intro l
 induction l with
 | nil=>
  intro t t' h1 h
  rw [yF] at h
  obtain rfl:=Option.some.inj h
  exact ⟨List.take_length,Nat.le_refl _,h1,fun k hk=>by simp at hk⟩
 | cons e l ih=>
  intro t t' h1 h
  rw [yF] at h
  by_cases hc : t.length = C
  ·rw [zt hc] at h
   by_cases he : e = (0,0)
   ·rw [zt he] at h
    obtain ⟨a,a2,b,c⟩:=ih h1 h
    have hd : ∀k,t'.getD (t.length + k) (0,0) = (0,0):=fun k=>by rw [List.getD_eq_getElem?_getD,List.getElem?_eq_none (by omega)]; rfl
    refine ⟨a,a2,b,fun k hk=>?_⟩
    rw [hd]
    cases k with
    | zero=>exact he
    | succ k=>
     rw [List.getD_cons_succ,c k (by simpa using hk),hd]
   ·rw [zq he] at h; cases h
  ·rw [zq hc] at h
   split at h
   ·cases h
   ·obtain ⟨a,a2,b,c⟩:=ih (t:=t++[e]) (by simp only [List.length_append,List.length_cons,List.length_nil]; omega) h
    simp only [List.length_append,List.length_cons,List.length_nil] at a a2 c
    have ht : t'.take t.length = t:=by
     have:=congrArg (List.take t.length) a
     rw [List.take_take,Nat.min_eq_left (by omega),List.take_left] at this
     exact this
    have he : t'.getD t.length (0,0) = e:=by
     have : (t'.take (t.length + 1)).getD t.length (0,0) = (t++[e]).getD t.length (0,0):=by rw [a]
     rw [List.getD_eq_getElem?_getD,List.getElem?_take_of_lt (by omega),<- List.getD_eq_getElem?_getD] at this
     rw [this]
     simp
    refine ⟨ht,by omega,b,fun k hk=>?_⟩
    cases k with
    | zero=>exact he.symm
    | succ k=>
     rw [List.getD_cons_succ,c k (by simpa using hk)]
     congr 1
     omega
theorem OB {C : Nat} {P : Int} : ∀{l : List ByteArray} {t T : List Ent} {r : Nat},t.length = min C (8 * r) -> (∀e∈t,lK e P = true) -> Uniq t -> yA C P t l = (T,0) ->
  T.take t.length = t /\ T.length <= C /\ ∀i,i < l.length -> (l.getD i ByteArray.empty).size = 16 /\ yG (l.getD i ByteArray.empty) = oq T (r + i):=by
 intro l
 induction l with
 | nil=>
  intro t T r h1 _ _ h
  rw [yA] at h
  obtain ⟨rfl,-⟩:=Prod.mk.inj h
  exact ⟨List.take_length,by omega,fun i hi=>by simp at hi⟩
 | cons s l ih=>
  intro t T r h1 h2 h3 h
  rw [yA] at h
  split at h
  ·cases (Prod.mk.inj h).2
  ·rename_i hs
   split at h
   ·cases (Prod.mk.inj h).2
   ·rename_i t' ht
    obtain ⟨a,b,c⟩:=L1 (by omega) h2 h3 ht
    rw [Ap] at a
    obtain ⟨p1,p2,p3,p4⟩:=Pv (by omega) ht
    rw [Ap] at p4
    obtain ⟨q1,q2,q3⟩:=ih (r:=r + 1) (by omega) b c h
    refine ⟨?_,q2,fun i hi=>?_⟩
    ·have:=congrArg (List.take t.length) q1
     rw [List.take_take,Nat.min_eq_left p2,p1] at this
     exact this
    ·cases i with
     | zero=>
      refine ⟨Decidable.not_not.1 hs,List.ext_getElem? fun k=>?_⟩
      show (yG s)[k]? = (oq T r)[k]?
      by_cases hk : k < 8
      ·have e1:=p4 k hk
       have e2:=DG T r k hk
       have hT : ∀i,T.length <= i -> T.getD i (0,0) = (0,0):=fun i hi=>by rw [List.getD_eq_getElem?_getD,List.getElem?_eq_none hi]; rfl
       have e3 : t'.getD (t.length + k) (0,0) = T.getD (8 * r + k) (0,0):=by
        by_cases h8 : t.length + k < t'.length
        ·rw [<- q1,List.getD_eq_getElem?_getD,List.getElem?_take_of_lt (by omega),<- List.getD_eq_getElem?_getD]
         congr 1
         omega
        ·rw [List.getD_eq_getElem?_getD,List.getElem?_eq_none (by omega),hT _ (by omega)]
         rfl
       rw [List.getElem?_eq_getElem (by rw [Ap]; exact hk),List.getElem?_eq_getElem (by rw [yS]; exact hk)]
       congr 1
       rw [List.getD_eq_getElem?_getD,List.getElem?_eq_getElem (by rw [Ap]; exact hk)] at e1
       rw [List.getD_eq_getElem?_getD,List.getElem?_eq_getElem (by rw [yS]; exact hk)] at e2
       exact e1.trans (e3.trans e2.symm)
      ·rw [List.getElem?_eq_none (by rw [Ap]; omega),List.getElem?_eq_none (by rw [yS]; omega)]
     | succ i=>
      have:=q3 i (by simpa using hi)
      rw [List.getD_cons_succ,show r + (i + 1) = r + 1 + i by omega]
      exact this
theorem OK {c p b : Int} {rows : List ByteArray} {T : List Ent} (h : za c p b rows = (T,0)) : ∀i,i < rows.length -> rows.getD i ByteArray.empty = lN T i:=by
 unfold za at h
 split at h
 ·cases (Prod.mk.inj h).2
 ·split at h
  ·cases (Prod.mk.inj h).2
  ·obtain ⟨-,-,q⟩:=OB (t:=[]) (r:=0) (by simp) (fun e he=>by cases he) (fun i j hi=>by simp at hi) h
   intro i hi
   obtain ⟨q1,q2⟩:=q i hi
   rw [Nat.zero_add] at q2
   unfold lN
   rw [<- q2,QX q1]
theorem Ta {d : DevM} (hp : d.pend = []) (h : (zB d).1 = 0) : ∃u,Safe (zB d).2 u:=by
 have hsn : ∀a : Int,d.seen a = d.fl.getD a.toNat ByteArray.empty:=fun a=>y9 fun x hx=>by rw [hp] at hx; cases hx
 unfold zB DD at h ⊢
 split at h
 ·rename_i h1; exact absurd h h1
 ·rename_i h1
  rw [zq h1]
  split at h
  ·cases h
  ·rename_i h2
   rw [zq h2]
   unfold Kb
   dsimp only
   have hT : za (oh (d.seen 0)).1.1 (oh (d.seen 0)).1.2.1 (oh (d.seen 0)).1.2.2 (oy d (oh (d.seen 0)).1.1.toNat) = ((za (oh (d.seen 0)).1.1 (oh (d.seen 0)).1.2.1 (oh (d.seen 0)).1.2.2 (oy d (oh (d.seen 0)).1.1.toNat)).1,0):=Prod.ext rfl h
   obtain ⟨a,b,c⟩:=KC hT
   have hback:=OK hT
   have hhead : lQ (oh (d.seen 0)).1.1 (oh (d.seen 0)).1.2.1 (oh (d.seen 0)).1.2.2 = d.seen 0:=by
    unfold oh at h1 ⊢
    split
    ·rename_i h3; rw [zt h3] at h1; exact absurd h3 h1
    ·rename_i h3
     rw [zq h3] at h1
     split
     ·rename_i h4; rw [zt h4] at h1; exact absurd (by decide : (2 : Int)≠0) h1
     ·rename_i h4
      exact Decidable.not_not.1 fun h5=>h4 (.inr h5)
   generalize (za (oh (d.seen 0)).1.1 (oh (d.seen 0)).1.2.1 (oh (d.seen 0)).1.2.2 (oy d (oh (d.seen 0)).1.1.toNat)).1 = T at *
   have hr : ∀r : Nat,r < lt T.length -> d.seen (1 + (r : Int)) = lN T r:=fun r hr=>by
    have hc : (oh (d.seen 0)).1.1.toNat = T.length:=by omega
    have:=hback r (by unfold oy; rw [List.length_map,List.length_range,hc]; exact hr)
    rw [<- this]
    unfold oy
    rw [hc,List.getD_eq_getElem?_getD,List.getElem?_map,List.getElem?_range hr]
    rfl
   refine ⟨T,rfl,b,c,?_,fun x hx=>?_,fun r hr2 s hs=>⟨T,Sub.self b,?_⟩,Sub.self b,hr⟩
   ·show d.fl.getD 0 ByteArray.empty = _
    have:=hsn 0
    rw [Int.toNat_zero] at this
    rw [<- this]
    exact hhead.symm
   ·change x∈d.pend at hx
    rw [hp] at hx
    cases hx
   ·rcases hs with hs | hs
    ·have e:=hsn (1 + (r : Int))
     rw [show (1 + (r : Int)).toNat = 1 + r by omega] at e
     rw [hs,<- hr r hr2]
     exact e.symm
    ·change _∈d.pend at hs
     rw [hp] at hs
     cases hs
theorem Sr {m : le} (ho : ∀j,m.job = some j -> j.Ok) (f n : Nat) : (oS m (f : Int) (n : Int)).F = m.F /\ (oS m (f : Int) (n : Int)).list = m.list /\ (oS m (f : Int) (n : Int)).top = m.top /\
  ∀j',(oS m (f : Int) (n : Int)).job = some j' -> j'.st < 4 -> j'.kind = 2 -> m.job = some j':=by
 unfold oS
 cases hj : m.job with
 | none=>exact ⟨rfl,rfl,rfl,fun j' e=>by rw [hj] at e; cases e⟩
 | some j=>
  dsimp only
  by_cases hn : (n : Int) = 0
  ·rw [zt hn]
   exact ⟨rfl,rfl,rfl,fun j' e _ _=>by rw [<- hj]; exact e⟩
  ·rw [zq hn]
   refine ⟨rfl,rfl,rfl,fun j' e _ h2=>?_⟩
   have hd : ((f : Int) / 4) = ((f / 4 : Nat) : Int):=by omega
   dsimp only at e
   rw [hd] at e
   obtain ⟨a1,-,-,-,-,a6⟩:=Ig (((f : Int) + (n : Int) - 1) / 4 - ((f / 4 : Nat) : Int) + 1).toNat (ho j hj) (f / 4)
   have e:=Option.some.inj e
   rw [<- e] at h2 ⊢
   rw [a1.2.1] at h2
   rw [a6 h2]
theorem QB {C : Int} {N : Nat} {m : le} (h : CI C m) (ht : YT C m) (ho : YOk N m) {l : List Int} (hl : m.list = m.dk.root::l) {F' : ShM} {f n : Nat} {new : Nat -> ByteArray} {cd : Int} (hp : zH m.dk.root (m.dk.root::l) f new 0 n m.F (cd,F')) (hH : HF F')
  (hpr : PR C m.F F' (m.dk.root::l) (fun i v=>v = seeF m.F (m.dk.root::l) i \/ ∃j,j < n /\ i = f + j /\ v = new j)) :
  CI C (oS { m with F:=F' } (f : Int) (n : Int)) /\ ∀k : Nat,(k : Int) < 4 * C -> ∀v,pvF (oS { m with F:=F' } (f : Int) (n : Int)).F (oS { m with F:=F' } (f : Int) (n : Int)).list k v -> pvF m.F m.list k v \/ v = m.see k \/ ∃j,j < n /\ (k : Int) = (f : Int) + j /\ v = new j:=by
 have hF : Fl m.F C (m.dk.root::l):=by rw [<- hl]; exact ht.fl
 obtain ⟨d1,d2,d3,d4⟩:=Sr (m:={ m with F:=F' }) ho.jok f n
 refine ⟨⟨by rw [d1]; exact hH,by rw [d3]; exact h.tp,fun j' hj h4 hk k hk4 hx=>?_⟩,fun k hk v hv=>?_⟩
 ·have hj0:=d4 j' hj h4 hk
  have:=h.nm j' hj0 h4 hk k hk4 hx
  rw [d1,d2]
  dsimp only
  rw [hl] at this ⊢
  exact this.rise hp.rise (B9 hF)
 ·rw [d1,d2] at hv
  dsimp only at hv
  rw [hl] at hv
  unfold le.see
  rw [hl]
  refine (hpr k hk v hv).imp id (Or.imp id fun ⟨j,j1,j2,j3⟩=>⟨j,j1,by omega,j3⟩)
theorem W2 {C : Int} {N : Nat} {m : le} (h : CI C m) (ht : YT C m) (ho : YOk N m) (hN : N + 1000 < 900000) (hs : SA m) (fr : Int) (s : ByteArray) (hz : s.size <= 3200) :
  CI C (ot m fr s).2 /\ ∀k : Nat,(k : Int) < 4 * C -> ∀v,pvF (ot m fr s).2.F (ot m fr s).2.list k v -> pvF m.F m.list k v \/ v = m.see k \/ ∃j,j < s.size / 16 /\ (k : Int) = fr + j /\ v = lw s j:=by
 obtain ⟨l,hl⟩:=ho.head
 have hF : Fl m.F C (m.dk.root::l):=by rw [<- hl]; exact ht.fl
 unfold ot
 split
 ·exact ⟨h,fun k _ v hv=>.inl hv⟩
 ·rename_i hb
  have hp:=OE ho.sh hN hF (B9 hF) (fr:=fr) hz
  obtain ⟨g1,g2⟩:=W8 ho.sh hN hs.f h.hf hF (B9 hF) (fr:=fr) hz
  rw [<- hl] at hp g1 g2
  rcases hp with ⟨-,-,h3⟩ | ⟨h1,h2,hp⟩
  ·exact absurd h3 hb
  ·obtain ⟨-,w1,w2,w3⟩:=yN h2
   obtain ⟨f,rfl⟩:=ze w1
   rw [zn] at hp g2
   exact QB h ht ho hl (cd:=(putM m.F m.list (f : Int) s).1) (by rw [<- hl]; exact hp) g1 (by rw [<- hl]; exact g2)
theorem XA {C : Int} {N : Nat} {m : le} (h : CI C m) (ht : YT C m) (ho : YOk N m) (hN : N + 1000 < 900000) (hs : SA m) (fr n : Int) (hn : n <= 200) :
  CI C (ow m fr n).2 /\ ∀k : Nat,(k : Int) < 4 * C -> ∀v,pvF (ow m fr n).2.F (ow m fr n).2.list k v -> pvF m.F m.list k v \/ v = m.see k \/ ∃j,j < n.toNat /\ (k : Int) = fr + j /\ v = zs 16:=by
 obtain ⟨l,hl⟩:=ho.head
 have hF : Fl m.F C (m.dk.root::l):=by rw [<- hl]; exact ht.fl
 unfold ow
 split
 ·exact ⟨h,fun k _ v hv=>.inl hv⟩
 ·rename_i hb
  have hp:=LE ho.sh hN hF (B9 hF) (fr:=fr) hn
  obtain ⟨g1,g2⟩:=V2 ho.sh hN hs.f h.hf hF (B9 hF) (fr:=fr) hn
  rw [<- hl] at hp g1 g2
  rcases hp with ⟨-,-,h3⟩ | ⟨h2,hp⟩
  ·exact absurd h3 hb
  ·obtain ⟨-,w1,w2,w3⟩:=yN h2
   obtain ⟨f,rfl⟩:=ze w1
   obtain ⟨q,rfl⟩:=ze w2
   rw [zn,zn] at hp g2
   rw [zn]
   exact QB (new:=fun _=>zs 16) h ht ho hl (cd:=(zu m.F m.list (f : Int) (q : Int)).1) (by rw [<- hl]; exact hp) g1 (by rw [<- hl]; exact g2)
structure GC (C : Int) (m : le) (g : lO) : Prop where
 gi : GI C m g
 ci : CI C m
 pv : ∀k : Nat,(k : Int) < 4 * C -> ∀v,pvF m.F m.list k v -> v∈lsAt g.cr k
theorem GC.saw {C : Int} {m : le} {g : lO} (h : GC C m g) {k : Nat} (hk : (k : Int) < 4 * C) : m.see k∈lsAt g.cr k:=by
 have hn:=h.gi.n
 exact h.gi.sub k (by omega) _ (h.gi.now k (by omega))
theorem GC.still {C : Int} {m m' : le} {g : lO} (h : GC C m g) (s : lT C m m') (c : CS C m m') : GC C m' g:=
 ⟨h.gi.still s,c.ci,fun k hk v hv=>(c.pv k hk v hv).elim (h.pv k hk v) fun e=>by rw [e]; exact h.saw hk⟩
theorem GC.wrote {C : Int} {m m' : le} {g : lO} (h : GC C m g) {code fr : Int} {s : ByteArray} {new : Nat -> ByteArray} (w : M3 C m m' code fr (s.size / 16) new) (hs : ∀j,j < s.size / 16 -> lw s j = new j) (hc : CI C m')
  (hp : ∀k : Nat,(k : Int) < 4 * C -> ∀v,pvF m'.F m'.list k v -> pvF m.F m.list k v \/ v = m.see k \/ ∃j,j < s.size / 16 /\ (k : Int) = fr + j /\ v = new j) :
  GC C m' (if code = 1 then g else Al g fr.toNat s (decide (code = 0))):=by
 have hg:=h.gi.wrote w hs
 refine ⟨hg,hc,fun k hk v hv=>?_⟩
 split
 ·rename_i h1
  have:=w.no h1
  subst this
  exact h.pv k hk v hv
 ·rename_i h1
  obtain ⟨r0,r1⟩:=w.rng h1
  obtain ⟨f,rfl⟩:=ze r0
  rw [zn]
  have hn:=h.gi.n
  have hcr:=h.gi.cr
  have hat:=(F5 (g:=g) (fr:=f) (s:=s) (well:=decide (code = 0)) (k:=s.size / 16) (by omega) (by omega) k).2
  unfold Al
  rw [hat]
  have hold : v∈lsAt g.cr k -> v∈(if f <= k /\ k < f + s.size / 16 then lsAt g.cr k++[lw s (k - f)] else lsAt g.cr k):=fun hm=>by
   split
   ·exact List.mem_append_left _ hm
   ·exact hm
  rcases hp k hk v hv with e | e | ⟨j,j1,j2,j3⟩
  ·exact hold (h.pv k hk v e)
  ·exact hold (by rw [e]; exact h.saw hk)
  ·rw [zt (by omega),j3,<- hs j j1,show k - f = j by omega]
   exact List.mem_append_right _ (List.mem_singleton.2 rfl)
theorem Yi {C : Int} {N : Nat} {m : le} {g : lO} (h : GC C m g) (hs : SA m) (hg : ly N m) (hN : N + 2000 < 900000) (x : Act) (hS : x.S.size <= 700) : GC C (didY m x) (didG m g x):=by
 have ht:=h.gi.t
 unfold didY didG
 by_cases k0 : (x.kind.toList == [119,114,105,116,101]) = true
 ·rw [zt k0,zt k0]
  obtain ⟨c1,c2⟩:=W2 h.ci ht hg.ok (by omega) hs x.A x.S (by omega)
  exact h.wrote (Cc ht hg.ok (by omega) _ _ (by omega)).1 (fun _ _=>rfl) c1 c2
 rw [zq k0,zq k0]
 by_cases k1 : (x.kind.toList == [119,105,112,101]) = true
 ·rw [zt k1,zt k1]
  by_cases hn : x.B <= 200
  ·obtain ⟨w,w2⟩:=C4 ht hg.ok (by omega) x.A x.B hn
   obtain ⟨c1,c2⟩:=XA h.ci ht hg.ok (by omega) hs x.A x.B hn
   have e : (zs (16 * x.B.toNat)).size / 16 = x.B.toNat:=by rw [AG]; omega
   rw [<- e] at w c2
   exact h.wrote w (fun j hj=>FF (by omega)) c1 c2
  ·rw [Bg hg.ok (by omega) hn,zt rfl]; exact h
 rw [zq k1,zq k1]
 by_cases k2 : (x.kind.toList == [102,108,117,115,104]) = true
 ·rw [zt k2,zt k2]
  obtain ⟨c1,c2⟩:=Xs h.ci ht hg.ok hs
  have hgi:=(h.gi.still (Gp ht hg.ok)).flushed
  refine ⟨hgi,c1,fun k hk v hv=>?_⟩
  rw [c2 k hk v hv]
  have hn:=h.gi.n
  exact h.gi.now k (by omega)
 rw [zq k2,zq k2]
 by_cases k3 : (x.kind.toList == [98,108,97,110,107]) = true
 ·rw [zt k3]
  exact h.still (Er ht hg.ok _ _) (QG h.ci ht hg (by omega) _ _)
 rw [zq k3]
 by_cases k4 : (x.kind.toList == [115,110,97,112]) = true
 ·rw [zt k4]
  exact h.still (I0 ht hg _) (XF h.ci ht hg (by omega) _)
 rw [zq k4]
 by_cases k5 : (x.kind.toList == [115,116,97,114,116]) = true
 ·rw [zt k5]
  exact h.still (Gz ht hg.ok _ _ _ _) (W7 h.ci ht hg.ok _ _ _ _)
 rw [zq k5]
 by_cases k6 : (x.kind.toList == [112,105,118,111,116]) = true
 ·rw [zt k6]
  exact h.still (Ia ht hg (by omega)) (WI h.ci ht hg (by omega) hs)
 rw [zq k6]
 by_cases k7 : (x.kind.toList == [99,97,110,99,101,108]) = true
 ·rw [zt k7]
  exact h.still (Gl ht hg.ok) (VJ h.ci hg.ok)
 rw [zq k7]
 by_cases k8 : (x.kind.toList == [112,97,117,115,101]) = true
 ·rw [zt k8]
  exact h.still (Gt ht _) (Xf h.ci _)
 rw [zq k8]
 by_cases k9 : (x.kind.toList == [116,105,99,107]) = true
 ·rw [zt k9]
  exact h.still (GV ht _) (XN h.ci _)
 rw [zq k9]
 by_cases k10 : (x.kind.toList == [102,97,105,108]) = true
 ·rw [zt k10]
  exact h.still (Kg ht hg.ok _ _) (Ym h.ci ht hg.ok hs _ _)
 rw [zq k10]
 exact h.still (GN ht hg (by omega)) (XW h.ci ht hg (by omega) hs)
theorem F8 {N : Nat} {m : le} (h : YOk N m) (hs : SF m.F) (ks : List (List Bool)) {k : Nat} (hk : k < 5) {i : ImgM} (hi : m.F k = some i) : ∃i',opF (l9 m ks) 5 k = some i' /\ i'.c = i.c /\ i'.b = i.b /\ i'.t.length = i.t.length /\ ∀q,q < 4 * i.t.length -> BF i q (i'.face q):=by
 obtain ⟨u,hu⟩:=hs k i hk hi
 have ho:=h.sh.ok k i hk hi
 obtain ⟨T,t1,t2,-,t4⟩:=hu.crash ho (ks.getD k [])
 have hd : l9 m ks k = i.d.crash (ks.getD k []):=by unfold l9 devOf; rw [hi]
 refine ⟨⟨i.d.crash (ks.getD k []),i.c,i.p,i.b,T,[]⟩,?_,rfl,rfl,t2.1.trans hu.ulen,fun q hq=>Wp ho hu _ t2 t4 hq⟩
 unfold opF
 rw [zt hk,hd,t1,zt rfl]
theorem Mu {D : Nat -> DevM} (hp : ∀k,(D k).pend = []) {k : Nat} {i : ImgM} (h : opF D 5 k = some i) : i.d.pend = []:=by
 obtain ⟨-,-,rfl⟩:=Et h
 rw [IL]
 exact hp k
theorem WY {D : Nat -> DevM} (hp : ∀k,(D k).pend = []) : SF (opF D 5):=fun k i hk hi=>by
 obtain ⟨-,h0,rfl⟩:=Et hi
 exact Ta (hp k) h0
theorem VK {N : Nat} {m : le} {C : Int} (h : YOk N m) (hs : SF m.F) (ks : List (List Bool)) {k : Nat} (hk : (k : Int) < 4 * C) : ∀{l : List Int},Fl m.F C l -> pvF m.F l k (seeF (opF (l9 m ks) 5) l k):=by
 intro l
 induction l with
 | nil=>intro _; exact rfl
 | cons x l ih=>
  intro hF
  obtain ⟨i,hi,h5,h0,ho,hc,hl⟩:=hF.img h.sh (List.mem_cons_self ..)
  obtain ⟨i',h1,-,-,-,h2⟩:=F8 h hs ks h5 hi
  have hp:=h2 k (by omega)
  refine ⟨i,hi,?_⟩
  rw [seeF,oH h1]
  cases e : i'.face k with
  | none=>rw [e] at hp; exact .inr ⟨hp,ih hF.tail⟩
  | some s=>rw [e] at hp; exact .inl hp
theorem S0 (m : le) : (zT m).top = m.top:=by
 unfold zT
 split
 ·rfl
 ·split
  ·rfl
  ·split <;> rfl
theorem UH {C : Int} {N : Nat} {m : le} (hW : ShW N m.F) (hn : m.job = none) (hF : Fl m.F C m.list) (hl : m.list≠[]) (hw : lr m.F m.dk.root = (m.list,0)) (hc : clus m.F m.dk.root = C) : ∀j,(zT m).job = some j -> j.st = 2 /\ JobT m.F C m.list j /\ NM m.F C m.list j:=by
 intro j
 unfold zT
 split
 ·intro e; rw [hn] at e; cases e
 ·split
  ·intro e; exact absurd (show m.job = some j from e) (by rw [hn]; simp)
  ·have h1:=fun j h=>Ln hW hF hl hw hc (kind:=m.dk.kind) (file:=m.dk.file) (rate:=m.dk.rate) (burst:=m.dk.burst) (j:=j) h
   have h2:=fun j h=>Qo hW hF hl hw hc (kind:=m.dk.kind) (file:=m.dk.file) (rate:=m.dk.rate) (burst:=m.dk.burst) (j:=j) h
   have h3 : ∀j,(newM m.F m.dk.root m.dk.kind m.dk.file m.dk.rate m.dk.burst).1 = some j -> j.st = 2:=fun j h=>by
    unfold newM at h
    split at h
    ·cases h
    ·split at h
     ·cases h
     ·split at h
      ·cases h
      ·split at h
       ·split at h
        ·cases h
        ·split at h
         ·cases h
         ·cases h; rfl
       ·split at h
        ·cases h; rfl
        ·split at h
         ·split at h
          ·cases h
          ·cases h; rfl
         ·cases h
   generalize newM m.F m.dk.root m.dk.kind m.dk.file m.dk.rate m.dk.burst = S at *
   obtain ⟨oj,f⟩:=S
   cases oj with
   | none=>intro e; exact absurd (show m.job = some j from e) (by rw [hn]; simp)
   | some j0=>
    intro e
    cases (show some j0 = some j from e)
    exact ⟨h3 _ rfl,h1 _ rfl,h2 _ rfl⟩
structure Xv (C : Int) (m m' : le) : Prop where
 t : YT C m'
 ci : CI C m'
 sa : SA m'
 saw : ∀k : Nat,(k : Int) < 4 * C -> pvF m.F m.list k (m'.see k)
 sure : ∀k : Nat,(k : Int) < 4 * C -> ∀v,pvF m'.F m'.list k v -> v = m'.see k
 job : ∀j,m'.job = some j -> j.st = 2
theorem K7 {C : Int} {N : Nat} {m : le} (ht : YT C m) (hc : CI C m) (hs : SA m) (ho : YOk N m) (ks : List (List Bool)) : (yW m ks).1 = 0 /\ Xv C m (yW m ks).2:=by
 obtain ⟨s,e⟩:=ho.head
 have hr : m.dk.root∈m.list:=by rw [e]; exact List.mem_cons_self
 have hpe : ∀k,(l9 m ks k).pend = []:=fun _=>rfl
 have hsf:=WY hpe
 have hW : ShW N (opF (l9 m ks) 5):=Ix fun k hk=>⟨DevM.crash_ok (ho.devOf hk).1 _,(ho.devOf hk).2.1,Nat.zero_le _⟩
 have hshp : ∀x∈m.list,shp (opF (l9 m ks) 5) x.toNat = shp m.F x.toNat:=fun x hx=>by
  obtain ⟨i,hi,h5,-⟩:=ht.fl.img ho.sh hx
  obtain ⟨i',h1,h2,h3,-⟩:=F8 ho hs.f ks h5 hi
  unfold shp
  rw [h1,hi]
  simp [h2,h3]
 have hclu : ∀x∈m.list,clus (opF (l9 m ks) 5) x = C:=fun x hx=>by
  obtain ⟨i,hi,h5,-,-,hic,-⟩:=ht.fl.img ho.sh hx
  obtain ⟨i',h1,h2,-⟩:=F8 ho hs.f ks h5 hi
  unfold clus
  rw [h1]
  exact h2.trans hic
 have hF : Fl (opF (l9 m ks) 5) C m.list:=⟨fun x hx=>by
  obtain ⟨h0,h5,i,hi⟩:=ht.fl.file x hx
  obtain ⟨i',h1,-⟩:=F8 ho hs.f ks (by omega) hi
  exact ⟨h0,h5,i',h1⟩,hclu,ht.fl.nd⟩
 have hwk : lr (opF (l9 m ks) 5) m.dk.root = (m.list,0):=by
  have hch:=ho.chn.keep (F':=opF (l9 m ks) 5) hshp
  have h1:=hclu _ hr
  rw [ht.cl0 ho,<- h1,e] at hch
  have hl:=ho.list5
  rw [e] at hl ⊢
  exact CK hch hl
 have htop : (m.top.crash []).seen 0 = m.top.seen 0:=by
  unfold DevM.seen DevM.crash
  rw [hc.tp]
  rfl
 obtain ⟨d1,d2⟩:=hs.d
 have hcode : (yW m ks).1 = 0 /\ (yW m ks).2 = zT (oO (l9 m ks) (m.top.crash [])):=by
  unfold yW yj
  rw [htop,zq (by rw [d1]; simp),zq (by rw [d2,hwk]; simp)]
  exact ⟨rfl,rfl⟩
 refine ⟨hcode.1,?_⟩
 rw [hcode.2]
 have hdk : (oO (l9 m ks) (m.top.crash [])).dk.root = m.dk.root:=by
  show (dkOf ((m.top.crash []).seen 0)).root = _
  rw [htop]; exact d2
 have hli : (oO (l9 m ks) (m.top.crash [])).list = m.list:=by
  show (lr (opF (l9 m ks) 5) (dkOf ((m.top.crash []).seen 0)).root).1 = _
  rw [htop,d2,hwk]
 obtain ⟨a1,a2,a3⟩:=NX (oO (l9 m ks) (m.top.crash []))
 have a4:=S0 (oO (l9 m ks) (m.top.crash []))
 have hjob:=UH (C:=C) (N:=N) (m:=oO (l9 m ks) (m.top.crash [])) hW rfl (by rw [hli]; exact hF) (by rw [hli,e]; simp) (by rw [hdk,hli]; exact hwk) (by rw [hdk]; exact hclu _ hr)
 rw [hli] at hjob a2
 change (zT (oO (l9 m ks) (m.top.crash []))).F = opF (l9 m ks) 5 at a1
 change (zT (oO (l9 m ks) (m.top.crash []))).top = m.top.crash [] at a4
 change ∀j,_ -> j.st = 2 /\ JobT (opF (l9 m ks) 5) C m.list j /\ NM (opF (l9 m ks) 5) C m.list j at hjob
 rw [hdk] at a3
 generalize zT (oO (l9 m ks) (m.top.crash [])) = m' at *
 refine ⟨⟨by rw [a1,a2]; exact hF,fun j hj _=>by rw [a1,a2]; exact (hjob j hj).2.1⟩,⟨fun k i hk hi=>?_,by rw [a4]; rfl,fun j hj _=>by rw [a1,a2]; exact (hjob j hj).2.2⟩,⟨by rw [a1]; exact hsf,?_⟩,fun k hk=>?_,fun k hk v hv=>?_,fun j hj=>(hjob j hj).1⟩
 ·rw [a1] at hi
  obtain ⟨u,hu⟩:=hsf k i hk hi
  exact (BW (hW.ok k i hk hi) hu (Mu hpe hi)).1
 ·unfold DT
  rw [a4,htop,a3]
  exact ⟨d1,d2⟩
 ·unfold le.see
  rw [a1,a2]
  exact VK ho hs.f ks hk ht.fl
 ·unfold le.see
  rw [a1,a2] at hv ⊢
  exact Gh hW hsf hk hF (fun x _ i hi=>Mu hpe hi) hv
def AS (g : lO) (s : ByteArray) : lO:={ now:=(List.range g.now.length).map fun i=>[lw s i],cr:=(List.range g.now.length).map fun i=>[lw s i] }
theorem G0 {g : lO} {s : ByteArray} {k : Nat} (hk : k < g.now.length) : lsAt ((List.range g.now.length).map fun i=>[lw s i]) k = [lw s k]:=by
 unfold lsAt
 rw [List.getD_eq_getElem?_getD,List.getElem?_map,List.getElem?_range hk]
 rfl
theorem GC.crash {C : Int} {N : Nat} {m : le} {g : lO} (h : GC C m g) (hs : SA m) (hg : ly N m) (hl : YLen m) (hN : N < 900000) (ks : List (List Bool)) :
  M1 g.cr (getM (yW m ks).2.F (yW m ks).2.list 0 (4 * C)).1 /\ GC C (yW m ks).2 (AS g (getM (yW m ks).2.F (yW m ks).2.list 0 (4 * C)).1):=by
 obtain ⟨h0,hc⟩:=K7 h.gi.t h.ci hs hg.ok ks
 have hg':=(Iq hg hl hN ks h0).1
 obtain ⟨-,s1,s2⟩:=Ej hc.t hg'.ok hN
 have hn:=h.gi.n
 have hcr:=h.gi.cr
 generalize (yW m ks).2 = m' at *
 generalize (getM m'.F m'.list 0 (4 * C)).1 = s at *
 refine ⟨⟨by omega,fun i hi=>?_⟩,⟨hc.t,by simp only [AS,List.length_map,List.length_range]; exact hn,by simp only [AS,List.length_map,List.length_range],fun k hk=>?_,fun k hk x hx=>hx⟩,hc.ci,fun k hk v hv=>?_⟩
 ·rw [s2 i (by omega)]
  exact h.pv i (by omega) _ (hc.saw i (by omega))
 ·simp only [AS,List.length_map,List.length_range] at hk
  unfold AS
  dsimp only
  rw [G0 hk,s2 k (by omega)]
  exact List.mem_singleton.2 rfl
 ·unfold AS
  dsimp only
  rw [G0 (by omega),hc.sure k hk v hv,s2 k (by omega)]
  exact List.mem_singleton.2 rfl
theorem V4 {c p : Int} (hb : ¬lH c p (-1)) : GC c (yx c p) (yY (4 * c.toNat)):=by
 have hgi:=Vv hb
 have hsa:=M9 hb
 have hg:=(B2 hb).1
 have hokc:=AI (c:=c) (p:=p) (b:=-1) (Ao (n:=newN c p) (by have:=Fr hb; omega)) (by show (0 : Nat) < _; decide) (by show (0 : Int) < _; decide)
 obtain ⟨o1,o2,o3,-⟩:=hokc.2.2.2.2 (J6 hb)
 obtain ⟨t,d',e⟩:=oP (yZ c p) (lA 0)
 have hF : (yx c p).F = put (fun _=>none) 0 (newI c p):=by unfold yx; rw [e]; rfl
 have hl : (yx c p).list = [0]:=by unfold yx; rw [e]; rfl
 have hj : (yx c p).job = none:=by unfold yx; rw [e]; rfl
 have hpn : ∀k i,(yx c p).F k = some i -> i.d.pend = []:=fun k i hi=>by
  rw [hF] at hi
  unfold put at hi
  split at hi
  ·cases hi; exact o3
  ·cases hi
 refine ⟨hgi,⟨fun k i hk hi=>?_,?_,fun j e=>by rw [hj] at e; cases e⟩,fun k hk v hv=>?_⟩
 ·obtain ⟨u,hu⟩:=hsa.f k i hk hi
  exact (BW (hg.ok.sh.ok k i hk hi) hu (hpn k i hi)).1
 ·unfold yx
  exact Ml (by rfl) _
 ·have:=Gh hg.ok.sh hsa.f hk hgi.t.fl (fun x _ i hi=>hpn _ i hi) hv
  rw [this]
  have hn:=hgi.n
  exact hgi.sub k (by omega) _ (hgi.now k (by omega))
end Go.Proofs.YtbpblokfiajpjabGreatDoor
