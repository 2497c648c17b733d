/- Lemmas on which TopAlone and TopCrash stands: the texts YardT2 YardT3 RYard3 RYard2 RYard5 RYard6 RYard7 RYard8 RYard4 RYard9 RYard10 RYard11 Yard20 Yard21 Yard14 Yard16 Yard17. No conditions. -/
import Derived.Test.YtbpblokfiajpjabGreatDoorPk2cf68901ac
set_option linter.all false
set_option maxRecDepth 1000000
set_option maxHeartbeats 32000000
namespace Go.Proofs.YtbpblokfiajpjabGreatDoor
open Go.RowKit Go.SL Go.Crc
def lD (F : ShM) (x : Int) (k : Nat) : Option ByteArray:=match F x.toNat with
 | some m=>m.face k
 | none=>none
def seeF (F : ShM) : List Int -> Nat -> ByteArray
 | [],_=>zs 16
 | x::l,k=>(lD F x k).getD (seeF F l k)
theorem oH {F : ShM} {x : Int} {m : ImgM} (h : F x.toNat = some m) (k : Nat) : lD F x k = m.face k:=by unfold lD; rw [h]
theorem Cn {F : ShM} {x : Int} {l : List Int} {k : Nat} (h : lD F x k = none) : seeF F (x::l) k = seeF F l k:=by rw [seeF,h]; rfl
theorem yQ {F : ShM} {x : Int} {l : List Int} {k : Nat} {s : ByteArray} (h : lD F x k = some s) : seeF F (x::l) k = s:=by rw [seeF,h]; rfl
theorem ye {F F' : ShM} {k : Nat} : ∀{l : List Int},(∀x∈l,lD F' x k = lD F x k) -> seeF F' l k = seeF F l k:=by
 intro l
 induction l with
 | nil=>intro _; rfl
 | cons x l ih=>
  intro h
  rw [seeF,seeF,h x (List.mem_cons_self ..),ih fun y hy=>h y (List.mem_cons_of_mem _ hy)]
theorem No {F : ShM} {k : Nat} {l' : List Int} : ∀{l : List Int},(∀x∈l,lD F x k = none) -> seeF F (l++l') k = seeF F l' k:=by
 intro l
 induction l with
 | nil=>intro _; rfl
 | cons x l ih=>
  intro h
  rw [List.cons_append,Cn (h x (List.mem_cons_self ..))]
  exact ih fun y hy=>h y (List.mem_cons_of_mem _ hy)
theorem Qr {F : ShM} {k : Nat} {l' : List Int} : ∀{l : List Int},(∃x∈l,lD F x k≠none) -> seeF F (l++l') k = seeF F l k:=by
 intro l
 induction l with
 | nil=>rintro ⟨x,hx,-⟩; cases hx
 | cons x l ih=>
  rintro ⟨y,hy,hn⟩
  rw [List.cons_append]
  cases e : lD F x k with
  | some s=>rw [yQ e,yQ e]
  | none=>
   rw [Cn e,Cn e]
   rcases List.mem_cons.1 hy with rfl | hy
   ·exact absurd e hn
   ·exact ih ⟨y,hy,hn⟩
structure Fl (F : ShM) (C : Int) (l : List Int) : Prop where
 file : ∀x∈l,lz F x
 cl : ∀x∈l,clus F x = C
 nd : l.Nodup
theorem Fl.img {F : ShM} {C : Int} {l : List Int} {N : Nat} (h : Fl F C l) (hW : ShW N F) {x : Int} (hx : x∈l) : ∃m,F x.toNat = some m /\ x.toNat < 5 /\ 0 <= x /\ m.Ok /\ m.c = C /\ (m.t.length : Int) = C:=by
 obtain ⟨h0,h1,m,hm⟩:=h.file x hx
 have hc:=h.cl x hx
 have ho:=hW.ok _ m (by omega) hm
 have hcm : clus F x = m.c:=by unfold clus; rw [hm]
 exact ⟨m,hm,by omega,h0,ho,by omega,by rw [ho.t]; omega⟩
theorem Fl.same {F F' : ShM} {C : Int} {l : List Int} (h : Fl F C l) (s : og F F') : Fl F' C l:=⟨fun x hx=>s.file.2 (h.file x hx),fun x hx=>by rw [s.clus (h.file x hx)]; exact h.cl x hx,h.nd⟩
theorem Fl.tail {F : ShM} {C : Int} {x : Int} {l : List Int} (h : Fl F C (x::l)) : Fl F C l:=⟨fun y hy=>h.file y (List.mem_cons_of_mem _ hy),fun y hy=>h.cl y (List.mem_cons_of_mem _ hy),(List.nodup_cons.1 h.nd).2⟩
theorem Fl.sub {F : ShM} {C : Int} {l l' : List Int} (h : Fl F C l) (hs : l'.Sublist l) : Fl F C l':=⟨fun y hy=>h.file y (hs.subset hy),fun y hy=>h.cl y (hs.subset hy),h.nd.sublist hs⟩
theorem Ve {F : ShM} {x : Int} {m : ImgM} (h : F x.toNat = some m) (hm : m.Ok) (c j : Nat) (hj : j < 4) : hasC F x (c : Int) = true↔lD F x (4 * c + j)≠none:=by
 have e : (4 * c + j) / 4 = c:=by omega
 have ht:=hm.t
 rw [oH h,ne_eq,Aa,e]
 unfold hasC
 rw [h]
 have hk : m.kind (c : Int) = (ent m.t c).1:=rfl
 simp only [Bool.and_eq_true,decide_eq_true_eq,hk]
 constructor
 ·exact fun h=>h.2
 ·intro h
  refine ⟨?_,h⟩
  unfold ImgM.there
  rcases Be hm c with e' | e' | ⟨-,e'⟩
  ·omega
  ·have : c < m.t.length:=Decidable.byContradiction fun hn=>by rw [Fv (by omega)] at e'; cases e'
   simp; omega
  ·simp; omega
theorem Dc {F : ShM} {c j : Nat} (hj : j < 4) : ∀{l : List Int} {i : Nat},(∀x∈l,∃m,F x.toNat = some m /\ m.Ok) ->
  (zA F c i l = -1 /\ ∀x∈l,lD F x (4 * c + j) = none) \/ ∃p : Nat,p < l.length /\ zA F c i l = ((i + p : Nat) : Int) /\ lD F (l.getD p 0) (4 * c + j)≠none /\ ∀q,q < p -> lD F (l.getD q 0) (4 * c + j) = none:=by
 intro l
 induction l with
 | nil=>intro i _; exact .inl ⟨rfl,fun x hx=>by cases hx⟩
 | cons x l ih=>
  intro i h
  obtain ⟨m,hm,ho⟩:=h x (List.mem_cons_self ..)
  have hh:=Ve hm ho c j hj
  rw [zA]
  by_cases hx : hasC F x (c : Int) = true
  ·rw [zt hx]
   exact .inr ⟨0,by simp,rfl,hh.1 hx,fun q hq=>by omega⟩
  ·rw [zq hx]
   have hn : lD F x (4 * c + j) = none:=Decidable.byContradiction fun hn=>hx (hh.2 hn)
   rcases ih (i:=i + 1) fun y hy=>h y (List.mem_cons_of_mem _ hy) with ⟨h1,h2⟩ | ⟨p,h1,h2,h3,h4⟩
   ·refine .inl ⟨h1,fun y hy=>?_⟩
    rcases List.mem_cons.1 hy with rfl | hy
    ·exact hn
    ·exact h2 y hy
   ·refine .inr ⟨p + 1,by simpa using h1,by rw [h2]; congr 1; omega,by simpa using h3,fun q hq=>?_⟩
    cases q with
    | zero=>simpa using hn
    | succ q=>simpa using h4 q (by omega)
theorem XC {F : ShM} {k : Nat} : ∀{l : List Int} {p : Nat},p < l.length -> (∀q,q < p -> lD F (l.getD q 0) k = none) -> ∀{s},lD F (l.getD p 0) k = some s -> seeF F l k = s:=by
 intro l
 induction l with
 | nil=>intro p h; simp at h
 | cons x l ih=>
  intro p hp hq s hs
  cases p with
  | zero=>exact yQ (by simpa using hs)
  | succ p=>
   rw [Cn (by simpa using hq 0 (by omega))]
   exact ih (by simpa using hp) (fun q h=>by simpa using hq (q + 1) (by omega)) (by simpa using hs)
theorem GW {F : ShM} {k : Nat} {l : List Int} (h : ∀x∈l,lD F x k = none) : seeF F l k = zs 16:=by
 have:=No (l':=[]) h
 rwa [List.append_nil] at this
theorem Dk {F : ShM} {C : Int} {l : List Int} {N : Nat} (h : Fl F C l) (hW : ShW N F) (hl : l≠[]) {c : Nat} (hc : (c : Int) < C) : (oJ F l (c : Int)).2 = 0 /\ (oJ F l (c : Int)).1.size = 64 /\ ∀j,j < 4 -> (oJ F l (c : Int)).1.extract (16 * j) (16 * j + 16) = seeF F l (4 * c + j):=by
 obtain ⟨x,l',rfl⟩:=List.exists_cons_of_ne_nil hl
 obtain ⟨m0,hm0,-,-,ho0,hc0,hl0⟩:=h.img hW (List.mem_cons_self ..)
 have hth : CN F x (c : Int) = true:=by unfold CN; rw [hm0]; dsimp only; unfold ImgM.there; simp; omega
 have hr : oJ F (x::l') (c : Int) = IN F (x::l') (c : Int) (yK F (x::l') (c : Int)):=by
  unfold oJ
  rw [zq (by simp),zq (by rw [show (x::l').getD 0 0 = x from rfl,hth]; decide)]
 have himg : ∀y∈x::l',∃m,F y.toNat = some m /\ m.Ok:=fun y hy=>by
  obtain ⟨m,a,-,-,b,-⟩:=h.img hW hy
  exact ⟨m,a,b⟩
 rw [hr]
 unfold IN yK
 rcases Dc (j:=0) (by decide) (i:=0) himg with ⟨h1,h2⟩ | ⟨p,hp,h1,h3,h4⟩
 ·rw [h1,zt (by decide)]
  refine ⟨rfl,AG 64,fun j hj=>?_⟩
  rcases Dc hj (i:=0) himg with ⟨-,h2⟩ | ⟨p,hp,h1',-⟩
  ·rw [GW h2]
   dsimp only
   rw [OG (by omega) (by omega),show 16 * j + 16 - 16 * j = 16 by omega]
  ·rw [h1] at h1'
   omega
 ·rw [h1,zq (by omega)]
  have hmem : (x::l').getD p 0∈x::l':=by
   rw [List.getD_eq_getElem?_getD,List.getElem?_eq_getElem hp]
   exact List.getElem_mem hp
  obtain ⟨m,hm,-,-,ho,hcm,hlm⟩:=h.img hW hmem
  have hi : Eg F ((x::l').getD (((0 + p : Nat) : Int).toNat) 0) (c : Int) = m.read (c : Int):=by
   unfold Eg
   rw [zn,Nat.zero_add,hm]
  rw [hi]
  have hcl : c < m.t.length:=by omega
  have hcode : (m.read (c : Int)).2 = 0:=by
   rcases Mz ho hcl (j:=0) (by decide) with ⟨a,-⟩ | ⟨a,-⟩
   ·rw [oH hm] at h3
    exact absurd a h3
   ·exact a
  refine ⟨hcode,?_,fun j hj=>?_⟩
  ·rcases KZ ho (k:=4 * c) (by omega) with ⟨a,-⟩ | ⟨-,a,-⟩
   ·rw [show 4 * c / 4 = c by omega] at a
    exact absurd hcode a
   ·rw [show 4 * c / 4 = c by omega] at a
    exact a
  ·rcases Dc hj (i:=0) himg with ⟨h1',-⟩ | ⟨p',hp',h1',h3',h4'⟩
   ·rw [h1] at h1'
    omega
   ·obtain rfl : p = p':=by rw [h1] at h1'; omega
    rcases Mz ho hcl hj with ⟨a,-⟩ | ⟨-,a⟩
    ·rw [oH hm] at h3'
     exact absurd a h3'
    ·exact (XC hp' h4' ((oH hm _).trans a)).symm
theorem Iz {F : ShM} {C : Int} {l : List Int} {N : Nat} (h : Fl F C l) (hW : ShW N F) (hl : l≠[]) {k : Nat} (hk : (k : Int) < 4 * C) : EV F l k = seeF F l k:=by
 have:=(Dk h hW hl (c:=k / 4) (by omega)).2.2 (k % 4) (by omega)
 unfold EV
 rw [this]
 congr 1
 omega
theorem VC {F : ShM} {C : Int} {l : List Int} {N : Nat} (h : Fl F C l) (hW : ShW N F) (hl : l≠[]) {k : Nat} (hk : (k : Int) < 4 * C) : (seeF F l k).size = 16:=by
 obtain ⟨-,h2,h3⟩:=Dk h hW hl (c:=k / 4) (by omega)
 have:=h3 (k % 4) (by omega)
 rw [show 4 * (k / 4) + k % 4 = k by omega] at this
 rw [<- this,ByteArray.size_extract,h2]
 omega
structure Rise (F F' : ShM) (x : Int) : Prop where
 off : ∀k,k≠x.toNat -> F' k = F k
 up : ∀k,lD F' x k = lD F x k \/ lD F' x k≠none
theorem Rise.refl (F : ShM) (x : Int) : Rise F F x:=⟨fun _ _=>rfl,fun _=>.inl rfl⟩
theorem Rise.trans {F G H : ShM} {x : Int} (h : Rise F G x) (g : Rise G H x) : Rise F H x:=⟨fun k hk=>(g.off k hk).trans (h.off k hk),fun k=>by
 rcases g.up k with e | e
 ·rw [e]; exact h.up k
 ·exact .inr e⟩
theorem Rise.face {F F' : ShM} {x y : Int} (h : Rise F F' x) (hy : y.toNat≠x.toNat) (k : Nat) : lD F' y k = lD F y k:=by unfold lD; rw [h.off _ hy]
theorem Rise.rest {F F' : ShM} {x : Int} {l : List Int} (h : Rise F F' x) (hl : ∀y∈l,y.toNat≠x.toNat) (k : Nat) : seeF F' l k = seeF F l k:=ye fun y hy=>h.face (hl y hy) k
theorem Rise.of_put {F : ShM} {x : Int} {m m' : ImgM} (hm : F x.toNat = some m) (h : ∀k,m'.face k = m.face k \/ m'.face k≠none) : Rise F (put F x.toNat m') x:=
 ⟨fun k hk=>zq hk,fun k=>by rw [oH (oU F x.toNat m'),oH hm]; exact h k⟩
theorem Rise.two {F F' : ShM} {x : Int} {l l2 : List Int} (h : Rise F F' x) (hl : ∀y∈l,y.toNat≠x.toNat) (hl2 : ∀y∈l2,y.toNat≠x.toNat) {k : Nat} (e : seeF F (x::l) k = seeF F (x::l2) k) : seeF F' (x::l) k = seeF F' (x::l2) k:=by
 rcases h.up k with h1 | h1
 ·rw [seeF,seeF,h1,h.rest hl,h.rest hl2]
  exact e
 ·cases h2 : lD F' x k with
  | none=>exact absurd h2 h1
  | some s=>rw [yQ h2,yQ h2]
theorem KN {d : DevM} {a : Int} {s : ByteArray} (h0 : 0 <= a) (h1 : a < d.fl.length) (hs : s.size = 16) : (d.write a s).1 = 0 \/ (d.write a s).1 = 7:=by
 have hb : ¬(d.bad a s = true):=by
  unfold DevM.bad
  simp only [Bool.or_eq_true,decide_eq_true_eq]
  omega
 unfold DevM.write
 rw [zq hb]
 split
 ·exact .inr rfl
 ·exact .inl rfl
theorem L3 : ∀{l : List ByteArray} {d : DevM} {a : Int},0 <= a -> a + l.length <= d.fl.length -> (∀x∈l,x.size = 16) -> (d.puts a l).1 = 0 \/ (d.puts a l).1 = 7:=by
 intro l
 induction l with
 | nil=>intro d a _ _ _; exact .inl rfl
 | cons s l ih=>
  intro d a h0 h1 hs
  simp only [List.length_cons] at h1
  have hw:=KN (d:=d) h0 (by omega) (hs s (List.mem_cons_self ..))
  rw [DevM.puts]
  split
  ·exact hw
  ·obtain ⟨l1,-,-⟩:=yJ d a s
   exact ih (by omega) (by omega) fun x hx=>hs x (List.mem_cons_of_mem _ hx)
theorem Lv {m : ImgM} (hm : m.Ok) {c : Nat} (hc : c < m.t.length) {e : Ent} (he : lK e m.p = true) : (m.setE c e).1 = 0 \/ (m.setE c e).1 = 7:=by
 have hneed:=hm.need
 rw [Bu hm] at hneed
 have hr:=yi hc
 obtain ⟨C,hC,q1,q2,q3,q4,q5,q6,-⟩:=hm.nat
 have hw:=KN (d:=m.d) (a:=1 + ((c / 8 : Nat) : Int)) (by omega) (by omega) (Ci (m.t.set c e) (c / 8))
 rw [Dr hm hc he]
 split
 ·exact hw
 ·exact .inl rfl
theorem JS {m : ImgM} (hm : m.Ok) {c : Nat} (hc : c < m.t.length) : (m.clear c).1 = 0 \/ (m.clear c).1 = 7:=by
 have ht:=hm.t
 have hth : m.there (c : Int) = true:=by unfold ImgM.there; simp; omega
 unfold ImgM.clear
 rw [zt hth]
 split
 ·exact .inl rfl
 ·exact Lv hm hc rfl
theorem Qp {m : ImgM} (hm : m.Ok) {c f n : Nat} (hc : c < m.t.length) (h2 : m.kind (c : Int) = 2) {s : ByteArray} (hs : s.size = 16 * n) (hf : f + n <= 4) : (m.wr c f s).1 = 0 \/ (m.wr c f s).1 = 7:=by
 have ht:=hm.t
 have hth : m.there (c : Int) = true:=by unfold ImgM.there; simp; omega
 have hb : ¬m.wrBad (c : Int) (f : Int) s:=by
  unfold ImgM.wrBad
  rw [hth]
  simp
  omega
 obtain ⟨r0,r1⟩:=zE hm hc h2
 have h3:=AU hm r0 r1
 have h4:=Aw hm r0
 unfold ImgM.wr
 rw [zq hb,zq (by simpa using h2),zn]
 exact L3 (by omega) (by rw [yq]; omega) (Cf (n:=s.size / 16) (by omega))
theorem Lw {m : ImgM} (hm : m.Ok) (hw : m.d.writes < 999000) (hp : m.d.pend.length < 999000) {c : Nat} (hc : c < m.t.length) (h2 : m.kind (c : Int)≠2) {s : ByteArray} (hs : s.size = 64) : (m.fill c s).1 = 0 \/ (m.fill c s).1 = 6 \/ (m.fill c s).1 = 7:=by
 have ht:=hm.t
 have hth : m.there (c : Int) = true:=by unfold ImgM.there; simp; omega
 unfold ImgM.fill
 rw [zq (by rw [hth]; simp [hs]),zq h2]
 split
 ·exact .inr (.inl rfl)
 ·rename_i hfr
  obtain ⟨C,hC,q1,q2,q3,q4,q5,q6,-⟩:=hm.nat
  obtain ⟨P,hP⟩:=ze q5
  rcases Bx m hP with hq | ⟨q,hq,hqP,-⟩
  ·exact absurd (by rw [hq]; decide) hfr
  ·rw [hq]
   have h3:=AU hm (y:=(q : Int)) (by omega) (by omega)
   have h4:=Aw hm (y:=(q : Int)) (by omega)
   have hpc:=L3 (d:=m.d) (a:=m.first (q : Int)) (l:=lB s 4) (by omega) (by rw [yq]; omega) (Cf (n:=4) (by omega))
   have s1:=CJ (n:=4) hm hw hp h4 (l:=lB s 4) (by rw [yq]; omega) (by omega)
   have s2:=zv s1.ok
   have he : lK (2,(q : Int)) m.p = true:=by unfold lK; rw [zt rfl]; simp; omega
   unfold ImgM.fillAt
   split
   ·rcases hpc with h | h
    ·exact .inl h
    ·exact .inr (.inr h)
   ·rw [zn]
    rcases Lv s2.ok (c:=c) hc (e:=(2,(q : Int))) he with h | h
    ·exact .inl h
    ·exact .inr (.inr h)
theorem B1 (s : ByteArray) (i : Nat) : (lw s i).data.toList = (s.data.toList.drop (16 * i)).take 16:=by
 unfold lw
 rw [Bh,show i * 16 = 16 * i by omega,show (i + 1) * 16 - 16 * i = 16 by omega]
theorem CB (s : ByteArray) (i : Nat) : lw s i = s.extract (16 * i) (16 * i + 16):=by
 unfold lw
 rw [show i * 16 = 16 * i by omega,show (i + 1) * 16 = 16 * i + 16 by omega]
theorem Tb {old s : ByteArray} {f n : Nat} (ho : old.size = 64) (hs : s.size = 16 * n) (hf : f + n <= 4) (i : Nat) :
  (Av old f s).data.toList[i]? = if 16 * f <= i /\ i < 16 * f + 16 * n then s.data.toList[i - 16 * f]? else old.data.toList[i]?:=by
 have lo : old.data.toList.length = 64:=by rw [Array.length_toList]; exact ho
 have ls : s.data.toList.length = 16 * n:=by rw [Array.length_toList]; exact hs
 unfold Av
 rw [ByteArray.data_append,ByteArray.data_append,Array.toList_append,Array.toList_append,Bh,Bh,hs,ho,List.drop_zero]
 by_cases h1 : i < 16 * f
 ·rw [zq (by omega),zp,List.getElem?_append_left (by simp; omega),List.getElem?_take_of_lt (by omega)]
 ·by_cases h2 : i < 16 * f + 16 * n
  ·rw [zt ⟨by omega,h2⟩,List.getElem?_append_left (by simp; omega),List.getElem?_append_right (by simp; omega)]
   congr 1
   simp
   omega
  ·rw [zq (by omega),List.getElem?_append_right (by simp; omega),List.take_of_length_le (by simp; omega),List.getElem?_drop]
   congr 1
   simp
   omega
theorem P8 {old s : ByteArray} {f n : Nat} (ho : old.size = 64) (hs : s.size = 16 * n) (hf : f + n <= 4) : (Av old f s).size = 64:=by
 unfold Av
 rw [ByteArray.size_append,ByteArray.size_append,ByteArray.size_extract,ByteArray.size_extract,ho,hs]
 omega
theorem GT {old s : ByteArray} {f n : Nat} (ho : old.size = 64) (hs : s.size = 16 * n) (hf : f + n <= 4) (j : Nat) : lw (Av old f s) j = if f <= j /\ j < f + n then lw s (j - f) else lw old j:=by
 apply Go.WideShapes.bytes_inj
 have hg:=Tb ho hs hf
 split
 ·rename_i h
  rw [B1,B1]
  refine List.ext_getElem? fun i=>?_
  by_cases hi : i < 16
  ·rw [List.getElem?_take_of_lt hi,List.getElem?_take_of_lt hi,List.getElem?_drop,List.getElem?_drop,hg,zt (by omega)]
   congr 1
   omega
  ·rw [List.getElem?_take_eq_none (by omega),List.getElem?_take_eq_none (by omega)]
 ·rename_i h
  rw [B1,B1]
  refine List.ext_getElem? fun i=>?_
  by_cases hi : i < 16
  ·rw [List.getElem?_take_of_lt hi,List.getElem?_take_of_lt hi,List.getElem?_drop,List.getElem?_drop,hg,zq (by omega)]
  ·rw [List.getElem?_take_eq_none (by omega),List.getElem?_take_eq_none (by omega)]
theorem FF {n j : Nat} (h : j < n) : lw (zs (16 * n)) j = zs 16:=by
 rw [CB,OG (by omega) (by omega),show 16 * j + 16 - 16 * j = 16 by omega]
structure zH (x : Int) (l : List Int) (fr : Nat) (new : Nat -> ByteArray) (k m : Nat) (F : ShM) (r : Int×ShM) : Prop where
 rise : Rise F r.2 x
 code : r.1 = 0 \/ r.1 = 6 \/ r.1 = 7
 old : ∀i,seeF r.2 l i = seeF F l i \/ ∃j,k <= j /\ j < k + m /\ i = fr + j /\ seeF r.2 l i = new j
 did : r.1 = 0 -> ∀j,k <= j -> j < k + m -> seeF r.2 l (fr + j) = new j
theorem zH.still {x : Int} {l : List Int} {fr : Nat} {new : Nat -> ByteArray} {k m : Nat} {F : ShM} (h : ∀j,k <= j -> j < k + m -> seeF F l (fr + j) = new j) : zH x l fr new k m F (0,F):=⟨Rise.refl F x,.inl rfl,fun _=>.inl rfl,fun _=>h⟩
theorem K4 {F : ShM} {x : Int} {l : List Int} {m m' : ImgM} (hm : F x.toNat = some m) (hl : ∀y∈l,y.toNat≠x.toNat) {fr k n : Nat} {new : Nat -> ByteArray} {code : Int} (hcode : code = 0 \/ code = 6 \/ code = 7)
  (ho : ∀i,m'.face i = m.face i \/ (m'.face i = some (seeF F (x::l) i)) \/ ∃j,k <= j /\ j < k + n /\ i = fr + j /\ m'.face i = some (new j))
  (hd : code = 0 -> ∀j,k <= j -> j < k + n -> m'.face (fr + j) = some (new j)) : zH x (x::l) fr new k n F (code,put F x.toNat m'):=by
 have hr : Rise F (put F x.toNat m') x:=Rise.of_put hm fun i=>by
  rcases ho i with h | h | ⟨j,-,-,-,h⟩
  ·exact .inl h
  ·exact .inr (by rw [h]; simp)
  ·exact .inr (by rw [h]; simp)
 have hf : ∀i,lD (put F x.toNat m') x i = m'.face i:=fun i=>oH (oU F x.toNat m') i
 refine ⟨hr,hcode,fun i=>?_,fun h0 j hj hj2=>yQ ((hf _).trans (hd h0 j hj hj2))⟩
 dsimp only
 rcases ho i with h | h | ⟨j,h1,h2,h3,h⟩
 ·left
  rw [seeF,seeF,hf,h,oH hm,hr.rest hl]
 ·left
  exact yQ ((hf i).trans h)
 ·right
  exact ⟨j,h1,h2,h3,yQ ((hf i).trans h)⟩
theorem Ol {F : ShM} {C : Int} {N : Nat} {x : Int} {l : List Int} (hW : ShW N F) (hN : N < 900000) (h : Fl F C (x::l)) (hl : ∀y∈l,y.toNat≠x.toNat) {fr k n : Nat} {s : ByteArray} {new : Nat -> ByteArray} (hs : s.size = 16 * n) (hf : (fr + k) % 4 + n <= 4) (hc : (((fr + k) / 4 : Nat) : Int) < C) (hnew : ∀j,j < n -> lw s j = new (k + j)) :
  zH x (x::l) fr new k n F (layM F (x::l) ((fr + k) / 4) ((fr + k) % 4) s):=by
 obtain ⟨m,hm,h5,h0,ho,hcm,hlm⟩:=h.img hW (List.mem_cons_self ..)
 have hw:=hW.wr _ m h5 hm
 have hp:=hW.pend _ m h5 hm
 have hct : (fr + k) / 4 < m.t.length:=by omega
 unfold layM
 rw [show topI (x::l) = x.toNat from rfl,hm]
 dsimp only
 split
 ·rename_i h2
  have hcd:=Qp ho hct h2 hs hf
  refine K4 hm hl (hcd.imp id .inr) (fun i=>?_) fun hz j hj hj2=>?_
  ·rcases (IJ ho ((fr + k) / 4 : Nat) ((fr + k) % 4 : Nat) s i).1 with h1 | ⟨-,j,j1,j2,j3⟩
   ·exact .inl h1
   ·exact .inr (.inr ⟨k + j,by omega,by omega,by omega,by rw [j3,hnew j (by omega)]⟩)
  ·rw [(IJ ho ((fr + k) / 4 : Nat) ((fr + k) % 4 : Nat) s (fr + j)).2 hz (j - k) (by omega) (by omega),hnew (j - k) (by omega),show k + (j - k) = j by omega]
 ·rename_i h2
  obtain ⟨-,r2,r3⟩:=Dk h hW (by simp) hc
  have hsz:=P8 r2 hs hf
  have hcd:=Lw ho (by omega) (by omega) hct h2 hsz
  have hff:=fun i=>Ma ho (by omega) (by omega) ((fr + k) / 4 : Nat) (Av (oJ F (x::l) ((fr + k) / 4 : Nat)).1 ((fr + k) % 4) s) i
  refine K4 hm hl hcd (fun i=>?_) fun hz j hj hj2=>?_
  ·by_cases hz : (m.fill ((fr + k) / 4 : Nat) (Av (oJ F (x::l) ((fr + k) / 4 : Nat)).1 ((fr + k) % 4) s)).1 = 0
   ·rw [(hff i).2 hz]
    by_cases hi : i / 4 = (fr + k) / 4
    ·rw [zt (by omega),GT r2 hs hf]
     split
     ·rename_i hr
      exact .inr (.inr ⟨k + (i % 4 - (fr + k) % 4),by omega,by omega,by omega,by rw [hnew _ (by omega)]⟩)
     ·rw [CB,r3 (i % 4) (by omega)]
      exact .inr (.inl (by congr 2; omega))
    ·rw [zq (by omega)]
     exact .inl rfl
   ·exact .inl ((hff i).1 hz)
  ·rw [(hff (fr + j)).2 hz,zt (by omega),GT r2 hs hf,zt (by omega),hnew _ (by omega)]
   congr 2
   omega
theorem To {F : ShM} {C : Int} {N : Nat} {x : Int} {l : List Int} (hW : ShW N F) (h : Fl F C (x::l)) (hl : ∀y∈l,y.toNat≠x.toNat) {fr k : Nat} (hf : (fr + k) % 4 + 4 <= 4) (hc : (((fr + k) / 4 : Nat) : Int) < C) :
  zH x (x::l) fr (fun _=>zs 16) k 4 F (Br F (x::l) ((fr + k) / 4)):=by
 obtain ⟨m,hm,h5,h0,ho,hcm,hlm⟩:=h.img hW (List.mem_cons_self ..)
 have hct : (fr + k) / 4 < m.t.length:=by omega
 have hcd:=JS ho hct
 have hff:=fun i=>Kh ho ((fr + k) / 4 : Nat) i
 unfold Br
 rw [show topI (x::l) = x.toNat from rfl,hm]
 dsimp only
 refine K4 hm hl (hcd.imp id .inr) (fun i=>?_) fun hz j hj hj2=>?_
 ·by_cases hz : (m.clear ((fr + k) / 4 : Nat)).1 = 0
  ·rw [(hff i).2 hz]
   by_cases hi : i / 4 = (fr + k) / 4
   ·rw [zt (by omega)]
    exact .inr (.inr ⟨k + i % 4,by omega,by omega,by omega,rfl⟩)
   ·rw [zq (by omega)]
    exact .inl rfl
  ·exact .inl ((hff i).1 hz)
 ·rw [(hff (fr + j)).2 hz,zt (by omega)]
theorem LP {F : ShM} {C : Int} {N : Nat} {x : Int} {l : List Int} (hW : ShW N F) (hN : N < 900000) (h : Fl F C (x::l)) (hl : ∀y∈l,y.toNat≠x.toNat) {fr k n : Nat} (hf : (fr + k) % 4 + n <= 4) (hc : (((fr + k) / 4 : Nat) : Int) < C) :
  zH x (x::l) fr (fun _=>zs 16) k n F (Bj (x::l) fr F k n):=by
 unfold Bj
 split
 ·rename_i h4
  subst h4
  exact To hW h hl hf hc
 ·split
  ·exact Ol hW hN h hl (AG _) hf hc fun j hj=>FF hj
  ·rename_i hk
   obtain ⟨m,hm,h5,h0,ho,hcm,hlm⟩:=h.img hW (List.mem_cons_self ..)
   have hk:=Decidable.not_not.1 hk
   unfold KV at hk
   rw [show topI (x::l) = x.toNat from rfl,hm] at hk
   refine zH.still fun j hj hj2=>yQ ((oH hm _).trans (Bf ?_))
   rw [show (fr + j) / 4 = (fr + k) / 4 by omega]
   exact hk
theorem N1 {F : ShM} {C : Int} {N : Nat} {x : Int} {l : List Int} (hW : ShW N F) (hN : N < 900000) (h : Fl F C (x::l)) (hl : ∀y∈l,y.toNat≠x.toNat) {fr k n : Nat} {s : ByteArray} (hs : 16 * (k + n) <= s.size) (hf : (fr + k) % 4 + n <= 4) (hc : (((fr + k) / 4 : Nat) : Int) < C) :
  zH x (x::l) fr (lw s) k n F (putA (x::l) fr s F k n):=by
 refine Ol hW hN h hl (by rw [ByteArray.size_extract]; omega) hf hc fun j hj=>?_
 apply Go.WideShapes.bytes_inj
 rw [B1,B1,Bh,List.drop_take,List.drop_drop,List.take_take]
 congr 1
 ·omega
 ·congr 1
  omega
theorem K0 {act : ShM -> Nat -> Nat -> Int×ShM} {C : Int} {x : Int} {l : List Int} {fr n : Nat} {new : Nat -> ByteArray}
  (ha : ∀(N : Nat) (F : ShM) (k m : Nat),ShW N F -> N < 900000 -> Fl F C (x::l) -> k + m <= n -> 0 < m -> (fr + k) % 4 + m <= 4 -> zH x (x::l) fr new k m F (act F k m) /\ lJ 5 F (act F k m).2) :
  ∀{q : Nat} {F : ShM} {k N : Nat},ShW N F -> N + 5 * q < 900000 -> Fl F C (x::l) -> n - k <= q -> zH x (x::l) fr new k (n - k) F (yz act q F fr k n):=by
 intro q
 induction q with
 | zero=>
  intro F k N hW hN h hq
  rw [yz]
  exact zH.still fun j _ _=>by omega
 | succ q ih=>
  intro F k N hW hN h hq
  rw [yz]
  split
  ·exact zH.still fun j _ _=>by omega
  ·obtain ⟨hp,hst⟩:=ha N F k (min (n - k) (4 - (fr + k) % 4)) hW (by omega) h (by omega) (by omega) (by omega)
   generalize hmm : min (n - k) (4 - (fr + k) % 4) = mm at *
   split
   ·rename_i hc
    exact ⟨hp.rise,hp.code,fun i=>(hp.old i).imp id fun ⟨j,j1,j2,j3⟩=>⟨j,j1,by omega,j3⟩,fun h0=>absurd h0 hc⟩
   ·rename_i hc
    have hc:=Decidable.not_not.1 hc
    have h2:=ih (hW.step hst) (by omega) (h.same hst.same) (k:=k + mm) (by omega)
    refine ⟨hp.rise.trans h2.rise,h2.code,fun i=>?_,fun h0 j hj hj2=>?_⟩
    ·rcases h2.old i with e | ⟨j,j1,j2,j3⟩
     ·rw [e]
      exact (hp.old i).imp id fun ⟨j,j1,j2,j3⟩=>⟨j,j1,by omega,j3⟩
     ·exact .inr ⟨j,by omega,by omega,j3⟩
    ·by_cases hjm : k + mm <= j
     ·exact h2.did h0 j hjm (by omega)
     ·rcases h2.old (fr + j) with e | ⟨j',j1,j2,j3,-⟩
      ·rw [e]
       exact hp.did hc j hj (by omega)
      ·omega
theorem Jh (F : ShM) (l : List Int) (fr n : Int) : lV F l fr n = 0 \/ lV F l fr n = 1 \/ (lV F l fr n = 4 /\ l.length = 0):=by
 unfold lV
 split
 ·rename_i h; exact .inr (.inr ⟨rfl,by simpa using h⟩)
 ·split
  ·exact .inr (.inl rfl)
  ·exact .inl rfl
theorem OE {F : ShM} {C : Int} {N : Nat} {x : Int} {l : List Int} (hW : ShW N F) (hN : N + 1000 < 900000) (h : Fl F C (x::l)) (hl : ∀y∈l,y.toNat≠x.toNat) {fr : Int} {s : ByteArray} (hs : s.size <= 3200) :
  ((putM F (x::l) fr s).1 = 1 /\ (putM F (x::l) fr s).2 = F /\ (s.size % 16≠0 \/ lV F (x::l) fr ((s.size / 16 : Nat) : Int)≠0)) \/
  (s.size % 16 = 0 /\ lV F (x::l) fr ((s.size / 16 : Nat) : Int) = 0 /\ zH x (x::l) fr.toNat (lw s) 0 (s.size / 16) F (putM F (x::l) fr s)):=by
 unfold putM
 split
 ·rename_i h1
  exact .inl ⟨rfl,rfl,.inl h1⟩
 ·rename_i h1
  have h1:=Decidable.not_not.1 h1
  split
  ·rename_i h2
   rcases Jh F (x::l) fr ((s.size / 16 : Nat) : Int) with e | e | ⟨-,e⟩
   ·exact absurd e h2
   ·exact .inl ⟨e,rfl,.inr h2⟩
   ·simp at e
  ·rename_i h2
   have h2:=Decidable.not_not.1 h2
   obtain ⟨-,w1,w2,w3⟩:=yN h2
   have hcl : clus F ((x::l).getD 0 0) = C:=h.cl x (List.mem_cons_self ..)
   rw [hcl] at w3
   have h5 : topI (x::l) < 5:=by obtain ⟨m,-,h5,-⟩:=h.img hW (List.mem_cons_self ..); exact h5
   exact .inr ⟨h1,h2,K0 (n:=s.size / 16) (fun N' F' k m hW' hN' h' hkm hm hf=>⟨N1 hW' hN' h' hl (by omega) hf (by omega),EM (hW'.sh hN') _ h5 _ s k m⟩) hW (by omega) h (by omega)⟩
theorem LE {F : ShM} {C : Int} {N : Nat} {x : Int} {l : List Int} (hW : ShW N F) (hN : N + 1000 < 900000) (h : Fl F C (x::l)) (hl : ∀y∈l,y.toNat≠x.toNat) {fr n : Int} (hn : n <= 200) :
  ((zu F (x::l) fr n).1 = 1 /\ (zu F (x::l) fr n).2 = F /\ lV F (x::l) fr n≠0) \/
  (lV F (x::l) fr n = 0 /\ zH x (x::l) fr.toNat (fun _=>zs 16) 0 n.toNat F (zu F (x::l) fr n)):=by
 unfold zu
 split
 ·rename_i h2
  rcases Jh F (x::l) fr n with e | e | ⟨-,e⟩
  ·exact absurd e h2
  ·exact .inl ⟨e,rfl,h2⟩
  ·simp at e
 ·rename_i h2
  have h2:=Decidable.not_not.1 h2
  obtain ⟨-,w1,w2,w3⟩:=yN h2
  have hcl : clus F ((x::l).getD 0 0) = C:=h.cl x (List.mem_cons_self ..)
  rw [hcl] at w3
  have h5 : topI (x::l) < 5:=by obtain ⟨m,-,h5,-⟩:=h.img hW (List.mem_cons_self ..); exact h5
  exact .inr ⟨h2,K0 (n:=n.toNat) (fun N' F' k m hW' hN' h' hkm hm hf=>⟨LP hW' hN' h' hl hf (by omega),Ed (hW'.sh hN') _ h5 _ k m⟩) hW (by omega) h (by omega)⟩
theorem C3 {F : ShM} {N : Nat} (hW : ShW N F) (hN : N < 900000) {x : Int} {m : ImgM} (h5 : x.toNat < 5) (hm : F x.toNat = some m) {c : Nat} (hc : c < m.t.length) {s : ByteArray} (hs : s.size = 64) :
  (∀k,k≠x.toNat -> (y8 F x.toNat c s).2 k = F k) /\ ((y8 F x.toNat c s).1 = 0 \/ (y8 F x.toNat c s).1 = 6 \/ (y8 F x.toNat c s).1 = 7) /\
  (∀k,lD (y8 F x.toNat c s).2 x k = lD F x k \/ (k / 4 = c /\ lD (y8 F x.toNat c s).2 x k = some (lw s (k % 4)))) /\
  ((y8 F x.toNat c s).1 = 0 -> ∀k,k / 4 = c -> lD (y8 F x.toNat c s).2 x k = some (lw s (k % 4))):=by
 have ho:=hW.ok _ m h5 hm
 have hw:=hW.wr _ m h5 hm
 have hp:=hW.pend _ m h5 hm
 have ht:=ho.t
 have hth : m.there (c : Int) = true:=by unfold ImgM.there; simp; omega
 have hat : ∀(m' : ImgM) k,lD (put F x.toNat m') x k = m'.face k:=fun m' k=>oH (oU F x.toNat m') k
 unfold y8
 rw [hm]
 dsimp only
 split
 ·rename_i hz
  have hff:=fun i=>Kh ho (c : Int) i
  refine ⟨fun k hk=>zq hk,(JS ho hc).imp id .inr,fun k=>?_,fun h0 k hk=>?_⟩
  ·rw [hat,oH hm]
   by_cases h0 : (m.clear (c : Int)).1 = 0
   ·rw [(hff k).2 h0]
    by_cases hk : k / 4 = c
    ·rw [zt (by omega)]
     exact .inr ⟨hk,by rw [hz,show (64 : Nat) = 16 * 4 from rfl,FF (by omega)]⟩
    ·rw [zq (by omega)]
     exact .inl rfl
   ·exact .inl ((hff k).1 h0)
  ·rw [hat,(hff k).2 h0,zt (by omega),hz,show (64 : Nat) = 16 * 4 from rfl,FF (by omega)]
 ·rw [zq (by rw [hth]; decide)]
  split
  ·rename_i h2
   have hcd:=Qp (f:=0) ho hc h2 (s:=s) (n:=4) (by omega) (by omega)
   refine ⟨fun k hk=>zq hk,hcd.imp id .inr,fun k=>?_,fun h0 k hk=>?_⟩
   ·rw [hat,oH hm]
    rcases (IJ ho (c : Int) 0 s k).1 with h1 | ⟨-,j,j1,j2,j3⟩
    ·exact .inl h1
    ·exact .inr ⟨by omega,by rw [j3]; congr 2; omega⟩
   ·rw [hat]
    exact (IJ ho (c : Int) 0 s k).2 h0 (k % 4) (by omega) (by omega)
  ·rename_i h2
   have hff:=fun i=>Ma ho (by omega) (by omega) (c : Int) s i
   refine ⟨fun k hk=>zq hk,Lw ho (by omega) (by omega) hc h2 hs,fun k=>?_,fun h0 k hk=>?_⟩
   ·rw [hat,oH hm]
    by_cases h0 : (m.fill (c : Int) s).1 = 0
    ·rw [(hff k).2 h0]
     by_cases hk : k / 4 = c
     ·rw [zt (by omega)]
      exact .inr ⟨hk,rfl⟩
     ·rw [zq (by omega)]
      exact .inl rfl
    ·exact .inl ((hff k).1 h0)
   ·rw [hat,(hff k).2 h0,zt (by omega)]
theorem My {x n : Nat} (hx : x < 2 ^ n) (h0 : x≠0) : ∃q,q < n /\ x.testBit q = true /\ ∀r,r < q -> x.testBit r = false:=by
 refine Classical.byContradiction fun hn=>h0 ?_
 have key : ∀k,k <= n -> ∀r,r < k -> x.testBit r = false:=by
  intro k
  induction k with
  | zero=>intro _ r hr; omega
  | succ k ih=>
   intro hk r hr
   by_cases e : r = k
   ·subst e
    cases hb : x.testBit r with
    | false=>rfl
    | true=>exact absurd ⟨r,by omega,hb,ih (by omega)⟩ hn
   ·exact ih (by omega) r (by omega)
 have:=WU hx (k:=0) (fun r _ hr=>key n (Nat.le_refl n) r hr)
 simpa using this
theorem IG {n x : Nat} (hx : x < 2 ^ n) (c : Nat) (v : Bool) (q : Nat) : (oY n x (c : Int) v).2.testBit q = if q = c /\ c < n then v else x.testBit q:=by
 unfold oY
 by_cases h : 0 <= (c : Int) /\ (c : Int) < n /\ x.testBit (c : Int).toNat≠v
 ·rw [zt h]
  obtain ⟨-,h1,h2⟩:=h
  rw [zn] at h2 ⊢
  rw [Nat.testBit_xor,Nat.testBit_two_pow]
  by_cases e : q = c
  ·subst e
   rw [zt ⟨rfl,by omega⟩]
   revert h2
   cases x.testBit q <;> cases v <;> simp
  ·rw [zq (fun h=>e h.1)]
   have : ¬c = q:=fun h=>e h.symm
   simp [this]
 ·rw [zq h]
  by_cases e : q = c /\ c < n
  ·rw [zt e]
   obtain ⟨rfl,hq⟩:=e
   refine Decidable.byContradiction fun hn=>h ⟨by omega,by omega,?_⟩
   rw [zn]
   exact hn
  ·rw [zq e]
theorem Vh : ∀{k x : Nat},Ones.popc k x = 0 -> ∀i,i < k -> x.testBit i = false:=by
 intro k
 induction k with
 | zero=>intro x _ i hi; omega
 | succ k ih=>
  intro x h i hi
  rw [Ones.popc_end] at h
  by_cases e : i = k
  ·subst e
   rw [DH]
   simp
   omega
  ·exact ih (by omega) i (by omega)
theorem XS (x : Nat) : cnt x = Ones.popc 64 x:=by unfold cnt; rfl
theorem OI {x : Nat} (h : cnt x = 0) {i : Nat} (hi : i < 64) : x.testBit i = false:=Vh (by rw [<- XS]; exact h) i hi
theorem Lc {n x : Nat} (hn : n <= 64) (hx : x < 2 ^ n) {fr : Int} (h : (Bo n x fr).2 = true) : x.testBit (Bo n x fr).1 = true /\ (Bo n x fr).1 < n:=by
 unfold Bo at h ⊢
 split at h
 ·cases h
 ·rename_i h0
  rw [zq h0]
  split
  ·rename_i h1
   obtain ⟨h1,h2,h3⟩:=h1
   obtain ⟨f,rfl⟩:=ze (show 0 <= fr by omega)
   rw [zn] at h3 ⊢
   have hd : x / 2 ^ f < 2 ^ n:=Nat.lt_of_le_of_lt (Nat.div_le_self _ _) hx
   obtain ⟨q,q1,q2,q3⟩:=My hd h3
   rw [Uu (by omega) q2 q3]
   rw [Nat.testBit_div_two_pow] at q2
   refine ⟨by rw [Nat.add_comm]; exact q2,?_⟩
   show f + q < n
   refine Decidable.byContradiction fun hn'=>?_
   rw [Nat.testBit_lt_two_pow (Nat.lt_of_lt_of_le hx (Nat.pow_le_pow_right (by decide) (by omega)))] at q2
   cases q2
  ·obtain ⟨q,q1,q2,q3⟩:=My hx h0
   rw [Uu (by omega) q2 q3]
   exact ⟨q2,q1⟩
def ov (j : JobM) (l : List Int) : List Int:=if j.kind = 1 then [j.file] else if j.kind = 2 then l.take 1++l.drop j.deep else l.drop j.deep
structure JobT (F : ShM) (C : Int) (l : List Int) (j : JobM) : Prop where
 list : j.list = l
 n : (j.n : Int) = C
 deep : j.kind≠1 -> 1 <= j.deep /\ j.deep <= l.length /\ (l.drop j.deep).headD (-1) = j.file
 com : j.kind = 3 -> j.deep < l.length
 mir : j.kind = 1 -> j.file∉l /\ lz F j.file /\ clus F j.file = C /\ bkOf F j.file = -1
 r1 : j.st = 1 -> cnt j.x≠0
 r3 : j.st = 3 -> cnt j.x = 0
 see : ∀k : Nat,(k : Int) < 4 * C -> j.x.testBit (k / 4) = false -> seeF F (ov j l) k = seeF F l k
theorem PC {j j' : JobM} (h : yy j j') (hd : j'.deep = j.deep) (l : List Int) : ov j' l = ov j l:=by
 unfold ov
 rw [h.2.1,h.2.2.1,hd]
theorem EE {l : List Int} {d : Nat} (h1 : 1 <= d) (h2 : d <= l.length) : ∃x t r,l = x::t++r /\ l.take d = x::t /\ l.drop d = r /\ l.take 1 = [x]:=by
 cases l with
 | nil=>simp at h2; omega
 | cons x l=>
  obtain ⟨d,rfl⟩ : ∃q,d = q + 1:=⟨d - 1,by omega⟩
  exact ⟨x,l.take d,l.drop d,by rw [List.cons_append,List.take_append_drop],by simp,by simp,by simp⟩
theorem GM {F : ShM} {C : Int} {l : List Int} {N : Nat} (hF : Fl F C l) (hW : ShW N F) {j : JobM} (hl : j.list = l) (h1 : j.kind≠1) (hk : j.kind = 2 \/ j.kind = 3) (hd : 1 <= j.deep /\ j.deep <= l.length) {c i : Nat} (hi : i < 4) :
  (oQ F j (c : Int) = false -> seeF F (ov j l) (4 * c + i) = seeF F l (4 * c + i)) /\ (oQ F j (c : Int) = true -> ∃x∈l.take j.deep,lD F x (4 * c + i)≠none):=by
 obtain ⟨x,t,r,e1,e2,e3,e4⟩:=EE hd.1 hd.2
 have himg : ∀y∈l.take j.deep,∃m,F y.toNat = some m /\ m.Ok:=fun y hy=>by
  obtain ⟨m,a,-,-,b,-⟩:=hF.img hW (List.mem_of_mem_take hy)
  exact ⟨m,a,b⟩
 have ha : ov j l = if j.kind = 2 then x::r else r:=by
  unfold ov
  rw [zq h1,e3,e4]
  rfl
 unfold oQ
 rw [zq h1,hl]
 unfold yK
 rcases Dc hi (i:=0) himg with ⟨f1,f2⟩ | ⟨p,p1,p2,p3,p4⟩
 ·rw [f1]
  refine ⟨fun _=>?_,fun h=>?_⟩
  ·rw [e2] at f2
   rw [ha,e1]
   have e0 : seeF F (x::t++r) (4 * c + i) = seeF F r (4 * c + i):=No f2
   rw [e0]
   split
   ·exact Cn (f2 x (List.mem_cons_self ..))
   ·rfl
  ·split at h
   ·cases h
   ·cases h
 ·rw [p2]
  have hmem : (l.take j.deep).getD p 0∈l.take j.deep:=by
   rw [List.getD_eq_getElem?_getD,List.getElem?_eq_getElem p1]
   exact List.getElem_mem p1
  refine ⟨fun h=>?_,fun _=>⟨_,hmem,p3⟩⟩
  split at h
  ·rename_i h2
   have hp : p = 0:=by have:=of_decide_eq_false h; omega
   subst hp
   rw [ha,zt h2,e1]
   rw [e2] at p3
   have p3 : lD F x (4 * c + i)≠none:=p3
   cases hx : lD F x (4 * c + i) with
   | none=>exact absurd hx p3
   | some s=>rw [List.cons_append,yQ hx,yQ hx]
  ·exact absurd (of_decide_eq_false h) (by omega)
theorem B9 {F : ShM} {C : Int} {x : Int} {l : List Int} (h : Fl F C (x::l)) : ∀y∈l,y.toNat≠x.toNat:=fun y hy e=>by
 obtain ⟨a,-⟩:=h.file x (List.mem_cons_self ..)
 obtain ⟨b,-⟩:=h.file y (List.mem_cons_of_mem _ hy)
 have : y = x:=by omega
 subst this
 exact (List.nodup_cons.1 h.nd).1 hy
theorem U0 {F : ShM} {C : Int} {l : List Int} {N : Nat} (hF : Fl F C l) (hW : ShW N F) (hN : N < 900000) {j : JobM} (hj : j.Ok) (hT : JobT F C l j) {c : Nat} (hc : (c : Int) < C) :
  ((yr F j c).1 = 0 \/ (yr F j c).1 = 6 \/ (yr F j c).1 = 7) /\ (∀k,seeF (yr F j c).2 l k = seeF F l k) /\
  (∀k,k / 4≠c -> seeF (yr F j c).2 (ov j l) k = seeF F (ov j l) k) /\ ((yr F j c).1 = 0 -> ∀k,k / 4 = c -> seeF (yr F j c).2 (ov j l) k = seeF F l k):=by
 have hl0 : l≠[]:=by have:=hj.pos; rw [hT.list] at this; intro e; rw [e] at this; exact this rfl
 obtain ⟨r1,r2,r3⟩:=Dk hF hW hl0 hc
 have hs : ∀k,k / 4 = c -> lw (oJ F l (c : Int)).1 (k % 4) = seeF F l k:=fun k hk=>by
  rw [CB,r3 (k % 4) (by omega)]
  congr 1
  omega
 unfold yr
 split
 ·rename_i hw
  refine ⟨.inl rfl,fun _=>rfl,fun _ _=>rfl,fun _ k hk=>?_⟩
  have h1 : j.kind≠1:=fun h=>by unfold oQ at hw; rw [zt h] at hw; cases hw
  have hd:=hT.deep h1
  have:=(GM hF hW hT.list h1 (hj.kind.resolve_left h1) ⟨hd.1,hd.2.1⟩ (c:=c) (i:=k % 4) (by omega)).1 hw
  rw [show 4 * c + k % 4 = k by omega] at this
  exact this
 ·rename_i hw
  rw [hT.list,zq (by rw [r1]; simp)]
  have hw : oQ F j (c : Int) = true:=by simpa using hw
  generalize (oJ F l (c : Int)).1 = s at *
  rcases hj.kind with h1 | h23
  ·
   obtain ⟨m1,m2,m3,m4⟩:=hT.mir h1
   obtain ⟨f0,f5,m,hm⟩:=m2
   have ht : toM j = j.file:=by unfold toM; rw [zq (by omega)]
   have ho:=hW.ok _ m (by omega) hm
   have hcm : m.c = C:=by rw [<- m3]; unfold clus; rw [hm]
   have hcl : c < m.t.length:=by have:=ho.t; omega
   obtain ⟨a1,a2,a3,a4⟩:=C3 hW hN (by omega) hm hcl r2
   rw [ht]
   have ha : ov j l = [j.file]:=by unfold ov; rw [zt h1]
   rw [ha]
   refine ⟨a2,fun k=>ye fun y hy=>?_,fun k hk=>ye fun y hy=>?_,fun h0 k hk=>?_⟩
   ·unfold lD
    rw [a1 _ (by have:=(hF.file y hy).1; have : y≠j.file:=fun e=>m1 (e ▸ hy); omega)]
   ·rw [List.mem_singleton.1 hy]
    rcases a3 k with e | ⟨e,-⟩
    ·exact e
    ·exact absurd e hk
   ·rw [yQ (a4 h0 k hk),hs k hk]
  ·have h1 : j.kind≠1:=by omega
   obtain ⟨d1,d2,d3⟩:=hT.deep h1
   obtain ⟨x,t,r,e1,e2,e3,e4⟩:=EE d1 d2
   rcases h23 with h2 | h3
   ·
    have ht : toM j = x:=by unfold toM; rw [zt h2,hT.list,e1]; rfl
    have hx : x∈l:=by rw [e1]; simp
    obtain ⟨m,hm,h5,h0,ho,hcm,hlm⟩:=hF.img hW hx
    obtain ⟨a1,a2,a3,a4⟩:=C3 hW hN h5 hm (by omega : c < m.t.length) r2
    rw [ht]
    have ha : ov j l = x::r:=by unfold ov; rw [zq h1,zt h2,e3,e4]; rfl
    have hF' : Fl F C (x::(t++r)):=by rw [<- List.cons_append,<- e1]; exact hF
    have hne:=B9 hF'
    have hoff : ∀y∈t++r,∀k,lD (y8 F x.toNat c s).2 y k = lD F y k:=fun y hy k=>by unfold lD; rw [a1 _ (hne y hy)]
    have hr : ∀y∈r,∀k,lD (y8 F x.toNat c s).2 y k = lD F y k:=fun y hy=>hoff y (List.mem_append_right _ hy)
    rw [ha]
    refine ⟨a2,fun k=>?_,fun k hk=>?_,fun h0 k hk=>?_⟩
    ·rcases a3 k with e | ⟨hk,e⟩
     ·refine ye fun y hy=>?_
      rw [e1,List.cons_append] at hy
      rcases List.mem_cons.1 hy with rfl | hy
      ·exact e
      ·exact hoff y hy k
     ·rw [hs k hk] at e
      rw [e1,List.cons_append] at e ⊢
      exact yQ e
    ·refine ye fun y hy=>?_
     rcases List.mem_cons.1 hy with rfl | hy
     ·rcases a3 k with e | ⟨e,-⟩
      ·exact e
      ·exact absurd e hk
     ·exact hr y hy k
    ·rw [yQ (a4 h0 k hk),hs k hk]
   ·
    have hlt:=hT.com h3
    obtain ⟨y,r',hr'⟩ : ∃y r',r = y::r':=by
     cases r with
     | nil=>have h' : (l.drop j.deep).length = l.length - j.deep:=List.length_drop; rw [e3] at h'; simp at h'; omega
     | cons y r'=>exact ⟨y,r',rfl⟩
    rw [e3,hr'] at d3
    have d3 : y = j.file:=d3
    subst hr'
    subst d3
    have ht : toM j = j.file:=by unfold toM; rw [zq (by omega)]
    have hx : j.file∈l:=by rw [e1]; simp
    obtain ⟨m,hm,h5,h0,ho,hcm,hlm⟩:=hF.img hW hx
    obtain ⟨a1,a2,a3,a4⟩:=C3 hW hN h5 hm (by omega : c < m.t.length) r2
    rw [ht]
    have ha : ov j l = j.file::r':=by unfold ov; rw [zq h1,zq (by omega),e3]
    have hnd:=hF.nd
    rw [e1] at hnd
    have hne : ∀y∈x::t,y.toNat≠j.file.toNat:=fun y hy=>by
     have h1:=(hF.file y (by rw [e1]; exact List.mem_append_left _ hy)).1
     have h2 : y≠j.file:=fun e=>(List.nodup_append.1 hnd).2.2 y hy j.file (List.mem_cons_self ..) e
     omega
    have hF2 : Fl F C (j.file::r'):=hF.sub (by rw [e1]; exact List.sublist_append_right _ _)
    have hne2:=B9 hF2
    have hup : ∀y∈x::t,∀k,lD (y8 F j.file.toNat c s).2 y k = lD F y k:=fun y hy k=>by unfold lD; rw [a1 _ (hne y hy)]
    have hlo : ∀y∈r',∀k,lD (y8 F j.file.toNat c s).2 y k = lD F y k:=fun y hy k=>by unfold lD; rw [a1 _ (hne2 y hy)]
    rw [ha]
    refine ⟨a2,fun k=>?_,fun k hk=>?_,fun h0 k hk=>?_⟩
    ·rcases a3 k with e | ⟨hk,e⟩
     ·refine ye fun y hy=>?_
      rw [e1] at hy
      rcases List.mem_append.1 hy with hy | hy
      ·exact hup y hy k
      ·rcases List.mem_cons.1 hy with rfl | hy
       ·exact e
       ·exact hlo y hy k
     ·obtain ⟨y,hy,hn⟩:=(GM hF hW hT.list h1 (.inr h3) ⟨d1,d2⟩ (c:=c) (i:=k % 4) (by omega)).2 hw
      rw [show 4 * c + k % 4 = k by omega,e2] at *
      rw [e1,Qr (l:=x::t) ⟨y,hy,by rw [hup y hy k]; exact hn⟩,Qr (l:=x::t) ⟨y,hy,hn⟩]
      exact ye fun y hy=>hup y hy k
    ·refine ye fun y hy=>?_
     rcases List.mem_cons.1 hy with rfl | hy
     ·rcases a3 k with e | ⟨e,-⟩
      ·exact e
      ·exact absurd e hk
     ·exact hlo y hy k
    ·rw [yQ (a4 h0 k hk),hs k hk]
theorem Dh (j : JobM) : ∃s,An j = { j with st:=s } /\ (s = 1 -> cnt j.x≠0 \/ j.st≠1) /\ (s = 3 -> cnt j.x = 0 \/ j.st≠3) /\ (j.st = 1 \/ j.st = 3 -> (s = 1 /\ cnt j.x≠0) \/ (s = 3 /\ cnt j.x = 0)) /\ (j.st≠1 -> j.st≠3 -> s = j.st):=by
 unfold An
 split
 ·rename_i h
  exact ⟨3,rfl,fun h=>by omega,fun _=>.inl h.2,fun _=>.inr ⟨rfl,h.2⟩,fun h'=>absurd h.1 h'⟩
 ·rename_i h
  split
  ·rename_i h'
   exact ⟨1,rfl,fun _=>.inl (by omega),fun h=>by omega,fun _=>.inl ⟨rfl,by omega⟩,fun _ h''=>absurd h'.1 h''⟩
  ·rename_i h'
   refine ⟨j.st,rfl,fun h1=>.inl fun h0=>h ⟨h1,h0⟩,fun h1=>.inl (by omega),fun h1=>?_,fun _ _=>rfl⟩
   rcases h1 with h1 | h1
   ·exact .inl ⟨h1,fun h0=>h ⟨h1,h0⟩⟩
   ·exact .inr ⟨h1,by omega⟩
theorem JobT.turn {F F' : ShM} {C : Int} {l : List Int} {j j' : JobM} (h : JobT F C l j) (hs : og F F') (hj : yy j j') (hd : j'.deep = j.deep) (hst : j'.st = 1 \/ j'.st = 3 \/ j'.st = 2)
  (see : ∀k : Nat,(k : Int) < 4 * C -> j'.x.testBit (k / 4) = false -> seeF F' (ov j l) k = seeF F' l k) : JobT F' C l (An j'):=by
 obtain ⟨s,e,-,-,h13,hno⟩:=Dh j'
 obtain ⟨q1,q2,q3,q4,q5⟩:=hj
 rw [e]
 refine ⟨q1.trans h.list,by rw [<- h.n,<- q5],fun h1=>?_,fun h1=>?_,fun h1=>?_,fun h1=>?_,fun h1=>?_,?_⟩
 ·rw [show ({ j' with st:=s } : JobM).deep = j.deep from hd,show ({ j' with st:=s } : JobM).file = j.file from q3]
  exact h.deep (by rw [<- q2]; exact h1)
 ·rw [show ({ j' with st:=s } : JobM).deep = j.deep from hd]
  exact h.com (by rw [<- q2]; exact h1)
 ·rw [show ({ j' with st:=s } : JobM).file = j.file from q3]
  obtain ⟨m1,m2,m3,m4⟩:=h.mir (by rw [<- q2]; exact h1)
  have h5 : j.file.toNat < 5:=by have:=m2.1; have:=m2.2.1; omega
  exact ⟨m1,hs.file.2 m2,(hs.clus m2).trans m3,by rw [DL,hs _ h5,<- DL]; exact m4⟩
 ·change s = 1 at h1
  show cnt j'.x≠0
  by_cases h2 : j'.st = 1 \/ j'.st = 3
  ·rcases h13 h2 with ⟨-,h3⟩ | ⟨h3,-⟩
   ·exact h3
   ·omega
  ·have:=hno (fun h=>h2 (.inl h)) (fun h=>h2 (.inr h))
   omega
 ·change s = 3 at h1
  show cnt j'.x = 0
  by_cases h2 : j'.st = 1 \/ j'.st = 3
  ·rcases h13 h2 with ⟨h3,-⟩ | ⟨-,h3⟩
   ·omega
   ·exact h3
  ·have:=hno (fun h=>h2 (.inl h)) (fun h=>h2 (.inr h))
   omega
 ·have ha : ov { j' with st:=s } l = ov j l:=by
   unfold ov
   rw [show ({ j' with st:=s } : JobM).kind = j.kind from q2,show ({ j' with st:=s } : JobM).file = j.file from q3,show ({ j' with st:=s } : JobM).deep = j.deep from hd]
  rw [ha]
  exact see
theorem JobT.x_lt {F : ShM} {C : Int} {l : List Int} {j : JobM} (h : JobT F C l j) {k : Nat} (hk : (k : Int) < 4 * C) : k / 4 < j.n:=by have:=h.n; omega
theorem Jp {F : ShM} {C : Int} {l : List Int} {N : Nat} (hF : Fl F C l) (hW : ShW N F) (hN : N < 900000) {j : JobM} (hj : j.Ok) (hS : JobS F j) (hT : JobT F C l j) (h4 : j.st < 4) :
  ((lk F j).1.2 = 0 \/ (lk F j).1.2 = 6 \/ (lk F j).1.2 = 7 \/ ((lk F j).1.2 = 9 /\ (lk F j).2 = (F,j))) /\ (∀k,seeF (lk F j).2.1 l k = seeF F l k) /\ ((lk F j).2.2.st < 4 -> JobT (lk F j).2.1 C l (lk F j).2.2):=by
 have hst:=Fa (hW.sh hN) hj hS
 unfold lk
 split
 ·exact ⟨.inr (.inr (.inr ⟨rfl,rfl⟩)),fun _=>rfl,fun _=>hT⟩
 ·rename_i h1
  split
  ·exact ⟨.inl rfl,fun _=>rfl,fun _=>hT⟩
  ·rename_i h2
   have hb : (oo j).2 = true:=by cases h : (oo j).2 <;> simp_all
   have hl4 : ¬j.level < 4:=fun h=>h2 (.inr h)
   obtain ⟨b1,b2⟩:=Lc hj.n hj.x (fr:=(j.at_ : Int)) hb
   have hn:=hT.n
   change j.x.testBit (oo j).1 = true at b1
   change (oo j).1 < j.n at b2
   obtain ⟨a1,a2,a3,a4⟩:=U0 hF hW hN hj hT (c:=(oo j).1) (by omega)
   split
   ·rename_i h3
    refine ⟨?_,a2,fun h=>?_⟩
    ·rcases a1 with h | h | h
     ·exact absurd h h3
     ·exact .inr (.inl h)
     ·exact .inr (.inr (.inl h))
    ·exact absurd (show (5 : Int) < 4 from h) (by decide)
   ·rename_i h3
    refine ⟨.inl rfl,a2,fun _=>?_⟩
    have h0:=Decidable.not_not.1 h3
    unfold jdid
    refine hT.turn (hst ((oo j).1 : Nat)).same ⟨rfl,rfl,rfl,rfl,rfl⟩ rfl (by dsimp only; omega) fun k hk hx=>?_
    dsimp only at hx
    rw [IG hj.x] at hx
    rw [a2]
    by_cases e : k / 4 = (oo j).1
    ·exact a4 h0 k e
    ·rw [a3 k e]
     rw [zq (fun h=>e h.1)] at hx
     exact hT.see k hk hx
theorem JobT.pause {F : ShM} {C : Int} {l : List Int} {j : JobM} (h : JobT F C l j) (on : Bool) : JobT F C l (yX j on).2:=by
 unfold yX
 split
 ·split
  ·exact ⟨h.list,h.n,h.deep,h.com,h.mir,fun h=>absurd (show (2 : Int) = 1 from h) (by decide),fun h=>absurd (show (2 : Int) = 3 from h) (by decide),h.see⟩
  ·exact h
 ·split
  ·exact h.turn (j':={ j with st:=1 }) (og.refl F) ⟨rfl,rfl,rfl,rfl,rfl⟩ rfl (.inl rfl) h.see
  ·exact h
theorem JobT.tick {F : ShM} {C : Int} {l : List Int} {j : JobM} (h : JobT F C l j) (n : Int) : JobT F C l (AP j n):=by
 unfold AP
 split
 ·exact ⟨h.list,h.n,h.deep,h.com,h.mir,h.r1,h.r3,h.see⟩
 ·exact h
theorem LT {j : JobM} (hj : j.Ok) (c : Nat) : yy j (zl j c) /\ (zl j c).deep = j.deep /\ ((zl j c).st < 4↔j.st < 4) /\ (∀q,j.x.testBit q = true -> (zl j c).x.testBit q = true) /\ (j.st < 4 -> j.kind≠2 -> c < j.n -> (zl j c).x.testBit c = true) /\ (j.kind = 2 -> zl j c = j):=by
 unfold zl
 split
 ·rename_i h
  obtain ⟨s,e,-,-,h13,hno⟩:=Dh { j with x:=(oY j.n j.x (c : Int) true).2 }
  rw [e]
  refine ⟨⟨rfl,rfl,rfl,rfl,rfl⟩,rfl,⟨fun _=>h.1,fun _=>?_⟩,fun q hq=>?_,fun _ _ hc=>?_,fun h2=>absurd h2 h.2⟩
  ·show s < 4
   by_cases h2 : j.st = 1 \/ j.st = 3
   ·rcases h13 h2 with ⟨h3,-⟩ | ⟨h3,-⟩ <;> omega
   ·have : s = j.st:=hno (fun h=>h2 (.inl h)) (fun h=>h2 (.inr h))
    omega
  ·show (oY j.n j.x (c : Int) true).2.testBit q = true
   rw [IG hj.x]
   split
   ·rfl
   ·exact hq
  ·show (oY j.n j.x (c : Int) true).2.testBit c = true
   rw [IG hj.x,zt ⟨rfl,hc⟩]
 ·rename_i h
  exact ⟨yy.refl j,rfl,Iff.rfl,fun _ h=>h,fun a b=>absurd ⟨a,b⟩ h,fun _=>rfl⟩
theorem Ig : ∀(n : Nat) {j : JobM},j.Ok -> ∀(c : Nat),yy j (ob j c n) /\ (ob j c n).deep = j.deep /\ ((ob j c n).st < 4↔j.st < 4) /\ (∀q,j.x.testBit q = true -> (ob j c n).x.testBit q = true) /\
  (j.st < 4 -> j.kind≠2 -> ∀q,c <= q -> q < c + n -> q < j.n -> (ob j c n).x.testBit q = true) /\ (j.kind = 2 -> ob j c n = j):=by
 intro n
 induction n with
 | zero=>intro j _ c; exact ⟨yy.refl j,rfl,Iff.rfl,fun _ h=>h,fun _ _ q _ _=>by omega,fun _=>rfl⟩
 | succ n ih=>
  intro j hj c
  obtain ⟨a1,a2,a3,a4,a5,a6⟩:=LT hj c
  obtain ⟨b1,b2,b3,b4,b5,b6⟩:=ih (It hj (c : Int)) (c + 1)
  rw [ob,show ((c : Int) + 1) = ((c + 1 : Nat) : Int) by omega]
  refine ⟨⟨b1.1.trans a1.1,b1.2.1.trans a1.2.1,b1.2.2.1.trans a1.2.2.1,b1.2.2.2.1.trans a1.2.2.2.1,b1.2.2.2.2.trans a1.2.2.2.2⟩,b2.trans a2,b3.trans a3,fun q h=>b4 q (a4 q h),fun h4 h2 q hq1 hq2 hqn=>?_,fun h2=>?_⟩
  ·by_cases e : q = c
   ·subst e
    exact b4 q (a5 h4 h2 hqn)
   ·exact b5 (a3.2 h4) (by rw [a1.2.1]; exact h2) q (by omega) (by omega) (by rw [a1.2.2.2.2]; exact hqn)
  ·rw [a6 h2]
   have:=b6 (by rw [a6 h2]; exact h2)
   rw [a6 h2] at this
   exact this
theorem MU : ∀(n : Nat) {F : ShM} {C : Int} {l : List Int} {j : JobM} (c : Nat),j.Ok -> j.st < 4 -> ((j.st = 1 -> cnt j.x≠0) /\ (j.st = 3 -> cnt j.x = 0)) -> (((ob j c n).st = 1 -> cnt (ob j c n).x≠0) /\ ((ob j c n).st = 3 -> cnt (ob j c n).x = 0)):=by
 intro n
 induction n with
 | zero=>intro F C l j c _ _ h; exact h
 | succ n ih=>
  intro F C l j c hj h4 h
  rw [ob,show ((c : Int) + 1) = ((c + 1 : Nat) : Int) by omega]
  refine ih (F:=F) (C:=C) (l:=l) (c + 1) (It hj (c : Int)) ((LT hj c).2.2.1.2 h4) ?_
  unfold zl
  split
  ·obtain ⟨s,e,-,-,h13,hno⟩:=Dh { j with x:=(oY j.n j.x (c : Int) true).2 }
   rw [e]
   by_cases h2 : j.st = 1 \/ j.st = 3
   ·rcases h13 h2 with ⟨h3,h5⟩ | ⟨h3,h5⟩
    ·exact ⟨fun _=>h5,fun h=>absurd (h3.symm.trans h) (by decide)⟩
    ·exact ⟨fun h=>absurd (h3.symm.trans h) (by decide),fun _=>h5⟩
   ·have e2 : s = j.st:=hno (fun h=>h2 (.inl h)) (fun h=>h2 (.inr h))
    exact ⟨fun h=>absurd (.inl (e2.symm.trans h)) h2,fun h=>absurd (.inr (e2.symm.trans h)) h2⟩
  ·exact h
theorem JobT.wrote {F F' : ShM} {C : Int} {x : Int} {l : List Int} {N : Nat} (hF : Fl F C (x::l)) (hsh : og F F') {fr n : Nat} {new : Nat -> ByteArray} {j : JobM} (hj : j.Ok) (h4 : j.st < 4) (hT : JobT F C (x::l) j)
  (hr : Rise F F' x) (ho : ∀i,seeF F' (x::l) i = seeF F (x::l) i \/ ∃q,q < n /\ i = fr + q) {c d : Nat} (hcd : ∀q,q < n -> c <= (fr + q) / 4 /\ (fr + q) / 4 < c + d) : JobT F' C (x::l) (ob j c d):=by
 obtain ⟨a1,a2,a3,a4,a5,a6⟩:=Ig d hj c
 obtain ⟨t1,t3⟩:=MU d (F:=F) (C:=C) (l:=l) c hj h4 ⟨hT.r1,hT.r3⟩
 have hne:=B9 hF
 have ha : ov (ob j c d) (x::l) = ov j (x::l):=PC a1 a2 _
 refine ⟨a1.1.trans hT.list,by rw [<- hT.n,<- a1.2.2.2.2],fun h1=>?_,fun h1=>?_,fun h1=>?_,t1,t3,fun k hk hx=>?_⟩
 ·rw [a2,a1.2.2.1]; exact hT.deep (by rw [<- a1.2.1]; exact h1)
 ·rw [a2]; exact hT.com (by rw [<- a1.2.1]; exact h1)
 ·rw [a1.2.2.1]
  obtain ⟨m1,m2,m3,m4⟩:=hT.mir (by rw [<- a1.2.1]; exact h1)
  have h5 : j.file.toNat < 5:=by have:=m2.1; have:=m2.2.1; omega
  exact ⟨m1,hsh.file.2 m2,(hsh.clus m2).trans m3,by rw [DL,hsh _ h5,<- DL]; exact m4⟩
 ·rw [ha]
  by_cases h2 : j.kind = 2
  ·rw [a6 h2] at hx
   have h0:=hT.see k hk hx
   obtain ⟨d1,d2,d3⟩:=hT.deep (by omega)
   have e : ov j (x::l) = x::(x::l).drop j.deep:=by unfold ov; rw [zq (by omega),zt h2]; rfl
   rw [e] at h0 ⊢
   refine hr.two (fun y hy=>hne y ?_) hne h0
   obtain ⟨p,hp⟩ : ∃p,j.deep = p + 1:=⟨j.deep - 1,by omega⟩
   rw [hp,List.drop_succ_cons] at hy
   exact List.mem_of_mem_drop hy
  ·have hx0 : j.x.testBit (k / 4) = false:=by
    cases h : j.x.testBit (k / 4) with
    | false=>rfl
    | true=>rw [a4 _ h] at hx; cases hx
   have hsee : seeF F' (x::l) k = seeF F (x::l) k:=by
    rcases ho k with e | ⟨q,hq,e⟩
    ·exact e
    ·obtain ⟨c1,c2⟩:=hcd q hq
     rw [<- e] at c1 c2
     rw [a5 h4 h2 _ c1 c2 (hT.x_lt hk)] at hx
     cases hx
   rw [hsee,<- hT.see k hk hx0]
   refine ye fun y hy=>hr.face ?_ k
   unfold ov at hy
   split at hy
   ·rename_i h1
    obtain ⟨m1,m2,-⟩:=hT.mir h1
    rw [List.mem_singleton.1 hy]
    have hx1:=(hF.file x (List.mem_cons_self ..)).1
    have : j.file≠x:=fun e=>m1 (by rw [e]; exact List.mem_cons_self ..)
    have:=m2.1
    omega
   ·rename_i h1
    obtain ⟨d1,-⟩:=hT.deep h1
    obtain ⟨p,hp⟩ : ∃p,j.deep = p + 1:=⟨j.deep - 1,by omega⟩
    rw [hp,List.drop_succ_cons] at hy
    exact hne y (List.mem_of_mem_drop hy)
theorem JobT.off {F F' : ShM} {C : Int} {l : List Int} {j : JobM} (hT : JobT F C l j) (hF : Fl F C l) {file : Int} (h0 : 0 <= file) (hn : file∉l) (hne : file≠j.file) (hF' : ∀k,k≠file.toNat -> F' k = F k) : JobT F' C l j:=by
 have hf : ∀y,0 <= y -> y≠file -> F' y.toNat = F y.toNat:=fun y hy h=>hF' _ (by omega)
 have hl : ∀y∈l,∀k,lD F' y k = lD F y k:=fun y hy k=>by unfold lD; rw [hf y (hF.file y hy).1 fun e=>hn (e ▸ hy)]
 refine ⟨hT.list,hT.n,hT.deep,hT.com,fun h1=>?_,hT.r1,hT.r3,fun k hk hx=>?_⟩
 ·obtain ⟨m1,m2,m3,m4⟩:=hT.mir h1
  have e:=hf j.file m2.1 (fun e=>hne e.symm)
  refine ⟨m1,⟨m2.1,m2.2.1,by rw [e]; exact m2.2.2⟩,?_,?_⟩
  ·unfold clus at m3 ⊢; rw [e]; exact m3
  ·unfold bkOf at m4 ⊢; rw [e]; exact m4
 ·rw [ye (l:=l) fun y hy=>hl y hy k,<- hT.see k hk hx]
  refine ye fun y hy=>?_
  unfold ov at hy
  split at hy
  ·rename_i h1
   rw [List.mem_singleton.1 hy]
   obtain ⟨-,m2,-⟩:=hT.mir h1
   unfold lD
   rw [hf j.file m2.1 (fun e=>hne e.symm)]
  ·split at hy
   ·rcases List.mem_append.1 hy with hy | hy
    ·exact hl y (List.mem_of_mem_take hy) k
    ·exact hl y (List.mem_of_mem_drop hy) k
   ·exact hl y (List.mem_of_mem_drop hy) k
theorem JobT.faces {F F' : ShM} {C : Int} {l : List Int} {j : JobM} (hT : JobT F C l j) (hs : og F F') (hf : ∀x k,lD F' x k = lD F x k) : JobT F' C l j:=by
 refine ⟨hT.list,hT.n,hT.deep,hT.com,fun h1=>?_,hT.r1,hT.r3,fun k hk hx=>?_⟩
 ·obtain ⟨m1,m2,m3,m4⟩:=hT.mir h1
  have h5 : j.file.toNat < 5:=by have:=m2.1; have:=m2.2.1; omega
  exact ⟨m1,hs.file.2 m2,(hs.clus m2).trans m3,by rw [DL,hs _ h5,<- DL]; exact m4⟩
 ·rw [ye fun y _=>hf y k,ye (l:=l) fun y _=>hf y k]
  exact hT.see k hk hx
theorem Ph {F : ShM} {N : Nat} (hW : ShW N F) {y : Nat} (hy : y < 5) (x : Int) (k : Nat) : lD (flushI F y) x k = lD F x k:=by
 unfold flushI
 split
 ·rename_i m hm
  unfold lD
  by_cases e : x.toNat = y
  ·rw [e,oU,hm]
   exact CY (hW.ok y m hy hm) k
  ·rw [Ak _ _ e]
 ·rfl
theorem Ce {N : Nat} : ∀{l : List Int} {F : ShM},ShW N F -> (∀x∈l,lz F x) -> ∀x k,lD (oZ F l) x k = lD F x k:=by
 intro l
 induction l with
 | nil=>intro F _ _ x k; rfl
 | cons y l ih=>
  intro F hW hl x k
  have hy:=hl y (List.mem_cons_self ..)
  have hy5 : y.toNat < 5:=by have:=hy.1; have:=hy.2.1; omega
  rw [oZ,ih (CX hW hy5) (fun z hz=>B5 (hl z (List.mem_cons_of_mem _ hz))),Ph hW hy5]
theorem KQ {F : ShM} {N : Nat} (hW : ShW N F) (hN : N < 900000) {y : Nat} (hy : y < 5) (c : Int) (x : Int) (k : Nat) : lD (linkI F y c).2 x k = lD F x k:=by
 unfold linkI
 split
 ·rename_i m hm
  unfold lD
  by_cases e : x.toNat = y
  ·rw [e]
   dsimp only
   rw [oU,hm]
   exact TN (hW.ok y m hy hm) c (by have:=hW.wr y m hy hm; omega) k
  ·dsimp only
   rw [Ak _ _ e]
 ·rfl
end Go.Proofs.YtbpblokfiajpjabGreatDoor
namespace Go.Proofs.YtbpblokfiajpjabGreatDoor
open Go.RowKit Go.SL Go.Crc
attribute [local go_sem ↓] Go.wp_at_zero Go.wp_at_succ
def RA.stA (Y : RA) (k bi : Nat) : RA:={ Y with A:=Yk Y.A k (bi,(Y.A k).2) }









theorem Ih (m : le) (fr : Int) (s : ByteArray) : 0 <= (ot m fr s).1:=by
 unfold ot
 split
 ·simp
 ·exact Vb _ _ _ _
theorem Ji (m : le) (fr n : Int) : 0 <= (ow m fr n).1:=by
 unfold ow
 split
 ·simp
 ·exact KJ _ _ _ _
theorem SK (N : Nat) (Y : YA) (m : le) (hm : YOk N m) (hN : N < 900000) (file : Int) (R : List SL.HP) (w : World) (H : own w (yL Y m R)) :
  Calls Tryz.prog 108 #[.pointer (some ⟨Y.y,0,none⟩),.int .i64 file] w (zL Y (lZ m file (-1)) R w):=by
 have HB:=zh (KL N Y m hm hN file (-1) R w H)
 clear hm hN H
 go_enter Tryz.func108,Tryz.ntmps108
 go_wp2_with fail
 refine HB.out.mono ?_
 rintro e w2 ⟨Y',hy,rfl,hx,h2⟩
 go_wp2_with fail
 go_ret
 exact ⟨Y',hy,rfl,hx,h2⟩

def A3 (A : Nat -> Nat×Nat×Nat) (q k : Nat) : Value:=if k < q then .pointer (some ⟨(A k).2.1,0,none⟩) else .pointer none
def nC (bs : Nat) (A : Nat -> Nat×Nat×Nat) (q : Nat) (t : Value) (dk : lR) (v : Value) : Array Value:=#[A3 A q 0,A3 A q 1,A3 A q 2,A3 A q 3,A3 A q 4,t,.pointer (some ⟨bs,0,none⟩),.int .i64 dk.root,.int .i64 dk.kind,.int .i64 dk.file,.int .i64 dk.rate,.int .i64 dk.burst,v,.pointer none]
def zN (A : Nat -> Nat×Nat×Nat) (F : ShM) (D : Nat -> DevM) (q k : Nat) : HP:=if k < q then oK A F D k else emp
def nT (y bs : Nat) (A : Nat -> Nat×Nat×Nat) (F : ShM) (D : Nat -> DevM) (q : Nat) (t : Value) (dk : lR) (v : Value) : List SL.HP:=[pts y (.cells (nC bs A q t dk v) 165 (0,0)),zN A F D q 0,zN A F D q 1,zN A F D q 2,zN A F D q 3,zN A F D q 4]
abbrev nL (y bs : Nat) (A : Nat -> Nat×Nat×Nat) (F : ShM) (D : Nat -> DevM) (q : Nat) (t : Value) (dk : lR) (v : Value) (R : List SL.HP) : List SL.HP:=shL bs A F++(nT y bs A F D q t dk v++R)
theorem WA {y bs : Nat} {A : Nat -> Nat×Nat×Nat} {F : ShM} (D : Nat -> DevM) {t v : Value} {dk : lR} {R : List SL.HP} {w : World}
  (H : own w (pts y (.cells #[.pointer none,.pointer none,.pointer none,.pointer none,.pointer none,t,.pointer (some ⟨bs,0,none⟩),.int .i64 dk.root,.int .i64 dk.kind,.int .i64 dk.file,.int .i64 dk.rate,.int .i64 dk.burst,v,.pointer none] 165 (0,0))::(shL bs A F++R))) : own w (nL y bs A F D 0 t dk v R):=by
 have h1:=Ba (Ba (Ba (Ba (Ba H))))
 have h2:=lu [emp,emp,emp,emp,emp] [_] h1
 exact lu (nT y bs A F D 0 t dk v) (shL bs A F) h2
theorem Xc {bs q : Nat} {A : Nat -> Nat×Nat×Nat} {F : ShM} {a : Nat×Nat×Nat} (hF : F q = none) : shL bs (stA A q a) F = shL bs A F:=by
 have hP : ∀k,oG (stA A q a) F k = oG A F k:=fun k=>by
  unfold oG stA
  by_cases e : k = q
  ·subst e; rw [hF]
  ·rw [zq e]
 have hV : ∀k,yE (stA A q a) F k = yE A F k:=fun k=>by
  unfold yE stA
  by_cases e : k = q
  ·subst e; rw [hF]
  ·rw [zq e]
 unfold shL yk
 rw [hP,hP,hP,hP,hP,hV,hV,hV,hV,hV]
theorem VB {A : Nat -> Nat×Nat×Nat} {q k : Nat} {a : Nat×Nat×Nat} : A3 (stA A q a) (q + 1) k = if k = q then .pointer (some ⟨a.2.1,0,none⟩) else A3 A q k:=by
 unfold A3 stA
 by_cases e : k = q
 ·subst e; rw [zt rfl,zt rfl,zt (by omega)]
 ·rw [zq e,zq e]
  by_cases h : k < q
  ·rw [zt h,zt (by omega)]
  ·rw [zq h,zq (by omega)]
theorem Vz {A : Nat -> Nat×Nat×Nat} {F : ShM} {D : Nat -> DevM} {q k : Nat} {a : Nat×Nat×Nat} (hF : F q = none) : zN (stA A q a) F D (q + 1) k = if k = q then lj a.2.1 (D q) else zN A F D q k:=by
 unfold zN oK stA
 by_cases e : k = q
 ·subst e; rw [zt (by omega),hF,zt rfl,zt rfl]
 ·rw [zq e,zq e]
  by_cases h : k < q
  ·rw [zt h,zt (by omega)]
  ·rw [zq h,zq (by omega)]
theorem Eo {A : Nat -> Nat×Nat×Nat} {F : ShM} {D : Nat -> DevM} {q : Nat} : zN A F D q q = emp:=zq (by omega)
theorem WB {y bs q c : Nat} {A : Nat -> Nat×Nat×Nat} {F : ShM} {D : Nat -> DevM} {t v : Value} {dk : lR} {R : List SL.HP} {w : World} (hq : q < 5) (hF : F q = none) (H : own w (lj c (D q)::nL y bs A F D q t dk v R)) :
  own (w.setCell ⟨y,q,none⟩ (.pointer (some ⟨c,0,none⟩))) (nL y bs (stA A q (0,c,0)) F D (q + 1) t dk v R):=by
 have h1:=lp (i:=q) (v:=.pointer (some ⟨c,0,none⟩)) 7 H rfl
 show own _ (shL bs (stA A q (0,c,0)) F++(nT y bs (stA A q (0,c,0)) F D (q + 1) t dk v++R))
 unfold nT nC
 rw [Xc hF]
 simp only [VB,Vz hF]
 match q,hq with
 | 0,_=>exact zW 7 h1 (by show some (zN A F D 0 0) = _; rw [Eo])
 | 1,_=>exact zW 8 h1 (by show some (zN A F D 1 1) = _; rw [Eo])
 | 2,_=>exact zW 9 h1 (by show some (zN A F D 2 2) = _; rw [Eo])
 | 3,_=>exact zW 10 h1 (by show some (zN A F D 3 3) = _; rw [Eo])
 | 4,_=>exact zW 11 h1 (by show some (zN A F D 4 4) = _; rw [Eo])
theorem X2 {y bs q k : Nat} {A : Nat -> Nat×Nat×Nat} {F : ShM} {D : Nat -> DevM} {t v : Value} {dk : lR} {R : List SL.HP} {w : World} (hk : k < 5) (hq : k < q) (hF : F k = none) (H : own w (nL y bs A F D q t dk v R)) :
  own w (lj (A k).2.1 (D k)::(nL y bs A F D q t dk v R).set (7 + k) emp):=by
 have e : zN A F D q k = lj (A k).2.1 (D k):=by unfold zN oK; rw [zt hq,hF]
 have hg : (nL y bs A F D q t dk v R)[7 + k]? = some (zN A F D q k):=by
  match k,hk with
  | 0,_=>rfl
  | 1,_=>rfl
  | 2,_=>rfl
  | 3,_=>rfl
  | 4,_=>rfl
 have h1:=Jn (7 + k) H hg
 rwa [e] at h1
theorem XR {y bs q k : Nat} {A : Nat -> Nat×Nat×Nat} {F : ShM} {D : Nat -> DevM} {t v : Value} {dk : lR} {R : List SL.HP} {w : World} (hk : k < 5) (hq : k < q) (hF : F k = none) (H : own w (lj (A k).2.1 (D k)::(nL y bs A F D q t dk v R).set (7 + k) emp)) :
  own w (nL y bs A F D q t dk v R):=by
 have e : zN A F D q k = lj (A k).2.1 (D k):=by unfold zN oK; rw [zt hq,hF]
 rw [<- e] at H
 match k,hk with
 | 0,_=>exact zW 7 H rfl
 | 1,_=>exact zW 8 H rfl
 | 2,_=>exact zW 9 H rfl
 | 3,_=>exact zW 10 H rfl
 | 4,_=>exact zW 11 H rfl
theorem Tv {A : Nat -> Nat×Nat×Nat} {F : ShM} {D : Nat -> DevM} {q k j : Nat} {a : Nat×Nat×Nat} {i : ImgM} : zN (setA A k a) (put F k i) D q j = if j = k then emp else zN A F D q j:=by
 unfold zN
 by_cases e : j = k
 ·subst e
  rw [zt rfl]
  split
  ·unfold oK; rw [oU]
  ·rfl
 ·rw [zq e]
  unfold oK
  rw [Ak F i e,IE A a e]
theorem T6 {A : Nat -> Nat×Nat×Nat} {q k j bi bh : Nat} : A3 (setA A k (bi,(A k).2.1,bh)) q j = A3 A q j:=by
 unfold A3
 by_cases e : j = k
 ·subst e; rw [Iw]
 ·rw [IE A _ e]
theorem Yn {y bs q k bi bh : Nat} {A : Nat -> Nat×Nat×Nat} {F : ShM} {D : Nat -> DevM} {t v : Value} {dk : lR} {i : ImgM} {R : List SL.HP} {w : World} (hk : k < 5) (hF : F k = none)
  (H : own w (lL bi (A k).2.1 bh i::lj (A k).2.1 i.d::(nL y bs A F D q t dk v R).set (7 + k) emp)) :
  own (w.setCell ⟨bs,k,none⟩ (.pointer (some ⟨bi,0,none⟩))) (nL y bs (setA A k (bi,(A k).2.1,bh)) (put F k i) D q t dk v R):=by
 have h1:=XT (R:=(nT y bs A F D q t dk v++R).set (1 + k) emp) hk hF (b:=bs) (A:=A) (w:=w) (bi:=bi) (bd:=(A k).2.1) (bh:=bh) (m:=i) (by
  match k,hk with
  | 0,_=>exact H
  | 1,_=>exact H
  | 2,_=>exact H
  | 3,_=>exact H
  | 4,_=>exact H)
 have e : (nT y bs A F D q t dk v++R).set (1 + k) emp = nT y bs (setA A k (bi,(A k).2.1,bh)) (put F k i) D q t dk v++R:=by
  unfold nT nC
  simp only [Tv,T6]
  match k,hk with
  | 0,_=>rfl
  | 1,_=>rfl
  | 2,_=>rfl
  | 3,_=>rfl
  | 4,_=>rfl
 rw [e] at h1
 exact h1
theorem Tt {y bs tp : Nat} {A : Nat -> Nat×Nat×Nat} {F : ShM} {D : Nat -> DevM} {v : Value} {dk : lR} {top : DevM} {l : List Int} {R : List SL.HP} {w : World} (H : own w (nL y bs A F D 5 (.pointer (some ⟨tp,0,none⟩)) dk v (lj tp top::row 3 1 v l.length (lq l)::R))) :
  own w (yL ⟨y,bs,tp,A,v,0,0,0,undef⟩ ⟨F,D,top,dk,l,none⟩ R):=
 lC ((yL ⟨y,bs,tp,A,v,0,0,0,undef⟩ ⟨F,D,top,dk,l,none⟩ R).take 14) (Ba H)
theorem A5 {y bs q : Nat} {A : Nat -> Nat×Nat×Nat} {F : ShM} {D : Nat -> DevM} {t v : Value} {dk : lR} {R : List SL.HP} {w : World} (H : own w (nL y bs A F D q t dk v R)) : (∀i,w.cell? ⟨y,i,none⟩ = (nC bs A q t dk v)[i]?) /\ ∀i,w.frozen? ⟨y,i,none⟩ = false:=ld 6 H rfl
theorem Uy {y bs q k : Nat} {A : Nat -> Nat×Nat×Nat} {F : ShM} {D : Nat -> DevM} {t v : Value} {dk : lR} {R : List SL.HP} {w : World} (hk : k < 5) (H : own w (nL y bs A F D q t dk v R)) : w.cell? ⟨y,k,none⟩ = some (A3 A q k):=by
 rw [(A5 H).1]
 have h : k = 0 \/ k = 1 \/ k = 2 \/ k = 3 \/ k = 4:=by omega
 rcases h with rfl | rfl | rfl | rfl | rfl
 all_goals rfl
theorem Kj {y bs q k c : Nat} {A : Nat -> Nat×Nat×Nat} {F : ShM} {D : Nat -> DevM} {t v : Value} {dk : lR} {R : List SL.HP} {w : World} (hk : k < 5) (hq : k < q) (hc : (A k).2.1 = c) (H : own w (nL y bs A F D q t dk v R)) : w.cell? ⟨y,k,none⟩ = some (.pointer (some ⟨c,0,none⟩)):=by
 rw [Uy hk H]; unfold A3; rw [zt hq,hc]
theorem Mn {y bs k : Nat} {A : Nat -> Nat×Nat×Nat} {F : ShM} {D : Nat -> DevM} {t v : Value} {dk : lR} {R : List SL.HP} {w : World} (hk : k < 5) (H : own w (nL y bs A F D k t dk v R)) : w.cell? ⟨y,k,none⟩ = some (.pointer none):=by
 rw [Uy hk H]; unfold A3; rw [zq (by omega)]
theorem n_bs {y bs q : Nat} {A : Nat -> Nat×Nat×Nat} {F : ShM} {D : Nat -> DevM} {t v : Value} {dk : lR} {R : List SL.HP} {w : World} (H : own w (nL y bs A F D q t dk v R)) : w.cell? ⟨y,6,none⟩ = some (.pointer (some ⟨bs,0,none⟩)):=(A5 H).1 6
theorem EA {y bs q : Nat} {A : Nat -> Nat×Nat×Nat} {F : ShM} {D : Nat -> DevM} {t v : Value} {dk : lR} {P : SL.HP} {R : List SL.HP} {w : World} (H : own w (P::nL y bs A F D q t dk v R)) : own w (nL y bs A F D q t dk v (P::R)):=by
 have h:=lC (shL bs A F++nT y bs A F D q t dk v) (R:=R) (by rw [zp]; exact H)
 rwa [zp] at h
def zT (m : le) : le:=
 if m.dk.kind = 0 then m else if m.dk.kind = 2 /\ bkOf m.F m.dk.root = m.dk.file then { m with dk:=lA m.dk.root }
 else match newM m.F m.dk.root m.dk.kind m.dk.file m.dk.rate m.dk.burst with
  | (none,_)=>{ m with dk:=lA m.dk.root }
  | (some j,_)=>{ m with job:=some j }
theorem Yb {F : ShM} {k : Nat} {i : ImgM} (h : F k = some i) : bkOf F (k : Int) = i.b:=by unfold bkOf; rw [zn,h]
theorem FD {Y : YA} {m : le} {R : List SL.HP} {w : World} (d : lR) (H : own w (yL Y m R)) :
  own (((((w.setCell ⟨Y.y,7,none⟩ (.int .i64 d.root)).setCell ⟨Y.y,8,none⟩ (.int .i64 d.kind)).setCell ⟨Y.y,9,none⟩ (.int .i64 d.file)).setCell ⟨Y.y,10,none⟩ (.int .i64 d.rate)).setCell ⟨Y.y,11,none⟩ (.int .i64 d.burst)) (yL Y { m with dk:=d } R):=
 lp (i:=11) (v:=.int .i64 d.burst) 6 (lp (i:=10) (v:=.int .i64 d.rate) 6 (lp (i:=9) (v:=.int .i64 d.file) 6 (lp (i:=8) (v:=.int .i64 d.kind) 6 (lp (i:=7) (v:=.int .i64 d.root) 6 H rfl) rfl) rfl) rfl) rfl
theorem Kt {Y : YA} {m : le} {j : JobM} {bj bt bb : Nat} {v : Value} {R : List SL.HP} {w : World} (H : own w (shL Y.bs Y.A m.F++(jobL Y.bs bj bt bb v j++(row 3 1 v j.list.length (lq j.list)::(yT Y m++R))))) :
  own w (yL Y m (jobL Y.bs bj bt bb v j++(row 3 1 v j.list.length (lq j.list)::R))):=by
 have h1:=XK (shL Y.bs Y.A m.F) (jobL Y.bs bj bt bb v j++[row 3 1 v j.list.length (lq j.list)]) (yT Y m) (R:=R) (by simpa only [zp,List.singleton_append] using H)
 simpa only [zp,List.singleton_append] using h1
theorem SG (N : Nat) (Y : YA) (m : le) (hW : ShW N m.F) (hN : N < 900000) (hr : lz m.F m.dk.root) (R : List SL.HP) (w : World) (H : own w (yL Y m R)) :
  Calls Tryz.prog 98 #[.pointer (some ⟨Y.y,0,none⟩)] w fun e w'=>∃Y' : YA,Y'.y = Y.y /\ e = .returned (.tuple #[]) /\ Ext w w' /\ own w' (yL Y' (zT m) R):=by
 have ck:=Cb H
 generalize hres : zT m = res
 unfold zT at hres
 by_cases h0 : m.dk.kind = 0
 ·rw [zt h0] at hres
  subst hres
  have t0 : (m.dk.kind == 0) = true:=by simp [h0]
  generalize m.dk.kind = kd at *
  clear h0
  go_enter Tryz.func98,Tryz.ntmps98
  go_wp2_with fail
  refine bodyPost_ret (results_none rfl _ _ _) rfl ?_
  exact ⟨Y,rfl,rfl,zR w,H⟩
 ·rw [zq h0] at hres
  have t0 : (m.dk.kind == 0) = false:=by simp [h0]
  have cb:=y_bs H
  have cr:=yM H
  have cf:=Ca H
  obtain ⟨k,i,hk,hk5,hFk⟩:=oF hr
  have hroot:=ou (R:=yT Y m++R) H hk5
  rw [lU hFk] at hroot
  rw [hk,Yb hFk] at hres
  have HNO:=zh (fun R' w' h=>Cx m.dk.root R' w' h)
  have HH:=zh (fun (R' : List SL.HP) (w : World) (H : own w (shL Y.bs Y.A m.F++R'))=>AT hk5 hFk R' w H)
  unfold ol at HH
  have f2:=Lk i.c i.p i.b
  rw [hk] at cr HNO
  unfold lA lR.v zO at HNO
  dsimp only at HNO
  have g1 : (0 : Int) <= (k : Int):=by omega
  have g2 : (k : Int) < 5:=by omega
  have HN:=zh (fun (R : List SL.HP) (w : World) (H : own w (shL Y.bs Y.A m.F++R))=>Nz Y.bs Y.A m.F (hW.sh hN) (k : Int) m.dk.kind m.dk.file m.dk.rate m.dk.burst Co R w H)
  have HDK : Hid (m.dk.root = (k : Int)):=zh hk
  have hnz:=Qv (F:=m.F) (root:=(k : Int)) (kind:=m.dk.kind) (file:=m.dk.file) (rate:=m.dk.rate) (burst:=m.dk.burst)
  have hnc:=LW m.F (k : Int) m.dk.kind m.dk.file m.dk.rate m.dk.burst
  generalize newM m.F (k : Int) m.dk.kind m.dk.file m.dk.rate m.dk.burst = NR at *
  have HS:=zh (fun (w' : World) (R' : List SL.HP) (h : own w' (yL Y m R'))=>show w'.cell? ⟨Y.y,6,none⟩ = some (.pointer (some ⟨Y.bs,0,none⟩)) /\ w'.cell? ⟨Y.y,7,none⟩ = some (.int .i64 (k : Int)) /\ w'.cell? ⟨Y.y,8,none⟩ = some (.int .i64 m.dk.kind) /\ w'.cell? ⟨Y.y,9,none⟩ = some (.int .i64 m.dk.file) /\ w'.cell? ⟨Y.y,10,none⟩ = some (.int .i64 m.dk.rate) /\ w'.cell? ⟨Y.y,11,none⟩ = some (.int .i64 m.dk.burst) /\ w'.cell? ⟨Y.bs,k,none⟩ = some (.pointer (some ⟨(Y.A k).1,0,none⟩)) from ⟨y_bs h,by rw [yM h,HDK.out],Cb h,Ca h,Ev h,Dn h,by rw [ou (R:=yT Y m++R') h hk5,lU hFk]⟩)
  by_cases h2 : m.dk.kind = 2
  ·have t2 : (m.dk.kind == 2) = true:=by simp [h2]
   by_cases hb : i.b = m.dk.file
   ·have tb : (i.b == m.dk.file) = true:=by simp [hb]
    rw [zt ⟨h2,hb⟩] at hres
    have HRES:=zh hres
    clear hres HN hnz hnc h2 hb hFk hr h0 cb cf hroot hW
    go_enter Tryz.func98,Tryz.ntmps98
    go_upto_region 1 with (fail)
    have hz:=ln H
    have hxz:=(zR w).drew
    refine wp_region_held_drew (S:=fun w'=>w'.cell? ⟨Y.y,6,none⟩ = some (.pointer (some ⟨Y.bs,0,none⟩)) /\ w'.cell? ⟨Y.y,7,none⟩ = some (.int .i64 (k : Int)) /\ w'.cell? ⟨Y.y,8,none⟩ = some (.int .i64 m.dk.kind) /\ w'.cell? ⟨Y.y,9,none⟩ = some (.int .i64 m.dk.file) /\ w'.cell? ⟨Y.y,10,none⟩ = some (.int .i64 m.dk.rate) /\ w'.cell? ⟨Y.y,11,none⟩ = some (.int .i64 m.dk.burst) /\ w'.cell? ⟨Y.bs,k,none⟩ = some (.pointer (some ⟨(Y.A k).1,0,none⟩))) (by kernel_rfl) (HS.out _ _ hz) (fun hHeld=>?_)
    refine tk 0 ?_
    refine tk 1 ?_
    refine tk 2 ?_
    refine tk 3 ?_
    refine tk 4 ?_
    refine tk 5 ?_
    refine tk 6 ?_
    refine tk 7 ?_
    refine tk 8 ?_
    refine tk 9 ?_
    refine tk 10 ?_
    refine tk 11 ?_
    refine tk 12 ?_
    refine tk 13 ?_
    refine tk 14 ?_
    refine tk 15 ?_
    refine tk 16 ?_
    refine tk 17 ?_
    refine tk 18 ?_
    try simp only [Act.put,tA,tB,tC,tD,tE,tF]
    refine tk 21 ?_
    refine tk 22 ?_
    refine tk 23 ?_
    refine tk 24 ?_
    refine tk 25 ?_
    try simp only [Act.put,tA,tB,tC,tD,tE,tF]
    refine rd 19 rfl fun K hK=>?_
    go_simp
    go_at_call 71
    refine (HH.out _ _ hz).mono ?_
    rintro e w5 ⟨rfl,hx5,h5⟩
    go_simp
    refine hK.out _ _ (HS.out _ _ h5) (fun _=>?_)
    clear hK K
    try simp only [Act.put,tA,tB,tC,tD,tE,tF]
    refine tk 20 ?_
    try simp only [Act.put,tA,tB,tC,tD,tE,tF]
    refine tk 26 ?_
    refine tk 27 ?_
    try simp only [Act.put,tA,tB,tC,tD,tE,tF]
    refine wpAnyH_done (by kernel_rfl) ?_ _
    have hx7:=hxz.trans hx5
    have cr:=yM h5
    go_wp2_with fail
    refine (HNO.out _ _ h5).mono ?_
    rintro e w8 ⟨rfl,hx8,h8⟩
    have fy:=BO h8
    have e7:=yM h8
    have e8:=Cb h8
    have e9:=Ca h8
    have e10:=Ev h8
    have e11:=Dn h8
    have h9:=FD (lA (k : Int)) h8
    clear cr
    go_wp2_with fail
    refine bodyPost_ret (results_none rfl _ _ _) rfl ?_
    rw [<- HRES.out]
    exact ⟨Y,rfl,rfl,((((((hx7.trans hx8).setCell _ _).setCell _ _).setCell _ _).setCell _ _).setCell _ _),h9⟩
   ·have tb : (i.b == m.dk.file) = false:=by simp [hb]
    rw [zq (fun h=>hb h.2)] at hres
    clear hb hFk hr hroot hW cb cf h0 h2
    go_enter Tryz.func98,Tryz.ntmps98
    go_upto_region 1 with (fail)
    have hz:=ln H
    have hxz:=(zR w).drew
    refine wp_region_held_drew (S:=fun w'=>w'.cell? ⟨Y.y,6,none⟩ = some (.pointer (some ⟨Y.bs,0,none⟩)) /\ w'.cell? ⟨Y.y,7,none⟩ = some (.int .i64 (k : Int)) /\ w'.cell? ⟨Y.y,8,none⟩ = some (.int .i64 m.dk.kind) /\ w'.cell? ⟨Y.y,9,none⟩ = some (.int .i64 m.dk.file) /\ w'.cell? ⟨Y.y,10,none⟩ = some (.int .i64 m.dk.rate) /\ w'.cell? ⟨Y.y,11,none⟩ = some (.int .i64 m.dk.burst) /\ w'.cell? ⟨Y.bs,k,none⟩ = some (.pointer (some ⟨(Y.A k).1,0,none⟩))) (by kernel_rfl) (HS.out _ _ hz) (fun hHeld=>?_)
    refine tk 0 ?_
    refine tk 1 ?_
    refine tk 2 ?_
    refine tk 3 ?_
    refine tk 4 ?_
    refine tk 5 ?_
    refine tk 6 ?_
    refine tk 7 ?_
    refine tk 8 ?_
    refine tk 9 ?_
    refine tk 10 ?_
    refine tk 11 ?_
    refine tk 12 ?_
    refine tk 13 ?_
    refine tk 14 ?_
    refine tk 15 ?_
    refine tk 16 ?_
    refine tk 17 ?_
    refine tk 18 ?_
    try simp only [Act.put,tA,tB,tC,tD,tE,tF]
    refine tk 21 ?_
    refine tk 22 ?_
    refine tk 23 ?_
    refine tk 24 ?_
    refine tk 25 ?_
    try simp only [Act.put,tA,tB,tC,tD,tE,tF]
    refine rd 19 rfl fun K hK=>?_
    go_simp
    go_at_call 71
    refine (HH.out _ _ hz).mono ?_
    rintro e w5 ⟨rfl,hx5,h5⟩
    go_simp
    refine hK.out _ _ (HS.out _ _ h5) (fun _=>?_)
    clear hK K
    try simp only [Act.put,tA,tB,tC,tD,tE,tF]
    refine tk 20 ?_
    try simp only [Act.put,tA,tB,tC,tD,tE,tF]
    refine tk 26 ?_
    refine tk 27 ?_
    try simp only [Act.put,tA,tB,tC,tD,tE,tF]
    refine wpAnyH_done (by kernel_rfl) ?_ _
    have hx7':=hxz.trans hx5
    clear f2 tb t2 HH hz hxz hHeld
    go_upto_region 3 with (fail)
    have hm3:=ln h5
    have hx3:=(hx7').drew
    cases hNR : NR with
    | mk oj f=>
     rw [hNR] at HN hres hnz hnc
     cases oj with
     | none=>
      have hf : 0 < f:=by have:=hnz rfl; dsimp only at this hnc; omega
      have HN1:=zh (fun (R : List SL.HP) (w : World) (H : own w (shL Y.bs Y.A m.F++R))=>(HN.out R w H).mono fun e w' h=>show e = .returned (.tuple #[.pointer none,errV f]) /\ Ext w w' /\ own w' (shL Y.bs Y.A m.F++R) from h)
      rw [lv hf] at HN1
      have HRES:=zh hres
      clear hres HN
      go_region_held3 (fun w'=>w'.cell? ⟨Y.y,6,none⟩ = some (.pointer (some ⟨Y.bs,0,none⟩)) /\ w'.cell? ⟨Y.y,7,none⟩ = some (.int .i64 (k : Int)) /\ w'.cell? ⟨Y.y,8,none⟩ = some (.int .i64 m.dk.kind) /\ w'.cell? ⟨Y.y,9,none⟩ = some (.int .i64 m.dk.file) /\ w'.cell? ⟨Y.y,10,none⟩ = some (.int .i64 m.dk.rate) /\ w'.cell? ⟨Y.y,11,none⟩ = some (.int .i64 m.dk.burst) /\ w'.cell? ⟨Y.bs,k,none⟩ = some (.pointer (some ⟨(Y.A k).1,0,none⟩))) (first | exact HS.out _ _ hm3 | exact HS.out _ _ h6) (first | (go_at_call 15; refine (HN1.out _ _ hm3).mono ?_; rintro e w6 ⟨rfl,hx6,h6⟩))
      have hx7:=hx3.trans hx6
      have cr:=yM h6
      go_wp2_with fail
      refine (HNO.out _ _ h6).mono ?_
      rintro e w8 ⟨rfl,hx8,h8⟩
      have fy:=BO h8
      have e7:=yM h8
      have e8:=Cb h8
      have e9:=Ca h8
      have e10:=Ev h8
      have e11:=Dn h8
      have h9:=FD (lA (k : Int)) h8
      clear cr
      go_wp2_with fail
      refine bodyPost_ret (results_none rfl _ _ _) rfl ?_
      rw [<- HRES.out]
      exact ⟨Y,rfl,rfl,((((((hx7.trans hx8).setCell _ _).setCell _ _).setCell _ _).setCell _ _).setCell _ _),h9⟩
     | some j=>
      have HN1:=zh (fun (R : List SL.HP) (w : World) (H : own w (shL Y.bs Y.A m.F++R))=>(HN.out R w H).mono fun e w' h=>show ∃bj bt bb v,e = .returned (.tuple #[.pointer (some ⟨bj,0,none⟩),.nilIface]) /\ Ext w w' /\ own w' (shL Y.bs Y.A m.F++(jobL Y.bs bj bt bb v j++(row 3 1 v j.list.length (lq j.list)::R))) from h)
      have HRES:=zh hres
      clear hres HN
      go_region_held3 (fun w'=>w'.cell? ⟨Y.y,6,none⟩ = some (.pointer (some ⟨Y.bs,0,none⟩)) /\ w'.cell? ⟨Y.y,7,none⟩ = some (.int .i64 (k : Int)) /\ w'.cell? ⟨Y.y,8,none⟩ = some (.int .i64 m.dk.kind) /\ w'.cell? ⟨Y.y,9,none⟩ = some (.int .i64 m.dk.file) /\ w'.cell? ⟨Y.y,10,none⟩ = some (.int .i64 m.dk.rate) /\ w'.cell? ⟨Y.y,11,none⟩ = some (.int .i64 m.dk.burst) /\ w'.cell? ⟨Y.bs,k,none⟩ = some (.pointer (some ⟨(Y.A k).1,0,none⟩))) (first | exact HS.out _ _ hm3 | exact HS.out _ _ h6) (first | (go_at_call 15; refine (HN1.out _ _ hm3).mono ?_; rintro e w6 ⟨bj,bt,bb,v,rfl,hx6,h6'⟩; have h6:=Kt h6'))
      have hx7:=hx3.trans hx6
      have cj:=FC h6
      have fj:=BO h6 13
      have h9:=GD h6
      go_wp2_with fail
      go_end0
      rw [<- HRES.out]
      exact ⟨{ Y with bj:=bj,bt:=bt,bb:=bb,vj:=v },rfl,rfl,hx7.setCell _ _,h9⟩
  ·have t2 : (m.dk.kind == 2) = false:=by simp [h2]
   rw [zq (fun h=>h2 h.1)] at hres
   go_enter Tryz.func98,Tryz.ntmps98
   go_upto_region 1 with (fail)
   have hz:=ln H
   have hxz:=(zR w).drew
   refine wp_region_held_drew (S:=fun w'=>w'.cell? ⟨Y.y,6,none⟩ = some (.pointer (some ⟨Y.bs,0,none⟩)) /\ w'.cell? ⟨Y.y,7,none⟩ = some (.int .i64 (k : Int)) /\ w'.cell? ⟨Y.y,8,none⟩ = some (.int .i64 m.dk.kind) /\ w'.cell? ⟨Y.y,9,none⟩ = some (.int .i64 m.dk.file) /\ w'.cell? ⟨Y.y,10,none⟩ = some (.int .i64 m.dk.rate) /\ w'.cell? ⟨Y.y,11,none⟩ = some (.int .i64 m.dk.burst) /\ w'.cell? ⟨Y.bs,k,none⟩ = some (.pointer (some ⟨(Y.A k).1,0,none⟩))) (by kernel_rfl) (HS.out _ _ hz) (fun hHeld=>?_)
   refine tk 0 ?_
   refine tk 1 ?_
   refine tk 2 ?_
   refine tk 3 ?_
   refine tk 4 ?_
   refine tk 5 ?_
   refine tk 6 ?_
   try simp only [Act.put,tA,tB,tC,tD,tE,tF]
   refine sk 7 ?_
   refine sk 8 ?_
   refine sk 9 ?_
   refine sk 10 ?_
   refine sk 11 ?_
   refine sk 12 ?_
   refine sk 13 ?_
   refine sk 14 ?_
   refine sk 15 ?_
   refine sk 16 ?_
   refine sk 17 ?_
   refine sk 18 ?_
   refine sk 19 ?_
   refine sk 20 ?_
   refine sk 21 ?_
   refine sk 22 ?_
   refine sk 23 ?_
   refine sk 24 ?_
   refine sk 25 ?_
   refine sk 26 ?_
   try simp only [Act.put,tA,tB,tC,tD,tE,tF]
   refine tk 27 ?_
   try simp only [Act.put,tA,tB,tC,tD,tE,tF]
   refine wpAnyH_done (by kernel_rfl) ?_ _
   go_upto_region 3 with (fail)
   have hm3:=ln hz
   have hx3:=(hxz).drew
   cases hNR : NR with
   | mk oj f=>
    rw [hNR] at HN hres hnz hnc
    cases oj with
    | none=>
     have hf : 0 < f:=by have:=hnz rfl; dsimp only at this hnc; omega
     have HN1:=zh (fun (R : List SL.HP) (w : World) (H : own w (shL Y.bs Y.A m.F++R))=>(HN.out R w H).mono fun e w' h=>show e = .returned (.tuple #[.pointer none,errV f]) /\ Ext w w' /\ own w' (shL Y.bs Y.A m.F++R) from h)
     rw [lv hf] at HN1
     have HRES:=zh hres
     clear hres HN
     go_region_held3 (fun w'=>w'.cell? ⟨Y.y,6,none⟩ = some (.pointer (some ⟨Y.bs,0,none⟩)) /\ w'.cell? ⟨Y.y,7,none⟩ = some (.int .i64 (k : Int)) /\ w'.cell? ⟨Y.y,8,none⟩ = some (.int .i64 m.dk.kind) /\ w'.cell? ⟨Y.y,9,none⟩ = some (.int .i64 m.dk.file) /\ w'.cell? ⟨Y.y,10,none⟩ = some (.int .i64 m.dk.rate) /\ w'.cell? ⟨Y.y,11,none⟩ = some (.int .i64 m.dk.burst) /\ w'.cell? ⟨Y.bs,k,none⟩ = some (.pointer (some ⟨(Y.A k).1,0,none⟩))) (first | exact HS.out _ _ hm3 | exact HS.out _ _ h6) (first | (go_at_call 15; refine (HN1.out _ _ hm3).mono ?_; rintro e w6 ⟨rfl,hx6,h6⟩))
     have hx7:=hx3.trans hx6
     have cr:=yM h6
     go_wp2_with fail
     refine (HNO.out _ _ h6).mono ?_
     rintro e w8 ⟨rfl,hx8,h8⟩
     have fy:=BO h8
     have e7:=yM h8
     have e8:=Cb h8
     have e9:=Ca h8
     have e10:=Ev h8
     have e11:=Dn h8
     have h9:=FD (lA (k : Int)) h8
     clear cr
     go_wp2_with fail
     refine bodyPost_ret (results_none rfl _ _ _) rfl ?_
     rw [<- HRES.out]
     exact ⟨Y,rfl,rfl,((((((hx7.trans hx8).setCell _ _).setCell _ _).setCell _ _).setCell _ _).setCell _ _),h9⟩
    | some j=>
     have HN1:=zh (fun (R : List SL.HP) (w : World) (H : own w (shL Y.bs Y.A m.F++R))=>(HN.out R w H).mono fun e w' h=>show ∃bj bt bb v,e = .returned (.tuple #[.pointer (some ⟨bj,0,none⟩),.nilIface]) /\ Ext w w' /\ own w' (shL Y.bs Y.A m.F++(jobL Y.bs bj bt bb v j++(row 3 1 v j.list.length (lq j.list)::R))) from h)
     have HRES:=zh hres
     clear hres HN
     go_region_held3 (fun w'=>w'.cell? ⟨Y.y,6,none⟩ = some (.pointer (some ⟨Y.bs,0,none⟩)) /\ w'.cell? ⟨Y.y,7,none⟩ = some (.int .i64 (k : Int)) /\ w'.cell? ⟨Y.y,8,none⟩ = some (.int .i64 m.dk.kind) /\ w'.cell? ⟨Y.y,9,none⟩ = some (.int .i64 m.dk.file) /\ w'.cell? ⟨Y.y,10,none⟩ = some (.int .i64 m.dk.rate) /\ w'.cell? ⟨Y.y,11,none⟩ = some (.int .i64 m.dk.burst) /\ w'.cell? ⟨Y.bs,k,none⟩ = some (.pointer (some ⟨(Y.A k).1,0,none⟩))) (first | exact HS.out _ _ hm3 | exact HS.out _ _ h6) (first | (go_at_call 15; refine (HN1.out _ _ hm3).mono ?_; rintro e w6 ⟨bj,bt,bb,v,rfl,hx6,h6'⟩; have h6:=Kt h6'))
     have hx7:=hx3.trans hx6
     have cj:=FC h6
     have fj:=BO h6 13
     have h9:=GD h6
     go_wp2_with fail
     go_end0
     rw [<- HRES.out]
     exact ⟨{ Y with bj:=bj,bt:=bt,bb:=bb,vj:=v },rfl,rfl,hx7.setCell _ _,h9⟩
def opF (D : Nat -> DevM) (q : Nat) : ShM:=fun k=>if k < q then (if (zB (D k)).1 = 0 then some (zB (D k)).2 else none) else none
def dkOf (s : ByteArray) : lR:=⟨(oV s).1.1,(oV s).1.2.1,(oV s).1.2.2.1,(oV s).1.2.2.2.1,(oV s).1.2.2.2.2⟩
def oO (D : Nat -> DevM) (top : DevM) : le:=⟨opF D 5,D,top,dkOf (top.seen 0),(lr (opF D 5) (dkOf (top.seen 0)).root).1,none⟩
def yj (D : Nat -> DevM) (top : DevM) : Int×le:=
  if (oV (top.seen 0)).2≠0 then ((oV (top.seen 0)).2,oO D top)
  else if (lr (opF D 5) (dkOf (top.seen 0)).root).2≠0 then ((lr (opF D 5) (dkOf (top.seen 0)).root).2,oO D top)
  else (0,zT (oO D top))
theorem Sj (d : DevM) : 0 <= (zB d).1:=by
  unfold zB DD
  split
  · exact Gk _
  · split
    · simp
    · exact Fm _ _ _ _
theorem QD {s : ByteArray} (h : (oV s).2 = 0) : (dkOf s).f = 0:=by
  unfold dkOf lR.f
  dsimp only
  unfold oV at h ⊢
  by_cases h1 : zF s≠0
  · rw [zt h1] at h; exact absurd h h1
  · rw [zq h1] at h ⊢
    by_cases h2 : Ac s
    · rw [zt h2] at h; exact absurd h (by simp)
    · rw [zq h2]
      exact Decidable.byContradiction fun hn=>h2 (.inl hn)
theorem QF {F : ShM} {r : Int} (h0 : 0 <= r) (h : (lr F r).2 = 0) : lz F r:=by
  unfold lr at h
  rw [show (6 : Nat) = 5 + 1 from rfl,ym,zq (by omega)] at h
  split at h
  · exact absurd h (by simp)
  · rename_i h1
    split at h
    · exact absurd h (by simp)
    · rename_i m hm
      exact ⟨by omega,by omega,m,hm⟩
theorem En (D : Nat -> DevM) (q : Nat) : opF D q q = none:=zq (by omega)
theorem XI {D : Nat -> DevM} {q : Nat} (h : (zB (D q)).1≠0) : opF D (q + 1) = opF D q:=funext fun k=>by
  unfold opF
  by_cases e : k = q
  · subst e; rw [zt (by omega),zq h,zq (by omega)]
  · by_cases h2 : k < q
    · rw [zt h2,zt (by omega)]
    · rw [zq h2,zq (by omega)]
theorem Xx {D : Nat -> DevM} {q : Nat} (h : (zB (D q)).1 = 0) : opF D (q + 1) = put (opF D q) q (zB (D q)).2:=funext fun k=>by
  by_cases e : k = q
  · subst e; rw [oU]; unfold opF; rw [zt (by omega),zt h]
  · rw [Ak _ _ e]
    unfold opF
    by_cases h2 : k < q
    · rw [zt h2,zt (by omega)]
    · rw [zq h2,zq (by omega)]
theorem Et {D : Nat -> DevM} {q k : Nat} {i : ImgM} (h : opF D q k = some i) : k < q /\ (zB (D k)).1 = 0 /\ i = (zB (D k)).2:=by
  unfold opF at h
  split at h
  · rename_i h1
    split at h
    · rename_i h2; exact ⟨h1,h2,(Option.some.inj h).symm⟩
    · cases h
  · cases h
theorem Ix {D : Nat -> DevM} {N : Nat} (h : ∀k,k < 5 -> (D k).Ok /\ (D k).writes <= N /\ (D k).pend.length <= N) : ShW N (opF D 5):=
  ⟨fun k i hk hi=>by obtain ⟨-,h0,rfl⟩:=Et hi; exact Vp (h k hk).1 h0,
   fun k i hk hi=>by obtain ⟨-,h0,rfl⟩:=Et hi; rw [IL]; exact (h k hk).2.1,
   fun k i hk hi=>by obtain ⟨-,h0,rfl⟩:=Et hi; rw [IL]; exact (h k hk).2.2⟩
def KM (w : World) (v : Value) (B : Nat -> Nat) : Prop:=∃b off cap,v = .slice (some ⟨b,off,none⟩) 5 cap /\ ∀k,k < 5 -> w.cell? ⟨b,off + k,none⟩ = some (.pointer (some ⟨B k,0,none⟩))
def Jm (S : Int×le) (R : List SL.HP) (w : World) (e : Ending) (w' : World) : Prop:=
  (S.1≠0 /\ e = .returned (.tuple #[.pointer none,errV S.1]) /\ Ext w w' /\ own w' R) \/
  (S.1 = 0 /\ ∃Y : YA,e = .returned (.tuple #[.pointer (some ⟨Y.y,0,none⟩),.nilIface]) /\ Ext w w' /\ own w' (yL Y S.2 R))
theorem Qq (B : Nat -> Nat) (D : Nat -> DevM) (X : List SL.HP) {k : Nat} (hk : k < 5) : (devL B D 5++X)[4 - k]? = some (lj (B k) (D k)):=by
  have h : k = 0 \/ k = 1 \/ k = 2 \/ k = 3 \/ k = 4:=by omega
  rcases h with rfl | rfl | rfl | rfl | rfl
  all_goals rfl
theorem TL {α : Type} : ∀{l : List α} {k : Nat} {x : α},l[k]? = some x -> (x::l.eraseIdx k).Perm l:=by
  intro l
  induction l with
  | nil=>intro k x h; simp at h
  | cons y l ih=>
    intro k x h
    cases k with
    | zero=>simp at h; subst h; exact List.Perm.refl _
    | succ k=>
      simp only [List.getElem?_cons_succ] at h
      exact (List.Perm.swap y x _).trans ((ih h).cons y)
theorem Mb (B : Nat -> Nat) (D : Nat -> DevM) (X : List SL.HP) {k : Nat} (hk : k < 5) : (lj (B k) (D k)::(devL B D 5++X).eraseIdx (4 - k)).Perm (devL B D 5++X):=TL (Qq B D X hk)
theorem WT {w : World} {l : List SL.HP} {B : Nat -> Nat} {D : Nat -> DevM} {X : List SL.HP} {k : Nat} (hk : k < 5) (H : own w (l++(devL B D 5++X))) : own w (lj (B k) (D k)::(l++(devL B D 5++X).eraseIdx (4 - k))):=
  ON (((Mb B D X hk).symm.append_left l).trans List.perm_middle) H
theorem XX {w : World} {l : List SL.HP} {B : Nat -> Nat} {D : Nat -> DevM} {X : List SL.HP} {k : Nat} (hk : k < 5) (H : own w (lj (B k) (D k)::(l++(devL B D 5++X).eraseIdx (4 - k)))) : own w (l++(devL B D 5++X)):=
  ON (List.perm_middle.symm.trans ((Mb B D X hk).append_left l)) H
theorem Yd {y bs tp q k : Nat} {A : Nat -> Nat×Nat×Nat} {F : ShM} {D' : Nat -> DevM} {t v : Value} {dk : lR} {top : DevM} {B : Nat -> Nat} {D : Nat -> DevM} {X : List SL.HP} {w : World} (hk : k < 5) (H : own w (nL y bs A F D' q t dk v (lj tp top::(devL B D 5++X)))) :
    own w (lj (B k) (D k)::nL y bs A F D' q t dk v (lj tp top::(devL B D 5++X).eraseIdx (4 - k))):=by
  have h:=WT (l:=shL bs A F++(nT y bs A F D' q t dk v++[lj tp top])) hk (by simpa only [zp,List.singleton_append] using H)
  simpa only [zp,List.singleton_append] using h
theorem n_in {y bs tp q k : Nat} {A : Nat -> Nat×Nat×Nat} {F : ShM} {D' : Nat -> DevM} {t v : Value} {dk : lR} {top : DevM} {B : Nat -> Nat} {D : Nat -> DevM} {X : List SL.HP} {P : SL.HP} {w : World} (hk : k < 5) (H : own w (P::lj (B k) (D k)::nL y bs A F D' q t dk v (lj tp top::(devL B D 5++X).eraseIdx (4 - k)))) :
    own w (P::nL y bs A F D' q t dk v (lj tp top::(devL B D 5++X))):=by
  have h:=XX (l:=P::(shL bs A F++(nT y bs A F D' q t dk v++[lj tp top]))) (B:=B) (D:=D) (X:=X) hk (by simpa only [zp,List.singleton_append,List.cons_append,List.nil_append] using Ei H)
  simpa only [zp,List.singleton_append,List.cons_append,List.nil_append] using h
theorem NY {y bs q k : Nat} {A : Nat -> Nat×Nat×Nat} {F : ShM} {D : Nat -> DevM} {t v : Value} {dk : lR} {R : List SL.HP} {w : World} (hk : k < 5) (H : own w ((nL y bs A F D q t dk v R).set (7 + k) emp)) : (∀i,w.cell? ⟨y,i,none⟩ = (nC bs A q t dk v)[i]?) /\ ∀i,w.frozen? ⟨y,i,none⟩ = false:=
  ld 6 H (by rw [List.getElem?_set_ne (by omega)]; rfl)
theorem Vq {y bs q k : Nat} {A : Nat -> Nat×Nat×Nat} {F : ShM} {D : Nat -> DevM} {t v : Value} {dk : lR} {R : List SL.HP} {w : World} (hk : k < 5) (hF : F k = none) (H : own w ((nL y bs A F D q t dk v R).set (7 + k) emp)) : w.cell? ⟨bs,k,none⟩ = some (.pointer none) /\ w.frozen? ⟨bs,k,none⟩ = false:=by
  obtain ⟨h1,h2⟩:=ld (arr:=yk A F) (T:=111) 0 H (by rw [List.getElem?_set_ne (by omega)]; rfl)
  refine ⟨?_,h2 k⟩
  rw [h1,<- CV (A:=A) hF]
  have h : k = 0 \/ k = 1 \/ k = 2 \/ k = 3 \/ k = 4:=by omega
  rcases h with rfl | rfl | rfl | rfl | rfl
  all_goals rfl
theorem Yl (bs : Nat) (A : Nat -> Nat×Nat×Nat) (q : Nat) (t : Value) (dk : lR) (v : Value) {k : Nat} (hk : k < 5) : (nC bs A q t dk v)[k]? = some (A3 A q k):=by
  have h : k = 0 \/ k = 1 \/ k = 2 \/ k = 3 \/ k = 4:=by omega
  rcases h with rfl | rfl | rfl | rfl | rfl
  all_goals rfl
theorem XL {y bs q : Nat} {A : Nat -> Nat×Nat×Nat} {F : ShM} {D : Nat -> DevM} {t v : Value} {dk : lR} {R : List SL.HP} {w : World} (d : lR) (H : own w (nL y bs A F D q t dk v R)) :
    own (((((w.setCell ⟨y,7,none⟩ (.int .i64 d.root)).setCell ⟨y,8,none⟩ (.int .i64 d.kind)).setCell ⟨y,9,none⟩ (.int .i64 d.file)).setCell ⟨y,10,none⟩ (.int .i64 d.rate)).setCell ⟨y,11,none⟩ (.int .i64 d.burst)) (nL y bs A F D q t d v R):=
  lp (i:=11) (v:=.int .i64 d.burst) 6 (lp (i:=10) (v:=.int .i64 d.rate) 6 (lp (i:=9) (v:=.int .i64 d.file) 6 (lp (i:=8) (v:=.int .i64 d.kind) 6 (lp (i:=7) (v:=.int .i64 d.root) 6 H rfl) rfl) rfl) rfl) rfl
end Go.Proofs.YtbpblokfiajpjabGreatDoor
