/- Lemmas on which TopEnds stands: the texts Jobs7 Jobs8 Jobs10 Jobs11 Jobs12 Jobs9 Chain19 Chain20 Jobs17 Jobs18 Yard1 Yard2 Yard3 Yard4 Yard5 YardP1. No conditions. -/
import Derived.Test.YtbpblokfiajpjabGreatDoorPk8a49a85ed9
set_option linter.all false
set_option maxRecDepth 1000000
set_option maxHeartbeats 32000000
namespace Go.Proofs.YtbpblokfiajpjabGreatDoor
open Go.RowKit Go.SL Go.Crc
attribute [local go_sem ↓] Go.wp_at_zero Go.wp_at_succ
def S1 (bs : Nat) (v : Value) (j : JobM) (i : Nat) : Value:=
 if i = 0 then .pointer (some ⟨bs,0,none⟩) else if i = 1 then .int .i64 j.root else if i = 2 then .int .i64 j.kind else if i = 3 then .int .i64 j.file else if i = 4 then .int .i64 j.rate
 else if i = 5 then .int .i64 j.burst else if i = 6 then v else if i = 7 then .int .i64 (S8 j : Nat) else if i = 8 then .int .i64 (j.n : Nat) else if i = 73 then .int .i64 ((j.at_ : Nat) - 1 : Int)
 else if i = 74 then .int .i64 j.st else if i = 75 then .int .i64 j.rate else if i = 76 then .int .i64 j.burst else if i = 77 then .int .i64 j.level else .bool (j.x.testBit (i - 9))
def S9 (bs : Nat) (v : Value) (j : JobM) : Array Value:=Array.ofFn (n:=78) fun i=>S1 bs v j i
def P7 (bs br : Nat) (v : Value) (j : JobM) : SL.HP:=pts br (.cells (S9 bs v j) 149 (0,0))


def ye (f : Int) : Nat -> List Int -> Int
 | _,[]=>-1
 | i,x::l=>if x = f then (i : Int) else ye f (i + 1) l
def yl (l : List Int) (f : Int) : Int:=ye f 0 l
theorem JF {f : Int} : ∀{l : List Int} {i : Nat},ye f i l = -1 \/ ((i : Int) <= ye f i l /\ ye f i l < (i : Int) + l.length):=by
 intro l
 induction l with
 | nil=>intro i; exact .inl rfl
 | cons x l ih=>
  intro i
  rw [ye]
  split
  ·right; simp only [List.length_cons]; omega
  ·rcases ih (i:=i + 1) with h | h
   ·exact .inl h
   ·right; simp only [List.length_cons]; omega
def bkOf (F : ShM) (x : Int) : Int:=match F x.toNat with
 | some m=>m.b
 | none=>-1
def Ch (F : ShM) : List Int -> Int -> Prop
 | [],_=>True
 | x::l,e=>bkOf F x = l.headD e /\ Ch F l e
theorem Ch.snoc {F : ShM} {x : Int} : ∀{l : List Int},Ch F l x -> Ch F (l++[x]) (bkOf F x):=by
 intro l
 induction l with
 | nil=>intro _; exact ⟨rfl,trivial⟩
 | cons y l ih=>
  intro h
  refine ⟨?_,ih h.2⟩
  have h1:=h.1
  cases l with
  | nil=>exact h1
  | cons z l=>exact h1
theorem Ch.same {F : ShM} : ∀{l l' : List Int} {x : Int},(∀y∈l,0 <= y) -> (∀y∈l',0 <= y) -> Ch F (x::l) (-1) -> Ch F (x::l') (-1) -> l = l':=by
 intro l
 induction l with
 | nil=>
  intro l' x _ h' h1 h2
  cases l' with
  | nil=>rfl
  | cons z l'=>
   have a:=h1.1
   have b:=h2.1
   have c:=h' z List.mem_cons_self
   simp only [List.headD] at a b
   omega
 | cons y l ih=>
  intro l' x h h' h1 h2
  cases l' with
  | nil=>
   have a:=h1.1
   have b:=h2.1
   have c:=h y List.mem_cons_self
   simp only [List.headD] at a b
   omega
  | cons z l'=>
   have a:=h1.1
   have b:=h2.1
   simp only [List.headD] at a b
   have e : y = z:=by omega
   subst e
   rw [ih (fun q hq=>h q (List.mem_cons_of_mem _ hq)) (fun q hq=>h' q (List.mem_cons_of_mem _ hq)) h1.2 h2.2]
theorem Ch.tail {F : ShM} {e : Int} : ∀{p l : List Int},Ch F (p++l) e -> Ch F l e:=by
 intro p
 induction p with
 | nil=>intro l h; exact h
 | cons y p ih=>intro l h; exact ih h.2
theorem Ch.nodup {F : ShM} : ∀{l : List Int},(∀y∈l,0 <= y) -> Ch F l (-1) -> l.Nodup:=by
 intro l
 induction l with
 | nil=>intro _ _; exact List.nodup_nil
 | cons x l ih=>
  intro h hc
  refine List.nodup_cons.2 ⟨fun hx=>?_,ih (fun q hq=>h q (List.mem_cons_of_mem _ hq)) hc.2⟩
  obtain ⟨p,q,hpq⟩:=List.append_of_mem hx
  have h2 : Ch F (x::q) (-1):=Ch.tail (p:=p) (by rw [<- hpq]; exact hc.2)
  have hs:=Ch.same (fun y hy=>h y (List.mem_cons_of_mem _ hy)) (fun y hy=>h y (List.mem_cons_of_mem _ (by rw [hpq]; exact List.mem_append.2 (.inr (List.mem_cons_of_mem _ hy))))) hc h2
  have:=congrArg List.length hpq
  rw [hs] at this
  simp at this
  omega
theorem NW {F : ShM} {root : Int} : ∀{n : Nat} {l : List Int} {at_ : Int},n + l.length = 6 -> l.length <= 5 -> Ch F l at_ -> (∀y∈l,0 <= y) -> (oL F root n l at_).2 = 0 -> (oL F root n l at_).1.Nodup:=by
 intro n
 induction n with
 | zero=>
  intro l at_ hn h5
  omega
 | succ n ih=>
  intro l at_ hn h5 hc hl
  rw [oL]
  split
  ·rename_i h1
   intro _
   rw [h1] at hc
   exact Ch.nodup hl hc
  ·split
   ·intro h; exact absurd h (by decide)
   ·split
    ·intro h; exact absurd h (by decide)
    ·rename_i h2 m hm
     split
     ·intro h; exact absurd h (by decide)
     ·split
      ·intro h; exact absurd h (by decide)
      ·rename_i h6 h7
       refine ih (by simp; omega) (by simp; omega) ?_ ?_
       ·have:=Ch.snoc hc
        rw [show bkOf F at_ = m.b by unfold bkOf; rw [hm]] at this
        exact this
       ·intro y hy
        rcases List.mem_append.1 hy with h | h
        ·exact hl y h
        ·rw [List.mem_singleton.1 h]; omega
theorem Gs {F : ShM} {root : Int} (h : (lk F root).2 = 0) : (lk F root).1.Nodup:=NW rfl (by decide) trivial (fun y hy=>by cases hy) h
theorem KB {f : Int} : ∀{l : List Int} {i : Nat},f∉l -> ye f i l = -1:=by
 intro l
 induction l with
 | nil=>intro i _; rfl
 | cons x l ih=>
  intro i h
  rw [ye,zq (fun e=>h (by rw [e]; exact List.mem_cons_self)),ih (fun hm=>h (List.mem_cons_of_mem _ hm))]
theorem Jw (v : Value) (l : List Int) (f : Int) (hl5 : l.length <= 5) (w : World) (hv : lV w v l) :
  Calls Tryz.prog 73 #[v,.int .i64 f] w fun e w'=>e = .returned (.int .i64 (yl l f)) /\ w = w':=by
 obtain ⟨ao,lb,off,cap,rfl,hlc,hcap,hao,hat⟩:=hv.form
 generalize hres : yl l f = res
 unfold yl at hres
 have HRES:=zh hres
 have HAO:=zh hao
 have HAT:=zh hat
 clear hres hao hat hv
 go_enter Tryz.func73,Tryz.ntmps73
 go_wp2_with fail
 go_loop [9] (fun i=>∃q : Nat,q <= l.length /\ i = .int .i64 q /\ ye f q (l.drop q) = res) (fun i=>l.length - (intOf i).toNat)
 case atStart=>exact ⟨0,Nat.zero_le _,rfl,HRES.out⟩
 case round=>
  obtain ⟨q,hq,rfl,hgo⟩:=hrel
  by_cases hlt : q < l.length
  ·obtain rfl:=HAO.out (by omega)
   have c1:=HAT.out q hlt
   rw [BW 0 hlt,ye] at hgo
   have j1 : (0 : Int) <= (q : Int):=by omega
   have j2 : (q : Int) < (l.length : Int):=by omega
   generalize l.getD q 0 = x at *
   by_cases hx : x = f
   ·subst hx
    rw [zt rfl] at hgo
    subst hgo
    go_wp2_with fail
    go_ret
    exact ⟨rfl,rfl⟩
   ·rw [zq hx] at hgo
    have HGO:=zh hgo
    have d0 : (x == f) = false:=by rw [zb]; exact hx
    clear hgo hx
    go_wp2_with fail
    go_round
    case rel=>exact ⟨q + 1,by omega,by go_num,HGO.out⟩
    case measure=>simp [intOf]; omega
  ·obtain rfl : l.length = q:=by omega
   rw [List.drop_of_length_le (Nat.le_refl _)] at hgo
   have hgo' : res = -1:=hgo.symm
   subst hgo'
   clear hgo
   go_wp2_with fail
   go_ret
   exact ⟨rfl,rfl⟩
def oE (F : ShM) (j : JobM) : Nat -> Nat
  | 0=>0
  | c + 1=>(ou j.n (oE F j c) (c : Int) (oH F j (c : Int))).2
theorem Gf (F : ShM) (j : JobM) (hn : j.n <= 64) : ∀c,oE F j c < 2 ^ j.n
  | 0=>Nat.two_pow_pos _
  | c + 1=>Db hn (Gf F j hn c) _ _
theorem J2 (F : ShM) (j : JobM) (hn : j.n <= 64) : ∀c q,c <= q -> q < 64 -> (oE F j c).testBit q = false
  | 0,q,_,_=>by simp [oE]
  | c + 1,q,h,h64=>by
    have ih:=J2 F j hn c q (by omega) h64
    rw [oE]
    cases hp : (ou j.n (oE F j c) (c : Int) (oH F j (c : Int))).1
    · have : (ou j.n (oE F j c) (c : Int) (oH F j (c : Int))).2 = oE F j c:=by
        unfold ou at hp ⊢
        split at hp
        · cases hp
        · rename_i h; rw [zq h]
      rw [this]
      exact ih
    · rw [II h64 hp,zq (by omega)]
      exact ih
theorem PT (F : ShM) (j : JobM) (hn : j.n <= 64) {c : Nat} (hc : c < j.n) : ∀q,q < 64 -> (oE F j (c + 1)).testBit q = if q = c then oH F j (c : Int) else (oE F j c).testBit q:=by
  intro q hq
  rw [oE]
  have h0:=J2 F j hn c c (Nat.le_refl _) (by omega)
  cases hp : (ou j.n (oE F j c) (c : Int) (oH F j (c : Int))).1
  · unfold ou at hp ⊢
    split at hp
    · cases hp
    · rename_i h
      rw [zq h]
      by_cases e : q = c
      · subst e
        rw [zt rfl,h0]
        cases hw : oH F j (q : Int)
        · rfl
        · exfalso
          apply h
          refine ⟨by omega,by omega,?_⟩
          rw [zn,h0,hw]
          decide
      · rw [zq e]
  · rw [II hq hp,zn]
def E8 (F : ShM) (x : Int) : Bool:=decide (0 <= x) && decide (x < 5) && (F x.toNat).isSome
theorem BF {F : ShM} {x : Int} : E8 F x = true↔lq F x:=by
  unfold E8 lq
  simp only [Bool.and_eq_true,decide_eq_true_eq,Option.isSome_iff_exists,and_assoc]
def jNew (F : ShM) (root kind file rate burst : Int) (l : List Int) (deep : Nat) : JobM:=
  { root:=root,kind:=kind,file:=file,rate:=rate,burst:=burst,list:=l,deep:=deep,n:=(clus F root).toNat,x:=0,at_:=0,st:=2,level:=burst }
def yP (F : ShM) (j : JobM) : JobM:={ j with x:=oE F j j.n }
def newM (F : ShM) (root kind file rate burst : Int) : Option JobM×Int:=
  if (lk F root).2≠0 then (none,(lk F root).2)
  else if (lk F root).1.length = 0 then (none,4)
  else if AB rate burst = false then (none,1)
  else if kind = 1 then
    (if E8 F file = false then (none,4)
     else if 0 <= yl (lk F root).1 file \/ bkOf F file≠-1 \/ clus F file≠clus F root then (none,2)
     else (some (yP F (jNew F root kind file rate burst (lk F root).1 0)),0))
  else if kind = 2 /\ file = -1 then (some (yP F (jNew F root kind file rate burst (lk F root).1 (lk F root).1.length)),0)
  else if kind = 2 \/ kind = 3 then
    (if yl (lk F root).1 file < 1 then (none,4) else (some (yP F (jNew F root kind file rate burst (lk F root).1 (yl (lk F root).1 file).toNat)),0))
  else (none,1)
theorem Lo {F : ShM} {root : Int} : ∀{n : Nat} {l : List Int} {at_ : Int},(∀y,l.head? = some y -> y = root) -> (l = [] -> at_ = root) -> ∀y,(oL F root n l at_).1.head? = some y -> y = root:=by
  intro n
  induction n with
  | zero=>intro l at_ h _; exact h
  | succ n ih=>
    intro l at_ h h2
    rw [oL]
    split
    · exact h
    · split
      · intro y hy; cases hy
      · split
        · intro y hy; cases hy
        · split
          · intro y hy; cases hy
          · split
            · intro y hy; cases hy
            · refine ih ?_ (by simp)
              intro y hy
              cases l with
              | nil=>simp at hy; rw [<- hy]; exact h2 rfl
              | cons z l=>exact h y (by simpa using hy)
theorem D9 {F : ShM} {root : Int} (h : (lk F root).1.length≠0) : lq F root:=by
  have h1:=Lo (F:=F) (root:=root) (n:=6) (l:=[]) (at_:=root) (fun y hy=>by cases hy) (fun _=>rfl)
  have h2:=yG F root
  cases hw : (lk F root).1 with
  | nil=>rw [hw] at h; exact absurd rfl h
  | cons z l=>
    have e : z = root:=h1 z (by show (lk F root).1.head? = _; rw [hw]; rfl)
    rw [<- e]
    exact h2 z (by rw [hw]; exact List.mem_cons_self)
theorem yH {F : ShM} (hF : ShOk F) {x : Int} (h : lq F x) : 1 <= clus F x /\ clus F x <= 32:=by
  obtain ⟨k,m,rfl,hk,hm⟩:=og h
  rw [y8 hm]
  have:=(hF.ok k m hk hm).head
  unfold lH at this
  omega
theorem OQ {r u : Int} : AB r u = true↔0 <= r /\ r <= 1000 /\ 0 <= u /\ u <= 1000:=by unfold AB; simp
theorem Dg {F : ShM} (hF : ShOk F) {root kind file rate burst : Int} {deep : Nat} (hr : lq F root) (hl5 : (lk F root).1.length <= 5) (h0 : (lk F root).1.length≠0) (ho : AB rate burst = true) (hk : kind = 1 \/ kind = 2 \/ kind = 3) (hd : deep <= (lk F root).1.length) :
    (yP F (jNew F root kind file rate burst (lk F root).1 deep)).Ok:=by
  have hc:=yH hF hr
  obtain ⟨a,b,c,d⟩:=OQ.1 ho
  have hn : (jNew F root kind file rate burst (lk F root).1 deep).n <= 64:=by show (clus F root).toNat <= 64; omega
  exact ⟨hk,hn,Gf F _ hn _,hl5,h0,hd,⟨a,b⟩,⟨c,d⟩,⟨c,Int.le_refl _⟩,Nat.zero_le _,(⟨by decide,by decide⟩ : (1 : Int) <= 2 /\ (2 : Int) <= 5)⟩
theorem CV (l : List Int) (f : Int) : yl l f = -1 \/ (0 <= yl l f /\ yl l f < l.length):=by
  have:=JF (f:=f) (l:=l) (i:=0)
  unfold yl
  omega
theorem Lj {f : Int} : ∀{l : List Int} {i : Nat},0 <= ye f i l -> f∈l:=by
  intro l
  induction l with
  | nil=>intro i h; exact absurd (show (0 : Int) <= -1 from h) (by decide)
  | cons x l ih=>
    intro i h
    rw [ye] at h
    split at h
    · rename_i e; rw [e]; exact List.mem_cons_self
    · exact List.mem_cons_of_mem _ (ih h)
theorem Jq {F : ShM} (hF : ShOk F) {root kind file rate burst : Int} (hl5 : (lk F root).1.length <= 5) {j : JobM} (h : (newM F root kind file rate burst).1 = some j) : j.Ok /\ JobS F j:=by
  unfold newM at h
  split at h
  · cases h
  · split at h
    · cases h
    · rename_i h0
      split at h
      · cases h
      · rename_i ho
        have ho : AB rate burst = true:=by simpa using ho
        have hr:=D9 h0
        have hf:=yG F root
        split at h
        · rename_i hk
          split at h
          · cases h
          · rename_i hfi
            split at h
            · cases h
            · cases h
              exact ⟨Dg hF hr hl5 h0 ho (.inl hk) (Nat.zero_le _),hf,fun _=>(BF.1 (by simpa using hfi) : lq F file)⟩
        · split at h
          · rename_i hk
            cases h
            exact ⟨Dg hF hr hl5 h0 ho (.inr (.inl hk.1)) (Nat.le_refl _),hf,fun h2=>absurd hk.1 h2⟩
          · split at h
            · rename_i hk
              split at h
              · cases h
              · rename_i hp
                cases h
                have hpr:=CV (lk F root).1 file
                exact ⟨Dg hF hr hl5 h0 ho (.inr hk) (by omega),hf,fun _=>(hf _ (Lj (i:=0) (by show 0 <= yl (lk F root).1 file; omega)) : lq F file)⟩
            · cases h

section
variable {b b2 : Nat} {A : Nat -> Nat×Nat×Nat} {A2 : Nat -> Nat×Nat} {F : ShM} {R : List SL.HP} {w : World} {k : Nat}
end
end Go.Proofs.YtbpblokfiajpjabGreatDoor
namespace Go.Proofs.YtbpblokfiajpjabGreatDoor
open Go.RowKit Go.SL Go.Crc
attribute [local go_sem ↓] Go.wp_at_zero Go.wp_at_succ
theorem BY {R : List SL.HP} (hT : ∀w' L,own w' (L++R) -> Ak w') (X : List SL.HP) : ∀w' L,own w' (L++(X++R)) -> Ak w':=fun w' L h=>hT w' (L++X) (by rwa [zp])
end Go.Proofs.YtbpblokfiajpjabGreatDoor
namespace Go.Proofs.YtbpblokfiajpjabGreatDoor
open Go.RowKit Go.SL Go.Crc
def oO (j j' : JobM) : Prop:=j'.list = j.list /\ j'.kind = j.kind /\ j'.file = j.file /\ j'.root = j.root /\ j'.n = j.n
theorem oO.refl (j : JobM) : oO j j:=⟨rfl,rfl,rfl,rfl,rfl⟩
theorem MV (j : JobM) : oO j (yX j):=by
 unfold yX
 split
 ·exact ⟨rfl,rfl,rfl,rfl,rfl⟩
 ·split <;> exact ⟨rfl,rfl,rfl,rfl,rfl⟩
theorem oO.turn {j j2 : JobM} (h : oO j j2) : oO j (yX j2):=by
 obtain ⟨a,b,c,d,e⟩:=MV j2
 exact ⟨a.trans h.1,b.trans h.2.1,c.trans h.2.2.1,d.trans h.2.2.2.1,e.trans h.2.2.2.2⟩
theorem Lr (j : JobM) (n : Int) : oO j (zY j n):=by
 unfold zY
 split <;> exact ⟨rfl,rfl,rfl,rfl,rfl⟩
theorem Ln (j : JobM) (c : Int) : oO j (yu j c):=by
 unfold yu
 split
 ·exact oO.turn ⟨rfl,rfl,rfl,rfl,rfl⟩
 ·exact oO.refl j
theorem Fn (j : JobM) (on : Bool) : oO j (o8 j on).2:=by
 unfold o8
 split
 ·split
  ·exact ⟨rfl,rfl,rfl,rfl,rfl⟩
  ·exact oO.refl j
 ·split
  ·exact oO.turn (j:=j) (j2:={ j with st:=1 }) ⟨rfl,rfl,rfl,rfl,rfl⟩
  ·exact oO.refl j
theorem Bm (F : ShM) (j : JobM) : oO j (lh F j).2.2:=by
 unfold lh
 split
 ·exact oO.refl j
 ·split
  ·exact oO.refl j
  ·split
   ·exact ⟨rfl,rfl,rfl,rfl,rfl⟩
   ·exact oO.turn ⟨rfl,rfl,rfl,rfl,rfl⟩
theorem Cv (F : ShM) (j : JobM) : oO j (li F j).2.2:=by
 unfold li
 split
 ·exact oO.refl j
 ·split
  ·split
   ·exact ⟨rfl,rfl,rfl,rfl,rfl⟩
   ·exact oO.refl j
  ·split <;> exact oO.refl j
theorem JobS.same {F : ShM} {j j' : JobM} (h : JobS F j) (s : oO j j') : JobS F j':=
 ⟨fun x hx=>h.list x (by rw [<- s.1]; exact hx),fun h2=>by rw [s.2.2.1]; exact h.file (by rw [<- s.2.1]; exact h2)⟩
theorem JobS.files {F F' : ShM} {j : JobM} (h : JobS F j) (hf : ∀x,lq F x -> lq F' x) : JobS F' j:=⟨fun x hx=>hf x (h.list x hx),fun h2=>hf _ (h.file h2)⟩
end Go.Proofs.YtbpblokfiajpjabGreatDoor
namespace Go.Proofs.YtbpblokfiajpjabGreatDoor
open Go.RowKit Go.SL Go.Crc
attribute [local go_sem ↓] Go.wp_at_zero Go.wp_at_succ
structure l6 where
 root : Int
 kind : Int
 file : Int
 rate : Int
 burst : Int
def lw (r : Int) : l6:=⟨r,0,-1,0,0⟩
def l6.v (d : l6) : Value:=zQ d.root d.kind d.file d.rate d.burst
def l6.f (d : l6) : Int:=yz d.root d.kind d.file d.rate d.burst
def l6.s (d : l6) : ByteArray:=Ca d.root d.kind d.file d.rate d.burst
structure ld where
 F : ShM
 D : Nat -> DevM
 top : DevM
 dk : l6
 list : List Int
 job : Option JobM
structure YA where
 y : Nat
 bs : Nat
 tp : Nat
 A : Nat -> Nat×Nat×Nat
 v : Value
 bj : Nat
 bt : Nat
 bb : Nat
 vj : Value
def ov (A : Nat -> Nat×Nat×Nat) (F : ShM) (D : Nat -> DevM) (k : Nat) : HP:=match F k with
 | none=>lt (A k).2.1 (D k)
 | some _=>emp
def jobV (bj : Nat) (j : Option JobM) : Value:=match j with
 | none=>.pointer none
 | some _=>.pointer (some ⟨bj,0,none⟩)
def JL (Y : YA) (j : Option JobM) : HP:=match j with
 | none=>emp
 | some j=>star (jobL Y.bs Y.bj Y.bt Y.bb Y.vj j++[row 3 1 Y.vj j.list.length (lr j.list)])
def yC (Y : YA) (m : ld) : Array Value:=#[.pointer (some ⟨(Y.A 0).2.1,0,none⟩),.pointer (some ⟨(Y.A 1).2.1,0,none⟩),.pointer (some ⟨(Y.A 2).2.1,0,none⟩),.pointer (some ⟨(Y.A 3).2.1,0,none⟩),.pointer (some ⟨(Y.A 4).2.1,0,none⟩),.pointer (some ⟨Y.tp,0,none⟩),.pointer (some ⟨Y.bs,0,none⟩),.int .i64 m.dk.root,.int .i64 m.dk.kind,.int .i64 m.dk.file,.int .i64 m.dk.rate,.int .i64 m.dk.burst,Y.v,jobV Y.bj m.job]
def yT (Y : YA) (m : ld) : List SL.HP:=[pts Y.y (.cells (yC Y m) 165 (0,0)),ov Y.A m.F m.D 0,ov Y.A m.F m.D 1,ov Y.A m.F m.D 2,ov Y.A m.F m.D 3,ov Y.A m.F m.D 4,lt Y.tp m.top,row 3 1 Y.v m.list.length (lr m.list),JL Y m.job]
abbrev yL (Y : YA) (m : ld) (R : List SL.HP) : List SL.HP:=shL Y.bs Y.A m.F++(yT Y m++R)
structure RA where
 y : Nat
 bs : Nat
 tp : Nat
 A : Nat -> Nat×Nat
 v : Value
 bj : Nat
 vj : Value
def yY (m : ld) : Bool:=match m.job with
 | none=>false
 | some j=>decide (j.st < 4)
def AA (m : ld) (file : Int) : Bool:=decide (file∈m.list) || (yY m && decide (m.dk.file = file))
def lm (m : ld) (d : l6) : Int×ld:=
 if (m.top.write 0 d.s).1≠0 then ((m.top.write 0 d.s).1,{ m with top:=(m.top.write 0 d.s).2 }) else (0,{ m with top:=(m.top.write 0 d.s).2.flush,dk:=d })
def devOf (m : ld) (k : Nat) : DevM:=match m.F k with
 | some i=>i.d
 | none=>m.D k
def cut (F : ShM) (k : Nat) : ShM:=fun j=>if j = k then none else F j
def setD (D : Nat -> DevM) (k : Nat) (d : DevM) : Nat -> DevM:=fun j=>if j = k then d else D j
def zA (c : Int) (d : DevM) : Int:=Int.tdiv ((d.fl.length : Int) - 1 - (lA c.toNat : Nat)) 4
def o7 (m : ld) (file : Nat) (back : Int) : Int×ImgM:=oa (devOf m file) (clus m.F m.dk.root) (zA (clus m.F m.dk.root) (devOf m file)) back
def l7 (m : ld) (file back : Int) : Int×ld:=
 if file < 0 \/ 5 <= file then (1,m) else if AA m file then (5,m)
 else if (o7 m file.toNat back).1≠0 then ((o7 m file.toNat back).1,{ m with F:=cut m.F file.toNat,D:=setD m.D file.toNat (o7 m file.toNat back).2.d })
 else (0,{ m with F:=put m.F file.toNat (o7 m file.toNat back).2 })
def AS (m : ld) (file : Int) : Int×ld:=
 if yY m then (8,m) else if m.list.length = 4 then (6,m)
 else if (l7 m file m.dk.root).1≠0 then l7 m file m.dk.root
 else if (lm (l7 m file m.dk.root).2 (lw file)).1≠0 then lm (l7 m file m.dk.root).2 (lw file)
 else (0,{ (lm (l7 m file m.dk.root).2 (lw file)).2 with list:=file::m.list })
def yv (m : ld) (kind file rate burst : Int) : Int×ld:=
 if yY m then (8,m) else if kind = 0 then (1,m)
 else if yz m.dk.root kind file rate burst≠0 then (yz m.dk.root kind file rate burst,m)
 else match newM m.F m.dk.root kind file rate burst with
  | (none,f)=>(f,m)
  | (some j,_)=>if (lm m ⟨m.dk.root,kind,file,rate,burst⟩).1≠0 then lm m ⟨m.dk.root,kind,file,rate,burst⟩
   else ((o8 j false).1,{ (lm m ⟨m.dk.root,kind,file,rate,burst⟩).2 with job:=some (o8 j false).2 })
def AN (m : ld) (j : JobM) (root : Int) (well : Bool) : Int×ld:=
 if (lm m (lw root)).1≠0 then lm m (lw root)
 else (0,{ (lm m (lw root)).2 with job:=some (endM j well),list:=(lk m.F root).1 })
def lZ (m : ld) : (Bool×Int)×ld:=match m.job with
 | none=>((false,4),m)
 | some j=>if 4 <= j.st then ((false,4),m)
  else
   let m1 : ld:={ m with F:=(lh m.F j).2.1,job:=some (lh m.F j).2.2 }
   if (lh m.F j).1.2≠0 then ((false,(lh m.F j).1.2),if (lh m.F j).2.2.st < 4 then m1 else (lm m1 (lw m.dk.root)).2)
   else if m.dk.kind≠2 \/ (lh m.F j).2.2.st≠3 then (((lh m.F j).1.1,0),m1)
   else
    let S:=li m1.F (lh m.F j).2.2
    let m2 : ld:={ m with F:=S.2.1,job:=some S.2.2 }
    if S.1≠0 then ((false,S.1),(lm m2 (lw m.dk.root)).2)
    else
     let m3 : ld:={ m2 with list:=(lk m2.F m.dk.root).1,job:=some (endM S.2.2 true) }
     ((true,0),{ (lm m3 (lw m.dk.root)).2 with dk:=lw m.dk.root })
def yD (m : ld) : Int×ld:=match m.job with
 | none=>(4,m)
 | some j=>if 4 <= j.st then (4,m) else if m.dk.kind = 2 then (9,m)
  else if (li m.F j).1≠0 then ((li m.F j).1,{ m with F:=(li m.F j).2.1,job:=some (li m.F j).2.2 })
  else AN { m with F:=(li m.F j).2.1,job:=some (li m.F j).2.2 } (li m.F j).2.2 m.dk.file true
def yQ (m : ld) : Int×ld:=match m.job with
 | none=>(4,m)
 | some j=>if 4 <= j.st then (4,m) else AN m j m.dk.root false
def zm (m : ld) (on : Bool) : Int×ld:=match m.job with
 | none=>(4,m)
 | some j=>if 4 <= j.st then (4,m) else ((o8 j on).1,{ m with job:=some (o8 j on).2 })
def zX (m : ld) (n : Int) : Int×ld:=
 if n < 0 \/ 100000 < n then (1,m) else match m.job with
 | none=>(0,m)
 | some j=>if 4 <= j.st then (0,m) else (0,{ m with job:=some (zY j n) })
def BT (m : ld) : Value:=match m.job with
 | none=>.agg #[.int .i64 0,.int .i64 (-1),.int .i64 0,.int .i64 0]
 | some j=>A9 j
def armM (m : ld) (file n : Int) : Int×ld:=
 if file < -1 \/ 5 <= file \/ n < 0 then (1,m) else if file = -1 then (0,{ m with top:={ m.top with fail:=n } })
 else match m.F file.toNat with
  | some i=>(0,{ m with F:=put m.F file.toNat { i with d:={ i.d with fail:=n } } })
  | none=>(0,{ m with D:=setD m.D file.toNat { m.D file.toNat with fail:=n } })
def lQ (j : JobM) (c : Int) : Nat -> JobM
 | 0=>j
 | n + 1=>lQ (yu j c) (c + 1) n
def yy (m : ld) (from_ n : Int) : ld:=match m.job with
 | none=>m
 | some j=>if n = 0 then m else { m with job:=some (lQ j (from_ / 4) ((from_ + n - 1) / 4 - from_ / 4 + 1).toNat) }
def Bz (m : ld) : ld:={ m with F:=ox m.F m.list }
structure YOk (N : Nat) (m : ld) : Prop where
 sh : ShW N m.F
 dv : ∀k,k < 5 -> m.F k = none -> (m.D k).Ok /\ (m.D k).writes <= N /\ (m.D k).pend.length <= N
 tp : m.top.Ok /\ m.top.writes <= N /\ m.top.pend.length <= N /\ 1 <= m.top.fl.length
 walk : lk m.F m.dk.root = (m.list,0)
 root : lq m.F m.dk.root
 jok : ∀j,m.job = some j -> j.Ok
 job : ∀j,m.job = some j -> j.st < 4 -> JobS m.F j /\ j.list = m.list /\ j.kind = m.dk.kind /\ j.file = m.dk.file /\ j.root = m.dk.root
theorem Ac {Y : YA} {m : ld} {R : List SL.HP} {w : World} (H : own w (yL Y m R)) : ∀i,w.cell? ⟨Y.y,i,none⟩ = (yC Y m)[i]?:=(la 6 H rfl).1
theorem Di {Y : YA} {m : ld} {R : List SL.HP} {w : World} (H : own w (yL Y m R)) : ∀i,w.frozen? ⟨Y.y,i,none⟩ = false:=(la 6 H rfl).2
theorem y_tp {Y : YA} {m : ld} {R : List SL.HP} {w : World} (H : own w (yL Y m R)) : w.cell? ⟨Y.y,5,none⟩ = some (.pointer (some ⟨Y.tp,0,none⟩)):=Ac H 5
theorem y_bs {Y : YA} {m : ld} {R : List SL.HP} {w : World} (H : own w (yL Y m R)) : w.cell? ⟨Y.y,6,none⟩ = some (.pointer (some ⟨Y.bs,0,none⟩)):=Ac H 6
theorem yW {Y : YA} {m : ld} {R : List SL.HP} {w : World} (H : own w (yL Y m R)) : w.cell? ⟨Y.y,7,none⟩ = some (.int .i64 m.dk.root):=Ac H 7
theorem EC {Y : YA} {m : ld} {R : List SL.HP} {w : World} (H : own w (yL Y m R)) : w.cell? ⟨Y.y,8,none⟩ = some (.int .i64 m.dk.kind):=Ac H 8
theorem EP {Y : YA} {m : ld} {R : List SL.HP} {w : World} (H : own w (yL Y m R)) : w.cell? ⟨Y.y,9,none⟩ = some (.int .i64 m.dk.file):=Ac H 9
theorem Kh {Y : YA} {m : ld} {R : List SL.HP} {w : World} (H : own w (yL Y m R)) : w.cell? ⟨Y.y,10,none⟩ = some (.int .i64 m.dk.rate):=Ac H 10
theorem Iv {Y : YA} {m : ld} {R : List SL.HP} {w : World} (H : own w (yL Y m R)) : w.cell? ⟨Y.y,11,none⟩ = some (.int .i64 m.dk.burst):=Ac H 11
theorem AK {Y : YA} {m : ld} {R : List SL.HP} {w : World} (H : own w (yL Y m R)) : w.cell? ⟨Y.y,12,none⟩ = some Y.v:=Ac H 12
theorem Gt {Y : YA} {m : ld} {R : List SL.HP} {w : World} (H : own w (yL Y m R)) : w.cell? ⟨Y.y,13,none⟩ = some (jobV Y.bj m.job):=Ac H 13
theorem GD {Y : YA} {m : ld} {R : List SL.HP} {w : World} (H : own w (yL Y m R)) {k : Nat} (hk : k < 5) : w.cell? ⟨Y.y,k,none⟩ = some (.pointer (some ⟨(Y.A k).2.1,0,none⟩)):=by
 rw [Ac H k]
 match k,hk with
 | 0,_=>rfl
 | 1,_=>rfl
 | 2,_=>rfl
 | 3,_=>rfl
 | 4,_=>rfl
theorem C9 {Y : YA} {m : ld} {R : List SL.HP} {w : World} (H : own w (yL Y m R)) : lV w Y.v m.list:=oM 13 H rfl
theorem zW {Y : YA} {m : ld} {j : JobM} (h : m.job = some j) {R : List SL.HP} {w : World} (H : own w (yL Y m R)) :
  own w (shL Y.bs Y.A m.F++(jobL Y.bs Y.bj Y.bt Y.bb Y.vj j++(row 3 1 Y.vj j.list.length (lr j.list)::((yT Y m).take 8++R)))):=by
 have h1:=lG 14 H rfl
 have hj : JL Y m.job = star (jobL Y.bs Y.bj Y.bt Y.bb Y.vj j++[row 3 1 Y.vj j.list.length (lr j.list)]):=by rw [h]; rfl
 rw [hj] at h1
 have h2:=FO h1
 have h3 : own w ((jobL Y.bs Y.bj Y.bt Y.bb Y.vj j++[row 3 1 Y.vj j.list.length (lr j.list)])++(shL Y.bs Y.A m.F++((yT Y m).take 8++R))):=h2
 have h4:=lp (jobL Y.bs Y.bj Y.bt Y.bb Y.vj j++[row 3 1 Y.vj j.list.length (lr j.list)]) (shL Y.bs Y.A m.F) h3
 simpa only [zp,List.singleton_append] using h4
theorem Fc {Y : YA} {m : ld} {j : JobM} (h : m.job = some j) {R : List SL.HP} {w : World}
  (H : own w (shL Y.bs Y.A m.F++(jobL Y.bs Y.bj Y.bt Y.bb Y.vj j++(row 3 1 Y.vj j.list.length (lr j.list)::((yT Y m).take 8++R))))) : own w (yL Y m R):=by
 have h1 : own w (shL Y.bs Y.A m.F++((jobL Y.bs Y.bj Y.bt Y.bb Y.vj j++[row 3 1 Y.vj j.list.length (lr j.list)])++((yT Y m).take 8++R))):=by
  simpa only [zp,List.singleton_append] using H
 have h2:=lp (shL Y.bs Y.A m.F) (jobL Y.bs Y.bj Y.bt Y.bb Y.vj j++[row 3 1 Y.vj j.list.length (lr j.list)]) h1
 have h3:=AF (jobL Y.bs Y.bj Y.bt Y.bb Y.vj j++[row 3 1 Y.vj j.list.length (lr j.list)]) h2
 have hj : JL Y m.job = star (jobL Y.bs Y.bj Y.bt Y.bb Y.vj j++[row 3 1 Y.vj j.list.length (lr j.list)]):=by rw [h]; rfl
 rw [<- hj] at h3
 have h4 : own w (JL Y m.job::((shL Y.bs Y.A m.F++(yT Y m).take 8)++R)):=by rw [zp]; exact h3
 have h5:=lD (shL Y.bs Y.A m.F++(yT Y m).take 8) h4
 rw [zp] at h5
 exact h5
theorem Fa {Y : YA} {m : ld} {R : List SL.HP} {w : World} (o : Obj) (H : own w (yL Y m R)) : own (w.alloc o) (yL Y m (pts w.heap.size o::R)):=by
 have h:=lD (shL Y.bs Y.A m.F++yT Y m) (R:=R) (by rw [zp]; exact lf H o)
 rwa [zp] at h
theorem zC {Y : YA} {m : ld} {P : SL.HP} {R : List SL.HP} {w : World} (H : own w (yL Y m (P::R))) : own w (yL Y m R):=le 15 H rfl
theorem MQ {Y : YA} {m : ld} {R : List SL.HP} {w : World} (H : own w (yL Y m R)) : own w (lt Y.tp m.top::(yL Y m R).eraseIdx 12):=lG 12 H rfl
theorem I8 {Y : YA} {m : ld} {R : List SL.HP} {w0 w : World} {d : DevM} (H0 : own w0 (yL Y m R)) (H : own w (lt Y.tp d::(yL Y m R).eraseIdx 12)) : own w (yL Y { m with top:=d } R):=ot H0 12 rfl H
theorem JB {fn : Func} {t : Tmp} (h : fn.results = #[.cell t 24]) (tmps : Array Value) (w : World) (g : Nat) (r k f a b : Int) (hg : tmps.getD t undef = .pointer (some ⟨g,0,none⟩))
  (h0 : w.cell? ⟨g,0,none⟩ = some (.int .i64 r)) (h1 : w.cell? ⟨g,1,none⟩ = some (.int .i64 k)) (h2 : w.cell? ⟨g,2,none⟩ = some (.int .i64 f)) (h3 : w.cell? ⟨g,3,none⟩ = some (.int .i64 a)) (h4 : w.cell? ⟨g,4,none⟩ = some (.int .i64 b)) :
  (results fn tmps).run Tryz.prog w = .ok (.agg #[.int .i64 r,.int .i64 k,.int .i64 f,.int .i64 a,.int .i64 b]) w:=by
 rw [B2 h,hg]
 go_simp
theorem BA (r : Int) (R : List SL.HP) (w : World) (H : own w R) :
  Calls Tryz.prog 126 #[.int .i64 r] w fun e w'=>e = .returned (lw r).v /\ Ext w w' /\ own w' R:=by
 have ha:=lf H (.cells #[.int .i64 0,.int .i64 0,.int .i64 0,.int .i64 0,.int .i64 0] 24)
 have hxa:=(zR w).alloc (.cells #[.int .i64 0,.int .i64 0,.int .i64 0,.int .i64 0,.int .i64 0] 24)
 go_enter Tryz.func126,Tryz.ntmps126
 go_upto_region 1 with (fail)
 generalize w.heap.size = g at *
 generalize w.alloc (.cells #[.int .i64 0,.int .i64 0,.int .i64 0,.int .i64 0,.int .i64 0] 24) = w1 at *
 obtain ⟨cg,fg⟩:=la 0 ha rfl
 go_wp2_with fail
 have h5:=ln (i:=4) (v:=.int .i64 0) 0 (ln (i:=3) (v:=.int .i64 0) 0 (ln (i:=2) (v:=.int .i64 (-1)) 0 (ln (i:=1) (v:=.int .i64 0) 0 (ln (i:=0) (v:=.int .i64 r) 0 ha rfl) rfl) rfl) rfl) rfl
 obtain ⟨c3,-⟩:=la 0 h5 rfl
 refine bodyPost_ret (JB rfl _ _ g r 0 (-1) 0 0 rfl (c3 0) (c3 1) (c3 2) (c3 3) (c3 4)) rfl ?_
 exact ⟨rfl,((((hxa.setCell _ _).setCell _ _).setCell _ _).setCell _ _).setCell _ _,lg h5⟩
theorem zH (Y : YA) (m : ld) (R : List SL.HP) (w : World) (H : own w (yL Y m R)) :
  Calls Tryz.prog 145 #[.pointer (some ⟨Y.y,0,none⟩)] w fun e w'=>e = .returned (.bool (yY m)) /\ w = w':=by
 have cj:=Gt H
 unfold yY
 cases hj : m.job with
 | none=>
  rw [hj] at cj
  change w.cell? ⟨Y.y,13,none⟩ = some (.pointer none) at cj
  clear H hj
  generalize Y.y = y at *
  go_enter Tryz.func145,Tryz.ntmps145
  go_wp2_with fail
  go_ret
  exact ⟨rfl,rfl⟩
 | some j=>
  rw [hj] at cj
  change w.cell? ⟨Y.y,13,none⟩ = some (.pointer (some ⟨Y.bj,0,none⟩)) at cj
  have HG:=zh (Eb Y.bs Y.bj Y.bt Y.bb Y.vj j _ w (lp (shL Y.bs Y.A m.F) (jobL Y.bs Y.bj Y.bt Y.bb Y.vj j) (zW hj H)))
  clear H hj
  generalize Y.y = y at *
  generalize Y.bj = bj at *
  go_enter Tryz.func145,Tryz.ntmps145
  go_wp2_with fail
  refine HG.out.mono ?_
  rintro e w' ⟨rfl,rfl⟩
  go_wp2_with fail
  go_ret
  exact ⟨by simp,rfl⟩
theorem Nl (Y : YA) (m : ld) (hl : m.list.length <= 5) (file : Int) (R : List SL.HP) (w : World) (H : own w (yL Y m R)) :
  Calls Tryz.prog 248 #[.pointer (some ⟨Y.y,0,none⟩),.int .i64 file] w fun e w'=>e = .returned (.bool (AA m file)) /\ w = w':=by
 have cl:=AK H
 have cf:=EP H
 obtain ⟨ao,lb,off,cap,hY,hlc,hcap,hao,hat⟩:=(C9 H).form
 rw [hY] at cl
 have HB:=zh (zH Y m R w H)
 have HAO:=zh hao
 have HAT:=zh hat
 unfold AA
 generalize yY m = by_ at *
 generalize m.dk.file = df at *
 clear H hY hao hat
 generalize Y.y = y at *
 generalize m.list = l at *
 go_enter Tryz.func248,Tryz.ntmps248
 go_wp2_with fail
 go_loop [12] (fun i=>∃q : Nat,q <= l.length /\ i = .int .i64 q /\ (file∈l↔file∈l.drop q)) (fun i=>l.length - (intOf i).toNat)
 case atStart=>exact ⟨0,Nat.zero_le _,rfl,Iff.rfl⟩
 case round=>
  obtain ⟨q,hq,rfl,hgo⟩:=hrel
  by_cases hlt : q < l.length
  ·obtain rfl:=HAO.out (by omega)
   have c1:=HAT.out q hlt
   rw [BW 0 hlt,List.mem_cons] at hgo
   have j1 : (0 : Int) <= (q : Int):=by omega
   have j2 : (q : Int) < (l.length : Int):=by omega
   generalize l.getD q 0 = x at *
   by_cases hx : x = file
   ·have d0 : (x == file) = true:=by rw [hx]; simp
    replace hgo : file∈l:=hgo.2 (.inl hx.symm)
    have HGO:=zh hgo
    clear hgo hx
    go_wp2_with fail
    go_ret
    exact ⟨by first | (simp [HGO.out]; done) | (simp [HGO.out]; rfl),rfl⟩
   ·have d0 : (x == file) = false:=by rw [zb]; exact hx
    replace hgo : file∈l↔file∈l.drop (q + 1):=hgo.trans ⟨fun h=>h.resolve_left fun e=>hx e.symm,.inr⟩
    have HGO:=zh hgo
    clear hgo hx
    go_wp2_with fail
    go_round
    case rel=>exact ⟨q + 1,by omega,by go_num,HGO.out⟩
    case measure=>simp [intOf]; omega
  ·obtain rfl : l.length = q:=by omega
   rw [List.drop_of_length_le (Nat.le_refl _)] at hgo
   replace hgo : ¬file∈l:=fun h=>by cases hgo.1 h
   have HGO:=zh hgo
   clear hgo
   go_wp2_with fail
   refine HB.out.mono ?_
   rintro e w' ⟨rfl,rfl⟩
   cases by_
   ·go_wp2_with fail
    go_ret
    exact ⟨by first | (simp [HGO.out]; done) | (simp [HGO.out]; rfl),rfl⟩
   ·go_wp2_with fail
    go_ret
    exact ⟨by first | (simp [HGO.out]; done) | (simp [HGO.out]; rfl),rfl⟩
theorem zN (Y : YA) (m : ld) (ht : m.top.Ok) (hw : m.top.writes < 999000) (hp : m.top.pend.length < 999000) (d : l6) (hf : d.f = 0) (R : List SL.HP) (w : World) (H : own w (yL Y m R)) :
  Calls Tryz.prog 128 #[.pointer (some ⟨Y.y,0,none⟩),d.v] w fun e w'=>e = .returned (errV (lm m d).1) /\ Ext w w' /\ own w' (yL Y (lm m d).2 R):=by
 obtain ⟨r,k,f,a,b⟩:=d
 have hb:=Fa (.cells #[.int .i64 r,.int .i64 k,.int .i64 f,.int .i64 a,.int .i64 b] 24) H
 have hxb:=(zR w).alloc (.cells #[.int .i64 r,.int .i64 k,.int .i64 f,.int .i64 a,.int .i64 b] 24)
 have HD:=zh (fun (R : List SL.HP) w' h=>OT r k f a b R w' h)
 have hf' : yz r k f a b = 0:=hf
 rw [hf'] at HD
 generalize hres : lm m ⟨r,k,f,a,b⟩ = res
 unfold lm at hres
 unfold l6.v zQ
 have hs : (l6.mk r k f a b).s.size <= 9223372036854775807:=by
  show (Ca r k f a b).size <= _
  unfold Ca
  rw [zv (by simp)]
  decide
 have HS : Hid (Ca r k f a b = (l6.mk r k f a b).s):=zh rfl
 rw [zt rfl,lL,HS.out] at HD
 generalize (l6.mk r k f a b).s = s at *
 have HW:=zh (fun (R : List SL.HP) w' h=>Au Y.tp m.top ht 0 s hs (by omega) (by omega) R w' h)
 have hok:=DevM.write_ok ht 0 s (by omega) (by omega)
 have hcode : 0 <= (m.top.write 0 s).1:=ow _ _ _
 have HP : Hid (∀w0 w' R d,own w0 (yL Y m R) -> own w' (lt Y.tp d::(yL Y m R).eraseIdx 12) -> own w' (yL Y { m with top:=d } R)):=zh fun w0 w' R d h0 h=>I8 h0 h
 unfold zQ at HD
 generalize m.top.write 0 s = S at *
 obtain ⟨c,t⟩:=S
 dsimp only at hcode hok HW hres
 have HRES:=zh hres
 clear hres
 clear H hf hf' HS ht hw hp hs
 go_enter Tryz.func128,Tryz.ntmps128
 go_upto_region 1 with (fail)
 generalize w.heap.size = g at *
 generalize w.alloc (.cells #[.int .i64 r,.int .i64 k,.int .i64 f,.int .i64 a,.int .i64 b] 24) = w1 at *
 have cd:=(la 15 hb rfl).1
 have d0:=cd 0
 have d1:=cd 1
 have d2:=cd 2
 have d3:=cd 3
 have d4:=cd 4
 clear cd
 go_wp2_with fail
 refine (HD.out _ w1 hb).mono ?_
 rintro e w2 ⟨rfl,hx2,h2⟩
 have ct:=y_tp h2
 clear d0 d1 d2 d3 d4
 go_wp2_with fail
 refine (HW.out _ w2 (MQ h2)).mono ?_
 rintro e w3 ⟨rfl,hx3,h3⟩
 have h4:=HP.out _ _ _ t h2 h3
 by_cases hc : c = 0
 ·subst hc
  rw [zq (by decide)] at HRES
  rw [lL]
  have ct:=y_tp h4
  go_wp2_with fail
  refine (A6 Y.tp t hok _ w3 (MQ h4)).mono ?_
  rintro e w4 ⟨rfl,hx4,h5⟩
  have h6 : own w4 (yL Y { m with top:=t.flush } (pts g (.cells #[.int .i64 r,.int .i64 k,.int .i64 f,.int .i64 a,.int .i64 b] 24 (0,0))::R)):=ot h4 12 rfl h5
  have cd:=(la 15 h6 rfl).1
  have d0:=cd 0
  have d1:=cd 1
  have d2:=cd 2
  have d3:=cd 3
  have d4:=cd 4
  have fy:=Di h6
  have e7:=yW h6
  have e8:=EC h6
  have e9:=EP h6
  have e10:=Kh h6
  have e11:=Iv h6
  clear ct cd
  have h7:=ln (i:=11) (v:=.int .i64 b) 6 (ln (i:=10) (v:=.int .i64 a) 6 (ln (i:=9) (v:=.int .i64 f) 6 (ln (i:=8) (v:=.int .i64 k) 6 (ln (i:=7) (v:=.int .i64 r) 6 h6 rfl) rfl) rfl) rfl) rfl
  have h8 : own _ (yL Y { m with top:=t.flush,dk:=⟨r,k,f,a,b⟩ } (pts g (.cells #[.int .i64 r,.int .i64 k,.int .i64 f,.int .i64 a,.int .i64 b] 24 (0,0))::R)):=h7
  clear h7 h6 h5 h4 h3
  go_wp2_with fail
  go_ret
  rw [<- HRES.out]
  exact ⟨rfl,((((((((hxb.trans hx2).trans hx3).trans hx4).setCell _ _).setCell _ _).setCell _ _).setCell _ _).setCell _ _),zC h8⟩
 ·rw [zt hc] at HRES
  rw [lu (e:=c) (by omega)]
  go_wp2_with fail
  go_ret
  rw [<- HRES.out]
  exact ⟨by rw [lu (e:=c) (by omega)]; rfl,(hxb.trans hx2).trans hx3,zC h4⟩
theorem KN {w : World} {l : List SL.HP} (k : Nat) {P : SL.HP} (H : own w l) (hk : l[k]? = some P) : own w (P::l.set k emp):=by
 refine yw (fun h hh=>?_) (lG k H hk)
 have h2 : star ([P]++l.eraseIdx k) h:=hh
 refine yE (fun _ x=>x) (fun h3 h4=>?_) hh
 have hlt : k < l.length:=by
  rcases Nat.lt_or_ge k l.length with h | h
  ·exact h
  ·rw [List.getElem?_eq_none h] at hk; cases hk
 refine AH k (P:=emp) (by rw [List.getElem?_set_self hlt]) ?_
 rw [List.eraseIdx_set_eq]
 exact GK h4
theorem Ap {w : World} {l : List SL.HP} (k : Nat) {P : SL.HP} (H : own w (P::l)) (hk : l[k]? = some emp) : own w (l.set k P):=by
 refine yw (fun h hh=>?_) H
 have hlt : k < l.length:=by
  rcases Nat.lt_or_ge k l.length with h | h
  ·exact h
  ·rw [List.getElem?_eq_none h] at hk; cases hk
 refine AH k (P:=P) (by rw [List.getElem?_set_self hlt]) ?_
 rw [List.eraseIdx_set_eq]
 exact yE (fun _ x=>x) (fun h3 h4=>IT (B0 k hk h4)) hh
def stA (A : Nat -> Nat×Nat×Nat) (k : Nat) (a : Nat×Nat×Nat) : Nat -> Nat×Nat×Nat:=fun j=>if j = k then a else A j
def SQ (A : Nat -> Nat×Nat) (k : Nat) (a : Nat×Nat) : Nat -> Nat×Nat:=fun j=>if j = k then a else A j
theorem KA (Y : YA) (m : ld) (R : List SL.HP) {k : Nat} (hk : k < 5) : (yL Y m R)[1 + k]? = some (oS Y.A m.F k):=It hk
theorem JM (Y : YA) (m : ld) (R : List SL.HP) {k : Nat} (hk : k < 5) : (yL Y m R)[7 + k]? = some (ov Y.A m.F m.D k):=by
 match k,hk with
 | 0,_=>rfl
 | 1,_=>rfl
 | 2,_=>rfl
 | 3,_=>rfl
 | 4,_=>rfl
theorem BI {Y : YA} {m : ld} {R : List SL.HP} {w : World} {k : Nat} (hk : k < 5) (h : m.F k = none) (H : own w (yL Y m R)) : own w (lt (Y.A k).2.1 (m.D k)::(yL Y m R).set (7 + k) emp):=by
 have h1:=KN (7 + k) H (JM Y m R hk)
 have hp : ov Y.A m.F m.D k = lt (Y.A k).2.1 (m.D k):=by unfold ov; rw [h]
 rwa [hp] at h1
theorem M4 (Y : YA) (m : ld) (R : List SL.HP) {k : Nat} (hk : k < 5) (h : m.F k = none) (d : DevM) : ((yL Y m R).set (7 + k) emp).set (7 + k) (lt (Y.A k).2.1 d) = yL Y { m with D:=setD m.D k d } R:=by
 have hs : ∀j,j≠k -> ov Y.A m.F (setD m.D k d) j = ov Y.A m.F m.D j:=fun j hj=>by unfold ov setD; rw [zq hj]
 have hk' : ov Y.A m.F (setD m.D k d) k = lt (Y.A k).2.1 d:=by unfold ov setD; rw [h,zt rfl]
 rw [List.set_set]
 match k,hk with
 | 0,_=>show _ = shL _ _ _++(yT _ _++R); unfold yT; dsimp only; rw [hk',hs 1 (by decide),hs 2 (by decide),hs 3 (by decide),hs 4 (by decide)]; rfl
 | 1,_=>show _ = shL _ _ _++(yT _ _++R); unfold yT; dsimp only; rw [hk',hs 0 (by decide),hs 2 (by decide),hs 3 (by decide),hs 4 (by decide)]; rfl
 | 2,_=>show _ = shL _ _ _++(yT _ _++R); unfold yT; dsimp only; rw [hk',hs 0 (by decide),hs 1 (by decide),hs 3 (by decide),hs 4 (by decide)]; rfl
 | 3,_=>show _ = shL _ _ _++(yT _ _++R); unfold yT; dsimp only; rw [hk',hs 0 (by decide),hs 1 (by decide),hs 2 (by decide),hs 4 (by decide)]; rfl
 | 4,_=>show _ = shL _ _ _++(yT _ _++R); unfold yT; dsimp only; rw [hk',hs 0 (by decide),hs 1 (by decide),hs 2 (by decide),hs 3 (by decide)]; rfl
theorem Ig {Y : YA} {m : ld} {R : List SL.HP} {w : World} {k : Nat} (hk : k < 5) (h : m.F k = none) {d : DevM} (H : own w (lt (Y.A k).2.1 d::(yL Y m R).set (7 + k) emp)) : own w (yL Y { m with D:=setD m.D k d } R):=by
 have hlt : 7 + k < (yL Y m R).length:=by
  show _ < (shL _ _ _++(yT _ _++R)).length
  unfold yT shL
  simp
  omega
 have h1:=Ap (7 + k) H (by rw [List.getElem?_set_self hlt])
 rwa [M4 Y m R hk h] at h1
theorem Gr {Y : YA} {m : ld} {R : List SL.HP} {w : World} {k : Nat} (hk : k < 5) (H : own w (yL Y m R)) : own w (lt (Y.A k).2.1 (devOf m k)::((yL Y m R).set (1 + k) emp).set (7 + k) emp):=by
 cases h : m.F k with
 | none=>
  have h1:=BI hk h H
  have hd : devOf m k = m.D k:=by unfold devOf; rw [h]
  have hs : (yL Y m R).set (1 + k) emp = yL Y m R:=by
   have hp : (yL Y m R)[1 + k]? = some emp:=by rw [KA Y m R hk]; unfold oS; rw [h]
   obtain ⟨hlt,he⟩:=zS.1 hp
   have:=List.set_getElem_self hlt
   rwa [he] at this
  rw [hd,hs]
  exact h1
 | some i=>
  have h1:=KN (1 + k) H (KA Y m R hk)
  have hp : oS Y.A m.F k = star [lE (Y.A k).1 (Y.A k).2.1 (Y.A k).2.2 i,lt (Y.A k).2.1 i.d]:=by unfold oS; rw [h]
  have hd : devOf m k = i.d:=by unfold devOf; rw [h]
  rw [hp] at h1
  have h2:=lg (FO h1)
  have hs : ((yL Y m R).set (1 + k) emp).set (7 + k) emp = (yL Y m R).set (1 + k) emp:=by
   have hp : ((yL Y m R).set (1 + k) emp)[7 + k]? = some emp:=by rw [List.getElem?_set_ne (by omega),JM Y m R hk]; unfold ov; rw [h]
   obtain ⟨hlt,he⟩:=zS.1 hp
   have:=List.set_getElem_self hlt
   rwa [he] at this
  rw [hd,hs]
  exact h2
theorem oz {A : Nat -> Nat×Nat×Nat} {F : ShM} {k j : Nat} (h : j≠k) : yc A (cut F k) j = yc A F j:=by unfold yc cut; rw [zq h]
theorem oC {A : Nat -> Nat×Nat×Nat} {F : ShM} {k j : Nat} (h : j≠k) : oS A (cut F k) j = oS A F j:=by unfold oS cut; rw [zq h]
theorem oB {A : Nat -> Nat×Nat×Nat} {F : ShM} {D : Nat -> DevM} {d : DevM} {k j : Nat} (h : j≠k) : ov A (cut F k) (setD D k d) j = ov A F D j:=by unfold ov cut setD; rw [zq h,zq h]
theorem Bk {A : Nat -> Nat×Nat×Nat} {F : ShM} {k : Nat} : oS A (cut F k) k = emp:=by unfold oS cut; rw [zt rfl]
theorem Bn {A : Nat -> Nat×Nat×Nat} {F : ShM} {k : Nat} : yc A (cut F k) k = .pointer none:=by unfold yc cut; rw [zt rfl]
theorem Bh {A : Nat -> Nat×Nat×Nat} {F : ShM} {D : Nat -> DevM} {d : DevM} {k : Nat} : ov A (cut F k) (setD D k d) k = lt (A k).2.1 d:=by unfold ov cut setD; rw [zt rfl,zt rfl]
theorem Mc (Y : YA) (m : ld) (R : List SL.HP) {k : Nat} (hk : k < 5) (d : DevM) :
  ((((yL Y m R).set (1 + k) emp).set (7 + k) emp).set 0 (pts Y.bs (.cells ((oQ Y.A m.F).setIfInBounds k (.pointer none)) 111 (0,0)))).set (7 + k) (lt (Y.A k).2.1 d) = yL Y { m with F:=cut m.F k,D:=setD m.D k d } R:=by
 match k,hk with
 | 0,_=>show _ = shL _ _ _++(yT _ _++R); unfold yT shL oQ; dsimp only; rw [Bk,Bn,Bh,oC (j:=1) (by decide),oC (j:=2) (by decide),oC (j:=3) (by decide),oC (j:=4) (by decide),oz (j:=1) (by decide),oz (j:=2) (by decide),oz (j:=3) (by decide),oz (j:=4) (by decide),oB (j:=1) (by decide),oB (j:=2) (by decide),oB (j:=3) (by decide),oB (j:=4) (by decide)]; rfl
 | 1,_=>show _ = shL _ _ _++(yT _ _++R); unfold yT shL oQ; dsimp only; rw [Bk,Bn,Bh,oC (j:=0) (by decide),oC (j:=2) (by decide),oC (j:=3) (by decide),oC (j:=4) (by decide),oz (j:=0) (by decide),oz (j:=2) (by decide),oz (j:=3) (by decide),oz (j:=4) (by decide),oB (j:=0) (by decide),oB (j:=2) (by decide),oB (j:=3) (by decide),oB (j:=4) (by decide)]; rfl
 | 2,_=>show _ = shL _ _ _++(yT _ _++R); unfold yT shL oQ; dsimp only; rw [Bk,Bn,Bh,oC (j:=1) (by decide),oC (j:=0) (by decide),oC (j:=3) (by decide),oC (j:=4) (by decide),oz (j:=1) (by decide),oz (j:=0) (by decide),oz (j:=3) (by decide),oz (j:=4) (by decide),oB (j:=1) (by decide),oB (j:=0) (by decide),oB (j:=3) (by decide),oB (j:=4) (by decide)]; rfl
 | 3,_=>show _ = shL _ _ _++(yT _ _++R); unfold yT shL oQ; dsimp only; rw [Bk,Bn,Bh,oC (j:=1) (by decide),oC (j:=2) (by decide),oC (j:=0) (by decide),oC (j:=4) (by decide),oz (j:=1) (by decide),oz (j:=2) (by decide),oz (j:=0) (by decide),oz (j:=4) (by decide),oB (j:=1) (by decide),oB (j:=2) (by decide),oB (j:=0) (by decide),oB (j:=4) (by decide)]; rfl
 | 4,_=>show _ = shL _ _ _++(yT _ _++R); unfold yT shL oQ; dsimp only; rw [Bk,Bn,Bh,oC (j:=1) (by decide),oC (j:=2) (by decide),oC (j:=3) (by decide),oC (j:=0) (by decide),oz (j:=1) (by decide),oz (j:=2) (by decide),oz (j:=3) (by decide),oz (j:=0) (by decide),oB (j:=1) (by decide),oB (j:=2) (by decide),oB (j:=3) (by decide),oB (j:=0) (by decide)]; rfl
theorem S4 {Y : YA} {m : ld} {R : List SL.HP} {w : World} {k : Nat} (hk : k < 5) (H : own w (yL Y m R)) : own (w.setCell ⟨Y.bs,k,none⟩ (.pointer none)) (yL Y { m with F:=cut m.F k,D:=setD m.D k (devOf m k) } R):=by
 have h1:=Gr hk H
 have h0 : (((yL Y m R).set (1 + k) emp).set (7 + k) emp)[0]? = some (pts Y.bs (.cells (oQ Y.A m.F) 111 (0,0))):=by
  rw [List.getElem?_set_ne (by omega),List.getElem?_set_ne (by omega)]; rfl
 have h2:=ln (i:=k) (v:=.pointer none) 1 h1 (by rw [List.getElem?_cons_succ]; exact h0)
 rw [List.set_cons_succ] at h2
 have hlt : 7 + k < (yL Y m R).length:=by
  show _ < (shL _ _ _++(yT _ _++R)).length
  unfold yT shL
  simp
  omega
 have h3:=Ap (7 + k) h2 (by rw [List.getElem?_set_ne (by omega),List.getElem?_set_self (by simpa using hlt)])
 rwa [Mc Y m R hk] at h3
theorem oe {A : Nat -> Nat×Nat×Nat} {F : ShM} {k j : Nat} {i : ImgM} {a : Nat×Nat×Nat} (h : j≠k) : yc (stA A k a) (put F k i) j = yc A F j:=by unfold yc put stA; rw [zq h,zq h]
theorem oh {A : Nat -> Nat×Nat×Nat} {F : ShM} {k j : Nat} {i : ImgM} {a : Nat×Nat×Nat} (h : j≠k) : oS (stA A k a) (put F k i) j = oS A F j:=by unfold oS put stA; rw [zq h,zq h]
theorem od {A : Nat -> Nat×Nat×Nat} {F : ShM} {D : Nat -> DevM} {k j : Nat} {i : ImgM} {a : Nat×Nat×Nat} (h : j≠k) : ov (stA A k a) (put F k i) D j = ov A F D j:=by unfold ov put stA; rw [zq h,zq h]
theorem AM {A : Nat -> Nat×Nat×Nat} {F : ShM} {k : Nat} {i : ImgM} {a : Nat×Nat×Nat} : yc (stA A k a) (put F k i) k = .pointer (some ⟨a.1,0,none⟩):=by unfold yc put stA; rw [zt rfl,zt rfl]
theorem AI {A : Nat -> Nat×Nat×Nat} {F : ShM} {k : Nat} {i : ImgM} {a : Nat×Nat×Nat} : oS (stA A k a) (put F k i) k = star [lE a.1 a.2.1 a.2.2 i,lt a.2.1 i.d]:=by unfold oS put stA; rw [zt rfl,zt rfl]
theorem AG {A : Nat -> Nat×Nat×Nat} {F : ShM} {D : Nat -> DevM} {k : Nat} {i : ImgM} {a : Nat×Nat×Nat} : ov (stA A k a) (put F k i) D k = emp:=by unfold ov put; rw [zt rfl]
def YA.stA (Y : YA) (k bi bh : Nat) : YA:={ Y with A:=Go.Proofs.YtbpblokfiajpjabGreatDoor.stA Y.A k (bi,(Y.A k).2.1,bh) }
theorem Dl (Y : YA) (k bi bh : Nat) (m : ld) : yC (Y.stA k bi bh) m = yC Y m:=by
 have h : ∀j,((Y.stA k bi bh).A j).2.1 = (Y.A j).2.1:=fun j=>by
  show (Go.Proofs.YtbpblokfiajpjabGreatDoor.stA Y.A k (bi,(Y.A k).2.1,bh) j).2.1 = _
  unfold Go.Proofs.YtbpblokfiajpjabGreatDoor.stA
  by_cases e : j = k
  ·rw [zt e,e]
  ·rw [zq e]
 unfold yC
 rw [h,h,h,h,h]
 rfl
theorem MS (Y : YA) (m : ld) (R : List SL.HP) {k : Nat} (hk : k < 5) (i : ImgM) (bi bh : Nat) :
  (((yL Y m R).set (7 + k) emp).set 0 (pts Y.bs (.cells ((oQ Y.A m.F).setIfInBounds k (.pointer (some ⟨bi,0,none⟩))) 111 (0,0)))).set (1 + k) (star [lE bi (Y.A k).2.1 bh i,lt (Y.A k).2.1 i.d]) = yL (Y.stA k bi bh) { m with F:=put m.F k i } R:=by
 have hA : (Y.stA k bi bh).A = stA Y.A k (bi,(Y.A k).2.1,bh):=rfl
 match k,hk with
 | 0,_=>show _ = shL _ _ _++(yT _ _++R); unfold yT shL oQ; dsimp only; rw [Dl,hA,AI,AM,AG,oh (j:=1) (by decide),oh (j:=2) (by decide),oh (j:=3) (by decide),oh (j:=4) (by decide),oe (j:=1) (by decide),oe (j:=2) (by decide),oe (j:=3) (by decide),oe (j:=4) (by decide),od (j:=1) (by decide),od (j:=2) (by decide),od (j:=3) (by decide),od (j:=4) (by decide)]; rfl
 | 1,_=>show _ = shL _ _ _++(yT _ _++R); unfold yT shL oQ; dsimp only; rw [Dl,hA,AI,AM,AG,oh (j:=0) (by decide),oh (j:=2) (by decide),oh (j:=3) (by decide),oh (j:=4) (by decide),oe (j:=0) (by decide),oe (j:=2) (by decide),oe (j:=3) (by decide),oe (j:=4) (by decide),od (j:=0) (by decide),od (j:=2) (by decide),od (j:=3) (by decide),od (j:=4) (by decide)]; rfl
 | 2,_=>show _ = shL _ _ _++(yT _ _++R); unfold yT shL oQ; dsimp only; rw [Dl,hA,AI,AM,AG,oh (j:=1) (by decide),oh (j:=0) (by decide),oh (j:=3) (by decide),oh (j:=4) (by decide),oe (j:=1) (by decide),oe (j:=0) (by decide),oe (j:=3) (by decide),oe (j:=4) (by decide),od (j:=1) (by decide),od (j:=0) (by decide),od (j:=3) (by decide),od (j:=4) (by decide)]; rfl
 | 3,_=>show _ = shL _ _ _++(yT _ _++R); unfold yT shL oQ; dsimp only; rw [Dl,hA,AI,AM,AG,oh (j:=1) (by decide),oh (j:=2) (by decide),oh (j:=0) (by decide),oh (j:=4) (by decide),oe (j:=1) (by decide),oe (j:=2) (by decide),oe (j:=0) (by decide),oe (j:=4) (by decide),od (j:=1) (by decide),od (j:=2) (by decide),od (j:=0) (by decide),od (j:=4) (by decide)]; rfl
 | 4,_=>show _ = shL _ _ _++(yT _ _++R); unfold yT shL oQ; dsimp only; rw [Dl,hA,AI,AM,AG,oh (j:=1) (by decide),oh (j:=2) (by decide),oh (j:=3) (by decide),oh (j:=0) (by decide),oe (j:=1) (by decide),oe (j:=2) (by decide),oe (j:=3) (by decide),oe (j:=0) (by decide),od (j:=1) (by decide),od (j:=2) (by decide),od (j:=3) (by decide),od (j:=0) (by decide)]; rfl
theorem I0 {Y : YA} {m : ld} {R : List SL.HP} {w : World} {k : Nat} (hk : k < 5) (hF : m.F k = none) {i : ImgM} {bi bh : Nat} (H : own w (lE bi (Y.A k).2.1 bh i::lt (Y.A k).2.1 i.d::(yL Y m R).set (7 + k) emp)) :
  own (w.setCell ⟨Y.bs,k,none⟩ (.pointer (some ⟨bi,0,none⟩))) (yL (Y.stA k bi bh) { m with F:=put m.F k i } R):=by
 have h1 : own w (star [lE bi (Y.A k).2.1 bh i,lt (Y.A k).2.1 i.d]::(yL Y m R).set (7 + k) emp):=AF [lE bi (Y.A k).2.1 bh i,lt (Y.A k).2.1 i.d] H
 have h0 : ((yL Y m R).set (7 + k) emp)[0]? = some (pts Y.bs (.cells (oQ Y.A m.F) 111 (0,0))):=by
  rw [List.getElem?_set_ne (by omega)]; rfl
 have h2:=ln (i:=k) (v:=.pointer (some ⟨bi,0,none⟩)) 1 h1 (by rw [List.getElem?_cons_succ]; exact h0)
 rw [List.set_cons_succ] at h2
 have hs : (yL Y m R)[1 + k]? = some emp:=by rw [KA Y m R hk]; unfold oS; rw [hF]
 have h3:=Ap (1 + k) h2 (by rw [List.getElem?_set_ne (by omega),List.getElem?_set_ne (by omega)]; exact hs)
 rwa [MS Y m R hk] at h3
theorem Qw (F : ShM) (k : Nat) (i : ImgM) : put (cut F k) k i = put F k i:=by
 funext j
 unfold put cut
 by_cases h : j = k
 ·rw [zt h,zt h]
 ·rw [zq h,zq h,zq h]
theorem NE (D : Nat -> DevM) (k : Nat) (d d' : DevM) : setD (setD D k d) k d' = setD D k d':=by
 funext j
 unfold setD
 by_cases h : j = k
 ·rw [zt h,zt h]
 ·rw [zq h,zq h,zq h]
theorem BP (A : Nat -> Nat×Nat×Nat) (F : ShM) (D : Nat -> DevM) (k : Nat) (i : ImgM) (d : DevM) (j : Nat) : ov A (put F k i) (setD D k d) j = ov A (put F k i) D j:=by
 unfold ov put setD
 by_cases h : j = k
 ·rw [zt h]
 ·rw [zq h,zq h]
theorem P6 (Y : YA) (m : ld) (R : List SL.HP) (k : Nat) (i : ImgM) (d : DevM) : yL Y { m with F:=put (cut m.F k) k i,D:=setD m.D k d } R = yL Y { m with F:=put m.F k i } R:=by
 show shL _ _ _++(yT _ _++R) = shL _ _ _++(yT _ _++R)
 unfold yT
 dsimp only
 rw [Qw,BP,BP,BP,BP,BP]
 rfl
def yj (Y : YA) (S : Int×ld) (R : List SL.HP) (w : World) (e : Ending) (w' : World) : Prop:=
 ∃Y' : YA,Y'.y = Y.y /\ e = .returned (errV S.1) /\ Ext w w' /\ own w' (yL Y' S.2 R)
theorem OF {b : Nat} {A : Nat -> Nat×Nat×Nat} {F : ShM} {R : List SL.HP} {w : World} (H : own w (shL b A F++R)) (i : Nat) : w.frozen? ⟨b,i,none⟩ = false:=(la 0 H rfl).2 i
theorem YOk.list5 {N : Nat} {m : ld} (h : YOk N m) : m.list.length <= 5:=by
 have:=GQ (F:=m.F) (root:=m.dk.root) (n:=6) (l:=[]) (at_:=m.dk.root) (by simp)
 have hw : oL m.F m.dk.root 6 [] m.dk.root = (m.list,0):=h.walk
 rwa [hw] at this
theorem YOk.devOf {N : Nat} {m : ld} (h : YOk N m) {k : Nat} (hk : k < 5) : (devOf m k).Ok /\ (devOf m k).writes <= N /\ (devOf m k).pend.length <= N:=by
 unfold Go.Proofs.YtbpblokfiajpjabGreatDoor.devOf
 cases e : m.F k with
 | none=>exact h.dv k hk e
 | some i=>exact ⟨(h.sh.ok k i hk e).d,h.sh.wr k i hk e,h.sh.pend k i hk e⟩
theorem NP (Y : YA) (m : ld) {k : Nat} (hk : k < 5) : (yC Y m)[k]? = some (.pointer (some ⟨(Y.A k).2.1,0,none⟩)):=by
 match k,hk with
 | 0,_=>rfl
 | 1,_=>rfl
 | 2,_=>rfl
 | 3,_=>rfl
 | 4,_=>rfl
theorem G1 (N : Nat) (Y : YA) (m : ld) (hm : YOk N m) (hN : N < 900000) (file back : Int) (R : List SL.HP) (w : World) (H : own w (yL Y m R)) :
  Calls Tryz.prog 208 #[.pointer (some ⟨Y.y,0,none⟩),.int .i64 file,.int .i64 back] w (yj Y (l7 m file back) R w):=by
 have HU:=zh (Nl Y m hm.list5 file R w H)
 generalize hres : l7 m file back = res
 unfold l7 at hres
 by_cases hb : file < 0 \/ 5 <= file
 ·rw [zt hb] at hres
  subst hres
  by_cases q1 : file < 0
  ·go_enter Tryz.func208,Tryz.ntmps208
   go_wp2_with fail
   go_ret
   exact ⟨Y,rfl,rfl,zR w,H⟩
  ·have q2 : 5 <= file:=by omega
   clear hb
   go_enter Tryz.func208,Tryz.ntmps208
   go_wp2_with fail
   go_ret
   exact ⟨Y,rfl,rfl,zR w,H⟩
 ·rw [zq hb] at hres
  obtain ⟨k,rfl⟩ : ∃k : Nat,file = (k : Int):=⟨file.toNat,by omega⟩
  have hk : k < 5:=by omega
  have q1 : ¬((k : Int) < 0):=by omega
  have q2 : ¬(5 <= (k : Int)):=by omega
  have q3 : (0 : Int) <= (k : Int):=by omega
  have q4 : (k : Int) < 5:=by omega
  clear hb
  rw [zn] at hres
  cases hu : AA m (k : Int) with
  | true=>
   rw [zt hu] at hres
   subst hres
   rw [hu] at HU
   clear hu
   go_enter Tryz.func208,Tryz.ntmps208
   go_wp2_with fail
   refine HU.out.mono ?_
   rintro e w1 ⟨rfl,rfl⟩
   go_wp2_with fail
   go_ret
   exact ⟨Y,rfl,rfl,zR w,H⟩
  | false=>
   rw [hu] at HU
   rw [zq (by rw [hu]; decide)] at hres
   obtain ⟨r,mr,hxr,hr,hFr⟩:=og hm.root
   have hcl : clus m.F m.dk.root = mr.c:=by rw [hxr]; exact y8 hFr
   obtain ⟨dok,dw,dp⟩:=hm.devOf hk
   have hcr:=yH (hm.sh.sh hN) hm.root
   rw [hcl] at hcr
   have hcn : ((mr.c.toNat : Nat) : Int) = mr.c:=by omega
   have hro:=fun w'=>Aw mr.c.toNat (by omega) w'
   rw [hcn] at hro
   have hnl : (devOf m k).fl.length <= 1000000:=by have:=dok.n; omega
   have hrn : lA mr.c.toNat <= 1000000:=by unfold lA; omega
   have hpl : zA mr.c (devOf m k) = Int.tdiv (((devOf m k).fl.length : Int) - 1 - (lA mr.c.toNat : Nat)) 4:=rfl
   have hbl : o7 m k back = oa (devOf m k) mr.c (zA mr.c (devOf m k)) back:=by unfold o7; rw [hcl]
   rw [hbl] at hres
   have HSZ:=zh (fun R' w' (h : own w' (yL Y m R'))=>JZ (Y.A k).2.1 (devOf m k) _ w' (Gr hk h))
   have HCR:=zh (fun R' w' (h : own w' (yL Y { m with F:=cut m.F k,D:=setD m.D k (devOf m k) } R'))=>GY (Y.A k).2.1 (devOf m k) dok (by omega) (by omega) mr.c (zA mr.c (devOf m k)) back _ w' (by
    have h1:=BI hk (by show cut m.F k k = none; unfold cut; rw [zt rfl]) h
    have e : setD m.D k (devOf m k) k = devOf m k:=by unfold setD; rw [zt rfl]
    rw [show ({ m with F:=cut m.F k,D:=setD m.D k (devOf m k) } : ld).D k = devOf m k from e] at h1
    exact h1))
   have hcode:=Ea (devOf m k) mr.c (zA mr.c (devOf m k)) back
   have HH:=zh (fun R' w' h=>zF (b:=Y.bs) (A:=Y.A) hr hFr R' w' h)
   have HS : ∀w' R',own w' (yL Y m R') -> w'.cell? ⟨Y.y,6,none⟩ = some (.pointer (some ⟨Y.bs,0,none⟩)) /\ w'.cell? ⟨Y.y,7,none⟩ = some (.int .i64 (r : Int)) /\ w'.cell? ⟨Y.bs,r,none⟩ = some (.pointer (some ⟨(Y.A r).1,0,none⟩)):=fun w' R' h=>⟨y_bs h,by rw [<- hxr]; exact yW h,by rw [l9 h hr,lO hFr]⟩
   have HS:=zh HS
   have HRES:=zh hres
   have r0 : (0 : Int) <= (r : Int):=by omega
   have r5 : (r : Int) < 5:=by omega
   clear hu hbl hres hcn hm hcl
   unfold oF at HH HCR
   generalize hpv : zA mr.c (devOf m k) = pl at *
   generalize oa (devOf m k) mr.c pl back = S at *
   generalize hn : (devOf m k).fl.length = n at *
   generalize hrn' : lA mr.c.toNat = rn at *
   have n0 : (0 : Int) <= (n : Int):=by omega
   have n1 : (n : Int) <= 1000000:=by omega
   have m0 : (0 : Int) <= (rn : Int):=by omega
   have m1 : (rn : Int) <= 1000000:=by omega
   have HRO:=zh hro
   have HPL:=zh hpl
   clear hro hpl hpv hn hrn'
   have h1:=lj H
   have hx1:=(zR w).drew
   go_enter Tryz.func208,Tryz.ntmps208
   go_wp2_with fail
   refine HU.out.mono ?_
   rintro e w0 ⟨rfl,rfl⟩
   go_upto_region 5 with (fail)
   refine wp_region_held_drew (S:=fun w'=>w'.cell? ⟨Y.y,6,none⟩ = some (.pointer (some ⟨Y.bs,0,none⟩)) /\ w'.cell? ⟨Y.y,7,none⟩ = some (.int .i64 (r : Int)) /\ w'.cell? ⟨Y.bs,r,none⟩ = some (.pointer (some ⟨(Y.A r).1,0,none⟩))) (by kernel_rfl) (HS.out _ _ h1) (fun hHeld=>?_)
   refine tk 0 ?_
   refine tk 1 ?_
   refine tk 2 ?_
   refine tk 3 ?_
   refine tk 4 ?_
   refine tk 5 ?_
   refine tk 6 ?_
   refine tk 7 ?_
   refine tk 8 ?_
   refine tk 9 ?_
   refine tk 10 ?_
   refine tk 11 ?_
   try simp only [Act.put,tA,tB,tC,tD,tE,tF]
   refine wpAnyH_ready (rs:=[12,13]) (by kernel_rfl) (by simp) ?_
   refine AllReadyH.cons rfl (fun K hK=>?_) (AllReadyH.cons rfl (fun K hK=>?_) AllReadyH.nil)
   all_goals
    try
     go_simp
     go_at_call 71
     refine (HH.out _ _ h1).mono ?_
     rintro e w2 ⟨rfl,hx2,h2⟩
     go_simp
     refine hK.out _ _ (HS.out _ _ h2) (fun _=>?_)
     clear hK K
     try simp only [Act.put,tA,tB,tC,tD,tE,tF]
     refine rd 13 rfl fun K hK=>?_
     have h3:=Fa (.cells #[.int .i64 0,.int .i64 0,.int .i64 0] 103) h2
     have hx3:=(hx1.trans hx2).alloc (.cells #[.int .i64 0,.int .i64 0,.int .i64 0] 103)
     go_simp
     refine hK.out _ _ (HS.out _ _ h3) (fun _=>?_)
     clear hK K
     try simp only [Act.put,tA,tB,tC,tD,tE,tF]
     generalize w2.heap.size = g at *
     generalize w2.alloc (.cells #[.int .i64 0,.int .i64 0,.int .i64 0] 103) = w3 at *
    try
     have h3:=lj (Fa (.cells #[.int .i64 0,.int .i64 0,.int .i64 0] 103) H)
     have hx3':=((zR w).alloc (.cells #[.int .i64 0,.int .i64 0,.int .i64 0] 103)).drew
     go_simp
     refine hK.out _ _ (HS.out _ _ h3) (fun _=>?_)
     clear hK K
     try simp only [Act.put,tA,tB,tC,tD,tE,tF]
     refine rd 12 rfl fun K hK=>?_
     generalize w.heap.size = g at *
     generalize (w.alloc (.cells #[.int .i64 0,.int .i64 0,.int .i64 0] 103)).drew = w2 at *
     go_simp
     go_at_call 71
     refine (HH.out _ _ h3).mono ?_
     clear h3
     rintro e w3 ⟨rfl,hx2,h3⟩
     have hx3:=hx3'.trans hx2
     go_simp
     refine hK.out _ _ (HS.out _ _ h3) (fun _=>?_)
     clear hK K
     try simp only [Act.put,tA,tB,tC,tD,tE,tF]
    refine rd 14 rfl fun K hK=>?_
    have c0:=(la 15 h3 rfl).1 0
    have c1:=(la 15 h3 rfl).1 1
    have c2:=(la 15 h3 rfl).1 2
    have f3:=(la 15 h3 rfl).2
    have h4:=ln (i:=2) (v:=.int .i64 mr.b) 15 (ln (i:=1) (v:=.int .i64 mr.p) 15 (ln (i:=0) (v:=.int .i64 mr.c) 15 h3 rfl) rfl) rfl
    have h5 : own _ (yL Y m (pts g (.cells #[.int .i64 mr.c,.int .i64 mr.p,.int .i64 mr.b] 103 (0,0))::R)):=h4
    have hx5:=((hx3.setCell (⟨g,0,none⟩ : Addr) (.int .i64 mr.c)).setCell (⟨g,1,none⟩ : Addr) (.int .i64 mr.p)).setCell (⟨g,2,none⟩ : Addr) (.int .i64 mr.b)
    go_simp
    refine hK.out _ _ (HS.out _ _ h5) (fun _=>?_)
    clear hK K c0 c1 c2 f3 h4 h3 hx3
    try simp only [Act.put,tA,tB,tC,tD,tE,tF]
    refine wpAnyH_done (by kernel_rfl) ?_ _
    generalize ((w3.setCell ⟨g,0,none⟩ (.int .i64 mr.c)).setCell ⟨g,1,none⟩ (.int .i64 mr.p)).setCell ⟨g,2,none⟩ (.int .i64 mr.b) = w5 at *
    have c2:=(la 15 h5 rfl).1 2
    have f2:=(la 15 h5 rfl).2 2
    have h6':=ln (i:=2) (v:=.int .i64 back) 15 h5 rfl
    have h6 : own _ (yL Y m (pts g (.cells #[.int .i64 mr.c,.int .i64 mr.p,.int .i64 back] 103 (0,0))::R)):=h6'
    have hx6:=hx5.setCell (⟨g,2,none⟩ : Addr) (.int .i64 back)
    clear h5 hx5 h6'
    go_upto_region 7 with (fail)
    generalize w5.setCell ⟨g,2,none⟩ (.int .i64 back) = w6 at *
    clear c2 f2
    have c0:=(la 15 h6 rfl).1 0
    have dv:=GD h6 hk
    have hs:=(HSZ.out _ _ (lj h6)).mono fun e w' h=>(⟨h.1,h.2.symm⟩ : e = .returned (.int .i64 (n : Nat)) /\ w' = w6.drew)
    have hr:=(HRO.out w6.drew).mono fun e w' h=>(⟨h.1,h.2.symm⟩ : e = .returned (.int .i64 (rn : Nat)) /\ w' = w6.drew)
    go_still_tail 14,(by kernel_rfl)
    still_call hs
    repeat still_step
    still_call hr
    repeat still_step
    refine wpStill_nil ?_
    change wpList _ _ _ _ _ w6.drew
    have h7:=lj h6
    have hx7:=hx6.drew
    clear c0 dv hs hr h6 hx6
    generalize w6.drew = w7 at *
    have c1:=(la 15 h7 rfl).1 1
    have f1:=(la 15 h7 rfl).2 1
    have h8':=ln (i:=1) (v:=.int .i64 pl) 15 h7 rfl
    have h8 : own _ (yL Y m (pts g (.cells #[.int .i64 mr.c,.int .i64 pl,.int .i64 back] 103 (0,0))::R)):=h8'
    have hx8:=hx7.setCell (⟨g,1,none⟩ : Addr) (.int .i64 pl)
    clear h7 hx7 h8'
    go_upto_region 8 with (fail)
    rw [<- HPL.out]
    generalize w7.setCell ⟨g,1,none⟩ (.int .i64 pl) = w8 at *
    clear c1 f1
    have cb:=y_bs h8
    have cs:=l9 h8 hk
    have fs:=OF h8 k
    have h9:=S4 hk h8
    have hx9:=hx8.setCell (⟨Y.bs,k,none⟩ : Addr) (.pointer none)
    clear h8 hx8
    go_upto_region 9 with (fail)
    generalize w8.setCell ⟨Y.bs,k,none⟩ (.pointer none) = w9 at *
    clear cb cs fs
    have hz:=lj h9
    have hxz:=hx9.drew
    clear h9 hx9
    have dv:=GD hz hk
    have g0:=(la 15 hz rfl).1 0
    have g1:=(la 15 hz rfl).1 1
    have g2:=(la 15 hz rfl).1 2
    refine wp_region_held_drew (S:=fun w'=>w'.cell? ⟨Y.y,k,none⟩ = some (.pointer (some ⟨(Y.A k).2.1,0,none⟩)) /\ w'.cell? ⟨g,0,none⟩ = some (.int .i64 mr.c) /\ w'.cell? ⟨g,1,none⟩ = some (.int .i64 pl) /\ w'.cell? ⟨g,2,none⟩ = some (.int .i64 back)) (by kernel_rfl) ⟨dv,g0,g1,g2⟩ (fun hHeld=>?_)
    refine tk 0 ?_
    refine tk 1 ?_
    refine tk 2 ?_
    refine tk 3 ?_
    refine tk 4 ?_
    refine tk 5 ?_
    refine tk 6 ?_
    try simp only [Act.put,tA,tB,tC,tD,tE,tF]
    refine rd 7 rfl fun K hK=>?_
    go_simp
    go_at_call 62
    refine (HCR.out _ _ hz).mono ?_
    rintro e w10 hpost
    have h0 : ((yL Y { m with F:=cut m.F k,D:=setD m.D k (devOf m k) } (pts g (.cells #[.int .i64 mr.c,.int .i64 pl,.int .i64 back] 103 (0,0))::R)).set (7 + k) emp)[0]? = some (pts Y.bs (.cells (oQ Y.A (cut m.F k)) 111 (0,0))):=by rw [List.getElem?_set_ne (by omega)]; rfl
    have h6 : ((yL Y { m with F:=cut m.F k,D:=setD m.D k (devOf m k) } (pts g (.cells #[.int .i64 mr.c,.int .i64 pl,.int .i64 back] 103 (0,0))::R)).set (7 + k) emp)[6]? = some (pts Y.y (.cells (yC Y m) 165 (0,0))):=by rw [List.getElem?_set_ne (by omega)]; rfl
    have h15 : ((yL Y { m with F:=cut m.F k,D:=setD m.D k (devOf m k) } (pts g (.cells #[.int .i64 mr.c,.int .i64 pl,.int .i64 back] 103 (0,0))::R)).set (7 + k) emp)[15]? = some (pts g (.cells #[.int .i64 mr.c,.int .i64 pl,.int .i64 back] 103 (0,0))):=by rw [List.getElem?_set_ne (by omega)]; rfl
    rcases hpost with ⟨hc,rfl,hx10,h10⟩ | ⟨hc,bi,bh,rfl,hx10,h10⟩
    ·have z1 : w10.cell? ⟨Y.y,k,none⟩ = some (.pointer (some ⟨(Y.A k).2.1,0,none⟩)):=by rw [(la 7 h10 h6).1 k]; exact NP Y m hk
     have z2:=(la 16 h10 h15).1
     go_simp
     refine hK.out _ _ ⟨z1,z2 0,z2 1,z2 2⟩ (fun _=>?_)
     clear hK K z1 z2 dv g0 g1 g2
     try simp only [Act.put,tA,tB,tC,tD,tE,tF]
     refine tk 8 ?_
     refine tk 9 ?_
     refine tk 10 ?_
     refine tk 11 ?_
     refine tk 12 ?_
     try simp only [Act.put,tA,tB,tC,tD,tE,tF]
     refine wpAnyH_done (by kernel_rfl) ?_ _
     have h11:=Ig (Y:=Y) hk (by show cut m.F k k = none; unfold cut; rw [zt rfl]) h10
     rw [zt hc] at HRES
     rw [lu (e:=S.1) (by omega)]
     go_wp2_with fail
     go_ret
     rw [<- HRES.out]
     refine ⟨Y,rfl,by rw [lu (e:=S.1) (by omega)]; rfl,hxz.trans hx10,?_⟩
     have h12:=zC h11
     rw [NE] at h12
     exact h12
    ·have z1 : w10.cell? ⟨Y.y,k,none⟩ = some (.pointer (some ⟨(Y.A k).2.1,0,none⟩)):=by rw [(la 8 h10 h6).1 k]; exact NP Y m hk
     have z2:=(la 17 h10 h15).1
     go_simp
     refine hK.out _ _ ⟨z1,z2 0,z2 1,z2 2⟩ (fun _=>?_)
     clear hK K z1 z2 dv g0 g1 g2
     try simp only [Act.put,tA,tB,tC,tD,tE,tF]
     refine tk 8 ?_
     refine tk 9 ?_
     refine tk 10 ?_
     refine tk 11 ?_
     refine tk 12 ?_
     try simp only [Act.put,tA,tB,tC,tD,tE,tF]
     refine wpAnyH_done (by kernel_rfl) ?_ _
     rw [zq (by rw [hc]; decide)] at HRES
     have cb : w10.cell? ⟨Y.y,6,none⟩ = some (.pointer (some ⟨Y.bs,0,none⟩)):=(la 8 h10 h6).1 6
     have fs : w10.frozen? ⟨Y.bs,k,none⟩ = false:=(la 2 h10 h0).2 k
     have cs : ∃v,w10.cell? ⟨Y.bs,k,none⟩ = some v:=by
      rw [(la 2 h10 h0).1 k]
      unfold oQ
      exact ⟨_,Array.getElem?_eq_getElem (by simp; omega)⟩
     obtain ⟨vs,cs⟩:=cs
     have h11:=I0 (Y:=Y) hk (by show cut m.F k k = none; unfold cut; rw [zt rfl]) h10
     have hx11:=(hxz.trans hx10).setCell (⟨Y.bs,k,none⟩ : Addr) (.pointer (some ⟨bi,0,none⟩))
     clear h0 h6 h15 h10 hz hxz hx10
     go_wp2_with fail
     go_ret
     rw [<- HRES.out]
     refine ⟨Y.stA k bi bh,rfl,rfl,hx11,?_⟩
     have h12:=zC h11
     rw [P6] at h12
     exact h12
theorem QI (Y : YA) (m : ld) (F' : ShM) {j : JobM} (j' : JobM) (h : m.job = some j) (hn : ∀k,k < 5 -> (F' k = none↔m.F k = none)) : (yT Y { m with F:=F',job:=some j' }).take 8 = (yT Y m).take 8:=by
 have hf : ∀k,k < 5 -> ov Y.A F' m.D k = ov Y.A m.F m.D k:=fun k hk=>by
  unfold ov
  cases e : m.F k with
  | none=>rw [(hn k hk).2 e]
  | some i=>
   cases e' : F' k with
   | none=>exact absurd ((hn k hk).1 e') (by rw [e]; exact fun h=>by cases h)
   | some i'=>rfl
 have hc : yC Y { m with F:=F',job:=some j' } = yC Y m:=by
  unfold yC
  dsimp only
  rw [h]
  rfl
 unfold yT
 dsimp only
 rw [hc,hf 0 (by decide),hf 1 (by decide),hf 2 (by decide),hf 3 (by decide),hf 4 (by decide)]
 rfl
theorem zw {Y : YA} {m : ld} {F' : ShM} {j j' : JobM} {R : List SL.HP} {w : World} (h : m.job = some j) (hl : j'.list = j.list) (hn : ∀k,k < 5 -> (F' k = none↔m.F k = none))
  (H : own w (shL Y.bs Y.A F'++(jobL Y.bs Y.bj Y.bt Y.bb Y.vj j'++(row 3 1 Y.vj j.list.length (lr j.list)::((yT Y m).take 8++R))))) : own w (yL Y { m with F:=F',job:=some j' } R):=by
 refine Fc (m:={ m with F:=F',job:=some j' }) (j:=j') rfl ?_
 rw [hl,QI Y m F' j' h hn]
 exact H
theorem yO {Y : YA} {m : ld} {j : JobM} (h : m.job = some j) {R : List SL.HP} {w : World} (H : own w (yL Y m R)) : w.cell? ⟨Y.y,13,none⟩ = some (.pointer (some ⟨Y.bj,0,none⟩)):=by
 have:=Gt H
 rw [h] at this
 exact this
theorem My (j : JobM) : (yX j).list = j.list:=by
 unfold yX
 split
 ·rfl
 ·split <;> rfl
theorem FD (j : JobM) (on : Bool) : (o8 j on).2.list = j.list:=by
 unfold o8
 split
 ·split <;> rfl
 ·split
  ·exact My _
  ·rfl
theorem Lx (j : JobM) (n : Int) : (zY j n).list = j.list:=by unfold zY; split <;> rfl
theorem MB (Y : YA) (m : ld) (hm : ∀j,m.job = some j -> j.Ok) (on : Bool) (R : List SL.HP) (w : World) (H : own w (yL Y m R)) :
  Calls Tryz.prog 115 #[.pointer (some ⟨Y.y,0,none⟩),.bool on] w (yj Y (zm m on) R w):=by
 have HB:=zh (zH Y m R w H)
 generalize hres : zm m on = res
 unfold zm at hres
 unfold yY at HB
 cases hj : m.job with
 | none=>
  rw [hj] at HB hres
  dsimp only at HB hres
  subst hres
  clear hj
  go_enter Tryz.func115,Tryz.ntmps115
  go_wp2_with fail
  refine HB.out.mono ?_
  rintro e w' ⟨rfl,rfl⟩
  go_wp2_with fail
  go_ret
  exact ⟨Y,rfl,rfl,zR _,H⟩
 | some j=>
  rw [hj] at HB hres
  dsimp only at HB hres
  by_cases h4 : 4 <= j.st
  ·rw [zt h4] at hres
   subst hres
   rw [zf (by omega)] at HB
   clear hj h4
   go_enter Tryz.func115,Tryz.ntmps115
   go_wp2_with fail
   refine HB.out.mono ?_
   rintro e w' ⟨rfl,rfl⟩
   go_wp2_with fail
   go_ret
   exact ⟨Y,rfl,rfl,zR _,H⟩
  ·rw [zq h4] at hres
   rw [zg (by omega)] at HB
   have cj:=yO hj H
   have HP:=zh (G5 Y.bs Y.bj Y.bt Y.bb Y.vj j (hm j hj) on _ w (lp (shL Y.bs Y.A m.F) (jobL Y.bs Y.bj Y.bt Y.bb Y.vj j) (zW hj H)))
   have HJ:=zh hj
   have HRES:=zh hres
   clear hj h4 hm hres
   go_enter Tryz.func115,Tryz.ntmps115
   go_wp2_with fail
   refine HB.out.mono ?_
   rintro e w' ⟨rfl,rfl⟩
   go_wp2_with fail
   refine HP.out.mono ?_
   rintro e w2 ⟨rfl,hx2,h2⟩
   go_wp2_with fail
   go_ret
   rw [<- HRES.out]
   exact ⟨Y,rfl,rfl,hx2,zw HJ.out (FD j on) (fun _ _=>Iff.rfl) (lp (jobL Y.bs Y.bj Y.bt Y.bb Y.vj (o8 j on).2) (shL Y.bs Y.A m.F) h2)⟩
theorem OC (Y : YA) (m : ld) (hm : ∀j,m.job = some j -> j.Ok) (n : Int) (R : List SL.HP) (w : World) (H : own w (yL Y m R)) :
  Calls Tryz.prog 117 #[.pointer (some ⟨Y.y,0,none⟩),.int .i64 n] w (yj Y (zX m n) R w):=by
 have HB:=zh (zH Y m R w H)
 generalize hres : zX m n = res
 unfold zX at hres
 unfold yY at HB
 by_cases hb : n < 0 \/ 100000 < n
 ·rw [zt hb] at hres
  subst hres
  by_cases q1 : n < 0
  ·go_enter Tryz.func117,Tryz.ntmps117
   go_wp2_with fail
   go_ret
   exact ⟨Y,rfl,rfl,zR w,H⟩
  ·have q2 : 100000 < n:=by omega
   clear hb
   go_enter Tryz.func117,Tryz.ntmps117
   go_wp2_with fail
   go_ret
   exact ⟨Y,rfl,rfl,zR w,H⟩
 rw [zq hb] at hres
 have hn : 0 <= n /\ n <= 100000:=by omega
 have q1 : ¬n < 0:=by omega
 have q2 : ¬100000 < n:=by omega
 clear hb
 cases hj : m.job with
 | none=>
  rw [hj] at HB hres
  dsimp only at HB hres
  subst hres
  clear hj
  go_enter Tryz.func117,Tryz.ntmps117
  go_wp2_with fail
  refine HB.out.mono ?_
  rintro e w' ⟨rfl,rfl⟩
  go_wp2_with fail
  go_ret
  exact ⟨Y,rfl,rfl,zR _,H⟩
 | some j=>
  rw [hj] at HB hres
  dsimp only at HB hres
  by_cases h4 : 4 <= j.st
  ·rw [zt h4] at hres
   subst hres
   rw [zf (by omega)] at HB
   clear hj h4
   go_enter Tryz.func117,Tryz.ntmps117
   go_wp2_with fail
   refine HB.out.mono ?_
   rintro e w' ⟨rfl,rfl⟩
   go_wp2_with fail
   go_ret
   exact ⟨Y,rfl,rfl,zR _,H⟩
  ·rw [zq h4] at hres
   rw [zg (by omega)] at HB
   have cj:=yO hj H
   have HP:=zh (Nt Y.bs Y.bj Y.bt Y.bb Y.vj j (hm j hj) n _ w (lp (shL Y.bs Y.A m.F) (jobL Y.bs Y.bj Y.bt Y.bb Y.vj j) (zW hj H)))
   rw [zt hn,lL] at HP
   have HJ:=zh hj
   have HRES:=zh hres
   clear hj h4 hm hres hn
   go_enter Tryz.func117,Tryz.ntmps117
   go_wp2_with fail
   refine HB.out.mono ?_
   rintro e w' ⟨rfl,rfl⟩
   go_wp2_with fail
   refine HP.out.mono ?_
   rintro e w2 ⟨rfl,hx2,h2⟩
   go_wp2_with fail
   go_ret
   rw [<- HRES.out]
   exact ⟨Y,rfl,rfl,hx2,zw HJ.out (Lx j n) (fun _ _=>Iff.rfl) (lp (jobL Y.bs Y.bj Y.bt Y.bb Y.vj (zY j n)) (shL Y.bs Y.A m.F) h2)⟩
theorem C8 {r : Int} (h : 0 <= r) (h5 : r < 5) : (lw r).f = 0:=by
 show yz r 0 (-1) 0 0 = 0
 rw [LN (by unfold y7; omega) rfl]
 rfl
theorem oY {Y : YA} {m : ld} {P : SL.HP} {R : List SL.HP} {w : World} (H : own w (P::yL Y m R)) : own w (yL Y m (P::R)):=by
 have h:=lD (shL Y.bs Y.A m.F++yT Y m) (R:=R) (by rw [zp]; exact H)
 rwa [zp] at h
theorem DD {Y : YA} {m : ld} {v : Value} {l : List Int} {R : List SL.HP} {w : World} (H : own w (yL Y m (row 3 1 v l.length (lr l)::R))) : own (w.setCell ⟨Y.y,12,none⟩ v) (yL { Y with v:=v } { m with list:=l } R):=by
 have h1:=ln (i:=12) (v:=v) 6 H rfl
 have h2:=le 13 h1 rfl
 have h3:=lG 14 h2 rfl
 exact lD (((yL { Y with v:=v } { m with list:=l } R)).take 13) h3
theorem YOk.root5 {N : Nat} {m : ld} (h : YOk N m) : 0 <= m.dk.root /\ m.dk.root < 5:=by
 obtain ⟨k,i,hx,hk,-⟩:=og h.root
 omega
theorem I1 (Y : YA) (m : ld) (N : Nat) (hW : ShW N m.F) (hN : N < 900000) (ht : m.top.Ok) (hw : m.top.writes < 999000) (hp : m.top.pend.length < 999000) (j : JobM) (hj : m.job = some j) (root : Int) (hr : 0 <= root /\ root < 5) (hwk : (lk m.F root).2 = 0) (well : Bool) (R : List SL.HP) (w : World) (H : own w (yL Y m R)) :
  Calls Tryz.prog 146 #[.pointer (some ⟨Y.y,0,none⟩),(lw root).v,.bool well] w (yj Y (AN m j root well) R w):=by
 have hb:=Fa (.cells #[.int .i64 root,.int .i64 0,.int .i64 (-1),.int .i64 0,.int .i64 0] 24) H
 have hxb:=(zR w).alloc (.cells #[.int .i64 root,.int .i64 0,.int .i64 (-1),.int .i64 0,.int .i64 0] 24)
 have HW:=zh (fun R' w' h=>zN Y m ht hw hp (lw root) (C8 hr.1 hr.2) R' w' h)
 generalize hres : AN m j root well = res
 unfold AN at hres
 have hcode : 0 <= (lm m (lw root)).1:=by
  unfold lm
  split
  ·exact ow _ _ _
  ·exact Int.le_refl 0
 have hF : (lm m (lw root)).2.F = m.F:=by unfold lm; split <;> rfl
 have hJ : (lm m (lw root)).2.job = m.job:=by unfold lm; split <;> rfl
 have hD : (lm m (lw root)).1 = 0 -> (lm m (lw root)).2.dk = lw root:=by
  unfold lm
  split
  ·exact fun h=>absurd h (by assumption)
  ·exact fun _=>rfl
 have HWK:=zh (fun Y' R' w' h=>Bx Y.bs Y' m.F (hW.sh hN) root R' w' h)
 unfold AW at HWK
 rw [hwk,lL] at HWK
 rw [hj] at hJ
 unfold l6.v zQ at HW ⊢
 generalize lm m (lw root) = S at *
 obtain ⟨c,m2⟩:=S
 dsimp only [lw] at hcode hF hJ hD HW hres ⊢
 have HRES:=zh hres
 have HJ:=zh hJ
 have HDK:=zh hD
 clear hres hD
 generalize (lk m.F root).1 = l at *
 clear H hW ht hw hp hr hwk hj
 go_enter Tryz.func146,Tryz.ntmps146
 go_upto_region 1 with (fail)
 generalize w.heap.size = g at *
 generalize w.alloc (.cells #[.int .i64 root,.int .i64 0,.int .i64 (-1),.int .i64 0,.int .i64 0] 24) = w1 at *
 have cd:=(la 15 hb rfl).1
 have d0:=cd 0
 have d1:=cd 1
 have d2:=cd 2
 have d3:=cd 3
 have d4:=cd 4
 clear cd
 go_wp2_with fail
 refine (HW.out _ w1 hb).mono ?_
 rintro e w2 ⟨rfl,hx2,h2⟩
 clear d0 d1 d2 d3 d4
 by_cases hc : c = 0
 ·have hdk:=HDK.out hc
  subst hc
  rw [zq (by decide)] at HRES
  rw [lL]
  have hf2 : m2.F = m.F:=hF
  have cj:=yO hJ h2
  go_wp2_with fail
  refine (JN Y.bs Y.bj Y.bt Y.bb Y.vj j well _ w2 (lp (shL Y.bs Y.A m2.F) (jobL Y.bs Y.bj Y.bt Y.bb Y.vj j) (zW HJ.out h2))).mono ?_
  rintro e w3 ⟨rfl,hx3,h3⟩
  have h4 : own w3 (yL Y { m2 with job:=some (endM j well) } _):=zw HJ.out (show (endM j well).list = j.list from rfl) (fun _ _=>Iff.rfl) (lp (jobL Y.bs Y.bj Y.bt Y.bb Y.vj (endM j well)) (shL Y.bs Y.A m2.F) h3)
  have hx4:=(hxb.trans hx2).trans hx3
  clear h3 h2 hb hxb hx2 hx3 cj
  have HS : ∀w' R',own w' (yL Y { m2 with job:=some (endM j well) } R') -> w'.cell? ⟨Y.y,6,none⟩ = some (.pointer (some ⟨Y.bs,0,none⟩)) /\ w'.cell? ⟨Y.y,7,none⟩ = some (.int .i64 root):=fun w' R' h=>⟨y_bs h,by have:=yW h; rw [show ({ m2 with job:=some (endM j well) } : ld).dk = m2.dk from rfl,hdk] at this; exact this⟩
  have HS:=zh HS
  have h5:=lj h4
  have hx5:=hx4.drew
  go_upto_region 5 with (fail)
  refine wp_region_held_drew (S:=fun w'=>w'.cell? ⟨Y.y,6,none⟩ = some (.pointer (some ⟨Y.bs,0,none⟩)) /\ w'.cell? ⟨Y.y,7,none⟩ = some (.int .i64 root)) (by kernel_rfl) (HS.out _ _ h5) (fun hHeld=>?_)
  refine tk 0 ?_
  refine tk 1 ?_
  refine tk 2 ?_
  refine tk 3 ?_
  refine tk 4 ?_
  refine tk 5 ?_
  refine tk 6 ?_
  refine tk 7 ?_
  refine tk 8 ?_
  refine tk 9 ?_
  try simp only [Act.put,tA,tB,tC,tD,tE,tF]
  refine rd 10 rfl fun K hK=>?_
  go_simp
  go_at_call 69
  have h5' : own w3.drew (shL Y.bs Y.A m.F++(yT Y { m2 with job:=some (endM j well) }++(pts g (.cells #[.int .i64 root,.int .i64 0,.int .i64 (-1),.int .i64 0,.int .i64 0] 24 (0,0))::R))):=by rw [<- hf2]; exact h5
  refine (HWK.out _ _ _ h5').mono ?_
  rintro e w6 ⟨v,rfl,hx6,h6⟩
  obtain ⟨vo,vb,vof,vcap,rfl,-,-,-,-⟩:=(oM 0 h6 rfl).form
  rw [<- hf2] at h6
  have h7:=oY (Y:=Y) (m:={ m2 with job:=some (endM j well) }) h6
  go_simp
  refine hK.out _ _ (HS.out _ _ h7) (fun _=>?_)
  clear hK K h4 h5 h5' h6
  try simp only [Act.put,tA,tB,tC,tD,tE,tF]
  refine tk 11 ?_
  refine tk 12 ?_
  refine tk 13 ?_
  refine tk 14 ?_
  refine tk 15 ?_
  try simp only [Act.put,tA,tB,tC,tD,tE,tF]
  refine rd 16 rfl fun K hK=>?_
  have cl:=AK h7
  have fl:=Di h7 12
  have h8:=DD h7
  have hx8:=(hx5.trans hx6).setCell ⟨Y.y,12,none⟩ (.slice vo l.length vcap)
  have z6:=y_bs h8
  have z7:=yW h8
  rw [show ({ m2 with job:=some (endM j well),list:=l } : ld).dk = m2.dk from rfl,hdk] at z7
  go_simp
  refine hK.out _ _ ⟨z6,z7⟩ (fun _=>?_)
  clear hK K h7 cl fl
  try simp only [Act.put,tA,tB,tC,tD,tE,tF]
  refine tk 17 ?_
  try simp only [Act.put,tA,tB,tC,tD,tE,tF]
  refine wpAnyH_done (by kernel_rfl) ?_ _
  go_wp2_with fail
  go_ret
  rw [<- HRES.out]
  exact ⟨{ Y with v:=.slice vo l.length vcap },rfl,rfl,hx8,zC h8⟩
 ·rw [zt hc] at HRES
  rw [lu (e:=c) (by omega)]
  go_wp2_with fail
  go_ret
  rw [<- HRES.out]
  exact ⟨Y,rfl,by rw [lu (e:=c) (by omega)]; rfl,hxb.trans hx2,zC h2⟩
theorem FE (N : Nat) (Y : YA) (m : ld) (hm : YOk N m) (hN : N < 900000) (R : List SL.HP) (w : World) (H : own w (yL Y m R)) :
  Calls Tryz.prog 45 #[.pointer (some ⟨Y.y,0,none⟩)] w (yj Y (yQ m) R w):=by
 have HB:=zh (zH Y m R w H)
 generalize hres : yQ m = res
 unfold yQ at hres
 unfold yY at HB
 cases hj : m.job with
 | none=>
  rw [hj] at HB hres
  dsimp only at HB hres
  subst hres
  clear hj
  go_enter Tryz.func45,Tryz.ntmps45
  go_wp2_with fail
  refine HB.out.mono ?_
  rintro e w' ⟨rfl,rfl⟩
  go_wp2_with fail
  go_ret
  exact ⟨Y,rfl,rfl,zR _,H⟩
 | some j=>
  rw [hj] at HB hres
  dsimp only at HB hres
  by_cases h4 : 4 <= j.st
  ·rw [zt h4] at hres
   subst hres
   rw [zf (by omega)] at HB
   clear hj h4
   go_enter Tryz.func45,Tryz.ntmps45
   go_wp2_with fail
   refine HB.out.mono ?_
   rintro e w' ⟨rfl,rfl⟩
   go_wp2_with fail
   go_ret
   exact ⟨Y,rfl,rfl,zR _,H⟩
  ·rw [zq h4] at hres
   rw [zg (by omega)] at HB
   have cr:=yW H
   have hr:=hm.root5
   have htw:=hm.tp.2.1
   have htp:=hm.tp.2.2.1
   have HN:=zh (fun R' w' h=>BA m.dk.root R' w' h)
   have HO:=zh (fun R' w' h=>I1 Y m N hm.sh hN hm.tp.1 (by omega) (by omega) j hj m.dk.root hr (by rw [hm.walk]) false R' w' h)
   have HRES:=zh hres
   clear hj h4 hm hres hr htw htp
   go_enter Tryz.func45,Tryz.ntmps45
   go_wp2_with fail
   refine HB.out.mono ?_
   rintro e w' ⟨rfl,rfl⟩
   go_wp2_with fail
   refine (HN.out _ _ H).mono ?_
   rintro e w2 ⟨rfl,hx2,h2⟩
   clear cr
   go_wp2_with fail
   refine (HO.out _ _ h2).mono ?_
   rintro e w3 ⟨Y',hy,rfl,hx3,h3⟩
   go_wp2_with fail
   go_ret
   rw [<- HRES.out]
   exact ⟨Y',hy,rfl,hx2.trans hx3,h3⟩
end Go.Proofs.YtbpblokfiajpjabGreatDoor
namespace Go.Proofs.YtbpblokfiajpjabGreatDoor
open Go.RowKit Go.SL Go.Crc
structure Chn (F : ShM) (C : Int) (l : List Int) : Prop where
 file : ∀x∈l,lq F x
 cl : ∀x∈l,clus F x = C
 ch : Ch F l (-1)
theorem Chn.drop {F : ShM} {C : Int} {p l : List Int} (h : Chn F C (p++l)) : Chn F C l:=
 ⟨fun x hx=>h.file x (List.mem_append.2 (.inr hx)),fun x hx=>h.cl x (List.mem_append.2 (.inr hx)),Ch.tail h.ch⟩
theorem Oi {F : ShM} {root : Int} : ∀{s : List Int} {n : Nat} {l : List Int} {at_ : Int},s.length < n -> l.length + s.length <= 5 -> Chn F (clus F root) s -> at_ = s.headD (-1) -> oL F root n l at_ = (l++s,0):=by
 intro s
 induction s with
 | nil=>
  intro n l at_ hn _ _ ha
  obtain ⟨n,rfl⟩ : ∃q,n = q + 1:=⟨n - 1,by simp at hn; omega⟩
  replace ha : at_ = -1:=ha
  rw [oL,zt ha,List.append_nil]
 | cons x s ih=>
  intro n l at_ hn h5 hc ha
  obtain ⟨n,rfl⟩ : ∃q,n = q + 1:=⟨n - 1,by simp at hn; omega⟩
  have hx : at_ = x:=ha
  subst hx
  obtain ⟨h0,h1,m,hm⟩:=hc.file at_ (List.mem_cons_self ..)
  have hcx:=hc.cl at_ (List.mem_cons_self ..)
  have hcm : clus F at_ = m.c:=by unfold clus; rw [hm]
  have hb : bkOf F at_ = m.b:=by unfold bkOf; rw [hm]
  simp only [List.length_cons] at hn h5
  rw [oL,zq (by omega),zq (by omega),hm]
  dsimp only
  rw [zq (by omega),zq (by rw [<- hcm,hcx]; exact fun h=>h rfl)]
  rw [ih (by omega) (by simp; omega) (Chn.drop (p:=[at_]) hc) (by rw [<- hb]; exact hc.ch.1)]
  simp
theorem Ml {F : ShM} {root : Int} : ∀{n : Nat} {l : List Int} {at_ : Int},n + l.length = 6 -> l.length <= 5 -> Ch F l at_ -> (∀y∈l,lq F y /\ clus F y = clus F root) -> (oL F root n l at_).2 = 0 -> Chn F (clus F root) (oL F root n l at_).1:=by
 intro n
 induction n with
 | zero=>
  intro l at_ hn h5
  omega
 | succ n ih=>
  intro l at_ hn h5 hc hl
  rw [oL]
  split
  ·rename_i h1
   intro _
   rw [h1] at hc
   exact ⟨fun y hy=>(hl y hy).1,fun y hy=>(hl y hy).2,hc⟩
  ·split
   ·intro h; exact absurd h (by decide)
   ·split
    ·intro h; exact absurd h (by decide)
    ·rename_i h2 m hm
     split
     ·intro h; exact absurd h (by decide)
     ·split
      ·intro h; exact absurd h (by decide)
      ·rename_i h6 h7
       have hf : lq F at_:=⟨by omega,by omega,m,hm⟩
       have hcm : clus F at_ = m.c:=by unfold clus; rw [hm]
       refine ih (by simp; omega) (by simp; omega) ?_ ?_
       ·have:=Ch.snoc hc
        rw [show bkOf F at_ = m.b by unfold bkOf; rw [hm]] at this
        exact this
       ·intro y hy
        rcases List.mem_append.1 hy with h | h
        ·exact hl y h
        ·rw [List.mem_singleton.1 h]; exact ⟨hf,by rw [hcm]; exact Decidable.not_not.1 h7⟩
theorem Mb {F : ShM} {root : Int} : ∀{n : Nat} {l : List Int} {at_ : Int},(oL F root n l at_).2 = 0 -> ∃s,(oL F root n l at_).1 = l++s:=by
 intro n
 induction n with
 | zero=>intro l at_ _; exact ⟨[],by rw [oL]; simp⟩
 | succ n ih=>
  intro l at_
  rw [oL]
  split
  ·intro _; exact ⟨[],by simp⟩
  ·split
   ·intro h; exact absurd h (by decide)
   ·split
    ·intro h; exact absurd h (by decide)
    ·split
     ·intro h; exact absurd h (by decide)
     ·split
      ·intro h; exact absurd h (by decide)
      ·intro h
       obtain ⟨s,hs⟩:=ih h
       exact ⟨at_::s,by rw [hs]; simp⟩
theorem DL {F : ShM} {root : Int} (h : (lk F root).2 = 0) : Chn F (clus F root) (lk F root).1:=
 Ml rfl (by decide) trivial (fun y hy=>by cases hy) h
theorem Cf {F : ShM} {root : Int} {s : List Int} (h : Chn F (clus F root) (root::s)) (h5 : (root::s).length <= 5) : lk F root = (root::s,0):=by
 have h6:=Oi (n:=6) (l:=[]) (at_:=root) (by omega) (by simpa using h5) h rfl
 exact h6
theorem Ej {F : ShM} {root : Int} (hr : lq F root) (h : (lk F root).2 = 0) : ∃s,(lk F root).1 = root::s:=by
 obtain ⟨h0,h1,m,hm⟩:=hr
 have hcm : clus F root = m.c:=by unfold clus; rw [hm]
 unfold lk at h ⊢
 rw [show (6 : Nat) = 5 + 1 from rfl,oL,zq (by omega),zq (by omega),hm] at h ⊢
 dsimp only at h ⊢
 rw [zq (by simp),zq (by rw [hcm]; exact fun h=>h rfl)] at h ⊢
 obtain ⟨s,hs⟩:=Mb h
 exact ⟨s,by rw [hs]; rfl⟩
theorem Cr {F : ShM} {root : Int} : (lk F root).1.length <= 5:=GQ (by simp)
def shp (F : ShM) (k : Nat) : Option (Int×Int):=(F k).map fun i=>(i.c,i.b)
theorem Bs {F : ShM} {x : Int} : clus F x = match shp F x.toNat with | some p=>p.1 | none=>0:=by
 unfold clus shp
 cases F x.toNat <;> rfl
theorem BS {F : ShM} {x : Int} : bkOf F x = match shp F x.toNat with | some p=>p.2 | none=>-1:=by
 unfold bkOf shp
 cases F x.toNat <;> rfl
theorem Ga {F : ShM} {x : Int} : lq F x↔0 <= x /\ x < 5 /\ (shp F x.toNat).isSome = true:=by
 unfold lq shp
 rw [Option.isSome_map]
 constructor
 ·rintro ⟨h1,h2,m,hm⟩; exact ⟨h1,h2,by rw [hm]; rfl⟩
 ·rintro ⟨h1,h2,h3⟩; exact ⟨h1,h2,Option.isSome_iff_exists.1 h3⟩
theorem Chn.keep {F F' : ShM} {C : Int} : ∀{l : List Int},Chn F C l -> (∀x∈l,shp F' x.toNat = shp F x.toNat) -> Chn F' C l:=by
 intro l
 induction l with
 | nil=>intro _ _; exact ⟨fun x hx=>by (cases hx),fun x hx=>by (cases hx),trivial⟩
 | cons x l ih=>
  intro h hs
  have h2:=ih (Chn.drop (p:=[x]) h) fun y hy=>hs y (List.mem_cons_of_mem _ hy)
  have hx:=hs x (List.mem_cons_self ..)
  refine ⟨?_,?_,?_,h2.ch⟩
  ·intro y hy
   rcases List.mem_cons.1 hy with rfl | hy
   ·have:=h.file y (List.mem_cons_self ..)
    rw [Ga] at this ⊢
    rwa [hx]
   ·exact h2.file y hy
  ·intro y hy
   rcases List.mem_cons.1 hy with rfl | hy
   ·rw [<- h.cl y (List.mem_cons_self ..),Bs,Bs,hx]
   ·exact h2.cl y hy
  ·rw [<- h.ch.1,BS,BS,hx]
theorem Js {F F' : ShM} {root : Int} {l : List Int} (hr : lq F root) (h : lk F root = (l,0)) (hs : ∀x∈l,shp F' x.toNat = shp F x.toNat) : lk F' root = (l,0):=by
 have hc:=DL (F:=F) (root:=root) (by rw [h])
 obtain ⟨s,hl⟩:=Ej hr (by rw [h])
 have h5:=Cr (F:=F) (root:=root)
 rw [h] at hc hl h5
 dsimp only at hc hl h5
 subst hl
 have hcl : clus F' root = clus F root:=by rw [Bs,Bs,hs root (List.mem_cons_self ..)]
 exact Cf (by rw [hcl]; exact hc.keep hs) h5
def lT (F F' : ShM) : Prop:=∀k,k < 5 -> shp F' k = shp F k
theorem lT.refl (F : ShM) : lT F F:=fun _ _=>rfl
theorem lT.trans {F G H : ShM} (h : lT F G) (g : lT G H) : lT F H:=fun k hk=>(g k hk).trans (h k hk)
theorem lT.put {F : ShM} {k : Nat} {m m' : ImgM} (h : F k = some m) (hc : m'.c = m.c) (hb : m'.b = m.b) : lT F (put F k m'):=fun j hj=>by
 unfold shp Go.Proofs.YtbpblokfiajpjabGreatDoor.put
 by_cases e : j = k
 ·subst e; rw [zt rfl,h]; simp [hc,hb]
 ·rw [zq e]
theorem lT.file {F F' : ShM} (h : lT F F') {x : Int} : lq F' x↔lq F x:=by
 rw [Ga,Ga]
 constructor
 ·rintro ⟨a,b,c⟩; exact ⟨a,b,by rw [<- h x.toNat (by omega)]; exact c⟩
 ·rintro ⟨a,b,c⟩; exact ⟨a,b,by rw [h x.toNat (by omega)]; exact c⟩
theorem lT.none {F F' : ShM} (h : lT F F') {k : Nat} (hk : k < 5) : F' k = none↔F k = none:=by
 have:=h k hk
 unfold shp at this
 constructor
 ·intro e; rw [e] at this; cases h2 : F k with
  | none=>rfl
  | some i=>rw [h2] at this; cases this
 ·intro e; rw [e] at this; cases h2 : F' k with
  | none=>rfl
  | some i=>rw [h2] at this; cases this
theorem lT.clus {F F' : ShM} (h : lT F F') {x : Int} (hx : lq F x) : clus F' x = clus F x:=by
 rw [Bs,Bs,h x.toNat (by have:=hx.1; have:=hx.2.1; omega)]
theorem lC.same {n : Nat} {F F' : ShM} (s : lC n F F') : lT F F':=fun k hk=>by
 unfold shp
 cases e : F k with
 | none=>rw [s.no k e]
 | some i=>
  obtain ⟨i',h1,h2,h3⟩:=s.yes k i hk e
  rw [h1]
  simp [h2.c,h3]
theorem Fe (F : ShM) (k : Nat) : lT F (y9 F k):=by
 unfold y9
 cases e : F k with
 | none=>exact lT.refl F
 | some i=>exact lT.put e rfl rfl
theorem zU : ∀{l : List Int} {F : ShM},lT F (ox F l):=by
 intro l
 induction l with
 | nil=>intro F; exact lT.refl F
 | cons x l ih=>intro F; exact (Fe F x.toNat).trans ih
theorem Jf {F F' : ShM} (h : lT F F') {root : Int} {l : List Int} (hr : lq F root) (hw : lk F root = (l,0)) : lk F' root = (l,0):=by
 refine Js hr hw fun x hx=>?_
 have hc:=DL (F:=F) (root:=root) (by rw [hw])
 rw [hw] at hc
 obtain ⟨h0,h1,-⟩:=hc.file x hx
 exact h x.toNat (by omega)
end Go.Proofs.YtbpblokfiajpjabGreatDoor
