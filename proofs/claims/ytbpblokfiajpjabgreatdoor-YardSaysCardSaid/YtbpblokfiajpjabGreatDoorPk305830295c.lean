/- Lemmas on which YardSays stands: the texts Jobs1 Jobs2 Jobs3 Jobs4 Opens Chain16 Chain17. No conditions. -/
import Derived.Test.YtbpblokfiajpjabGreatDoorPk9ea3262784
import Derived.Lib.SmallJoins
set_option linter.all false
set_option maxRecDepth 1000000
set_option maxHeartbeats 32000000
namespace Go.Proofs.YtbpblokfiajpjabGreatDoor
open Go.RowKit Go.SL Go.Crc
attribute [local go_sem ↓] Go.wp_at_zero Go.wp_at_succ
def Gk (l n : Int) : Int:=if 0 <= n /\ n <= l then l - n else l
theorem PO {b : Nat} {r u l n : Int} {L : List SL.HP} (k : Nat) (w : World) (hl2 : l <= 1000) (H : own w L) (hk : L[k]? = some (Aw b r u l)) :
  Calls Tryz.prog 149 #[.pointer (some ⟨b,0,none⟩),.int .i64 n] w fun e w'=>e = .returned (.bool (decide (0 <= n /\ n <= l))) /\ Ext w w' /\ own w' (L.set k (Aw b r u (Gk l n))):=by
 refine (Pa b r u l n _ w hl2 (lu k H hk)).mono ?_
 rintro e w' ⟨h1,h2,h3⟩
 exact ⟨h1,h2,oo H k hk h3⟩
def Ko (r u l n : Int) : Int:=min u (l + n * r)
theorem VA {b : Nat} {r u l n : Int} {L : List SL.HP} (k : Nat) (w : World) (H : own w L) (hk : L[k]? = some (Aw b r u l)) (hl : 0 <= l) (hl2 : l <= 1000) (hr : 0 <= r) (hr2 : r <= 1000) (hu : u <= 1000) :
  Calls Tryz.prog 185 #[.pointer (some ⟨b,0,none⟩),.int .i64 n] w fun e w'=>e = .returned (errV (if 0 <= n /\ n <= 100000 then 0 else 1)) /\ Ext w w' /\ own w' (L.set k (Aw b r u (if 0 <= n /\ n <= 100000 then Ko r u l n else l))):=by
 refine (OW b r u l n _ w (lu k H hk) hl hl2 hr hr2 hu).mono ?_
 rintro e w' ⟨h1,h2,h3⟩
 exact ⟨h1,h2,oo H k hk h3⟩
theorem Tu {C : Array Value} {i j : Nat} (v : Value) (h : i≠j) : (C.setIfInBounds i v)[j]? = C[j]?:=by rw [Array.getElem?_setIfInBounds,zq h]
theorem Wc {C : Array Value} {i : Nat} (v : Value) (h : i < C.size) : (C.setIfInBounds i v)[i]? = some v:=by rw [Array.getElem?_setIfInBounds,zt rfl,zt h]
theorem VW (C : Array Value) (i : Nat) (v v' : Value) : (C.setIfInBounds i v).setIfInBounds i v' = C.setIfInBounds i v':=by
 refine Array.ext_getElem? fun q=>?_
 rw [Array.getElem?_setIfInBounds,Array.getElem?_setIfInBounds,Array.getElem?_setIfInBounds,Array.size_setIfInBounds]
 by_cases h : i = q
 ·simp [h]
 ·simp [h]
structure BkAt (C : Array Value) (o : Nat) (r u : Int) : Prop where
 r : C[o]? = some (.int .i64 r)
 u : C[o + 1]? = some (.int .i64 u)
 s : o + 2 < C.size
def bkB (b : Nat) (C : Array Value) (T : TypeId) (o : Nat) (l : Int) : SL.HP:=pts b (.cells (C.setIfInBounds (o + 2) (.int .i64 l)) T (0,0))
theorem Ij {w : World} {L : List SL.HP} {b o : Nat} {C : Array Value} {T : TypeId} {r u l : Int} (hb : BkAt C o r u) (k : Nat) (H : own w L) (hk : L[k]? = some (bkB b C T o l)) :
  w.cell? ⟨b,o,none⟩ = some (.int .i64 r) /\ w.cell? ⟨b,o + 1,none⟩ = some (.int .i64 u) /\ w.cell? ⟨b,o + 2,none⟩ = some (.int .i64 l) /\ w.frozen? ⟨b,o + 2,none⟩ = false:=by
 obtain ⟨c,f⟩:=ld k H hk
 exact ⟨by rw [c,Tu _ (by omega)]; exact hb.r,by rw [c,Tu _ (by omega)]; exact hb.u,by rw [c,Wc _ hb.s],f _⟩
theorem Pv {w : World} {L : List SL.HP} {b o : Nat} {C : Array Value} {T : TypeId} {l : Int} (l' : Int) (k : Nat) (H : own w L) (hk : L[k]? = some (bkB b C T o l)) :
  own (w.setCell ⟨b,o + 2,none⟩ (.int .i64 l')) (L.set k (bkB b C T o l')):=by
 have h:=lg (i:=o + 2) (v:=.int .i64 l') k H hk
 rw [VW] at h
 exact h
theorem ND {b o : Nat} {C : Array Value} {T : TypeId} {r u l n : Int} (hb : BkAt C o r u) {L : List SL.HP} (k : Nat) (w : World) (hl2 : l <= 1000) (H : own w L) (hk : L[k]? = some (bkB b C T o l)) :
  Calls Tryz.prog 180 #[.pointer (some ⟨b,o,none⟩),.int .i64 n] w fun e w'=>e = .returned (.bool (decide (0 <= n /\ n <= l))) /\ Ext w w' /\ own w' (L.set k (bkB b C T o (Gk l n))):=by
 obtain ⟨c0,c1,c2,f2⟩:=Ij hb k H hk
 unfold Gk
 by_cases h : 0 <= n /\ n <= l
 ·simp only [h,and_self,decide_true,if_true]
  obtain ⟨h1,h2⟩:=h
  go_enter Tryz.func180,Tryz.ntmps180
  go_wp2
  go_ret
  exact ⟨rfl,(zR _).setCell _ _,Pv _ k H hk⟩
 ·simp only [h,decide_false,if_false]
  go_enter Tryz.func180,Tryz.ntmps180
  go_wp2
  all_goals go_ret
  all_goals exact ⟨rfl,zR _,Dw H hk⟩
theorem Uv {b o : Nat} {C : Array Value} {T : TypeId} {r u l n : Int} (hb : BkAt C o r u) {L : List SL.HP} (kk : Nat) (w : World) (H : own w L) (hk : L[kk]? = some (bkB b C T o l)) (hn : 0 <= n) (hn2 : n <= 100000) (hl : 0 <= l) (hl2 : l <= u) (hr : 0 <= r) (hr2 : r <= 1000) (hu : u <= 1000) :
  Calls Tryz.prog 84 #[.pointer (some ⟨b,o,none⟩),.int .i64 n] w fun e w'=>e = .returned (.tuple #[]) /\ Ext w w' /\ own w' (L.set kk (bkB b C T o (Ko r u l n))):=by
 unfold Ko
 have hlen : kk < L.length:=(zS.1 hk).1
 have hgk : ∀P,(L.set kk P)[kk]? = some P:=fun P=>by simp [hlen]
 have hH : own w (L.set kk (bkB b C T o l)):=Dw H hk
 clear H hk
 go_enter Tryz.func84,Tryz.ntmps84
 go_wp2
 go_loopw [4] (fun i wr=>∃k : Nat,(k : Int) <= n /\ i = .int .i64 k /\ Ext w wr /\ own wr (L.set kk (bkB b C T o (min u (l + k * r))))) (fun i _=>n.toNat - (intOf i).toNat)
 case atStart=>exact ⟨0,by omega,rfl,zR _,by simpa [show min u l = l by omega] using hH⟩
 case round=>
  obtain ⟨k,hk,rfl,hext,hown⟩:=hrel
  obtain ⟨c0,c1,c2,f2⟩:=Ij hb kk hown (hgk _)
  have hkr : 0 <= (k : Int) * r:=Int.mul_nonneg (by omega) hr
  have hstop:=Vm u l r n k hk (by omega) hr hl2
  have hstep:=Vi u l r k hr
  have H1:=zh hstop
  have H2:=zh hstep
  clear hstop hstep
  by_cases hgo : (k : Int) < n /\ min u (l + k * r) < u /\ 0 < r
  ·obtain ⟨g1,g2,g3⟩:=hgo
   have H3:=zh (H2.out g2)
   have hlo : 0 <= min u (l + k * r):=by omega
   generalize min u (l + k * r) = m at *
   have e1 : IntKind.i64.wrap (m + r) = m + r:=zi _ (by omega)
   by_cases hmin : m + r < u
   all_goals
    go_wp2_with fail
    go_quiet (fail)
    go_wp2_with fail
    have hq:=ll nq hown
    have hxq:=hext.drewN nq
    clear c0 c1 c2 f2 hown hext
    generalize wr.drewN nq = wq at *
    obtain ⟨c0,c1,c2,f2⟩:=Ij hb kk hq (hgk _)
    go_still_tail 15,(by kernel_rfl)
    change wpList _ _ _ _ _ wq.drew
    go_wp2
    all_goals go_roundw
    case rel=>
     refine ⟨k + 1,by omega,by go_num,(hxq.setCell _ _).drew,?_⟩
     rw [show ((k + 1 : Nat) : Int) = (k : Int) + 1 by omega,<- H3.out]
     have hs:=lj (Pv (min u (m + r)) kk hq (hgk _))
     rw [List.set_set] at hs
     first
     | rw [show min u (m + r) = m + r by omega] at hs ⊢; exact hs
     | rw [show min u (m + r) = u by omega] at hs ⊢; exact hs
    case measure=>simp [intOf]; omega
  ·have H3:=zh (H1.out hgo)
   clear H1 H2
   have e4 : (((k : Int) < n) /\ ¬min u (l + k * r) < u) \/ (((k : Int) < n) /\ min u (l + k * r) < u /\ ¬0 < r) \/ ¬((k : Int) < n):=by omega
   generalize min u (l + k * r) = m at *
   rcases e4 with ⟨g1,g2⟩ | ⟨g1,g2,g3⟩ | g1
   ·have d1 : decide (m < u) = false:=zf g2
    go_wp2_with fail
    go_quiet (fail)
    go_wp2_with fail
    go_end0
    exact ⟨rfl,hext.drewN _,by rw [<- H3.out]; exact ll _ hown⟩
   ·have d1 : decide (0 < r) = false:=zf g3
    go_wp2_with fail
    go_quiet (fail)
    go_wp2_with fail
    go_end0
    exact ⟨rfl,hext.drewN _,by rw [<- H3.out]; exact ll _ hown⟩
   ·have d1 : decide ((k : Int) < n) = false:=zf g1
    go_wp2_with fail
    go_quiet (fail)
    go_wp2_with fail
    go_end0
    exact ⟨rfl,hext.drewN _,by rw [<- H3.out]; exact ll _ hown⟩
structure JobM where
 root : Int
 kind : Int
 file : Int
 rate : Int
 burst : Int
 list : List Int
 deep : Nat
 n : Nat
 x : Nat
 at_ : Nat
 st : Int
 level : Int
structure JobM.Ok (j : JobM) : Prop where
 kind : j.kind = 1 \/ j.kind = 2 \/ j.kind = 3
 n : j.n <= 64
 x : j.x < 2 ^ j.n
 len : j.list.length <= 5
 pos : j.list.length≠0
 deep : j.deep <= j.list.length
 rate : 0 <= j.rate /\ j.rate <= 1000
 burst : 0 <= j.burst /\ j.burst <= 1000
 level : 0 <= j.level /\ j.level <= j.burst
 at_ : j.at_ <= 200
 st : 1 <= j.st /\ j.st <= 5
theorem JobM.Ok.x64 {j : JobM} (h : j.Ok) : j.x < 2 ^ 64:=lt64 h.n h.x
def CJ (j : JobM) : Nat:=if j.kind = 1 then j.list.length else j.deep
def GG (j : JobM) : Nat:=if j.kind = 1 then 0 else j.deep
def cnt (x : Nat) : Nat:=Ones.popc 64 x
theorem S7 (x : Nat) : cnt x <= 64:=Ones.popc_le 64 x
theorem Gd (x : Nat) : Ones.popc 64 x = cnt x:=rfl
attribute [irreducible] cnt
def jobP (bs bj bt bb : Nat) (v : Value) (j : JobM) : SL.HP:=pts bj (.cells #[.pointer (some ⟨bs,0,none⟩),.int .i64 j.kind,.int .i64 j.file,v,.int .i64 (CJ j : Nat),.pointer (some ⟨bt,0,none⟩),.int .i64 (j.at_ : Nat),.int .i64 j.st,.pointer (some ⟨bb,0,none⟩)] 137 (0,0))
def jobL (bs bj bt bb : Nat) (v : Value) (j : JobM) : List SL.HP:=[jobP bs bj bt bb v j,D6 bt j.n j.x,Aw bb j.rate j.burst j.level]
def zu (j : JobM) : JobM:=if j.st = 1 /\ cnt j.x = 0 then { j with st:=3 } else if j.st = 3 /\ 0 < cnt j.x then { j with st:=1 } else j
theorem JR {j : JobM} (h : j.Ok) : (zu j).Ok:=by
 unfold zu
 split
 ·exact { h with st:=by simp }
 ·split
  ·exact { h with st:=by simp }
  ·exact h
theorem B7 (bs bj bt bb : Nat) (v : Value) (j : JobM) (hj : j.Ok) (L : List SL.HP) (w : World) (H : own w (jobL bs bj bt bb v j++L)) :
  Calls Tryz.prog 76 #[.pointer (some ⟨bj,0,none⟩)] w fun e w'=>e = .returned (.tuple #[]) /\ Ext w w' /\ own w' (jobL bs bj bt bb v (zu j)++L):=by
 obtain ⟨c,f⟩:=ld 0 H rfl
 have c5:=c 5
 have f7:=f 7
 have hs : ∀s : Int,own (w.setCell ⟨bj,7,none⟩ (.int .i64 s)) (jobL bs bj bt bb v { j with st:=s }++L):=fun s=>lg (i:=7) 0 H rfl
 have HC : ∀w',own w' (jobL bs bj bt bb v j++L) -> Calls Tryz.prog 88 #[.pointer (some ⟨bt,0,none⟩)] w' fun e w''=>e = .returned (.int .i64 (cnt j.x : Nat)) /\ w' = w'':=fun w' h=>by have:=Kj bt j.n j.x hj.x64 1 w' h rfl; rw [Gd] at this; exact this
 have HC:=zh HC
 have HS:=zh hs
 have HH:=zh H
 have hq:=S7 j.x
 clear hs
 unfold zu
 by_cases h1 : j.st = 1
 ·have c7 : w.cell? ⟨bj,7,none⟩ = some (.int .i64 1):=by rw [<- h1]; exact c 7
  by_cases h0 : cnt j.x = 0
  ·rw [zt ⟨h1,h0⟩]
   rw [h0] at HC
   clear c f h1 h0 hq H
   go_enter Tryz.func76,Tryz.ntmps76
   go_wp2_with fail
   refine (HC.out _ HH.out).mono ?_
   rintro e w' ⟨rfl,rfl⟩
   go_wp2_with fail
   go_end0
   exact ⟨rfl,(zR _).setCell _ _,HS.out 3⟩
  ·rw [zq (fun h=>h0 h.2),zq (by rw [h1]; intro h; exact absurd h.1 (by decide))]
   generalize cnt j.x = q at *
   have d0 : ((q : Int) == 0) = false:=by rw [zb]; omega
   clear c f h1 h0 hq H
   go_enter Tryz.func76,Tryz.ntmps76
   go_wp2_with fail
   refine (HC.out _ HH.out).mono ?_
   rintro e w' ⟨rfl,rfl⟩
   go_wp2_with fail
   go_end0
   exact ⟨rfl,zR _,HH.out⟩
 ·rw [zq (fun h=>h1 h.1)]
  by_cases h3 : j.st = 3
  ·have c7 : w.cell? ⟨bj,7,none⟩ = some (.int .i64 3):=by rw [<- h3]; exact c 7
   by_cases h0 : 0 < cnt j.x
   ·rw [zt ⟨h3,h0⟩]
    generalize cnt j.x = q at *
    have d0 : decide (0 < (q : Int)) = true:=zg (by omega)
    clear c f h1 h3 hq H
    go_enter Tryz.func76,Tryz.ntmps76
    go_wp2_with fail
    refine (HC.out _ HH.out).mono ?_
    rintro e w' ⟨rfl,rfl⟩
    go_wp2_with fail
    go_end0
    exact ⟨rfl,(zR _).setCell _ _,HS.out 1⟩
   ·rw [zq (fun h=>h0 h.2)]
    generalize cnt j.x = q at *
    have d0 : decide (0 < (q : Int)) = false:=zf (by omega)
    clear c f h1 h3 hq H
    go_enter Tryz.func76,Tryz.ntmps76
    go_wp2_with fail
    refine (HC.out _ HH.out).mono ?_
    rintro e w' ⟨rfl,rfl⟩
    go_wp2_with fail
    go_end0
    exact ⟨rfl,zR _,HH.out⟩
  ·rw [zq (fun h=>h3 h.1)]
   have c7:=c 7
   have d1 : (j.st == 1) = false:=by rw [zb]; exact h1
   have d3 : (j.st == 3) = false:=by rw [zb]; exact h3
   clear c f h1 h3 hq H
   go_enter Tryz.func76,Tryz.ntmps76
   go_wp2_with fail
   go_end0
   exact ⟨rfl,zR _,HH.out⟩
theorem IA (bs bj bt bb : Nat) (v : Value) (j : JobM) (L : List SL.HP) (w : World) (H : own w (jobL bs bj bt bb v j++L)) :
  Calls Tryz.prog 21 #[.pointer (some ⟨bj,0,none⟩)] w fun e w'=>e = .returned (.bool (decide (j.st < 4))) /\ w = w':=by
 have c7:=(ld 0 H rfl).1 7
 go_enter Tryz.func21,Tryz.ntmps21
 go_wp2_with fail
 go_ret
 exact ⟨rfl,rfl⟩
def endM (j : JobM) (well : Bool) : JobM:={ j with st:=if well then 4 else 5 }
theorem PD {j : JobM} (h : j.Ok) (b : Bool) : (endM j b).Ok:={ h with st:=by cases b <;> simp [endM] }
theorem MP (bs bj bt bb : Nat) (v : Value) (j : JobM) (well : Bool) (L : List SL.HP) (w : World) (H : own w (jobL bs bj bt bb v j++L)) :
  Calls Tryz.prog 87 #[.pointer (some ⟨bj,0,none⟩),.bool well] w fun e w'=>e = .returned (.tuple #[]) /\ Ext w w' /\ own w' (jobL bs bj bt bb v (endM j well)++L):=by
 have c7:=(ld 0 H rfl).1 7
 have f7:=(ld 0 H rfl).2 7
 have H1 : own (w.setCell ⟨bj,7,none⟩ (.int .i64 5)) (jobL bs bj bt bb v { j with st:=5 }++L):=lg (i:=7) 0 H rfl
 cases well
 ·go_enter Tryz.func87,Tryz.ntmps87
  go_wp2_with fail
  go_end0
  exact ⟨rfl,(zR _).setCell _ _,H1⟩
 ·have d7:=(ld 0 H1 rfl).1 7
  have g7:=(ld 0 H1 rfl).2 7
  have H2 : own ((w.setCell ⟨bj,7,none⟩ (.int .i64 5)).setCell ⟨bj,7,none⟩ (.int .i64 4)) (jobL bs bj bt bb v { j with st:=4 }++L):=lg (i:=7) 0 H1 rfl
  go_enter Tryz.func87,Tryz.ntmps87
  go_wp2_with fail
  go_end0
  exact ⟨rfl,((zR _).setCell _ _).setCell _ _,H2⟩
def BR (j : JobM) (n : Int) : JobM:=if 0 <= n /\ n <= 100000 then { j with level:=Ko j.rate j.burst j.level n } else j
theorem Uf {j : JobM} (h : j.Ok) (n : Int) : (BR j n).Ok:=by
 unfold BR
 split
 ·rename_i hn
  have:=h.level
  have h2 : 0 <= n * j.rate:=Int.mul_nonneg hn.1 h.rate.1
  exact { h with level:=by simp only [Ko]; omega }
 ·exact h
theorem Uh (bs bj bt bb : Nat) (v : Value) (j : JobM) (hj : j.Ok) (n : Int) (L : List SL.HP) (w : World) (H : own w (jobL bs bj bt bb v j++L)) :
  Calls Tryz.prog 83 #[.pointer (some ⟨bj,0,none⟩),.int .i64 n] w fun e w'=>e = .returned (errV (if 0 <= n /\ n <= 100000 then 0 else 1)) /\ Ext w w' /\ own w' (jobL bs bj bt bb v (BR j n)++L):=by
 have c8:=(ld 0 H rfl).1 8
 have hT:=VA (b:=bb) (r:=j.rate) (u:=j.burst) (l:=j.level) (n:=n) 2 w H rfl hj.level.1 (by have:=hj.level; have:=hj.burst; omega) hj.rate.1 hj.rate.2 hj.burst.2
 unfold BR
 by_cases hn : 0 <= n /\ n <= 100000
 all_goals
  first
  |rw [zt hn,zt hn] at hT
   rw [zt hn,zt hn]
  |rw [zq hn,zq hn] at hT
   rw [zq hn,zq hn]
  have HT:=zh hT
  clear hT hn
  go_enter Tryz.func83,Tryz.ntmps83
  go_wp2_with fail
  refine HT.out.mono ?_
  rintro e w' ⟨rfl,hx,h⟩
  go_wp2_with fail
  go_ret
  exact ⟨rfl,hx,h⟩
def zL (j : JobM) (c : Int) : JobM:=if j.st < 4 /\ j.kind≠2 then zu { j with x:=(og j.n j.x c true).2 } else j
theorem TH {j : JobM} (h : j.Ok) (c : Int) : (zL j c).Ok:=by
 unfold zL
 split
 ·exact JR { h with x:=F5 h.n h.x c true }
 ·exact h
theorem Qz (bs bj bt bb : Nat) (v : Value) (j : JobM) (hj : j.Ok) (c : Int) (L : List SL.HP) (w : World) (H : own w (jobL bs bj bt bb v j++L)) :
  Calls Tryz.prog 80 #[.pointer (some ⟨bj,0,none⟩),.int .i64 c] w fun e w'=>e = .returned (.tuple #[]) /\ Ext w w' /\ own w' (jobL bs bj bt bb v (zL j c)++L):=by
 have hG:=IA bs bj bt bb v j L w H
 have c1:=(ld 0 H rfl).1 1
 have c5:=(ld 0 H rfl).1 5
 unfold zL
 by_cases h4 : j.st < 4
 ·rw [zg h4] at hG
  have HG:=zh hG
  by_cases h2 : j.kind = 2
  ·rw [zq (fun h=>h.2 h2)]
   have d2 : w.cell? ⟨bj,1,none⟩ = some (.int .i64 2):=by rw [<- h2]; exact c1
   clear hG c1
   go_enter Tryz.func80,Tryz.ntmps80
   go_wp2_with fail
   refine HG.out.mono ?_
   rintro e w' ⟨rfl,rfl⟩
   go_wp2_with fail
   refine bodyPost_ret (results_none rfl _ _ _) rfl ?_
   exact ⟨rfl,zR _,H⟩
  ·rw [zt ⟨h4,h2⟩]
   have d2 : (j.kind == 2) = false:=by rw [zb]; exact h2
   have HP:=zh (Du bt j.n j.x hj.n hj.x c true 1 w H rfl)
   have HT:=zh (fun w' h=>B7 bs bj bt bb v { j with x:=(og j.n j.x c true).2 } { hj with x:=F5 hj.n hj.x c true } L w' h)
   clear hG
   go_enter Tryz.func80,Tryz.ntmps80
   go_wp2_with fail
   refine HG.out.mono ?_
   rintro e w' ⟨rfl,rfl⟩
   go_wp2_with fail
   refine HP.out.mono ?_
   rintro e w2 ⟨rfl,hx2,h2'⟩
   have h3 : own w2 (jobL bs bj bt bb v { j with x:=(og j.n j.x c true).2 }++L):=h2'
   go_wp2_with fail
   refine (HT.out w2 h3).mono ?_
   rintro e w3 ⟨rfl,hx3,h4'⟩
   go_wp2_with fail
   go_end0
   exact ⟨rfl,hx2.trans hx3,h4'⟩
 ·rw [zf h4] at hG
  have HG:=zh hG
  rw [zq (fun h=>h4 h.1)]
  clear hG
  go_enter Tryz.func80,Tryz.ntmps80
  go_wp2_with fail
  refine HG.out.mono ?_
  rintro e w' ⟨rfl,rfl⟩
  go_wp2_with fail
  refine bodyPost_ret (results_none rfl _ _ _) rfl ?_
  exact ⟨rfl,zR _,H⟩
def yU (j : JobM) (on : Bool) : Int×JobM:=
 if on then (if j.st = 1 \/ j.st = 3 then (0,{ j with st:=2 }) else (9,j))
 else (if j.st = 2 then (0,zu { j with st:=1 }) else (9,j))
theorem LD {j : JobM} (h : j.Ok) (on : Bool) : (yU j on).2.Ok:=by
 unfold yU
 split
 ·split
  ·exact { h with st:=by simp }
  ·exact h
 ·split
  ·exact JR (j:={ j with st:=1 }) { h with st:=by simp }
  ·exact h
theorem K4 (bs bj bt bb : Nat) (v : Value) (j : JobM) (hj : j.Ok) (on : Bool) (L : List SL.HP) (w : World) (H : own w (jobL bs bj bt bb v j++L)) :
  Calls Tryz.prog 57 #[.pointer (some ⟨bj,0,none⟩),.bool on] w fun e w'=>e = .returned (errV (yU j on).1) /\ Ext w w' /\ own w' (jobL bs bj bt bb v (yU j on).2++L):=by
 have c7:=(ld 0 H rfl).1 7
 have f7:=(ld 0 H rfl).2 7
 have hs : ∀s : Int,own (w.setCell ⟨bj,7,none⟩ (.int .i64 s)) (jobL bs bj bt bb v { j with st:=s }++L):=fun s=>lg (i:=7) 0 H rfl
 have H1:=hs 1
 have H2:=hs 2
 have HT:=zh (fun w' h=>B7 bs bj bt bb v { j with st:=1 } { hj with st:=by simp } L w' h)
 clear hs
 unfold yU
 cases on
 ·rw [zq (by decide)]
  by_cases h2 : j.st = 2
  ·rw [zt h2]
   have d2 : w.cell? ⟨bj,7,none⟩ = some (.int .i64 2):=by rw [<- h2]; exact c7
   clear c7 h2
   go_enter Tryz.func57,Tryz.ntmps57
   go_wp2_with fail
   refine (HT.out _ H1).mono ?_
   rintro e w' ⟨rfl,hx,h⟩
   go_wp2_with fail
   go_ret
   exact ⟨rfl,((zR _).setCell _ _).trans hx,h⟩
  ·rw [zq h2]
   have d2 : (j.st == 2) = false:=by rw [zb]; exact h2
   clear h2
   go_enter Tryz.func57,Tryz.ntmps57
   go_wp2_with fail
   go_ret
   exact ⟨rfl,zR _,H⟩
 ·rw [zt rfl]
  by_cases h1 : j.st = 1
  ·rw [zt (.inl h1)]
   have d2 : w.cell? ⟨bj,7,none⟩ = some (.int .i64 1):=by rw [<- h1]; exact c7
   clear c7 h1
   go_enter Tryz.func57,Tryz.ntmps57
   go_wp2_with fail
   go_ret
   exact ⟨rfl,(zR _).setCell _ _,H2⟩
  ·have d1 : (j.st == 1) = false:=by rw [zb]; exact h1
   by_cases h3 : j.st = 3
   ·rw [zt (.inr h3)]
    have d2 : w.cell? ⟨bj,7,none⟩ = some (.int .i64 3):=by rw [<- h3]; exact c7
    clear c7 h1 h3 d1
    go_enter Tryz.func57,Tryz.ntmps57
    go_wp2_with fail
    go_ret
    exact ⟨rfl,(zR _).setCell _ _,H2⟩
   ·rw [zq (by rintro (h | h); exact h1 h; exact h3 h)]
    have d3 : (j.st == 3) = false:=by rw [zb]; exact h3
    clear h1 h3
    go_enter Tryz.func57,Tryz.ntmps57
    go_wp2_with fail
    go_ret
    exact ⟨rfl,zR _,H⟩
theorem lS.take {w : World} {ao : Option Addr} {n cap : Nat} {l : List Int} (h : lS w (.slice ao n cap) l) (d : Nat) (hd : d <= l.length) : lS w (.slice ao d cap) (l.take d):=by
 obtain ⟨ao',b,off,cap',hv,h1,h2,h3,h4⟩:=h.form
 simp only [Value.slice.injEq] at hv
 obtain ⟨rfl,rfl,rfl⟩:=hv
 have hlen : (l.take d).length = d:=by simp; omega
 refine ⟨ao,b,off,cap,by rw [hlen],by omega,h2,fun h0=>h3 (by omega),fun i hi=>?_⟩
 have hi2 : i < d:=by omega
 have:=h4 i (by omega)
 dsimp only
 rw [this]
 simp [List.getElem?_take,hi2]
def ya (F : ShM) (j : JobM) (c : Int) : Bool:=if j.kind = 1 then true else if j.kind = 2 then decide (0 < yw F (j.list.take j.deep) c) else decide (0 <= yw F (j.list.take j.deep) c)
theorem Dp (bs : Nat) (A : Nat -> Nat×Nat×Nat) (F : ShM) (hF : ShOk F) (bj bt bb : Nat) (v : Value) (j : JobM) (hj : j.Ok) (hl : ∀x∈j.list,ly F x) (c : Int) (R : List SL.HP) (w : World)
  (hv : ∀w' L,own w' (L++R) -> lS w' v j.list) (H : own w (shL bs A F++(jobL bs bj bt bb v j++R))) :
  Calls Tryz.prog 75 #[.pointer (some ⟨bj,0,none⟩),.int .i64 c] w fun e w'=>e = .returned (.bool (ya F j c)) /\ ∃n,w' = w.drewN n:=by
 have hvw:=yO hv (jobL bs bj bt bb v j)
 obtain ⟨ao,lb,off,cap,rfl,hlc,hcap,hao,-⟩:=(hvw w _ H).form
 have hd : CJ j <= j.list.length:=by unfold CJ; split; exact Nat.le_refl _; exact hj.deep
 have hf : ∀w',own w' (shL bs A F++(jobL bs bj bt bb (.slice ao j.list.length cap) j++R)) -> Calls Tryz.prog 152 #[.pointer (some ⟨bs,0,none⟩),.slice ao (CJ j) cap,.int .i64 c] w' fun e w''=>e = .returned (.int .i64 (yw F (j.list.take (CJ j)) c)) /\ w' = w'':=fun w' h=>
  LF bs A F hF _ _ (fun x hx=>hl x (List.mem_of_mem_take hx)) (by rw [List.length_take]; have:=hj.len; omega) c _ w' ((hvw w' _ h).take _ hd) h
 obtain ⟨cc,-⟩:=ld 6 H rfl
 have c0:=cc 0
 have c1:=cc 1
 have c3:=cc 3
 have c4:=cc 4
 have i1 : (0 : Int) <= (CJ j : Nat):=by omega
 have i2 : ((CJ j : Nat) : Int) <= (cap : Int):=by omega
 have hr : ya F j c = if j.kind = 1 then true else if j.kind = 2 then decide (0 < yw F (j.list.take (CJ j)) c) else decide (0 <= yw F (j.list.take (CJ j)) c):=by
  unfold ya CJ
  by_cases h : j.kind = 1
  ·rw [zt h,zt h]
  ·rw [zq h,zq h,zq h]
 rw [hr]
 have hk:=hj.kind
 have HF:=zh hf
 have HOW:=zh H
 generalize yw F (j.list.take (CJ j)) c = fi at *
 generalize CJ j = dp at *
 have hkk : ∀n,(w.drewN n).cell? ⟨bj,1,none⟩ = some (.int .i64 j.kind):=fun n=>c1
 clear hr hf hl hv hvw hao H cc hd hlc c1
 generalize j.kind = kd at *
 rcases hk with rfl | rfl | rfl
 all_goals
  first
  | rw [zt rfl]
  | rw [zq (by decide),zt rfl]
  | rw [zq (by decide),zq (by decide)]
  go_enter Tryz.func75,Tryz.ntmps75
  go_upto_region 1 with (fail)
  go_quiet ((go_at_call 152; exact Calls.quiet_of_same ((HF.out _ (by first | exact HOW.out | exact lj HOW.out | exact ll _ HOW.out)).mono fun e w' h=>⟨h.1,h.2.symm⟩)))
  have k1:=hkk nq
  clear hkk c0 c3 c4
  go_wp2_with fail
  go_ret
  exact ⟨rfl,_,rfl⟩
def C0 (j : JobM) : Value:=.agg #[.int .i64 j.kind,.int .i64 j.file,.int .i64 j.st,.int .i64 (cnt j.x : Nat)]
theorem AQ {fn : Func} {t : Tmp} (h : fn.results = #[.cell t 47]) (tmps : Array Value) (w : World) (g : Nat) (a b c d : Int) (hg : tmps.getD t undef = .pointer (some ⟨g,0,none⟩))
  (h0 : w.cell? ⟨g,0,none⟩ = some (.int .i64 a)) (h1 : w.cell? ⟨g,1,none⟩ = some (.int .i64 b)) (h2 : w.cell? ⟨g,2,none⟩ = some (.int .i64 c)) (h3 : w.cell? ⟨g,3,none⟩ = some (.int .i64 d)) :
  (results fn tmps).run Tryz.prog w = .ok (.agg #[.int .i64 a,.int .i64 b,.int .i64 c,.int .i64 d]) w:=by
 rw [Eo h,hg]
 go_simp
theorem Jx (bs bj bt bb : Nat) (v : Value) (j : JobM) (hj : j.Ok) (L : List SL.HP) (w : World) (H : own w (jobL bs bj bt bb v j++L)) :
  Calls Tryz.prog 19 #[.pointer (some ⟨bj,0,none⟩)] w fun e w'=>e = .returned (C0 j) /\ Ext w w' /\ own w' (jobL bs bj bt bb v j++L):=by
 have ha:=li H (.cells #[.int .i64 0,.int .i64 0,.int .i64 0,.int .i64 0] 47)
 have hxa:=(zR w).alloc (.cells #[.int .i64 0,.int .i64 0,.int .i64 0,.int .i64 0] 47)
 have hc : ∀g w',own w' (pts g (.cells #[.int .i64 0,.int .i64 0,.int .i64 0,.int .i64 0] 47 (0,0))::(jobL bs bj bt bb v j++L)) -> Calls Tryz.prog 88 #[.pointer (some ⟨bt,0,none⟩)] w' fun e w''=>e = .returned (.int .i64 (cnt j.x : Nat)) /\ w' = w'':=
  fun g w' h=>by have:=Kj bt j.n j.x hj.x64 2 w' h rfl; rw [Gd] at this; exact this
 have HC:=zh hc
 unfold C0
 generalize cnt j.x = q at *
 clear hc H
 go_enter Tryz.func19,Tryz.ntmps19
 go_upto_region 1 with (fail)
 generalize w.heap.size = g at *
 generalize w.alloc (.cells #[.int .i64 0,.int .i64 0,.int .i64 0,.int .i64 0] 47) = w1 at *
 obtain ⟨cc,ff⟩:=ld 1 ha rfl
 have c1:=cc 1
 have c2:=cc 2
 have c5:=cc 5
 have c7:=cc 7
 clear cc ff
 have hb:=lj ha
 have hxb:=hxa.drew
 have hcq:=(HC.out _ _ hb).mono fun e w' h=>(⟨h.1,h.2.symm⟩ : e = .returned (.int .i64 (q : Int)) /\ w' = w1.drew)
 go_still_tail 18,(by kernel_rfl)
 still_call hcq
 repeat still_step
 refine wpStill_nil ?_
 change wpList _ _ _ _ _ w1.drew
 clear ha hxa c1 c2 c5 c7 hcq
 generalize w1.drew = w2 at *
 obtain ⟨cg,fg⟩:=ld 0 hb rfl
 go_wp2_with fail
 have h5:=lg (i:=3) (v:=.int .i64 (q : Int)) 0 (lg (i:=2) (v:=.int .i64 j.st) 0 (lg (i:=1) (v:=.int .i64 j.file) 0 (lg (i:=0) (v:=.int .i64 j.kind) 0 hb rfl) rfl) rfl) rfl
 obtain ⟨c3,-⟩:=ld 0 h5 rfl
 refine bodyPost_ret (AQ rfl _ _ g j.kind j.file j.st (q : Int) rfl (c3 0) (c3 1) (c3 2) (c3 3)) rfl ?_
 exact ⟨rfl,(((hxb.setCell _ _).setCell _ _).setCell _ _).setCell _ _,le h5⟩
structure JobS (F : ShM) (j : JobM) : Prop where
 list : ∀x∈j.list,ly F x
 file : j.kind≠2 -> ly F j.file
def toM (j : JobM) : Int:=if j.kind = 2 then j.list.getD 0 0 else j.file
theorem JL {F : ShM} {j : JobM} (hj : j.Ok) (h : JobS F j) : ly F (toM j):=by
 unfold toM
 split
 ·exact h.list _ (mem0 hj.pos)
 ·rename_i h2; exact h.file h2
theorem JobS.step {F F' : ShM} {j : JobM} {n : Nat} (h : JobS F j) (s : lL n F F') : JobS F' j:=⟨fun x hx=>s.file (h.list x hx),fun h2=>s.file (h.file h2)⟩
theorem KX {F : ShM} (hF : ShOk F) {l : List Int} (hl : ∀x∈l,ly F x) (c : Int) : (oG F l c).1.size <= 64:=by
 by_cases h0 : l.length = 0
 ·unfold oG; rw [zt h0]; exact Nat.zero_le _
 ·by_cases hc : EK F (l.getD 0 0) c = true
  ·rw [(Dv hF hl h0 hc).2]; exact Nat.le_refl _
  ·unfold oG; rw [zq h0,zt (by simpa using hc)]; exact Nat.zero_le _
def Am (F : ShM) (j : JobM) (c : Int) : Int×ShM:=
 if ya F j c = false then (0,F) else if (oG F j.list c).2≠0 then ((oG F j.list c).2,F) else Bj F (toM j).toNat c (oG F j.list c).1
theorem Jj {F : ShM} (hF : ShOk F) {j : JobM} (hj : j.Ok) (h : JobS F j) (c : Int) : lL 5 F (Am F j c).2:=by
 unfold Am
 split
 ·exact lL.refl hF 5
 ·split
  ·exact lL.refl hF 5
  ·obtain ⟨h0,h1,-⟩:=JL hj h
   exact Sm hF (by omega) c _
theorem Je (F : ShM) (j : JobM) (c : Int) : 0 <= (Am F j c).1:=by
 unfold Am
 split
 ·simp
 ·split
  ·exact Gs F _ _
  ·exact GV F _ _ _
theorem SQ (bs : Nat) (A : Nat -> Nat×Nat×Nat) (F : ShM) (hF : ShOk F) (bj bt bb : Nat) (v : Value) (j : JobM) (hj : j.Ok) (hS : JobS F j) (c : Int) (R : List SL.HP) (w : World)
  (hv : ∀w' L,own w' (L++R) -> lS w' v j.list) (H : own w (shL bs A F++(jobL bs bj bt bb v j++R))) :
  Calls Tryz.prog 150 #[.pointer (some ⟨bj,0,none⟩),.int .i64 c] w fun e w'=>e = .returned (errV (Am F j c).1) /\ Ext w w' /\ own w' (shL bs A (Am F j c).2++(jobL bs bj bt bb v j++R)):=by
 have HW:=zh (Dp bs A F hF bj bt bb v j hj hS.list c R w hv H)
 have hvw:=yO hv (jobL bs bj bt bb v j)
 have HR:=zh (fun w' h=>GI bs A F hF v j.list hS.list hj.len c (jobL bs bj bt bb v j++R) w' hvw h)
 have hto:=JL hj hS
 obtain ⟨k,m,hxk,hk,hFk⟩:=lT hto
 have hsz:=KX hF hS.list c
 have HM:=zh (fun w' h=>TA bs A F hF k m hk hFk c (oG F j.list c).1 (by omega) (jobL bs bj bt bb v j++R) w' h)
 have e0 : Am F j c = if ya F j c = false then (0,F) else if (oG F j.list c).2≠0 then ((oG F j.list c).2,F) else Bj F k c (oG F j.list c).1:=by
  unfold Am; rw [hxk,zn]
 have hcode:=Gs F j.list c
 have hmc:=GV F k c (oG F j.list c).1
 rw [e0]
 generalize oG F j.list c = rd at *
 obtain ⟨t,rc⟩:=rd
 dsimp only at *
 generalize Bj F k c t = mv at *
 obtain ⟨mc,F'⟩:=mv
 dsimp only at *
 have HOW:=zh H
 clear e0 hFk hsz hto
 cases hw : ya F j c
 ·rw [hw] at HW
  rw [zt rfl]
  clear hw
  go_enter Tryz.func150,Tryz.ntmps150
  go_wp2_with fail
  refine HW.out.mono ?_
  rintro e w2 ⟨rfl,n2,rfl⟩
  go_wp2_with fail
  go_ret
  exact ⟨rfl,(zR _).drewN _,ll _ HOW.out⟩
 ·rw [hw] at HW
  rw [zq (by decide)]
  obtain ⟨ao,lb,off,cap,rfl,hlc,hcap,hao,-⟩:=(hvw w _ H).form
  obtain rfl:=hao (by have:=hj.pos; omega)
  have HV:=zh hvw
  have hpos : 0 < j.list.length:=by have:=hj.pos; omega
  have hlen : j.list.length <= cap:=hlc
  unfold toM at hxk
  clear hw hlc hao hvw hv
  by_cases hrc : rc = 0
  ·subst hrc
   rw [zq (by decide)]
   by_cases hkd : j.kind = 2
   ·rw [zt hkd] at hxk
    have HX:=zh hxk
    have HKD:=zh hkd
    rw [show errV 0 = .nilIface from rfl] at HR
    have l0 : (0 : Int) < (j.list.length : Int):=by omega
    clear hxk hkd
    go_enter Tryz.func150,Tryz.ntmps150
    go_wp2_with fail
    refine HW.out.mono ?_
    rintro e w2 ⟨rfl,n2,rfl⟩
    have h2:=ll n2 H
    have hx2:=(zR w).drewN n2
    clear H
    generalize w.drewN n2 = w3 at *
    go_upto_region 3 with (fail)
    have hd:=lj h2
    have hxd:=hx2.drew
    clear h2 hx2
    go_region_held3 (fun w'=>w'.cell? ⟨bj,0,none⟩ = some (.pointer (some ⟨bs,0,none⟩)) /\ w'.cell? ⟨bj,3,none⟩ = some (.slice (some ⟨lb,off,none⟩) j.list.length cap)) (first | exact ⟨(ld 6 hd rfl).1 0,(ld 6 hd rfl).1 3⟩ | exact ⟨(ld 6 h4 rfl).1 0,(ld 6 h4 rfl).1 3⟩) ((go_at_call 59; refine (HR.out _ hd).mono ?_; rintro e w4 ⟨rfl,hx4,h4⟩))
    have hx5:=hxd.trans hx4
    clear hd hxd hx4
    have c0:=(ld 6 h4 rfl).1 0
    have c1 : w4.cell? ⟨bj,1,none⟩ = some (.int .i64 2):=by rw [<- HKD.out]; exact (ld 6 h4 rfl).1 1
    have c2:=(ld 6 h4 rfl).1 2
    have c3:=(ld 6 h4 rfl).1 3
    have c9 : w4.cell? ⟨lb,off,none⟩ = some (.int .i64 (k : Int)):=by rw [<- HX.out]; exact oq (HV.out _ _ h4) hpos
    go_wp2_with fail
    refine (HM.out _ h4).mono ?_
    rintro e w5 ⟨rfl,hx6,h6⟩
    go_wp2_with fail
    go_ret
    exact ⟨rfl,hx5.trans hx6,h6⟩
   ·rw [zq hkd] at hxk
    have HX:=zh hxk
    have d2 : (j.kind == 2) = false:=by rw [zb]; exact hkd
    rw [show errV 0 = .nilIface from rfl] at HR
    clear hxk hkd
    go_enter Tryz.func150,Tryz.ntmps150
    go_wp2_with fail
    refine HW.out.mono ?_
    rintro e w2 ⟨rfl,n2,rfl⟩
    have h2:=ll n2 H
    have hx2:=(zR w).drewN n2
    clear H
    generalize w.drewN n2 = w3 at *
    go_upto_region 3 with (fail)
    have hd:=lj h2
    have hxd:=hx2.drew
    clear h2 hx2
    go_region_held3 (fun w'=>w'.cell? ⟨bj,0,none⟩ = some (.pointer (some ⟨bs,0,none⟩)) /\ w'.cell? ⟨bj,3,none⟩ = some (.slice (some ⟨lb,off,none⟩) j.list.length cap)) (first | exact ⟨(ld 6 hd rfl).1 0,(ld 6 hd rfl).1 3⟩ | exact ⟨(ld 6 h4 rfl).1 0,(ld 6 h4 rfl).1 3⟩) ((go_at_call 59; refine (HR.out _ hd).mono ?_; rintro e w4 ⟨rfl,hx4,h4⟩))
    have hx5:=hxd.trans hx4
    clear hd hxd hx4
    have c0:=(ld 6 h4 rfl).1 0
    have c1:=(ld 6 h4 rfl).1 1
    have c2 : w4.cell? ⟨bj,2,none⟩ = some (.int .i64 (k : Int)):=by rw [<- HX.out]; exact (ld 6 h4 rfl).1 2
    go_wp2_with fail
    refine (HM.out _ h4).mono ?_
    rintro e w5 ⟨rfl,hx6,h6⟩
    go_wp2_with fail
    go_ret
    exact ⟨rfl,hx5.trans hx6,h6⟩
  ·rw [zt hrc]
   have hp : 0 < rc:=by omega
   rw [lx hp] at HR ⊢
   clear hxk hrc
   go_enter Tryz.func150,Tryz.ntmps150
   go_wp2_with fail
   refine HW.out.mono ?_
   rintro e w2 ⟨rfl,n2,rfl⟩
   have h2:=ll n2 H
   have hx2:=(zR w).drewN n2
   clear H
   generalize w.drewN n2 = w3 at *
   go_upto_region 3 with (fail)
   have hd:=lj h2
   have hxd:=hx2.drew
   clear h2 hx2
   go_region_held3 (fun w'=>w'.cell? ⟨bj,0,none⟩ = some (.pointer (some ⟨bs,0,none⟩)) /\ w'.cell? ⟨bj,3,none⟩ = some (.slice (some ⟨lb,off,none⟩) j.list.length cap)) (first | exact ⟨(ld 6 hd rfl).1 0,(ld 6 hd rfl).1 3⟩ | exact ⟨(ld 6 h4 rfl).1 0,(ld 6 h4 rfl).1 3⟩) ((go_at_call 59; refine (HR.out _ hd).mono ?_; rintro e w4 ⟨rfl,hx4,h4⟩))
   have hx5:=hxd.trans hx4
   clear hd hxd hx4
   go_wp2_with fail
   go_ret
   exact ⟨rfl,hx5,h4⟩
end Go.Proofs.YtbpblokfiajpjabGreatDoor
namespace Go.Proofs.YtbpblokfiajpjabGreatDoor
open Go.RowKit Go.SL Go.Deep Go.ChangeShapes Go.WideShapes Go.Joins
section
variable {H : Type} {enc : TypeId×Value -> H} {w : World} {base : Nat} {spare : Nat -> Bool} {held : Bool}
end
end Go.Proofs.YtbpblokfiajpjabGreatDoor
namespace Go.Proofs.YtbpblokfiajpjabGreatDoor
open Go.RowKit Go.SL Go.Crc Go.Deep Go.ChangeShapes Go.WideShapes
attribute [local go_sem ↓] Go.wp_at_zero Go.wp_at_succ
structure Vs where
 there : Bool
 c : Int
 p : Int
 b : Int
 iv : Value
 is : List Int
def U3 : Vs:=⟨false,0,0,0,.slice none 0 0,[]⟩
instance : Inhabited Vs:=⟨U3⟩
section
variable {H : Type} {enc : TypeId×Value -> H} {w : World} {base : Nat} {spare : Nat -> Bool} {held : Bool}
end
end Go.Proofs.YtbpblokfiajpjabGreatDoor
namespace Go.Proofs.YtbpblokfiajpjabGreatDoor
open Go.RowKit Go.SL Go.Crc
attribute [local go_sem ↓] Go.wp_at_zero Go.wp_at_succ
theorem yy {w : World} {L : List HP} (H : own w L) : own w (emp::L):=
 zc (l:=L) (fun h hh=>⟨fun _=>none,h,fun _=>.inl ⟨rfl,rfl⟩,fun _=>rfl,hh⟩) H
def setA {α : Type} (A : Nat -> α) (k : Nat) (x : α) : Nat -> α:=fun j=>if j = k then x else A j
theorem DE {α : Type} (A : Nat -> α) (k : Nat) (x : α) : setA A k x k = x:=zt rfl
theorem Cn {α : Type} (A : Nat -> α) {k j : Nat} (x : α) (h : j≠k) : setA A k x j = A j:=zq h
theorem WA {w : World} {b bi bd bh k : Nat} {A : Nat -> Nat×Nat×Nat} {F : ShM} {m : ImgM} {R : List SL.HP} (hk : k < 5) (hF : F k = none) (H : own w (lP bi bd bh m::lm bd m.d::(shL b A F++R))) :
  own (w.setCell ⟨b,k,none⟩ (.pointer (some ⟨bi,0,none⟩))) (shL b (setA A k (bi,bd,bh)) (put F k m)++R):=by
 have h1:=lg (i:=k) (v:=.pointer (some ⟨bi,0,none⟩)) 2 H rfl
 have h2:=yK [lP bi bd bh m,lm bd m.d] h1
 have hs : ∀j,j≠k -> oJ (setA A k (bi,bd,bh)) (put F k m) j = oJ A F j:=fun j hj=>by unfold oJ; rw [AX F m hj,Cn A _ hj]
 have hv : ∀j,j≠k -> yB (setA A k (bi,bd,bh)) (put F k m) j = yB A F j:=fun j hj=>by unfold yB; rw [AX F m hj,Cn A _ hj]
 have hs' : oJ (setA A k (bi,bd,bh)) (put F k m) k = star [lP bi bd bh m,lm bd m.d]:=by unfold oJ; rw [zK,DE]
 have hv' : yB (setA A k (bi,bd,bh)) (put F k m) k = .pointer (some ⟨bi,0,none⟩):=by unfold yB; rw [zK,DE]
 have hg : ∀P0 : SL.HP,(P0::oJ A F 0::oJ A F 1::oJ A F 2::oJ A F 3::oJ A F 4::R)[1 + k]? = some (oJ A F k):=fun P0=>by
  rcases k with _ | _ | _ | _ | _ | k
  ·rfl
  ·rfl
  ·rfl
  ·rfl
  ·rfl
  ·omega
 have h3:=oo (le h2) (1 + k) (hg _) (lh ((1 + k) + 1) h2 (hg _))
 refine (congrArg (own _) ?_).mp h3
 rcases k with _ | _ | _ | _ | _ | k
 case succ.succ.succ.succ.succ=>omega
 all_goals
  unfold shL yj
  rw [hs',hv']
  simp [hs,hv]
theorem Q9 {w : World} {b k : Nat} {A : Nat -> Nat×Nat×Nat} {F : ShM} {R : List SL.HP} (hk : k < 5) (hF : F k = none) (H : own w (shL b A F++R)) : own (w.setCell ⟨b,k,none⟩ (.pointer none)) (shL b A F++R):=by
 have h1:=lg (i:=k) (v:=.pointer none) 0 H rfl
 have hv:=Dl (A:=A) hF
 refine (congrArg (own _) ?_).mp h1
 rcases k with _ | _ | _ | _ | _ | k
 case succ.succ.succ.succ.succ=>omega
 all_goals
  unfold shL yj
  rw [hv]
  rfl
theorem Ul {w : World} {R : List SL.HP} (A : Nat -> Nat×Nat×Nat) (H : own w R) : own (w.alloc (.cells #[.pointer none,.pointer none,.pointer none,.pointer none,.pointer none] 111)) (shL w.heap.size A (fun _=>none)++R):=by
 have h1:=li H (.cells #[.pointer none,.pointer none,.pointer none,.pointer none,.pointer none] 111)
 exact lu 5 (yy (yy (yy (yy (yy h1))))) rfl
theorem Wa {w : World} {b bi bd k : Nat} {A : Nat -> Nat×Nat} {F : ShM} {m : ImgM} {R : List SL.HP} (hk : k < 5) (hF : F k = none) (H : own w (lX bi bd m::ln bd m.d::(rshL b A F++R))) :
  own (w.setCell ⟨b,k,none⟩ (.pointer (some ⟨bi,0,none⟩))) (rshL b (setA A k (bi,bd)) (put F k m)++R):=by
 have h1:=lg (i:=k) (v:=.pointer (some ⟨bi,0,none⟩)) 2 H rfl
 have h2:=yK [lX bi bd m,ln bd m.d] h1
 have hs : ∀j,j≠k -> ox (setA A k (bi,bd)) (put F k m) j = ox A F j:=fun j hj=>by unfold ox; rw [AX F m hj,Cn A _ hj]
 have hv : ∀j,j≠k -> o5 (setA A k (bi,bd)) (put F k m) j = o5 A F j:=fun j hj=>by unfold o5; rw [AX F m hj,Cn A _ hj]
 have hs' : ox (setA A k (bi,bd)) (put F k m) k = star [lX bi bd m,ln bd m.d]:=by unfold ox; rw [zK,DE]
 have hv' : o5 (setA A k (bi,bd)) (put F k m) k = .pointer (some ⟨bi,0,none⟩):=by unfold o5; rw [zK,DE]
 have hg : ∀P0 : SL.HP,(P0::ox A F 0::ox A F 1::ox A F 2::ox A F 3::ox A F 4::R)[1 + k]? = some (ox A F k):=fun P0=>by
  rcases k with _ | _ | _ | _ | _ | k
  ·rfl
  ·rfl
  ·rfl
  ·rfl
  ·rfl
  ·omega
 have h3:=oo (le h2) (1 + k) (hg _) (lh ((1 + k) + 1) h2 (hg _))
 refine (congrArg (own _) ?_).mp h3
 rcases k with _ | _ | _ | _ | _ | k
 case succ.succ.succ.succ.succ=>omega
 all_goals
  unfold rshL oI
  rw [hs',hv']
  simp [hs,hv]
theorem Ol {w : World} {b k : Nat} {A : Nat -> Nat×Nat} {F : ShM} {R : List SL.HP} (hk : k < 5) (hF : F k = none) (H : own w (rshL b A F++R)) : own (w.setCell ⟨b,k,none⟩ (.pointer none)) (rshL b A F++R):=by
 have h1:=lg (i:=k) (v:=.pointer none) 0 H rfl
 have hv:=CD (A:=A) hF
 refine (congrArg (own _) ?_).mp h1
 rcases k with _ | _ | _ | _ | _ | k
 case succ.succ.succ.succ.succ=>omega
 all_goals
  unfold rshL oI
  rw [hv]
  rfl
theorem Pq {w : World} {R : List SL.HP} (A : Nat -> Nat×Nat) (H : own w R) : own (w.alloc (.cells #[.pointer none,.pointer none,.pointer none,.pointer none,.pointer none] 114)) (rshL w.heap.size A (fun _=>none)++R):=by
 have h1:=li H (.cells #[.pointer none,.pointer none,.pointer none,.pointer none,.pointer none] 114)
 exact lu 5 (yy (yy (yy (yy (yy h1))))) rfl
end Go.Proofs.YtbpblokfiajpjabGreatDoor
