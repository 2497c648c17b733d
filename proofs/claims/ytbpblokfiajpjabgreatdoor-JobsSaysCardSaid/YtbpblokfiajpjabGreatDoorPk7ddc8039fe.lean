/- The bucket of the program and of the reference: contracts of their methods against one level; LightActs. The reference's bucket: its Tick, a loop, comes to one sum. No conditions beyond the numbers' ranges. Buckets wherever they lie; a job's model and its cells. A job: its model, its cells, and what turns it; the program's side. What a job wants, and what it says; the program's side. A job moves a cluster; it steps; the program's side. A law's arguments that are heads, desks, lists of entries: opened. Files of a shelf as they are told: read at the call's arguments; LightFiles; a cluster's bytes of a number. A shelf is laid of files that are told: the program's and the document's. No conditions. -/
import Derived.Test.YtbpblokfiajpjabGreatDoorPk8f316f9b52
import Derived.Test.YtbpblokfiajpjabGreatDoorProg
import Derived.StillTailTactics
import Derived.BigQuiet
import Derived.Deep.QuietTactic
import Derived.Lib.SmallJoins
namespace Go.Proofs.YtbpblokfiajpjabGreatDoor
open Go.RowKit Go.SL
def bucketAt (b : Nat) (r u l : Int) : HP:=pts b (.cells #[.int .i64 r,.int .i64 u,.int .i64 l] 227 (0,0))
set_option maxRecDepth 100000 in
set_option maxHeartbeats 400000 in
theorem bucket_take (b : Nat) (r u l n : Int) (R : List HP) (w : World) (hl2 : l≤1000) (H : own w (bucketAt b r u l::R)) :
 Calls Tryz.prog 149 #[.pointer (some ⟨b,0,none⟩),.int .i64 n] w fun e w'=>e = .returned (.bool (decide (0≤n∧n≤l)))∧Ext w w'∧own w' (bucketAt b r u (if 0≤n∧n≤l then l - n else l)::R):=by
 obtain ⟨c,f⟩:=own_cells 0 H rfl
 by_cases h : 0≤n∧n≤l
 ·simp only [h,and_self,decide_true,if_true]
  obtain ⟨h1,h2⟩:=h
  go_enter Tryz.func149,Tryz.ntmps149
  go_wp2
  go_ret
  exact ⟨rfl,(Ext.refl _).setCell _ _,own_set 0 H rfl⟩
 ·simp only [h,decide_false,if_false]
  go_enter Tryz.func149,Tryz.ntmps149
  go_wp2
  all_goals go_ret
  all_goals exact ⟨rfl,Ext.refl _,H⟩
theorem mul_le (n r : Int) (hn : 0≤n) (hn2 : n≤100000) (hr : 0≤r) (hr2 : r≤1000) : 0≤n * r∧n * r≤100000000:=by
 have:=Int.mul_le_mul hn2 hr2 hr (by omega)
 exact ⟨Int.mul_nonneg hn hr,by omega⟩
set_option maxRecDepth 100000 in
set_option maxHeartbeats 400000 in
theorem bucket_tick (b : Nat) (r u l n : Int) (R : List HP) (w : World) (H : own w (bucketAt b r u l::R)) (hl : 0≤l) (hl2 : l≤1000) (hr : 0≤r) (hr2 : r≤1000) (hu : u≤1000) :
 Calls Tryz.prog 185 #[.pointer (some ⟨b,0,none⟩),.int .i64 n] w fun e w'=>e = .returned (errV (if 0≤n∧n≤100000 then 0 else 1))∧Ext w w'∧
  own w' (bucketAt b r u (if 0≤n∧n≤100000 then min u (l + n * r) else l)::R):=by
 obtain ⟨c,f⟩:=own_cells 0 H rfl
 by_cases h : 0≤n∧n≤100000
 ·simp only [h,and_self,if_true]
  obtain ⟨hn,hn2⟩:=h
  obtain ⟨hm,hm2⟩:=mul_le n r hn hn2 hr hr2
  have e1 : IntKind.i64.wrap (n * r) = n * r:=IntWalk.i64_in _ (by omega)
  have e2 : IntKind.i64.wrap (l + n * r) = l + n * r:=IntWalk.i64_in _ (by omega)
  by_cases hmin : l + n * r < u
  ·have hmm : min u (l + n * r) = l + n * r:=by omega
   simp only [hmm]
   go_enter Tryz.func185,Tryz.ntmps185
   go_wp2
   go_still_tail 17,(by kernel_rfl)
   change wpList _ _ _ _ _ w.drew
   go_wp2
   all_goals go_ret
   all_goals exact ⟨rfl,((Ext.refl _).setCell _ _).drew,own_drew (own_set 0 H rfl)⟩
  ·have hmm : min u (l + n * r) = u:=by omega
   have hmin' : u≤l + n * r:=by omega
   simp only [hmm]
   go_enter Tryz.func185,Tryz.ntmps185
   go_wp2
   go_still_tail 17,(by kernel_rfl)
   change wpList _ _ _ _ _ w.drew
   go_wp2
   all_goals go_ret
   all_goals exact ⟨rfl,((Ext.refl _).setCell _ _).drew,own_drew (own_set 0 H rfl)⟩
 ·simp only [h,if_false]
  go_enter Tryz.func185,Tryz.ntmps185
  go_wp2
  all_goals go_ret
  all_goals exact ⟨rfl,Ext.refl _,H⟩
def newOk (r u : Int) : Bool:=decide (0≤r∧r≤1000∧0≤u∧u≤1000)
set_option maxHeartbeats 400000 in
theorem bucket_new_yes (r u : Int) (R : List HP) (w : World) (h : newOk r u = true) (H : own w R) :
 Calls Tryz.prog 70 #[.int .i64 r,.int .i64 u] w fun e w'=>e = .returned (.tuple #[.pointer (some ⟨w.heap.size,0,none⟩),.nilIface])∧Ext w w'∧own w' (bucketAt w.heap.size r u u::R):=by
 simp only [newOk,decide_eq_true_eq] at h
 obtain ⟨h1,h2,h3,h4⟩:=h
 go_enter Tryz.func70,Tryz.ntmps70
 go_wp2
 go_ret2
 exact ⟨rfl,(Ext.refl _).alloc _,own_alloc H _⟩
set_option maxHeartbeats 400000 in
theorem bucket_new_no (r u : Int) (w : World) (h : newOk r u = false) :
 Calls Tryz.prog 70 #[.int .i64 r,.int .i64 u] w fun e w'=>e = .returned (.tuple #[.pointer none,errV 1])∧w = w':=by
 simp only [newOk,decide_eq_false_iff_not] at h
 go_enter Tryz.func70,Tryz.ntmps70
 go_wp2
 all_goals go_ret2
 all_goals exact ⟨rfl,rfl⟩
end Go.Proofs.YtbpblokfiajpjabGreatDoor

namespace Go.Proofs.YtbpblokfiajpjabGreatDoor
open Go.RowKit Go.SL
theorem lev_stop (u l r n k : Int) (hk : k≤n) (h0 : 0≤k) (hr : 0≤r) (hl : l≤u) (h : ¬(k < n∧min u (l + k * r) < u∧0 < r)) : min u (l + k * r) = min u (l + n * r):=by
 by_cases hkn : k = n
 ·rw [hkn]
 ·by_cases hr0 : r = 0
  ·subst hr0; simp
  ·have h1 : k * r≤n * r:=Int.mul_le_mul_of_nonneg_right hk hr
   omega
theorem lev_step (u l r k : Int) (hr : 0≤r) (h : min u (l + k * r) < u) : min u (min u (l + k * r) + r) = min u (l + (k + 1) * r):=by
 have : (k + 1) * r = k * r + r:=by rw [Int.add_mul]; simp
 omega
end Go.Proofs.YtbpblokfiajpjabGreatDoor

namespace Go.Proofs.YtbpblokfiajpjabGreatDoor
open Go.RowKit Go.SL Go.Crc
attribute [local go_sem ↓] Go.wp_at_zero Go.wp_at_succ
def takeL (l n : Int) : Int:=if 0≤n∧n≤l then l - n else l
theorem bk_take {b : Nat} {r u l n : Int} {L : List SL.HP} (k : Nat) (w : World) (hl2 : l≤1000) (H : own w L) (hk : L[k]? = some (bucketAt b r u l)) :
  Calls Tryz.prog 149 #[.pointer (some ⟨b,0,none⟩),.int .i64 n] w fun e w'=>e = .returned (.bool (decide (0≤n∧n≤l)))∧Ext w w'∧own w' (L.set k (bucketAt b r u (takeL l n))):=by
 refine (bucket_take b r u l n _ w hl2 (own_pick k H hk)).mono ?_
 rintro e w' ⟨h1,h2,h3⟩
 exact ⟨h1,h2,own_put H k hk h3⟩
def tickL (r u l n : Int) : Int:=min u (l + n * r)
theorem bk_tick {b : Nat} {r u l n : Int} {L : List SL.HP} (k : Nat) (w : World) (H : own w L) (hk : L[k]? = some (bucketAt b r u l)) (hl : 0≤l) (hl2 : l≤1000) (hr : 0≤r) (hr2 : r≤1000) (hu : u≤1000) :
  Calls Tryz.prog 185 #[.pointer (some ⟨b,0,none⟩),.int .i64 n] w fun e w'=>e = .returned (errV (if 0≤n∧n≤100000 then 0 else 1))∧Ext w w'∧own w' (L.set k (bucketAt b r u (if 0≤n∧n≤100000 then tickL r u l n else l))):=by
 refine (bucket_tick b r u l n _ w (own_pick k H hk) hl hl2 hr hr2 hu).mono ?_
 rintro e w' ⟨h1,h2,h3⟩
 exact ⟨h1,h2,own_put H k hk h3⟩
theorem sib_ne {C : Array Value} {i j : Nat} (v : Value) (h : i≠j) : (C.setIfInBounds i v)[j]? = C[j]?:=by rw [Array.getElem?_setIfInBounds,if_neg h]
theorem sib_eq {C : Array Value} {i : Nat} (v : Value) (h : i < C.size) : (C.setIfInBounds i v)[i]? = some v:=by rw [Array.getElem?_setIfInBounds,if_pos rfl,if_pos h]
theorem sib_sib (C : Array Value) (i : Nat) (v v' : Value) : (C.setIfInBounds i v).setIfInBounds i v' = C.setIfInBounds i v':=by
 refine Array.ext_getElem? fun q=>?_
 rw [Array.getElem?_setIfInBounds,Array.getElem?_setIfInBounds,Array.getElem?_setIfInBounds,Array.size_setIfInBounds]
 by_cases h : i = q
 ·simp [h]
 ·simp [h]
structure BkAt (C : Array Value) (o : Nat) (r u : Int) : Prop where
 r : C[o]? = some (.int .i64 r)
 u : C[o + 1]? = some (.int .i64 u)
 s : o + 2 < C.size
def bkB (b : Nat) (C : Array Value) (T : TypeId) (o : Nat) (l : Int) : SL.HP:=pts b (.cells (C.setIfInBounds (o + 2) (.int .i64 l)) T (0,0))
theorem bkB_cells {w : World} {L : List SL.HP} {b o : Nat} {C : Array Value} {T : TypeId} {r u l : Int} (hb : BkAt C o r u) (k : Nat) (H : own w L) (hk : L[k]? = some (bkB b C T o l)) :
  w.cell? ⟨b,o,none⟩ = some (.int .i64 r)∧w.cell? ⟨b,o + 1,none⟩ = some (.int .i64 u)∧w.cell? ⟨b,o + 2,none⟩ = some (.int .i64 l)∧w.frozen? ⟨b,o + 2,none⟩ = false:=by
 obtain ⟨c,f⟩:=own_cells k H hk
 exact ⟨by rw [c,sib_ne _ (by omega)]; exact hb.r,by rw [c,sib_ne _ (by omega)]; exact hb.u,by rw [c,sib_eq _ hb.s],f _⟩
theorem bkB_set {w : World} {L : List SL.HP} {b o : Nat} {C : Array Value} {T : TypeId} {l : Int} (l' : Int) (k : Nat) (H : own w L) (hk : L[k]? = some (bkB b C T o l)) :
  own (w.setCell ⟨b,o + 2,none⟩ (.int .i64 l')) (L.set k (bkB b C T o l')):=by
 have h:=own_set (i:=o + 2) (v:=.int .i64 l') k H hk
 rw [sib_sib] at h
 exact h
set_option maxRecDepth 100000 in
set_option maxHeartbeats 400000 in
theorem rbk_take {b o : Nat} {C : Array Value} {T : TypeId} {r u l n : Int} (hb : BkAt C o r u) {L : List SL.HP} (k : Nat) (w : World) (hl2 : l≤1000) (H : own w L) (hk : L[k]? = some (bkB b C T o l)) :
  Calls Tryz.prog 180 #[.pointer (some ⟨b,o,none⟩),.int .i64 n] w fun e w'=>e = .returned (.bool (decide (0≤n∧n≤l)))∧Ext w w'∧own w' (L.set k (bkB b C T o (takeL l n))):=by
 obtain ⟨c0,c1,c2,f2⟩:=bkB_cells hb k H hk
 unfold takeL
 by_cases h : 0≤n∧n≤l
 ·simp only [h,and_self,decide_true,if_true]
  obtain ⟨h1,h2⟩:=h
  go_enter Tryz.func180,Tryz.ntmps180
  go_wp2
  go_ret
  exact ⟨rfl,(Ext.refl _).setCell _ _,bkB_set _ k H hk⟩
 ·simp only [h,decide_false,if_false]
  go_enter Tryz.func180,Tryz.ntmps180
  go_wp2
  all_goals go_ret
  all_goals exact ⟨rfl,Ext.refl _,own_same H hk⟩
set_option maxRecDepth 100000 in
set_option maxHeartbeats 1000000 in
theorem rbk_tick {b o : Nat} {C : Array Value} {T : TypeId} {r u l n : Int} (hb : BkAt C o r u) {L : List SL.HP} (kk : Nat) (w : World) (H : own w L) (hk : L[kk]? = some (bkB b C T o l)) (hn : 0≤n) (hn2 : n≤100000) (hl : 0≤l) (hl2 : l≤u) (hr : 0≤r) (hr2 : r≤1000) (hu : u≤1000) :
  Calls Tryz.prog 84 #[.pointer (some ⟨b,o,none⟩),.int .i64 n] w fun e w'=>e = .returned (.tuple #[])∧Ext w w'∧own w' (L.set kk (bkB b C T o (tickL r u l n))):=by
 unfold tickL
 have hlen : kk < L.length:=(List.getElem?_eq_some_iff.1 hk).1
 have hgk : ∀P,(L.set kk P)[kk]? = some P:=fun P=>by simp [hlen]
 have hH : own w (L.set kk (bkB b C T o l)):=own_same H hk
 clear H hk
 go_enter Tryz.func84,Tryz.ntmps84
 go_wp2
 go_loopw [4] (fun i wr=>∃k : Nat,(k : Int)≤n∧i = .int .i64 k∧Ext w wr∧own wr (L.set kk (bkB b C T o (min u (l + k * r))))) (fun i _=>n.toNat - (intOf i).toNat)
 case atStart=>exact ⟨0,by omega,rfl,Ext.refl _,by simpa [show min u l = l by omega] using hH⟩
 case round=>
  obtain ⟨k,hk,rfl,hext,hown⟩:=hrel
  obtain ⟨c0,c1,c2,f2⟩:=bkB_cells hb kk hown (hgk _)
  have hkr : 0≤(k : Int) * r:=Int.mul_nonneg (by omega) hr
  have hstop:=lev_stop u l r n k hk (by omega) hr hl2
  have hstep:=lev_step u l r k hr
  have H1:=Lib.hid hstop
  have H2:=Lib.hid hstep
  clear hstop hstep
  by_cases hgo : (k : Int) < n∧min u (l + k * r) < u∧0 < r
  ·obtain ⟨g1,g2,g3⟩:=hgo
   have H3:=Lib.hid (H2.out g2)
   have hlo : 0≤min u (l + k * r):=by omega
   generalize min u (l + k * r) = m at *
   have e1 : IntKind.i64.wrap (m + r) = m + r:=IntWalk.i64_in _ (by omega)
   by_cases hmin : m + r < u
   all_goals
    go_wp2_with fail
    go_quiet (fail)
    go_wp2_with fail
    have hq:=own_drewN nq hown
    have hxq:=hext.drewN nq
    clear c0 c1 c2 f2 hown hext
    generalize wr.drewN nq = wq at *
    obtain ⟨c0,c1,c2,f2⟩:=bkB_cells hb kk hq (hgk _)
    go_still_tail 15,(by kernel_rfl)
    change wpList _ _ _ _ _ wq.drew
    go_wp2
    all_goals go_roundw
    case rel=>
     refine ⟨k + 1,by omega,by go_num,(hxq.setCell _ _).drew,?_⟩
     rw [show ((k + 1 : Nat) : Int) = (k : Int) + 1 by omega,← H3.out]
     have hs:=own_drew (bkB_set (min u (m + r)) kk hq (hgk _))
     rw [List.set_set] at hs
     first
     | rw [show min u (m + r) = m + r by omega] at hs ⊢; exact hs
     | rw [show min u (m + r) = u by omega] at hs ⊢; exact hs
    case measure=>simp [intOf]; omega
  ·have H3:=Lib.hid (H1.out hgo)
   clear H1 H2
   have e4 : (((k : Int) < n)∧¬min u (l + k * r) < u)∨(((k : Int) < n)∧min u (l + k * r) < u∧¬0 < r)∨¬((k : Int) < n):=by omega
   generalize min u (l + k * r) = m at *
   rcases e4 with ⟨g1,g2⟩ | ⟨g1,g2,g3⟩ | g1
   ·have d1 : decide (m < u) = false:=decide_eq_false g2
    go_wp2_with fail
    go_quiet (fail)
    go_wp2_with fail
    go_end0
    exact ⟨rfl,hext.drewN _,by rw [← H3.out]; exact own_drewN _ hown⟩
   ·have d1 : decide (0 < r) = false:=decide_eq_false g3
    go_wp2_with fail
    go_quiet (fail)
    go_wp2_with fail
    go_end0
    exact ⟨rfl,hext.drewN _,by rw [← H3.out]; exact own_drewN _ hown⟩
   ·have d1 : decide ((k : Int) < n) = false:=decide_eq_false g1
    go_wp2_with fail
    go_quiet (fail)
    go_wp2_with fail
    go_end0
    exact ⟨rfl,hext.drewN _,by rw [← H3.out]; exact own_drewN _ hown⟩
end Go.Proofs.YtbpblokfiajpjabGreatDoor

namespace Go.Proofs.YtbpblokfiajpjabGreatDoor
open Go.RowKit Go.SL Go.Crc
attribute [local go_sem ↓] Go.wp_at_zero Go.wp_at_succ
structure JobM where
 root : Int
 kind : Int
 file : Int
 rate : Int
 burst : Int
 list : List Int
 deep : Nat
 n : Nat
 x : Nat
 at_ : Nat
 st : Int
 level : Int
structure JobM.Ok (j : JobM) : Prop where
 kind : j.kind = 1∨j.kind = 2∨j.kind = 3
 n : j.n≤64
 x : j.x < 2 ^ j.n
 len : j.list.length≤5
 pos : j.list.length≠0
 deep : j.deep≤j.list.length
 rate : 0≤j.rate∧j.rate≤1000
 burst : 0≤j.burst∧j.burst≤1000
 level : 0≤j.level∧j.level≤j.burst
 at_ : j.at_≤200
 st : 1≤j.st∧j.st≤5
theorem JobM.Ok.x64 {j : JobM} (h : j.Ok) : j.x < 2 ^ 64:=lt64 h.n h.x
def deepP (j : JobM) : Nat:=if j.kind = 1 then j.list.length else j.deep
def deepR (j : JobM) : Nat:=if j.kind = 1 then 0 else j.deep
def cnt (x : Nat) : Nat:=Ones.popc 64 x
theorem cnt_le (x : Nat) : cnt x≤64:=Ones.popc_le 64 x
theorem popc_cnt (x : Nat) : Ones.popc 64 x = cnt x:=rfl
attribute [irreducible] cnt
def jobP (bs bj bt bb : Nat) (v : Value) (j : JobM) : SL.HP:=pts bj (.cells #[.pointer (some ⟨bs,0,none⟩),.int .i64 j.kind,.int .i64 j.file,v,.int .i64 (deepP j : Nat),.pointer (some ⟨bt,0,none⟩),.int .i64 (j.at_ : Nat),.int .i64 j.st,.pointer (some ⟨bb,0,none⟩)] 137 (0,0))
def jobL (bs bj bt bb : Nat) (v : Value) (j : JobM) : List SL.HP:=[jobP bs bj bt bb v j,bsetAt bt j.n j.x,bucketAt bb j.rate j.burst j.level]
def turnM (j : JobM) : JobM:=if j.st = 1∧cnt j.x = 0 then { j with st:=3 } else if j.st = 3∧0 < cnt j.x then { j with st:=1 } else j
theorem turnM_ok {j : JobM} (h : j.Ok) : (turnM j).Ok:=by
 unfold turnM
 split
 ·exact { h with st:=by simp }
 ·split
  ·exact { h with st:=by simp }
  ·exact h
set_option maxRecDepth 100000 in
set_option maxHeartbeats 4000000 in
theorem jturn_any (bs bj bt bb : Nat) (v : Value) (j : JobM) (hj : j.Ok) (L : List SL.HP) (w : World) (H : own w (jobL bs bj bt bb v j++L)) :
  Calls Tryz.prog 76 #[.pointer (some ⟨bj,0,none⟩)] w fun e w'=>e = .returned (.tuple #[])∧Ext w w'∧own w' (jobL bs bj bt bb v (turnM j)++L):=by
 obtain ⟨c,f⟩:=own_cells 0 H rfl
 have c5:=c 5
 have f7:=f 7
 have hs : ∀s : Int,own (w.setCell ⟨bj,7,none⟩ (.int .i64 s)) (jobL bs bj bt bb v { j with st:=s }++L):=fun s=>own_set (i:=7) 0 H rfl
 have HC : ∀w',own w' (jobL bs bj bt bb v j++L)→Calls Tryz.prog 88 #[.pointer (some ⟨bt,0,none⟩)] w' fun e w''=>e = .returned (.int .i64 (cnt j.x : Nat))∧w' = w'':=fun w' h=>by have:=bset_count bt j.n j.x hj.x64 1 w' h rfl; rw [popc_cnt] at this; exact this
 have HC:=Lib.hid HC
 have HS:=Lib.hid hs
 have HH:=Lib.hid H
 have hq:=cnt_le j.x
 clear hs
 unfold turnM
 by_cases h1 : j.st = 1
 ·have c7 : w.cell? ⟨bj,7,none⟩ = some (.int .i64 1):=by rw [← h1]; exact c 7
  by_cases h0 : cnt j.x = 0
  ·rw [if_pos ⟨h1,h0⟩]
   rw [h0] at HC
   clear c f h1 h0 hq H
   go_enter Tryz.func76,Tryz.ntmps76
   go_wp2_with fail
   refine (HC.out _ HH.out).mono ?_
   rintro e w' ⟨rfl,rfl⟩
   go_wp2_with fail
   go_end0
   exact ⟨rfl,(Ext.refl _).setCell _ _,HS.out 3⟩
  ·rw [if_neg (fun h=>h0 h.2),if_neg (by rw [h1]; intro h; exact absurd h.1 (by decide))]
   generalize cnt j.x = q at *
   have d0 : ((q : Int) == 0) = false:=by rw [beq_eq_false_iff_ne]; omega
   clear c f h1 h0 hq H
   go_enter Tryz.func76,Tryz.ntmps76
   go_wp2_with fail
   refine (HC.out _ HH.out).mono ?_
   rintro e w' ⟨rfl,rfl⟩
   go_wp2_with fail
   go_end0
   exact ⟨rfl,Ext.refl _,HH.out⟩
 ·rw [if_neg (fun h=>h1 h.1)]
  by_cases h3 : j.st = 3
  ·have c7 : w.cell? ⟨bj,7,none⟩ = some (.int .i64 3):=by rw [← h3]; exact c 7
   by_cases h0 : 0 < cnt j.x
   ·rw [if_pos ⟨h3,h0⟩]
    generalize cnt j.x = q at *
    have d0 : decide (0 < (q : Int)) = true:=decide_eq_true (by omega)
    clear c f h1 h3 hq H
    go_enter Tryz.func76,Tryz.ntmps76
    go_wp2_with fail
    refine (HC.out _ HH.out).mono ?_
    rintro e w' ⟨rfl,rfl⟩
    go_wp2_with fail
    go_end0
    exact ⟨rfl,(Ext.refl _).setCell _ _,HS.out 1⟩
   ·rw [if_neg (fun h=>h0 h.2)]
    generalize cnt j.x = q at *
    have d0 : decide (0 < (q : Int)) = false:=decide_eq_false (by omega)
    clear c f h1 h3 hq H
    go_enter Tryz.func76,Tryz.ntmps76
    go_wp2_with fail
    refine (HC.out _ HH.out).mono ?_
    rintro e w' ⟨rfl,rfl⟩
    go_wp2_with fail
    go_end0
    exact ⟨rfl,Ext.refl _,HH.out⟩
  ·rw [if_neg (fun h=>h3 h.1)]
   have c7:=c 7
   have d1 : (j.st == 1) = false:=by rw [beq_eq_false_iff_ne]; exact h1
   have d3 : (j.st == 3) = false:=by rw [beq_eq_false_iff_ne]; exact h3
   clear c f h1 h3 hq H
   go_enter Tryz.func76,Tryz.ntmps76
   go_wp2_with fail
   go_end0
   exact ⟨rfl,Ext.refl _,HH.out⟩
set_option maxRecDepth 100000 in
set_option maxHeartbeats 4000000 in
theorem jgoes_any (bs bj bt bb : Nat) (v : Value) (j : JobM) (L : List SL.HP) (w : World) (H : own w (jobL bs bj bt bb v j++L)) :
  Calls Tryz.prog 21 #[.pointer (some ⟨bj,0,none⟩)] w fun e w'=>e = .returned (.bool (decide (j.st < 4)))∧w = w':=by
 have c7:=(own_cells 0 H rfl).1 7
 go_enter Tryz.func21,Tryz.ntmps21
 go_wp2_with fail
 go_ret
 exact ⟨rfl,rfl⟩
def endM (j : JobM) (well : Bool) : JobM:={ j with st:=if well then 4 else 5 }
theorem endM_ok {j : JobM} (h : j.Ok) (b : Bool) : (endM j b).Ok:={ h with st:=by cases b <;> simp [endM] }
set_option maxRecDepth 100000 in
set_option maxHeartbeats 4000000 in
theorem jend_any (bs bj bt bb : Nat) (v : Value) (j : JobM) (well : Bool) (L : List SL.HP) (w : World) (H : own w (jobL bs bj bt bb v j++L)) :
  Calls Tryz.prog 87 #[.pointer (some ⟨bj,0,none⟩),.bool well] w fun e w'=>e = .returned (.tuple #[])∧Ext w w'∧own w' (jobL bs bj bt bb v (endM j well)++L):=by
 have c7:=(own_cells 0 H rfl).1 7
 have f7:=(own_cells 0 H rfl).2 7
 have H1 : own (w.setCell ⟨bj,7,none⟩ (.int .i64 5)) (jobL bs bj bt bb v { j with st:=5 }++L):=own_set (i:=7) 0 H rfl
 cases well
 ·go_enter Tryz.func87,Tryz.ntmps87
  go_wp2_with fail
  go_end0
  exact ⟨rfl,(Ext.refl _).setCell _ _,H1⟩
 ·have d7:=(own_cells 0 H1 rfl).1 7
  have g7:=(own_cells 0 H1 rfl).2 7
  have H2 : own ((w.setCell ⟨bj,7,none⟩ (.int .i64 5)).setCell ⟨bj,7,none⟩ (.int .i64 4)) (jobL bs bj bt bb v { j with st:=4 }++L):=own_set (i:=7) 0 H1 rfl
  go_enter Tryz.func87,Tryz.ntmps87
  go_wp2_with fail
  go_end0
  exact ⟨rfl,((Ext.refl _).setCell _ _).setCell _ _,H2⟩
def jtickM (j : JobM) (n : Int) : JobM:=if 0≤n∧n≤100000 then { j with level:=tickL j.rate j.burst j.level n } else j
theorem jtickM_ok {j : JobM} (h : j.Ok) (n : Int) : (jtickM j n).Ok:=by
 unfold jtickM
 split
 ·rename_i hn
  have:=h.level
  have h2 : 0≤n * j.rate:=Int.mul_nonneg hn.1 h.rate.1
  exact { h with level:=by simp only [tickL]; omega }
 ·exact h
set_option maxRecDepth 100000 in
set_option maxHeartbeats 4000000 in
theorem jtick_any (bs bj bt bb : Nat) (v : Value) (j : JobM) (hj : j.Ok) (n : Int) (L : List SL.HP) (w : World) (H : own w (jobL bs bj bt bb v j++L)) :
  Calls Tryz.prog 83 #[.pointer (some ⟨bj,0,none⟩),.int .i64 n] w fun e w'=>e = .returned (errV (if 0≤n∧n≤100000 then 0 else 1))∧Ext w w'∧own w' (jobL bs bj bt bb v (jtickM j n)++L):=by
 have c8:=(own_cells 0 H rfl).1 8
 have hT:=bk_tick (b:=bb) (r:=j.rate) (u:=j.burst) (l:=j.level) (n:=n) 2 w H rfl hj.level.1 (by have:=hj.level; have:=hj.burst; omega) hj.rate.1 hj.rate.2 hj.burst.2
 unfold jtickM
 by_cases hn : 0≤n∧n≤100000
 all_goals
  first
  |rw [if_pos hn,if_pos hn] at hT
   rw [if_pos hn,if_pos hn]
  |rw [if_neg hn,if_neg hn] at hT
   rw [if_neg hn,if_neg hn]
  have HT:=Lib.hid hT
  clear hT hn
  go_enter Tryz.func83,Tryz.ntmps83
  go_wp2_with fail
  refine HT.out.mono ?_
  rintro e w' ⟨rfl,hx,h⟩
  go_wp2_with fail
  go_ret
  exact ⟨rfl,hx,h⟩
def dirtyM (j : JobM) (c : Int) : JobM:=if j.st < 4∧j.kind≠2 then turnM { j with x:=(bputM j.n j.x c true).2 } else j
theorem dirtyM_ok {j : JobM} (h : j.Ok) (c : Int) : (dirtyM j c).Ok:=by
 unfold dirtyM
 split
 ·exact turnM_ok { h with x:=bput_lt h.n h.x c true }
 ·exact h
set_option maxRecDepth 100000 in
set_option maxHeartbeats 4000000 in
theorem jdirty_any (bs bj bt bb : Nat) (v : Value) (j : JobM) (hj : j.Ok) (c : Int) (L : List SL.HP) (w : World) (H : own w (jobL bs bj bt bb v j++L)) :
  Calls Tryz.prog 80 #[.pointer (some ⟨bj,0,none⟩),.int .i64 c] w fun e w'=>e = .returned (.tuple #[])∧Ext w w'∧own w' (jobL bs bj bt bb v (dirtyM j c)++L):=by
 have hG:=jgoes_any bs bj bt bb v j L w H
 have c1:=(own_cells 0 H rfl).1 1
 have c5:=(own_cells 0 H rfl).1 5
 unfold dirtyM
 by_cases h4 : j.st < 4
 ·rw [decide_eq_true h4] at hG
  have HG:=Lib.hid hG
  by_cases h2 : j.kind = 2
  ·rw [if_neg (fun h=>h.2 h2)]
   have d2 : w.cell? ⟨bj,1,none⟩ = some (.int .i64 2):=by rw [← h2]; exact c1
   clear hG c1
   go_enter Tryz.func80,Tryz.ntmps80
   go_wp2_with fail
   refine HG.out.mono ?_
   rintro e w' ⟨rfl,rfl⟩
   go_wp2_with fail
   refine bodyPost_ret (results_none rfl _ _ _) rfl ?_
   exact ⟨rfl,Ext.refl _,H⟩
  ·rw [if_pos ⟨h4,h2⟩]
   have d2 : (j.kind == 2) = false:=by rw [beq_eq_false_iff_ne]; exact h2
   have HP:=Lib.hid (bset_put bt j.n j.x hj.n hj.x c true 1 w H rfl)
   have HT:=Lib.hid (fun w' h=>jturn_any bs bj bt bb v { j with x:=(bputM j.n j.x c true).2 } { hj with x:=bput_lt hj.n hj.x c true } L w' h)
   clear hG
   go_enter Tryz.func80,Tryz.ntmps80
   go_wp2_with fail
   refine HG.out.mono ?_
   rintro e w' ⟨rfl,rfl⟩
   go_wp2_with fail
   refine HP.out.mono ?_
   rintro e w2 ⟨rfl,hx2,h2'⟩
   have h3 : own w2 (jobL bs bj bt bb v { j with x:=(bputM j.n j.x c true).2 }++L):=h2'
   go_wp2_with fail
   refine (HT.out w2 h3).mono ?_
   rintro e w3 ⟨rfl,hx3,h4'⟩
   go_wp2_with fail
   go_end0
   exact ⟨rfl,hx2.trans hx3,h4'⟩
 ·rw [decide_eq_false h4] at hG
  have HG:=Lib.hid hG
  rw [if_neg (fun h=>h4 h.1)]
  clear hG
  go_enter Tryz.func80,Tryz.ntmps80
  go_wp2_with fail
  refine HG.out.mono ?_
  rintro e w' ⟨rfl,rfl⟩
  go_wp2_with fail
  refine bodyPost_ret (results_none rfl _ _ _) rfl ?_
  exact ⟨rfl,Ext.refl _,H⟩
def pauseM (j : JobM) (on : Bool) : Int×JobM:=
 if on then (if j.st = 1∨j.st = 3 then (0,{ j with st:=2 }) else (9,j))
 else (if j.st = 2 then (0,turnM { j with st:=1 }) else (9,j))
theorem pauseM_ok {j : JobM} (h : j.Ok) (on : Bool) : (pauseM j on).2.Ok:=by
 unfold pauseM
 split
 ·split
  ·exact { h with st:=by simp }
  ·exact h
 ·split
  ·exact turnM_ok (j:={ j with st:=1 }) { h with st:=by simp }
  ·exact h
set_option maxRecDepth 100000 in
set_option maxHeartbeats 4000000 in
theorem jpause_any (bs bj bt bb : Nat) (v : Value) (j : JobM) (hj : j.Ok) (on : Bool) (L : List SL.HP) (w : World) (H : own w (jobL bs bj bt bb v j++L)) :
  Calls Tryz.prog 57 #[.pointer (some ⟨bj,0,none⟩),.bool on] w fun e w'=>e = .returned (errV (pauseM j on).1)∧Ext w w'∧own w' (jobL bs bj bt bb v (pauseM j on).2++L):=by
 have c7:=(own_cells 0 H rfl).1 7
 have f7:=(own_cells 0 H rfl).2 7
 have hs : ∀s : Int,own (w.setCell ⟨bj,7,none⟩ (.int .i64 s)) (jobL bs bj bt bb v { j with st:=s }++L):=fun s=>own_set (i:=7) 0 H rfl
 have H1:=hs 1
 have H2:=hs 2
 have HT:=Lib.hid (fun w' h=>jturn_any bs bj bt bb v { j with st:=1 } { hj with st:=by simp } L w' h)
 clear hs
 unfold pauseM
 cases on
 ·rw [if_neg (by decide)]
  by_cases h2 : j.st = 2
  ·rw [if_pos h2]
   have d2 : w.cell? ⟨bj,7,none⟩ = some (.int .i64 2):=by rw [← h2]; exact c7
   clear c7 h2
   go_enter Tryz.func57,Tryz.ntmps57
   go_wp2_with fail
   refine (HT.out _ H1).mono ?_
   rintro e w' ⟨rfl,hx,h⟩
   go_wp2_with fail
   go_ret
   exact ⟨rfl,((Ext.refl _).setCell _ _).trans hx,h⟩
  ·rw [if_neg h2]
   have d2 : (j.st == 2) = false:=by rw [beq_eq_false_iff_ne]; exact h2
   clear h2
   go_enter Tryz.func57,Tryz.ntmps57
   go_wp2_with fail
   go_ret
   exact ⟨rfl,Ext.refl _,H⟩
 ·rw [if_pos rfl]
  by_cases h1 : j.st = 1
  ·rw [if_pos (.inl h1)]
   have d2 : w.cell? ⟨bj,7,none⟩ = some (.int .i64 1):=by rw [← h1]; exact c7
   clear c7 h1
   go_enter Tryz.func57,Tryz.ntmps57
   go_wp2_with fail
   go_ret
   exact ⟨rfl,(Ext.refl _).setCell _ _,H2⟩
  ·have d1 : (j.st == 1) = false:=by rw [beq_eq_false_iff_ne]; exact h1
   by_cases h3 : j.st = 3
   ·rw [if_pos (.inr h3)]
    have d2 : w.cell? ⟨bj,7,none⟩ = some (.int .i64 3):=by rw [← h3]; exact c7
    clear c7 h1 h3 d1
    go_enter Tryz.func57,Tryz.ntmps57
    go_wp2_with fail
    go_ret
    exact ⟨rfl,(Ext.refl _).setCell _ _,H2⟩
   ·rw [if_neg (by rintro (h | h); exact h1 h; exact h3 h)]
    have d3 : (j.st == 3) = false:=by rw [beq_eq_false_iff_ne]; exact h3
    clear h1 h3
    go_enter Tryz.func57,Tryz.ntmps57
    go_wp2_with fail
    go_ret
    exact ⟨rfl,Ext.refl _,H⟩
end Go.Proofs.YtbpblokfiajpjabGreatDoor

namespace Go.Proofs.YtbpblokfiajpjabGreatDoor
open Go.RowKit Go.SL Go.Crc
attribute [local go_sem ↓] Go.wp_at_zero Go.wp_at_succ
theorem IntsAt.take {w : World} {ao : Option Addr} {n cap : Nat} {l : List Int} (h : IntsAt w (.slice ao n cap) l) (d : Nat) (hd : d≤l.length) : IntsAt w (.slice ao d cap) (l.take d):=by
 obtain ⟨ao',b,off,cap',hv,h1,h2,h3,h4⟩:=h.form
 simp only [Value.slice.injEq] at hv
 obtain ⟨rfl,rfl,rfl⟩:=hv
 have hlen : (l.take d).length = d:=by simp; omega
 refine ⟨ao,b,off,cap,by rw [hlen],by omega,h2,fun h0=>h3 (by omega),fun i hi=>?_⟩
 have hi2 : i < d:=by omega
 have:=h4 i (by omega)
 dsimp only
 rw [this]
 simp [List.getElem?_take,hi2]
def wantsM (F : ShM) (j : JobM) (c : Int) : Bool:=if j.kind = 1 then true else if j.kind = 2 then decide (0 < foundM F (j.list.take j.deep) c) else decide (0≤foundM F (j.list.take j.deep) c)
set_option maxRecDepth 100000 in
set_option maxHeartbeats 4000000 in
theorem jwants_any (bs : Nat) (A : Nat→Nat×Nat×Nat) (F : ShM) (hF : ShOk F) (bj bt bb : Nat) (v : Value) (j : JobM) (hj : j.Ok) (hl : ∀x∈j.list,isFile F x) (c : Int) (R : List SL.HP) (w : World)
  (hv : ∀w' L,own w' (L++R)→IntsAt w' v j.list) (H : own w (shL bs A F++(jobL bs bj bt bb v j++R))) :
  Calls Tryz.prog 75 #[.pointer (some ⟨bj,0,none⟩),.int .i64 c] w fun e w'=>e = .returned (.bool (wantsM F j c))∧∃n,w' = w.drewN n:=by
 have hvw:=ints_more hv (jobL bs bj bt bb v j)
 obtain ⟨ao,lb,off,cap,rfl,hlc,hcap,hao,-⟩:=(hvw w _ H).form
 have hd : deepP j≤j.list.length:=by unfold deepP; split; exact Nat.le_refl _; exact hj.deep
 have hf : ∀w',own w' (shL bs A F++(jobL bs bj bt bb (.slice ao j.list.length cap) j++R))→Calls Tryz.prog 152 #[.pointer (some ⟨bs,0,none⟩),.slice ao (deepP j) cap,.int .i64 c] w' fun e w''=>e = .returned (.int .i64 (foundM F (j.list.take (deepP j)) c))∧w' = w'':=fun w' h=>
  found_any bs A F hF _ _ (fun x hx=>hl x (List.mem_of_mem_take hx)) (by rw [List.length_take]; have:=hj.len; omega) c _ w' ((hvw w' _ h).take _ hd) h
 obtain ⟨cc,-⟩:=own_cells 6 H rfl
 have c0:=cc 0
 have c1:=cc 1
 have c3:=cc 3
 have c4:=cc 4
 have i1 : (0 : Int)≤(deepP j : Nat):=by omega
 have i2 : ((deepP j : Nat) : Int)≤(cap : Int):=by omega
 have hr : wantsM F j c = if j.kind = 1 then true else if j.kind = 2 then decide (0 < foundM F (j.list.take (deepP j)) c) else decide (0≤foundM F (j.list.take (deepP j)) c):=by
  unfold wantsM deepP
  by_cases h : j.kind = 1
  ·rw [if_pos h,if_pos h]
  ·rw [if_neg h,if_neg h,if_neg h]
 rw [hr]
 have hk:=hj.kind
 have HF:=Lib.hid hf
 have HOW:=Lib.hid H
 generalize foundM F (j.list.take (deepP j)) c = fi at *
 generalize deepP j = dp at *
 have hkk : ∀n,(w.drewN n).cell? ⟨bj,1,none⟩ = some (.int .i64 j.kind):=fun n=>c1
 clear hr hf hl hv hvw hao H cc hd hlc c1
 generalize j.kind = kd at *
 rcases hk with rfl | rfl | rfl
 all_goals
  first
  | rw [if_pos rfl]
  | rw [if_neg (by decide),if_pos rfl]
  | rw [if_neg (by decide),if_neg (by decide)]
  go_enter Tryz.func75,Tryz.ntmps75
  go_upto_region 1 with (fail)
  go_quiet ((go_at_call 152; exact Calls.quiet_of_same ((HF.out _ (by first | exact HOW.out | exact own_drew HOW.out | exact own_drewN _ HOW.out)).mono fun e w' h=>⟨h.1,h.2.symm⟩)))
  have k1:=hkk nq
  clear hkk c0 c3 c4
  go_wp2_with fail
  go_ret
  exact ⟨rfl,_,rfl⟩
def statusV (j : JobM) : Value:=.agg #[.int .i64 j.kind,.int .i64 j.file,.int .i64 j.st,.int .i64 (cnt j.x : Nat)]
theorem results_status {fn : Func} {t : Tmp} (h : fn.results = #[.cell t 47]) (tmps : Array Value) (w : World) (g : Nat) (a b c d : Int) (hg : tmps.getD t undef = .pointer (some ⟨g,0,none⟩))
  (h0 : w.cell? ⟨g,0,none⟩ = some (.int .i64 a)) (h1 : w.cell? ⟨g,1,none⟩ = some (.int .i64 b)) (h2 : w.cell? ⟨g,2,none⟩ = some (.int .i64 c)) (h3 : w.cell? ⟨g,3,none⟩ = some (.int .i64 d)) :
  (results fn tmps).run Tryz.prog w = .ok (.agg #[.int .i64 a,.int .i64 b,.int .i64 c,.int .i64 d]) w:=by
 rw [results_cell1 h,hg]
 go_simp
set_option maxRecDepth 100000 in
set_option maxHeartbeats 4000000 in
theorem jstatus_any (bs bj bt bb : Nat) (v : Value) (j : JobM) (hj : j.Ok) (L : List SL.HP) (w : World) (H : own w (jobL bs bj bt bb v j++L)) :
  Calls Tryz.prog 19 #[.pointer (some ⟨bj,0,none⟩)] w fun e w'=>e = .returned (statusV j)∧Ext w w'∧own w' (jobL bs bj bt bb v j++L):=by
 have ha:=own_alloc H (.cells #[.int .i64 0,.int .i64 0,.int .i64 0,.int .i64 0] 47)
 have hxa:=(Ext.refl w).alloc (.cells #[.int .i64 0,.int .i64 0,.int .i64 0,.int .i64 0] 47)
 have hc : ∀g w',own w' (pts g (.cells #[.int .i64 0,.int .i64 0,.int .i64 0,.int .i64 0] 47 (0,0))::(jobL bs bj bt bb v j++L))→Calls Tryz.prog 88 #[.pointer (some ⟨bt,0,none⟩)] w' fun e w''=>e = .returned (.int .i64 (cnt j.x : Nat))∧w' = w'':=
  fun g w' h=>by have:=bset_count bt j.n j.x hj.x64 2 w' h rfl; rw [popc_cnt] at this; exact this
 have HC:=Lib.hid hc
 unfold statusV
 generalize cnt j.x = q at *
 clear hc H
 go_enter Tryz.func19,Tryz.ntmps19
 go_upto_region 1 with (fail)
 generalize w.heap.size = g at *
 generalize w.alloc (.cells #[.int .i64 0,.int .i64 0,.int .i64 0,.int .i64 0] 47) = w1 at *
 obtain ⟨cc,ff⟩:=own_cells 1 ha rfl
 have c1:=cc 1
 have c2:=cc 2
 have c5:=cc 5
 have c7:=cc 7
 clear cc ff
 have hb:=own_drew ha
 have hxb:=hxa.drew
 have hcq:=(HC.out _ _ hb).mono fun e w' h=>(⟨h.1,h.2.symm⟩ : e = .returned (.int .i64 (q : Int))∧w' = w1.drew)
 go_still_tail 18,(by kernel_rfl)
 still_call hcq
 repeat still_step
 refine wpStill_nil ?_
 change wpList _ _ _ _ _ w1.drew
 clear ha hxa c1 c2 c5 c7 hcq
 generalize w1.drew = w2 at *
 obtain ⟨cg,fg⟩:=own_cells 0 hb rfl
 go_wp2_with fail
 have h5:=own_set (i:=3) (v:=.int .i64 (q : Int)) 0 (own_set (i:=2) (v:=.int .i64 j.st) 0 (own_set (i:=1) (v:=.int .i64 j.file) 0 (own_set (i:=0) (v:=.int .i64 j.kind) 0 hb rfl) rfl) rfl) rfl
 obtain ⟨c3,-⟩:=own_cells 0 h5 rfl
 refine bodyPost_ret (results_status rfl _ _ g j.kind j.file j.st (q : Int) rfl (c3 0) (c3 1) (c3 2) (c3 3)) rfl ?_
 exact ⟨rfl,(((hxb.setCell _ _).setCell _ _).setCell _ _).setCell _ _,own_drop h5⟩
end Go.Proofs.YtbpblokfiajpjabGreatDoor

namespace Go.Proofs.YtbpblokfiajpjabGreatDoor
open Go.RowKit Go.SL Go.Crc
attribute [local go_sem ↓] Go.wp_at_zero Go.wp_at_succ
structure JobS (F : ShM) (j : JobM) : Prop where
 list : ∀x∈j.list,isFile F x
 file : j.kind≠2→isFile F j.file
def toM (j : JobM) : Int:=if j.kind = 2 then j.list.getD 0 0 else j.file
theorem toM_file {F : ShM} {j : JobM} (hj : j.Ok) (h : JobS F j) : isFile F (toM j):=by
 unfold toM
 split
 ·exact h.list _ (mem0 hj.pos)
 ·rename_i h2; exact h.file h2
theorem JobS.step {F F' : ShM} {j : JobM} {n : Nat} (h : JobS F j) (s : ShStep n F F') : JobS F' j:=⟨fun x hx=>s.file (h.list x hx),fun h2=>s.file (h.file h2)⟩
theorem readM_size {F : ShM} (hF : ShOk F) {l : List Int} (hl : ∀x∈l,isFile F x) (c : Int) : (readM F l c).1.size≤64:=by
 by_cases h0 : l.length = 0
 ·unfold readM; rw [if_pos h0]; exact Nat.zero_le _
 ·by_cases hc : thereC F (l.getD 0 0) c = true
  ·rw [(readM_ok hF hl h0 hc).2]; exact Nat.le_refl _
  ·unfold readM; rw [if_neg h0,if_pos (by simpa using hc)]; exact Nat.zero_le _
def jmoveM (F : ShM) (j : JobM) (c : Int) : Int×ShM:=
 if wantsM F j c = false then (0,F) else if (readM F j.list c).2≠0 then ((readM F j.list c).2,F) else moveM F (toM j).toNat c (readM F j.list c).1
theorem jmoveM_step {F : ShM} (hF : ShOk F) {j : JobM} (hj : j.Ok) (h : JobS F j) (c : Int) : ShStep 5 F (jmoveM F j c).2:=by
 unfold jmoveM
 split
 ·exact ShStep.refl hF 5
 ·split
  ·exact ShStep.refl hF 5
  ·obtain ⟨h0,h1,-⟩:=toM_file hj h
   exact moveM_step hF (by omega) c _
theorem jmoveM_code (F : ShM) (j : JobM) (c : Int) : 0≤(jmoveM F j c).1:=by
 unfold jmoveM
 split
 ·simp
 ·split
  ·exact readM_code F _ _
  ·exact moveM_code F _ _ _
set_option maxRecDepth 100000 in
set_option maxHeartbeats 8000000 in
theorem jmove_any (bs : Nat) (A : Nat→Nat×Nat×Nat) (F : ShM) (hF : ShOk F) (bj bt bb : Nat) (v : Value) (j : JobM) (hj : j.Ok) (hS : JobS F j) (c : Int) (R : List SL.HP) (w : World)
  (hv : ∀w' L,own w' (L++R)→IntsAt w' v j.list) (H : own w (shL bs A F++(jobL bs bj bt bb v j++R))) :
  Calls Tryz.prog 150 #[.pointer (some ⟨bj,0,none⟩),.int .i64 c] w fun e w'=>e = .returned (errV (jmoveM F j c).1)∧Ext w w'∧own w' (shL bs A (jmoveM F j c).2++(jobL bs bj bt bb v j++R)):=by
 have HW:=Lib.hid (jwants_any bs A F hF bj bt bb v j hj hS.list c R w hv H)
 have hvw:=ints_more hv (jobL bs bj bt bb v j)
 have HR:=Lib.hid (fun w' h=>shread_any bs A F hF v j.list hS.list hj.len c (jobL bs bj bt bb v j++R) w' hvw h)
 have hto:=toM_file hj hS
 obtain ⟨k,m,hxk,hk,hFk⟩:=isFile_nat hto
 have hsz:=readM_size hF hS.list c
 have HM:=Lib.hid (fun w' h=>smove_any bs A F hF k m hk hFk c (readM F j.list c).1 (by omega) (jobL bs bj bt bb v j++R) w' h)
 have e0 : jmoveM F j c = if wantsM F j c = false then (0,F) else if (readM F j.list c).2≠0 then ((readM F j.list c).2,F) else moveM F k c (readM F j.list c).1:=by
  unfold jmoveM; rw [hxk,Int.toNat_natCast]
 have hcode:=readM_code F j.list c
 have hmc:=moveM_code F k c (readM F j.list c).1
 rw [e0]
 generalize readM F j.list c = rd at *
 obtain ⟨t,rc⟩:=rd
 dsimp only at *
 generalize moveM F k c t = mv at *
 obtain ⟨mc,F'⟩:=mv
 dsimp only at *
 have HOW:=Lib.hid H
 clear e0 hFk hsz hto
 cases hw : wantsM F j c
 ·rw [hw] at HW
  rw [if_pos rfl]
  clear hw
  go_enter Tryz.func150,Tryz.ntmps150
  go_wp2_with fail
  refine HW.out.mono ?_
  rintro e w2 ⟨rfl,n2,rfl⟩
  go_wp2_with fail
  go_ret
  exact ⟨rfl,(Ext.refl _).drewN _,own_drewN _ HOW.out⟩
 ·rw [hw] at HW
  rw [if_neg (by decide)]
  obtain ⟨ao,lb,off,cap,rfl,hlc,hcap,hao,-⟩:=(hvw w _ H).form
  obtain rfl:=hao (by have:=hj.pos; omega)
  have HV:=Lib.hid hvw
  have hpos : 0 < j.list.length:=by have:=hj.pos; omega
  have hlen : j.list.length≤cap:=hlc
  unfold toM at hxk
  clear hw hlc hao hvw hv
  by_cases hrc : rc = 0
  ·subst hrc
   rw [if_neg (by decide)]
   by_cases hkd : j.kind = 2
   ·rw [if_pos hkd] at hxk
    have HX:=Lib.hid hxk
    have HKD:=Lib.hid hkd
    rw [show errV 0 = .nilIface from rfl] at HR
    have l0 : (0 : Int) < (j.list.length : Int):=by omega
    clear hxk hkd
    go_enter Tryz.func150,Tryz.ntmps150
    go_wp2_with fail
    refine HW.out.mono ?_
    rintro e w2 ⟨rfl,n2,rfl⟩
    have h2:=own_drewN n2 H
    have hx2:=(Ext.refl w).drewN n2
    clear H
    generalize w.drewN n2 = w3 at *
    go_upto_region 3 with (fail)
    have hd:=own_drew h2
    have hxd:=hx2.drew
    clear h2 hx2
    go_region_held3 (fun w'=>w'.cell? ⟨bj,0,none⟩ = some (.pointer (some ⟨bs,0,none⟩))∧w'.cell? ⟨bj,3,none⟩ = some (.slice (some ⟨lb,off,none⟩) j.list.length cap)) (first | exact ⟨(own_cells 6 hd rfl).1 0,(own_cells 6 hd rfl).1 3⟩ | exact ⟨(own_cells 6 h4 rfl).1 0,(own_cells 6 h4 rfl).1 3⟩) ((go_at_call 59; refine (HR.out _ hd).mono ?_; rintro e w4 ⟨rfl,hx4,h4⟩))
    have hx5:=hxd.trans hx4
    clear hd hxd hx4
    have c0:=(own_cells 6 h4 rfl).1 0
    have c1 : w4.cell? ⟨bj,1,none⟩ = some (.int .i64 2):=by rw [← HKD.out]; exact (own_cells 6 h4 rfl).1 1
    have c2:=(own_cells 6 h4 rfl).1 2
    have c3:=(own_cells 6 h4 rfl).1 3
    have c9 : w4.cell? ⟨lb,off,none⟩ = some (.int .i64 (k : Int)):=by rw [← HX.out]; exact ints_cell (HV.out _ _ h4) hpos
    go_wp2_with fail
    refine (HM.out _ h4).mono ?_
    rintro e w5 ⟨rfl,hx6,h6⟩
    go_wp2_with fail
    go_ret
    exact ⟨rfl,hx5.trans hx6,h6⟩
   ·rw [if_neg hkd] at hxk
    have HX:=Lib.hid hxk
    have d2 : (j.kind == 2) = false:=by rw [beq_eq_false_iff_ne]; exact hkd
    rw [show errV 0 = .nilIface from rfl] at HR
    clear hxk hkd
    go_enter Tryz.func150,Tryz.ntmps150
    go_wp2_with fail
    refine HW.out.mono ?_
    rintro e w2 ⟨rfl,n2,rfl⟩
    have h2:=own_drewN n2 H
    have hx2:=(Ext.refl w).drewN n2
    clear H
    generalize w.drewN n2 = w3 at *
    go_upto_region 3 with (fail)
    have hd:=own_drew h2
    have hxd:=hx2.drew
    clear h2 hx2
    go_region_held3 (fun w'=>w'.cell? ⟨bj,0,none⟩ = some (.pointer (some ⟨bs,0,none⟩))∧w'.cell? ⟨bj,3,none⟩ = some (.slice (some ⟨lb,off,none⟩) j.list.length cap)) (first | exact ⟨(own_cells 6 hd rfl).1 0,(own_cells 6 hd rfl).1 3⟩ | exact ⟨(own_cells 6 h4 rfl).1 0,(own_cells 6 h4 rfl).1 3⟩) ((go_at_call 59; refine (HR.out _ hd).mono ?_; rintro e w4 ⟨rfl,hx4,h4⟩))
    have hx5:=hxd.trans hx4
    clear hd hxd hx4
    have c0:=(own_cells 6 h4 rfl).1 0
    have c1:=(own_cells 6 h4 rfl).1 1
    have c2 : w4.cell? ⟨bj,2,none⟩ = some (.int .i64 (k : Int)):=by rw [← HX.out]; exact (own_cells 6 h4 rfl).1 2
    go_wp2_with fail
    refine (HM.out _ h4).mono ?_
    rintro e w5 ⟨rfl,hx6,h6⟩
    go_wp2_with fail
    go_ret
    exact ⟨rfl,hx5.trans hx6,h6⟩
  ·rw [if_pos hrc]
   have hp : 0 < rc:=by omega
   rw [errV_pos hp] at HR ⊢
   clear hxk hrc
   go_enter Tryz.func150,Tryz.ntmps150
   go_wp2_with fail
   refine HW.out.mono ?_
   rintro e w2 ⟨rfl,n2,rfl⟩
   have h2:=own_drewN n2 H
   have hx2:=(Ext.refl w).drewN n2
   clear H
   generalize w.drewN n2 = w3 at *
   go_upto_region 3 with (fail)
   have hd:=own_drew h2
   have hxd:=hx2.drew
   clear h2 hx2
   go_region_held3 (fun w'=>w'.cell? ⟨bj,0,none⟩ = some (.pointer (some ⟨bs,0,none⟩))∧w'.cell? ⟨bj,3,none⟩ = some (.slice (some ⟨lb,off,none⟩) j.list.length cap)) (first | exact ⟨(own_cells 6 hd rfl).1 0,(own_cells 6 hd rfl).1 3⟩ | exact ⟨(own_cells 6 h4 rfl).1 0,(own_cells 6 h4 rfl).1 3⟩) ((go_at_call 59; refine (HR.out _ hd).mono ?_; rintro e w4 ⟨rfl,hx4,h4⟩))
   have hx5:=hxd.trans hx4
   clear hd hxd hx4
   go_wp2_with fail
   go_ret
   exact ⟨rfl,hx5,h4⟩
end Go.Proofs.YtbpblokfiajpjabGreatDoor

namespace Go.Proofs.YtbpblokfiajpjabGreatDoor
open Go.RowKit Go.SL Go.Deep Go.ChangeShapes Go.WideShapes Go.Joins
section
variable {H : Type} {enc : TypeId×Value→H} {w : World} {base : Nat} {spare : Nat→Bool} {held : Bool}
theorem list5 {α : Type} {l : List α} (h : l.length = 5) : ∃c0 c1 c2 c3 c4,l = [c0,c1,c2,c3,c4]:=by
 match l,h with
 | [c0,c1,c2,c3,c4],_=>exact ⟨_,_,_,_,_,rfl⟩
set_option maxRecDepth 100000 in
theorem desk_open {r : Reach} {b0 : Nat} {v : Value} {d : DataW H} {p : List MemPlace} (hv : Value.okWide Tryz.prog w r b0 24 v) (h : DataW.Trod enc Tryz.prog w base spare held 24 v d p) :
  ∃a b c x y,v = deskV a b c x y:=by
 obtain ⟨cs,rfl,hsz⟩:=okWide_struct Tryz.underlying24 hv
 have hC : Tryz.prog.cellsOf 24 = 5:=by kernel_rfl
 obtain ⟨l⟩:=cs
 obtain ⟨c0,c1,c2,c3,c4,rfl⟩:=list5 (hsz.trans hC)
 obtain ⟨fuel,hf⟩:=h
 obtain ⟨ys,n',hyl,hg'⟩:=struct_fields Tryz.underlying24 (by kernel_rfl) hf
 obtain ⟨y0,y1,y2,y3,y4,rfl⟩ : ∃c0 c1 c2 c3 c4,ys = [c0,c1,c2,c3,c4]:=list5 hyl
 have g0 : DataW.trod enc Tryz.prog w base spare held n' 3 [c0] = some y0:=hg' 0 _ rfl
 have g1 : DataW.trod enc Tryz.prog w base spare held n' 3 [c1] = some y1:=hg' 1 _ rfl
 have g2 : DataW.trod enc Tryz.prog w base spare held n' 3 [c2] = some y2:=hg' 2 _ rfl
 have g3 : DataW.trod enc Tryz.prog w base spare held n' 3 [c3] = some y3:=hg' 3 _ rfl
 have g4 : DataW.trod enc Tryz.prog w base spare held n' 3 [c4] = some y4:=hg' 4 _ rfl
 obtain ⟨a,h0,_,k0⟩:=DataW.trod_int Tryz.underlying3 g0
 obtain ⟨b,h1,_,k1⟩:=DataW.trod_int Tryz.underlying3 g1
 obtain ⟨c,h2,_,k2⟩:=DataW.trod_int Tryz.underlying3 g2
 obtain ⟨x,h3,_,k3⟩:=DataW.trod_int Tryz.underlying3 g3
 obtain ⟨y,h4,_,k4⟩:=DataW.trod_int Tryz.underlying3 g4
 simp only [List.cons.injEq,and_true] at h0 h1 h2 h3 h4
 subst h0 h1 h2 h3 h4
 exact ⟨a,b,c,x,y,rfl⟩
end
end Go.Proofs.YtbpblokfiajpjabGreatDoor

namespace Go.Proofs.YtbpblokfiajpjabGreatDoor
open Go.RowKit Go.SL Go.Crc Go.Deep Go.ChangeShapes Go.WideShapes
attribute [local go_sem ↓] Go.wp_at_zero Go.wp_at_succ
structure FileM where
 there : Bool
 c : Int
 p : Int
 b : Int
 iv : Value
 is : List Int
def fileNone : FileM:=⟨false,0,0,0,.slice none 0 0,[]⟩
instance : Inhabited FileM:=⟨fileNone⟩
def FileCells (w : World) (b o : Nat) (f : FileM) : Prop:=
 w.cell? ⟨b,o,none⟩ = some (.bool f.there)∧w.cell? ⟨b,o + 1,none⟩ = some (.int .i64 f.c)∧w.cell? ⟨b,o + 2,none⟩ = some (.int .i64 f.p)∧w.cell? ⟨b,o + 3,none⟩ = some (.int .i64 f.b)∧w.cell? ⟨b,o + 4,none⟩ = some f.iv
structure FileOk (w : World) (f : FileM) : Prop where
 c : i64ok f.c
 p : i64ok f.p
 b : i64ok f.b
 is : IntsAt w f.iv f.is
 all : ∀x∈f.is,i64ok x
def FilesAt (w : World) (v : Value) (l : List FileM) : Prop:=
 SlAt v l.length (fun b off i=>FileCells w b (off + i * 5) (l.getD i fileNone))∧∀f∈l,FileOk w f
theorem FilesAt.form {w : World} {v : Value} {l : List FileM} (h : FilesAt w v l) : ∃ao b off cap,v = .slice ao l.length cap∧l.length≤cap∧cap≤9223372036854775807∧(0 < l.length→ao = some ⟨b,off,none⟩)∧
  ∀i,i < l.length→FileCells w b (off + i * 5) (l.getD i fileNone):=by
 obtain ⟨⟨ao,b,off,cap,hv,h1,h2,h3,h4⟩,-⟩:=h
 exact ⟨ao,b,off,cap,hv,h1,h2,h3,h4⟩
theorem ints_later {w w' : World} {L : List HP} (k : Nat) (H : own w' L) (hk : L[k]? = some (exactly w)) {v : Value} {l : List Int} (h : IntsAt w v l) : IntsAt w' v l:=by
 obtain ⟨ao,b,off,cap,hv,h1,h2,h3,h4⟩:=h
 exact ⟨ao,b,off,cap,hv,h1,h2,h3,fun i hi=>rd_later k H hk (h4 i hi)⟩
theorem FilesAt.later {w w' : World} {L : List HP} (k : Nat) (H : own w' L) (hk : L[k]? = some (exactly w)) {v : Value} {l : List FileM} (h : FilesAt w v l) : FilesAt w' v l:=by
 obtain ⟨⟨ao,b,off,cap,hv,h1,h2,h3,h4⟩,h5⟩:=h
 refine ⟨⟨ao,b,off,cap,hv,h1,h2,h3,fun i hi=>?_⟩,fun f hf=>?_⟩
 ·obtain ⟨c0,c1,c2,c3,c4⟩:=h4 i hi
  exact ⟨rd_later k H hk c0,rd_later k H hk c1,rd_later k H hk c2,rd_later k H hk c3,rd_later k H hk c4⟩
 ·have ok:=h5 f hf
  exact ⟨ok.c,ok.p,ok.b,ints_later k H hk ok.is,ok.all⟩
theorem file_getD {l : List FileM} {i : Nat} (hi : i < l.length) : l.getD i fileNone∈l:=by simp [hi]
section
variable {H : Type} {enc : TypeId×Value→H} {w : World} {base : Nat} {spare : Nat→Bool} {held : Bool}
theorem ints_open {fuel : Nat} {v : Value} {x : DataW H×List MemPlace} (h : DataW.trod enc Tryz.prog w base spare held fuel 95 [v] = some x) : ∃ks,IntsAt w v ks∧∀x∈ks,i64ok x:=by
 rcases open_slice Tryz.underlying95 h with ⟨hcs,_⟩ | ⟨a,len,cap,m,n,D,Pl,hcs,_,hl,hm,hmm,_,hi⟩
 ·simp only [List.cons.injEq,and_true] at hcs
  subst hcs
  exact ⟨[],⟨none,0,0,0,rfl,Nat.le_refl _,by omega,fun h=>absurd h (by simp),fun i h=>absurd h (by simp)⟩,by simp⟩
 ·simp only [List.cons.injEq,and_true] at hcs
  subst hcs
  have hC : Tryz.prog.cellsOf 3 = 1:=by kernel_rfl
  have hlm : len≤m:=by rw [hmm]; split <;> omega
  have hb : ∀i,i < len→∃b : Int,w.cell? (a.add i) = some (.int .i64 b)∧i64ok b:=fun i h=>by
   obtain ⟨cs',hc,ht⟩:=hi i (by omega)
   obtain ⟨b,rfl,_,hw⟩:=DataW.trod_int Tryz.underlying3 ht
   rw [hC] at hc
   obtain ⟨_,_,hat⟩:=World.cells?_some hc
   have:=hat 0 (by omega)
   rw [Deep.add_add] at this
   simp at this
   exact ⟨b,this,wf_i64ok hw⟩
  obtain ⟨f,hf⟩:=Deep.choose_lt hb
  refine ⟨(List.range len).map f,⟨some a,a.block,a.off,cap,by simp,by simpa using hl,by simpa [maxLen] using hm,fun hlt=>?_,fun i hlt=>?_⟩,fun x hx=>?_⟩
  ·have h0:=(hf 0 (by simpa using hlt)).1
   have:=World.cell?_spot h0
   simp [Addr.add] at this
   obtain ⟨b,o,s⟩:=a
   simp_all
  ·have hi:=(hf i (by simpa using hlt)).1
   have h0:=(hf 0 (by simp at hlt; omega)).1
   have hs:=World.cell?_spot h0
   obtain ⟨b,o,s⟩:=a
   simp [Addr.add] at hs
   subst hs
   rw [add_none] at hi
   have h' : i < len:=by simpa using hlt
   simp [h',hi]
  ·simp at hx
   obtain ⟨i,hi,rfl⟩:=hx
   exact (hf i hi).2
theorem list3' {α : Type} {l : List α} (h : l.length = 3) : ∃c0 c1 c2,l = [c0,c1,c2]:=by
 match l,h with
 | [c0,c1,c2],_=>exact ⟨_,_,_,rfl⟩
set_option maxRecDepth 100000 in
theorem files_open {fuel : Nat} {v : Value} {x : DataW H×List MemPlace} (h : DataW.trod enc Tryz.prog w base spare held fuel 22 [v] = some x) : ∃l,FilesAt w v l:=by
 rcases open_slice Tryz.underlying22 h with ⟨hcs,_⟩ | ⟨a,len,cap,m,n,D,Pl,hcs,_,hl,hm,hmm,_,hi⟩
 ·simp only [List.cons.injEq,and_true] at hcs
  subst hcs
  exact ⟨[],⟨none,0,0,0,rfl,Nat.le_refl _,by omega,fun h=>absurd h (by simp),fun i h=>absurd h (by simp)⟩,by simp⟩
 ·simp only [List.cons.injEq,and_true] at hcs
  subst hcs
  have hC : Tryz.prog.cellsOf 105 = 5:=by kernel_rfl
  have hC1 : Tryz.prog.cellsOf 4 = 1:=by kernel_rfl
  have hC3 : Tryz.prog.cellsOf 103 = 3:=by kernel_rfl
  have hCs : Tryz.prog.cellsOf 95 = 1:=by kernel_rfl
  have hlm : len≤m:=by rw [hmm]; split <;> omega
  have hb : ∀i,i < len→∃x : FileM,(∃b o,a.add (i * 5) = ⟨b,o,none⟩∧FileCells w b o x)∧FileOk w x:=fun i h=>by
   obtain ⟨cs',hc,ht⟩:=hi i (by omega)
   rw [hC] at hc
   obtain ⟨_,hlen,hat⟩:=World.cells?_some hc
   obtain ⟨ys,n',_,_,_,hyl,hg'⟩:=DataW.trod_struct Tryz.underlying105 ht
   obtain ⟨c0,c1,c2,c3,c4,rfl⟩ : ∃c0 c1 c2 c3 c4,cs' = [c0,c1,c2,c3,c4]:=list5 hlen
   obtain ⟨y0,y1,y2,rfl⟩ : ∃c0 c1 c2,ys = [c0,c1,c2]:=list3' hyl
   have g0 : DataW.trod enc Tryz.prog w base spare held n' 4 (([c0,c1,c2,c3,c4].drop 0).take (Tryz.prog.cellsOf 4)) = some y0:=hg' 0 _ rfl
   have g1 : DataW.trod enc Tryz.prog w base spare held n' 103 (([c0,c1,c2,c3,c4].drop 1).take (Tryz.prog.cellsOf 103)) = some y1:=hg' 1 _ rfl
   have g2 : DataW.trod enc Tryz.prog w base spare held n' 95 (([c0,c1,c2,c3,c4].drop 4).take (Tryz.prog.cellsOf 95)) = some y2:=hg' 2 _ rfl
   rw [hC1] at g0
   rw [hC3] at g1
   rw [hCs] at g2
   change DataW.trod enc Tryz.prog w base spare held n' 4 [c0] = some y0 at g0
   change DataW.trod enc Tryz.prog w base spare held n' 103 [c1,c2,c3] = some y1 at g1
   change DataW.trod enc Tryz.prog w base spare held n' 95 [c4] = some y2 at g2
   obtain ⟨zs',n2,hzl,hz'⟩:=struct_fields Tryz.underlying103 (by kernel_rfl) g1
   obtain ⟨z0,z1,z2,rfl⟩ : ∃c0 c1 c2,zs' = [c0,c1,c2]:=list3' hzl
   have q0 : DataW.trod enc Tryz.prog w base spare held n2 3 [c1] = some z0:=hz' 0 _ rfl
   have q1 : DataW.trod enc Tryz.prog w base spare held n2 3 [c2] = some z1:=hz' 1 _ rfl
   have q2 : DataW.trod enc Tryz.prog w base spare held n2 3 [c3] = some z2:=hz' 2 _ rfl
   obtain ⟨bt,h0,_⟩:=DataW.trod_bool Tryz.underlying4 g0
   obtain ⟨A,h1,_,hA⟩:=DataW.trod_int Tryz.underlying3 q0
   obtain ⟨B,h2,_,hB⟩:=DataW.trod_int Tryz.underlying3 q1
   obtain ⟨C,h3,_,hC'⟩:=DataW.trod_int Tryz.underlying3 q2
   obtain ⟨ks,hks,hki⟩:=ints_open g2
   simp only [List.cons.injEq,and_true] at h0 h1 h2 h3
   subst h0 h1 h2 h3
   have hat0:=hat 0 (by omega)
   have hat1:=hat 1 (by omega)
   have hat2:=hat 2 (by omega)
   have hat3:=hat 3 (by omega)
   have hat4:=hat 4 (by omega)
   simp only [List.getElem?_cons_succ,List.getElem?_cons_zero,Addr.add,if_true] at hat0
   obtain ⟨b,o,e⟩:=add_spot (i:=i * 5) (by simpa [Addr.add] using hat0)
   rw [e,add_none] at hat1 hat2 hat3 hat4
   have hat0' : w.cell? ⟨b,o,none⟩ = some (.bool bt):=by rw [← e]; simpa [Addr.add] using hat0
   exact ⟨⟨bt,A,B,C,c4,ks⟩,⟨b,o,e,hat0',by simpa using hat1,by simpa using hat2,by simpa using hat3,by simpa using hat4⟩,⟨wf_i64ok hA,wf_i64ok hB,wf_i64ok hC',hks,hki⟩⟩
  obtain ⟨f,hf⟩:=Deep.choose_lt hb
  refine ⟨(List.range len).map f,⟨some a,a.block,a.off,cap,by simp,by simpa using hl,by simpa [maxLen] using hm,fun hlt=>?_,fun i hlt=>?_⟩,fun x hx=>?_⟩
  ·obtain ⟨⟨b,o,e,_⟩,_⟩:=hf 0 (by simpa using hlt)
   simp [Addr.add] at e
   rw [e]
  ·simp at hlt
   obtain ⟨⟨b0,o0,e0,_⟩,_⟩:=hf 0 (by omega)
   simp [Addr.add] at e0
   obtain ⟨⟨b,o,e,hc⟩,_⟩:=hf i hlt
   subst e0
   rw [add_none] at e
   simp at e
   obtain ⟨rfl,rfl⟩:=e
   simp [hlt,hc]
  ·simp at hx
   obtain ⟨i,hi,rfl⟩:=hx
   exact (hf i hi).2
end
def lightF (l : List FileM) : Bool:=decide (l.length≤5) && l.all fun f=>decide (f.is.length≤40)
theorem ints_len {w : World} {v : Value} {ks : List Int} (h : IntsAt w v ks) : ∃ao cap,v = .slice ao ks.length cap∧ks.length≤9223372036854775807:=by
 obtain ⟨ao,b,off,cap,hv,h1,h2,_⟩:=h
 exact ⟨ao,cap,hv,by omega⟩
set_option maxRecDepth 100000 in
set_option maxHeartbeats 1000000 in
theorem lightfiles_any (v : Value) (l : List FileM) (w : World) (hv : FilesAt w v l) :
  Calls Tryz.prog 12 #[v] w fun e w'=>e = .returned (.bool (lightF l))∧w = w':=by
 obtain ⟨⟨ao,b,off,cap,rfl,hc1,hc2,hao,hat⟩,hok⟩:=hv
 by_cases hm : (l.length : Int)≤5
 ·go_enter Tryz.func12,Tryz.ntmps12
  go_wp2_with fail
  go_loop [3] (fun i=>∃k : Nat,k≤l.length∧i = .int .i64 k∧∀j,j < k→(l.getD j fileNone).is.length≤40) (fun i=>l.length - (intOf i).toNat)
  case atStart=>exact ⟨0,Nat.zero_le _,rfl,fun j h=>absurd h (by omega)⟩
  case round=>
   obtain ⟨k,hk,rfl,hj⟩:=hrel
   by_cases hlt : k < l.length
   ·obtain rfl:=hao (by omega)
    obtain ⟨-,-,-,-,c4⟩:=hat k hlt
    have ok:=hok _ (file_getD hlt)
    obtain ⟨ko,kc,hkv,hkl⟩:=ints_len ok.is
    rw [hkv] at c4
    have HJ:=Lib.hid hj
    have HO:=Lib.hid hok
    clear hj hok hkv ok hat hao
    generalize hx : l.getD k fileNone = x at *
    have HX:=Lib.hid hx
    clear hx
    by_cases h1 : x.is.length≤40
    ·go_wp2_with fail
     go_round
     case rel=>exact ⟨k + 1,by omega,by go_num,fun j h=>by
      by_cases e : j = k
      ·subst e; rw [HX.out]; exact h1
      ·exact HJ.out j (by omega)⟩
     case measure=>simp [intOf]; omega
    ·go_wp2_with fail
     go_ret
     refine ⟨ret_bool ?_,rfl⟩
     symm
     unfold lightF
     rw [Bool.and_eq_false_iff]
     refine .inr (List.all_eq_false.2 ⟨_,file_getD hlt,?_⟩)
     rw [HX.out]; simp [h1]
   ·have HJ:=Lib.hid hj
    clear hj
    go_wp2_with fail
    go_ret
    refine ⟨ret_bool ?_,rfl⟩
    unfold lightF
    rw [eq_comm,Bool.and_eq_true]
    refine ⟨by simp; omega,List.all_eq_true.2 fun x hx=>?_⟩
    obtain ⟨j,hj,rfl⟩:=List.getElem_of_mem hx
    have:=HJ.out j (by omega)
    simpa [hj] using this
 ·go_enter Tryz.func12,Tryz.ntmps12
  go_wp2_with fail
  go_ret
  exact ⟨ret_bool (by rw [lightF,decide_eq_false (show ¬l.length≤5 by omega)]; rfl),rfl⟩
end Go.Proofs.YtbpblokfiajpjabGreatDoor

namespace Go.Proofs.YtbpblokfiajpjabGreatDoor
open Go.RowKit Go.SL Go.Crc
attribute [local go_sem ↓] Go.wp_at_zero Go.wp_at_succ
def cbv (b : Int) (j : Nat) : Int:=wrap64 (bits BinOp.and IntKind.i64 b 127 + (j : Int) / 16) % 256
def clusN (b : Int) (q : Nat) : List Int:=(List.range 64).map fun (j : Nat)=>if j < q then cbv b j else 0
def clusS (b : Int) : ByteArray:=strOfNums (clusN b 64)
theorem clusN_len (b : Int) (q : Nat) : (clusN b q).length = 64:=by simp [clusN]
theorem clusS_size (b : Int) : (clusS b).size = 64:=by unfold clusS; rw [strOfNums_size,clusN_len]
theorem clusN_zero (b : Int) : clusN b 0 = List.replicate 64 0:=by rfl
theorem clusN_set (b : Int) {q : Nat} (hq : q < 64) : (clusN b q).set q (cbv b q) = clusN b (q + 1):=by
 apply List.ext_getElem
 ·simp [clusN]
 ·intro i h1 h2
  simp only [List.getElem_set,clusN,List.getElem_map,List.getElem_range]
  by_cases e : q = i
  ·subst e; simp
  ·rw [if_neg e]
   by_cases h : i < q
   ·rw [if_pos h,if_pos (by omega)]
   ·rw [if_neg h,if_neg (by omega)]
theorem clusN_get (b : Int) (q : Nat) {j : Nat} (hj : j < 64) : (byteCells (clusN b q))[j]? = some (.int .u8 (if j < q then cbv b j else 0)):=by simp [byteCells,clusN,hj]
set_option maxRecDepth 100000 in
set_option maxHeartbeats 1000000 in
theorem cluster_any (b : Int) (R : List SL.HP) (w : World) (H : own w R) : Calls Tryz.prog 60 #[.int .i64 b] w fun e w'=>e = .returned (.string (clusS b))∧Ext w w'∧own w' R:=by
 go_enter Tryz.func60,Tryz.ntmps60
 have hml : 64≤maxLen:=by simp only [maxLen]; omega
 go_wp2_with (first | (refine wpList_make_row rfl _ _ 211 rfl 5 Tryz.underlying211 elem_byte rfl .i64 .i64 64 rfl rfl (by omega) hml H ?_))
 intro w1 h1 hx1
 go_wp2_with fail
 go_loopw [4] (fun iv wr=>∃q : Nat,q≤64∧iv = .int .i64 q∧Ext w wr∧own wr (row 5 1 (.slice (some ⟨w.heap.size,0,none⟩) 64 64) 64 (byteCells (clusN b q))::R)) (fun iv _=>64 - (intOf iv).toNat)
 case atStart=>exact ⟨0,by omega,rfl,hx1,by rw [← show (madeCells #[Value.int IntKind.u8 0] 64).toList = byteCells (clusN b 0) from by rw [clusN_zero,toList_madeCells_one]; simp [byteCells]]; exact h1⟩
 case round=>
  obtain ⟨q,hq,rfl,hxr,hown⟩:=hrel
  by_cases hlt : q < 64
  ·obtain ⟨k2,k3⟩:=own_row_cells 0 hown rfl
   have c2:=k2 q _ (clusN_get b q hlt)
   have f3:=k3 q
   have w1 : (q : Int) < 64:=by omega
   have w2 : (0 : Int)≤(q : Int):=by omega
   clear k2 k3
   go_wp2_with fail
   go_roundw
   case rel=>
    have h5:=own_row_set 0 q (.int .u8 (cbv b q)) hown rfl (by omega)
    refine ⟨q + 1,by omega,by go_num,hxr.setCell _ _,?_⟩
    rw [← clusN_set b hlt]
    have e : byteCells ((clusN b q).set q (cbv b q)) = (byteCells (clusN b q)).set q (.int .u8 (cbv b q)):=by simp [byteCells]
    rw [e]
    exact h5
   case measure=>simp [intOf]; omega
  ·obtain rfl : q = 64:=by omega
   have hc:=conv_row 0 (clusN_len b 64) hown rfl (by omega)
   clear hq hlt
   go_wp2_with fail
   go_ret
   exact ⟨rfl,hxr,own_drop hown⟩
def clusOne (m : ImgM) (c : Nat) (b : Int) : ImgM:=if b = 1 then (m.clear c).2 else if 1 < b then (m.fill c (clusS b)).2 else m
def fillIs : ImgM→Nat→List Int→ImgM
 | m,_,[]=>m
 | m,c,b::l=>fillIs (clusOne m c b) (c + 1) l
def fileI (f : FileM) : Option ImgM:=if f.there = true then (if (createR (newDev 170) f.c f.p f.b).1 = 0 then some (fillIs (createR (newDev 170) f.c f.p f.b).2 0 f.is) else none) else none
def laidTo (l : List FileM) (q : Nat) : ShM:=fun k=>if k < q then fileI (l.getD k fileNone) else none
def laidM (l : List FileM) : ShM:=laidTo l l.length
theorem laidTo_zero (l : List FileM) : laidTo l 0 = fun _=>none:=funext fun k=>if_neg (by omega)
theorem laidTo_at (l : List FileM) (q : Nat) : laidTo l q q = none:=if_neg (by omega)
theorem laidTo_some {l : List FileM} {q : Nat} {m : ImgM} (h : fileI (l.getD q fileNone) = some m) : put (laidTo l q) q m = laidTo l (q + 1):=funext fun k=>by
 unfold put laidTo
 by_cases e : k = q
 ·subst e; rw [if_pos rfl,if_pos (by omega),h]
 ·rw [if_neg e]
  by_cases h1 : k < q
  ·rw [if_pos h1,if_pos (by omega)]
  ·rw [if_neg h1,if_neg (by omega)]
theorem laidTo_none {l : List FileM} {q : Nat} (h : fileI (l.getD q fileNone) = none) : laidTo l q = laidTo l (q + 1):=funext fun k=>by
 unfold laidTo
 by_cases e : k = q
 ·subst e; rw [if_neg (by omega),if_pos (by omega),h]
 ·by_cases h1 : k < q
  ·rw [if_pos h1,if_pos (by omega)]
  ·rw [if_neg h1,if_neg (by omega)]
theorem step_clusOne {m : ImgM} (hm : m.Ok) (hw : m.d.writes < 999000) (hp : m.d.pend.length < 999000) (c : Nat) (b : Int) : Step 5 m (clusOne m c b):=by
 unfold clusOne
 split
 ·exact (step_clear hm (by omega) (by omega) _).mono (by omega)
 ·split
  ·exact step_fill hm hw hp _ _
  ·exact Step.refl hm 5
theorem step_fillIs : ∀{l : List Int} {m : ImgM} {c N : Nat},m.Ok→m.d.writes≤N→m.d.pend.length≤N→N + 5 * l.length < 999000→Step (5 * l.length) m (fillIs m c l):=by
 intro l
 induction l with
 | nil=>intro m c N hm _ _ _; exact Step.refl hm _
 | cons b l ih=>
  intro m c N hm hw hp hN
  simp only [List.length_cons] at hN
  have h1:=step_clusOne hm (by omega) (by omega) c b
  have:=h1.wr
  have:=h1.pend
  exact (h1.trans (ih (c:=c + 1) (N:=N + 5) h1.ok (by omega) (by omega) (by omega))).mono (by simp; omega)
theorem new170 : (newDev 170).Ok:=newDev_ok (by omega)
theorem fileI_ok {f : FileM} {m : ImgM} (hl : f.is.length≤40) (h : fileI f = some m) : m.Ok∧m.d.writes≤300∧m.d.pend.length≤300:=by
 unfold fileI at h
 split at h
 ·split at h
  ·rename_i h0
   cases h
   obtain ⟨-,-,c3,c4,c5⟩:=created_ok (c:=f.c) (p:=f.p) (b:=f.b) new170 (by show (0 : Nat) < 999000; omega) (by show (0 : Int) < 999000; omega)
   rw [show (newDev 170).writes = 0 from rfl] at c4
   rw [show (newDev 170).pend.length = 0 from rfl] at c3
   obtain ⟨o1,-⟩:=c5 h0
   have:=step_fillIs (l:=f.is) (c:=0) (N:=5) o1 (by omega) (by omega) (by omega)
   have h1:=this.wr
   have h2:=this.pend
   exact ⟨this.ok,by omega,by omega⟩
  ·cases h
 ·cases h
theorem laidTo_W {l : List FileM} (hl : ∀f∈l,f.is.length≤40) (q : Nat) : ShW 300 (laidTo l q):=by
 have key : ∀k m,laidTo l q k = some m→m.Ok∧m.d.writes≤300∧m.d.pend.length≤300:=fun k m h=>by
  unfold laidTo at h
  split at h
  ·refine fileI_ok ?_ h
   by_cases hk : k < l.length
   ·exact hl _ (file_getD hk)
   ·rw [show l.getD k fileNone = fileNone by simp [hk]]; simp [fileNone]
  ·cases h
 exact ⟨fun k m _ h=>(key k m h).1,fun k m _ h=>(key k m h).2.1,fun k m _ h=>(key k m h).2.2⟩
theorem own_emp {w : World} {L : List HP} (H : own w L) : own w (emp::L):=
 own_mono (l:=L) (fun h hh=>⟨fun _=>none,h,fun _=>.inl ⟨rfl,rfl⟩,fun _=>rfl,hh⟩) H
def setA {α : Type} (A : Nat→α) (k : Nat) (x : α) : Nat→α:=fun j=>if j = k then x else A j
theorem setA_at {α : Type} (A : Nat→α) (k : Nat) (x : α) : setA A k x k = x:=if_pos rfl
theorem setA_ne {α : Type} (A : Nat→α) {k j : Nat} (x : α) (h : j≠k) : setA A k x j = A j:=if_neg h
theorem sh_lay {w : World} {b bi bd bh k : Nat} {A : Nat→Nat×Nat×Nat} {F : ShM} {m : ImgM} {R : List SL.HP} (hk : k < 5) (hF : F k = none) (H : own w (imgAt bi bd bh m::devAt bd m.d::(shL b A F++R))) :
  own (w.setCell ⟨b,k,none⟩ (.pointer (some ⟨bi,0,none⟩))) (shL b (setA A k (bi,bd,bh)) (put F k m)++R):=by
 have h1:=own_set (i:=k) (v:=.pointer (some ⟨bi,0,none⟩)) 2 H rfl
 have h2:=own_star_mk [imgAt bi bd bh m,devAt bd m.d] h1
 have hs : ∀j,j≠k→slotP (setA A k (bi,bd,bh)) (put F k m) j = slotP A F j:=fun j hj=>by unfold slotP; rw [put_ne F m hj,setA_ne A _ hj]
 have hv : ∀j,j≠k→slotV (setA A k (bi,bd,bh)) (put F k m) j = slotV A F j:=fun j hj=>by unfold slotV; rw [put_ne F m hj,setA_ne A _ hj]
 have hs' : slotP (setA A k (bi,bd,bh)) (put F k m) k = star [imgAt bi bd bh m,devAt bd m.d]:=by unfold slotP; rw [put_at,setA_at]
 have hv' : slotV (setA A k (bi,bd,bh)) (put F k m) k = .pointer (some ⟨bi,0,none⟩):=by unfold slotV; rw [put_at,setA_at]
 have hg : ∀P0 : SL.HP,(P0::slotP A F 0::slotP A F 1::slotP A F 2::slotP A F 3::slotP A F 4::R)[1 + k]? = some (slotP A F k):=fun P0=>by
  rcases k with _ | _ | _ | _ | _ | k
  ·rfl
  ·rfl
  ·rfl
  ·rfl
  ·rfl
  ·omega
 have h3:=own_put (own_drop h2) (1 + k) (hg _) (own_erase ((1 + k) + 1) h2 (hg _))
 refine (congrArg (own _) ?_).mp h3
 rcases k with _ | _ | _ | _ | _ | k
 case succ.succ.succ.succ.succ=>omega
 all_goals
  unfold shL shCells
  rw [hs',hv']
  simp [hs,hv]
theorem sh_lay_nil {w : World} {b k : Nat} {A : Nat→Nat×Nat×Nat} {F : ShM} {R : List SL.HP} (hk : k < 5) (hF : F k = none) (H : own w (shL b A F++R)) : own (w.setCell ⟨b,k,none⟩ (.pointer none)) (shL b A F++R):=by
 have h1:=own_set (i:=k) (v:=.pointer none) 0 H rfl
 have hv:=slotV_none (A:=A) hF
 refine (congrArg (own _) ?_).mp h1
 rcases k with _ | _ | _ | _ | _ | k
 case succ.succ.succ.succ.succ=>omega
 all_goals
  unfold shL shCells
  rw [hv]
  rfl
theorem sh_new {w : World} {R : List SL.HP} (A : Nat→Nat×Nat×Nat) (H : own w R) : own (w.alloc (.cells #[.pointer none,.pointer none,.pointer none,.pointer none,.pointer none] 111)) (shL w.heap.size A (fun _=>none)++R):=by
 have h1:=own_alloc H (.cells #[.pointer none,.pointer none,.pointer none,.pointer none,.pointer none] 111)
 exact own_pick 5 (own_emp (own_emp (own_emp (own_emp (own_emp h1))))) rfl
theorem rsh_lay {w : World} {b bi bd k : Nat} {A : Nat→Nat×Nat} {F : ShM} {m : ImgM} {R : List SL.HP} (hk : k < 5) (hF : F k = none) (H : own w (rimgAt bi bd m::rdevAt bd m.d::(rshL b A F++R))) :
  own (w.setCell ⟨b,k,none⟩ (.pointer (some ⟨bi,0,none⟩))) (rshL b (setA A k (bi,bd)) (put F k m)++R):=by
 have h1:=own_set (i:=k) (v:=.pointer (some ⟨bi,0,none⟩)) 2 H rfl
 have h2:=own_star_mk [rimgAt bi bd m,rdevAt bd m.d] h1
 have hs : ∀j,j≠k→rslotP (setA A k (bi,bd)) (put F k m) j = rslotP A F j:=fun j hj=>by unfold rslotP; rw [put_ne F m hj,setA_ne A _ hj]
 have hv : ∀j,j≠k→rslotV (setA A k (bi,bd)) (put F k m) j = rslotV A F j:=fun j hj=>by unfold rslotV; rw [put_ne F m hj,setA_ne A _ hj]
 have hs' : rslotP (setA A k (bi,bd)) (put F k m) k = star [rimgAt bi bd m,rdevAt bd m.d]:=by unfold rslotP; rw [put_at,setA_at]
 have hv' : rslotV (setA A k (bi,bd)) (put F k m) k = .pointer (some ⟨bi,0,none⟩):=by unfold rslotV; rw [put_at,setA_at]
 have hg : ∀P0 : SL.HP,(P0::rslotP A F 0::rslotP A F 1::rslotP A F 2::rslotP A F 3::rslotP A F 4::R)[1 + k]? = some (rslotP A F k):=fun P0=>by
  rcases k with _ | _ | _ | _ | _ | k
  ·rfl
  ·rfl
  ·rfl
  ·rfl
  ·rfl
  ·omega
 have h3:=own_put (own_drop h2) (1 + k) (hg _) (own_erase ((1 + k) + 1) h2 (hg _))
 refine (congrArg (own _) ?_).mp h3
 rcases k with _ | _ | _ | _ | _ | k
 case succ.succ.succ.succ.succ=>omega
 all_goals
  unfold rshL rshCells
  rw [hs',hv']
  simp [hs,hv]
theorem rsh_lay_nil {w : World} {b k : Nat} {A : Nat→Nat×Nat} {F : ShM} {R : List SL.HP} (hk : k < 5) (hF : F k = none) (H : own w (rshL b A F++R)) : own (w.setCell ⟨b,k,none⟩ (.pointer none)) (rshL b A F++R):=by
 have h1:=own_set (i:=k) (v:=.pointer none) 0 H rfl
 have hv:=rslotV_none (A:=A) hF
 refine (congrArg (own _) ?_).mp h1
 rcases k with _ | _ | _ | _ | _ | k
 case succ.succ.succ.succ.succ=>omega
 all_goals
  unfold rshL rshCells
  rw [hv]
  rfl
theorem rsh_new {w : World} {R : List SL.HP} (A : Nat→Nat×Nat) (H : own w R) : own (w.alloc (.cells #[.pointer none,.pointer none,.pointer none,.pointer none,.pointer none] 114)) (rshL w.heap.size A (fun _=>none)++R):=by
 have h1:=own_alloc H (.cells #[.pointer none,.pointer none,.pointer none,.pointer none,.pointer none] 114)
 exact own_pick 5 (own_emp (own_emp (own_emp (own_emp (own_emp h1))))) rfl
end Go.Proofs.YtbpblokfiajpjabGreatDoor
