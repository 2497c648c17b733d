/- A map of ints to bools that holds true at each of its keys, in the separation logic: made, asked, told its length, added to, cleared. An image: its model in plain Lean, what it is in memory, and its smallest methods. An image's smallest methods: there, first, Dev, Kind. FormSays answers true, whatever the head, the table and the desk, and leaves what it was given as it was. An image's rows and entries written: row and set, the program's. An entry set: the program's. An entry set: the document's. A cluster cleared: the program's, the document's. Places: which are open, how many (the document's). Places: how many are open, the lowest one (the program's). The lowest open place, by the program. Sectors written in a row: the model, the document's loop. No conditions. -/
import Derived.Test.YtbpblokfiajpjabGreatDoorPk60a03ea17d
import Derived.Test.YtbpblokfiajpjabGreatDoorProg
import Derived.Maps.OwnSet
namespace Go.Proofs.YtbpblokfiajpjabGreatDoor
open Go.RowKit Go.SL Go.ChangeMaps
def heldCells (es : Array MapEntry) (hs : List Int) : Prop:=es.toList.map (fun e=>(e.key,e.val)) = hs.map fun h=>(Value.int .i64 h,Value.bool true)
def heldAt (b : Nat) (hs : List Int) : HP:=exi fun x : Array MapEntry×Nat=>fun h=>heldCells x.1 hs∧pts b (.map x.1 x.2) h
theorem held_own {w : World} {L : List HP} (k : Nat) {b : Nat} {hs : List Int} (H : own w L) (hk : L[k]? = some (heldAt b hs)) : ∃es clock,heldCells es hs∧w.heap[b]? = some (.map es clock)∧own w (L.set k (pts b (.map es clock))):=by
 obtain ⟨h,hs',h1,h2,a,⟨⟨es,clock⟩,hc,hp⟩,q⟩:=own_pick k H hk
 have H':=own_put H k hk (Q:=pts b (.map es clock)) ⟨h,hs',h1,h2,a,hp,q⟩
 have hkl : k < L.length:=(List.getElem?_eq_some_iff.1 hk).1
 exact ⟨es,clock,hc,own_at k H' (by simp [hkl]),H'⟩
theorem held_shut {w : World} {L : List HP} (k : Nat) {b : Nat} {hs : List Int} {es : Array MapEntry} {clock : Nat} (hc : heldCells es hs) (H : own w L) (hk : L[k]? = some (pts b (.map es clock))) : own w (L.set k (heldAt b hs)):=
 own_weak k (fun h hh=>⟨(es,clock),hc,hh⟩) H hk
theorem held_made {w : World} {L : List HP} (H : own w L) : own (w.alloc (.map #[] 0)) (heldAt w.heap.size []::L):=
 held_shut 0 (hs:=[]) (es:=#[]) (clock:=0) rfl (own_alloc H (.map #[] 0)) rfl
theorem findNow_held {es : List MapEntry} {hs : List Int} (h : es.map (fun e=>(e.key,e.val)) = hs.map fun h=>(Value.int .i64 h,Value.bool true)) (k : Int) : ∀i,Instr.findNow (.int .i64) (.int .i64 k) es i = some (if k∈hs then some (i + hs.idxOf k,Value.bool true) else none):=by
 induction es generalizing hs with
 | nil=>
  cases hs with
  | nil=>intro i; rfl
  | cons a hs=>simp at h
 | cons e es ih=>
  intro i
  cases hs with
  | nil=>simp at h
  | cons a hs=>
   simp only [List.map_cons,List.cons.injEq,Prod.mk.injEq] at h
   obtain ⟨⟨h1,h2⟩,h3⟩:=h
   rw [Instr.findNow,h1,h2]
   simp only [Instr.sameNow,if_true]
   by_cases e : k = a
   ·subst e; simp
   ·have e' : (k == a) = false:=beq_eq_false_iff_ne.2 e
    rw [e']
    simp only
    rw [ih h3]
    have e2 : (a == k) = false:=beq_eq_false_iff_ne.2 fun h=>e h.symm
    by_cases hm : k∈hs
    ·simp [hm,e,List.idxOf_cons,e2]; omega
    ·simp [hm,e]
theorem size_held {es : Array MapEntry} {hs : List Int} (h : heldCells es hs) : es.size = hs.length:=by
 have:=congrArg List.length h
 simpa using this
theorem run_findKey {w : World} {es : Array MapEntry} {hs : List Int} (h : heldCells es hs) (k : Int) : (Instr.findKey 3 (.int .i64 k) es.toList).run Tryz.prog w = .ok (if k∈hs then some (hs.idxOf k,Value.bool true) else none) w:=by
 have:=findNow_held h k 0
 simp only [Nat.zero_add] at this
 simp [Instr.findKey,run_underlying Tryz.underlying3,this]
theorem run_key (em : Bool) (x : Int) (w : World) : (Instr.checkKey em 10000 3 (.int .i64 x)).run Tryz.prog w = .ok () w:=by
 rw [show (10000 : Nat) = 9999 + 1 from rfl,Instr.checkKey]
 simp [run_underlying Tryz.underlying3]
theorem held_lookup {w : World} {L : List HP} (k : Nat) {b : Nat} {hs : List Int} (H : own w L) (hk : L[k]? = some (heldAt b hs)) (x : Int) :
  (Instr.lookup 216 (.map (some b)) (.int .i64 x) false).run Tryz.prog w = .ok (.bool (decide (x∈hs))) w:=by
 obtain ⟨es,clock,hc,hb,_⟩:=held_own k H hk
 have hz : (zeroValue 4).run Tryz.prog w = .ok (.bool false) w:=by kernel_rfl
 have hf:=run_findKey (w:=w) hc x
 by_cases hm : x∈hs
 ·rw [if_pos hm] at hf
  simp [Instr.lookup,run_underlying Tryz.underlying216,MapKept.run_getObj_map hb,run_key,hf,hm,Result.andThen]
 ·rw [if_neg hm] at hf
  simp [Instr.lookup,run_underlying Tryz.underlying216,MapKept.run_getObj_map hb,run_key,hf,hm,hz,Result.andThen]
theorem held_len {w : World} {L : List HP} (k : Nat) {b : Nat} {hs : List Int} (H : own w L) (hk : L[k]? = some (heldAt b hs)) (ty : TypeId) :
  (Builtin.len_ #[216] ty #[.map (some b)]).run Tryz.prog w = .ok (.int .i64 hs.length) w:=by
 obtain ⟨es,clock,hc,hb,_⟩:=held_own k H hk
 simp [Builtin.len_,run_underlying Tryz.underlying216,MapKept.run_getObj_map hb,goInt,size_held hc,Result.andThen]
theorem own_block {w : World} {L : List HP} (k : Nat) {b : Nat} {es : Array MapEntry} {clock : Nat} {o' : Obj} (H : own w L) (hk : L[k]? = some (pts b (.map es clock))) (hw : w.heap[b]? = some (.map es clock)) : own (setBlock w b o') (L.set k (pts b o')):=
 own_upd k H hk (by
  funext c
  by_cases hc : c = b
  ·subst hc; simp only [if_true]; exact heap_setBlock_same hw _
  ·simp only [hc,if_false]; exact heap_setBlock_other hw _ hc)
theorem ext_block (w : World) (b : Nat) (o : Obj) : Ext w (setBlock w b o):=⟨rfl,rfl,rfl,by simp [setBlock]⟩
theorem held_add {w : World} {L : List HP} (k : Nat) {b : Nat} {hs : List Int} (H : own w L) (hk : L[k]? = some (heldAt b hs)) {x : Int} (hx : x∉hs) :
  ∃w',(Instr.mapUpdate 216 (.map (some b)) (.int .i64 x) (.bool true)).run Tryz.prog w = .ok () w'∧own w' (L.set k (heldAt b (hs++[x])))∧Ext w w':=by
 obtain ⟨es,clock,hc,hb,H1⟩:=held_own k H hk
 have hkl : k < L.length:=(List.getElem?_eq_some_iff.1 hk).1
 have hf:=run_findKey (w:=w) hc x
 rw [if_neg hx] at hf
 refine ⟨setBlock w b (.map (es.push { key:=.int .i64 x,val:=.bool true,born:=clock }) (clock + 1)),?_,?_,ext_block _ _ _⟩
 ·simp [Instr.mapUpdate,run_underlying Tryz.underlying216,MapKept.run_getObj_map hb,run_key,hf,MapKept.run_setObj_map _ hb,Result.andThen,setBlock]
 ·have H2:=own_block k (o':=.map (es.push { key:=.int .i64 x,val:=.bool true,born:=clock }) (clock + 1)) H1 (by simp [hkl]) hb
  have H3:=held_shut k (b:=b) (hs:=hs++[x]) (es:=es.push { key:=.int .i64 x,val:=.bool true,born:=clock }) (clock:=clock + 1) (by unfold heldCells at hc ⊢; simp [hc]) H2 (by simp [hkl])
  simpa only [List.set_set] using H3
theorem held_clear {w : World} {L : List HP} (k : Nat) {b : Nat} {hs : List Int} (H : own w L) (hk : L[k]? = some (heldAt b hs)) (ty : TypeId) :
  ∃w',(Builtin.clear_ #[216] ty #[.map (some b)]).run Tryz.prog w = .ok (.tuple #[]) w'∧own w' (L.set k (heldAt b []))∧Ext w w':=by
 obtain ⟨es,clock,hc,hb,H1⟩:=held_own k H hk
 have hkl : k < L.length:=(List.getElem?_eq_some_iff.1 hk).1
 refine ⟨setBlock w b (.map #[] clock),?_,?_,ext_block _ _ _⟩
 ·simp [Builtin.clear_,run_underlying Tryz.underlying216,MapKept.run_getObj_map hb,MapKept.run_setObj_map _ hb,Result.andThen,setBlock]
 ·have H2:=own_block k (o':=.map #[] clock) H1 (by simp [hkl]) hb
  have H3:=held_shut k (b:=b) (hs:=[]) (es:=#[]) (clock:=clock) (show heldCells #[] [] from rfl) H2 (by simp [hkl])
  simpa only [List.set_set] using H3
end Go.Proofs.YtbpblokfiajpjabGreatDoor

namespace Go.Proofs.YtbpblokfiajpjabGreatDoor
open Go.RowKit Go.SL Go.Crc
attribute [local go_sem ↓] Go.wp_at_zero Go.wp_at_succ
structure ImgM where
 d : DevM
 c : Int
 p : Int
 b : Int
 t : List Ent
 held : List Int
def ent (t : List Ent) (k : Nat) : Ent:=t.getD k (0,0)
structure ImgM.Ok (m : ImgM) : Prop where
 d : m.d.Ok
 head : ¬headBad m.c m.p m.b
 t : (m.t.length : Int) = m.c
 ents : ∀e∈m.t,entOk e m.p = true
 one : ∀i j : Nat,i < m.t.length→j < m.t.length→(ent m.t i).1 = 2→ent m.t i = ent m.t j→i = j
 nodup : m.held.Nodup
 range : ∀x∈m.held,0≤x∧x < m.p
 apart : ∀x∈m.held,((2,x) : Ent)∉m.t
 need : 1 + (rowsN m.c.toNat : Int) + 4 * m.p≤m.d.fl.length
def needN (c p : Int) : Int:=1 + (rowsN c.toNat : Int) + 4 * p
def imgAt (b bd bh : Nat) (m : ImgM) : HP:=exi fun v : Value=>star [pts b (.cells #[.pointer (some ⟨bd,0,none⟩),.int .i64 m.c,.int .i64 m.p,.int .i64 m.b,v,.map (some bh)] 218 (0,0)),row 221 2 v m.t.length (entCells m.t),heldAt bh m.held]
theorem img_open {w : World} {b bd bh : Nat} {m : ImgM} {R : List HP} (H : own w (imgAt b bd bh m::R)) : ∃v,own w (pts b (.cells #[.pointer (some ⟨bd,0,none⟩),.int .i64 m.c,.int .i64 m.p,.int .i64 m.b,v,.map (some bh)] 218 (0,0))::row 221 2 v m.t.length (entCells m.t)::heldAt bh m.held::R):=
 own_open 0 (L:=fun v : Value=>[pts b (.cells #[.pointer (some ⟨bd,0,none⟩),.int .i64 m.c,.int .i64 m.p,.int .i64 m.b,v,.map (some bh)] 218 (0,0)),row 221 2 v m.t.length (entCells m.t),heldAt bh m.held]) H rfl fun h hh=>hh
theorem img_close {w : World} {b bd bh : Nat} {m : ImgM} {R : List HP} {v : Value} (H : own w (pts b (.cells #[.pointer (some ⟨bd,0,none⟩),.int .i64 m.c,.int .i64 m.p,.int .i64 m.b,v,.map (some bh)] 218 (0,0))::row 221 2 v m.t.length (entCells m.t)::heldAt bh m.held::R)) : own w (imgAt b bd bh m::R):=
 own_close [pts b (.cells #[.pointer (some ⟨bd,0,none⟩),.int .i64 m.c,.int .i64 m.p,.int .i64 m.b,v,.map (some bh)] 218 (0,0)),row 221 2 v m.t.length (entCells m.t),heldAt bh m.held] (fun h hh=>⟨v,hh⟩) H
def heldNums (l : List Int) : List Value:=l.map (Value.int .i64)
def rimgAt (b bd : Nat) (m : ImgM) : HP:=exi fun v : Value×Value=>star [pts b (.cells #[.pointer (some ⟨bd,0,none⟩),.int .i64 m.c,.int .i64 m.p,.int .i64 m.b,v.1,v.2] 152 (0,0)),row 221 2 v.1 m.t.length (entCells m.t),row 3 1 v.2 m.held.length (heldNums m.held)]
theorem rimg_open {w : World} {b bd : Nat} {m : ImgM} {R : List HP} (H : own w (rimgAt b bd m::R)) : ∃vt vh,own w (pts b (.cells #[.pointer (some ⟨bd,0,none⟩),.int .i64 m.c,.int .i64 m.p,.int .i64 m.b,vt,vh] 152 (0,0))::row 221 2 vt m.t.length (entCells m.t)::row 3 1 vh m.held.length (heldNums m.held)::R):=by
 obtain ⟨v,h⟩:=own_open 0 (L:=fun v : Value×Value=>[pts b (.cells #[.pointer (some ⟨bd,0,none⟩),.int .i64 m.c,.int .i64 m.p,.int .i64 m.b,v.1,v.2] 152 (0,0)),row 221 2 v.1 m.t.length (entCells m.t),row 3 1 v.2 m.held.length (heldNums m.held)]) H rfl fun h hh=>hh
 exact ⟨v.1,v.2,h⟩
theorem rimg_close {w : World} {b bd : Nat} {m : ImgM} {R : List HP} {vt vh : Value} (H : own w (pts b (.cells #[.pointer (some ⟨bd,0,none⟩),.int .i64 m.c,.int .i64 m.p,.int .i64 m.b,vt,vh] 152 (0,0))::row 221 2 vt m.t.length (entCells m.t)::row 3 1 vh m.held.length (heldNums m.held)::R)) : own w (rimgAt b bd m::R):=
 own_close [pts b (.cells #[.pointer (some ⟨bd,0,none⟩),.int .i64 m.c,.int .i64 m.p,.int .i64 m.b,vt,vh] 152 (0,0)),row 221 2 vt m.t.length (entCells m.t),row 3 1 vh m.held.length (heldNums m.held)] (fun h hh=>⟨(vt,vh),hh⟩) H
theorem rows_le {c : Int} (h : ¬(32 < c)) : rowsN c.toNat≤4:=by unfold rowsN; omega
set_option maxRecDepth 100000 in
set_option maxHeartbeats 1000000 in
theorem need_any (c p b : Int) (h : ¬headBad c p b) (R : List SL.HP) (w : World) (H : own w R) :
  Calls Tryz.prog 127 #[headV c p b] w fun e w'=>e = .returned (.int .i64 (needN c p))∧Ext w w'∧own w' R:=by
 have ha:=own_alloc H (.cells #[.int .i64 c,.int .i64 p,.int .i64 b] 103)
 have hxa:=(Ext.refl w).alloc (.cells #[.int .i64 c,.int .i64 p,.int .i64 b] 103)
 unfold headBad at h
 obtain ⟨C,rfl⟩:=Int.eq_ofNat_of_zero_le (show 0≤c by omega)
 have r4:=rows_le (c:=C) (by omega)
 rw [Int.toNat_natCast] at r4
 have hn : needN C p = 1 + (rowsN C : Int) + 4 * p:=by unfold needN; rw [Int.toNat_natCast]
 have h3 : 0≤p:=by omega
 have h4 : p≤40:=by omega
 have h5 : C≤32:=by omega
 have HN:=Lib.hid hn
 clear h hn
 have e1 : IntKind.i64.wrap (p * 4) = p * 4:=IntWalk.i64_in _ (by omega)
 have e2 : IntKind.i64.wrap (1 + (rowsN C : Int)) = 1 + (rowsN C : Int):=IntWalk.i64_in _ (by omega)
 have e3 : IntKind.i64.wrap (1 + (rowsN C : Int) + p * 4) = 1 + (rowsN C : Int) + p * 4:=IntWalk.i64_in _ (by omega)
 unfold headV
 go_enter Tryz.func127,Tryz.ntmps127
 go_upto_region 1 with (fail)
 obtain ⟨cc,ff⟩:=own_cells 0 ha rfl
 generalize w.heap.size = g at *
 generalize w.alloc (.cells #[.int .i64 C,.int .i64 p,.int .i64 b] 103) = w1 at *
 have c0:=cc 0
 have c1:=cc 1
 go_quiet ((go_at_call 156; exact Calls.quiet_of_same ((rows_any C (by omega) _).mono fun e w' h=>⟨h.1,h.2.symm⟩)))
 go_wp2_with fail
 go_ret
 exact ⟨ret_int (by rw [HN.out]; omega),hxa.drewN _,own_drop (own_drewN _ ha)⟩
set_option maxRecDepth 100000 in
set_option maxHeartbeats 1000000 in
theorem rneed_any (c p b : Int) (h : ¬headBad c p b) (R : List SL.HP) (w : World) (H : own w R) :
  Calls Tryz.prog 130 #[headV c p b] w fun e w'=>e = .returned (.int .i64 (needN c p))∧Ext w w'∧own w' R:=by
 have ha:=own_alloc H (.cells #[.int .i64 c,.int .i64 p,.int .i64 b] 103)
 have hxa:=(Ext.refl w).alloc (.cells #[.int .i64 c,.int .i64 p,.int .i64 b] 103)
 unfold headBad at h
 obtain ⟨C,rfl⟩:=Int.eq_ofNat_of_zero_le (show 0≤c by omega)
 have r4:=rows_le (c:=C) (by omega)
 rw [Int.toNat_natCast] at r4
 have hn : needN C p = 1 + (rowsN C : Int) + 4 * p:=by unfold needN; rw [Int.toNat_natCast]
 have h3 : 0≤p:=by omega
 have h4 : p≤40:=by omega
 have h5 : C≤32:=by omega
 have HN:=Lib.hid hn
 clear h hn
 have e1 : IntKind.i64.wrap (4 * p) = 4 * p:=IntWalk.i64_in _ (by omega)
 have e2 : IntKind.i64.wrap (1 + (rowsN C : Int)) = 1 + (rowsN C : Int):=IntWalk.i64_in _ (by omega)
 have e3 : IntKind.i64.wrap (1 + (rowsN C : Int) + 4 * p) = 1 + (rowsN C : Int) + 4 * p:=IntWalk.i64_in _ (by omega)
 unfold headV
 go_enter Tryz.func130,Tryz.ntmps130
 go_upto_region 1 with (fail)
 obtain ⟨cc,ff⟩:=own_cells 0 ha rfl
 generalize w.heap.size = g at *
 generalize w.alloc (.cells #[.int .i64 C,.int .i64 p,.int .i64 b] 103) = w1 at *
 have c0:=cc 0
 have c1:=cc 1
 go_quiet ((go_at_call 161; exact Calls.quiet_of_same ((rrows_any C (by omega) _).mono fun e w' h=>⟨h.1,h.2.symm⟩)))
 go_wp2_with fail
 go_ret
 exact ⟨ret_int (by rw [HN.out]),hxa.drewN _,own_drop (own_drewN _ ha)⟩
end Go.Proofs.YtbpblokfiajpjabGreatDoor

namespace Go.Proofs.YtbpblokfiajpjabGreatDoor
open Go.RowKit Go.SL Go.Crc
attribute [local go_sem ↓] Go.wp_at_zero Go.wp_at_succ
def ImgM.there (m : ImgM) (k : Int) : Bool:=decide (0≤k) && decide (k < m.c)
def ImgM.first (m : ImgM) (p : Int) : Int:=1 + (rowsN m.c.toNat : Int) + 4 * p
theorem ImgM.Ok.nat {m : ImgM} (h : m.Ok) : ∃C : Nat,m.c = C∧1≤C∧C≤32∧m.t.length = C∧rowsN C≤4∧0≤m.p∧m.p≤40∧-1≤m.b∧m.b≤4:=by
 have hh:=h.head
 have ht:=h.t
 unfold headBad at hh
 refine ⟨m.t.length,ht.symm,by omega,by omega,rfl,by unfold rowsN; omega,by omega,by omega,by omega,by omega⟩
set_option maxRecDepth 100000 in
set_option maxHeartbeats 1000000 in
theorem there_any (b bd bh : Nat) (m : ImgM) (k : Int) (R : List SL.HP) (w : World) (H : own w (imgAt b bd bh m::R)) :
  Calls Tryz.prog 166 #[.pointer (some ⟨b,0,none⟩),.int .i64 k] w fun e w'=>e = .returned (.bool (m.there k))∧w = w':=by
 obtain ⟨v,h⟩:=img_open H
 obtain ⟨c,f⟩:=own_cells 0 h rfl
 have hd : m.there k = (decide (0≤k) && decide (k < m.c)):=rfl
 by_cases h0 : 0≤k
 ·have d0 : decide (0≤k) = true:=decide_eq_true h0
  rw [hd,d0,Bool.true_and]
  go_enter Tryz.func166,Tryz.ntmps166
  go_wp2_with fail
  go_ret
  exact ⟨rfl,rfl⟩
 ·have d0 : decide (0≤k) = false:=decide_eq_false h0
  rw [hd,d0,Bool.false_and]
  clear h0
  go_enter Tryz.func166,Tryz.ntmps166
  go_wp2_with fail
  go_ret
  exact ⟨rfl,rfl⟩
set_option maxRecDepth 100000 in
set_option maxHeartbeats 1000000 in
theorem rthere_any (b bd : Nat) (m : ImgM) (k : Int) (R : List SL.HP) (w : World) (H : own w (rimgAt b bd m::R)) :
  Calls Tryz.prog 168 #[.pointer (some ⟨b,0,none⟩),.int .i64 k] w fun e w'=>e = .returned (.bool (m.there k))∧w = w':=by
 obtain ⟨vt,vh,h⟩:=rimg_open H
 obtain ⟨c,f⟩:=own_cells 0 h rfl
 have hd : m.there k = (decide (0≤k) && decide (k < m.c)):=rfl
 by_cases h0 : 0≤k
 ·have d0 : decide (0≤k) = true:=decide_eq_true h0
  rw [hd,d0,Bool.true_and]
  go_enter Tryz.func168,Tryz.ntmps168
  go_wp2_with fail
  go_ret
  exact ⟨rfl,rfl⟩
 ·have d0 : decide (0≤k) = false:=decide_eq_false h0
  rw [hd,d0,Bool.false_and]
  clear h0
  go_enter Tryz.func168,Tryz.ntmps168
  go_wp2_with fail
  go_ret
  exact ⟨rfl,rfl⟩
set_option maxRecDepth 100000 in
set_option maxHeartbeats 1000000 in
theorem first_any (b bd bh : Nat) (m : ImgM) (hm : m.Ok) (p : Int) (h0 : 0≤p) (h1 : p≤40) (R : List SL.HP) (w : World) (H : own w (imgAt b bd bh m::R)) :
  Calls Tryz.prog 171 #[.pointer (some ⟨b,0,none⟩),.int .i64 p] w fun e w'=>e = .returned (.int .i64 (m.first p))∧w = w':=by
 obtain ⟨v,h⟩:=img_open H
 obtain ⟨c,f⟩:=own_cells 0 h rfl
 obtain ⟨C,hC,q1,q2,q3,q4,-⟩:=hm.nat
 have hf : m.first p = 1 + (rowsN C : Int) + 4 * p:=by unfold ImgM.first; rw [hC,Int.toNat_natCast]
 rw [hf]
 rw [hC] at c
 clear hf hC
 go_enter Tryz.func171,Tryz.ntmps171
 go_wp2_with fail
 refine (rows_any C (by omega) _).mono ?_
 rintro e w' ⟨rfl,rfl⟩
 go_wp2_with fail
 go_ret
 exact ⟨ret_int (by omega),rfl⟩
set_option maxRecDepth 100000 in
set_option maxHeartbeats 1000000 in
theorem rfirst_any (b bd : Nat) (m : ImgM) (hm : m.Ok) (p : Int) (h0 : 0≤p) (h1 : p≤40) (R : List SL.HP) (w : World) (H : own w (rimgAt b bd m::R)) :
  Calls Tryz.prog 175 #[.pointer (some ⟨b,0,none⟩),.int .i64 p] w fun e w'=>e = .returned (.int .i64 (m.first p))∧w = w':=by
 obtain ⟨vt,vh,h⟩:=rimg_open H
 obtain ⟨c,f⟩:=own_cells 0 h rfl
 obtain ⟨C,hC,q1,q2,q3,q4,-⟩:=hm.nat
 have hf : m.first p = 1 + (rowsN C : Int) + 4 * p:=by unfold ImgM.first; rw [hC,Int.toNat_natCast]
 rw [hf]
 rw [hC] at c
 clear hf hC
 go_enter Tryz.func175,Tryz.ntmps175
 go_wp2_with fail
 refine (rrows_any C (by omega) _).mono ?_
 rintro e w' ⟨rfl,rfl⟩
 go_wp2_with fail
 go_ret
 exact ⟨ret_int (by omega),rfl⟩
set_option maxRecDepth 100000 in
set_option maxHeartbeats 1000000 in
theorem imgdev_any (b bd bh : Nat) (m : ImgM) (R : List SL.HP) (w : World) (H : own w (imgAt b bd bh m::R)) :
  Calls Tryz.prog 191 #[.pointer (some ⟨b,0,none⟩)] w fun e w'=>e = .returned (.pointer (some ⟨bd,0,none⟩))∧w = w':=by
 obtain ⟨v,h⟩:=img_open H
 obtain ⟨c,f⟩:=own_cells 0 h rfl
 go_enter Tryz.func191,Tryz.ntmps191
 go_wp2_with fail
 go_ret
 exact ⟨rfl,rfl⟩
def ImgM.kind (m : ImgM) (k : Int) : Int:=(ent m.t k.toNat).1
set_option maxRecDepth 100000 in
set_option maxHeartbeats 1000000 in
theorem kind_any (b bd bh : Nat) (m : ImgM) (hm : m.Ok) (k : Int) (R : List SL.HP) (w : World) (H : own w (imgAt b bd bh m::R)) :
  Calls Tryz.prog 151 #[.pointer (some ⟨b,0,none⟩),.int .i64 k] w fun e w'=>e = .returned (if m.there k = true then .tuple #[.int .i64 (m.kind k),.nilIface] else .tuple #[.int .i64 0,errV 1])∧w = w':=by
 obtain ⟨v,h⟩:=img_open H
 obtain ⟨C,hC,q1,q2,q3,q4,-⟩:=hm.nat
 have hth:=there_any b bd bh m k R w H
 cases ht : m.there k
 ·rw [ht] at hth
  rw [if_neg (by decide)]
  have HT:=Lib.hid hth
  clear hth hC q3 ht
  go_enter Tryz.func151,Tryz.ntmps151
  go_wp2_with fail
  refine HT.out.mono ?_
  rintro e w' ⟨rfl,rfl⟩
  go_wp2_with fail
  go_ret2
  exact ⟨rfl,rfl⟩
 ·rw [ht] at hth
  rw [if_pos rfl]
  have hr : 0≤k∧k < m.c:=by
   unfold ImgM.there at ht
   simpa using ht
  obtain ⟨n,rfl⟩:=Int.eq_ofNat_of_zero_le hr.1
  have hn : n < m.t.length:=by omega
  have hk : m.kind n = (ent m.t n).1:=rfl
  rw [hk]
  obtain ⟨ao,g,cap,rfl,r1,r2,r3,-,-,r6,-⟩:=own_row_form 1 h rfl
  obtain rfl:=r3 (by omega)
  have e1:=r6 _ _ (entCells_get hn).1
  have e2 : w.cell? ⟨g,n * 2,none⟩ = some (.int .i64 (ent m.t n).1):=e1
  obtain ⟨c,f⟩:=own_cells 0 h rfl
  have HT:=Lib.hid hth
  clear hth hC q3 ht hk e1 r3 r6 hr
  generalize (ent m.t n).1 = x at *
  go_enter Tryz.func151,Tryz.ntmps151
  go_wp2_with fail
  refine HT.out.mono ?_
  rintro e w' ⟨rfl,rfl⟩
  go_wp2_with fail
  go_ret2
  exact ⟨rfl,rfl⟩
end Go.Proofs.YtbpblokfiajpjabGreatDoor

namespace Go.Proofs.YtbpblokfiajpjabGreatDoor
open Go.RowKit Go.SL Go.Crc
attribute [local go_sem ↓] Go.wp_at_zero Go.wp_at_succ
theorem row_any (v : Value) (t : List Ent) (row : Int) (ht : t.length≤1000) (R : List SL.HP) (w : World) (hv : ∀w' l,own w' (l++R)→entsAt w' v t) (H : own w R) :
  Calls Tryz.prog 236 #[v,.int .i64 row] w fun e w'=>e = .returned (.tuple #[.string (rowOf t row).1,errV (rowOf t row).2])∧Ext w w'∧own w' R:=by
 by_cases ho : rowOut t row
 ·have e : rowOf t row = (ByteArray.empty,1):=by rw [rowOf,if_pos ho]
  rw [e]
  exact row_out v t row ht ho R w hv H
 ·obtain ⟨r,rfl⟩:=Int.eq_ofNat_of_zero_le (show 0≤row by unfold rowOut at ho; omega)
  exact row_in v t r ho R w hv H
theorem rrowof_any (v : Value) (t : List Ent) (row : Int) (ht : t.length≤1000) (R : List SL.HP) (w : World) (hv : ∀w' l,own w' (l++R)→entsAt w' v t) (H : own w R) :
  Calls Tryz.prog 162 #[v,.int .i64 row] w fun e w'=>e = .returned (.tuple #[.string (rowOf t row).1,.int .i64 (rowOf t row).2])∧Ext w w'∧own w' R:=by
 by_cases ho : rowOut t row
 ·have e : rowOf t row = (ByteArray.empty,1):=by rw [rowOf,if_pos ho]
  rw [e]
  exact rrowof_out v t row ht ho R w hv H
 ·obtain ⟨r,rfl⟩:=Int.eq_ofNat_of_zero_le (show 0≤row by unfold rowOut at ho; omega)
  exact rrowof_in v t r ho R w hv H
theorem ents_news {w : World} {ao : Option Addr} {n cap : Nat} {l : List Ent} (h : entsAt w (.slice ao n cap) l) : (∀ad,ao = some ad→∀j u,(entCells l)[j]? = some u→w.cell? (ad.add j) = some u)∧(ao = none→l.length = 0):=by
 obtain ⟨ao',b,off,cap',hv,h1,h2,h3,h4⟩:=h
 simp only [Value.slice.injEq] at hv
 obtain ⟨rfl,rfl,rfl⟩:=hv
 refine ⟨fun ad had j u hu=>?_,fun h=>?_⟩
 ·have hj:=(List.getElem?_eq_some_iff.1 hu).1
  rw [entCells_len] at hj
  have e:=h3 (by omega)
  rw [e] at had
  obtain rfl:=Option.some.inj had
  rw [add_none]
  have hi : j / 2 < l.length:=by omega
  obtain ⟨c1,c2⟩:=h4 _ hi
  obtain ⟨g1,g2⟩:=entCells_get hi
  rcases Nat.mod_two_eq_zero_or_one j with hm | hm
  ·have ej : j / 2 * 2 = j:=by omega
   rw [ej] at c1 g1
   rw [hu] at g1
   rw [c1,Option.some.inj g1]
  ·have ej : j / 2 * 2 + 1 = j:=by omega
   rw [ej] at g2
   rw [Nat.add_assoc,ej] at c2
   rw [hu] at g2
   rw [c2,Option.some.inj g2]
 ·rcases Nat.eq_zero_or_pos l.length with h0 | h0
  ·exact h0
  ·rw [h3 h0] at h; cases h
theorem entCells_one {l : List Ent} : ∀u∈entCells l,u.oneCell' = true:=fun u hu=>by
 simp only [entCells,List.mem_flatMap] at hu
 obtain ⟨e,_,he⟩:=hu
 simp at he
 rcases he with rfl | rfl <;> rfl
end Go.Proofs.YtbpblokfiajpjabGreatDoor

namespace Go.Proofs.YtbpblokfiajpjabGreatDoor
open Go.RowKit Go.SL Go.Crc
attribute [local go_sem ↓] Go.wp_at_zero Go.wp_at_succ
theorem entCells_set {l : List Ent} : ∀{k : Nat} (e : Ent),entCells (l.set k e) = ((entCells l).set (k * 2) (.int .i64 e.1)).set (k * 2 + 1) (.int .i64 e.2):=by
 induction l with
 | nil=>intro k e; simp [entCells]
 | cons x l ih=>
  intro k e
  cases k with
  | zero=>simp [entCells]
  | succ k=>
   have:=ih (k:=k) e
   have e2 : (k + 1) * 2 = k * 2 + 2:=by omega
   simp only [entCells,List.set_cons_succ,List.flatMap_cons,e2] at this ⊢
   rw [this]
   simp
theorem own_row_set2 {w : World} {L : List HP} (k : Nat) {g n cap : Nat} {t : List Ent} (j : Nat) (e : Ent) (H : own w L) (hk : L[k]? = some (row 221 2 (.slice (some ⟨g,0,none⟩) n cap) n (entCells t))) (hn : 0 < n) :
  own ((w.setCell ⟨g,j * 2,none⟩ (.int .i64 e.1)).setCell ⟨g,j * 2 + 1,none⟩ (.int .i64 e.2)) (L.set k (row 221 2 (.slice (some ⟨g,0,none⟩) n cap) n (entCells (t.set j e)))):=by
 have hkl : k < L.length:=(List.getElem?_eq_some_iff.1 hk).1
 have h1:=own_row_set k (j * 2) (.int .i64 e.1) H hk hn
 have h2:=own_row_set (e:=221) (sz:=2) (g:=g) (n:=n) (cap:=cap) (xs:=(entCells t).set (j * 2) (.int .i64 e.1)) k (j * 2 + 1) (.int .i64 e.2) h1 (by simp [hkl]) hn
 rw [List.set_set] at h2
 rw [entCells_set]
 exact h2
theorem rowOf_size {t : List Ent} {r : Int} (h : (rowOf t r).2 = 0) : (rowOf t r).1.size = 16:=by
 unfold rowOf at h ⊢
 split
 ·rename_i h1; rw [if_pos h1] at h; cases h
 ·rename_i h1
  rw [if_neg h1] at h
  split
  ·dsimp only
   rw [strOfNums_size,entNums_len,rowEnts_len]
  ·rename_i h2; rw [if_neg h2] at h; cases h
theorem write_nonneg (m : DevM) (a : Int) (s : ByteArray) : 0≤(m.write a s).1:=by
 unfold DevM.write
 split
 ·simp
 ·split <;> simp
def ImgM.rowS (m : ImgM) (r : Nat) : ByteArray:=(rowOf m.t r).1
set_option maxRecDepth 100000 in
set_option maxHeartbeats 2000000 in
theorem imgrow_any (b bd bh : Nat) (m : ImgM) (hd : m.d.Ok) (hl : m.t.length≤1000) (hw : m.d.writes < 1000000) (hp : m.d.pend.length < 1000000) (r : Nat) (hr : r≤4) (hrow : (rowOf m.t r).2 = 0) (R : List SL.HP) (w : World) (H : own w (imgAt b bd bh m::devAt bd m.d::R)) :
  Calls Tryz.prog 157 #[.pointer (some ⟨b,0,none⟩),.int .i64 r] w fun e w'=>e = .returned (errV (m.d.write (1 + (r : Int)) (m.rowS r)).1)∧Ext w w'∧own w' (imgAt b bd bh m::devAt bd (m.d.write (1 + (r : Int)) (m.rowS r)).2::R):=by
 obtain ⟨v,h⟩:=img_open H
 obtain ⟨ao,g,cap,rfl,r1,r2,-,-,-,-,-⟩:=own_row_form 1 h rfl
 obtain ⟨c,f⟩:=own_cells 0 h rfl
 have hsz:=rowOf_size hrow
 have hra:=row_any (.slice ao m.t.length cap) m.t r hl _ w (fun w' L H=>ents_row (L.length + 1) H (at_behind (l:=L) rfl)) h
 rw [hrow,errV_0] at hra
 have hs : m.rowS r = (rowOf m.t r).1:=rfl
 have HRA:=Lib.hid hra
 have HS:=Lib.hid hs
 rw [hs]
 clear hra hs hrow
 generalize (rowOf m.t r).1 = s at *
 have hdw:=fun (R : List SL.HP) (w : World) (H : own w (devAt bd m.d::R))=>dev_write bd m.d hd (1 + (r : Int)) s (by omega) hw hp R w H
 have HDW:=Lib.hid hdw
 clear hdw
 generalize m.d.write (1 + (r : Int)) s = res at *
 go_enter Tryz.func157,Tryz.ntmps157
 go_wp2_with fail
 refine HRA.out.mono ?_
 rintro e w2 ⟨rfl,hx2,h2⟩
 clear c f
 obtain ⟨c,f⟩:=own_cells 0 h2 rfl
 go_wp2_with fail
 refine (HDW.out _ w2 (own_pick 3 h2 rfl)).mono ?_
 rintro e w3 ⟨rfl,hx3,h3⟩
 have h4:=own_put h2 3 rfl h3
 go_wp2_with fail
 go_ret
 exact ⟨rfl,hx2.trans hx3,img_close h4⟩
def ImgM.setE (m : ImgM) (k : Nat) (e : Ent) : Int×ImgM:=
 let r:=m.d.write (1 + (k / 8 : Nat)) (rowOf (m.t.set k e) (k / 8 : Nat)).1
 if r.1≠0 then (r.1,{ m with d:=r.2 })
 else (0,{ m with d:=r.2,t:=m.t.set k e,held:=if (ent m.t k).1 = 2 then m.held++[(ent m.t k).2] else m.held })
theorem rowOf_valid {t : List Ent} {r : Nat} (hl : t.length≤32) (hr : r < rowsN t.length) (hv : ∀e∈t,entOk e 40 = true) : (rowOf t r).2 = 0:=by
 have ho : ¬rowOut t r:=by unfold rowOut; omega
 rw [rowOf_ok ho fun k hk=>?_]
 by_cases h : 8 * r + k < t.length
 ·exact hv _ (by simp [h])
 ·rw [show t.getD (8 * r + k) (0,0) = (0,0) by simp [show t.length≤8 * r + k by omega]]
  rfl
theorem entOk_mono {e : Ent} {p : Int} (h : entOk e p = true) (hp : p≤40) : entOk e 40 = true:=by
 unfold entOk at h ⊢
 split
 ·rename_i h1; rw [if_pos h1] at h; simp at h ⊢; omega
 ·rename_i h1; rw [if_neg h1] at h; exact h
end Go.Proofs.YtbpblokfiajpjabGreatDoor

namespace Go.Proofs.YtbpblokfiajpjabGreatDoor
open Go.RowKit Go.SL Go.Crc
attribute [local go_sem ↓] Go.wp_at_zero Go.wp_at_succ
theorem set_back {t : List Ent} {k : Nat} (e : Ent) (hk : k < t.length) : (t.set k e).set k (ent t k) = t:=by
 unfold ent
 rw [List.set_set]
 apply List.ext_getElem?
 intro j
 rw [List.getElem?_set]
 by_cases h : k = j
 ·subst h; simp [hk]
 ·rw [if_neg h]
set_option maxRecDepth 100000 in
set_option maxHeartbeats 4000000 in
theorem set_any (b bd bh : Nat) (m : ImgM) (hm : m.Ok) (hw : m.d.writes < 1000000) (hp : m.d.pend.length < 1000000) (k : Nat) (hk : k < m.t.length) (e1 e2 : Int) (he : entOk (e1,e2) m.p = true) (R : List SL.HP) (w : World) (H : own w (imgAt b bd bh m::devAt bd m.d::R)) :
  Calls Tryz.prog 167 #[.pointer (some ⟨b,0,none⟩),.int .i64 k,.agg #[.int .i64 e1,.int .i64 e2]] w fun e w'=>e = .returned (errV (m.setE k (e1,e2)).1)∧Ext w w'∧own w' (imgAt b bd bh (m.setE k (e1,e2)).2::devAt bd (m.setE k (e1,e2)).2.d::R):=by
 obtain ⟨C,hC,q1,q2,q3,q4,q5,q6,-⟩:=hm.nat
 have hsetE : m.setE k (e1,e2) = if (m.d.write (1 + ((k / 8 : Nat) : Int)) (rowOf (m.t.set k (e1,e2)) (k / 8 : Nat)).1).1≠0 then ((m.d.write (1 + ((k / 8 : Nat) : Int)) (rowOf (m.t.set k (e1,e2)) (k / 8 : Nat)).1).1,{ m with d:=(m.d.write (1 + ((k / 8 : Nat) : Int)) (rowOf (m.t.set k (e1,e2)) (k / 8 : Nat)).1).2 })
  else (0,{ m with d:=(m.d.write (1 + ((k / 8 : Nat) : Int)) (rowOf (m.t.set k (e1,e2)) (k / 8 : Nat)).1).2,t:=m.t.set k (e1,e2),held:=if (ent m.t k).1 = 2 then m.held++[(ent m.t k).2] else m.held }):=rfl
 generalize m.setE k (e1,e2) = S at *
 have hvalid : (rowOf (m.t.set k (e1,e2)) (k / 8 : Nat)).2 = 0:=rowOf_valid (by simp; omega) (by simp; unfold rowsN; omega) fun x hx=>by
  rcases List.mem_or_eq_of_mem_set hx with h | h
  ·exact entOk_mono (hm.ents x h) q6
  ·rw [h]; exact entOk_mono he q6
 have hcode:=write_nonneg m.d (1 + ((k / 8 : Nat) : Int)) (rowOf (m.t.set k (e1,e2)) (k / 8 : Nat)).1
 have hrc:=fun (R : List SL.HP) (w : World) (H : own w (imgAt b bd bh { m with t:=m.t.set k (e1,e2) }::devAt bd m.d::R))=>imgrow_any b bd bh { m with t:=m.t.set k (e1,e2) } hm.d (by simp; omega) hw hp (k / 8) (by omega) hvalid R w H
 unfold ImgM.rowS at hrc
 dsimp only at hrc
 have HRC:=Lib.hid hrc
 have hap : (ent m.t k).1 = 2→(ent m.t k).2∉m.held:=fun h hin=>hm.apart _ hin (by
  have hmem : ent m.t k∈m.t:=by unfold ent; simp [hk]
  have : ent m.t k = (2,(ent m.t k).2):=by rw [← h]
  rw [← this]; exact hmem)
 have hsb:=set_back (e1,e2) hk
 have ha:=own_alloc H (.cells #[.int .i64 e1,.int .i64 e2] 221)
 have hxa:=(Ext.refl w).alloc (.cells #[.int .i64 e1,.int .i64 e2] 221)
 have l2 : m.t.length≤32:=by omega
 clear hrc hvalid he hC q1 q2 q3 q4
 generalize m.d.write (1 + ((k / 8 : Nat) : Int)) (rowOf (m.t.set k (e1,e2)) (k / 8 : Nat)).1 = res at *
 generalize hx : ent m.t k = x at *
 have HSE:=Lib.hid hsetE
 clear hsetE
 have HX:=Lib.hid hx
 have HAP:=Lib.hid hap
 have HSB:=Lib.hid hsb
 clear hx hap hsb
 go_enter Tryz.func167,Tryz.ntmps167
 go_upto_region 1 with (fail)
 generalize w.heap.size = ge at *
 generalize w.alloc (.cells #[.int .i64 e1,.int .i64 e2] 221) = w1 at *
 obtain ⟨v,h1⟩:=img_open (own_pick 1 ha rfl)
 clear ha
 obtain ⟨ao,g,cap,rfl,r1,r2,r3,-,-,r6,-⟩:=own_row_form 1 h1 rfl
 obtain rfl:=r3 (by omega)
 have x1 : w1.cell? ⟨g,k * 2,none⟩ = some (.int .i64 x.1):=by rw [← HX.out]; exact r6 _ _ (entCells_get hk).1
 have x2 : w1.cell? ⟨g,k * 2 + 1,none⟩ = some (.int .i64 x.2):=by rw [← HX.out]; exact r6 _ _ (entCells_get hk).2
 clear r3 r6
 obtain ⟨xa,xb⟩:=x
 dsimp only at x1 x2
 obtain ⟨c,f⟩:=own_cells 0 h1 rfl
 go_upto_region 2 with (fail)
 have h2:=own_alloc h1 (.cells #[.int .i64 xa,.int .i64 xb] 221)
 have hx2:=hxa.alloc (.cells #[.int .i64 xa,.int .i64 xb] 221)
 clear c f h1 hxa x1 x2
 generalize w1.heap.size = gw at *
 generalize w1.alloc (.cells #[.int .i64 xa,.int .i64 xb] 221) = w2 at *
 obtain ⟨c,f⟩:=own_cells 1 h2 rfl
 obtain ⟨ce,fe⟩:=own_cells 4 h2 rfl
 obtain ⟨r6,f6⟩:=own_row_cells 2 h2 rfl
 have x1:=r6 _ _ (entCells_get hk).1
 have x2:=r6 _ _ (entCells_get hk).2
 clear r6
 have i1 : (0 : Int)≤(k : Int):=by omega
 have i2 : (k : Int) < (m.t.length : Int):=by omega
 go_still_tail 7,(by kernel_rfl)
 change wpList _ _ _ _ _ w2.drew
 go_wp2_with fail
 have h3:=own_drew (own_row_set2 2 k (e1,e2) h2 rfl (by omega))
 have hx3:=((hx2.setCell ⟨g,k * 2,none⟩ (.int .i64 e1)).setCell ⟨g,k * 2 + 1,none⟩ (.int .i64 e2)).drew
 clear c f ce fe f6 x1 x2 h2 hx2
 dsimp only at h3
 generalize ((w2.setCell ⟨g,k * 2,none⟩ (.int .i64 e1)).setCell ⟨g,k * 2 + 1,none⟩ (.int .i64 e2)).drew = w3 at *
 have hlen : (m.t.set k (e1,e2)).length = m.t.length:=by simp
 have h4 : own w3 (imgAt b bd bh { m with t:=m.t.set k (e1,e2) }::devAt bd m.d::pts ge (.cells #[.int .i64 e1,.int .i64 e2] 221 (0,0))::pts gw (.cells #[.int .i64 xa,.int .i64 xb] 221 (0,0))::R):=by
  have h5:=own_behind [_,_,_,_,_] h3
  have h6 : own w3 (imgAt b bd bh { m with t:=m.t.set k (e1,e2) }::pts ge (.cells #[.int .i64 e1,.int .i64 e2] 221 (0,0))::devAt bd m.d::pts gw (.cells #[.int .i64 xa,.int .i64 xb] 221 (0,0))::R):=img_close (m:={ m with t:=m.t.set k (e1,e2) }) (by dsimp only; rw [hlen]; exact h5)
  exact own_behind [_] (own_pick 2 h6 rfl)
 clear h3
 rw [show (k : Int) / 8 = ((k / 8 : Nat) : Int) by omega]
 refine (HRC.out _ w3 h4).mono ?_
 rintro e w4 ⟨rfl,hx4,h5⟩
 replace hx4:=hx3.trans hx4
 clear h4 hx3
 obtain ⟨v5,h6⟩:=img_open h5
 dsimp only at h6
 rw [hlen] at h6
 obtain ⟨ao5,g5,cap5,rfl,r1',r2',r3',-,-,r6',-⟩:=own_row_form 1 h6 rfl
 obtain rfl:=r3' (by omega)
 clear r3' h5
 by_cases hz : res.1 = 0
 ·have HZ:=Lib.hid hz
  rw [hz,errV_0]
  obtain ⟨c,f⟩:=own_cells 0 h6 rfl
  obtain ⟨cw,fw⟩:=own_cells 5 h6 rfl
  clear hz r6'
  by_cases h2 : xa = 2
  ·have hni : xb∉m.held:=HAP.out h2
   have hS : S = (0,{ m with d:=res.2,t:=m.t.set k (e1,e2),held:=m.held++[xb] }):=by
    rw [HSE.out,if_neg (by simpa using HZ.out),if_pos h2]
   have HSS:=Lib.hid hS
   clear hS
   subst h2
   obtain ⟨w7,hr,h7,hx7⟩:=held_add 2 (own_drew h6) rfl hni
   go_upto_region 8 with (fail)
   go_still_tail 6,(by kernel_rfl)
   change wpList _ _ _ _ _ w4.drew
   go_wp2_with fail
   go_ret
   rw [HSS.out]
   refine ⟨rfl,hx4.drew.trans hx7,?_⟩
   dsimp only at h7 ⊢
   have h8 : own w7 (imgAt b bd bh { m with d:=res.2,t:=m.t.set k (e1,e2),held:=m.held++[xb] }::devAt bd res.2::pts ge (.cells #[.int .i64 e1,.int .i64 e2] 221 (0,0))::pts gw (.cells #[.int .i64 2,.int .i64 xb] 221 (0,0))::R):=img_close (m:={ m with d:=res.2,t:=m.t.set k (e1,e2),held:=m.held++[xb] }) (by dsimp only; rw [hlen]; exact h7)
   exact own_erase 2 (own_erase 2 h8 rfl) rfl
  ·have hS : S = (0,{ m with d:=res.2,t:=m.t.set k (e1,e2) }):=by
    rw [HSE.out,if_neg (by simpa using HZ.out),if_neg h2]
   have HSS:=Lib.hid hS
   have t2 : (xa == 2) = false:=beq_eq_false_iff_ne.2 h2
   clear h2 hS
   go_wp2_with fail
   go_ret
   rw [HSS.out]
   refine ⟨rfl,hx4,?_⟩
   have h8 : own w4 (imgAt b bd bh { m with d:=res.2,t:=m.t.set k (e1,e2) }::devAt bd res.2::pts ge (.cells #[.int .i64 e1,.int .i64 e2] 221 (0,0))::pts gw (.cells #[.int .i64 xa,.int .i64 xb] 221 (0,0))::R):=img_close (m:={ m with d:=res.2,t:=m.t.set k (e1,e2) }) (by dsimp only; rw [hlen]; exact h6)
   exact own_erase 2 (own_erase 2 h8 rfl) rfl
 ·have hS : S = (res.1,{ m with d:=res.2 }):=by rw [HSE.out,if_pos hz]
  have hpz : 0 < res.1:=by omega
  have HSS:=Lib.hid hS
  clear hS hz
  rw [errV_pos hpz]
  have HPE:=Lib.hid (errV_pos hpz)
  obtain ⟨c,f⟩:=own_cells 0 h6 rfl
  obtain ⟨cw,fw⟩:=own_cells 5 h6 rfl
  have x1:=r6' _ _ (entCells_get (l:=m.t.set k (e1,e2)) (i:=k) (by simp; omega)).1
  have x2:=r6' _ _ (entCells_get (l:=m.t.set k (e1,e2)) (i:=k) (by simp; omega)).2
  obtain ⟨-,f6⟩:=own_row_cells 1 h6 rfl
  clear r6'
  go_upto_region 5 with (fail)
  go_still_tail 7,(by kernel_rfl)
  change wpList _ _ _ _ _ w4.drew
  go_wp2_with fail
  go_ret
  rw [HSS.out]
  have h9:=own_drew (own_row_set2 1 k (xa,xb) h6 rfl (by omega))
  have hback : (m.t.set k (e1,e2)).set k (xa,xb) = m.t:=HSB.out
  rw [hback] at h9
  refine ⟨by rw [HPE.out]; rfl,((hx4.setCell _ _).setCell _ _).drew,?_⟩
  have h8:=img_close (m:={ m with d:=res.2 }) h9
  exact own_erase 2 (own_erase 2 h8 rfl) rfl
end Go.Proofs.YtbpblokfiajpjabGreatDoor

namespace Go.Proofs.YtbpblokfiajpjabGreatDoor
open Go.RowKit Go.SL Go.Crc
attribute [local go_sem ↓] Go.wp_at_zero Go.wp_at_succ
theorem ents_row_n {w : World} {L : List HP} (k : Nat) {v : Value} {l : List Ent} {n : Nat} (hn : l.length = n) (H : own w L) (hk : L[k]? = some (row 221 2 v n (entCells l))) : entsAt w v l:=by
 subst hn; exact ents_row k H hk
set_option maxRecDepth 100000 in
set_option maxHeartbeats 4000000 in
theorem rset_any (b bd : Nat) (m : ImgM) (hm : m.Ok) (hw : m.d.writes < 1000000) (hp : m.d.pend.length < 1000000) (hh : m.held.length≤1000000) (k : Nat) (hk : k < m.t.length) (e1 e2 : Int) (he : entOk (e1,e2) m.p = true) (R : List SL.HP) (w : World) (H : own w (rimgAt b bd m::rdevAt bd m.d::R)) :
  Calls Tryz.prog 169 #[.pointer (some ⟨b,0,none⟩),.int .i64 k,.agg #[.int .i64 e1,.int .i64 e2]] w fun e w'=>e = .returned (.int .i64 (m.setE k (e1,e2)).1)∧Ext w w'∧own w' (rimgAt b bd (m.setE k (e1,e2)).2::rdevAt bd (m.setE k (e1,e2)).2.d::R):=by
 obtain ⟨C,hC,q1,q2,q3,q4,q5,q6,-⟩:=hm.nat
 have hsetE : m.setE k (e1,e2) = if (m.d.write (1 + ((k / 8 : Nat) : Int)) (rowOf (m.t.set k (e1,e2)) (k / 8 : Nat)).1).1≠0 then ((m.d.write (1 + ((k / 8 : Nat) : Int)) (rowOf (m.t.set k (e1,e2)) (k / 8 : Nat)).1).1,{ m with d:=(m.d.write (1 + ((k / 8 : Nat) : Int)) (rowOf (m.t.set k (e1,e2)) (k / 8 : Nat)).1).2 })
  else (0,{ m with d:=(m.d.write (1 + ((k / 8 : Nat) : Int)) (rowOf (m.t.set k (e1,e2)) (k / 8 : Nat)).1).2,t:=m.t.set k (e1,e2),held:=if (ent m.t k).1 = 2 then m.held++[(ent m.t k).2] else m.held }):=rfl
 generalize m.setE k (e1,e2) = S at *
 have hvalid : (rowOf (m.t.set k (e1,e2)) (k / 8 : Nat)).2 = 0:=rowOf_valid (by simp; omega) (by simp; unfold rowsN; omega) fun x hx=>by
  rcases List.mem_or_eq_of_mem_set hx with h | h
  ·exact entOk_mono (hm.ents x h) q6
  ·rw [h]; exact entOk_mono he q6
 have hsz:=rowOf_size hvalid
 have hcode:=write_nonneg m.d (1 + ((k / 8 : Nat) : Int)) (rowOf (m.t.set k (e1,e2)) (k / 8 : Nat)).1
 have HVA:=Lib.hid hvalid
 have hwr:=fun (R : List SL.HP) (w : World) (H : own w (rdevAt bd m.d::R))=>rdev_write bd m.d hm.d (1 + ((k / 8 : Nat) : Int)) (rowOf (m.t.set k (e1,e2)) (k / 8 : Nat)).1 (by omega) hw hp R w H
 have HWR:=Lib.hid hwr
 have ha:=own_alloc H (.cells #[.int .i64 e1,.int .i64 e2] 221)
 have hxa:=(Ext.refl w).alloc (.cells #[.int .i64 e1,.int .i64 e2] 221)
 have l2 : m.t.length≤32:=by omega
 have hrow : (rowOf (m.t.set k (e1,e2)) (k / 8 : Nat)) = ((rowOf (m.t.set k (e1,e2)) (k / 8 : Nat)).1,0):=Prod.ext rfl hvalid
 have HROW:=Lib.hid hrow
 clear hwr hvalid he hC q1 q2 q3 q4 hrow
 generalize m.d.write (1 + ((k / 8 : Nat) : Int)) (rowOf (m.t.set k (e1,e2)) (k / 8 : Nat)).1 = res at *
 generalize hz : (rowOf (m.t.set k (e1,e2)) (k / 8 : Nat)).1 = z at *
 generalize hx : ent m.t k = x at *
 have HSE:=Lib.hid hsetE
 clear hsetE
 have HX:=Lib.hid hx
 clear hx hz
 go_enter Tryz.func169,Tryz.ntmps169
 go_upto_region 1 with (fail)
 generalize w.heap.size = ge at *
 generalize w.alloc (.cells #[.int .i64 e1,.int .i64 e2] 221) = w1 at *
 obtain ⟨vt,vh,h1⟩:=rimg_open (own_pick 1 ha rfl)
 clear ha
 obtain ⟨ao,g,cap,rfl,r1,r2,r3,-,-,r6,-⟩:=own_row_form 1 h1 rfl
 obtain rfl:=r3 (by omega)
 obtain ⟨hao,hg,hcap,rfl,s1,s2,-,-,-,-,-⟩:=own_row_form 2 h1 rfl
 clear r3 r6
 obtain ⟨c,f⟩:=own_cells 0 h1 rfl
 obtain ⟨hn1,hn2⟩:=ents_news (ents_row 1 h1 rfl)
 have hml : 0 + m.t.length≤maxLen:=by simp only [maxLen]; omega
 go_wp2_with (first | (at_builtin; refine wpList_append_row rfl _ _ 150 rfl 0 221 Tryz.underlying150 elem_entry rfl (by decide) rfl (own_row_nil 221 2 h1) rfl (some ⟨g,0,none⟩) m.t.length cap (entCells m.t) rfl (entCells_len m.t) hn1 hn2 entCells_one hml (by omega) ?_))
 clear hn1 hn2
 intro v2 w2 h2 hx2
 replace hx2:=hxa.trans hx2
 try simp only [Nat.zero_add,List.nil_append,List.set_cons_zero] at h2
 obtain ⟨a2,g2,cap2,rfl,t1,t2,t3,-,-,t6,-⟩:=own_row_form 0 h2 rfl
 try simp only [Nat.zero_add] at t1
 obtain rfl:=t3 (by omega)
 have x1:=t6 _ _ (entCells_get hk).1
 have x2:=t6 _ _ (entCells_get hk).2
 clear t3 t6 c f h1 hxa
 obtain ⟨c,f⟩:=own_cells 1 h2 rfl
 obtain ⟨ce,fe⟩:=own_cells 4 h2 rfl
 obtain ⟨-,f6⟩:=own_row_cells 0 h2 rfl
 have i1 : (0 : Int)≤(k : Int):=by omega
 have i2 : (k : Int) < (m.t.length : Int):=by omega
 go_wp2_with fail
 have h3:=own_row_set2 0 k (e1,e2) h2 rfl (by omega)
 have hx3:=(hx2.setCell ⟨g2,k * 2,none⟩ (.int .i64 e1)).setCell ⟨g2,k * 2 + 1,none⟩ (.int .i64 e2)
 dsimp only at h3
 clear c f ce fe f6 x1 x2 h2 hx2
 generalize (w2.setCell ⟨g2,k * 2,none⟩ (.int .i64 e1)).setCell ⟨g2,k * 2 + 1,none⟩ (.int .i64 e2) = w3 at *
 have hlen : (m.t.set k (e1,e2)).length = m.t.length:=by simp
 have HLEN:=Lib.hid hlen
 clear hlen
 rw [show (k : Int) / 8 = ((k / 8 : Nat) : Int) by omega]
 refine (rrowof_any (.slice (some ⟨g2,0,none⟩) m.t.length cap2) (m.t.set k (e1,e2)) ((k / 8 : Nat) : Int) (by have:=HLEN.out; omega) _ w3 (fun w' L H=>ents_row_n (L.length + 0) HLEN.out H (at_behind (l:=L) rfl)) h3).mono ?_
 rw [HROW.out]
 rintro e w4 ⟨rfl,hx4,h4⟩
 replace hx4:=hx3.trans hx4
 clear h3 hx3
 obtain ⟨c,f⟩:=own_cells 1 h4 rfl
 have e8 : 1 + (k : Int) / 8 = 1 + ((k / 8 : Nat) : Int):=by omega
 have E8:=Lib.hid e8
 clear e8
 go_wp2_with fail
 rw [E8.out]
 refine (HWR.out _ w4 (own_pick 5 h4 rfl)).mono ?_
 rintro e w5 ⟨rfl,hx5,h5'⟩
 have h5:=own_put h4 5 rfl h5'
 replace hx5:=hx4.trans hx5
 clear h4 h5' hx4 c f
 obtain ⟨c,f⟩:=own_cells 1 h5 rfl
 by_cases hz : res.1 = 0
 ·have HZ:=Lib.hid hz
  have hpos : decide (0 < res.1) = false:=decide_eq_false (by omega)
  obtain ⟨r6,-⟩:=own_row_cells 2 h5 rfl
  have y1 : w5.cell? ⟨g,k * 2,none⟩ = some (.int .i64 x.1):=by rw [← HX.out]; exact r6 _ _ (entCells_get hk).1
  have y2 : w5.cell? ⟨g,k * 2 + 1,none⟩ = some (.int .i64 x.2):=by rw [← HX.out]; exact r6 _ _ (entCells_get hk).2
  obtain ⟨xa,xb⟩:=x
  dsimp only at y1 y2
  clear r6 hz
  by_cases h2 : xa = 2
  ·have hS : S = (0,{ m with d:=res.2,t:=m.t.set k (e1,e2),held:=m.held++[xb] }):=by
    rw [HSE.out,if_neg (by simpa using HZ.out),if_pos h2]
   have HSS:=Lib.hid hS
   have HXB : Hid ((ent m.t k).2 = xb):=Lib.hid (by rw [HX.out])
   clear hS
   subst h2
   go_upto_region 8 with (fail)
   have H7:=Lib.hid (own_drew (own_alloc h5 (.cells #[.int .i64 xb] 3)))
   have HX7:=Lib.hid (hx5.alloc (.cells #[.int .i64 xb] 3)).drew
   have hmlh : m.held.length + 1≤maxLen:=by simp only [maxLen]; omega
   have z5:=c 5
   have z4:=c 4
   clear c f
   refine wp_region_held_drew (S:=fun w'=>w'.cell? ⟨b,4,none⟩ = some (.slice (some ⟨g,0,none⟩) m.t.length cap)∧w'.cell? ⟨g,k * 2 + 1,none⟩ = some (.int .i64 xb)) (by kernel_rfl) ⟨z4,y2⟩ (fun hHeld=>?_)
   refine wpAnyH_take (i:=0) (v:=?_) rfl (by kernel_rfl) (by kernel_rfl) (by kernel_rfl) (fun _ _ _ h=>h) (Or.inl ⟨by rfl,?_⟩) (by assumption) ?_
   rotate_left
   ·intro w hSw
    go_simp
    try with_reducible rfl
   try simp only [Act.put,List.setIfInBounds_toArray,List.set_cons_zero,List.set_cons_succ]
   refine wpAnyH_take (i:=1) (v:=?_) rfl (by kernel_rfl) (by kernel_rfl) (by kernel_rfl) (fun _ _ _ h=>h) (Or.inl ⟨by rfl,?_⟩) (by assumption) ?_
   rotate_left
   ·intro w hSw
    go_simp
    try with_reducible rfl
   try simp only [Act.put,List.setIfInBounds_toArray,List.set_cons_zero,List.set_cons_succ]
   refine wpAnyH_take (i:=2) (v:=?_) rfl (by kernel_rfl) (by kernel_rfl) (by kernel_rfl) (fun _ _ _ h=>h) (Or.inl ⟨by rfl,?_⟩) (by assumption) ?_
   rotate_left
   ·intro w hSw
    go_simp
    try with_reducible rfl
   try simp only [Act.put,List.setIfInBounds_toArray,List.set_cons_zero,List.set_cons_succ]
   refine wpAnyH_take (i:=3) (v:=?_) rfl (by kernel_rfl) (by kernel_rfl) (by kernel_rfl) (fun _ _ _ h=>h) (Or.inl ⟨by rfl,?_⟩) (by assumption) ?_
   rotate_left
   ·intro w hSw
    go_simp
    try with_reducible rfl
   try simp only [Act.put,List.setIfInBounds_toArray,List.set_cons_zero,List.set_cons_succ]
   refine wpAnyH_take (i:=5) (v:=?_) rfl (by kernel_rfl) (by kernel_rfl) (by kernel_rfl) (fun _ _ _ h=>h) (Or.inl ⟨by rfl,?_⟩) (by assumption) ?_
   rotate_left
   ·intro w hSw
    go_simp
    try with_reducible rfl
   try simp only [Act.put,List.setIfInBounds_toArray,List.set_cons_zero,List.set_cons_succ]
   refine wpAnyH_take (i:=6) (v:=?_) rfl (by kernel_rfl) (by kernel_rfl) (by kernel_rfl) (fun _ _ _ h=>h) (Or.inl ⟨by rfl,?_⟩) (by assumption) ?_
   rotate_left
   ·intro w hSw
    go_simp
    try with_reducible rfl
   try simp only [Act.put,List.setIfInBounds_toArray,List.set_cons_zero,List.set_cons_succ]
   refine wpAnyH_take (i:=7) (v:=?_) rfl (by kernel_rfl) (by kernel_rfl) (by kernel_rfl) (fun _ _ _ h=>h) (Or.inl ⟨by rfl,?_⟩) (by assumption) ?_
   rotate_left
   ·intro w hSw
    go_simp
    try with_reducible rfl
   try simp only [Act.put,List.setIfInBounds_toArray,List.set_cons_zero,List.set_cons_succ]
   refine wpAnyH_take (i:=8) (v:=?_) rfl (by kernel_rfl) (by kernel_rfl) (by kernel_rfl) (fun _ _ _ h=>h) (Or.inl ⟨by rfl,?_⟩) (by assumption) ?_
   rotate_left
   ·intro w hSw
    go_simp
    try with_reducible rfl
   try simp only [Act.put,List.setIfInBounds_toArray,List.set_cons_zero,List.set_cons_succ]
   refine wpAnyH_take (i:=9) (v:=?_) rfl (by kernel_rfl) (by kernel_rfl) (by kernel_rfl) (fun _ _ _ h=>h) (Or.inl ⟨by rfl,?_⟩) (by assumption) ?_
   rotate_left
   ·intro w hSw
    go_simp
    try with_reducible rfl
   try simp only [Act.put,List.setIfInBounds_toArray,List.set_cons_zero,List.set_cons_succ]
   refine wpAnyH_take (i:=10) (v:=?_) rfl (by kernel_rfl) (by kernel_rfl) (by kernel_rfl) (fun _ _ _ h=>h) (Or.inl ⟨by rfl,?_⟩) (by assumption) ?_
   rotate_left
   ·intro w hSw
    go_simp
    try with_reducible rfl
   try simp only [Act.put,List.setIfInBounds_toArray,List.set_cons_zero,List.set_cons_succ]
   refine wpAnyH_take (i:=11) (v:=?_) rfl (by kernel_rfl) (by kernel_rfl) (by kernel_rfl) (fun _ _ _ h=>h) (Or.inl ⟨by rfl,?_⟩) (by assumption) ?_
   rotate_left
   ·intro w hSw
    go_simp
    try with_reducible rfl
   try simp only [Act.put,List.setIfInBounds_toArray,List.set_cons_zero,List.set_cons_succ]
   refine wpAnyH_take (i:=12) (v:=?_) rfl (by kernel_rfl) (by kernel_rfl) (by kernel_rfl) (fun _ _ _ h=>h) (Or.inl ⟨by rfl,?_⟩) (by assumption) ?_
   rotate_left
   ·intro w hSw
    go_simp
    try with_reducible rfl
   try simp only [Act.put,List.setIfInBounds_toArray,List.set_cons_zero,List.set_cons_succ]
   refine wpAnyH_ready (rs:=[4,13]) (by kernel_rfl) (by simp) ?_
   refine AllReadyH.cons rfl (fun K hK=>?_) (AllReadyH.cons rfl (fun K hK=>?_) AllReadyH.nil)
   ·go_simp
    refine hK.out _ _ ⟨z4,y2⟩ (fun _=>?_)
    clear hK K
    try simp only [Act.put,List.setIfInBounds_toArray,List.set_cons_zero,List.set_cons_succ]
    refine wpAnyH_ready (rs:=[13]) (by kernel_rfl) (by simp) ?_
    refine AllReadyH.cons rfl (fun K hK=>?_) AllReadyH.nil
    go_simp
    refine hK.out _ _ ⟨(own_cells 2 H7.out rfl).1 4,(own_row_cells 3 H7.out rfl).1 _ _ (by rw [← HXB.out]; exact (entCells_get hk).2)⟩ (fun _=>?_)
    clear hK K
    try simp only [Act.put,List.setIfInBounds_toArray,List.set_cons_zero,List.set_cons_succ]
    refine wpAnyH_ready (rs:=[14]) (by kernel_rfl) (by simp) ?_
    refine AllReadyH.cons rfl (fun K hK=>?_) AllReadyH.nil
    refine step_append_row (by rfl) _ _ 95 (by rfl) 4 3 Tryz.underlying95 elem_int rfl (by decide) (by rfl) H7.out rfl (some ⟨w5.heap.size,0,none⟩) 1 1 [.int .i64 xb] (by rfl) rfl (alloc_news w5 [.int .i64 xb] _) (fun h=>by cases h) (one_int _) hmlh (by omega) ?_
    intro v8 w8 h8 hx8
    obtain ⟨ao8,g8,cap8,rfl,-,-,-,-,-,-,-⟩:=own_row_form 4 h8 rfl
    refine hK.out _ _ ⟨(own_cells 2 h8 rfl).1 4,(own_row_cells 3 h8 rfl).1 _ _ (by rw [← HXB.out]; exact (entCells_get hk).2)⟩ (fun _=>?_)
    clear hK K
    try simp only [Act.put,List.setIfInBounds_toArray,List.set_cons_zero,List.set_cons_succ]
    refine wpAnyH_take (i:=15) (v:=?_) rfl (by kernel_rfl) (by kernel_rfl) (by kernel_rfl) (fun _ _ _ h=>h) (Or.inl ⟨by rfl,?_⟩) (by assumption) ?_
    rotate_left
    ·intro w hSw
     go_simp
     try with_reducible rfl
    try simp only [Act.put,List.setIfInBounds_toArray,List.set_cons_zero,List.set_cons_succ]
    refine wpAnyH_take (i:=16) (v:=?_) rfl (by kernel_rfl) (by kernel_rfl) (by kernel_rfl) (fun _ _ _ h=>h) (Or.inl ⟨by rfl,?_⟩) (by assumption) ?_
    rotate_left
    ·intro w hSw
     go_simp
     try with_reducible rfl
    try simp only [Act.put,List.setIfInBounds_toArray,List.set_cons_zero,List.set_cons_succ]
    refine wpAnyH_ready (rs:=[17]) (by kernel_rfl) (by simp) ?_
    refine AllReadyH.cons rfl (fun K hK=>?_) AllReadyH.nil
    obtain ⟨c8,f8⟩:=own_cells 2 h8 rfl
    have h9:=own_set (i:=5) (v:=.slice ao8 (m.held.length + 1) cap8) 2 h8 rfl
    have hx9:=((HX7.out).trans hx8).setCell ⟨b,5,none⟩ (.slice ao8 (m.held.length + 1) cap8)
    go_simp
    refine hK.out _ _ ⟨(own_cells 2 h9 rfl).1 4,(own_row_cells 3 h9 rfl).1 _ _ (by rw [← HXB.out]; exact (entCells_get hk).2)⟩ (fun _=>?_)
    clear hK K c8 f8
    try simp only [Act.put,List.setIfInBounds_toArray,List.set_cons_zero,List.set_cons_succ]
    refine wpAnyH_done (by kernel_rfl) ?_ _
    have h10:=h9
    have hx10:=hx9
    clear h9 hx9 h8 hx8
    generalize w8.setCell ⟨b,5,none⟩ (.slice ao8 (m.held.length + 1) cap8) = w9 at *
    obtain ⟨c,f⟩:=own_cells 2 h10 rfl
    go_wp2_with fail
    go_ret
    rw [HSS.out]
    have h11:=own_set (i:=4) (v:=.slice (some ⟨g2,0,none⟩) m.t.length cap2) 2 h10 rfl
    refine ⟨rfl,hx10.setCell _ _,?_⟩
    have h12:=own_erase 2 (own_pick 1 (own_drop h11) rfl) rfl
    have h13:=rimg_close (m:={ m with d:=res.2,t:=m.t.set k (e1,e2),held:=m.held++[xb] }) (vt:=.slice (some ⟨g2,0,none⟩) m.t.length cap2) (vh:=.slice ao8 (m.held.length + 1) cap8) (by
     dsimp only
     rw [HLEN.out,show (m.held++[xb]).length = m.held.length + 1 by simp,show heldNums (m.held++[xb]) = heldNums m.held++[.int .i64 xb] by simp [heldNums]]
     exact h12)
    exact own_erase 1 h13 rfl
   ·go_simp
    refine hK.out _ _ ⟨(own_cells 2 H7.out rfl).1 4,(own_row_cells 3 H7.out rfl).1 _ _ (by rw [← HXB.out]; exact (entCells_get hk).2)⟩ (fun _=>?_)
    clear hK K
    try simp only [Act.put,List.setIfInBounds_toArray,List.set_cons_zero,List.set_cons_succ]
    refine wpAnyH_ready (rs:=[4]) (by kernel_rfl) (by simp) ?_
    refine AllReadyH.cons rfl (fun K hK=>?_) AllReadyH.nil
    have z6 : (w5.alloc (.cells #[.int .i64 xb] 3)).drew.cell? ⟨b,5,none⟩ = some (.slice hao m.held.length hcap):=(own_cells 2 H7.out rfl).1 5
    go_simp
    refine hK.out _ _ ⟨(own_cells 2 H7.out rfl).1 4,(own_row_cells 3 H7.out rfl).1 _ _ (by rw [← HXB.out]; exact (entCells_get hk).2)⟩ (fun _=>?_)
    clear hK K z6
    try simp only [Act.put,List.setIfInBounds_toArray,List.set_cons_zero,List.set_cons_succ]
    refine wpAnyH_ready (rs:=[14]) (by kernel_rfl) (by simp) ?_
    refine AllReadyH.cons rfl (fun K hK=>?_) AllReadyH.nil
    refine step_append_row (by rfl) _ _ 95 (by rfl) 4 3 Tryz.underlying95 elem_int rfl (by decide) (by rfl) H7.out rfl (some ⟨w5.heap.size,0,none⟩) 1 1 [.int .i64 xb] (by rfl) rfl (alloc_news w5 [.int .i64 xb] _) (fun h=>by cases h) (one_int _) hmlh (by omega) ?_
    intro v8 w8 h8 hx8
    obtain ⟨ao8,g8,cap8,rfl,-,-,-,-,-,-,-⟩:=own_row_form 4 h8 rfl
    refine hK.out _ _ ⟨(own_cells 2 h8 rfl).1 4,(own_row_cells 3 h8 rfl).1 _ _ (by rw [← HXB.out]; exact (entCells_get hk).2)⟩ (fun _=>?_)
    clear hK K
    try simp only [Act.put,List.setIfInBounds_toArray,List.set_cons_zero,List.set_cons_succ]
    refine wpAnyH_take (i:=15) (v:=?_) rfl (by kernel_rfl) (by kernel_rfl) (by kernel_rfl) (fun _ _ _ h=>h) (Or.inl ⟨by rfl,?_⟩) (by assumption) ?_
    rotate_left
    ·intro w hSw
     go_simp
     try with_reducible rfl
    try simp only [Act.put,List.setIfInBounds_toArray,List.set_cons_zero,List.set_cons_succ]
    refine wpAnyH_take (i:=16) (v:=?_) rfl (by kernel_rfl) (by kernel_rfl) (by kernel_rfl) (fun _ _ _ h=>h) (Or.inl ⟨by rfl,?_⟩) (by assumption) ?_
    rotate_left
    ·intro w hSw
     go_simp
     try with_reducible rfl
    try simp only [Act.put,List.setIfInBounds_toArray,List.set_cons_zero,List.set_cons_succ]
    refine wpAnyH_ready (rs:=[17]) (by kernel_rfl) (by simp) ?_
    refine AllReadyH.cons rfl (fun K hK=>?_) AllReadyH.nil
    obtain ⟨c8,f8⟩:=own_cells 2 h8 rfl
    have h9:=own_set (i:=5) (v:=.slice ao8 (m.held.length + 1) cap8) 2 h8 rfl
    have hx9:=((HX7.out).trans hx8).setCell ⟨b,5,none⟩ (.slice ao8 (m.held.length + 1) cap8)
    go_simp
    refine hK.out _ _ ⟨(own_cells 2 h9 rfl).1 4,(own_row_cells 3 h9 rfl).1 _ _ (by rw [← HXB.out]; exact (entCells_get hk).2)⟩ (fun _=>?_)
    clear hK K c8 f8
    try simp only [Act.put,List.setIfInBounds_toArray,List.set_cons_zero,List.set_cons_succ]
    refine wpAnyH_done (by kernel_rfl) ?_ _
    have h10:=h9
    have hx10:=hx9
    clear h9 hx9 h8 hx8
    generalize w8.setCell ⟨b,5,none⟩ (.slice ao8 (m.held.length + 1) cap8) = w9 at *
    obtain ⟨c,f⟩:=own_cells 2 h10 rfl
    go_wp2_with fail
    go_ret
    rw [HSS.out]
    have h11:=own_set (i:=4) (v:=.slice (some ⟨g2,0,none⟩) m.t.length cap2) 2 h10 rfl
    refine ⟨rfl,hx10.setCell _ _,?_⟩
    have h12:=own_erase 2 (own_pick 1 (own_drop h11) rfl) rfl
    have h13:=rimg_close (m:={ m with d:=res.2,t:=m.t.set k (e1,e2),held:=m.held++[xb] }) (vt:=.slice (some ⟨g2,0,none⟩) m.t.length cap2) (vh:=.slice ao8 (m.held.length + 1) cap8) (by
     dsimp only
     rw [HLEN.out,show (m.held++[xb]).length = m.held.length + 1 by simp,show heldNums (m.held++[xb]) = heldNums m.held++[.int .i64 xb] by simp [heldNums]]
     exact h12)
    exact own_erase 1 h13 rfl
  ·have hS : S = (0,{ m with d:=res.2,t:=m.t.set k (e1,e2) }):=by
    rw [HSE.out,if_neg (by simpa using HZ.out),if_neg h2]
   have HSS:=Lib.hid hS
   have t2 : (xa == 2) = false:=beq_eq_false_iff_ne.2 h2
   clear h2 hS
   go_wp2_with fail
   go_ret
   rw [HSS.out]
   have h11:=own_set (i:=4) (v:=.slice (some ⟨g2,0,none⟩) m.t.length cap2) 1 h5 rfl
   refine ⟨rfl,hx5.setCell _ _,?_⟩
   have h12:=own_erase 2 (own_pick 1 h11 rfl) rfl
   have h13:=rimg_close (m:={ m with d:=res.2,t:=m.t.set k (e1,e2) }) (vt:=.slice (some ⟨g2,0,none⟩) m.t.length cap2) (by
    dsimp only
    rw [HLEN.out]
    exact h12)
   exact own_erase 1 h13 rfl
 ·have hS : S = (res.1,{ m with d:=res.2 }):=by rw [HSE.out,if_pos hz]
  have hpz : 0 < res.1:=by omega
  have HSS:=Lib.hid hS
  clear hS hz
  go_wp2_with fail
  go_ret
  rw [HSS.out]
  refine ⟨rfl,hx5,?_⟩
  have h8:=rimg_close (m:={ m with d:=res.2 }) (own_drop h5)
  exact own_erase 1 h8 rfl
end Go.Proofs.YtbpblokfiajpjabGreatDoor

namespace Go.Proofs.YtbpblokfiajpjabGreatDoor
open Go.RowKit Go.SL Go.Crc
attribute [local go_sem ↓] Go.wp_at_zero Go.wp_at_succ
def ImgM.clear (m : ImgM) (k : Int) : Int×ImgM:=if m.there k = true then (if m.kind k = 1 then (0,m) else m.setE k.toNat (1,0)) else (1,m)
theorem there_range {m : ImgM} {k : Int} (hm : m.Ok) (h : m.there k = true) : 0≤k∧k < m.c∧k.toNat < m.t.length:=by
 have ht:=hm.t
 unfold ImgM.there at h
 simp at h
 omega
set_option maxRecDepth 100000 in
set_option maxHeartbeats 2000000 in
theorem clear_any (b bd bh : Nat) (m : ImgM) (hm : m.Ok) (hw : m.d.writes < 1000000) (hp : m.d.pend.length < 1000000) (k : Int) (R : List SL.HP) (w : World) (H : own w (imgAt b bd bh m::devAt bd m.d::R)) :
  Calls Tryz.prog 65 #[.pointer (some ⟨b,0,none⟩),.int .i64 k] w fun e w'=>e = .returned (errV (m.clear k).1)∧Ext w w'∧own w' (imgAt b bd bh (m.clear k).2::devAt bd (m.clear k).2.d::R):=by
 have hth:=there_any b bd bh m k _ w H
 cases ht : m.there k
 ·have e : m.clear k = (1,m):=by unfold ImgM.clear; rw [ht,if_neg (by decide)]
  rw [e]
  rw [ht] at hth
  have HT:=Lib.hid hth
  clear hth e ht
  go_enter Tryz.func65,Tryz.ntmps65
  go_wp2_with fail
  refine HT.out.mono ?_
  rintro e w' ⟨rfl,rfl⟩
  go_wp2_with fail
  go_ret
  exact ⟨rfl,Ext.refl _,H⟩
 ·obtain ⟨k0,-,hkl⟩:=there_range hm ht
  obtain ⟨n,rfl⟩:=Int.eq_ofNat_of_zero_le k0
  rw [Int.toNat_natCast] at hkl
  rw [ht] at hth
  have HT:=Lib.hid hth
  obtain ⟨v,h⟩:=img_open H
  obtain ⟨ao,g,cap,rfl,r1,r2,r3,-,-,r6,-⟩:=own_row_form 1 h rfl
  obtain rfl:=r3 (by omega)
  have e1:=r6 _ _ (entCells_get hkl).1
  have e2 : w.cell? ⟨g,n * 2,none⟩ = some (.int .i64 (m.kind n)):=e1
  obtain ⟨c,f⟩:=own_cells 0 h rfl
  by_cases h1 : m.kind n = 1
  ·have e : m.clear n = (0,m):=by unfold ImgM.clear; rw [ht,if_pos rfl,if_pos h1]
   rw [e]
   rw [h1] at e2
   clear hth e ht e1 r3 r6 h1
   go_enter Tryz.func65,Tryz.ntmps65
   go_wp2_with fail
   refine HT.out.mono ?_
   rintro e w' ⟨rfl,rfl⟩
   go_wp2_with fail
   go_ret
   exact ⟨rfl,Ext.refl _,H⟩
  ·have e : m.clear n = m.setE n (1,0):=by unfold ImgM.clear; rw [ht,if_pos rfl,if_neg h1,Int.toNat_natCast]
   rw [e]
   have t1 : (m.kind n == 1) = false:=beq_eq_false_iff_ne.2 h1
   have HS:=Lib.hid (set_any b bd bh m hm hw hp n hkl 1 0 rfl R w H)
   clear hth e ht e1 r3 r6 h1
   generalize m.kind n = kd at *
   generalize m.setE n (1,0) = S at *
   go_enter Tryz.func65,Tryz.ntmps65
   go_wp2_with fail
   refine HT.out.mono ?_
   rintro e w' ⟨rfl,rfl⟩
   go_wp2_with fail
   refine HS.out.mono ?_
   rintro e w' ⟨rfl,hx,h2⟩
   go_wp2_with fail
   go_ret
   exact ⟨rfl,hx,h2⟩
set_option maxRecDepth 100000 in
set_option maxHeartbeats 2000000 in
theorem rclear_any (b bd : Nat) (m : ImgM) (hm : m.Ok) (hw : m.d.writes < 1000000) (hp : m.d.pend.length < 1000000) (hh : m.held.length≤1000000) (k : Int) (R : List SL.HP) (w : World) (H : own w (rimgAt b bd m::rdevAt bd m.d::R)) :
  Calls Tryz.prog 66 #[.pointer (some ⟨b,0,none⟩),.int .i64 k] w fun e w'=>e = .returned (.int .i64 (m.clear k).1)∧Ext w w'∧own w' (rimgAt b bd (m.clear k).2::rdevAt bd (m.clear k).2.d::R):=by
 have hth:=rthere_any b bd m k _ w H
 cases ht : m.there k
 ·have e : m.clear k = (1,m):=by unfold ImgM.clear; rw [ht,if_neg (by decide)]
  rw [e]
  rw [ht] at hth
  have HT:=Lib.hid hth
  clear hth e ht
  go_enter Tryz.func66,Tryz.ntmps66
  go_wp2_with fail
  refine HT.out.mono ?_
  rintro e w' ⟨rfl,rfl⟩
  go_wp2_with fail
  go_ret
  exact ⟨rfl,Ext.refl _,H⟩
 ·obtain ⟨k0,-,hkl⟩:=there_range hm ht
  obtain ⟨n,rfl⟩:=Int.eq_ofNat_of_zero_le k0
  rw [Int.toNat_natCast] at hkl
  rw [ht] at hth
  have HT:=Lib.hid hth
  obtain ⟨vt,vh,h⟩:=rimg_open H
  obtain ⟨ao,g,cap,rfl,r1,r2,r3,-,-,r6,-⟩:=own_row_form 1 h rfl
  obtain rfl:=r3 (by omega)
  have e1:=r6 _ _ (entCells_get hkl).1
  have e2 : w.cell? ⟨g,n * 2,none⟩ = some (.int .i64 (m.kind n)):=e1
  obtain ⟨c,f⟩:=own_cells 0 h rfl
  by_cases h1 : m.kind n = 1
  ·have e : m.clear n = (0,m):=by unfold ImgM.clear; rw [ht,if_pos rfl,if_pos h1]
   rw [e]
   rw [h1] at e2
   clear hth e ht e1 r3 r6 h1
   go_enter Tryz.func66,Tryz.ntmps66
   go_wp2_with fail
   refine HT.out.mono ?_
   rintro e w' ⟨rfl,rfl⟩
   go_wp2_with fail
   go_ret
   exact ⟨rfl,Ext.refl _,H⟩
  ·have e : m.clear n = m.setE n (1,0):=by unfold ImgM.clear; rw [ht,if_pos rfl,if_neg h1,Int.toNat_natCast]
   rw [e]
   have t1 : (m.kind n == 1) = false:=beq_eq_false_iff_ne.2 h1
   have HS:=Lib.hid (rset_any b bd m hm hw hp hh n hkl 1 0 rfl R w H)
   clear hth e ht e1 r3 r6 h1
   generalize m.kind n = kd at *
   generalize m.setE n (1,0) = S at *
   go_enter Tryz.func66,Tryz.ntmps66
   go_wp2_with fail
   refine HT.out.mono ?_
   rintro e w' ⟨rfl,rfl⟩
   go_wp2_with fail
   refine HS.out.mono ?_
   rintro e w' ⟨rfl,hx,h2⟩
   go_wp2_with fail
   go_ret
   exact ⟨rfl,hx,h2⟩
end Go.Proofs.YtbpblokfiajpjabGreatDoor

namespace Go.Proofs.YtbpblokfiajpjabGreatDoor
open Go.RowKit Go.SL Go.Crc
attribute [local go_sem ↓] Go.wp_at_zero Go.wp_at_succ
def ImgM.openB (m : ImgM) (p : Int) : Bool:=!(m.t.contains ((2,p) : Ent)) && !(m.held.contains p)
theorem openB_used {m : ImgM} {p : Int} {j : Nat} (h : j < m.t.length) (he : ent m.t j = (2,p)) : m.openB p = false:=by
 have : ((2,p) : Ent)∈m.t:=by rw [← he]; unfold ent; simp [h]
 unfold ImgM.openB
 simp [this]
theorem openB_held {m : ImgM} {p : Int} {j : Nat} (h : j < m.held.length) (he : m.held.getD j 0 = p) : m.openB p = false:=by
 have : p∈m.held:=by rw [← he]; simp [h]
 unfold ImgM.openB
 simp [this]
theorem openB_yes {m : ImgM} {p : Int} (h1 : ∀j,j < m.t.length→ent m.t j≠(2,p)) (h2 : ∀j,j < m.held.length→m.held.getD j 0≠p) : m.openB p = true:=by
 have a : ((2,p) : Ent)∉m.t:=fun h=>by
  obtain ⟨j,hj,he⟩:=List.getElem_of_mem h
  exact h1 j hj (by unfold ent; simp [hj,he])
 have b : p∉m.held:=fun h=>by
  obtain ⟨j,hj,he⟩:=List.getElem_of_mem h
  exact h2 j hj (by simp [hj,he])
 unfold ImgM.openB
 simp [a,b]
set_option maxRecDepth 100000 in
set_option maxHeartbeats 2000000 in
theorem ropen_any (b bd : Nat) (m : ImgM) (hl : m.t.length≤1000) (hh : m.held.length≤1000000) (p : Int) (R : List SL.HP) (w : World) (H : own w (rimgAt b bd m::R)) :
  Calls Tryz.prog 173 #[.pointer (some ⟨b,0,none⟩),.int .i64 p] w fun e w'=>e = .returned (.bool (m.openB p))∧w = w':=by
 obtain ⟨vt,vh,h⟩:=rimg_open H
 obtain ⟨ao,g,cap,rfl,r1,r2,r3,-,-,r6,-⟩:=own_row_form 1 h rfl
 obtain ⟨hao,hg,hcap,rfl,s1,s2,s3,-,-,s6,-⟩:=own_row_form 2 h rfl
 obtain ⟨c,f⟩:=own_cells 0 h rfl
 have R3:=Lib.hid r3
 have R6:=Lib.hid r6
 have S3:=Lib.hid s3
 have S6:=Lib.hid s6
 clear r3 r6 s3 s6
 go_enter Tryz.func173,Tryz.ntmps173
 go_wp2_with fail
 go_loop [5] (fun i=>∃q : Nat,q≤m.t.length∧i = .int .i64 q∧∀j,j < q→ent m.t j≠(2,p)) (fun i=>m.t.length - (intOf i).toNat)
 case atStart=>exact ⟨0,by omega,rfl,fun j h=>absurd h (by omega)⟩
 case round=>
  obtain ⟨q,hq,rfl,hj⟩:=hrel
  have HJ:=Lib.hid hj
  clear hj
  by_cases hlt : q < m.t.length
  ·obtain rfl:=R3.out (by omega)
   have e1 : w.cell? ⟨g,q * 2,none⟩ = some (.int .i64 (ent m.t q).1):=R6.out _ _ (entCells_get hlt).1
   have e2 : w.cell? ⟨g,q * 2 + 1,none⟩ = some (.int .i64 (ent m.t q).2):=R6.out _ _ (entCells_get hlt).2
   generalize hx : ent m.t q = x at *
   have HX:=Lib.hid hx
   clear hx
   obtain ⟨xa,xb⟩:=x
   dsimp only at e1 e2
   by_cases ha : xa = 2
   ·by_cases hb : xb = p
    ·have hfin:=openB_used (m:=m) (p:=p) hlt (by rw [HX.out,ha,hb])
     have HF:=Lib.hid hfin
     subst ha hb
     clear hfin
     go_wp2_with fail
     go_ret
     exact ⟨ret_bool HF.out.symm,rfl⟩
    ·have tb : (xb == p) = false:=beq_eq_false_iff_ne.2 hb
     have HB:=Lib.hid hb
     subst ha
     clear hb
     go_wp2_with fail
     go_round
     case rel=>exact ⟨q + 1,by omega,by go_num,fun j h=>by
      by_cases e : j = q
      ·subst e; rw [HX.out]; exact fun h=>HB.out (Prod.mk.inj h).2
      ·exact HJ.out j (by omega)⟩
     case measure=>simp [intOf]; omega
   ·have ta : (xa == 2) = false:=beq_eq_false_iff_ne.2 ha
    have HA:=Lib.hid ha
    clear ha
    go_wp2_with fail
    go_round
    case rel=>exact ⟨q + 1,by omega,by go_num,fun j h=>by
     by_cases e : j = q
     ·subst e; rw [HX.out]; exact fun h=>HA.out (Prod.mk.inj h).1
     ·exact HJ.out j (by omega)⟩
    case measure=>simp [intOf]; omega
  ·have hqe : q = m.t.length:=by omega
   subst hqe
   go_wp2_with fail
   go_loop [6] (fun i=>∃q : Nat,q≤m.held.length∧i = .int .i64 q∧∀j,j < q→m.held.getD j 0≠p) (fun i=>m.held.length - (intOf i).toNat)
   case atStart=>exact ⟨0,by omega,rfl,fun j h=>absurd h (by omega)⟩
   case round=>
    obtain ⟨q,hq,rfl,hj2⟩:=hrel
    have HJ2:=Lib.hid hj2
    clear hj2
    by_cases hlt2 : q < m.held.length
    ·obtain rfl:=S3.out (by omega)
     have e1 : w.cell? ⟨hg,q,none⟩ = some (.int .i64 (m.held.getD q 0)):=S6.out _ _ (by simp [heldNums,hlt2])
     generalize hx : m.held.getD q 0 = x at *
     have HX:=Lib.hid hx
     clear hx
     by_cases hb : x = p
     ·have hfin:=openB_held (m:=m) (p:=p) hlt2 (by rw [HX.out,hb])
      have HF:=Lib.hid hfin
      subst hb
      clear hfin
      go_wp2_with fail
      go_ret
      exact ⟨ret_bool HF.out.symm,rfl⟩
     ·have tb : (x == p) = false:=beq_eq_false_iff_ne.2 hb
      have HB:=Lib.hid hb
      clear hb
      go_wp2_with fail
      go_round
      case rel=>exact ⟨q + 1,by omega,by go_num,fun j h=>by
       by_cases e : j = q
       ·subst e; rw [HX.out]; exact HB.out
       ·exact HJ2.out j (by omega)⟩
      case measure=>simp [intOf]; omega
    ·have hqe : q = m.held.length:=by omega
     subst hqe
     go_wp2_with fail
     go_ret
     exact ⟨ret_bool (openB_yes HJ.out HJ2.out).symm,rfl⟩
def ImgM.freeN (m : ImgM) : Nat:=((List.range m.p.toNat).filter fun (q : Nat)=>m.openB q).length
set_option maxRecDepth 100000 in
set_option maxHeartbeats 2000000 in
theorem rfree_any (b bd : Nat) (m : ImgM) (hm : m.Ok) (hh : m.held.length≤1000000) (R : List SL.HP) (w : World) (H : own w (rimgAt b bd m::R)) :
  Calls Tryz.prog 190 #[.pointer (some ⟨b,0,none⟩)] w fun e w'=>e = .returned (.int .i64 m.freeN)∧w = w':=by
 obtain ⟨C,hC,q1,q2,q3,q4,q5,q6,-⟩:=hm.nat
 have hop:=fun p=>ropen_any b bd m (by omega) hh p R w H
 have HOP:=Lib.hid hop
 obtain ⟨vt,vh,h⟩:=rimg_open H
 obtain ⟨c,f⟩:=own_cells 0 h rfl
 obtain ⟨P,hP⟩:=Int.eq_ofNat_of_zero_le q5
 have hfr : m.freeN = ((List.range P).filter fun (q : Nat)=>m.openB q).length:=by unfold ImgM.freeN; rw [hP,Int.toNat_natCast]
 rw [hfr]
 rw [hP] at c q6
 clear hop hC q3 hfr hP q5
 go_enter Tryz.func190,Tryz.ntmps190
 go_wp2_with fail
 go_loop [3,4] (fun n i=>∃q : Nat,q≤P∧i = .int .i64 q∧n = .int .i64 (((List.range q).filter fun (q : Nat)=>m.openB q).length : Nat)) (fun _ i=>P - (intOf i).toNat)
 case atStart=>exact ⟨0,by omega,rfl,rfl⟩
 case round=>
  obtain ⟨q,hq,rfl,rfl⟩:=hrel
  by_cases hlt : q < P
  ·have hle : ((List.range q).filter fun (q : Nat)=>m.openB q).length≤q:=by
    have:=List.length_filter_le (fun (q : Nat)=>m.openB q) (List.range q); simpa using this
   have hs : ((List.range (q + 1)).filter fun (q : Nat)=>m.openB q).length = ((List.range q).filter fun (q : Nat)=>m.openB q).length + (if m.openB q = true then 1 else 0):=by
    rw [List.range_succ,List.filter_append,List.length_append]
    congr 1
    cases h : m.openB q <;> simp [h]
   have HS:=Lib.hid hs
   clear hs
   generalize ((List.range q).filter fun (q : Nat)=>m.openB q).length = n at *
   go_wp2_with fail
   refine (HOP.out q).mono ?_
   rintro e w' ⟨rfl,rfl⟩
   cases ho : m.openB q
   ·have HO:=Lib.hid ho
    clear ho
    go_wp2_with fail
    go_round
    case rel=>exact ⟨q + 1,by omega,by go_num,by rw [HS.out,HO.out]; simp⟩
    case measure=>simp [intOf]; omega
   ·have HO:=Lib.hid ho
    clear ho
    go_wp2_with fail
    go_round
    case rel=>exact ⟨q + 1,by omega,by go_num,by rw [HS.out,HO.out]; simp⟩
    case measure=>simp [intOf]; omega
  ·have hqe : q = P:=by omega
   subst hqe
   go_wp2_with fail
   go_ret
   exact ⟨rfl,rfl⟩
end Go.Proofs.YtbpblokfiajpjabGreatDoor

namespace Go.Proofs.YtbpblokfiajpjabGreatDoor
open Go.RowKit Go.SL Go.Crc
attribute [local go_sem ↓] Go.wp_at_zero Go.wp_at_succ
def dataL (t : List Ent) : List Int:=(t.filter fun e=>decide (e.1 = 2)).map (·.2)
theorem dataL_mem {t : List Ent} {x : Int} : x∈dataL t↔((2,x) : Ent)∈t:=by
 unfold dataL
 simp only [List.mem_map,List.mem_filter,decide_eq_true_eq]
 constructor
 ·rintro ⟨e,⟨h1,h2⟩,rfl⟩
  have : e = (2,e.2):=by rw [← h2]
  rw [← this]; exact h1
 ·intro h; exact ⟨(2,x),⟨h,rfl⟩,rfl⟩
theorem dataL_nodup {m : ImgM} (hm : m.Ok) : (dataL m.t).Nodup:=by
 unfold dataL
 have h1 : m.t.Pairwise fun a b=>a.1 = 2→a≠b:=by
  rw [List.pairwise_iff_getElem]
  intro i j hi hj hij h he
  have:=hm.one i j hi hj (by unfold ent; simpa [hi] using h) (by unfold ent; simp [hi,hj,he])
  omega
 rw [List.Nodup,List.pairwise_map]
 refine List.Pairwise.imp_of_mem ?_ (h1.filter _)
 intro a b ha hb hab he
 simp only [List.mem_filter,decide_eq_true_eq] at ha hb
 exact hab ha.2 (Prod.ext (by rw [ha.2,hb.2]) he)
theorem free_count {m : ImgM} (hm : m.Ok) : (m.freeN : Int) + m.held.length + (dataL m.t).length = m.p:=by
 obtain ⟨C,hC,q1,q2,q3,q4,q5,q6,-⟩:=hm.nat
 obtain ⟨P,hP⟩:=Int.eq_ofNat_of_zero_le q5
 have hfr : m.freeN = ((List.range P).filter fun (q : Nat)=>m.openB q).length:=by unfold ImgM.freeN; rw [hP,Int.toNat_natCast]
 have hperm : ((List.range P).map fun (q : Nat)=>(q : Int)).Perm ((((List.range P).filter fun (q : Nat)=>m.openB q).map fun (q : Nat)=>(q : Int))++(m.held++dataL m.t)):=by
  have hcast : ∀l : List Nat,l.Nodup→(l.map fun (q : Nat)=>(q : Int)).Nodup:=fun l h=>by
   rw [List.Nodup,List.pairwise_map]
   exact List.Pairwise.imp (fun h he=>h (by omega)) h
  refine (List.perm_ext_iff_of_nodup (hcast _ List.nodup_range) ?_).2 fun x=>?_
  ·rw [List.nodup_append]
   refine ⟨hcast _ (List.nodup_range.filter _),?_,fun a ha b hb he=>?_⟩
   ·rw [List.nodup_append]
    refine ⟨hm.nodup,dataL_nodup hm,fun a ha b hb he=>?_⟩
    subst he
    exact hm.apart a ha (dataL_mem.1 hb)
   ·subst he
    obtain ⟨q,hq,rfl⟩:=List.mem_map.1 ha
    have hop:=(List.mem_filter.1 hq).2
    rcases List.mem_append.1 hb with h | h
    ·unfold ImgM.openB at hop; simp [h] at hop
    ·have:=dataL_mem.1 h
     unfold ImgM.openB at hop; simp [this] at hop
  ·simp only [List.mem_map,List.mem_append,List.mem_filter,List.mem_range]
   constructor
   ·rintro ⟨q,hq,rfl⟩
    by_cases hop : m.openB q = true
    ·exact .inl ⟨q,⟨hq,hop⟩,rfl⟩
    ·right
     have : ((2,(q : Int)) : Ent)∈m.t∨(q : Int)∈m.held:=by
      unfold ImgM.openB at hop
      simp only [Bool.and_eq_true,Bool.not_eq_true',List.contains_eq_mem,decide_eq_false_iff_not,not_and,Classical.not_not] at hop
      by_cases h : ((2,(q : Int)) : Ent)∈m.t
      ·exact .inl h
      ·exact .inr (hop h)
     rcases this with h | h
     ·exact .inr (dataL_mem.2 h)
     ·exact .inl h
   ·rintro (⟨q,⟨hq,-⟩,rfl⟩ | h | h)
    ·exact ⟨q,hq,rfl⟩
    ·have:=hm.range x h
     exact ⟨x.toNat,by omega,by omega⟩
    ·have h2:=hm.ents _ (dataL_mem.1 h)
     unfold entOk at h2
     simp at h2
     exact ⟨x.toNat,by omega,by omega⟩
 have hl:=hperm.length_eq
 simp only [List.length_map,List.length_append,List.length_range] at hl
 rw [← hfr] at hl
 omega
theorem dataL_take {t : List Ent} {q : Nat} (h : q < t.length) : (dataL (t.take (q + 1))).length = (dataL (t.take q)).length + (if (ent t q).1 = 2 then 1 else 0):=by
 rw [take_succ_getD (0,0) h]
 unfold dataL ent
 rw [List.filter_append,List.map_append,List.length_append]
 congr 1
 by_cases he : (t.getD q (0,0)).1 = 2
 ·rw [List.filter_cons_of_pos (by simpa using he),if_pos he]; rfl
 ·rw [List.filter_cons_of_neg (by simpa using he),if_neg he]; rfl
theorem dataL_le (t : List Ent) (q : Nat) : (dataL (t.take q)).length≤q:=by
 unfold dataL
 rw [List.length_map]
 have:=List.length_filter_le (fun e : Ent=>decide (e.1 = 2)) (t.take q)
 rw [List.length_take] at this
 omega
set_option maxRecDepth 100000 in
set_option maxHeartbeats 2000000 in
theorem free_any (b bd bh : Nat) (m : ImgM) (hm : m.Ok) (R : List SL.HP) (w : World) (H : own w (imgAt b bd bh m::R)) :
  Calls Tryz.prog 189 #[.pointer (some ⟨b,0,none⟩)] w fun e w'=>e = .returned (.int .i64 m.freeN)∧Ext w w'∧own w' (imgAt b bd bh m::R):=by
 obtain ⟨C,hC,q1,q2,q3,q4,q5,q6,-⟩:=hm.nat
 have hcnt:=free_count hm
 have HCNT:=Lib.hid hcnt
 have hhl : (m.held.length : Int)≤40:=by omega
 obtain ⟨v,h⟩:=img_open H
 obtain ⟨ao,g,cap,rfl,r1,r2,-,-,-,-,-⟩:=own_row_form 1 h rfl
 obtain ⟨c,f⟩:=own_cells 0 h rfl
 have hl:=fun ty=>held_len 2 h rfl ty
 have hln : ∀n ty,(Builtin.len_ #[216] ty #[.map (some bh)]).run Tryz.prog (w.drewN n) = .ok (.int .i64 m.held.length) (w.drewN n):=fun n ty=>held_len 2 (own_drewN n h) rfl ty
 have hld : ∀ty,(Builtin.len_ #[216] ty #[.map (some bh)]).run Tryz.prog w.drew = .ok (.int .i64 m.held.length) w.drew:=fun ty=>held_len 2 (own_drew h) rfl ty
 have e1 : IntKind.i64.wrap (m.p - (m.held.length : Int)) = m.p - (m.held.length : Int):=IntWalk.i64_in _ (by omega)
 have l2 : m.t.length≤32:=by omega
 clear hcnt hC q3
 go_enter Tryz.func189,Tryz.ntmps189
 go_upto_region 1 with (fail)
 go_quiet (fail)
 go_wp2_with fail
 have h1:=own_drewN nq h
 have hx1:=(Ext.refl w).drewN nq
 clear c f hl hln hld e1
 generalize w.drewN nq = w1 at *
 go_loopw [3,22] (fun n i wr=>∃q : Nat,q≤m.t.length∧i = .int .i64 q∧n = .int .i64 (m.p - (m.held.length : Int) - ((dataL (m.t.take q)).length : Int))∧Ext w wr∧own wr (pts b (.cells #[.pointer (some ⟨bd,0,none⟩),.int .i64 m.c,.int .i64 m.p,.int .i64 m.b,.slice ao m.t.length cap,.map (some bh)] 218 (0,0))::row 221 2 (.slice ao m.t.length cap) m.t.length (entCells m.t)::heldAt bh m.held::R)) (fun _ i _=>m.t.length - (intOf i).toNat)
 case atStart=>exact ⟨0,by omega,rfl,by simp [dataL],hx1,h1⟩
 case round=>
  clear h1 hx1
  obtain ⟨q,hq,rfl,rfl,hxr,hown⟩:=hrel
  have hle:=dataL_le m.t q
  by_cases hlt : q < m.t.length
  ·obtain ⟨ao',g',cap',hv',-,-,r3,-,-,r6,-⟩:=own_row_form 1 hown rfl
   simp only [Value.slice.injEq,true_and] at hv'
   obtain ⟨rfl,rfl⟩:=hv'
   obtain rfl:=r3 (by omega)
   have x1 : wr.cell? ⟨g',q * 2,none⟩ = some (.int .i64 (ent m.t q).1):=r6 _ _ (entCells_get hlt).1
   have x2 : wr.cell? ⟨g',q * 2 + 1,none⟩ = some (.int .i64 (ent m.t q).2):=r6 _ _ (entCells_get hlt).2
   have hst:=dataL_take hlt
   clear r3 r6
   generalize ent m.t q = x at *
   obtain ⟨xa,xb⟩:=x
   dsimp only at x1 x2 hst
   have HST:=Lib.hid hst
   clear hst
   go_upto_region 5 with (fail)
   have ha:=own_alloc hown (.cells #[.int .i64 xa,.int .i64 xb] 221)
   have hxa:=hxr.alloc (.cells #[.int .i64 xa,.int .i64 xb] 221)
   clear x1 x2 hown hxr
   generalize wr.heap.size = gx at *
   generalize wr.alloc (.cells #[.int .i64 xa,.int .i64 xb] 221) = wa at *
   obtain ⟨c,f⟩:=own_cells 0 ha rfl
   generalize (dataL (m.t.take q)).length = dq at *
   by_cases h2 : xa = 2
   ·subst h2
    go_wp2_with fail
    go_roundw
    case rel=>exact ⟨q + 1,by omega,by go_num,by rw [HST.out]; simp; omega,hxa,own_drop ha⟩
    case measure=>simp [intOf]; omega
   ·have t2 : (xa == 2) = false:=beq_eq_false_iff_ne.2 h2
    have HN:=Lib.hid h2
    clear h2
    go_wp2_with fail
    go_roundw
    case rel=>exact ⟨q + 1,by omega,by go_num,by rw [HST.out,if_neg HN.out]; rfl,hxa,own_drop ha⟩
    case measure=>simp [intOf]; omega
  ·have hqe : q = m.t.length:=by omega
   subst hqe
   rw [List.take_length]
   go_wp2_with fail
   go_ret
   exact ⟨ret_int (by have:=HCNT.out; omega),hxr,img_close hown⟩
end Go.Proofs.YtbpblokfiajpjabGreatDoor

namespace Go.Proofs.YtbpblokfiajpjabGreatDoor
open Go.RowKit Go.SL Go.Crc
attribute [local go_sem ↓] Go.wp_at_zero Go.wp_at_succ
def usedN (P : Nat) (t : List Ent) : List Value:=(List.range P).map fun (q : Nat)=>Value.bool (t.contains ((2,(q : Int)) : Ent))
theorem usedN_len (P : Nat) (t : List Ent) : (usedN P t).length = P:=by simp [usedN]
theorem usedN_get (P : Nat) (t : List Ent) {q : Nat} (h : q < P) : (usedN P t)[q]? = some (.bool (t.contains ((2,(q : Int)) : Ent))):=by simp [usedN,h]
theorem usedN_nil (P : Nat) : usedN P [] = List.replicate P (.bool false):=by
 unfold usedN
 apply List.ext_getElem
 ·simp
 ·intro i h1 h2; simp
theorem usedN_add (P : Nat) (t : List Ent) {q : Nat} (h : q < P) : usedN P (t++[(2,(q : Int))]) = (usedN P t).set q (.bool true):=by
 apply List.ext_getElem?
 intro j
 rw [List.getElem?_set]
 by_cases hj : j < P
 ·rw [usedN_get _ _ hj]
  by_cases e : q = j
  ·subst e; rw [if_pos rfl,if_pos (by rw [usedN_len]; exact h)]; simp
  ·rw [if_neg e,usedN_get _ _ hj,List.contains_append]
   congr 2
   have : ((2,(j : Int)) : Ent)≠(2,(q : Int)):=fun h=>e (by have:=(Prod.mk.inj h).2; omega)
   simp [List.contains_cons,this]
 ·have h1 : (usedN P (t++[(2,(q : Int))]))[j]? = none:=List.getElem?_eq_none (by rw [usedN_len]; omega)
  have h2 : (usedN P t)[j]? = none:=List.getElem?_eq_none (by rw [usedN_len]; omega)
  rw [h1,h2]
  split
  ·omega
  ·rfl
theorem usedN_other (P : Nat) (t : List Ent) {e : Ent} (h : e.1≠2) : usedN P (t++[e]) = usedN P t:=by
 unfold usedN
 apply List.map_congr_left
 intro q _
 rw [List.contains_append]
 have : ((2,(q : Int)) : Ent)≠e:=fun h'=>h (by rw [← h'])
 simp [List.contains_cons,this]
def ImgM.freeP (m : ImgM) : Int:=match (List.range m.p.toNat).find? fun (q : Nat)=>m.openB q with
 | some q=>q
 | none=>-1
theorem freeP_some {m : ImgM} {P q : Nat} (hP : m.p = P) (hq : q < P) (ho : m.openB q = true) (hn : ∀j : Nat,j < q→m.openB j = false) : m.freeP = q:=by
 unfold ImgM.freeP
 rw [hP,Int.toNat_natCast]
 have : (List.range P).find? (fun (q : Nat)=>m.openB q) = some q:=by
  rw [List.find?_range_eq_some]
  exact ⟨ho,by simpa using hq,fun j hj=>by simp [hn j hj]⟩
 rw [this]
theorem freeP_none {m : ImgM} {P : Nat} (hP : m.p = P) (hn : ∀j : Nat,j < P→m.openB j = false) : m.freeP = -1:=by
 unfold ImgM.freeP
 rw [hP,Int.toNat_natCast]
 have : (List.range P).find? (fun (q : Nat)=>m.openB q) = none:=by
  rw [List.find?_eq_none]
  intro j hj
  simp [hn j (List.mem_range.1 hj)]
 rw [this]
set_option maxRecDepth 100000 in
set_option maxHeartbeats 4000000 in
theorem freep_any (b bd bh : Nat) (m : ImgM) (hm : m.Ok) (R : List SL.HP) (w : World) (H : own w (imgAt b bd bh m::R)) :
  Calls Tryz.prog 170 #[.pointer (some ⟨b,0,none⟩)] w fun e w'=>e = .returned (.int .i64 m.freeP)∧Ext w w'∧own w' (imgAt b bd bh m::R):=by
 obtain ⟨C,hC,q1,q2,q3,q4,q5,q6,-⟩:=hm.nat
 obtain ⟨P,hP⟩:=Int.eq_ofNat_of_zero_le q5
 have hsome:=fun (q : Nat)=>@freeP_some m P q hP
 have hnone:=freeP_none hP
 have hents:=hm.ents
 rw [hP] at hents
 have HEN:=Lib.hid hents
 have HSO:=Lib.hid hsome
 have HNO:=Lib.hid hnone
 generalize m.freeP = F at *
 obtain ⟨v,h⟩:=img_open H
 obtain ⟨ao,g,cap,rfl,r1,r2,-,-,-,-,-⟩:=own_row_form 1 h rfl
 rw [hP] at h q6
 have HP:=Lib.hid hP
 have l2 : m.t.length≤32:=by omega
 have hml : P≤maxLen:=by simp only [maxLen]; omega
 obtain ⟨c,f⟩:=own_cells 0 h rfl
 clear hsome hnone hC q3 q5 hents hP
 go_enter Tryz.func170,Tryz.ntmps170
 go_wp2_with (first | (refine wpList_make_row rfl _ _ 43 rfl 4 Tryz.underlying43 elem_bool' rfl .i64 .i64 P rfl rfl (by omega) hml h ?_))
 intro w1 h1 hx1
 try simp only [Nat.mul_one] at h1
 try rw [show (Value.bool false).cells = #[.bool false] from rfl] at h1
 rw [toList_madeCells_one,← usedN_nil] at h1
 clear c f
 generalize w.heap.size = gu at *
 obtain ⟨c,f⟩:=own_cells 1 h1 rfl
 go_wp2_with fail
 clear c f
 go_loopw [19] (fun i wr=>∃q : Nat,q≤m.t.length∧i = .int .i64 q∧Ext w wr∧own wr (row 4 1 (.slice (some ⟨gu,0,none⟩) P P) P (usedN P (m.t.take q))::pts b (.cells #[.pointer (some ⟨bd,0,none⟩),.int .i64 m.c,.int .i64 (P : Int),.int .i64 m.b,.slice ao m.t.length cap,.map (some bh)] 218 (0,0))::row 221 2 (.slice ao m.t.length cap) m.t.length (entCells m.t)::heldAt bh m.held::R)) (fun i _=>m.t.length - (intOf i).toNat)
 case atStart=>exact ⟨0,by omega,rfl,hx1,h1⟩
 case round=>
  clear h1 hx1
  obtain ⟨q,hq,rfl,hxr,hown⟩:=hrel
  by_cases hlt : q < m.t.length
  ·obtain ⟨ao',g',cap',hv',-,-,r3,-,-,r6,-⟩:=own_row_form 2 hown rfl
   simp only [Value.slice.injEq,true_and] at hv'
   obtain ⟨rfl,rfl⟩:=hv'
   obtain rfl:=r3 (by omega)
   have x1 : wr.cell? ⟨g',q * 2,none⟩ = some (.int .i64 (ent m.t q).1):=r6 _ _ (entCells_get hlt).1
   have x2 : wr.cell? ⟨g',q * 2 + 1,none⟩ = some (.int .i64 (ent m.t q).2):=r6 _ _ (entCells_get hlt).2
   have hst : m.t.take (q + 1) = m.t.take q++[ent m.t q]:=take_succ_getD (0,0) hlt
   have hok:=HEN.out (ent m.t q) (by unfold ent; simp [hlt])
   clear r3 r6
   generalize ent m.t q = x at *
   obtain ⟨xa,xb⟩:=x
   dsimp only at x1 x2
   have HST:=Lib.hid hst
   clear hst
   go_upto_region 5 with (fail)
   have ha:=own_alloc hown (.cells #[.int .i64 xa,.int .i64 xb] 221)
   have hxa:=hxr.alloc (.cells #[.int .i64 xa,.int .i64 xb] 221)
   clear x1 x2 hown hxr
   generalize wr.heap.size = gx at *
   generalize wr.alloc (.cells #[.int .i64 xa,.int .i64 xb] 221) = wa at *
   obtain ⟨c,f⟩:=own_cells 0 ha rfl
   by_cases h2 : xa = 2
   ·subst h2
    have hr : 0≤xb∧xb < (P : Int):=by unfold entOk at hok; simpa using hok
    obtain ⟨y,rfl⟩:=Int.eq_ofNat_of_zero_le hr.1
    have hy : y < P:=by omega
    obtain ⟨k2,k3⟩:=own_row_cells 1 ha rfl
    have cu:=k2 y _ (usedN_get P (m.t.take q) hy)
    clear k2 hok hr
    have i1 : (0 : Int)≤(y : Int):=by omega
    have i2 : (y : Int) < (P : Int):=by omega
    go_wp2_with fail
    go_roundw
    case rel=>
     have h5:=own_row_set 1 y (.bool true) ha rfl (by omega)
     refine ⟨q + 1,by omega,by go_num,hxa.setCell _ _,?_⟩
     rw [HST.out,usedN_add P _ hy]
     exact own_drop h5
    case measure=>simp [intOf]; omega
   ·have t2 : (xa == 2) = false:=beq_eq_false_iff_ne.2 h2
    have HN:=Lib.hid h2
    clear h2 hok
    go_wp2_with fail
    go_roundw
    case rel=>exact ⟨q + 1,by omega,by go_num,hxa,by rw [HST.out,usedN_other P _ HN.out]; exact own_drop ha⟩
    case measure=>simp [intOf]; omega
  ·have hqe : q = m.t.length:=by omega
   subst hqe
   rw [List.take_length] at hown
   obtain ⟨k2,-⟩:=own_row_cells 0 hown rfl
   have K2:=Lib.hid (fun (y : Nat) (hy : y < P)=>k2 y _ (usedN_get P m.t hy))
   have HL:=Lib.hid (fun x=>held_lookup 3 hown rfl x)
   obtain ⟨c,f⟩:=own_cells 1 hown rfl
   clear k2
   have hfin : own wr (imgAt b bd bh m::R):=img_close (v:=.slice ao m.t.length cap) (by rw [HP.out]; exact own_drop hown)
   clear hown hlt
   go_wp2_with fail
   go_loop [33] (fun i=>∃q : Nat,q≤P∧i = .int .i64 q∧∀j : Nat,j < q→m.openB j = false) (fun i=>P - (intOf i).toNat)
   case atStart=>exact ⟨0,by omega,rfl,fun j h=>absurd h (by omega)⟩
   case round=>
    obtain ⟨q,hq,rfl,hj⟩:=hrel
    have HJ:=Lib.hid hj
    clear hj
    by_cases hlt : q < P
    ·have cq:=K2.out q hlt
     have hlk:=HL.out q
     have i1 : (0 : Int)≤(q : Int):=by omega
     have i2 : (q : Int) < (P : Int):=by omega
     have hob : m.openB q = (!(m.t.contains ((2,(q : Int)) : Ent)) && !(decide ((q : Int)∈m.held))):=by unfold ImgM.openB; simp
     cases hc : m.t.contains ((2,(q : Int)) : Ent)
     ·rw [hc] at cq hob
      by_cases hin : (q : Int)∈m.held
      ·rw [decide_eq_true hin] at hlk hob
       have HOB:=Lib.hid hob
       clear hob hc hin
       go_wp2_with fail
       go_round
       case rel=>exact ⟨q + 1,by omega,by go_num,fun j h=>by
        by_cases e : j = q
        ·subst e; rw [HOB.out]; rfl
        ·exact HJ.out j (by omega)⟩
       case measure=>simp [intOf]; omega
      ·rw [decide_eq_false hin] at hlk hob
       have hF:=HSO.out q hlt (by rw [hob]; rfl) HJ.out
       have HF:=Lib.hid hF
       clear hob hc hin hF
       go_wp2_with fail
       go_ret
       exact ⟨ret_int (by rw [HF.out]),hxr,hfin⟩
     ·rw [hc] at cq hob
      have HOB:=Lib.hid hob
      clear hob hc
      go_wp2_with fail
      go_round
      case rel=>exact ⟨q + 1,by omega,by go_num,fun j h=>by
       by_cases e : j = q
       ·subst e; rw [HOB.out]; rfl
       ·exact HJ.out j (by omega)⟩
      case measure=>simp [intOf]; omega
    ·have hqe : q = P:=by omega
     subst hqe
     have hF:=HNO.out HJ.out
     have HF:=Lib.hid hF
     clear hF
     go_wp2_with fail
     go_ret
     exact ⟨ret_int (by rw [HF.out]),hxr,hfin⟩
end Go.Proofs.YtbpblokfiajpjabGreatDoor

namespace Go.Proofs.YtbpblokfiajpjabGreatDoor
open Go.RowKit Go.SL Go.Crc
attribute [local go_sem ↓] Go.wp_at_zero Go.wp_at_succ
def DevM.puts (m : DevM) (at_ : Int) : List ByteArray→Int×DevM
 | []=>(0,m)
 | s::l=>if (m.write at_ s).1≠0 then m.write at_ s else (m.write at_ s).2.puts (at_ + 1) l
def chunksN (s : ByteArray) (n : Nat) : List ByteArray:=(List.range n).map (chunk s)
theorem chunksN_drop (s : ByteArray) {n k : Nat} (h : k < n) : (chunksN s n).drop k = chunk s k::(chunksN s n).drop (k + 1):=by
 rw [List.drop_eq_getElem_cons (by simp [chunksN]; exact h)]
 simp [chunksN]
theorem chunksN_end (s : ByteArray) (n : Nat) : (chunksN s n).drop n = []:=List.drop_of_length_le (by simp [chunksN])
theorem write_lens (m : DevM) (n : Int) (s : ByteArray) : (m.write n s).2.fl.length = m.fl.length∧(m.write n s).2.pend.length≤m.pend.length + 1∧(m.write n s).2.writes≤m.writes + 1:=by
 unfold DevM.write
 split
 ·exact ⟨rfl,by dsimp only; omega,by dsimp only; omega⟩
 ·split
  ·exact ⟨rfl,by dsimp only; omega,by dsimp only; omega⟩
  ·exact ⟨rfl,by simp,by dsimp only; omega⟩
def putInv (L : DevM→List HP) (d : DevM) (at_ : Int) (s : ByteArray) (n : Nat) (res : Int×DevM) (w0 : World) (i : Value) (wr : World) : Prop:=
 ∃(k : Nat) (dk : DevM),k≤n∧i = .int .i64 k∧dk.puts (at_ + k) ((chunksN s n).drop k) = res∧dk.Ok∧dk.pend.length≤d.pend.length + k∧dk.writes≤d.writes + k∧Ext w0 wr∧own wr (L dk)
set_option maxRecDepth 100000 in
set_option maxHeartbeats 2000000 in
theorem rsectors_any (b bd : Nat) (m : ImgM) (d : DevM) (hd : d.Ok) (hp : d.pend.length < 999000) (hw : d.writes < 999000) (at_ : Int) (a0 : 0≤at_) (a1 : at_≤1000) (s : ByteArray) (n : Nat) (hn : s.size = 16 * n) (n4 : n≤4) (R : List SL.HP) (w : World) (H : own w (rimgAt b bd m::rdevAt bd d::R)) :
  Calls Tryz.prog 174 #[.pointer (some ⟨b,0,none⟩),.int .i64 at_,.string s] w fun e w'=>e = .returned (.int .i64 (d.puts at_ (chunksN s n)).1)∧Ext w w'∧own w' (rimgAt b bd m::rdevAt bd (d.puts at_ (chunksN s n)).2::R):=by
 generalize hres : d.puts at_ (chunksN s n) = res
 have HRES:=Lib.hid hres
 clear hres
 have hsz : (s.size : Int) = 16 * (n : Int):=by omega
 have HSZ:=Lib.hid hn
 have hs4 : s.size≤64:=by omega
 have HSI:=Lib.hid hsz
 clear hn hsz
 go_enter Tryz.func174,Tryz.ntmps174
 go_wp2_with fail
 go_loopw [7] (putInv (fun dk=>rimgAt b bd m::rdevAt bd dk::R) d at_ s n res w) (fun i _=>n - (intOf i).toNat)
 case atStart=>exact ⟨0,d,by omega,rfl,by simpa using HRES.out,hd,by omega,by simp,Ext.refl _,H⟩
 case round=>
  obtain ⟨k,dk,hk,rfl,hput,okd,hpk,hwk,hxr,hown⟩:=hrel
  by_cases hlt : k < n
  ·rw [chunksN_drop s hlt] at hput
   have HPUT:=Lib.hid hput
   clear hput
   have b0 : 16 * (k : Int) < (s.size : Int):=by have:=HSI.out; omega
   have b1 : (0 : Int)≤16 * (k : Int):=by omega
   have b2 : 16 * (k : Int)≤16 * (k : Int) + 16:=by omega
   have b3 : 16 * (k : Int) + 16≤(s.size : Int):=by have:=HSI.out; omega
   have hsl : ∀wx : World,(Instr.slice 9 (.string s) (some (.int .i64 (16 * (k : Int)))) (some (.int .i64 (16 * (k : Int) + 16))) none).run Tryz.prog wx = .ok (.string (chunk s k)) wx:=fun wx=>by
    have:=run_slice_string (P:=Tryz.prog) wx 9 s .i64 .i64 (16 * (k : Int)) (16 * (k : Int) + 16) Tryz.underlying9 b1 b2 b3
    rw [this,chunk,show (16 * (k : Int)).toNat = k * 16 from by omega,show (16 * (k : Int) + 16).toNat = (k + 1) * 16 from by omega]
   have hcs : (chunk s k).size = 16:=by unfold chunk; rw [ByteArray.size_extract]; have:=HSZ.out; omega
   have e1 : IntKind.i64.wrap (16 * (k : Int)) = 16 * (k : Int):=IntWalk.i64_in _ (by omega)
   have e2 : IntKind.i64.wrap (16 * (k : Int) + 16) = 16 * (k : Int) + 16:=IntWalk.i64_in _ (by omega)
   have e3 : IntKind.i64.wrap (at_ + (k : Int)) = at_ + (k : Int):=IntWalk.i64_in _ (by omega)
   have hcode:=write_nonneg dk (at_ + (k : Int)) (chunk s k)
   obtain ⟨g1,g2,g3⟩:=write_lens dk (at_ + (k : Int)) (chunk s k)
   have okw:=DevM.write_ok okd (at_ + (k : Int)) (chunk s k) (by omega) (by omega)
   have HW:=Lib.hid (fun (R : List SL.HP) (w : World) (H : own w (rdevAt bd dk::R))=>rdev_write bd dk okd (at_ + (k : Int)) (chunk s k) (by omega) (by omega) (by omega) R w H)
   have hstep : dk.puts (at_ + (k : Int)) (chunk s k::(chunksN s n).drop (k + 1)) = if (dk.write (at_ + (k : Int)) (chunk s k)).1≠0 then dk.write (at_ + (k : Int)) (chunk s k) else (dk.write (at_ + (k : Int)) (chunk s k)).2.puts (at_ + (k : Int) + 1) ((chunksN s n).drop (k + 1)):=rfl
   rw [HPUT.out] at hstep
   have HST:=Lib.hid hstep
   clear hstep g1
   generalize dk.write (at_ + (k : Int)) (chunk s k) = r at *
   generalize chunk s k = ck at *
   obtain ⟨vt,vh,h⟩:=rimg_open hown
   have hd1:=own_drew h
   go_upto_region 4 with (fail)
   go_region_held3 (fun w'=>w'.cell? ⟨b,0,none⟩ = some (.pointer (some ⟨bd,0,none⟩))) (first | exact (own_cells 0 hd1 rfl).1 0 | exact (own_cells 0 h4 rfl).1 0) ((go_at_call 163; refine (HW.out _ _ (own_pick 3 hd1 rfl)).mono ?_; rintro e w4 ⟨rfl,hx4,h4'⟩; have h4:=own_put hd1 3 rfl h4'))
   have h5 : own w4 (rimgAt b bd m::rdevAt bd r.2::R):=rimg_close h4
   have hx5:=hxr.drew.trans hx4
   clear e1 e2 e3 hsl h4 h4' hd1 h
   by_cases hz : r.1 = 0
   ·have d0 : decide (0 < r.1) = false:=decide_eq_false (by omega)
    have HZ:=Lib.hid hz
    clear hz
    go_wp2_with fail
    go_roundw
    case rel=>exact ⟨k + 1,r.2,by omega,by go_num,by have:=HST.out; rw [if_neg (by simpa using HZ.out)] at this; rw [this]; congr 1; omega,okw,by omega,by omega,hx5,h5⟩
    case measure=>simp [intOf]; omega
   ·have d0 : decide (0 < r.1) = true:=decide_eq_true (by omega)
    have hfin : res = r:=by have:=HST.out; rw [if_pos hz] at this; exact this
    have HF:=Lib.hid hfin
    clear hz hfin
    go_wp2_with fail
    go_ret
    rw [HF.out]
    exact ⟨rfl,hx5,h5⟩
  ·have hke : k = n:=by omega
   subst hke
   rw [chunksN_end,DevM.puts] at hput
   have HF:=Lib.hid hput
   have b0 : (s.size : Int)≤16 * (k : Int):=by have:=HSI.out; omega
   clear hput hlt
   go_wp2_with fail
   go_ret
   rw [← HF.out]
   exact ⟨rfl,hxr,hown⟩
end Go.Proofs.YtbpblokfiajpjabGreatDoor
