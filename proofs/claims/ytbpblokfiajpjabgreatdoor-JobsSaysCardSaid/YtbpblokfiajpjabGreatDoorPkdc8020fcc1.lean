/- Copy, Bytes, New and Of of a device. Of: a device of bytes. The document's device: Noughts, and what its methods do. Lists of texts that are read: opened from an argument; kept while other memory turns. The remainder, in plain Lean: bit by bit, byte by byte; it is one to one on windows of 32 bits. The remainder of bytes, of the program and of the reference, is the plain one. No conditions beyond sizes. Sealed sectors: the document's four, sealed, opened; the program's sealed, open. Opened sectors: the program's open, the document's opened. Heads: checked, written. Heads read back. No conditions. -/
import Derived.Test.YtbpblokfiajpjabGreatDoorPke81694d0fb
import Derived.Test.YtbpblokfiajpjabGreatDoorProg
import Derived.Lib.Join
import Derived.Deep.RegionLaw
import Derived.Laws.Strings2
import Derived.Laws.BytesArg
import Derived.Laws.OwnMore
import Derived.Deep.DrawnRows
import Derived.Laws.ResultCell
namespace Go.SL
open Go.RowKit
theorem own_row_lt {w : World} {L : List HP} (k : Nat) {e : TypeId} {sz g n cap : Nat} {xs : List Value} (H : own w L) (hk : L[k]? = some (row e sz (.slice (some ⟨g,0,none⟩) n cap) n xs)) : g < w.heap.size:=by
 obtain ⟨hl,⟨h1,h2⟩ | ⟨g',cap',cur,h1,h2,h3,h4,h5,h6⟩⟩:=own_row k H hk
 ·cases h1
 ·simp only [Value.slice.injEq,Option.some.injEq,Addr.mk.injEq,and_true,true_and] at h1
  obtain ⟨rfl,rfl⟩:=h1
  have hkl : k < L.length:=(List.getElem?_eq_some_iff.1 hk).1
  exact own_lt k (b:=g) (o:=.cells cur e (0,0)) h6 (by simp [hkl])
end Go.SL
namespace Go.Proofs.YtbpblokfiajpjabGreatDoor
open Go.RowKit Go.SL
def catL (l : List ByteArray) : List UInt8:=l.flatMap fun s=>s.data.toList
def cat (l : List ByteArray) : ByteArray:=⟨(catL l).toArray⟩
theorem join_cat (l : List ByteArray) : Lib.join (l.map (·.data.toList)) [] = catL l:=by
 have h : ∀m : List (List UInt8),([] : List UInt8).intercalate m = m.flatten:=fun m=>by
  induction m with
  | nil=>rfl
  | cons x m ih=>
   cases m with
   | nil=>simp [List.intercalate]
   | cons y m=>
    simp only [List.intercalate,List.intersperse,List.flatten_cons,List.nil_append] at ih ⊢
    rw [ih]
 rw [Lib.join,h,catL,List.flatMap]
theorem catL_length {l : List ByteArray} {k : Nat} (h : ∀s∈l,s.size = k) : (catL l).length = l.length * k:=by
 induction l with
 | nil=>simp [catL]
 | cons x l ih=>
  have h1:=ih fun s hs=>h s (by simp [hs])
  have h2:=h x (by simp)
  have h3 : x.data.toList.length = k:=by rw [← h2]; rfl
  simp only [catL,List.flatMap_cons,List.length_append,List.length_cons,Nat.add_mul,h3] at h1 ⊢
  omega
set_option maxRecDepth 100000 in
set_option maxHeartbeats 1000000 in
theorem dev_bytes (b : Nat) (m : DevM) (hm : m.Ok) (R : List SL.HP) (w : World) (H : own w (devAt b m::R)) :
  Calls Tryz.prog 215 #[.pointer (some ⟨b,0,none⟩)] w fun e w'=>e = .returned (.string (cat m.fl))∧Ext w w'∧own w' (devAt b m::R):=by
 obtain ⟨vf,vp,h⟩:=dev_open H
 have hl1:=hm.n
 have hcl:=catL_length hm.fl
 obtain ⟨af,gf,cf,rfl,f1,f2,f3,-,-,f6,-⟩:=own_row_form 1 h rfl
 obtain ⟨c,f⟩:=own_cells 0 h rfl
 by_cases h0 : m.fl.length = 0
 ·have e0 : cat m.fl = ⟨#[]⟩:=by rw [List.eq_nil_of_length_eq_zero h0]; rfl
  rw [e0]
  rw [h0] at c
  clear f3 f6
  go_enter Tryz.func215,Tryz.ntmps215
  go_wp2_with fail
  refine (Tryz.strings_Join_none _ _ _ w).mono ?_
  rintro e w1 ⟨rfl,rfl⟩
  go_wp2_with fail
  go_ret
  exact ⟨rfl,Ext.refl _,H⟩
 ·obtain rfl:=f3 (by omega)
  have hlt:=own_row_lt 1 h rfl
  have hJ:=Tryz.strings_Join gf 0 cf m.fl ⟨#[]⟩ w (fun j x hx=>by rw [Nat.zero_add]; exact f6 j _ (by simp [strCells,hx])) hlt (by omega) f1 (by simp only [List.toList_toArray]; rw [join_cat]; omega)
  rw [show (⟨#[]⟩ : ByteArray).data.toList = [] from rfl,join_cat] at hJ
  have HJ:=Lib.hid hJ
  clear f3 f6 hJ
  go_enter Tryz.func215,Tryz.ntmps215
  go_wp2_with fail
  refine HJ.out.mono ?_
  rintro e w1 ⟨rfl,hb⟩
  go_wp2_with fail
  go_ret
  exact ⟨rfl,ext_below hb,own_below H hb⟩
def sect0 : ByteArray:=⟨#[0,0,0,0,0,0,0,0,0,0,0,0,0,0,0,0]⟩
def newDev (n : Nat) : DevM:={ fl:=List.replicate n sect0,pend:=[],fail:=-1,writes:=0 }
theorem newDev_ok {n : Nat} (h : n≤200) : (newDev n).Ok:=
 ⟨by simp [newDev]; exact h,fun s hs=>by rw [(List.mem_replicate.1 hs).2]; rfl,by simp [newDev],fun x hx=>by simp [newDev] at hx,by simp [newDev],by simp [newDev]⟩
theorem rep16 : (⟨(Lib.repeatL (⟨#[0]⟩ : ByteArray).data.toList 16).toArray⟩ : ByteArray) = sect0:=rfl
def sectOk (n : Int) : Bool:=decide (1≤n∧n≤200)
theorem alloc_news (w : World) (cs : List Value) (T : TypeId) : ∀ad,some (⟨w.heap.size,0,none⟩ : Addr) = some ad→∀j u,cs[j]? = some u→(w.alloc (.cells cs.toArray T)).cell? (ad.add j) = some u:=fun ad had j u hu=>by
 obtain rfl:=Option.some.inj had
 rw [add_none,Nat.zero_add]
 have h:=own_alloc (own_exactly w) (.cells cs.toArray T)
 rw [(own_cells 0 h rfl).1]
 simpa using hu
theorem one_str (s : ByteArray) : ∀u∈[Value.string s],u.oneCell' = true:=fun u hu=>by simp at hu; subst hu; rfl
theorem zeros_any (w : World) : Calls Tryz.prog 154 #[.string ⟨#[0]⟩,.int .i64 16] w fun e w'=>e = .returned (.string sect0)∧Below w.heap.size w w':=
 (Tryz.strings_Repeat ⟨#[0]⟩ 16 w (by decide) (by decide)).mono fun _ _ h=>⟨by rw [h.1,rep16],h.2⟩
def newInv (b : Nat) (n : Nat) (R : List SL.HP) (w0 : World) (i : Value) (wr : World) : Prop:=
 ∃q : Nat,q≤n∧i = .int .i64 q∧Ext w0 wr∧∃ao g cap,q≤cap∧cap≤maxLen∧own wr (pts b (.cells #[.slice ao q cap,.slice none 0 0,.int .i64 (-1),.int .i64 0] 214 (0,0))::row 9 1 (.slice ao q cap) q (strCells (List.replicate q sect0))::R)∧(0 < q→ao = some ⟨g,0,none⟩)
set_option maxRecDepth 100000 in
set_option maxHeartbeats 1000000 in
theorem dev_new_yes (n : Nat) (R : List SL.HP) (w : World) (h : sectOk n = true) (H : own w R) : Calls Tryz.prog 61 #[.int .i64 n] w fun e w'=>∃b,e = .returned (.tuple #[.pointer (some ⟨b,0,none⟩),.nilIface])∧Ext w w'∧own w' (devAt b (newDev n)::R):=by
 simp only [sectOk,decide_eq_true_eq] at h
 obtain ⟨n1,n2⟩:=h
 go_enter Tryz.func61,Tryz.ntmps61
 go_upto_region 4 with (fail)
 have ha:=own_alloc H (.cells #[.slice none 0 0,.slice none 0 0,.int .i64 (-1),.int .i64 0] 214)
 have hx1:=(Ext.refl w).alloc (.cells #[.slice none 0 0,.slice none 0 0,.int .i64 (-1),.int .i64 0] 214)
 generalize w.heap.size = b at *
 generalize w.alloc (.cells #[.slice none 0 0,.slice none 0 0,.int .i64 (-1),.int .i64 0] 214) = w1 at *
 have h1:=own_behind [_] (own_row_nil 9 1 ha)
 clear ha
 go_wp2_with fail
 go_loopw [15] (newInv b n R w) (fun i _=>n - (intOf i).toNat)
 case atStart=>exact ⟨0,Nat.zero_le _,rfl,hx1,none,0,0,Nat.le_refl _,by simp [maxLen],h1,fun h=>absurd h (by simp)⟩
 case round=>
  clear h1 hx1
  obtain ⟨q,hq,rfl,hxr,ao,g,cap,q1,q2,hown,q3⟩:=hrel
  by_cases hlt : q < n
  ·have hml : q + 1≤maxLen:=by simp only [maxLen]; omega
   clear q3
   go_upto_region 6 with (fail)
   obtain ⟨c,f⟩:=own_cells 0 (own_drew hown) rfl
   go_region_law (first | (refine step_append_row (by rfl) _ _ 51 (by rfl) 2 9 Tryz.underlying51 elem_string rfl (by decide) (by rfl) (own_alloc h2 _) rfl (some ⟨w2.heap.size,0,none⟩) 1 1 [.string sect0] (by rfl) rfl (alloc_news w2 [.string sect0] _) (fun h=>by cases h) (one_str _) hml (by omega) ?_; intro v4 w4 h4 hx4; obtain ⟨a4,g4,c4,rfl,s1,s2,s3,-,-,-,-⟩:=own_row_form 2 h4 rfl; obtain rfl:=s3 (by omega); obtain ⟨cc,ff⟩:=own_cells 1 h4 rfl) | (go_simp; go_at_call 154; refine (zeros_any _).mono ?_; rintro e w2 ⟨rfl,hb2⟩; have h2:=own_below (own_drew hown) hb2; obtain ⟨c2,f2⟩:=own_cells 0 h2 rfl; have h2a:=own_alloc h2 (.cells #[.string sect0] 9); obtain ⟨c3,f3⟩:=own_cells 1 h2a rfl))
   all_goals
    go_wp2_with fail
    go_roundw
    case rel=>
     have h5:=own_set (i:=0) (v:=.slice (some ⟨g4,0,none⟩) (q + 1) c4) 1 h4 rfl
     refine ⟨q + 1,by omega,by go_num,?_,_,g4,c4,s1,s2,?_,fun _=>rfl⟩
     ·exact (((hxr.drew.trans (ext_below hb2)).alloc _).trans hx4).setCell _ _
     ·have h6:=own_drop h5
      have e : strCells (List.replicate (q + 1) sect0) = strCells (List.replicate q sect0)++[.string sect0]:=by simp [strCells,List.replicate_succ']
      rw [e]
      exact h6
    case measure=>simp [intOf]; omega
  ·have hq' : q = n:=by omega
   subst hq'
   clear q3
   go_wp2_with fail
   go_ret2
   refine ⟨b,rfl,hxr,dev_close (m:=newDev q) (vf:=.slice ao q cap) (vp:=.slice none 0 0) ?_⟩
   have h5:=own_behind [_,_] (own_row_nil 245 2 hown)
   simp only [newDev,List.length_replicate]
   exact h5
end Go.Proofs.YtbpblokfiajpjabGreatDoor

namespace Go.Proofs.YtbpblokfiajpjabGreatDoor
open Go.RowKit Go.SL
def chunk (s : ByteArray) (i : Nat) : ByteArray:=s.extract (i * 16) ((i + 1) * 16)
end Go.Proofs.YtbpblokfiajpjabGreatDoor

namespace Go.Proofs.YtbpblokfiajpjabGreatDoor
open Go.RowKit Go.SL
def zs (n : Nat) : ByteArray:=⟨(List.replicate n 0).toArray⟩
theorem zs_size (n : Nat) : (zs n).size = n:=by simp [zs,ByteArray.size]
theorem elem_byte : Elem Tryz.prog 5 1 1 (.int .u8 0):=by unfold Elem; kernel_rfl
theorem elem_int : Elem Tryz.prog 3 1 8 (.int .i64 0):=by unfold Elem; kernel_rfl
set_option maxRecDepth 100000 in
set_option maxHeartbeats 1000000 in
theorem noughts_any (n : Nat) (hn : n≤1000000) (R : List SL.HP) (w : World) (H : own w R) : Calls Tryz.prog 92 #[.int .i64 n] w fun e w'=>e = .returned (.string (zs n))∧Ext w w'∧own w' R:=by
 go_enter Tryz.func92,Tryz.ntmps92
 have hml : n≤maxLen:=by simp only [maxLen]; omega
 go_wp2_with (first | (refine wpList_make_row rfl _ _ 211 rfl 5 Tryz.underlying211 elem_byte rfl .i64 .i64 n rfl rfl (by omega) hml H ?_))
 intro w1 h1 hx1
 obtain ⟨k2,-⟩:=own_row_cells 0 h1 rfl
 have hcv : ∀i,i < n→w1.cell? ⟨w.heap.size,0 + i,none⟩ = some (.int .u8 ((List.replicate n (0 : Int)).getD i 0)):=fun i hi=>by
  rw [Nat.zero_add]
  refine k2 i _ ?_
  try simp only [Nat.mul_one]
  try rw [show (Value.int IntKind.u8 0).cells = #[.int .u8 0] from rfl]
  rw [toList_madeCells_one]
  simp [hi]
 have hconv:=run_convert_bytes_arg (P:=Tryz.prog) w1 211 5 Tryz.underlying211 Tryz.underlying5 w.heap.size 0 n n (List.replicate n (0 : Int)) (by simp) hcv 9 Tryz.underlying9
 have hz : strOfNums (List.replicate n (0 : Int)) = zs n:=by
  unfold strOfNums zs
  simp
 rw [hz] at hconv
 clear hz hcv k2
 go_wp2_with fail
 go_ret
 exact ⟨rfl,hx1,own_drop h1⟩
def intCells (l : List (Int×ByteArray)) : List Value:=l.map fun x=>.int .i64 x.1
def whatCells (l : List (Int×ByteArray)) : List Value:=l.map fun x=>.string x.2
theorem intCells_get {l : List (Int×ByteArray)} {i : Nat} (h : i < l.length) : (intCells l)[i]? = some (.int .i64 (l.getD i (0,ByteArray.empty)).1):=by simp [intCells,h]
theorem whatCells_get {l : List (Int×ByteArray)} {i : Nat} (h : i < l.length) : (whatCells l)[i]? = some (.string (l.getD i (0,ByteArray.empty)).2):=by simp [whatCells,h]
theorem one_int (k : Int) : ∀u∈[Value.int .i64 k],u.oneCell' = true:=fun u hu=>by simp at hu; subst hu; rfl
def rdevAt (b : Nat) (m : DevM) : HP:=exi fun v : Value×Value×Value=>star [pts b (.cells #[v.1,v.2.1,v.2.2,.int .i64 m.fail,.int .i64 m.writes] 162 (0,0)),row 9 1 v.1 m.fl.length (strCells m.fl),row 3 1 v.2.1 m.pend.length (intCells m.pend),row 9 1 v.2.2 m.pend.length (whatCells m.pend)]
theorem rdev_open {w : World} {b : Nat} {m : DevM} {R : List HP} (H : own w (rdevAt b m::R)) : ∃vf va vw,own w (pts b (.cells #[vf,va,vw,.int .i64 m.fail,.int .i64 m.writes] 162 (0,0))::row 9 1 vf m.fl.length (strCells m.fl)::row 3 1 va m.pend.length (intCells m.pend)::row 9 1 vw m.pend.length (whatCells m.pend)::R):=by
 obtain ⟨v,h⟩:=own_open 0 (L:=fun v : Value×Value×Value=>[pts b (.cells #[v.1,v.2.1,v.2.2,.int .i64 m.fail,.int .i64 m.writes] 162 (0,0)),row 9 1 v.1 m.fl.length (strCells m.fl),row 3 1 v.2.1 m.pend.length (intCells m.pend),row 9 1 v.2.2 m.pend.length (whatCells m.pend)]) H rfl fun h hh=>hh
 exact ⟨v.1,v.2.1,v.2.2,h⟩
theorem rdev_close {w : World} {b : Nat} {m : DevM} {R : List HP} {vf va vw : Value} (H : own w (pts b (.cells #[vf,va,vw,.int .i64 m.fail,.int .i64 m.writes] 162 (0,0))::row 9 1 vf m.fl.length (strCells m.fl)::row 3 1 va m.pend.length (intCells m.pend)::row 9 1 vw m.pend.length (whatCells m.pend)::R)) : own w (rdevAt b m::R):=
 own_close [pts b (.cells #[vf,va,vw,.int .i64 m.fail,.int .i64 m.writes] 162 (0,0)),row 9 1 vf m.fl.length (strCells m.fl),row 3 1 va m.pend.length (intCells m.pend),row 9 1 vw m.pend.length (whatCells m.pend)] (fun h hh=>⟨(vf,va,vw),hh⟩) H
set_option maxRecDepth 100000 in
set_option maxHeartbeats 1000000 in
theorem rdev_seen (b : Nat) (m : DevM) (hm : m.Ok) (n : Int) (h1 : 0≤n) (h2 : n < m.fl.length) (R : List SL.HP) (w : World) (H : own w (rdevAt b m::R)) :
  Calls Tryz.prog 101 #[.pointer (some ⟨b,0,none⟩),.int .i64 n] w fun e w'=>e = .returned (.string (m.seen n))∧w = w':=by
 obtain ⟨vf,va,vw,h⟩:=rdev_open H
 have hl1:=hm.n
 have hl2:=hm.p
 obtain ⟨k,rfl⟩:=Int.eq_ofNat_of_zero_le h1
 obtain ⟨af,gf,cf,rfl,f1,f2,f3,-,-,f6,-⟩:=own_row_form 1 h rfl
 obtain ⟨aa,ga,ca,rfl,a1,a2,a3,-,-,a6,-⟩:=own_row_form 2 h rfl
 obtain ⟨aw,gw,cw,rfl,w1,w2,w3,-,-,w6,-⟩:=own_row_form 3 h rfl
 obtain ⟨c,f⟩:=own_cells 0 h rfl
 have cl : w.cell? ⟨gf,k,none⟩ = some (.string (m.fl.getD k ByteArray.empty)):=f6 k _ (strCells_get (by omega))
 have A6:=Lib.hid a6
 have W6:=Lib.hid w6
 have A3:=Lib.hid a3
 have W3:=Lib.hid w3
 obtain rfl:=f3 (by omega)
 clear f3 f6 a3 a6 w3 w6
 go_enter Tryz.func101,Tryz.ntmps101
 go_wp2_with fail
 go_loop [5,6] (fun s i=>∃q : Nat,q≤m.pend.length∧i = .int .i64 q∧s = .string ((m.pend.take q).foldl (fun s x=>if x.1 = (k : Int) then x.2 else s) (m.fl.getD k ByteArray.empty))) (fun s i=>m.pend.length - (intOf i).toNat)
 case atStart=>exact ⟨0,Nat.zero_le _,rfl,rfl⟩
 case round=>
  obtain ⟨q,hq,rfl,rfl⟩:=hrel
  by_cases hlt : q < m.pend.length
  ·obtain rfl:=A3.out (by omega)
   obtain rfl:=W3.out (by omega)
   have c1:=A6.out q _ (intCells_get hlt)
   have c2:=W6.out q _ (whatCells_get hlt)
   have hto:=take_succ_getD (0,ByteArray.empty) hlt
   have HT:=Lib.hid hto
   clear hto
   generalize hx : m.pend.getD q (0,ByteArray.empty) = x at *
   clear hx
   generalize hg : (m.pend.take q).foldl (fun s x=>if x.1 = (k : Int) then x.2 else s) (m.fl.getD k ByteArray.empty) = t at *
   have HG:=Lib.hid hg
   clear hg
   by_cases he : x.1 = (k : Int)
   ·go_wp2_with fail
    go_round
    case rel=>exact ⟨q + 1,by omega,by go_num,by rw [HT.out,List.foldl_append,HG.out]; simp [he]⟩
    case measure=>simp [intOf]; omega
   ·go_wp2_with fail
    go_round
    case rel=>exact ⟨q + 1,by omega,by go_num,by rw [HT.out,List.foldl_append,HG.out]; simp [he]⟩
    case measure=>simp [intOf]; omega
  ·have hq' : q = m.pend.length:=by omega
   subst hq'
   rw [List.take_length]
   clear A6 W6
   go_wp2_with fail
   go_ret
   exact ⟨rfl,rfl⟩
set_option maxRecDepth 100000 in
set_option maxHeartbeats 1000000 in
theorem rdev_bytes (b : Nat) (m : DevM) (hm : m.Ok) (R : List SL.HP) (w : World) (H : own w (rdevAt b m::R)) :
  Calls Tryz.prog 216 #[.pointer (some ⟨b,0,none⟩)] w fun e w'=>e = .returned (.string (cat m.fl))∧w = w':=by
 obtain ⟨vf,va,vw,h⟩:=rdev_open H
 have hl1:=hm.n
 obtain ⟨af,gf,cf,rfl,f1,f2,f3,-,-,f6,-⟩:=own_row_form 1 h rfl
 obtain ⟨c,f⟩:=own_cells 0 h rfl
 have F6:=Lib.hid f6
 have F3:=Lib.hid f3
 clear f3 f6
 go_enter Tryz.func216,Tryz.ntmps216
 go_wp2_with fail
 go_loop [3,4] (fun s i=>∃q : Nat,q≤m.fl.length∧i = .int .i64 q∧s = .string (cat (m.fl.take q))) (fun s i=>m.fl.length - (intOf i).toNat)
 case atStart=>exact ⟨0,Nat.zero_le _,rfl,rfl⟩
 case round=>
  obtain ⟨q,hq,rfl,rfl⟩:=hrel
  by_cases hlt : q < m.fl.length
  ·obtain rfl:=F3.out (by omega)
   have c1:=F6.out q _ (strCells_get hlt)
   have hto:=take_succ_getD ByteArray.empty hlt
   have hsz : (cat (m.fl.take q)).size = q * 16:=by
    have:=catL_length (l:=m.fl.take q) fun s hs=>hm.fl s (List.mem_of_mem_take hs)
    rw [List.length_take,Nat.min_eq_left (by omega)] at this
    simpa [cat,ByteArray.size] using this
   have hmem:=hm.fl (m.fl.getD q ByteArray.empty) (by simp [hlt])
   have hcat : cat (m.fl.take (q + 1)) = cat (m.fl.take q)++m.fl.getD q ByteArray.empty:=by
    rw [hto]
    apply Go.WideShapes.bytes_inj
    simp [cat,catL]
   have HC:=Lib.hid hcat
   clear hto hcat
   generalize m.fl.getD q ByteArray.empty = x at *
   generalize cat (m.fl.take q) = t at *
   go_wp2_with fail
   go_round
   case rel=>exact ⟨q + 1,by omega,by go_num,by rw [HC.out]⟩
   case measure=>simp [intOf]; omega
  ·have hq' : q = m.fl.length:=by omega
   subst hq'
   rw [List.take_length]
   clear F6
   go_wp2_with fail
   go_ret
   exact ⟨rfl,rfl⟩
end Go.Proofs.YtbpblokfiajpjabGreatDoor

namespace Go.Proofs.YtbpblokfiajpjabGreatDoor
open Go.RowKit Go.SL Go.Deep Go.ChangeShapes Go.WideShapes
theorem SlAt.later {v : Value} {n : Nat} {p q : Nat→Nat→Nat→Prop} (h : SlAt v n p) (hpq : ∀b o i,p b o i→q b o i) : SlAt v n q:=by
 obtain ⟨ao,b,off,cap,hv,h1,h2,h3,h4⟩:=h
 exact ⟨ao,b,off,cap,hv,h1,h2,h3,fun i hi=>hpq _ _ _ (h4 i hi)⟩
theorem BoolsAt.later {w w' : World} {v : Value} {ks : List Bool} (h : BoolsAt w v ks) {l : List HP} (k : Nat) (H : own w' l) (hk : l[k]? = some (exactly w)) : BoolsAt w' v ks:=
 SlAt.later h fun _ _ _ h=>rd_later k H hk h
theorem ActCells.later {w w' : World} {b o : Nat} {a : Act} (h : ActCells w b o a) {l : List HP} (k : Nat) (H : own w' l) (hk : l[k]? = some (exactly w)) : ActCells w' b o a:=by
 obtain ⟨h0,h1,h2,h3,h4,h5,h6⟩:=h
 exact ⟨rd_later k H hk h0,rd_later k H hk h1,rd_later k H hk h2,rd_later k H hk h3,rd_later k H hk h4,rd_later k H hk h5,rd_later k H hk h6⟩
theorem ActsAt.later {w w' : World} {v : Value} {l : List Act} (h : ActsAt w v l) {L : List HP} (k : Nat) (H : own w' L) (hk : L[k]? = some (exactly w)) : ActsAt w' v l:=
 ⟨SlAt.later h.1 fun _ _ _ h=>ActCells.later h k H hk,fun a ha=>{ h.2 a ha with keep:=(h.2 a ha).keep.later k H hk }⟩
theorem ActsAt.form {w : World} {v : Value} {l : List Act} (h : ActsAt w v l) : ∃ao b off cap,v = .slice ao l.length cap∧l.length≤9223372036854775807∧(0 < l.length→ao = some ⟨b,off,none⟩)∧
  ∀i,i < l.length→ActCells w b (off + i * 7) (l.getD i actNone):=by
 obtain ⟨⟨ao,b,off,cap,hv,h1,h2,h3,h4⟩,_⟩:=h
 exact ⟨ao,b,off,cap,hv,by omega,h3,h4⟩
theorem toList_inj {a b : ByteArray} (h : a.toList = b.toList) : a = b:=by
 rw [ByteArray.toList_eq,ByteArray.toList_eq] at h
 exact bytes_inj h
def StrsAt (w : World) (v : Value) (l : List ByteArray) : Prop:=
 SlAt v l.length (fun b off i=>w.cell? ⟨b,off + i,none⟩ = some (.string (l.getD i ByteArray.empty)))∧∀s∈l,s.size≤9223372036854775807
theorem StrsAt.later {w w' : World} {v : Value} {l : List ByteArray} (h : StrsAt w v l) {L : List HP} (k : Nat) (H : own w' L) (hk : L[k]? = some (exactly w)) : StrsAt w' v l:=
 ⟨SlAt.later h.1 fun _ _ _ h=>rd_later k H hk h,h.2⟩
theorem StrsAt.form {w : World} {v : Value} {l : List ByteArray} (h : StrsAt w v l) : ∃ao b off cap,v = .slice ao l.length cap∧l.length≤cap∧cap≤9223372036854775807∧(0 < l.length→ao = some ⟨b,off,none⟩)∧
  ∀i,i < l.length→w.cell? ⟨b,off + i,none⟩ = some (.string (l.getD i ByteArray.empty)):=by
 obtain ⟨⟨ao,b,off,cap,hv,h1,h2,h3,h4⟩,_⟩:=h
 exact ⟨ao,b,off,cap,hv,h1,h2,h3,h4⟩
section
variable {H : Type} {enc : TypeId×Value→H} {w : World} {base : Nat} {spare : Nat→Bool} {held : Bool}
end
theorem str_getD {l : List ByteArray} {i : Nat} (hi : i < l.length) : l.getD i ByteArray.empty∈l:=by
 simp [hi]
end Go.Proofs.YtbpblokfiajpjabGreatDoor

namespace Go.Crc
def K : Nat:=3988292384
def st (s : Nat) : Nat:=if s % 2 = 1 then (s / 2) ^^^ K else s / 2
def stn : Nat→Nat→Nat
 | 0,s=>s
 | n + 1,s=>stn n (st s)
theorem stn_succ (n : Nat) : ∀s,stn (n + 1) s = st (stn n s):=by
 induction n with
 | zero=>intro s; rfl
 | succ n ih=>intro s; rw [stn,ih]; rfl
def byteStep (s b : Nat) : Nat:=stn 8 (s ^^^ b)
def bitStep (s bit : Nat) : Nat:=if (s % 2) ^^^ bit = 1 then (s / 2) ^^^ K else s / 2
def crc (s : Nat) (l : List UInt8) : Nat:=l.foldl (fun s b=>byteStep s b.toNat) s
def top : Nat:=4294967295
def sumOf (l : List UInt8) : Nat:=crc top l ^^^ top
theorem xor_mod2 (a b : Nat) : (a ^^^ b) % 2 = (a % 2) ^^^ (b % 2):=by
 have h:=Nat.xor_mod_two_pow (a:=a) (b:=b) (n:=1)
 simpa using h
theorem xor_div2 (a b : Nat) : (a ^^^ b) / 2 = (a / 2) ^^^ (b / 2):=by
 have h:=Nat.xor_div_two_pow (a:=a) (b:=b) (n:=1)
 simpa using h
theorem xor_lt {a b n : Nat} (ha : a < 2 ^ n) (hb : b < 2 ^ n) : a ^^^ b < 2 ^ n:=Nat.xor_lt_two_pow ha hb
theorem K_lt : K < 2 ^ 32:=by decide
theorem st_lt {s : Nat} (h : s < 2 ^ 32) : st s < 2 ^ 32:=by
 unfold st
 split
 ·exact xor_lt (by omega) K_lt
 ·omega
theorem stn_lt (n : Nat) : ∀{s : Nat},s < 2 ^ 32→stn n s < 2 ^ 32:=by
 induction n with
 | zero=>intro s h; exact h
 | succ n ih=>intro s h; exact ih (st_lt h)
theorem byteStep_lt {s b : Nat} (h : s < 2 ^ 32) (hb : b < 256) : byteStep s b < 2 ^ 32:=stn_lt 8 (xor_lt h (by omega))
theorem crc_lt (l : List UInt8) : ∀{s : Nat},s < 2 ^ 32→crc s l < 2 ^ 32:=by
 induction l with
 | nil=>intro s h; exact h
 | cons b l ih=>intro s h; exact ih (byteStep_lt h b.toNat_lt)
theorem crc_append (s : Nat) (l m : List UInt8) : crc s (l++m) = crc (crc s l) m:=by simp [crc]
theorem mod2_cases (s : Nat) : s % 2 = 0∨s % 2 = 1:=by omega
theorem bitStep_eq (s bit : Nat) (hb : bit < 2) : bitStep s bit = st (s ^^^ bit):=by
 unfold bitStep st
 rw [xor_mod2,xor_div2,Nat.mod_eq_of_lt hb,Nat.div_eq_of_lt hb,Nat.xor_zero]
theorem st_even (s y : Nat) : st (s ^^^ (2 * y)) = st s ^^^ y:=by
 unfold st
 rw [xor_mod2,xor_div2]
 simp only [Nat.mul_mod_right,Nat.xor_zero,Nat.mul_div_cancel_left y (show 0 < 2 by omega)]
 split
 ·rw [Nat.xor_assoc,Nat.xor_assoc,Nat.xor_comm y]
 ·rfl
theorem split2 (w : Nat) : (w % 2) ^^^ (2 * (w / 2)) = w:=by
 apply Nat.eq_of_testBit_eq
 intro i
 cases i with
 | zero=>simp [Nat.testBit_zero,Nat.testBit_xor]
 | succ i=>
  rw [Nat.testBit_xor,Nat.testBit_succ,Nat.testBit_succ,Nat.testBit_succ]
  simp
def run : Nat→Nat→Nat→Nat
 | 0,s,_=>s
 | n + 1,s,w=>run n (bitStep s (w % 2)) (w / 2)
theorem run_eq (n : Nat) : ∀(s w : Nat),w < 2 ^ n→run n s w = stn n (s ^^^ w):=by
 induction n with
 | zero=>intro s w h; simp at h; subst h; simp [run,stn]
 | succ n ih=>
  intro s w h
  have h' : w / 2 < 2 ^ n:=by rw [Nat.pow_succ] at h; omega
  rw [run,ih _ _ h',bitStep_eq _ _ (by omega),stn,← st_even,Nat.xor_assoc,split2]
def bitAt (l : List UInt8) (i : Nat) : Nat:=((l.getD (i / 8) 0).toNat >>> (i % 8)) % 2
def bits (l : List UInt8) : Nat→Nat→Nat
 | 0,s=>s
 | k + 1,s=>bitStep (bits l k s) (bitAt l k)
theorem bits_byte (l : List UInt8) (q : Nat) : ∀(k : Nat) (s : Nat),k≤8→∀s0,bits l (8 * q) s = s0→bits l (8 * q + k) s = run k s0 ((l.getD q 0).toNat % 2 ^ k):=by
 intro k
 induction k with
 | zero=>intro s _ s0 h; simpa [run] using h
 | succ k ih=>
  intro s hk s0 h
  rw [← Nat.add_assoc,bits,ih s (by omega) s0 h]
  have hb : bitAt l (8 * q + k) = ((l.getD q 0).toNat >>> k) % 2:=by
   unfold bitAt
   rw [show (8 * q + k) / 8 = q by omega,show (8 * q + k) % 8 = k by omega]
  rw [hb]
  generalize (l.getD q 0).toNat = b
  clear ih h hb
  induction k generalizing s0 b with
  | zero=>simp [run,Nat.mod_one]
  | succ k ih=>
   rw [run,run]
   have e1 : b % 2 ^ (k + 1) / 2 = (b / 2) % 2 ^ k:=by
    rw [Nat.pow_succ,Nat.mul_comm,Nat.mod_mul_right_div_self]
   have e2 : b % 2 ^ (k + 1 + 1) / 2 = (b / 2) % 2 ^ (k + 1):=by
    rw [Nat.pow_succ,Nat.mul_comm,Nat.mod_mul_right_div_self]
   have e3 : b % 2 ^ (k + 1) % 2 = b % 2:=Nat.mod_mod_of_dvd _ ⟨2 ^ k,by rw [Nat.pow_succ,Nat.mul_comm]⟩
   have e4 : b % 2 ^ (k + 1 + 1) % 2 = b % 2:=Nat.mod_mod_of_dvd _ ⟨2 ^ (k + 1),by rw [Nat.pow_succ _ (k+1),Nat.mul_comm]⟩
   have e5 : b >>> (k + 1) = (b / 2) >>> k:=by rw [Nat.add_comm,Nat.shiftRight_add]; rfl
   rw [e1,e2,e3,e4,e5]
   exact ih (by omega) _ (b / 2)
theorem bits_crc (l : List UInt8) (s : Nat) : ∀q,q≤l.length→bits l (8 * q) s = crc s (l.take q):=by
 intro q
 induction q with
 | zero=>intro _; rfl
 | succ q ih=>
  intro hq
  have h:=bits_byte l q 8 s (Nat.le_refl _) _ (ih (by omega))
  rw [show 8 * (q + 1) = 8 * q + 8 by omega,h,run_eq _ _ _ (Nat.mod_lt _ (by decide))]
  rw [List.take_succ_eq_append_getElem (by omega),crc_append]
  have : (l.getD q 0) = l[q]'(by omega):=by simp [show q < l.length by omega]
  rw [this]
  simp only [crc,List.foldl_cons,List.foldl_nil,byteStep]
  rw [Nat.mod_eq_of_lt (by have:=(l[q]'(by omega)).toNat_lt; omega)]
theorem bits_all (l : List UInt8) (s : Nat) : bits l (8 * l.length) s = crc s l:=by
 rw [bits_crc l s _ (Nat.le_refl _),List.take_length]
theorem bitAt_lt (l : List UInt8) (i : Nat) : bitAt l i < 2:=by unfold bitAt; omega
theorem bitStep_lt {s b : Nat} (h : s < 2 ^ 32) (hb : b < 2) : bitStep s b < 2 ^ 32:=by
 rw [bitStep_eq _ _ hb]; exact st_lt (xor_lt h (by omega))
theorem bits_lt (l : List UInt8) (k : Nat) {s : Nat} (h : s < 2 ^ 32) : bits l k s < 2 ^ 32:=by
 induction k with
 | zero=>exact h
 | succ k ih=>exact bitStep_lt ih (bitAt_lt l k)
end Go.Crc

namespace Go.Proofs.YtbpblokfiajpjabGreatDoor
open Go.RowKit Go.SL Go.Crc
theorem and1 (s : Nat) (h : s < 2 ^ 32) : bits .and .u32 (s : Int) 1 = ((s % 2 : Nat) : Int):=by
 have:=u32_and_nat s 1 (by omega) (by omega)
 rw [Nat.and_one_is_mod] at this
 exact this
set_option maxRecDepth 100000 in
set_option maxHeartbeats 1000000 in
theorem step_any (s b : Nat) (w : World) (hs : s < 2 ^ 32) (hb : b < 256) :
  Calls Tryz.prog 264 #[.int .u32 s,.int .u8 b] w fun e w'=>e = .returned (.int .u32 (byteStep s b : Nat))∧w = w':=by
 go_enter Tryz.func264,Tryz.ntmps264
 have e0 : bits .xor .u32 (s : Int) (b : Int) = ((s ^^^ b : Nat) : Int):=u32_xor_nat s b (by omega) (by omega)
 have e00 : IntKind.u32.wrap (b : Int) = (b : Int):=IntWalk.u32_in _ (by omega)
 go_wp2_with fail
 go_loop [0,9] (fun t i=>∃k : Nat,k≤8∧i = .int .i64 k∧t = .int .u32 (stn k (s ^^^ b) : Nat)) (fun _ i=>8 - (intOf i).toNat)
 case atStart=>exact ⟨0,by omega,rfl,rfl⟩
 case round=>
  obtain ⟨k,hk,rfl,rfl⟩:=hrel
  have hv : stn k (s ^^^ b) < 2 ^ 32:=stn_lt k (xor_lt hs (by omega))
  have HS:=Lib.hid (stn_succ k (s ^^^ b))
  clear e0 e00
  by_cases hlt : k < 8
  ·generalize stn k (s ^^^ b) = v at *
   have ea:=and1 v hv
   rcases mod2_cases v with hm | hm
   ·rw [hm] at ea
    go_wp2_with fail
    go_round
    case rel=>exact ⟨k + 1,by omega,by go_num,by rw [HS.out]; congr 1; unfold st; rw [if_neg (by omega)]; omega⟩
    case measure=>simp [intOf]; omega
   ·rw [hm] at ea
    have ex : bits .xor .u32 ((v : Int) / 2) 3988292384 = ((v / 2 ^^^ K : Nat) : Int):=u32_xor_nat (v / 2) K (by omega) (by decide)
    go_wp2_with fail
    go_round
    case rel=>exact ⟨k + 1,by omega,by go_num,by rw [HS.out]; congr 1; unfold st; rw [if_pos hm]⟩
    case measure=>simp [intOf]; omega
  ·obtain rfl : k = 8:=by omega
   go_wp2_with fail
   go_ret
   exact ⟨rfl,rfl⟩
theorem bytes_get (s : ByteArray) (k : Nat) (h : k < s.size) : s.data.toList[k]? = some s[k]:=by
 rw [List.getElem?_eq_getElem (by simpa using h)]; rfl
theorem crc_take (s0 : Nat) (s : ByteArray) (k : Nat) (h : k < s.size) : crc s0 (s.data.toList.take (k + 1)) = byteStep (crc s0 (s.data.toList.take k)) s[k].toNat:=by
 rw [List.take_succ_eq_append_getElem (by simpa using h),crc_append]
 rfl
theorem crc_full (s0 : Nat) (s : ByteArray) : crc s0 (s.data.toList.take s.size) = crc s0 s.data.toList:=by
 rw [List.take_of_length_le (by simp)]
theorem flip_any (s : Nat) (hs : s < 2 ^ 32) : bits .xor .u32 IntKind.u32.max (s : Int) = ((s ^^^ top : Nat) : Int):=by
 have:=u32_xor_nat top s (by decide) (by omega)
 rw [Nat.xor_comm] at this
 exact this
def joinL (l : List ByteArray) : List UInt8:=l.flatMap fun s=>s.data.toList
theorem joinL_take (l : List ByteArray) (k : Nat) (h : k < l.length) : joinL (l.take (k + 1)) = joinL (l.take k)++(l.getD k ByteArray.empty).data.toList:=by
 rw [List.take_succ_eq_append_getElem h,joinL,List.flatMap_append]
 simp [joinL,h]
set_option maxRecDepth 100000 in
set_option maxHeartbeats 1000000 in
theorem of_any (v : Value) (l : List ByteArray) (w : World) (hv : StrsAt w v l) :
  Calls Tryz.prog 244 #[v] w fun e w'=>e = .returned (.int .u32 (sumOf (joinL l) : Nat))∧w = w':=by
 obtain ⟨ao,b,off,cap,rfl,hc1,hc2,hao,hat⟩:=hv.form
 go_enter Tryz.func244,Tryz.ntmps244
 go_wp2_with fail
 go_loop [3,9] (fun v i=>∃k : Nat,k≤l.length∧i = .int .i64 k∧v = .int .u32 (crc top (joinL (l.take k)) : Nat)) (fun _ i=>l.length - (intOf i).toNat)
 case atStart=>exact ⟨0,by omega,rfl,rfl⟩
 case round=>
  obtain ⟨k,hk,rfl,rfl⟩:=hrel
  have hv0:=crc_lt (joinL (l.take k)) (s:=top) (by decide)
  by_cases hlt : k < l.length
  ·obtain rfl:=hao (by omega)
   have c5:=hat k hlt
   have hS:=hv.2 _ (str_getD hlt)
   have HS:=Lib.hid (joinL_take l k hlt)
   have HC:=Lib.hid (crc_append top (joinL (l.take k)) (l.getD k ByteArray.empty).data.toList)
   clear hv hat hao
   generalize l.getD k ByteArray.empty = x at *
   generalize crc top (joinL (l.take k)) = s0 at *
   go_wp2_with fail
   go_loop [3,15] (fun v i=>∃j : Nat,j≤x.size∧i = .int .i64 j∧v = .int .u32 (crc s0 (x.data.toList.take j) : Nat)) (fun _ i=>x.size - (intOf i).toNat)
   case atStart=>exact ⟨0,by omega,rfl,rfl⟩
   case round=>
    obtain ⟨j,hj,rfl,rfl⟩:=hrel
    have hv:=crc_lt (x.data.toList.take j) hv0
    by_cases hlt2 : j < x.size
    ·have HS2:=Lib.hid (crc_take s0 x j hlt2)
     have hb : (x[j]'hlt2).toNat < 256:=(x[j]'hlt2).toNat_lt
     generalize crc s0 (x.data.toList.take j) = v at *
     go_wp2_with fail
     refine (step_any v _ _ hv hb).mono ?_
     rintro e w' ⟨rfl,rfl⟩
     go_wp2_with fail
     go_round
     case rel=>exact ⟨j + 1,by omega,by go_num,by rw [HS2.out]⟩
     case measure=>simp [intOf]; omega
    ·obtain rfl : j = x.size:=by omega
     have HF:=Lib.hid (crc_full s0 x)
     generalize crc s0 (x.data.toList.take x.size) = v at *
     go_wp2_with fail
     go_round
     case rel=>exact ⟨k + 1,by omega,by go_num,by rw [HS.out,HC.out,HF.out]⟩
     case measure=>simp [intOf]; omega
  ·obtain rfl : k = l.length:=by omega
   have HF : Hid (crc top (joinL (l.take l.length)) = crc top (joinL l)):=Lib.hid (by rw [List.take_length])
   generalize crc top (joinL (l.take l.length)) = v at *
   have ef:=flip_any v hv0
   clear hv hat hao
   go_wp2_with fail
   go_ret
   exact ⟨ret_int (by rw [HF.out]; rfl),rfl⟩
theorem bitAt_get (t : ByteArray) (i : Nat) (h : i / 8 < t.size) : bitAt t.data.toList i = (t[i / 8].toNat >>> (i % 8)) % 2:=by
 unfold bitAt
 have : t.data.toList.getD (i / 8) 0 = t[i / 8]:=by
  rw [List.getD_eq_getElem?_getD,bytes_get t _ h]; rfl
 rw [this]
set_option maxRecDepth 100000 in
set_option maxHeartbeats 1000000 in
theorem rsum_any (t : ByteArray) (w : World) (ht : t.size≤1000000) :
  Calls Tryz.prog 246 #[.string t] w fun e w'=>e = .returned (.int .u32 (sumOf t.data.toList : Nat))∧w = w':=by
 go_enter Tryz.func246,Tryz.ntmps246
 go_wp2_with fail
 go_loop [3,4] (fun v i=>∃k : Nat,k≤8 * t.size∧i = .int .i64 k∧v = .int .u32 (Crc.bits t.data.toList k top : Nat)) (fun _ i=>8 * t.size - (intOf i).toNat)
 case atStart=>exact ⟨0,by omega,rfl,rfl⟩
 case round=>
  obtain ⟨k,hk,rfl,rfl⟩:=hrel
  have hv:=bits_lt t.data.toList k (s:=top) (by decide)
  by_cases hlt : k < 8 * t.size
  ·have hq : k / 8 < t.size:=by omega
   have HS : Hid (Crc.bits t.data.toList (k + 1) top = bitStep (Crc.bits t.data.toList k top) (bitAt t.data.toList k)):=rfl
   have hbl:=bitAt_lt t.data.toList k
   have HB:=Lib.hid (bitAt_get t k hq)
   generalize bitAt t.data.toList k = bb at *
   generalize Crc.bits t.data.toList k top = v at *
   have hby:=(t[k / 8]'hq).toNat_lt
   have el : bits .xor .u32 (bits .and .u32 (v : Int) 1) (bits .and .u32 (((t[k / 8]'hq).toNat : Int) / 2 ^ (k % 8) % 4294967296) 1) = ((v % 2 ^^^ bb : Nat) : Int):=by
    rw [and1 v hv]
    have e2 : (((t[k / 8]'hq).toNat : Int) / 2 ^ (k % 8) % 4294967296) = (((t[k / 8]'hq).toNat >>> (k % 8) % 4294967296 : Nat) : Int):=by
     rw [Nat.shiftRight_eq_div_pow,Int.natCast_emod,Int.natCast_ediv,Int.natCast_pow]
     rfl
    rw [e2,and1 _ (by omega),u32_xor_nat _ _ (by omega) (by omega)]
    congr 2
    rw [HB.out,Nat.mod_mod_of_dvd _ (by decide)]
   have hx2 : v % 2 ^^^ bb = 0∨v % 2 ^^^ bb = 1:=by
    have:=Nat.xor_lt_two_pow (x:=v % 2) (y:=bb) (n:=1) (by omega) (by omega)
    omega
   rcases hx2 with hx2 | hx2
   ·have el0:=el
    rw [hx2] at el0
    have HX:=Lib.hid hx2
    clear el hx2
    go_wp2_with fail
    go_round
    case rel=>exact ⟨k + 1,by omega,by go_num,by rw [HS.out]; congr 1; unfold bitStep; rw [HX.out,if_neg (by omega)]; omega⟩
    case measure=>simp [intOf]; omega
   ·have el0:=el
    rw [hx2] at el0
    have HX:=Lib.hid hx2
    have ex : bits .xor .u32 ((v : Int) / 2) 3988292384 = ((v / 2 ^^^ K : Nat) : Int):=u32_xor_nat (v / 2) K (by omega) (by decide)
    clear el hx2
    go_wp2_with fail
    go_round
    case rel=>exact ⟨k + 1,by omega,by go_num,by rw [HS.out]; congr 1; unfold bitStep; rw [HX.out,if_pos rfl]⟩
    case measure=>simp [intOf]; omega
  ·obtain rfl : k = 8 * t.size:=by omega
   have HF : Hid (Crc.bits t.data.toList (8 * t.size) top = crc top t.data.toList):=Lib.hid (by
    have:=bits_all t.data.toList top
    rwa [show t.data.toList.length = t.size by simp] at this)
   generalize Crc.bits t.data.toList (8 * t.size) top = v at *
   have ef : bits .xor .u32 (v : Int) 4294967295 = ((v ^^^ top : Nat) : Int):=u32_xor_nat v top (by omega) (by decide)
   go_wp2_with fail
   go_ret
   exact ⟨ret_int (by rw [HF.out]; rfl),rfl⟩
def le32 (s : Nat) : List UInt8:=[UInt8.ofNat s,UInt8.ofNat (s / 256),UInt8.ofNat (s / 65536),UInt8.ofNat (s / 16777216)]
set_option maxRecDepth 100000 in
set_option maxHeartbeats 1000000 in
theorem sbytes_any (s : Nat) (R : List HP) (w : World) (hs : s < 2 ^ 32) (H : own w R) :
  Calls Tryz.prog 243 #[.int .u32 s] w fun e w'=>e = .returned (.string ⟨(le32 s).toArray⟩)∧Ext w w'∧own w' R:=by
 go_enter Tryz.func243,Tryz.ntmps243
 go_wp2_with fail
 have ha:=own_alloc H (.cells #[.int .u8 ((s : Int) % 256),.int .u8 ((s : Int) / 256 % 256),.int .u8 ((s : Int) / 65536 % 256),.int .u8 ((s : Int) / 16777216)] 5)
 obtain ⟨c,f⟩:=own_cells 0 ha rfl
 rw [run_convert_bytes_arg _ 211 5 Tryz.underlying211 Tryz.underlying5 _ 0 4 4 [(s : Int) % 256,(s : Int) / 256 % 256,(s : Int) / 65536 % 256,(s : Int) / 16777216] rfl
  (fun i hi=>by rw [c]; match i,hi with | 0,_=>rfl | 1,_=>rfl | 2,_=>rfl | 3,_=>rfl) _ Tryz.underlying9]
 go_wp2_with fail
 go_ret
 refine ⟨ret_str ?_,(Ext.refl _).alloc _,own_drop ha⟩
 unfold strOfNums le32
 simp only [List.map_cons,List.map_nil]
 have e (n : Nat) : UInt8.ofNat ((n : Int)).toNat = UInt8.ofNat n:=by simp
 have h0 : UInt8.ofNat ((s : Int) % 256).toNat = UInt8.ofNat s:=by
  rw [show ((s : Int) % 256).toNat = s % 256 by omega]
  apply UInt8.toNat_inj.1; simp
 have h1 : UInt8.ofNat ((s : Int) / 256 % 256).toNat = UInt8.ofNat (s / 256):=by
  rw [show ((s : Int) / 256 % 256).toNat = s / 256 % 256 by omega]
  apply UInt8.toNat_inj.1; simp
 have h2 : UInt8.ofNat ((s : Int) / 65536 % 256).toNat = UInt8.ofNat (s / 65536):=by
  rw [show ((s : Int) / 65536 % 256).toNat = s / 65536 % 256 by omega]
  apply UInt8.toNat_inj.1; simp
 have h3 : UInt8.ofNat ((s : Int) / 16777216).toNat = UInt8.ofNat (s / 16777216):=by
  rw [show ((s : Int) / 16777216).toNat = s / 16777216 by omega]
 rw [h0,h1,h2,h3]
end Go.Proofs.YtbpblokfiajpjabGreatDoor

namespace Go.Proofs.YtbpblokfiajpjabGreatDoor
open Go.RowKit Go.SL Go.Crc
attribute [local go_sem ↓] Go.wp_at_zero Go.wp_at_succ
theorem le32_of (s : Nat) (l : List Int) (h : l = [(s : Int) % 256,(s : Int) / 256 % 256,(s : Int) / 65536 % 256,(s : Int) / 16777216]) : strOfNums l = ⟨(le32 s).toArray⟩:=by
 subst h
 unfold strOfNums le32
 simp only [List.map_cons,List.map_nil]
 have h0 : UInt8.ofNat ((s : Int) % 256).toNat = UInt8.ofNat s:=by
  rw [show ((s : Int) % 256).toNat = s % 256 by omega]
  apply UInt8.toNat_inj.1; simp
 have h1 : UInt8.ofNat ((s : Int) / 256 % 256).toNat = UInt8.ofNat (s / 256):=by
  rw [show ((s : Int) / 256 % 256).toNat = s / 256 % 256 by omega]
  apply UInt8.toNat_inj.1; simp
 have h2 : UInt8.ofNat ((s : Int) / 65536 % 256).toNat = UInt8.ofNat (s / 65536):=by
  rw [show ((s : Int) / 65536 % 256).toNat = s / 65536 % 256 by omega]
  apply UInt8.toNat_inj.1; simp
 have h3 : UInt8.ofNat ((s : Int) / 16777216).toNat = UInt8.ofNat (s / 16777216):=by
  rw [show ((s : Int) / 16777216).toNat = s / 16777216 by omega]
 rw [h0,h1,h2,h3]
set_option maxRecDepth 100000 in
set_option maxHeartbeats 1000000 in
theorem four_any (s : Nat) (R : List SL.HP) (w : World) (hs : s < 2 ^ 32) (H : own w R) :
  Calls Tryz.prog 245 #[.int .u32 s] w fun e w'=>e = .returned (.string ⟨(le32 s).toArray⟩)∧Ext w w'∧own w' R:=by
 have r1 : ((s : Int)).tmod 256 = (s : Int) % 256:=Int.tmod_eq_emod_of_nonneg (by omega)
 have r2 : ((s : Int) / 256).tmod 256 = (s : Int) / 256 % 256:=Int.tmod_eq_emod_of_nonneg (by omega)
 have r3 : ((s : Int) / 65536).tmod 256 = (s : Int) / 65536 % 256:=Int.tmod_eq_emod_of_nonneg (by omega)
 go_enter Tryz.func245,Tryz.ntmps245
 go_wp2_with fail
 have ha:=own_alloc H (.cells #[.int .u8 ((s : Int) % 256),.int .u8 ((s : Int) / 256 % 256),.int .u8 ((s : Int) / 65536 % 256),.int .u8 ((s : Int) / 16777216)] 5)
 obtain ⟨c,f⟩:=own_cells 0 ha rfl
 rw [run_convert_bytes_arg _ 211 5 Tryz.underlying211 Tryz.underlying5 _ 0 4 4 [(s : Int) % 256,(s : Int) / 256 % 256,(s : Int) / 65536 % 256,(s : Int) / 16777216] rfl
  (fun i hi=>by rw [c]; match i,hi with | 0,_=>rfl | 1,_=>rfl | 2,_=>rfl | 3,_=>rfl) _ Tryz.underlying9,le32_of s _ rfl]
 go_wp2_with fail
 go_ret
 exact ⟨rfl,(Ext.refl _).alloc _,own_drop ha⟩
def byteCells (xs : List Int) : List Value:=xs.map (Value.int .u8)
theorem conv_row {w : World} {L : List SL.HP} (k : Nat) {v : Value} {xs : List Int} {n : Nat} (hn : xs.length = n) (H : own w L) (hk : L[k]? = some (row 5 1 v n (byteCells xs))) (hp : 0 < n) :
  (convert 211 9 v).run Tryz.prog w = .ok (.string (strOfNums xs)) w:=by
 obtain ⟨ao,g,cap,rfl,h1,h2,h3,-,-,h6,-⟩:=own_row_form k H hk
 obtain rfl:=h3 hp
 exact run_convert_bytes_arg (P:=Tryz.prog) w 211 5 Tryz.underlying211 Tryz.underlying5 g 0 n cap xs hn (fun i hi=>by
  rw [Nat.zero_add]
  exact h6 i _ (by simp [byteCells,show i < xs.length by omega])) 9 Tryz.underlying9
def padded (xs : List Int) : ByteArray:=strOfNums xs++zs (12 - xs.length)
def sealX (xs : List Int) : ByteArray:=padded xs++⟨(le32 (sumOf (padded xs).data.toList)).toArray⟩
theorem repeat_zs (c : Nat) : (⟨(Lib.repeatL (⟨#[0]⟩ : ByteArray).data.toList c).toArray⟩ : ByteArray) = zs c:=by
 unfold zs
 congr 2
 induction c with
 | zero=>rfl
 | succ c ih=>rw [List.replicate_succ,← ih]; simp [Lib.repeatL,List.replicate_succ]
theorem padded_size {xs : List Int} (h : xs.length≤12) : (padded xs).size = 12:=by
 rw [padded,ByteArray.size_append,strOfNums_size,zs_size]; omega
theorem strs_one {w : World} {L : List SL.HP} (k : Nat) {b : Nat} {t : ByteArray} {T : TypeId} (H : own w L) (hk : L[k]? = some (pts b (.cells #[.string t] T (0,0)))) (ht : t.size≤9223372036854775807) : StrsAt w (.slice (some ⟨b,0,none⟩) 1 1) [t]:=
 ⟨⟨_,b,0,1,rfl,Nat.le_refl _,by omega,fun _=>rfl,fun i hi=>by
  have : i = 0:=by simpa using hi
  subst this
  dsimp only
  rw [Nat.zero_add,(own_cells k H hk).1]
  rfl⟩,fun s hs=>by simp at hs; subst hs; exact ht⟩
theorem sum_lt (l : List UInt8) : sumOf l < 2 ^ 32:=xor_lt (crc_lt _ (by decide)) (by decide)
theorem rep_any (c : Nat) (hc : c≤1000) (w : World) : Calls Tryz.prog 154 #[.string ⟨#[0]⟩,.int .i64 c] w fun e w2=>e = .returned (.string (zs c))∧Below w.heap.size w w2:=by
 have hs : (⟨#[0]⟩ : ByteArray).size = 1:=rfl
 have h:=Tryz.strings_Repeat ⟨#[0]⟩ c w (by omega) (by rw [hs]; omega)
 rw [repeat_zs] at h
 exact h
set_option maxRecDepth 100000 in
set_option maxHeartbeats 400000 in
theorem sealed_any (v : Value) (xs : List Int) (n : Nat) (hn : xs.length = n) (h0 : 0 < n) (h12 : n≤12) (R : List SL.HP) (w : World) (H : own w (row 5 1 v n (byteCells xs)::R)) :
  Calls Tryz.prog 237 #[v] w fun e w'=>e = .returned (.string (sealX xs))∧Ext w w'∧own w' R:=by
 have hc0:=conv_row 0 hn (own_drew H) rfl h0
 obtain ⟨ao,g,cap,rfl,r1,r2,-,-,-,-,-⟩:=own_row_form 0 H rfl
 have e12 : IntKind.i64.wrap (12 - (n : Int)) = ((12 - n : Nat) : Int):=by rw [IntWalk.i64_in _ (by omega)]; omega
 have hsz1 : (strOfNums xs).size = n:=by rw [strOfNums_size,hn]
 have hsz2 : (zs (12 - n)).size = 12 - n:=zs_size _
 go_enter Tryz.func237,Tryz.ntmps237
 go_upto_region 1 with (fail)
 go_region_held3 (fun w'=>(convert 211 9 (.slice ao n cap)).run Tryz.prog w' = .ok (.string (strOfNums xs)) w') (first | exact hc0 | exact hc2) ((go_at_call 154; refine (rep_any (12 - n) (by omega) _).mono ?_; rintro e w2 ⟨rfl,hb2⟩; have h2:=own_below (own_drew H) hb2; have hc2:=conv_row 0 hn h2 rfl h0))
 have hu : strOfNums xs++zs (12 - n) = padded xs:=by rw [padded,hn]
 have hz:=padded_size (xs:=xs) (by omega)
 rw [hu]
 have hseal : sealX xs = padded xs++⟨(le32 (sumOf (padded xs).data.toList)).toArray⟩:=rfl
 have HS:=Lib.hid hseal
 clear hu hsz1 hsz2 hc0 hc2 hseal
 generalize padded xs = u at *
 have hx2 : Ext w w2:=(Ext.refl w).drew.trans (ext_below hb2)
 have ha:=own_alloc h2 (.cells #[.string u] 9)
 have hx3:=hx2.alloc (.cells #[.string u] 9)
 have hst:=strs_one 0 ha rfl (by omega)
 go_wp2_with fail
 generalize w2.heap.size = p at *
 generalize w2.alloc (.cells #[.string u] 9) = w3 at *
 refine (of_any _ [u] w3 hst).mono ?_
 rintro e w4 ⟨rfl,rfl⟩
 have hj : joinL [u] = u.data.toList:=by simp [joinL]
 rw [hj]
 have hlt:=sum_lt u.data.toList
 generalize sumOf u.data.toList = S at *
 clear hst hj
 go_wp2_with fail
 refine (sbytes_any S _ w3 hlt ha).mono ?_
 rintro e w5 ⟨rfl,hx5,h5⟩
 have hs4 : (⟨(le32 S).toArray⟩ : ByteArray).size = 4:=rfl
 generalize (⟨(le32 S).toArray⟩ : ByteArray) = t at *
 go_wp2_with fail
 go_ret
 exact ⟨by rw [HS.out]; rfl,hx3.trans hx5,own_drop (own_drop h5)⟩
theorem strOfNums_pad (xs : List Int) (k : Nat) : strOfNums (xs++List.replicate k 0) = strOfNums xs++zs k:=by
 apply Go.WideShapes.bytes_inj
 simp [strOfNums,zs]
def rsealInv (xs : List Int) (n : Nat) (R : List SL.HP) (w0 : World) (v : Value) (wr : World) : Prop:=
 ∃k : Nat,n≤k∧k≤12∧Ext w0 wr∧own wr (row 5 1 v k (byteCells (xs++List.replicate (k - n) 0))::R)
def lenOf : Value→Nat
 | .slice _ k _=>k
 | _=>0
theorem one_byte (k : Int) : ∀u∈[Value.int .u8 k],u.oneCell' = true:=fun u hu=>by simp at hu; subst hu; rfl
set_option maxRecDepth 100000 in
set_option maxHeartbeats 1000000 in
theorem rsealed_any (v : Value) (xs : List Int) (n : Nat) (hn : xs.length = n) (h12 : n≤12) (R : List SL.HP) (w : World) (H : own w (row 5 1 v n (byteCells xs)::R)) :
  Calls Tryz.prog 239 #[v] w fun e w'=>e = .returned (.string (sealX xs))∧Ext w w'∧own w' R:=by
 obtain ⟨ao,g,cap,rfl,r1,r2,-,-,-,-,-⟩:=own_row_form 0 H rfl
 go_enter Tryz.func239,Tryz.ntmps239
 go_wp2_with fail
 go_loopw [0] (rsealInv xs n R w) (fun v _=>12 - lenOf v)
 case atStart=>exact ⟨n,Nat.le_refl _,h12,Ext.refl _,by simpa using H⟩
 case round=>
  obtain ⟨k,hk1,hk2,hxr,hown⟩:=hrel
  obtain ⟨a1,g1,c1,rfl,q1,q2,-,-,-,-,-⟩:=own_row_form 0 hown rfl
  by_cases hlt : k < 12
  ·have hml : k + 1≤maxLen:=by simp only [maxLen]; omega
   have ha:=own_alloc hown (.cells #[.int .u8 0] 5)
   go_wp2_with (first | (at_builtin; refine wpList_append_row rfl _ _ 211 rfl 1 5 Tryz.underlying211 elem_byte rfl (by decide) rfl ha rfl (some ⟨wr.heap.size,0,none⟩) 1 1 [.int .u8 0] rfl rfl (alloc_news wr [.int .u8 0] _) (fun h=>by cases h) (one_byte _) hml (by omega) ?_))
   intro v4 w4 h4 hx4
   obtain ⟨a4,g4,c4,rfl,q4,q5,-,-,-,-,-⟩:=own_row_form 1 h4 rfl
   go_wp2_with fail
   go_roundw
   case rel=>
    refine ⟨k + 1,by omega,by omega,(hxr.alloc _).trans hx4,?_⟩
    have h5:=own_drop h4
    have e : byteCells (xs++List.replicate (k + 1 - n) 0) = byteCells (xs++List.replicate (k - n) 0)++[.int .u8 0]:=by
     rw [show k + 1 - n = (k - n) + 1 from by omega,List.replicate_succ']
     simp [byteCells]
    rw [e]
    exact h5
   case measure=>simp [lenOf]; omega
  ·have hk : k = 12:=by omega
   subst hk
   have hd:=own_drew hown
   have hconv : ∀w',own w' (row 5 1 (.slice a1 12 c1) 12 (byteCells (xs++List.replicate (12 - n) 0))::R)→(convert 211 9 (.slice a1 12 c1)).run Tryz.prog w' = .ok (.string (padded xs)) w':=fun w' h=>by
    have:=conv_row 0 (by simp [hn]; omega) h rfl (by omega)
    rw [strOfNums_pad,show strOfNums xs++zs (12 - n) = padded xs from by rw [padded,hn]] at this
    exact this
   have HC:=Lib.hid hconv
   clear hconv
   have hz:=padded_size (xs:=xs) (by omega)
   have hseal : sealX xs = padded xs++⟨(le32 (sumOf (padded xs).data.toList)).toArray⟩:=rfl
   have HS:=Lib.hid hseal
   clear hseal
   generalize padded xs = u at *
   have hlts:=sum_lt u.data.toList
   have hs4 : ∀S,(⟨(le32 S).toArray⟩ : ByteArray).size = 4:=fun _=>rfl
   generalize hS : sumOf u.data.toList = S at *
   have HSS:=Lib.hid hS
   clear hS
   have hs4':=hs4 S
   clear hs4
   generalize ht : (⟨(le32 S).toArray⟩ : ByteArray) = t at *
   have HT:=Lib.hid ht
   clear ht
   go_upto_region 3 with (fail)
   go_region_held3 (fun w'=>(convert 211 9 (.slice a1 12 c1)).run Tryz.prog w' = .ok (.string u) w') (first | exact HC.out _ hd | exact HC.out _ h2) (first | (go_at_call 246; refine (rsum_any u _ (by omega)).mono ?_; rw [HSS.out]; rintro e w' ⟨rfl,rfl⟩) | (go_at_call 245; refine (four_any S _ _ hlts hd).mono ?_; rw [HT.out]; rintro e w2 ⟨rfl,hx2,h2⟩))
   go_wp2_with fail
   go_ret
   exact ⟨by rw [HS.out]; rfl,hxr.drew.trans hx2,own_drop h2⟩
end Go.Proofs.YtbpblokfiajpjabGreatDoor

namespace Go.Proofs.YtbpblokfiajpjabGreatDoor
open Go.RowKit Go.SL Go.Crc
attribute [local go_sem ↓] Go.wp_at_zero Go.wp_at_succ
end Go.Proofs.YtbpblokfiajpjabGreatDoor

namespace Go.Proofs.YtbpblokfiajpjabGreatDoor
open Go.RowKit Go.SL Go.Crc
attribute [local go_sem ↓] Go.wp_at_zero Go.wp_at_succ
def headV (c p b : Int) : Value:=.agg #[.int .i64 c,.int .i64 p,.int .i64 b]
def headBad (c p b : Int) : Prop:=c < 1∨32 < c∨p < 0∨40 < p∨b < -1∨4 < b
instance (c p b : Int) : Decidable (headBad c p b):=by unfold headBad; infer_instance
def headF (c p b : Int) : Int:=if headBad c p b then 1 else 0
set_option maxRecDepth 100000 in
set_option maxHeartbeats 1000000 in
theorem checkhead_any (c p b : Int) (R : List SL.HP) (w : World) (H : own w R) :
  Calls Tryz.prog 125 #[headV c p b] w fun e w'=>e = .returned (errV (headF c p b))∧Ext w w'∧own w' R:=by
 have ha:=own_alloc H (.cells #[.int .i64 c,.int .i64 p,.int .i64 b] 103)
 obtain ⟨cc,ff⟩:=own_cells 0 ha rfl
 by_cases h : headBad c p b
 ·have e : headF c p b = 1:=if_pos h
  rw [e]
  clear e
  unfold headBad at h
  unfold headV
  go_enter Tryz.func125,Tryz.ntmps125
  go_wp2_with fail
  all_goals go_ret
  all_goals exact ⟨rfl,(Ext.refl _).alloc _,own_drop ha⟩
 ·have e : headF c p b = 0:=if_neg h
  rw [e]
  clear e
  unfold headBad at h
  unfold headV
  have h1 : 1≤c:=by omega
  have h2 : c≤32:=by omega
  have h3 : 0≤p:=by omega
  have h4 : p≤40:=by omega
  have h5 : -1≤b:=by omega
  have h6 : b≤4:=by omega
  clear h
  go_enter Tryz.func125,Tryz.ntmps125
  go_wp2_with fail
  all_goals go_ret
  all_goals exact ⟨rfl,(Ext.refl _).alloc _,own_drop ha⟩
set_option maxRecDepth 100000 in
set_option maxHeartbeats 1000000 in
theorem headfault_any (c p b : Int) (R : List SL.HP) (w : World) (H : own w R) :
  Calls Tryz.prog 129 #[headV c p b] w fun e w'=>e = .returned (.int .i64 (headF c p b))∧Ext w w'∧own w' R:=by
 have ha:=own_alloc H (.cells #[.int .i64 c,.int .i64 p,.int .i64 b] 103)
 obtain ⟨cc,ff⟩:=own_cells 0 ha rfl
 by_cases h : headBad c p b
 ·have e : headF c p b = 1:=if_pos h
  rw [e]
  clear e
  unfold headBad at h
  unfold headV
  go_enter Tryz.func129,Tryz.ntmps129
  go_wp2_with fail
  all_goals go_ret
  all_goals exact ⟨rfl,(Ext.refl _).alloc _,own_drop ha⟩
 ·have e : headF c p b = 0:=if_neg h
  rw [e]
  clear e
  unfold headBad at h
  unfold headV
  have h1 : 1≤c:=by omega
  have h2 : c≤32:=by omega
  have h3 : 0≤p:=by omega
  have h4 : p≤40:=by omega
  have h5 : -1≤b:=by omega
  have h6 : b≤4:=by omega
  clear h
  go_enter Tryz.func129,Tryz.ntmps129
  go_wp2_with fail
  all_goals go_ret
  all_goals exact ⟨rfl,(Ext.refl _).alloc _,own_drop ha⟩
def headS (c p b : Int) : ByteArray:=sealX [83,89,c,p,b + 1]
set_option maxRecDepth 100000 in
set_option maxHeartbeats 1000000 in
theorem headsector_any (c p b : Int) (hh : ¬headBad c p b) (R : List SL.HP) (w : World) (H : own w R) :
  Calls Tryz.prog 165 #[headV c p b] w fun e w'=>e = .returned (.string (headS c p b))∧Ext w w'∧own w' R:=by
 have ha:=own_alloc H (.cells #[.int .i64 c,.int .i64 p,.int .i64 b] 103)
 have hxa:=(Ext.refl w).alloc (.cells #[.int .i64 c,.int .i64 p,.int .i64 b] 103)
 obtain ⟨cc,ff⟩:=own_cells 0 ha rfl
 unfold headBad at hh
 unfold headV headS
 have h1 : 1≤c:=by omega
 have h2 : c≤32:=by omega
 have h3 : 0≤p:=by omega
 have h4 : p≤40:=by omega
 have h5 : -1≤b:=by omega
 have h6 : b≤4:=by omega
 clear hh
 go_enter Tryz.func165,Tryz.ntmps165
 go_upto_region 1 with (fail)
 generalize w.heap.size = g at *
 generalize w.alloc (.cells #[.int .i64 c,.int .i64 p,.int .i64 b] 103) = w1 at *
 go_wp2_with fail
 have h7:=own_row_of 0 (n:=5) (cap:=5) (sz:=1) (xs:=byteCells [83,89,c,p,b + 1]) (own_alloc ha (.cells #[.int .u8 83,.int .u8 89,.int .u8 c,.int .u8 p,.int .u8 (b + 1)] 5)) rfl (by decide) (by simp [maxLen]) rfl rfl
 refine (rsealed_any _ [83,89,c,p,b + 1] 5 rfl (by decide) _ _ h7).mono ?_
 rintro e w2 ⟨rfl,hx2,h2'⟩
 go_wp2_with fail
 go_ret
 exact ⟨rfl,(hxa.alloc _).trans hx2,own_drop h2'⟩
set_option maxRecDepth 100000 in
set_option maxHeartbeats 1000000 in
theorem head_any (c p b : Int) (R : List SL.HP) (w : World) (H : own w R) :
  Calls Tryz.prog 159 #[headV c p b] w fun e w'=>e = .returned (.tuple #[.string (if headF c p b = 0 then headS c p b else ByteArray.empty),errV (headF c p b)])∧Ext w w'∧own w' R:=by
 have ha:=own_alloc H (.cells #[.int .i64 c,.int .i64 p,.int .i64 b] 103)
 have hxa:=(Ext.refl w).alloc (.cells #[.int .i64 c,.int .i64 p,.int .i64 b] 103)
 by_cases h : headBad c p b
 ·have e : headF c p b = 1:=if_pos h
  have hck:=checkhead_any c p b _ _ ha
  rw [e,if_neg (by decide)]
  rw [e] at hck
  have HK:=Lib.hid hck
  clear hck e h
  unfold headV at HK
  unfold headV
  go_enter Tryz.func159,Tryz.ntmps159
  go_upto_region 1 with (fail)
  obtain ⟨cc,ff⟩:=own_cells 0 ha rfl
  generalize w.heap.size = g at *
  generalize w.alloc (.cells #[.int .i64 c,.int .i64 p,.int .i64 b] 103) = w1 at *
  go_wp2_with fail
  refine HK.out.mono ?_
  rintro e w2 ⟨rfl,hx2,h2'⟩
  have he : errV 1 = .iface 128 (.int .i64 1):=rfl
  rw [he]
  go_wp2_with fail
  go_ret2
  exact ⟨rfl,hxa.trans hx2,own_drop h2'⟩
 ·have e : headF c p b = 0:=if_neg h
  have hck:=checkhead_any c p b _ _ ha
  rw [e,if_pos rfl]
  rw [e] at hck
  have HK:=Lib.hid hck
  clear hck e
  unfold headBad at h
  unfold headV at HK
  unfold headV headS
  have h1 : 1≤c:=by omega
  have h2 : c≤32:=by omega
  have h3 : 0≤p:=by omega
  have h4 : p≤40:=by omega
  have h5 : -1≤b:=by omega
  have h6 : b≤4:=by omega
  clear h
  go_enter Tryz.func159,Tryz.ntmps159
  go_upto_region 1 with (fail)
  obtain ⟨cc,ff⟩:=own_cells 0 ha rfl
  generalize w.heap.size = g at *
  generalize w.alloc (.cells #[.int .i64 c,.int .i64 p,.int .i64 b] 103) = w1 at *
  go_wp2_with fail
  refine HK.out.mono ?_
  rintro e w2 ⟨rfl,hx2,h2'⟩
  rw [errV_0]
  clear cc ff
  obtain ⟨cc,ff⟩:=own_cells 0 h2' rfl
  go_wp2_with fail
  have h7:=own_row_of 0 (n:=5) (cap:=5) (sz:=1) (xs:=byteCells [83,89,c,p,b + 1]) (own_alloc h2' (.cells #[.int .u8 83,.int .u8 89,.int .u8 c,.int .u8 p,.int .u8 (b + 1)] 5)) rfl (by decide) (by simp [maxLen]) rfl rfl
  refine (sealed_any _ [83,89,c,p,b + 1] 5 rfl (by decide) (by decide) _ _ h7).mono ?_
  rintro e w3 ⟨rfl,hx3,h3'⟩
  go_wp2_with fail
  go_ret2
  exact ⟨rfl,((hxa.trans hx2).alloc _).trans hx3,own_drop h3'⟩
end Go.Proofs.YtbpblokfiajpjabGreatDoor

namespace Go.Proofs.YtbpblokfiajpjabGreatDoor
open Go.RowKit Go.SL Go.Crc
attribute [local go_sem ↓] Go.wp_at_zero Go.wp_at_succ
def bt (s : ByteArray) (i : Nat) : Int:=((s.data.toList.getD i 0).toNat : Int)
def headOfBad (s : ByteArray) : Prop:=headBad (bt s 2) (bt s 3) (bt s 4 - 1)∨headS (bt s 2) (bt s 3) (bt s 4 - 1)≠s
instance (s : ByteArray) : Decidable (headOfBad s):=by unfold headOfBad; infer_instance
end Go.Proofs.YtbpblokfiajpjabGreatDoor
