/- Heads read back by the program. Tables: how many rows, one row written, the document's entry. Tables: one row, by the document and by the program. The document's device: Write, Flush, Crash, NewDev. The document's device: Crash, NewDev. asDev and stays answer true of equal devices. Tables read back: the model. No conditions. -/
import Derived.Test.YtbpblokfiajpjabGreatDoorPkdc8020fcc1
import Derived.Test.YtbpblokfiajpjabGreatDoorProg
import Derived.Deep.DrawnRows
namespace Go.Proofs.YtbpblokfiajpjabGreatDoor
open Go.RowKit Go.SL Go.Crc
attribute [local go_sem ↓] Go.wp_at_zero Go.wp_at_succ
end Go.Proofs.YtbpblokfiajpjabGreatDoor

namespace Go.Proofs.YtbpblokfiajpjabGreatDoor
open Go.RowKit Go.SL Go.Crc
attribute [local go_sem ↓] Go.wp_at_zero Go.wp_at_succ
abbrev Ent:=Int×Int
def entOk (e : Ent) (p : Int) : Bool:=if e.1 = 2 then decide (0≤e.2) && decide (e.2 < p) else (decide (e.1 = 0) || decide (e.1 = 1)) && decide (e.2 = 0)
def rowsN (n : Nat) : Nat:=(n + 7) / 8
def entsAt (w : World) (v : Value) (l : List Ent) : Prop:=
 SlAt v l.length (fun b off i=>w.cell? ⟨b,off + i * 2,none⟩ = some (.int .i64 (l.getD i (0,0)).1)∧w.cell? ⟨b,off + i * 2 + 1,none⟩ = some (.int .i64 (l.getD i (0,0)).2))
theorem entsAt.later {w w' : World} {v : Value} {l : List Ent} (h : entsAt w v l) {L : List HP} (k : Nat) (H : own w' L) (hk : L[k]? = some (exactly w)) : entsAt w' v l:=
 SlAt.later h fun _ _ _ h=>⟨rd_later k H hk h.1,rd_later k H hk h.2⟩
set_option maxRecDepth 100000 in
set_option maxHeartbeats 400000 in
theorem rows_any (n : Nat) (hn : n≤1000000) (w : World) : Calls Tryz.prog 156 #[.int .i64 n] w fun e w'=>e = .returned (.int .i64 (rowsN n : Nat))∧w = w':=by
 go_enter Tryz.func156,Tryz.ntmps156
 go_wp2_with fail
 go_ret
 exact ⟨ret_int (by unfold rowsN; omega),rfl⟩
set_option maxRecDepth 100000 in
set_option maxHeartbeats 400000 in
theorem rrows_any (n : Nat) (hn : n≤1000000) (w : World) : Calls Tryz.prog 161 #[.int .i64 n] w fun e w'=>e = .returned (.int .i64 (rowsN n : Nat))∧w = w':=by
 go_enter Tryz.func161,Tryz.ntmps161
 go_wp2_with fail
 go_loop [3] (fun i=>∃k : Nat,i = .int .i64 k∧8 * k < n + 8 ) (fun i=>n + 8 - (intOf i).toNat)
 case atStart=>exact ⟨0,rfl,by omega⟩
 case round=>
  obtain ⟨k,rfl,hk⟩:=hrel
  by_cases hlt : 8 * k < n
  ·go_wp2_with fail
   go_round
   case rel=>exact ⟨k + 1,by go_num,by omega⟩
   case measure=>simp [intOf]; omega
  ·go_wp2_with fail
   go_ret
   exact ⟨ret_int (by unfold rowsN; omega),rfl⟩
set_option maxRecDepth 100000 in
set_option maxHeartbeats 1000000 in
theorem entry_any (a b p : Int) (R : List SL.HP) (w : World) (H : own w R) :
  Calls Tryz.prog 238 #[.agg #[.int .i64 a,.int .i64 b],.int .i64 p] w fun e w'=>e = .returned (.bool (entOk (a,b) p))∧Ext w w'∧own w' R:=by
 have ha:=own_alloc H (.cells #[.int .i64 a,.int .i64 b] 221)
 obtain ⟨cc,ff⟩:=own_cells 0 ha rfl
 by_cases h2 : a = 2
 ·subst h2
  have e : entOk (2,b) p = (decide (0≤b) && decide (b < p)):=rfl
  rw [e]
  clear e
  by_cases hb : 0≤b
  ·rw [decide_eq_true hb]
   go_enter Tryz.func238,Tryz.ntmps238
   go_wp2_with fail
   all_goals go_ret
   all_goals exact ⟨ret_bool (by simp),(Ext.refl _).alloc _,own_drop ha⟩
  ·rw [decide_eq_false hb]
   go_enter Tryz.func238,Tryz.ntmps238
   go_wp2_with fail
   all_goals go_ret
   all_goals exact ⟨ret_bool (by simp),(Ext.refl _).alloc _,own_drop ha⟩
 ·have e : entOk (a,b) p = ((decide (a = 0) || decide (a = 1)) && decide (b = 0)):=if_neg h2
  rw [e]
  clear e
  have t2 : (a == 2) = false:=beq_eq_false_iff_ne.2 h2
  clear h2
  by_cases h0 : a = 0
  ·subst h0
   clear t2
   go_enter Tryz.func238,Tryz.ntmps238
   go_wp2_with fail
   all_goals go_ret
   all_goals exact ⟨ret_bool (by rw [Bool.eq_iff_iff]; simp),(Ext.refl _).alloc _,own_drop ha⟩
  ·have t0 : (a == 0) = false:=beq_eq_false_iff_ne.2 h0
   by_cases h1 : a = 1
   ·subst h1
    clear t2 t0 h0
    go_enter Tryz.func238,Tryz.ntmps238
    go_wp2_with fail
    all_goals go_ret
    all_goals exact ⟨ret_bool (by rw [Bool.eq_iff_iff]; simp),(Ext.refl _).alloc _,own_drop ha⟩
   ·have t1 : (a == 1) = false:=beq_eq_false_iff_ne.2 h1
    have e : ((decide (a = 0) || decide (a = 1)) && decide (b = 0)) = false:=by simp [h0,h1]
    rw [e]
    clear h0 h1 e
    go_enter Tryz.func238,Tryz.ntmps238
    go_wp2_with fail
    all_goals go_ret
    all_goals exact ⟨rfl,(Ext.refl _).alloc _,own_drop ha⟩
end Go.Proofs.YtbpblokfiajpjabGreatDoor

namespace Go.Proofs.YtbpblokfiajpjabGreatDoor
open Go.RowKit Go.SL Go.Crc
attribute [local go_sem ↓] Go.wp_at_zero Go.wp_at_succ
def rowEnts (t : List Ent) (r : Nat) : List Ent:=(List.range 8).map fun k=>t.getD (8 * r + k) (0,0)
def entNums (l : List Ent) : List Int:=l.flatMap fun e=>[e.1,e.2]
def rowOut (t : List Ent) (row : Int) : Prop:=32 < t.length∨row < 0∨(rowsN t.length : Int)≤row
instance (t : List Ent) (row : Int) : Decidable (rowOut t row):=by unfold rowOut; infer_instance
def rowOf (t : List Ent) (row : Int) : ByteArray×Int:=
 if rowOut t row then (ByteArray.empty,1) else if (rowEnts t row.toNat).all (fun e=>entOk e 40) then (strOfNums (entNums (rowEnts t row.toNat)),0) else (ByteArray.empty,2)
theorem rowEnts_len (t : List Ent) (r : Nat) : (rowEnts t r).length = 8:=by simp [rowEnts]
theorem rowEnts_get (t : List Ent) (r k : Nat) (h : k < 8) : (rowEnts t r).getD k (0,0) = t.getD (8 * r + k) (0,0):=by simp [rowEnts,h]
theorem rowOf_bad {t : List Ent} {r k : Nat} (h : ¬rowOut t r) (hk : k < 8) (hb : entOk (t.getD (8 * r + k) (0,0)) 40 = false) : rowOf t r = (ByteArray.empty,2):=by
 rw [rowOf,if_neg h,if_neg]
 intro hall
 have:=List.all_eq_true.1 hall (t.getD (8 * r + k) (0,0)) (by simp only [rowEnts,Int.toNat_natCast,List.mem_map,List.mem_range]; exact ⟨k,hk,rfl⟩)
 rw [hb] at this
 cases this
theorem rowOf_ok {t : List Ent} {r : Nat} (h : ¬rowOut t r) (ha : ∀k,k < 8→entOk (t.getD (8 * r + k) (0,0)) 40 = true) : rowOf t r = (strOfNums (entNums (rowEnts t r)),0):=by
 rw [rowOf,if_neg h,if_pos]
 ·rfl
 ·refine List.all_eq_true.2 fun e he=>?_
  simp only [rowEnts,Int.toNat_natCast,List.mem_map,List.mem_range] at he
  obtain ⟨k,hk,rfl⟩:=he
  exact ha k hk
theorem entNums_len (l : List Ent) : (entNums l).length = l.length * 2:=by
 induction l with
 | nil=>rfl
 | cons x l ih=>simp only [entNums,List.flatMap_cons,List.length_append,List.length_cons,List.length_nil] at ih ⊢; omega
theorem rowNums_succ (t : List Ent) (r k : Nat) (h : k < 8) : byteCells (entNums ((rowEnts t r).take (k + 1))) = byteCells (entNums ((rowEnts t r).take k))++[.int .u8 (t.getD (8 * r + k) (0,0)).1,.int .u8 (t.getD (8 * r + k) (0,0)).2]:=by
 rw [take_succ_getD (0,0) (by rw [rowEnts_len]; exact h),rowEnts_get _ _ _ h]
 simp [entNums,byteCells]
theorem entOk_range {e : Ent} {p : Int} (h : entOk e p = true) : 0≤e.1∧e.1≤2∧0≤e.2∧(e.2 < p∨e.2 = 0):=by
 unfold entOk at h
 split at h
 ·simp at h; omega
 ·simp at h; omega
theorem entsAt.form {w : World} {v : Value} {l : List Ent} (h : entsAt w v l) : ∃ao b off cap,v = .slice ao l.length cap∧l.length≤cap∧cap≤9223372036854775807∧(0 < l.length→ao = some ⟨b,off,none⟩):=by
 obtain ⟨ao,b,off,cap,hv,h1,h2,h3,h4⟩:=h
 exact ⟨ao,b,off,cap,hv,h1,h2,h3⟩
theorem entsAt.cells {w : World} {b off n cap : Nat} {l : List Ent} (h : entsAt w (.slice (some ⟨b,off,none⟩) n cap) l) {i : Nat} (hi : i < l.length) :
  w.cell? ⟨b,off + i * 2,none⟩ = some (.int .i64 (l.getD i (0,0)).1)∧w.cell? ⟨b,off + i * 2 + 1,none⟩ = some (.int .i64 (l.getD i (0,0)).2):=by
 obtain ⟨ao,b',off',cap',hv,h1,h2,h3,h4⟩:=h
 simp only [Value.slice.injEq] at hv
 have h5:=h3 (by omega)
 rw [← hv.1] at h5
 simp only [Option.some.injEq,Addr.mk.injEq,and_true] at h5
 obtain ⟨rfl,rfl⟩:=h5
 exact h4 i hi
theorem two_bytes (a b : Int) : ∀u∈[Value.int .u8 a,Value.int .u8 b],u.oneCell' = true:=fun u hu=>by simp at hu; rcases hu with rfl | rfl <;> rfl
def rowInv (t : List Ent) (r : Nat) (R : List SL.HP) (w0 : World) (vb vi : Value) (wr : World) : Prop:=
 ∃k : Nat,k≤8∧vi = .int .i64 k∧(∀j,j < k→entOk (t.getD (8 * r + j) (0,0)) 40 = true)∧Ext w0 wr∧own wr (row 5 1 vb (2 * k) (byteCells (entNums ((rowEnts t r).take k)))::R)
set_option maxRecDepth 100000 in
set_option maxHeartbeats 1000000 in
theorem rrowof_out (v : Value) (t : List Ent) (row : Int) (ht : t.length≤1000) (ho : rowOut t row) (R : List SL.HP) (w : World) (hv : ∀w' l,own w' (l++R)→entsAt w' v t) (H : own w R) :
  Calls Tryz.prog 162 #[v,.int .i64 row] w fun e w'=>e = .returned (.tuple #[.string ByteArray.empty,.int .i64 1])∧Ext w w'∧own w' R:=by
 obtain ⟨ao,b,off,cap,rfl,c1,c2,c3⟩:=(hv w [] H).form
 unfold rowOut at ho
 by_cases h1 : 32 < t.length
 ·clear hv c3 ho
  go_enter Tryz.func162,Tryz.ntmps162
  go_wp2_with fail
  go_ret2
  exact ⟨rfl,Ext.refl _,H⟩
 ·by_cases h2 : row < 0
  ·clear hv c3 ho
   go_enter Tryz.func162,Tryz.ntmps162
   go_wp2_with fail
   go_ret2
   exact ⟨rfl,Ext.refl _,H⟩
  ·have h3 : (rowsN t.length : Int)≤row:=by omega
   clear hv c3 ho
   go_enter Tryz.func162,Tryz.ntmps162
   go_wp2_with (go_at_call 161; refine (rrows_any _ (by omega) _).mono ?_; rintro e w' ⟨rfl,rfl⟩)
   go_ret2
   exact ⟨rfl,Ext.refl _,H⟩
set_option maxRecDepth 100000 in
set_option maxHeartbeats 2000000 in
theorem rrowof_in (v : Value) (t : List Ent) (r : Nat) (ho : ¬rowOut t r) (R : List SL.HP) (w : World) (hv : ∀w' l,own w' (l++R)→entsAt w' v t) (H : own w R) :
  Calls Tryz.prog 162 #[v,.int .i64 r] w fun e w'=>e = .returned (.tuple #[.string (rowOf t r).1,.int .i64 (rowOf t r).2])∧Ext w w'∧own w' R:=by
 obtain ⟨ao,b,off,cap,rfl,c1,c2,c3⟩:=(hv w [] H).form
 have hbad : ∀k : Nat,k < 8→entOk (t.getD (8 * r + k) (0,0)) 40 = false→rowOf t r = (ByteArray.empty,2):=fun k h1 h2=>rowOf_bad ho h1 h2
 have hok:=rowOf_ok ho
 have HO:=Lib.hid ho
 have HB:=Lib.hid hbad
 have HK:=Lib.hid hok
 unfold rowOut at ho
 have h1 : t.length≤32:=by omega
 have h3 : (r : Int) < (rowsN t.length : Int):=by omega
 have h4 : r≤4:=by have h0 : rowsN t.length≤4:=(by unfold rowsN; omega); omega
 have HV:=Lib.hid hv
 have HC:=Lib.hid c3
 have b1 : decide (32 < (t.length : Int)) = false:=by simp; omega
 have b2 : decide ((r : Int) < 0) = false:=by simp
 have b3 : decide (rowsN t.length≤r) = false:=by simp; omega
 clear hv c3 ho hbad hok
 go_enter Tryz.func162,Tryz.ntmps162
 go_wp2_with (go_at_call 161; refine (rrows_any _ (by omega) _).mono ?_; rintro e w' ⟨rfl,rfl⟩)
 go_loopw [6,7] (rowInv t r R w) (fun _ i _=>8 - (intOf i).toNat)
 case atStart=>exact ⟨0,by omega,rfl,fun j h=>absurd h (by omega),Ext.refl _,own_row_nil _ _ H⟩
 case round=>
  obtain ⟨k,hk,rfl,hj,hxr,hown⟩:=hrel
  have HJ:=Lib.hid hj
  clear hj
  obtain ⟨a1,g1,c1',rfl,q1,q2,-,-,-,-,-⟩:=own_row_form 0 hown rfl
  by_cases hlt : k < 8
  ·go_upto_region 8 with (fail)
   have ha:=own_alloc hown (.cells #[.int .i64 0,.int .i64 0] 221)
   have hxa:=hxr.alloc (.cells #[.int .i64 0,.int .i64 0] 221)
   generalize wr.heap.size = p at *
   generalize wr.alloc (.cells #[.int .i64 0,.int .i64 0] 221) = wa at *
   by_cases hin : 8 * r + k < t.length
   ·obtain rfl:=HC.out (by omega)
    have hcell:=(HV.out wa [_,_] ha).cells hin
    obtain ⟨e1,e2⟩:=hcell
    obtain ⟨cc,ff⟩:=own_cells 0 ha rfl
    generalize hx : t.getD (8 * r + k) (0,0) = x at *
    have HX:=Lib.hid hx
    clear hx
    obtain ⟨x1,x2⟩:=x
    dsimp only at e1 e2
    go_wp2_with fail
    have h5:=own_set (i:=1) (v:=.int .i64 x2) 0 (own_set (i:=0) (v:=.int .i64 x1) 0 ha rfl) rfl
    have hx5:=(hxa.setCell ⟨p,0,none⟩ (.int .i64 x1)).setCell ⟨p,1,none⟩ (.int .i64 x2)
    clear e1 e2
    refine (entry_any x1 x2 40 _ _ h5).mono ?_
    rintro e w2 ⟨rfl,hx2,h2⟩
    by_cases hok : entOk (x1,x2) 40 = true
    ·rw [hok]
     obtain ⟨y1,y2,y3,y4⟩:=entOk_range hok
     dsimp only at y1 y2 y3 y4
     have y5 : x2 < 40:=by omega
     have HE:=Lib.hid hok
     clear hok y4 cc ff
     obtain ⟨cc,ff⟩:=own_cells 0 h2 rfl
     have h3:=own_alloc h2 (.cells #[.int .u8 x1,.int .u8 x2] 5)
     have hml : 2 * k + 2≤maxLen:=by simp only [maxLen]; omega
     go_wp2_with (first | (at_builtin; refine wpList_append_row rfl _ _ 211 rfl 2 5 Tryz.underlying211 elem_byte rfl (by decide) rfl h3 rfl (some ⟨w2.heap.size,0,none⟩) 2 2 [.int .u8 x1,.int .u8 x2] rfl rfl (alloc_news w2 [.int .u8 x1,.int .u8 x2] _) (fun h=>by cases h) (two_bytes _ _) hml (by omega) ?_))
     intro v4 w4 h4 hx4
     obtain ⟨a4,g4,c4,rfl,z1,z2,-,-,-,-,-⟩:=own_row_form 2 h4 rfl
     go_wp2_with fail
     go_roundw
     case rel=>
      refine ⟨k + 1,by omega,by go_num,fun j hj=>?_,(((hx5.trans hx2).alloc _).trans hx4),?_⟩
      ·by_cases ej : j = k
       ·subst ej; rw [HX.out]; exact HE.out
       ·exact HJ.out j (by omega)
      ·rw [rowNums_succ _ _ _ hlt,HX.out]
       exact own_drop (own_drop h4)
     case measure=>simp [intOf]; omega
    ·have hok' : entOk (x1,x2) 40 = false:=by simpa using hok
     have hfin:=HB.out k hlt (by rw [HX.out]; exact hok')
     have HF:=Lib.hid hfin
     rw [hok']
     clear hfin hok' hok cc ff
     go_wp2_with fail
     go_ret2
     exact ⟨by rw [HF.out]; rfl,hx5.trans hx2,own_drop (own_drop h2)⟩
   ·have hx : t.getD (8 * r + k) (0,0) = (0,0):=by simp [List.getD,show t.length≤8 * r + k by omega]
    have HX:=Lib.hid hx
    clear hx
    obtain ⟨cc,ff⟩:=own_cells 0 ha rfl
    have h5:=ha
    have hx5:=hxa
    go_wp2_with fail
    refine (entry_any 0 0 40 _ _ h5).mono ?_
    rintro e w2 ⟨rfl,hx2,h2⟩
    by_cases hok : entOk (0,0) 40 = true
    ·rw [hok]
     obtain ⟨y1,y2,y3,y4⟩:=entOk_range hok
     dsimp only at y1 y2 y3 y4
     have y5 : 0 < 40:=by omega
     have HE:=Lib.hid hok
     clear hok y4 cc ff
     obtain ⟨cc,ff⟩:=own_cells 0 h2 rfl
     have h3:=own_alloc h2 (.cells #[.int .u8 0,.int .u8 0] 5)
     have hml : 2 * k + 2≤maxLen:=by simp only [maxLen]; omega
     go_wp2_with (first | (at_builtin; refine wpList_append_row rfl _ _ 211 rfl 2 5 Tryz.underlying211 elem_byte rfl (by decide) rfl h3 rfl (some ⟨w2.heap.size,0,none⟩) 2 2 [.int .u8 0,.int .u8 0] rfl rfl (alloc_news w2 [.int .u8 0,.int .u8 0] _) (fun h=>by cases h) (two_bytes _ _) hml (by omega) ?_))
     intro v4 w4 h4 hx4
     obtain ⟨a4,g4,c4,rfl,z1,z2,-,-,-,-,-⟩:=own_row_form 2 h4 rfl
     go_wp2_with fail
     go_roundw
     case rel=>
      refine ⟨k + 1,by omega,by go_num,fun j hj=>?_,(((hx5.trans hx2).alloc _).trans hx4),?_⟩
      ·by_cases ej : j = k
       ·subst ej; rw [HX.out]; exact HE.out
       ·exact HJ.out j (by omega)
      ·rw [rowNums_succ _ _ _ hlt,HX.out]
       exact own_drop (own_drop h4)
     case measure=>simp [intOf]; omega
    ·have hok' : entOk (0,0) 40 = false:=by simpa using hok
     have hfin:=HB.out k hlt (by rw [HX.out]; exact hok')
     have HF:=Lib.hid hfin
     rw [hok']
     clear hfin hok' hok cc ff
     go_wp2_with fail
     go_ret2
     exact ⟨by rw [HF.out]; rfl,hx5.trans hx2,own_drop (own_drop h2)⟩
  ·have hk8 : k = 8:=by omega
   subst hk8
   have hok:=HK.out HJ.out
   have hall : (rowEnts t r).take 8 = rowEnts t r:=List.take_of_length_le (by rw [rowEnts_len]; omega)
   rw [hall] at hown
   have hlen : (entNums (rowEnts t r)).length = 2 * 8:=by rw [entNums_len,rowEnts_len]
   have hcv:=conv_row 0 hlen hown rfl (by omega)
   have HF:=Lib.hid hok
   clear hok hall hlen
   generalize strOfNums (entNums (rowEnts t r)) = z at *
   simp only [Nat.reduceMul] at hcv
   go_wp2_with fail
   go_ret2
   exact ⟨by rw [HF.out]; rfl,hxr,own_drop hown⟩
end Go.Proofs.YtbpblokfiajpjabGreatDoor

namespace Go.Proofs.YtbpblokfiajpjabGreatDoor
open Go.RowKit Go.SL
set_option maxRecDepth 100000 in
set_option maxHeartbeats 1000000 in
theorem rdev_write (b : Nat) (m : DevM) (hm : m.Ok) (n : Int) (s : ByteArray) (hs : s.size≤9223372036854775807) (hwl : m.writes < 1000000) (hpl : m.pend.length < 1000000) (R : List SL.HP) (w : World) (H : own w (rdevAt b m::R)) :
  Calls Tryz.prog 163 #[.pointer (some ⟨b,0,none⟩),.int .i64 n,.string s] w fun e w'=>e = .returned (.int .i64 (m.write n s).1)∧Ext w w'∧own w' (rdevAt b (m.write n s).2::R):=by
 obtain ⟨vf,va,vw,h⟩:=rdev_open H
 have hl1:=hm.n
 obtain ⟨hf1,hf2⟩:=hm.fail
 obtain ⟨hw1,hw2⟩:=hm.writes
 obtain ⟨af,gf,cf,rfl,f1,f2,-,-,-,-,-⟩:=own_row_form 1 h rfl
 by_cases hb : m.bad n s = true
 ·have e : m.write n s = (1,m):=by unfold DevM.write; rw [if_pos hb]
  rw [e]
  obtain ⟨c,f⟩:=own_cells 0 h rfl
  simp only [DevM.bad,Bool.or_eq_true,decide_eq_true_eq] at hb
  by_cases h0 : n < 0
  ·go_enter Tryz.func163,Tryz.ntmps163
   go_wp2_with fail
   all_goals go_ret
   all_goals exact ⟨rfl,Ext.refl _,H⟩
  ·by_cases h1 : (m.fl.length : Int)≤n
   ·go_enter Tryz.func163,Tryz.ntmps163
    go_wp2_with fail
    all_goals go_ret
    all_goals exact ⟨rfl,Ext.refl _,H⟩
   ·have h2 : s.size≠16:=by omega
    clear hb
    go_enter Tryz.func163,Tryz.ntmps163
    go_wp2_with fail
    all_goals go_ret
    all_goals exact ⟨rfl,Ext.refl _,H⟩
 ·have hb':=hb
  simp only [DevM.bad,Bool.or_eq_true,decide_eq_true_eq,not_or] at hb'
  obtain ⟨⟨h0,h1⟩,h2⟩:=hb'
  have h0 : 0≤n:=by omega
  have h1 : n < m.fl.length:=by omega
  have h2 : s.size = 16:=by omega
  by_cases hz : m.fail = 0
  ·have e : m.write n s = (7,{ m with fail:=-1 }):=by unfold DevM.write; rw [if_neg hb,if_pos hz]
   rw [e]
   clear hb
   obtain ⟨c,f⟩:=own_cells 0 h rfl
   go_enter Tryz.func163,Tryz.ntmps163
   go_wp2_with fail
   all_goals go_ret
   all_goals exact ⟨rfl,(Ext.refl _).setCell _ _,rdev_close (m:={ m with fail:=-1 }) (own_set 0 h rfl)⟩
  ·have e : m.write n s = (0,{ m with fail:=if 0 < m.fail then m.fail - 1 else m.fail,pend:=m.pend++[(n,s)],writes:=m.writes + 1 }):=by unfold DevM.write; rw [if_neg hb,if_neg hz]
   rw [e]
   clear hb e
   obtain ⟨aa,ga,ca,rfl,p1,p2,-,-,-,-,-⟩:=own_row_form 2 h rfl
   obtain ⟨aw,gw,cw,rfl,p3,p4,-,-,-,-,-⟩:=own_row_form 3 h rfl
   obtain ⟨c,f⟩:=own_cells 0 h rfl
   have hml : m.pend.length + 1≤maxLen:=by simp only [maxLen]; omega
   by_cases hpos : 0 < m.fail
   all_goals
    first
    | rw [if_pos hpos]
    | rw [if_neg hpos]
    go_enter Tryz.func163,Tryz.ntmps163
    go_upto_region 8 with (fail)
   all_goals first
   | (
    have hyes : 0 < m.fail:=hpos
    have h3:=own_set (i:=2 + 1) (v:=.int .i64 (m.fail - 1)) 0 h rfl
    have hx3:=(Ext.refl w).setCell ⟨b,3,none⟩ (.int .i64 (m.fail - 1))
    generalize w.setCell ⟨b,3,none⟩ (.int .i64 (m.fail - 1)) = w3 at *
    have hF:=Lib.hid (rfl : m.fail - 1 = m.fail - 1))
   | (
    have h3:=h
    obtain ⟨w3,hw3⟩ : ∃w3,w3 = w:=⟨w,rfl⟩
    subst hw3
    have hx3:=Ext.refl w3
    have hF:=Lib.hid (rfl : m.fail = m.fail))
   all_goals
    clear c f
    obtain ⟨c,f⟩:=own_cells 0 h3 rfl
    have ha:=own_alloc h3 (.cells #[.int .i64 n] 3)
    go_wp2_with (first | (at_builtin; refine wpList_append_row rfl _ _ 95 rfl 3 3 Tryz.underlying95 elem_int rfl (by decide) rfl ha rfl (some ⟨w3.heap.size,0,none⟩) 1 1 [.int .i64 n] rfl rfl (alloc_news w3 [.int .i64 n] _) (fun h=>by cases h) (one_int _) hml (by omega) ?_))
    clear c f
    intro v4 w4 h4 hx4
    obtain ⟨a4,g4,c4,rfl,q1,q2,-,-,-,-,-⟩:=own_row_form 3 h4 rfl
    obtain ⟨c,f⟩:=own_cells 1 h4 rfl
    go_upto_region 9 with (fail)
    have h5:=own_drop (own_set (i:=1) (v:=.slice a4 (m.pend.length + 1) c4) 1 h4 rfl)
    have hx5:=((hx3.alloc (.cells #[.int .i64 n] 3)).trans hx4).setCell ⟨b,1,none⟩ (.slice a4 (m.pend.length + 1) c4)
    generalize w4.setCell ⟨b,1,none⟩ (.slice a4 (m.pend.length + 1) c4) = w5 at *
    clear c f h4 ha
    obtain ⟨c,f⟩:=own_cells 0 h5 rfl
    have ha:=own_alloc h5 (.cells #[.string s] 9)
    go_wp2_with (first | (at_builtin; refine wpList_append_row rfl _ _ 51 rfl 4 9 Tryz.underlying51 elem_string rfl (by decide) rfl ha rfl (some ⟨w5.heap.size,0,none⟩) 1 1 [.string s] rfl rfl (alloc_news w5 [.string s] _) (fun h=>by cases h) (one_str _) hml (by omega) ?_))
    clear c f
    intro v6 w6 h6 hx6
    obtain ⟨a6,g6,c6,rfl,q3,q4,-,-,-,-,-⟩:=own_row_form 4 h6 rfl
    obtain ⟨c,f⟩:=own_cells 1 h6 rfl
    go_wp2_with fail
    go_ret
    refine ⟨rfl,?_,?_⟩
    ·exact (((hx5.alloc _).trans hx6).setCell _ _).setCell _ _
    ·have h7:=own_set (i:=2) (v:=.slice a6 (m.pend.length + 1) c6) 1 h6 rfl
     have h8:=own_set (i:=4) (v:=.int .i64 (m.writes + 1)) 1 h7 rfl
     have h9:=own_drop h8
     have ep : (m.pend++[(n,s)]).length = m.pend.length + 1:=by simp
     have ec : intCells (m.pend++[(n,s)]) = intCells m.pend++[.int .i64 n]:=by simp [intCells]
     have ed : whatCells (m.pend++[(n,s)]) = whatCells m.pend++[.string s]:=by simp [whatCells]
     first
     | exact rdev_close (m:={ m with fail:=m.fail - 1,pend:=m.pend++[(n,s)],writes:=m.writes + 1 }) (by dsimp only; rw [ep,ec,ed]; exact h9)
     | exact rdev_close (m:={ m with fail:=m.fail,pend:=m.pend++[(n,s)],writes:=m.writes + 1 }) (by dsimp only; rw [ep,ec,ed]; exact h9)
def rflushInv (b : Nat) (m : DevM) (vf va vw : Value) (R : List SL.HP) (w0 : World) (i : Value) (wr : World) : Prop:=
 ∃q : Nat,q≤m.pend.length∧i = .int .i64 q∧Ext w0 wr∧own wr (pts b (.cells #[vf,va,vw,.int .i64 m.fail,.int .i64 m.writes] 162 (0,0))::row 9 1 vf m.fl.length (strCells ((m.pend.take q).foldl setAt m.fl))::row 3 1 va m.pend.length (intCells m.pend)::row 9 1 vw m.pend.length (whatCells m.pend)::R)
set_option maxRecDepth 100000 in
set_option maxHeartbeats 1000000 in
theorem rdev_flush (b : Nat) (m : DevM) (hm : m.Ok) (R : List SL.HP) (w : World) (H : own w (rdevAt b m::R)) :
  Calls Tryz.prog 164 #[.pointer (some ⟨b,0,none⟩)] w fun e w'=>e = .returned (.tuple #[])∧Ext w w'∧own w' (rdevAt b m.flush::R):=by
 obtain ⟨vf,va,vw,h⟩:=rdev_open H
 have hl1:=hm.n
 have hl2:=hm.p
 obtain ⟨aa,ga,ca,rfl,p1,p2,p3,-,-,-,-⟩:=own_row_form 2 h rfl
 obtain ⟨aw,gw,cw,rfl,p4,p5,p6,-,-,-,-⟩:=own_row_form 3 h rfl
 obtain ⟨af,gf,cf,rfl,f1,f2,f3,-,-,-,-⟩:=own_row_form 1 h rfl
 have P3:=Lib.hid p3
 have P6:=Lib.hid p6
 have F3:=Lib.hid f3
 clear p3 f3 p6
 go_enter Tryz.func164,Tryz.ntmps164
 go_wp2_with fail
 go_loopw [2] (rflushInv b m (.slice af m.fl.length cf) (.slice aa m.pend.length ca) (.slice aw m.pend.length cw) R w) (fun i _=>m.pend.length - (intOf i).toNat)
 case atStart=>exact ⟨0,Nat.zero_le _,rfl,Ext.refl _,h⟩
 case round=>
  clear h H
  obtain ⟨q,hq,rfl,hxr,hown⟩:=hrel
  obtain ⟨c,f⟩:=own_cells 0 hown rfl
  by_cases hlt : q < m.pend.length
  ·obtain rfl:=P3.out (by omega)
   obtain rfl:=P6.out (by omega)
   obtain ⟨x1,x2,x3⟩:=hm.pend _ (pend_mem hlt)
   have c1:=(own_row_cells 2 hown rfl).1 q _ (intCells_get hlt)
   have c2:=(own_row_cells 3 hown rfl).1 q _ (whatCells_get hlt)
   have hto:=take_succ_getD (0,ByteArray.empty) hlt
   have HT:=Lib.hid hto
   clear hto
   generalize hx : m.pend.getD q (0,ByteArray.empty) = x at *
   clear hx
   obtain ⟨n,s⟩:=x
   dsimp only at x1 x2 x3 c1 c2
   obtain ⟨k,rfl⟩:=Int.eq_ofNat_of_zero_le x1
   obtain rfl:=F3.out (by omega)
   obtain ⟨k2,k3⟩:=own_row_cells 1 hown rfl
   have hlen:=foldl_setAt_length (m.pend.take q) m.fl
   generalize hfq : (m.pend.take q).foldl setAt m.fl = fq at *
   have HFQ:=Lib.hid hfq
   clear hfq
   have c3:=k2 k _ (strCells_get (by omega))
   clear k2
   go_upto_region 3 with (fail)
   go_still_tail 18,(by kernel_rfl)
   change wpList _ _ _ _ _ wr.drew
   go_wp2_with fail
   go_roundw
   case rel=>
    have h5:=own_row_set 1 k (.string s) (own_drew hown) rfl (by omega)
    refine ⟨q + 1,by omega,by go_num,hxr.drew.setCell _ _,?_⟩
    rw [HT.out,List.foldl_append,HFQ.out]
    simp only [List.foldl_cons,List.foldl_nil,setAt,Int.toNat_natCast,strCells_set]
    exact h5
   case measure=>simp [intOf]; omega
  ·have hq' : q = m.pend.length:=by omega
   subst hq'
   go_wp2_with fail
   go_end0
   refine ⟨rfl,(hxr.setCell _ _).setCell _ _,?_⟩
   have h5:=own_set (i:=1) (v:=.slice none 0 0) 0 hown rfl
   have h5:=own_set (i:=2) (v:=.slice none 0 0) 0 h5 rfl
   have h6:=own_erase 3 h5 rfl
   have h6:=own_erase 2 h6 rfl
   have h7:=own_behind [_,_] (own_row_nil 9 1 h6)
   have h7:=own_behind [_,_] (own_row_nil 3 1 h7)
   rw [List.take_length] at h7
   refine rdev_close (m:=m.flush) (vf:=.slice af m.fl.length cf) (va:=.slice none 0 0) (vw:=.slice none 0 0) ?_
   simp only [DevM.flush,foldl_setAt_length]
   exact h7
end Go.Proofs.YtbpblokfiajpjabGreatDoor

namespace Go.Proofs.YtbpblokfiajpjabGreatDoor
open Go.RowKit Go.SL
def rnewInv (b : Nat) (n : Nat) (R : List SL.HP) (w0 : World) (i : Value) (wr : World) : Prop:=
 ∃q : Nat,q≤n∧i = .int .i64 q∧Ext w0 wr∧∃ao g cap,q≤cap∧cap≤maxLen∧own wr (pts b (.cells #[.slice ao q cap,.slice none 0 0,.slice none 0 0,.int .i64 (-1),.int .i64 0] 162 (0,0))::row 9 1 (.slice ao q cap) q (strCells (List.replicate q sect0))::R)∧(0 < q→ao = some ⟨g,0,none⟩)
theorem noughts_16 (R : List SL.HP) (w : World) (H : own w R) : Calls Tryz.prog 92 #[.int .i64 16] w fun e w'=>e = .returned (.string sect0)∧Ext w w'∧own w' R:=noughts_any 16 (by decide) R w H
set_option maxRecDepth 100000 in
set_option maxHeartbeats 1000000 in
theorem rdev_new (n : Nat) (R : List SL.HP) (w : World) (hn : n≤200) (H : own w R) : Calls Tryz.prog 64 #[.int .i64 n] w fun e w'=>∃b,e = .returned (.pointer (some ⟨b,0,none⟩))∧Ext w w'∧own w' (rdevAt b (newDev n)::R):=by
 go_enter Tryz.func64,Tryz.ntmps64
 go_upto_region 2 with (fail)
 have ha:=own_alloc H (.cells #[.slice none 0 0,.slice none 0 0,.slice none 0 0,.int .i64 (-1),.int .i64 0] 162)
 have hx1:=(Ext.refl w).alloc (.cells #[.slice none 0 0,.slice none 0 0,.slice none 0 0,.int .i64 (-1),.int .i64 0] 162)
 generalize w.heap.size = b at *
 generalize w.alloc (.cells #[.slice none 0 0,.slice none 0 0,.slice none 0 0,.int .i64 (-1),.int .i64 0] 162) = w1 at *
 have h1:=own_behind [_] (own_row_nil 9 1 ha)
 clear ha
 go_wp2_with fail
 go_loopw [4] (rnewInv b n R w) (fun i _=>n - (intOf i).toNat)
 case atStart=>exact ⟨0,Nat.zero_le _,rfl,hx1,none,0,0,Nat.le_refl _,by simp [maxLen],h1,fun h=>absurd h (by simp)⟩
 case round=>
  clear h1 hx1
  obtain ⟨q,hq,rfl,hxr,ao,g,cap,q1,q2,hown,q3⟩:=hrel
  by_cases hlt : q < n
  ·have hml : q + 1≤maxLen:=by simp only [maxLen]; omega
   clear q3
   go_upto_region 5 with (fail)
   obtain ⟨c,f⟩:=own_cells 0 (own_drew hown) rfl
   go_region_law (first | (refine step_append_row (by rfl) _ _ 51 (by rfl) 2 9 Tryz.underlying51 elem_string rfl (by decide) (by rfl) (own_alloc h2 _) rfl (some ⟨w2.heap.size,0,none⟩) 1 1 [.string sect0] (by rfl) rfl (alloc_news w2 [.string sect0] _) (fun h=>by cases h) (one_str _) hml (by omega) ?_; intro v4 w4 h4 hx4; obtain ⟨a4,g4,c4,rfl,s1,s2,s3,-,-,-,-⟩:=own_row_form 2 h4 rfl; obtain rfl:=s3 (by omega); obtain ⟨cc,ff⟩:=own_cells 1 h4 rfl) | (go_simp; go_at_call 92; refine (noughts_16 _ _ (own_drew hown)).mono ?_; rintro e w2 ⟨rfl,hx2,h2⟩; obtain ⟨c2,f2⟩:=own_cells 0 h2 rfl; have h2a:=own_alloc h2 (.cells #[.string sect0] 9); obtain ⟨c3,f3⟩:=own_cells 1 h2a rfl))
   all_goals
    go_wp2_with fail
    go_roundw
    case rel=>
     have h5:=own_set (i:=0) (v:=.slice (some ⟨g4,0,none⟩) (q + 1) c4) 1 h4 rfl
     refine ⟨q + 1,by omega,by go_num,?_,_,g4,c4,s1,s2,?_,fun _=>rfl⟩
     ·exact (((hxr.drew.trans hx2).alloc _).trans hx4).setCell _ _
     ·have h6:=own_drop h5
      have e : strCells (List.replicate (q + 1) sect0) = strCells (List.replicate q sect0)++[.string sect0]:=by simp [strCells,List.replicate_succ']
      rw [e]
      exact h6
    case measure=>simp [intOf]; omega
  ·have hq' : q = n:=by omega
   subst hq'
   clear q3
   go_wp2_with fail
   go_ret
   refine ⟨b,rfl,hxr,rdev_close (m:=newDev q) (vf:=.slice ao q cap) (va:=.slice none 0 0) (vw:=.slice none 0 0) ?_⟩
   have h5:=own_behind [_,_] (own_row_nil 9 1 hown)
   have h5:=own_behind [_,_] (own_row_nil 3 1 h5)
   simp only [newDev,List.length_replicate]
   exact h5
end Go.Proofs.YtbpblokfiajpjabGreatDoor

namespace Go.Proofs.YtbpblokfiajpjabGreatDoor
open Go.RowKit Go.SL
attribute [local go_sem ↓] Go.wp_at_zero Go.wp_at_succ
set_option maxRecDepth 100000 in
set_option maxHeartbeats 4000000 in
theorem asdev_any (b1 b2 : Nat) (m : DevM) (hm : m.Ok) (R : List SL.HP) (w : World) (H : own w (devAt b1 m::rdevAt b2 m::R)) :
  Calls Tryz.prog 124 #[.pointer (some ⟨b1,0,none⟩),.pointer (some ⟨b2,0,none⟩)] w fun e w'=>e = .returned (.bool true)∧Ext w w'∧own w' (devAt b1 m::rdevAt b2 m::R):=by
 obtain ⟨vf,va,vw,h⟩:=rdev_open (own_behind [_] H)
 have hl1:=hm.n
 obtain ⟨aa,ga,ca,rfl,p1,p2,-,-,-,-,-⟩:=own_row_form 2 h rfl
 obtain ⟨af,gf,cf,rfl,f1,f2,-,-,-,-,-⟩:=own_row_form 1 h rfl
 obtain ⟨c,f⟩:=own_cells 0 h rfl
 have hd:=own_drew h
 go_enter Tryz.func124,Tryz.ntmps124
 go_upto_region 1 with (fail)
 go_region_held3 (fun w'=>w'.cell? ⟨b2,0,none⟩ = some (.slice af m.fl.length cf)∧w'.cell? ⟨b2,1,none⟩ = some (.slice aa m.pend.length ca)∧w'.cell? ⟨b2,4,none⟩ = some (.int .i64 m.writes)) (first | exact ⟨(own_cells 0 hd rfl).1 0,(own_cells 0 hd rfl).1 1,(own_cells 0 hd rfl).1 4⟩ | exact ⟨(own_cells 0 h2 rfl).1 0,(own_cells 0 h2 rfl).1 1,(own_cells 0 h2 rfl).1 4⟩)
  (first | (go_at_call 212; refine (dev_size b1 m _ _ (own_pick 4 hd rfl)).mono ?_; rintro e w' ⟨rfl,rfl⟩) | (go_at_call 213; refine (dev_pending b1 m _ _ (own_pick 4 hd rfl)).mono ?_; rintro e w' ⟨rfl,rfl⟩) | (go_at_call 214; refine (dev_writes b1 m _ _ (own_pick 4 hd rfl)).mono ?_; rintro e w' ⟨rfl,rfl⟩) | (go_at_call 215; refine (dev_bytes b1 m hm _ _ (own_pick 4 hd rfl)).mono ?_; rintro e w2 ⟨rfl,hx2,h2'⟩; have h2:=own_put hd 4 rfl h2') | (go_at_call 216; refine (rdev_bytes b2 m hm _ _ (rdev_close h2)).mono ?_; rintro e w' ⟨rfl,rfl⟩))
 have h3 : own w2 (rdevAt b2 m::devAt b1 m::R):=rdev_close h2
 have h4 : own w2 (devAt b1 m::rdevAt b2 m::R):=own_behind [_] h3
 have hx3 : Ext w w2:=(Ext.refl w).drew.trans hx2
 clear c f
 obtain ⟨c,f⟩:=own_cells 0 h2 rfl
 clear h2 h2' hx2 hd h H
 go_wp2_with fail
 go_loop [5] (fun i=>∃q : Nat,q≤m.fl.length∧i = .int .i64 q) (fun i=>m.fl.length - (intOf i).toNat)
 case atStart=>exact ⟨0,Nat.zero_le _,rfl⟩
 case round=>
  obtain ⟨q,hq,rfl⟩:=hrel
  by_cases hlt : q < m.fl.length
  ·go_wp2_with fail
   refine (dev_read b1 m hm q _ w2 h4).mono ?_
   rintro e w' ⟨rfl,rfl⟩
   rw [if_neg (by omega)]
   go_wp2_with fail
   refine (rdev_seen b2 m hm q (by omega) (by omega) _ w2 h3).mono ?_
   rintro e w' ⟨rfl,rfl⟩
   go_wp2_with fail
   go_round
   case rel=>exact ⟨q + 1,by omega,by go_num⟩
   case measure=>simp [intOf]; omega
  ·go_wp2_with fail
   go_ret
   exact ⟨rfl,hx3,h4⟩
end Go.Proofs.YtbpblokfiajpjabGreatDoor

namespace Go.Proofs.YtbpblokfiajpjabGreatDoor
open Go.RowKit Go.SL Go.Crc
attribute [local go_sem ↓] Go.wp_at_zero Go.wp_at_succ
theorem drop_getD {α : Type} (d : α) {l : List α} {i : Nat} (h : i < l.length) : l.drop i = l.getD i d::l.drop (i + 1):=by
 rw [List.drop_eq_getElem_cons h]; simp [h]
def entCells (l : List Ent) : List Value:=l.flatMap fun e=>[.int .i64 e.1,.int .i64 e.2]
theorem entCells_len (l : List Ent) : (entCells l).length = l.length * 2:=by
 induction l with
 | nil=>rfl
 | cons x l ih=>simp only [entCells,List.flatMap_cons,List.length_append,List.length_cons,List.length_nil] at ih ⊢; omega
theorem entCells_append (l m : List Ent) : entCells (l++m) = entCells l++entCells m:=by simp [entCells]
theorem entCells_get {l : List Ent} : ∀{i : Nat},i < l.length→(entCells l)[i * 2]? = some (.int .i64 (l.getD i (0,0)).1)∧(entCells l)[i * 2 + 1]? = some (.int .i64 (l.getD i (0,0)).2):=by
 induction l with
 | nil=>intro i h; simp at h
 | cons x l ih=>
  intro i h
  cases i with
  | zero=>simp [entCells]
  | succ i=>
   have:=ih (i:=i) (by simpa using h)
   simp only [entCells,List.flatMap_cons] at this ⊢
   have e : (i + 1) * 2 = i * 2 + 2:=by omega
   rw [e]
   simpa using this
theorem elem_entry : Elem Tryz.prog 221 2 16 (.agg #[.int .i64 0,.int .i64 0]):=by unfold Elem; kernel_rfl
theorem StrsAt.cells {w : World} {b off n cap : Nat} {l : List ByteArray} (h : StrsAt w (.slice (some ⟨b,off,none⟩) n cap) l) {i : Nat} (hi : i < l.length) : w.cell? ⟨b,off + i,none⟩ = some (.string (l.getD i ByteArray.empty)):=by
 obtain ⟨⟨ao,b',off',cap',hv,h1,h2,h3,h4⟩,_⟩:=h
 simp only [Value.slice.injEq] at hv
 have h5:=h3 (by omega)
 rw [← hv.1] at h5
 simp only [Option.some.injEq,Addr.mk.injEq,and_true] at h5
 obtain ⟨rfl,rfl⟩:=h5
 exact h4 i hi
end Go.Proofs.YtbpblokfiajpjabGreatDoor
