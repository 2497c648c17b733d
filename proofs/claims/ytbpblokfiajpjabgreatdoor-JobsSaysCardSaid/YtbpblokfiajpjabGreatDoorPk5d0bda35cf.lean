/- An image made: Create (the program's). An image's model opened: what lies on a device is read back. An image opened: Opened (the document's). An image opened: Open (the program's). An image's model: each act keeps it in form, and keeps it such that it is opened behind any crash. An image's model: every act is a step. An image's model made. An image's head; an image held against its model. An image's model: a cluster is filled where the device does not fail, and is read. Lists of numbers that are read; SameNumbers answers whether two are one. A shelf of images: its model, what it is in memory, the program's and the document's. No conditions. -/
import Derived.Test.YtbpblokfiajpjabGreatDoorPkeaee894cf3
import Derived.Test.YtbpblokfiajpjabGreatDoorProg
namespace Go.Proofs.YtbpblokfiajpjabGreatDoor
open Go.RowKit Go.SL Go.Crc
attribute [local go_sem ↓] Go.wp_at_zero Go.wp_at_succ
def putInvL (L : DevM→List HP) (d : DevM) (at_ : Int) (l : List ByteArray) (res : Int×DevM) (w0 : World) (i : Value) (wr : World) : Prop:=
 ∃(k : Nat) (dk : DevM),k≤l.length∧i = .int .i64 k∧dk.puts (at_ + k) (l.drop k) = res∧dk.Ok∧dk.pend.length≤d.pend.length + k∧dk.writes≤d.writes + k∧Ext w0 wr∧own wr (L dk)
theorem row_made {w : World} {L : List HP} (C : Nat) (hC : C≤1000) (H : own w L) :
  own (w.alloc (.cells (madeCells #[.int .i64 0,.int .i64 0] (C * 2)) 221)) (row 221 2 (.slice (some ⟨w.heap.size,0,none⟩) C C) C (entCells (List.replicate C (0,0)))::L):=
 own_row_of 0 (n:=C) (cap:=C) (sz:=2) (xs:=entCells (List.replicate C (0,0))) (own_alloc H (.cells (madeCells #[.int .i64 0,.int .i64 0] (C * 2)) 221)) rfl (Nat.le_refl _) (by simp only [maxLen]; omega) (size_madeCells _ _) (by
  rw [entCells_zero]
  exact List.take_of_length_le (by rw [entCells_len]; simp))
theorem made_img1 {w : World} {L : List HP} (d : DevM) (bd C : Nat) (hC : C≤1000) (p b : Int) (H : own w L) :
  own (((w.alloc (.cells (madeCells #[.int .i64 0,.int .i64 0] (C * 2)) 221)).alloc (.map #[] 0)).alloc (.cells #[.pointer (some ⟨bd,0,none⟩),.int .i64 (C : Int),.int .i64 p,.int .i64 b,.slice (some ⟨w.heap.size,0,none⟩) C C,.map (some (w.heap.size + 1))] 218)) (imgAt (w.heap.size + 1 + 1) bd (w.heap.size + 1) (madeM d C p b)::L):=by
 have h1:=row_made C hC H
 have h2:=held_made h1
 have h3:=own_alloc h2 (.cells #[.pointer (some ⟨bd,0,none⟩),.int .i64 (C : Int),.int .i64 p,.int .i64 b,.slice (some ⟨w.heap.size,0,none⟩) C C,.map (some (w.heap.size + 1))] 218)
 have e1 : (w.alloc (.cells (madeCells #[.int .i64 0,.int .i64 0] (C * 2)) 221)).heap.size = w.heap.size + 1:=by simp
 have e2 : ((w.alloc (.cells (madeCells #[.int .i64 0,.int .i64 0] (C * 2)) 221)).alloc (.map #[] 0)).heap.size = w.heap.size + 1 + 1:=by simp
 rw [e1,e2] at h3
 have h4:=own_behind [_] (own_pick 2 h3 rfl)
 exact img_close (m:=madeM d C p b) (by
  show own _ (pts (w.heap.size + 1 + 1) _::row 221 2 _ (List.replicate C ((0,0) : Ent)).length _::heldAt (w.heap.size + 1) []::L)
  rw [List.length_replicate]
  exact h4)
theorem made_img2 {w : World} {L : List HP} (d : DevM) (bd C : Nat) (hC : C≤1000) (p b : Int) (H : own w L) :
  own (((w.alloc (.map #[] 0)).alloc (.cells (madeCells #[.int .i64 0,.int .i64 0] (C * 2)) 221)).alloc (.cells #[.pointer (some ⟨bd,0,none⟩),.int .i64 (C : Int),.int .i64 p,.int .i64 b,.slice (some ⟨w.heap.size + 1,0,none⟩) C C,.map (some w.heap.size)] 218)) (imgAt (w.heap.size + 1 + 1) bd w.heap.size (madeM d C p b)::L):=by
 have h1:=held_made H
 have h2:=row_made C hC h1
 have h3:=own_alloc h2 (.cells #[.pointer (some ⟨bd,0,none⟩),.int .i64 (C : Int),.int .i64 p,.int .i64 b,.slice (some ⟨w.heap.size + 1,0,none⟩) C C,.map (some w.heap.size)] 218)
 have e1 : (w.alloc (.map #[] 0)).heap.size = w.heap.size + 1:=by simp
 have e2 : ((w.alloc (.map #[] 0)).alloc (.cells (madeCells #[.int .i64 0,.int .i64 0] (C * 2)) 221)).heap.size = w.heap.size + 1 + 1:=by simp
 rw [e1,e2] at h3
 exact img_close (m:=madeM d C p b) (by
  show own _ (pts (w.heap.size + 1 + 1) _::row 221 2 _ (List.replicate C ((0,0) : Ent)).length _::heldAt w.heap.size []::L)
  rw [List.length_replicate]
  exact h3)
theorem rowsL_get {c : Int} {k : Nat} (h : k < rowsN (zeroT c).length) : (rowsL (zeroT c)).drop k = (rowOf (zeroT c) k).1::(rowsL (zeroT c)).drop (k + 1):=by
 rw [List.drop_eq_getElem_cons (by simp [rowsL]; exact h)]
 simp [rowsL]
theorem zero_valid (C : Nat) : ∀e∈zeroT (C : Int),entOk e 40 = true:=fun e he=>by
 unfold zeroT at he
 rw [(List.mem_replicate.1 he).2]; rfl
set_option maxRecDepth 100000 in
set_option maxHeartbeats 8000000 in
theorem create_any (bd : Nat) (d : DevM) (hd : d.Ok) (hp : d.pend.length < 999000) (hw : d.writes < 999000) (c p b : Int) (R : List SL.HP) (w : World) (H : own w (devAt bd d::R)) :
  Calls Tryz.prog 62 #[.pointer (some ⟨bd,0,none⟩),headV c p b] w (MadePost bd (createR d c p b) R w):=by
 have hE : createR d c p b = if fitBad d c p b then (1,madeM d c p b)
  else if (d.puts 1 (rowsL (zeroT c))).1≠0 then ((d.puts 1 (rowsL (zeroT c))).1,madeM (d.puts 1 (rowsL (zeroT c))).2 c p b)
  else if ((d.puts 1 (rowsL (zeroT c))).2.flush.write 0 (headS c p b)).1≠0 then (((d.puts 1 (rowsL (zeroT c))).2.flush.write 0 (headS c p b)).1,madeM ((d.puts 1 (rowsL (zeroT c))).2.flush.write 0 (headS c p b)).2 c p b)
  else (0,madeM ((d.puts 1 (rowsL (zeroT c))).2.flush.write 0 (headS c p b)).2.flush c p b):=rfl
 generalize createR d c p b = S at *
 have HE:=Lib.hid hE
 clear hE
 have ha:=own_alloc H (.cells #[.int .i64 c,.int .i64 p,.int .i64 b] 103)
 have hxa:=(Ext.refl w).alloc (.cells #[.int .i64 c,.int .i64 p,.int .i64 b] 103)
 have HFT:=Lib.hid (fun (R : List SL.HP) (w : World) (H : own w (devAt bd d::R))=>fits_any bd d hd c p b R w H)
 unfold headV at HFT
 unfold headV
 go_enter Tryz.func62,Tryz.ntmps62
 go_upto_region 1 with (fail)
 obtain ⟨cc,ff⟩:=own_cells 0 ha rfl
 generalize w.heap.size = gh at *
 generalize w.alloc (.cells #[.int .i64 c,.int .i64 p,.int .i64 b] 103) = w1 at *
 go_wp2_with fail
 refine (HFT.out _ w1 (own_pick 1 ha rfl)).mono ?_
 rintro e w2 ⟨rfl,hx2,h2⟩
 replace hx2:=hxa.trans hx2
 clear cc ff ha hxa
 by_cases hb : fitBad d c p b
 ·have hS : S = (1,madeM d c p b):=by rw [HE.out,if_pos hb]
  have HS:=Lib.hid hS
  rw [show fitF d c p b = 1 from if_pos hb,show errV 1 = .iface 128 (.int .i64 1) from rfl]
  clear hb hS
  go_wp2_with fail
  go_ret2
  rw [HS.out]
  exact .inl ⟨by simp,rfl,hx2,own_erase 1 h2 rfl⟩
 ·rw [show fitF d c p b = 0 from if_neg hb,errV_0]
  have hhb : ¬headBad c p b:=fun h=>hb (.inl h)
  have hh:=hhb
  unfold headBad at hh
  obtain ⟨C,rfl⟩:=Int.eq_ofNat_of_zero_le (show 0≤c by omega)
  have c1 : 1≤C:=by omega
  have c2 : C≤32:=by omega
  have hE2:=HE.out
  rw [if_neg hb] at hE2
  have hzt : zeroT (C : Int) = List.replicate C (0,0):=rfl
  have hz : (madeCells #[.int .i64 0,.int .i64 0] (C * 2)).toList = entCells (List.replicate C (0,0)):=entCells_zero C
  have hlen : (List.replicate C ((0,0) : Ent)).length = C:=by simp
  have hmk : ∀wx : World,(Instr.makeSlice 150 (.int .i64 (C : Int)) (.int .i64 (C : Int))).run Tryz.prog wx = .ok (.slice (some ⟨wx.heap.size,0,none⟩) C C) (wx.alloc (.cells (madeCells #[.int .i64 0,.int .i64 0] (C * 2)) 221)):=fun wx=>by
   obtain ⟨i,hi,hzz,hs1,hs2⟩:=info_parts elem_entry
   have:=run_makeSlice (P:=Tryz.prog) wx 150 221 i _ Tryz.underlying150 hi hzz .i64 .i64 (C : Int) (C : Int) (by omega) (by omega) (by rw [hs1,Int.toNat_natCast]; omega) (by rw [hs2]; omega) (by omega)
   rw [hs1,Int.toNat_natCast] at this
   exact this
  have hmm:=run_makeMap (P:=Tryz.prog) 216
  have hd1:=own_drew h2
  have HB:=Lib.hid hhb
  have HE2:=Lib.hid hE2
  have HZ:=Lib.hid hz
  clear hb hhb hh hE2 hz hzt hlen
  obtain ⟨cc,ff⟩:=own_cells 1 h2 rfl
  go_upto_region 4 with (fail)
  go_region_held3 (fun w'=>w'.cell? ⟨gh,0,none⟩ = some (.int .i64 (C : Int))∧w'.cell? ⟨gh,1,none⟩ = some (.int .i64 p)∧w'.cell? ⟨gh,2,none⟩ = some (.int .i64 b)) (first | exact ⟨(own_cells 1 hd1 rfl).1 0,(own_cells 1 hd1 rfl).1 1,(own_cells 1 hd1 rfl).1 2⟩ | exact ⟨(own_cells 2 (own_alloc hd1 _) rfl).1 0,(own_cells 2 (own_alloc hd1 _) rfl).1 1,(own_cells 2 (own_alloc hd1 _) rfl).1 2⟩ | exact ⟨(own_cells 3 (own_alloc (own_alloc hd1 _) _) rfl).1 0,(own_cells 3 (own_alloc (own_alloc hd1 _) _) rfl).1 1,(own_cells 3 (own_alloc (own_alloc hd1 _) _) rfl).1 2⟩ | exact ⟨(own_cells 4 (own_alloc (own_alloc (own_alloc hd1 _) _) _) rfl).1 0,(own_cells 4 (own_alloc (own_alloc (own_alloc hd1 _) _) _) rfl).1 1,(own_cells 4 (own_alloc (own_alloc (own_alloc hd1 _) _) _) rfl).1 2⟩) (fail)
  ·
   have h4:=own_drew (made_img1 d bd C (by omega) p b h2)
   have hx4:=(((hx2.alloc (.cells (madeCells #[.int .i64 0,.int .i64 0] (C * 2)) 221)).alloc (.map #[] 0)).alloc (.cells #[.pointer (some ⟨bd,0,none⟩),.int .i64 (C : Int),.int .i64 p,.int .i64 b,.slice (some ⟨w2.heap.size,0,none⟩) C C,.map (some (w2.heap.size + 1))] 218)).drew
   generalize (((w2.alloc (.cells (madeCells #[.int .i64 0,.int .i64 0] (C * 2)) 221)).alloc (.map #[] 0)).alloc (.cells #[.pointer (some ⟨bd,0,none⟩),.int .i64 (C : Int),.int .i64 p,.int .i64 b,.slice (some ⟨w2.heap.size,0,none⟩) C C,.map (some (w2.heap.size + 1))] 218)).drew = w4 at h4 hx4 ⊢
   generalize w2.heap.size + 1 + 1 = bi at *
   generalize w2.heap.size + 1 = bh at *
   obtain ⟨cc,ff⟩:=own_cells 2 h4 rfl
   have hlz : (zeroT (C : Int)).length = C:=by simp [zeroT]
   have hrz : rowsN (zeroT (C : Int)).length = rowsN C:=by rw [hlz]
   have hrn : rowsN C≤4:=by unfold rowsN; omega
   have hll : (rowsL (zeroT (C : Int))).length = rowsN C:=by simp [rowsL,hlz]
   have HGET:=Lib.hid (fun (k : Nat) (h : k < rowsN C)=>rowsL_get (c:=(C : Int)) (k:=k) (by rw [hlz]; exact h))
   have HEND:=Lib.hid (show (rowsL (zeroT (C : Int))).drop (rowsN C) = [] from List.drop_of_length_le (by omega))
   have HOK:=Lib.hid (fun (k : Nat) (h : k < rowsN C)=>rowOf_valid (t:=zeroT (C : Int)) (r:=k) (by rw [hlz]; omega) (by rw [hlz]; exact h) (zero_valid C))
   have HRW:=Lib.hid (rows_any C (by omega))
   have hpo:=puts_ok (l:=rowsL (zeroT (C : Int))) (d:=d) (a:=1) hd (by omega) (by omega)
   have hpn:=puts_nonneg (l:=rowsL (zeroT (C : Int))) (d:=d) (a:=1)
   rw [hll] at hpo
   have HIR:=Lib.hid (fun (dk : DevM) (okd : dk.Ok) (hw : dk.writes < 1000000) (hp : dk.pend.length < 1000000) (k : Nat) (hk : k < rowsN C) (R : List SL.HP) (w : World) (H : own w (imgAt bi bd bh (madeM d C p b)::devAt bd dk::R))=>
    imgrow_any bi bd bh (madeM dk C p b) okd (show (zeroT (C : Int)).length≤1000 by rw [hlz]; omega) hw hp k (by omega) (HOK.out k hk) R w H)
   have HE3:=HE2.out
   generalize hrl : rowsL (zeroT (C : Int)) = RL at *
   generalize hres : d.puts 1 RL = res at *
   have HRES:=Lib.hid hres
   have HE4:=Lib.hid HE3
   generalize hN : rowsN C = N at *
   obtain ⟨o1,o2,o3,o4⟩:=hpo
   clear HE3 hlz hrz HE2 HE hd1 hmk hmm hres hrl HZ
   go_wp2_with fail
   refine (HRW.out w4).mono ?_
   rintro e w' ⟨rfl,rfl⟩
   go_wp2_with fail
   go_loopw [27] (putInvL (fun dk=>imgAt bi bd bh (madeM d C p b)::devAt bd dk::pts gh (.cells #[.int .i64 C,.int .i64 p,.int .i64 b] 103 (0,0))::R) d 1 RL res w) (fun i _=>N - (intOf i).toNat)
   case atStart=>exact ⟨0,d,by omega,rfl,by simpa using HRES.out,hd,by omega,by simp,hx4,h4⟩
   case round=>
    clear cc ff
    obtain ⟨k,dk,hk,rfl,hput,okd,hpk,hwk,hxr,hown⟩:=hrel
    rw [hll] at hk
    by_cases hlt : k < N
    ·rw [HGET.out k hlt] at hput
     have HPUT:=Lib.hid hput
     clear hput
     have e1 : IntKind.i64.wrap ((k : Int) + 1) = (k : Int) + 1:=IntWalk.i64_in _ (by omega)
     have hkN : (k : Int) < (N : Int):=by omega
     have HW:=Lib.hid (HIR.out dk okd (by omega) (by omega) k hlt)
     have hcode:=write_nonneg dk (1 + (k : Int)) (rowOf (zeroT (C : Int)) k).1
     obtain ⟨l1,l2,l3⟩:=write_lens dk (1 + (k : Int)) (rowOf (zeroT (C : Int)) k).1
     have okw:=DevM.write_ok okd (1 + (k : Int)) (rowOf (zeroT (C : Int)) k).1 (by omega) (by omega)
     have hstep : dk.puts (1 + (k : Int)) ((rowOf (zeroT (C : Int)) k).1::RL.drop (k + 1)) = if (dk.write (1 + (k : Int)) (rowOf (zeroT (C : Int)) k).1).1≠0 then dk.write (1 + (k : Int)) (rowOf (zeroT (C : Int)) k).1 else (dk.write (1 + (k : Int)) (rowOf (zeroT (C : Int)) k).1).2.puts (1 + (k : Int) + 1) (RL.drop (k + 1)):=rfl
     rw [HPUT.out] at hstep
     have HSTP:=Lib.hid hstep
     clear hstep l1
     change Hid (∀(R : List SL.HP) (w : World),own w (imgAt bi bd bh (madeM d C p b)::devAt bd dk::R)→Calls Tryz.prog 157 #[.pointer (some ⟨bi,0,none⟩),.int .i64 k] w fun e w'=>e = .returned (errV (dk.write (1 + (k : Int)) (rowOf (zeroT (C : Int)) k).1).1)∧Ext w w'∧own w' (imgAt bi bd bh (madeM d C p b)::devAt bd (dk.write (1 + (k : Int)) (rowOf (zeroT (C : Int)) k).1).2::R)) at HW
     generalize dk.write (1 + (k : Int)) (rowOf (zeroT (C : Int)) k).1 = r at *
     clear HIR HGET HOK
     go_wp2_with fail
     refine (HW.out _ wr hown).mono ?_
     rintro e w5 ⟨rfl,hx5',h5⟩
     have hx5:=hxr.trans hx5'
     clear hx5' hown hxr
     by_cases hz : r.1 = 0
     ·have HZ:=Lib.hid hz
      rw [hz,errV_0]
      clear hz
      go_wp2_with fail
      go_roundw
      case rel=>exact ⟨k + 1,r.2,by rw [hll]; omega,by go_num,by have:=HSTP.out; rw [if_neg (by simpa using HZ.out)] at this; rw [this]; congr 1 <;> omega,okw,by omega,by omega,hx5,h5⟩
      case measure=>simp [intOf]; omega
     ·have hfin : res = r:=by have:=HSTP.out; rw [if_pos hz] at this; exact this
      have hS2 : S = (r.1,madeM r.2 C p b):=by rw [HE4.out,hfin,if_pos hz]
      have HF:=Lib.hid hS2
      have hpz : 0 < r.1:=by omega
      have HPE:=Lib.hid (errV_pos hpz)
      rw [errV_pos hpz]
      clear hz hfin hS2
      go_wp2_with fail
      go_ret2
      rw [HF.out]
      exact .inl ⟨by dsimp only; omega,by dsimp only; rw [HPE.out]; rfl,hx5,own_erase 1 (own_erase 0 h5 rfl) rfl⟩
    ·have hke : k = N:=by omega
     subst hke
     rw [HEND.out,DevM.puts] at hput
     have hr0 : res.1 = 0:=by rw [← hput]
     have hr2 : res.2 = dk:=by rw [← hput]
     have hS2:=HE4.out
     rw [if_neg (by simpa using hr0),hr2] at hS2
     have HF:=Lib.hid hS2
     clear hput hlt hS2 hr0 hr2
     have HFL:=Lib.hid (fun (R : List SL.HP) (w : World) (H : own w (devAt bd dk::R))=>dev_flush bd dk okd R w H)
     have okf:=DevM.flush_ok okd
     have hpl : dk.flush.pend.length = 0:=rfl
     have hwl : dk.flush.writes = dk.writes:=rfl
     have hhs : (headS C p b).size = 16:=seal_size (by simp)
     have HWR:=Lib.hid (fun (R : List SL.HP) (w : World) (H : own w (devAt bd dk.flush::R))=>dev_write bd dk.flush okf 0 (headS C p b) (by omega) (by omega) (by omega) R w H)
     have hcode:=write_nonneg dk.flush 0 (headS C p b)
     have okw:=DevM.write_ok okf 0 (headS C p b) (by omega) (by omega)
     generalize dk.flush = df at *
     have HHD:=Lib.hid (fun (R : List SL.HP) (w : World) (H : own w R)=>head_any C p b R w H)
     rw [show headF C p b = 0 from if_neg HB.out,if_pos rfl,errV_0] at HHD
     unfold headV at HHD
     generalize headS C p b = hs at *
     generalize df.write 0 hs = r at *
     clear HIR HGET HOK
     go_wp2_with fail
     refine (HFL.out _ wr (own_pick 1 hown rfl)).mono ?_
     rintro e w5 ⟨rfl,hx5,h5'⟩
     have h5:=own_put hown 1 rfl h5'
     obtain ⟨cc,ff⟩:=own_cells 2 h5 rfl
     go_wp2_with fail
     refine (HHD.out _ w5 h5).mono ?_
     rintro e w6 ⟨rfl,hx6,h6⟩
     clear cc ff
     go_wp2_with fail
     refine (HWR.out _ w6 (own_pick 1 h6 rfl)).mono ?_
     rintro e w7 ⟨rfl,hx7,h7'⟩
     have h7:=own_put h6 1 rfl h7'
     have hx7f:=((hxr.trans hx5).trans hx6).trans hx7
     by_cases hz : r.1 = 0
     ·have hS2:=HF.out
      rw [if_neg (by simpa using hz)] at hS2
      have HS2:=Lib.hid hS2
      have HFL2:=Lib.hid (fun (R : List SL.HP) (w : World) (H : own w (devAt bd r.2::R))=>dev_flush bd r.2 okw R w H)
      rw [hz,errV_0]
      clear hz hS2
      go_wp2_with fail
      refine (HFL2.out _ w7 (own_pick 1 h7 rfl)).mono ?_
      rintro e w8 ⟨rfl,hx8,h8'⟩
      have h8:=own_put h7 1 rfl h8'
      go_wp2_with fail
      go_ret2
      rw [HS2.out]
      exact .inr ⟨rfl,bi,bh,rfl,hx7f.trans hx8,own_erase 2 h8 rfl⟩
     ·have hS2:=HF.out
      rw [if_pos hz] at hS2
      have HS2:=Lib.hid hS2
      have hpz : 0 < r.1:=by omega
      have HPE:=Lib.hid (errV_pos hpz)
      rw [errV_pos hpz]
      clear hz hS2
      go_wp2_with fail
      go_ret2
      rw [HS2.out]
      exact .inl ⟨by dsimp only; omega,by dsimp only; rw [HPE.out]; rfl,hx7f,own_erase 1 (own_erase 0 h7 rfl) rfl⟩
  ·
   have h4:=own_drew (made_img2 d bd C (by omega) p b h2)
   have hx4:=(((hx2.alloc (.map #[] 0)).alloc (.cells (madeCells #[.int .i64 0,.int .i64 0] (C * 2)) 221)).alloc (.cells #[.pointer (some ⟨bd,0,none⟩),.int .i64 (C : Int),.int .i64 p,.int .i64 b,.slice (some ⟨w2.heap.size + 1,0,none⟩) C C,.map (some w2.heap.size)] 218)).drew
   generalize (((w2.alloc (.map #[] 0)).alloc (.cells (madeCells #[.int .i64 0,.int .i64 0] (C * 2)) 221)).alloc (.cells #[.pointer (some ⟨bd,0,none⟩),.int .i64 (C : Int),.int .i64 p,.int .i64 b,.slice (some ⟨w2.heap.size + 1,0,none⟩) C C,.map (some w2.heap.size)] 218)).drew = w4 at h4 hx4 ⊢
   generalize w2.heap.size + 1 + 1 = bi at *
   generalize w2.heap.size = bh at *
   obtain ⟨cc,ff⟩:=own_cells 2 h4 rfl
   have hlz : (zeroT (C : Int)).length = C:=by simp [zeroT]
   have hrz : rowsN (zeroT (C : Int)).length = rowsN C:=by rw [hlz]
   have hrn : rowsN C≤4:=by unfold rowsN; omega
   have hll : (rowsL (zeroT (C : Int))).length = rowsN C:=by simp [rowsL,hlz]
   have HGET:=Lib.hid (fun (k : Nat) (h : k < rowsN C)=>rowsL_get (c:=(C : Int)) (k:=k) (by rw [hlz]; exact h))
   have HEND:=Lib.hid (show (rowsL (zeroT (C : Int))).drop (rowsN C) = [] from List.drop_of_length_le (by omega))
   have HOK:=Lib.hid (fun (k : Nat) (h : k < rowsN C)=>rowOf_valid (t:=zeroT (C : Int)) (r:=k) (by rw [hlz]; omega) (by rw [hlz]; exact h) (zero_valid C))
   have HRW:=Lib.hid (rows_any C (by omega))
   have hpo:=puts_ok (l:=rowsL (zeroT (C : Int))) (d:=d) (a:=1) hd (by omega) (by omega)
   have hpn:=puts_nonneg (l:=rowsL (zeroT (C : Int))) (d:=d) (a:=1)
   rw [hll] at hpo
   have HIR:=Lib.hid (fun (dk : DevM) (okd : dk.Ok) (hw : dk.writes < 1000000) (hp : dk.pend.length < 1000000) (k : Nat) (hk : k < rowsN C) (R : List SL.HP) (w : World) (H : own w (imgAt bi bd bh (madeM d C p b)::devAt bd dk::R))=>
    imgrow_any bi bd bh (madeM dk C p b) okd (show (zeroT (C : Int)).length≤1000 by rw [hlz]; omega) hw hp k (by omega) (HOK.out k hk) R w H)
   have HE3:=HE2.out
   generalize hrl : rowsL (zeroT (C : Int)) = RL at *
   generalize hres : d.puts 1 RL = res at *
   have HRES:=Lib.hid hres
   have HE4:=Lib.hid HE3
   generalize hN : rowsN C = N at *
   obtain ⟨o1,o2,o3,o4⟩:=hpo
   clear HE3 hlz hrz HE2 HE hd1 hmk hmm hres hrl HZ
   go_wp2_with fail
   refine (HRW.out w4).mono ?_
   rintro e w' ⟨rfl,rfl⟩
   go_wp2_with fail
   go_loopw [27] (putInvL (fun dk=>imgAt bi bd bh (madeM d C p b)::devAt bd dk::pts gh (.cells #[.int .i64 C,.int .i64 p,.int .i64 b] 103 (0,0))::R) d 1 RL res w) (fun i _=>N - (intOf i).toNat)
   case atStart=>exact ⟨0,d,by omega,rfl,by simpa using HRES.out,hd,by omega,by simp,hx4,h4⟩
   case round=>
    clear cc ff
    obtain ⟨k,dk,hk,rfl,hput,okd,hpk,hwk,hxr,hown⟩:=hrel
    rw [hll] at hk
    by_cases hlt : k < N
    ·rw [HGET.out k hlt] at hput
     have HPUT:=Lib.hid hput
     clear hput
     have e1 : IntKind.i64.wrap ((k : Int) + 1) = (k : Int) + 1:=IntWalk.i64_in _ (by omega)
     have hkN : (k : Int) < (N : Int):=by omega
     have HW:=Lib.hid (HIR.out dk okd (by omega) (by omega) k hlt)
     have hcode:=write_nonneg dk (1 + (k : Int)) (rowOf (zeroT (C : Int)) k).1
     obtain ⟨l1,l2,l3⟩:=write_lens dk (1 + (k : Int)) (rowOf (zeroT (C : Int)) k).1
     have okw:=DevM.write_ok okd (1 + (k : Int)) (rowOf (zeroT (C : Int)) k).1 (by omega) (by omega)
     have hstep : dk.puts (1 + (k : Int)) ((rowOf (zeroT (C : Int)) k).1::RL.drop (k + 1)) = if (dk.write (1 + (k : Int)) (rowOf (zeroT (C : Int)) k).1).1≠0 then dk.write (1 + (k : Int)) (rowOf (zeroT (C : Int)) k).1 else (dk.write (1 + (k : Int)) (rowOf (zeroT (C : Int)) k).1).2.puts (1 + (k : Int) + 1) (RL.drop (k + 1)):=rfl
     rw [HPUT.out] at hstep
     have HSTP:=Lib.hid hstep
     clear hstep l1
     change Hid (∀(R : List SL.HP) (w : World),own w (imgAt bi bd bh (madeM d C p b)::devAt bd dk::R)→Calls Tryz.prog 157 #[.pointer (some ⟨bi,0,none⟩),.int .i64 k] w fun e w'=>e = .returned (errV (dk.write (1 + (k : Int)) (rowOf (zeroT (C : Int)) k).1).1)∧Ext w w'∧own w' (imgAt bi bd bh (madeM d C p b)::devAt bd (dk.write (1 + (k : Int)) (rowOf (zeroT (C : Int)) k).1).2::R)) at HW
     generalize dk.write (1 + (k : Int)) (rowOf (zeroT (C : Int)) k).1 = r at *
     clear HIR HGET HOK
     go_wp2_with fail
     refine (HW.out _ wr hown).mono ?_
     rintro e w5 ⟨rfl,hx5',h5⟩
     have hx5:=hxr.trans hx5'
     clear hx5' hown hxr
     by_cases hz : r.1 = 0
     ·have HZ:=Lib.hid hz
      rw [hz,errV_0]
      clear hz
      go_wp2_with fail
      go_roundw
      case rel=>exact ⟨k + 1,r.2,by rw [hll]; omega,by go_num,by have:=HSTP.out; rw [if_neg (by simpa using HZ.out)] at this; rw [this]; congr 1 <;> omega,okw,by omega,by omega,hx5,h5⟩
      case measure=>simp [intOf]; omega
     ·have hfin : res = r:=by have:=HSTP.out; rw [if_pos hz] at this; exact this
      have hS2 : S = (r.1,madeM r.2 C p b):=by rw [HE4.out,hfin,if_pos hz]
      have HF:=Lib.hid hS2
      have hpz : 0 < r.1:=by omega
      have HPE:=Lib.hid (errV_pos hpz)
      rw [errV_pos hpz]
      clear hz hfin hS2
      go_wp2_with fail
      go_ret2
      rw [HF.out]
      exact .inl ⟨by dsimp only; omega,by dsimp only; rw [HPE.out]; rfl,hx5,own_erase 1 (own_erase 0 h5 rfl) rfl⟩
    ·have hke : k = N:=by omega
     subst hke
     rw [HEND.out,DevM.puts] at hput
     have hr0 : res.1 = 0:=by rw [← hput]
     have hr2 : res.2 = dk:=by rw [← hput]
     have hS2:=HE4.out
     rw [if_neg (by simpa using hr0),hr2] at hS2
     have HF:=Lib.hid hS2
     clear hput hlt hS2 hr0 hr2
     have HFL:=Lib.hid (fun (R : List SL.HP) (w : World) (H : own w (devAt bd dk::R))=>dev_flush bd dk okd R w H)
     have okf:=DevM.flush_ok okd
     have hpl : dk.flush.pend.length = 0:=rfl
     have hwl : dk.flush.writes = dk.writes:=rfl
     have hhs : (headS C p b).size = 16:=seal_size (by simp)
     have HWR:=Lib.hid (fun (R : List SL.HP) (w : World) (H : own w (devAt bd dk.flush::R))=>dev_write bd dk.flush okf 0 (headS C p b) (by omega) (by omega) (by omega) R w H)
     have hcode:=write_nonneg dk.flush 0 (headS C p b)
     have okw:=DevM.write_ok okf 0 (headS C p b) (by omega) (by omega)
     generalize dk.flush = df at *
     have HHD:=Lib.hid (fun (R : List SL.HP) (w : World) (H : own w R)=>head_any C p b R w H)
     rw [show headF C p b = 0 from if_neg HB.out,if_pos rfl,errV_0] at HHD
     unfold headV at HHD
     generalize headS C p b = hs at *
     generalize df.write 0 hs = r at *
     clear HIR HGET HOK
     go_wp2_with fail
     refine (HFL.out _ wr (own_pick 1 hown rfl)).mono ?_
     rintro e w5 ⟨rfl,hx5,h5'⟩
     have h5:=own_put hown 1 rfl h5'
     obtain ⟨cc,ff⟩:=own_cells 2 h5 rfl
     go_wp2_with fail
     refine (HHD.out _ w5 h5).mono ?_
     rintro e w6 ⟨rfl,hx6,h6⟩
     clear cc ff
     go_wp2_with fail
     refine (HWR.out _ w6 (own_pick 1 h6 rfl)).mono ?_
     rintro e w7 ⟨rfl,hx7,h7'⟩
     have h7:=own_put h6 1 rfl h7'
     have hx7f:=((hxr.trans hx5).trans hx6).trans hx7
     by_cases hz : r.1 = 0
     ·have hS2:=HF.out
      rw [if_neg (by simpa using hz)] at hS2
      have HS2:=Lib.hid hS2
      have HFL2:=Lib.hid (fun (R : List SL.HP) (w : World) (H : own w (devAt bd r.2::R))=>dev_flush bd r.2 okw R w H)
      rw [hz,errV_0]
      clear hz hS2
      go_wp2_with fail
      refine (HFL2.out _ w7 (own_pick 1 h7 rfl)).mono ?_
      rintro e w8 ⟨rfl,hx8,h8'⟩
      have h8:=own_put h7 1 rfl h8'
      go_wp2_with fail
      go_ret2
      rw [HS2.out]
      exact .inr ⟨rfl,bi,bh,rfl,hx7f.trans hx8,own_erase 2 h8 rfl⟩
     ·have hS2:=HF.out
      rw [if_pos hz] at hS2
      have HS2:=Lib.hid hS2
      have hpz : 0 < r.1:=by omega
      have HPE:=Lib.hid (errV_pos hpz)
      rw [errV_pos hpz]
      clear hz hS2
      go_wp2_with fail
      go_ret2
      rw [HS2.out]
      exact .inl ⟨by dsimp only; omega,by dsimp only; rw [HPE.out]; rfl,hx7f,own_erase 1 (own_erase 0 h7 rfl) rfl⟩
end Go.Proofs.YtbpblokfiajpjabGreatDoor

namespace Go.Proofs.YtbpblokfiajpjabGreatDoor
open Go.RowKit Go.SL Go.Crc
theorem ent_get {t : List Ent} {k : Nat} (h : k < t.length) : ent t k = t[k]:=by simp [ent,h]
theorem ent_mem {t : List Ent} {k : Nat} (h : k < t.length) : ent t k∈t:=by rw [ent_get h]; exact List.getElem_mem h
theorem ent_out {t : List Ent} {k : Nat} (h : t.length≤k) : ent t k = (0,0):=by simp [ent,h]
def Uniq (t : List Ent) : Prop:=∀i j : Nat,i < t.length→j < t.length→(ent t i).1 = 2→ent t i = ent t j→i = j
def rowBytes (t : List Ent) (r : Nat) : ByteArray:=strOfNums (entNums (rowEnts t r))
theorem rowEnts_valid {P : Int} (hP : P≤40) {t : List Ent} (hv : ∀e∈t,entOk e P = true) (r : Nat) : ∀e∈rowEnts t r,entOk e 40 = true:=by
 intro e he
 simp only [rowEnts,List.mem_map,List.mem_range] at he
 obtain ⟨k,hk,rfl⟩:=he
 by_cases h : 8 * r + k < t.length
 ·exact entOk_mono (hv _ (ent_mem h)) hP
 ·rw [show t.getD (8 * r + k) (0,0) = (0,0) from ent_out (by omega)]
  rfl
theorem rowOf_is {P : Int} (hP : P≤40) {t : List Ent} (hl : t.length≤32) (hv : ∀e∈t,entOk e P = true) {r : Nat} (hr : r < rowsN t.length) : rowOf t (r : Int) = (rowBytes t r,0):=by
 refine rowOf_ok (by unfold rowOut; omega) fun k hk=>rowEnts_valid hP hv r _ ?_
 simp only [rowEnts,List.mem_map,List.mem_range]
 exact ⟨k,hk,rfl⟩
def RMadePost (bd : Nat) (S : Int×ImgM) (R : List SL.HP) (w : World) (e : Ending) (w' : World) : Prop:=
 (S.1≠0∧e = .returned (.tuple #[.pointer none,.int .i64 S.1])∧Ext w w'∧own w' (rdevAt bd S.2.d::R))∨
 (S.1 = 0∧∃bi,e = .returned (.tuple #[.pointer (some ⟨bi,0,none⟩),.int .i64 0])∧Ext w w'∧own w' (rimgAt bi bd S.2::rdevAt bd S.2.d::R))
end Go.Proofs.YtbpblokfiajpjabGreatDoor

namespace Go.Proofs.YtbpblokfiajpjabGreatDoor
open Go.RowKit Go.SL Go.Crc
attribute [local go_sem ↓] Go.wp_at_zero Go.wp_at_succ
end Go.Proofs.YtbpblokfiajpjabGreatDoor

namespace Go.Proofs.YtbpblokfiajpjabGreatDoor
open Go.RowKit Go.SL Go.Crc
attribute [local go_sem ↓] Go.wp_at_zero Go.wp_at_succ
end Go.Proofs.YtbpblokfiajpjabGreatDoor

namespace Go.Proofs.YtbpblokfiajpjabGreatDoor
open Go.RowKit Go.SL Go.Crc
theorem DevM.write_cases (d : DevM) (a : Int) (s : ByteArray) :
  ((d.write a s).1 = 0∧(d.write a s).2.pend = d.pend++[(a,s)]∧(d.write a s).2.fl = d.fl)∨((d.write a s).1≠0∧(d.write a s).2.pend = d.pend∧(d.write a s).2.fl = d.fl):=by
 unfold DevM.write
 split
 ·exact .inr ⟨by simp,rfl,rfl⟩
 ·split
  ·exact .inr ⟨by simp,rfl,rfl⟩
  ·exact .inl ⟨rfl,rfl,rfl⟩
theorem DevM.puts_cases : ∀(l : List ByteArray) (d : DevM) (a : Int),(d.puts a l).2.fl = d.fl∧∃q,(d.puts a l).2.pend = d.pend++q∧(∀x∈q,a≤x.1∧x.1 < a + l.length)∧
  (∃j,j≤l.length∧q = (List.range j).map (fun (i : Nat)=>(a + (i : Int),l.getD i ByteArray.empty))∧((d.puts a l).1 = 0→j = l.length)):=by
 intro l
 induction l with
 | nil=>intro d a; exact ⟨rfl,[],by simp [DevM.puts],by simp,0,by simp,rfl,fun _=>rfl⟩
 | cons s l ih=>
  intro d a
  rw [DevM.puts]
  rcases DevM.write_cases d a s with ⟨h1,h2,h3⟩ | ⟨h1,h2,h3⟩
  ·rw [if_neg (by simpa using h1)]
   obtain ⟨i1,q,i2,i3,j,j1,j2,j3⟩:=ih (d.write a s).2 (a + 1)
   refine ⟨i1.trans h3,(a,s)::q,by rw [i2,h2]; simp,fun x hx=>?_,j + 1,by simpa using j1,?_,fun h=>by simpa using j3 h⟩
   ·simp only [List.length_cons]
    rcases List.mem_cons.1 hx with rfl | hx
    ·dsimp only; omega
    ·have:=i3 x hx; omega
   ·rw [List.range_succ_eq_map,List.map_cons,List.map_map,j2]
    simp only [List.getD_cons_zero,Function.comp_def,List.getD_cons_succ]
    congr 1
    ·simp
    ·exact List.map_congr_left fun i _=>by simp; omega
  ·rw [if_pos h1]
   exact ⟨h3,[],by rw [h2]; simp,by simp,0,by simp,rfl,fun h=>absurd h h1⟩
theorem foldl_setAt_getD {p : List (Int×ByteArray)} : ∀{f : List ByteArray} {i : Nat},(∀x∈p,0≤x.1)→i < f.length→
  (p.foldl setAt f).getD i ByteArray.empty = p.foldl (fun s x=>if x.1 = (i : Int) then x.2 else s) (f.getD i ByteArray.empty):=by
 induction p with
 | nil=>intro f i _ _; rfl
 | cons x p ih=>
  intro f i hx hi
  rw [List.foldl_cons,List.foldl_cons,ih (fun y hy=>hx y (by simp [hy])) (by simpa [setAt] using hi)]
  congr 1
  have h0:=hx x (by simp)
  unfold setAt
  by_cases h : x.1 = (i : Int)
  ·rw [if_pos h,show x.1.toNat = i by omega,List.getD_eq_getElem?_getD,List.getElem?_set_self hi]
   rfl
  ·rw [if_neg h,List.getD_eq_getElem?_getD,List.getElem?_set_ne (by omega),List.getD_eq_getElem?_getD]
theorem seen_none {d : DevM} {a : Int} (h : ∀x∈d.pend,x.1≠a) : d.seen a = d.fl.getD a.toNat ByteArray.empty:=by
 unfold DevM.seen
 generalize d.fl.getD a.toNat ByteArray.empty = s
 generalize d.pend = p at h
 induction p with
 | nil=>rfl
 | cons x p ih=>rw [List.foldl_cons,if_neg (h x (by simp))]; exact ih fun y hy=>h y (by simp [hy])
theorem seen_add {d d' : DevM} {q : List (Int×ByteArray)} (hf : d'.fl = d.fl) (hp : d'.pend = d.pend++q) (a : Int) : d'.seen a = q.foldl (fun s x=>if x.1 = a then x.2 else s) (d.seen a):=by
 unfold DevM.seen
 rw [hf,hp,List.foldl_append]
theorem seen_same {d d' : DevM} {q : List (Int×ByteArray)} (hf : d'.fl = d.fl) (hp : d'.pend = d.pend++q) {a : Int} (h : ∀x∈q,x.1≠a) : d'.seen a = d.seen a:=by
 rw [seen_add hf hp]
 generalize d.seen a = s
 clear hp
 induction q with
 | nil=>rfl
 | cons x q ih=>rw [List.foldl_cons,if_neg (h x (by simp))]; exact ih fun y hy=>h y (by simp [hy])
theorem flush_fl {d : DevM} (hd : d.Ok) {i : Nat} (hi : i < d.fl.length) : d.flush.fl.getD i ByteArray.empty = d.seen (i : Int):=by
 unfold DevM.flush
 dsimp only
 rw [foldl_setAt_getD (fun x hx=>(hd.pend x hx).1) hi]
 rfl
theorem flush_seen {d : DevM} (hd : d.Ok) {i : Nat} (hi : i < d.fl.length) : d.flush.seen (i : Int) = d.seen (i : Int):=by
 rw [seen_none (d:=d.flush) (fun x hx=>by cases hx),Int.toNat_natCast,flush_fl hd hi]
def Sub (P : Int) (u t : List Ent) : Prop:=t.length = u.length∧∀k,k < u.length→entOk (ent t k) P = true∧((ent t k).1 = 2→ent t k = ent u k)
theorem Sub.ents {P : Int} {u t : List Ent} (h : Sub P u t) : ∀e∈t,entOk e P = true:=fun e he=>by
 obtain ⟨k,hk,rfl⟩:=List.getElem_of_mem he
 rw [← ent_get hk]
 exact (h.2 k (by rw [← h.1]; exact hk)).1
theorem Sub.self {P : Int} {t : List Ent} (h : ∀e∈t,entOk e P = true) : Sub P t t:=⟨rfl,fun k hk=>⟨h _ (ent_mem hk),fun _=>rfl⟩⟩
theorem Sub.mono {P : Int} {u u' t : List Ent} (h : Sub P u t) (hl : u'.length = u.length) (hu : ∀k,k < u.length→(ent t k).1 = 2→ent u' k = ent u k) : Sub P u' t:=
 ⟨h.1.trans hl.symm,fun k hk=>⟨(h.2 k (by omega)).1,fun h2=>((h.2 k (by omega)).2 h2).trans (hu k (by omega) h2).symm⟩⟩
structure Safe (m : ImgM) (u : List Ent) : Prop where
 ulen : u.length = m.t.length
 uok : ∀e∈u,entOk e m.p = true
 uuniq : Uniq u
 hd : m.d.fl.getD 0 ByteArray.empty = headS m.c m.p m.b
 nohd : ∀x∈m.d.pend,x.1≠0
 rows : ∀r : Nat,r < rowsN m.t.length→∀s,(s = m.d.fl.getD (1 + r) ByteArray.empty∨(1 + (r : Int),s)∈m.d.pend)→∃t',Sub m.p u t'∧s = rowBytes t' r
 cur : Sub m.p u m.t
 see : ∀r : Nat,r < rowsN m.t.length→m.d.seen (1 + (r : Int)) = rowBytes m.t r
theorem rows_of_nat {C k : Nat} (h : k < C) : k / 8 < rowsN C:=by unfold rowsN; omega
theorem Safe.data {m : ImgM} {u : List Ent} (h : Safe m u) {d' : DevM} {q : List (Int×ByteArray)} (hf : d'.fl = m.d.fl) (hp : d'.pend = m.d.pend++q) (hq : ∀x∈q,1 + (rowsN m.t.length : Int)≤x.1) : Safe { m with d:=d' } u:=
 ⟨h.ulen,h.uok,h.uuniq,by dsimp only; rw [hf]; exact h.hd,fun x hx=>by
   dsimp only at hx
   rw [hp] at hx
   rcases List.mem_append.1 hx with h' | h'
   ·exact h.nohd x h'
   ·have:=hq x h'; omega,
  fun r hr s hs=>by
   dsimp only at hs hr
   rw [hf,hp] at hs
   refine h.rows r hr s (hs.imp id fun h'=>?_)
   rcases List.mem_append.1 h' with h'' | h''
   ·exact h''
   ·have:=hq _ h''; dsimp only at this; omega,
  h.cur,fun r hr=>by
   dsimp only at hr ⊢
   rw [seen_same hf hp fun x hx=>by have:=hq x hx; omega]
   exact h.see r hr⟩
theorem Safe.uni {m : ImgM} {u u' : List Ent} (h : Safe m u) (hl : u'.length = u.length) (ho : ∀e∈u',entOk e m.p = true) (hu' : Uniq u') (hu : ∀k,k < u.length→(ent u k).1 = 2→ent u' k = ent u k) : Safe m u':=
 have key : ∀t,Sub m.p u t→Sub m.p u' t:=fun t ht=>ht.mono hl fun k hk h2=>hu k hk ((ht.2 k hk).2 h2 ▸ h2)
 ⟨hl.trans h.ulen,ho,hu',h.hd,h.nohd,fun r hr s hs=>let ⟨t',a,b⟩:=h.rows r hr s hs; ⟨t',key _ a,b⟩,key _ h.cur,h.see⟩
theorem Safe.flush {m : ImgM} {u : List Ent} (hm : m.Ok) (h : Safe m u) : Safe m.flush m.t:=by
 have hneed:=hm.need
 have ht:=hm.t
 obtain ⟨C,hC,q1,q2,q3,q4,q5,q6,-⟩:=hm.nat
 have hcn : m.c.toNat = m.t.length:=by omega
 rw [hcn] at hneed
 refine ⟨rfl,hm.ents,hm.one,?_,(fun x hx=>by cases hx),fun r hr s hs=>?_,Sub.self hm.ents,fun r hr=>?_⟩
 ·have:=flush_fl hm.d (i:=0) (by omega)
  show m.d.flush.fl.getD 0 ByteArray.empty = headS m.c m.p m.b
  rw [this]
  exact (seen_none h.nohd).trans h.hd
 ·have hr' : r < rowsN m.t.length:=hr
  refine ⟨m.t,Sub.self hm.ents,?_⟩
  rcases hs with hs | hs
  ·rw [hs]
   show m.d.flush.fl.getD (1 + r) ByteArray.empty = _
   rw [flush_fl hm.d (i:=1 + r) (by omega),show ((1 + r : Nat) : Int) = 1 + (r : Int) by omega]
   exact h.see r hr'
  ·cases hs
 ·have hr' : r < rowsN m.t.length:=hr
  show m.d.flush.seen (1 + (r : Int)) = _
  have:=flush_seen hm.d (i:=1 + r) (by omega)
  rw [show ((1 + r : Nat) : Int) = 1 + (r : Int) by omega] at this
  rw [this]
  exact h.see r hr'
theorem ent_set {t : List Ent} {k j : Nat} {e : Ent} (hk : k < t.length) : ent (t.set k e) j = if j = k then e else ent t j:=by
 unfold ent
 by_cases h : j = k
 ·subst h; rw [if_pos rfl,List.getD_eq_getElem?_getD,List.getElem?_set_self hk]; rfl
 ·rw [if_neg h,List.getD_eq_getElem?_getD,List.getElem?_set_ne (by omega),List.getD_eq_getElem?_getD]
theorem rowEnts_set {t : List Ent} {k : Nat} {e : Ent} (hk : k < t.length) {r : Nat} (hr : r≠k / 8) : rowEnts (t.set k e) r = rowEnts t r:=by
 unfold rowEnts
 refine List.map_congr_left fun j hj=>?_
 have:=List.mem_range.1 hj
 have h:=ent_set (t:=t) (e:=e) (j:=8 * r + j) hk
 rw [if_neg (by omega)] at h
 exact h
theorem setE_eq {m : ImgM} (hm : m.Ok) {k : Nat} (hk : k < m.t.length) {e : Ent} (he : entOk e m.p = true) :
  m.setE k e = if (m.d.write (1 + ((k / 8 : Nat) : Int)) (rowBytes (m.t.set k e) (k / 8))).1≠0 then ((m.d.write (1 + ((k / 8 : Nat) : Int)) (rowBytes (m.t.set k e) (k / 8))).1,{ m with d:=(m.d.write (1 + ((k / 8 : Nat) : Int)) (rowBytes (m.t.set k e) (k / 8))).2 })
  else (0,{ m with d:=(m.d.write (1 + ((k / 8 : Nat) : Int)) (rowBytes (m.t.set k e) (k / 8))).2,t:=m.t.set k e,held:=if (ent m.t k).1 = 2 then m.held++[(ent m.t k).2] else m.held }):=by
 obtain ⟨C,hC,q1,q2,q3,q4,q5,q6,-⟩:=hm.nat
 have hr : rowOf (m.t.set k e) ((k / 8 : Nat) : Int) = (rowBytes (m.t.set k e) (k / 8),0):=rowOf_is q6 (by simp; omega) (fun x hx=>by
  rcases List.mem_or_eq_of_mem_set hx with h | h
  ·exact hm.ents x h
  ·rw [h]; exact he) (by rw [List.length_set]; exact rows_of_nat hk)
 unfold ImgM.setE
 rw [hr]
theorem Safe.setE {m : ImgM} {u : List Ent} (hm : m.Ok) (h : Safe m u) {k : Nat} (hk : k < m.t.length) {e : Ent} (he : entOk e m.p = true) (hu : e.1 = 2→e = ent u k) : Safe (m.setE k e).2 u:=by
 rw [setE_eq hm hk he]
 have hr8:=rows_of_nat hk
 have hset : Sub m.p u (m.t.set k e):=⟨by rw [List.length_set]; exact h.ulen.symm,fun j hj=>by
  rw [ent_set hk]
  by_cases hjk : j = k
  ·subst hjk; rw [if_pos rfl]; exact ⟨he,hu⟩
  ·rw [if_neg hjk]; exact h.cur.2 j hj⟩
 rcases DevM.write_cases m.d (1 + ((k / 8 : Nat) : Int)) (rowBytes (m.t.set k e) (k / 8)) with ⟨h1,h2,h3⟩ | ⟨h1,h2,h3⟩
 ·rw [if_neg (by simpa using h1)]
  generalize (m.d.write (1 + ((k / 8 : Nat) : Int)) (rowBytes (m.t.set k e) (k / 8))).2 = d' at *
  have hl : (m.t.set k e).length = m.t.length:=List.length_set
  refine ⟨by rw [hl]; exact h.ulen,h.uok,h.uuniq,by dsimp only; rw [h3]; exact h.hd,fun x hx=>?_,fun r hr s hs=>?_,hset,fun r hr=>?_⟩
  ·dsimp only at hx
   rw [h2] at hx
   rcases List.mem_append.1 hx with h' | h'
   ·exact h.nohd x h'
   ·rw [List.mem_singleton.1 h']; dsimp only; omega
  ·dsimp only at hr hs ⊢
   rw [hl] at hr
   rw [h2,h3] at hs
   rcases hs with hs | hs
   ·exact h.rows r hr s (.inl hs)
   ·rcases List.mem_append.1 hs with h' | h'
    ·exact h.rows r hr s (.inr h')
    ·have e2:=List.mem_singleton.1 h'
     simp only [Prod.mk.injEq] at e2
     obtain rfl : r = k / 8:=by omega
     exact ⟨_,hset,e2.2⟩
  ·dsimp only at hr ⊢
   rw [hl] at hr
   rw [seen_add h3 h2]
   simp only [List.foldl_cons,List.foldl_nil]
   by_cases hrk : r = k / 8
   ·subst hrk; rw [if_pos rfl]
   ·rw [if_neg (by omega),h.see r hr]
    unfold rowBytes
    rw [rowEnts_set hk hrk]
 ·rw [if_pos h1]
  exact h.data (q:=[]) h3 (by rw [h2]; simp) (fun x hx=>by cases hx)
theorem Uniq_set {t : List Ent} (h : Uniq t) {k : Nat} (hk : k < t.length) {e : Ent} (he : e.1 = 2→e∉t) : Uniq (t.set k e):=by
 intro i j hi hj h2 hij
 rw [List.length_set] at hi hj
 rw [ent_set hk] at h2 hij
 rw [ent_set hk] at hij
 by_cases hi' : i = k
 ·by_cases hj' : j = k
  ·rw [hi',hj']
  ·rw [if_pos hi'] at h2 hij
   rw [if_neg hj'] at hij
   exact absurd (hij ▸ ent_mem hj) (he h2)
 ·rw [if_neg hi'] at h2 hij
  by_cases hj' : j = k
  ·rw [if_pos hj'] at hij
   exact absurd (hij ▸ ent_mem hi) (he (hij ▸ h2))
  ·rw [if_neg hj'] at hij
   exact h i j hi hj h2 hij
theorem ok_dev {m : ImgM} (hm : m.Ok) {d : DevM} (hd : d.Ok) (hl : d.fl.length = m.d.fl.length) : ({ m with d:=d } : ImgM).Ok:=
 ⟨hd,hm.head,hm.t,hm.ents,hm.one,hm.nodup,hm.range,hm.apart,by have:=hm.need; dsimp only; omega⟩
theorem ImgM.Ok.setE {m : ImgM} (hm : m.Ok) (hw : m.d.writes < 1000000) (hp : m.d.pend.length < 1000000) {k : Nat} (hk : k < m.t.length) {e : Ent} (he : entOk e m.p = true) (h2 : e.1 = 2→e∉m.t∧e.2∉m.held) : (m.setE k e).2.Ok:=by
 rw [setE_eq hm hk he]
 have hok:=DevM.write_ok hm.d (1 + ((k / 8 : Nat) : Int)) (rowBytes (m.t.set k e) (k / 8)) hp hw
 obtain ⟨l1,-,-⟩:=write_lens m.d (1 + ((k / 8 : Nat) : Int)) (rowBytes (m.t.set k e) (k / 8))
 split
 ·exact ok_dev hm hok l1
 ·generalize (m.d.write (1 + ((k / 8 : Nat) : Int)) (rowBytes (m.t.set k e) (k / 8))).2 = d' at *
  have hmem : ∀x,((2,x) : Ent)∈m.t.set k e→((2,x) : Ent) = e∨∃j,j < m.t.length∧j≠k∧ent m.t j = (2,x):=fun x hx=>by
   obtain ⟨j,hj,hje⟩:=List.getElem_of_mem hx
   have hj':=hj
   rw [List.length_set] at hj'
   rw [← ent_get hj,ent_set hk] at hje
   by_cases hjk : j = k
   ·rw [if_pos hjk] at hje; exact .inl hje.symm
   ·rw [if_neg hjk] at hje; exact .inr ⟨j,hj',hjk,hje⟩
  have hap : ∀x∈m.held,((2,x) : Ent)∉m.t.set k e:=fun x hx hc=>by
   rcases hmem x hc with h | ⟨j,hj,_,hje⟩
   ·exact (h2 (by rw [← h])).2 (by rw [← h]; exact hx)
   ·exact hm.apart x hx (hje ▸ ent_mem hj)
  refine ⟨hok,hm.head,by dsimp only; rw [List.length_set]; exact hm.t,fun x hx=>?_,Uniq_set hm.one hk fun h=>(h2 h).1,?_,?_,?_,by have:=hm.need; dsimp only; omega⟩
  ·rcases List.mem_or_eq_of_mem_set hx with h | h
   ·exact hm.ents x h
   ·rw [h]; exact he
  ·dsimp only
   split
   ·rename_i hk2
    refine List.nodup_append.2 ⟨hm.nodup,by simp,fun a ha b hb=>?_⟩
    rw [List.mem_singleton.1 hb]
    intro hab
    refine hm.apart a ha ?_
    rw [hab]
    have:=ent_mem hk
    rwa [show ent m.t k = (2,(ent m.t k).2) from Prod.ext hk2 rfl] at this
   ·exact hm.nodup
  ·dsimp only
   split
   ·rename_i hk2
    intro x hx
    rcases List.mem_append.1 hx with h | h
    ·exact hm.range x h
    ·rw [List.mem_singleton.1 h]; exact data_range hm hk hk2
   ·exact hm.range
  ·dsimp only
   split
   ·rename_i hk2
    intro x hx
    rcases List.mem_append.1 hx with h | h
    ·exact hap x h
    ·rw [List.mem_singleton.1 h]
     intro hc
     rcases hmem _ hc with h' | ⟨j,hj,hjk,hje⟩
     ·exact (h2 (by rw [← h'])).1 (by rw [← h']; have:=ent_mem hk; rwa [show ent m.t k = (2,(ent m.t k).2) from Prod.ext hk2 rfl] at this)
     ·refine hjk (hm.one j k hj hk (by rw [hje]) ?_)
      rw [hje]
      exact (Prod.ext hk2 rfl : ent m.t k = (2,(ent m.t k).2)).symm
   ·exact hap
end Go.Proofs.YtbpblokfiajpjabGreatDoor

namespace Go.Proofs.YtbpblokfiajpjabGreatDoor
open Go.RowKit Go.SL Go.Crc
structure Step (n : Nat) (m m' : ImgM) : Prop where
 ok : m'.Ok
 safe : ∀u,Safe m u→∃u',Safe m' u'
 c : m'.c = m.c
 p : m'.p = m.p
 len : m'.d.fl.length = m.d.fl.length
 pend : m'.d.pend.length≤m.d.pend.length + n
 wr : m'.d.writes≤m.d.writes + n
theorem Step.refl {m : ImgM} (hm : m.Ok) (n : Nat) : Step n m m:=⟨hm,fun u h=>⟨u,h⟩,rfl,rfl,rfl,by omega,by omega⟩
theorem Step.trans {a b : Nat} {m m' m'' : ImgM} (h : Step a m m') (k : Step b m' m'') : Step (a + b) m m'':=
 ⟨k.ok,fun u hu=>let ⟨u',hu'⟩:=h.safe u hu; k.safe u' hu',k.c.trans h.c,k.p.trans h.p,k.len.trans h.len,by have:=h.pend; have:=k.pend; omega,by have:=h.wr; have:=k.wr; omega⟩
theorem Step.mono {a b : Nat} {m m' : ImgM} (h : Step a m m') (hab : a≤b) : Step b m m':=
 ⟨h.ok,h.safe,h.c,h.p,h.len,by have:=h.pend; omega,by have:=h.wr; omega⟩
theorem held_le40 {m : ImgM} (hm : m.Ok) : m.held.length≤40:=by
 have h:=free_count hm
 obtain ⟨C,hC,q1,q2,q3,q4,q5,q6,-⟩:=hm.nat
 omega
theorem rows_eq {m : ImgM} (hm : m.Ok) : m.c.toNat = m.t.length:=by
 have:=hm.t
 omega
theorem step_setE {m : ImgM} (hm : m.Ok) (hw : m.d.writes < 1000000) (hp : m.d.pend.length < 1000000) {k : Nat} (hk : k < m.t.length) {e : Ent} (he : entOk e m.p = true) (h2 : e.1 = 2→e∉m.t∧e.2∉m.held)
  (hu : ∀u,Safe m u→∃u',Safe m u'∧(e.1 = 2→e = ent u' k)) : Step 1 m (m.setE k e).2:=by
 refine ⟨hm.setE hw hp hk he h2,fun u h=>?_,?_,?_,?_,?_,?_⟩
 ·obtain ⟨u',h',hu'⟩:=hu u h
  exact ⟨u',h'.setE hm hk he hu'⟩
 all_goals
  rw [setE_eq hm hk he]
  obtain ⟨l1,l2,l3⟩:=write_lens m.d (1 + ((k / 8 : Nat) : Int)) (rowBytes (m.t.set k e) (k / 8))
  split
  ·first | rfl | exact l1 | exact l2 | exact l3
  ·first | rfl | exact l1 | exact l2 | exact l3
theorem step_clear {m : ImgM} (hm : m.Ok) (hw : m.d.writes < 1000000) (hp : m.d.pend.length < 1000000) (k : Int) : Step 1 m (m.clear k).2:=by
 unfold ImgM.clear
 split
 ·rename_i ht
  obtain ⟨k0,-,hkl⟩:=there_range hm ht
  split
  ·exact Step.refl hm 1
  ·exact step_setE hm hw hp hkl rfl (fun h=>by cases h) fun u h=>⟨u,h,fun h=>by cases h⟩
 ·exact Step.refl hm 1
theorem step_data {m : ImgM} (hm : m.Ok) {d' : DevM} {q : List (Int×ByteArray)} {n : Nat} (hd : d'.Ok) (hf : d'.fl = m.d.fl) (hp : d'.pend = m.d.pend++q) (hq : ∀x∈q,1 + (rowsN m.t.length : Int)≤x.1) (hn : q.length≤n) (hw : d'.writes≤m.d.writes + n) :
  Step n m { m with d:=d' }:=
 ⟨ok_dev hm hd (by rw [hf]),fun u h=>⟨u,h.data hf hp hq⟩,rfl,rfl,by dsimp only; rw [hf],by dsimp only; rw [hp,List.length_append]; omega,hw⟩
theorem step_puts {m : ImgM} (hm : m.Ok) (hw : m.d.writes < 999000) (hp : m.d.pend.length < 999000) {a : Int} (ha : 1 + (rowsN m.t.length : Int)≤a) {l : List ByteArray} {n : Nat} (hl : l.length≤n) (hn : n≤900) : Step n m { m with d:=(m.d.puts a l).2 }:=by
 obtain ⟨o1,o2,o3,o4⟩:=puts_ok (l:=l) (a:=a) hm.d (by omega) (by omega)
 obtain ⟨h1,q,h2,h3,j,j1,j2,-⟩:=DevM.puts_cases l m.d a
 exact step_data hm o1 h1 h2 (fun x hx=>by have:=(h3 x hx).1; omega) (by rw [j2,List.length_map,List.length_range]; omega) (by omega)
theorem first_ge {m : ImgM} (hm : m.Ok) {y : Int} (h0 : 0≤y) : 1 + (rowsN m.t.length : Int)≤m.first y:=by
 unfold ImgM.first
 rw [rows_eq hm]
 omega
theorem step_wr {m : ImgM} (hm : m.Ok) (hw : m.d.writes < 999000) (hp : m.d.pend.length < 999000) (k fr : Int) (s : ByteArray) : Step 4 m (m.wr k fr s).2:=by
 unfold ImgM.wr
 split
 ·exact Step.refl hm 4
 ·rename_i hb
  split
  ·exact Step.refl hm 4
  ·rename_i hk
   unfold ImgM.wrBad at hb
   have ht : m.there k = true:=by
    cases h : m.there k
    ·exact absurd (.inl h) hb
    ·rfl
   have hb' : 0≤fr∧(s.size : Int)≤16 * (4 - fr):=by
    refine ⟨?_,?_⟩
    ·exact Int.not_lt.1 fun h=>hb (.inr (.inl h))
    ·exact Int.not_lt.1 fun h=>hb (.inr (.inr (.inr (.inr h))))
   obtain ⟨k0,-,hkl⟩:=there_range hm ht
   have hk2 : (ent m.t k.toNat).1 = 2:=Decidable.byContradiction hk
   obtain ⟨r0,r1⟩:=data_range hm hkl hk2
   have:=first_ge hm r0
   refine step_puts hm hw hp (by omega) ?_ (by omega)
   unfold chunksN
   rw [List.length_map,List.length_range]
   omega
theorem step_flush {m : ImgM} (hm : m.Ok) : Step 0 m m.flush:=
 ⟨flushed_ok (d:=m.d) hm hm.d rfl,fun u h=>⟨_,h.flush hm⟩,rfl,rfl,by simp only [ImgM.flush,DevM.flush,foldl_setAt_length],by simp [ImgM.flush,DevM.flush],by simp [ImgM.flush,DevM.flush]⟩
theorem openB_is {m : ImgM} {p : Int} (h : m.openB p = true) : ((2,p) : Ent)∉m.t∧p∉m.held:=by
 unfold ImgM.openB at h
 simpa using h
theorem step_fill {m : ImgM} (hm : m.Ok) (hw : m.d.writes < 999000) (hp : m.d.pend.length < 999000) (k : Int) (s : ByteArray) : Step 5 m (m.fill k s).2:=by
 unfold ImgM.fill
 split
 ·exact Step.refl hm 5
 ·rename_i h1
  split
  ·exact Step.refl hm 5
  ·rename_i h2
   split
   ·exact Step.refl hm 5
   ·rename_i h3
    have ht : m.there k = true:=by
     cases h : m.there k
     ·exact absurd (.inl h) h1
     ·rfl
    obtain ⟨k0,-,hkl⟩:=there_range hm ht
    obtain ⟨C,hC,q1,q2,q3,q4,q5,q6,-⟩:=hm.nat
    obtain ⟨P,hP⟩:=Int.eq_ofNat_of_zero_le q5
    rcases freeP_cases m hP with h | ⟨q,hq,hqP,ho,-⟩
    ·exact absurd (by rw [h]; decide) h3
    ·rw [hq]
     obtain ⟨n1,n2⟩:=openB_is ho
     unfold ImgM.fillAt
     have hf:=first_ge hm (y:=(q : Int)) (by omega)
     have s1:=step_puts (n:=4) hm hw hp hf (l:=chunksN s 4) (by simp [chunksN]) (by omega)
     split
     ·exact s1.mono (by omega)
     ·have s2:=step_flush s1.ok
      have h12:=s1.trans s2
      have w12:=h12.wr
      have p12:=h12.pend
      have he : entOk (2,(q : Int)) m.p = true:=by unfold entOk; rw [if_pos rfl]; simp; omega
      refine h12.trans (b:=1) (step_setE (k:=k.toNat) (e:=(2,(q : Int))) h12.ok (by omega) (by omega) hkl he (fun _=>⟨n1,fun h=>by cases h⟩) fun u h=>?_)
      refine ⟨m.t.set k.toNat (2,(q : Int)),?_,fun _=>by rw [ent_set hkl,if_pos rfl]⟩
      have hsf : Safe ({ m with d:=(m.d.puts (m.first (q : Int)) (chunksN s 4)).2 } : ImgM).flush m.t:=by
       refine ⟨rfl,hm.ents,hm.one,h.hd,h.nohd,fun r hr s hs=>?_,Sub.self hm.ents,h.see⟩
       rcases hs with hs | hs
       ·refine ⟨m.t,Sub.self hm.ents,hs.trans ?_⟩
        have e:=h.see r hr
        rw [seen_none (fun x hx=>by cases hx),show (1 + (r : Int)).toNat = 1 + r by omega] at e
        exact e
       ·cases hs
      refine hsf.uni (by rw [List.length_set]) (fun x hx=>?_) (Uniq_set hm.one hkl fun _=>n1) fun j hj hj2=>?_
      ·rcases List.mem_or_eq_of_mem_set hx with h | h
       ·exact hm.ents x h
       ·rw [h]; exact he
      ·rw [ent_set hkl]
       split
       ·rename_i hjk
        subst hjk
        exact absurd hj2 h2
       ·rfl
theorem head_flush {d : DevM} (hd : d.Ok) (hp : d.pend = []) (hl : 0 < d.fl.length) {s : ByteArray} (hw : d.writes < 1000000) (h : (d.write 0 s).1 = 0) :
  (d.write 0 s).2.flush.Ok∧(d.write 0 s).2.flush.pend = []∧(d.write 0 s).2.flush.fl.length = d.fl.length∧(d.write 0 s).2.flush.fl.getD 0 ByteArray.empty = s∧
  (∀i : Nat,0 < i→i < d.fl.length→(d.write 0 s).2.flush.fl.getD i ByteArray.empty = d.fl.getD i ByteArray.empty)∧(d.write 0 s).2.flush.writes≤d.writes + 1:=by
 have ok:=DevM.write_ok hd 0 s (by rw [hp]; decide) hw
 obtain ⟨-,-,l3⟩:=write_lens d 0 s
 rcases DevM.write_cases d 0 s with ⟨h1,h2,h3⟩ | ⟨h1,h2,h3⟩
 ·generalize (d.write 0 s).2 = d' at *
  rw [hp] at h2
  refine ⟨DevM.flush_ok ok,rfl,by simp only [DevM.flush,foldl_setAt_length,h3],?_,fun i h0 hi=>?_,l3⟩
  ·rw [flush_fl ok (by rw [h3]; exact hl)]
   unfold DevM.seen
   rw [h2]
   simp
  ·rw [flush_fl ok (by rw [h3]; exact hi)]
   unfold DevM.seen
   rw [h2,h3]
   simp only [List.nil_append,List.foldl_cons,List.foldl_nil]
   rw [if_neg (by omega)]
   simp
 ·exact absurd h h1
theorem step_link {m : ImgM} (hm : m.Ok) (hw : m.d.writes < 999000) (k : Int) : Step 1 m (m.link k).2:=by
 unfold ImgM.link
 split
 ·exact Step.refl hm 1
 ·rename_i hb
  have s0:=step_flush hm
  have hw0 : m.d.flush.writes = m.d.writes:=rfl
  have hneed:=s0.ok.need
  obtain ⟨l1,l2,l3⟩:=write_lens m.d.flush 0 (headS m.c m.p k)
  have okw:=DevM.write_ok (DevM.flush_ok hm.d) 0 (headS m.c m.p k) (by simp [DevM.flush]) (by omega)
  have q5 : 0≤m.p:=by
   obtain ⟨C,hC,q1,q2,q3,q4,q5,q6,-⟩:=hm.nat
   exact q5
  split
  ·rename_i h1
   rcases DevM.write_cases m.d.flush 0 (headS m.c m.p k) with ⟨e1,-,-⟩ | ⟨-,e2,e3⟩
   ·exact absurd e1 h1
   ·exact (s0.trans (b:=1) (step_data (m:=m.flush) (q:=[]) s0.ok okw e3 (by rw [List.append_nil]; exact e2) (fun x hx=>by cases hx) (by simp) (by dsimp only [ImgM.flush]; omega))).mono (by omega)
  ·rename_i h1
   have hl0 : 0 < m.d.flush.fl.length:=by
    have : 1 + (rowsN m.c.toNat : Int) + 4 * m.p≤m.d.flush.fl.length:=hneed
    omega
   obtain ⟨f1,f2,f3,f4,f5,f6⟩:=head_flush (s:=headS m.c m.p k) (DevM.flush_ok hm.d) rfl hl0 (by omega) (Decidable.byContradiction h1)
   generalize (m.d.flush.write 0 (headS m.c m.p k)).2.flush = d' at *
   have hsl : ∀u,Safe m u→Safe ({ m.flush with d:=d',b:=k } : ImgM) m.t:=fun u h=>by
    have hf:=h.flush hm
    have hrow : ∀r : Nat,r < rowsN m.t.length→d'.fl.getD (1 + r) ByteArray.empty = rowBytes m.t r:=fun r hr=>by
     have hr' : 1 + r < m.d.flush.fl.length:=by
      have h' : 1 + (rowsN m.c.toNat : Int) + 4 * m.p≤m.d.flush.fl.length:=hneed
      rw [rows_eq hm] at h'
      omega
     rw [f5 (1 + r) (by omega) hr']
     have e : m.d.flush.seen (1 + (r : Int)) = rowBytes m.t r:=hf.see r hr
     rw [seen_none (d:=m.d.flush) (fun x hx=>by cases hx),show (1 + (r : Int)).toNat = 1 + r by omega] at e
     exact e
    refine ⟨rfl,hm.ents,hm.one,f4,fun x hx=>?_,fun r hr s hs=>?_,Sub.self hm.ents,fun r hr=>?_⟩
    ·dsimp only at hx
     rw [f2] at hx
     cases hx
    ·dsimp only at hs
     rw [f2] at hs
     rcases hs with hs | hs
     ·exact ⟨m.t,Sub.self hm.ents,hs.trans (hrow r hr)⟩
     ·cases hs
    ·dsimp only
     rw [seen_none (d:=d') (fun x hx=>by rw [f2] at hx; cases hx),show (1 + (r : Int)).toNat = 1 + r by omega]
     exact hrow r hr
   exact ⟨⟨f1,hb,hm.t,hm.ents,hm.one,List.nodup_nil,(fun x hx=>by cases hx),(fun x hx=>by cases hx),by have h' : 1 + (rowsN m.c.toNat : Int) + 4 * m.p≤m.d.flush.fl.length:=hneed; dsimp only [ImgM.flush]; omega⟩,
    fun u h=>⟨_,hsl u h⟩,rfl,rfl,by dsimp only; rw [f3]; exact s0.len,by dsimp only; rw [f2]; simp,by dsimp only; omega⟩
end Go.Proofs.YtbpblokfiajpjabGreatDoor

namespace Go.Proofs.YtbpblokfiajpjabGreatDoor
open Go.RowKit Go.SL Go.Crc
theorem pick_range {f : Nat→ByteArray} {a : Int} : ∀{j r : Nat} {s : ByteArray},r < j→
  ((List.range j).map fun (i : Nat)=>(a + (i : Int),f i)).foldl (fun s x=>if x.1 = a + (r : Int) then x.2 else s) s = f r:=by
 intro j
 induction j with
 | zero=>intro r s h; omega
 | succ j ih=>
  intro r s h
  rw [List.range_succ,List.map_append,List.foldl_append]
  simp only [List.map_cons,List.map_nil,List.foldl_cons,List.foldl_nil]
  by_cases hr : r = j
  ·subst hr; rw [if_pos rfl]
  ·rw [if_neg (by omega)]; exact ih (by omega)
theorem puts_seen {l : List ByteArray} {d : DevM} {a : Int} (h : (d.puts a l).1 = 0) {r : Nat} (hr : r < l.length) : (d.puts a l).2.seen (a + (r : Int)) = l.getD r ByteArray.empty:=by
 obtain ⟨h1,q,h2,-,j,-,j2,j3⟩:=DevM.puts_cases l d a
 obtain rfl:=j3 h
 rw [seen_add h1 h2,j2]
 exact pick_range (f:=fun i=>l.getD i ByteArray.empty) hr
theorem zero_ents (c p : Int) : ∀e∈zeroT c,entOk e p = true:=fun e he=>by
 unfold zeroT at he
 rw [(List.mem_replicate.1 he).2]
 rfl
theorem zero_uniq (c : Int) : Uniq (zeroT c):=fun i j hi hj h2 _=>by
 have h0 : ent (zeroT c) i = (0,0):=(List.mem_replicate.1 (show ent (zeroT c) i∈List.replicate c.toNat (0,0) from ent_mem hi)).2
 rw [h0] at h2
 cases h2
theorem created_ok {d : DevM} (hd : d.Ok) (hp : d.pend.length < 999000) (hw : d.writes < 999000) {c p b : Int} :
  (createR d c p b).2.d.Ok∧(createR d c p b).2.d.fl.length = d.fl.length∧(createR d c p b).2.d.pend.length≤d.pend.length + 4∧(createR d c p b).2.d.writes≤d.writes + 5∧
  ((createR d c p b).1 = 0→(createR d c p b).2.Ok∧Safe (createR d c p b).2 (zeroT c)∧(createR d c p b).2.d.pend = []∧¬headBad c p b):=by
 unfold createR
 split
 ·exact ⟨hd,rfl,by dsimp only [madeM]; omega,by dsimp only [madeM]; omega,fun h=>by cases h⟩
 ·rename_i hf
  have hb : ¬headBad c p b:=fun h=>hf (.inl h)
  have hn : needN c p≤d.fl.length:=Int.not_lt.1 fun h=>hf (.inr h)
  have hbb:=hb
  unfold headBad at hbb
  have hzl : (zeroT c).length = c.toNat:=by simp [zeroT]
  have hrn : rowsN c.toNat≤4:=by unfold rowsN; omega
  have hrl : (rowsL (zeroT c)).length = rowsN c.toNat:=by simp [rowsL,hzl]
  have hn2 : 1 + (rowsN c.toNat : Int) + 4 * p≤d.fl.length:=hn
  obtain ⟨o1,o2,o3,o4⟩:=puts_ok (l:=rowsL (zeroT c)) (a:=1) hd (by omega) (by omega)
  split
  ·exact ⟨o1,o2,by dsimp only [madeM]; omega,by dsimp only [madeM]; omega,fun h=>absurd h (by assumption)⟩
  ·rename_i h1
   have h1':=Decidable.byContradiction h1
   have hsr : ∀r : Nat,r < rowsN c.toNat→(d.puts 1 (rowsL (zeroT c))).2.seen (1 + (r : Int)) = rowBytes (zeroT c) r:=fun r hr=>by
    rw [puts_seen h1' (by omega)]
    have:=rowOf_is (P:=40) (by omega) (t:=zeroT c) (by omega) (zero_ents c 40) (r:=r) (by rw [hzl]; exact hr)
    simp [rowsL,hzl,hr,this]
   generalize (d.puts 1 (rowsL (zeroT c))).2 = d1 at *
   have okf:=DevM.flush_ok o1
   have hl1 : d1.flush.fl.length = d1.fl.length:=by simp only [DevM.flush,foldl_setAt_length]
   have hw1 : d1.flush.writes = d1.writes:=rfl
   split
   ·rename_i h2
    obtain ⟨l1,l2,l3⟩:=write_lens d1.flush 0 (headS c p b)
    have okw:=DevM.write_ok okf 0 (headS c p b) (by simp [DevM.flush]) (by omega)
    have hp0 : d1.flush.pend.length = 0:=rfl
    exact ⟨okw,by dsimp only [madeM]; omega,by dsimp only [madeM]; omega,by dsimp only [madeM]; omega,fun h=>absurd h h2⟩
   ·rename_i h2
    obtain ⟨f1,f2,f3,f4,f5,f6⟩:=head_flush (s:=headS c p b) okf rfl (by omega) (by omega) (Decidable.byContradiction h2)
    generalize (d1.flush.write 0 (headS c p b)).2.flush = d' at *
    have hrow : ∀r : Nat,r < rowsN c.toNat→d'.fl.getD (1 + r) ByteArray.empty = rowBytes (zeroT c) r:=fun r hr=>by
     rw [f5 (1 + r) (by omega) (by omega),flush_fl o1 (by omega),show ((1 + r : Nat) : Int) = 1 + (r : Int) by omega]
     exact hsr r hr
    refine ⟨f1,by dsimp only [madeM]; omega,by dsimp only [madeM]; rw [f2]; simp,by dsimp only [madeM]; omega,fun _=>⟨?_,?_,f2,hb⟩⟩
    ·exact ⟨f1,hb,by dsimp only [madeM]; rw [hzl]; omega,zero_ents c p,zero_uniq c,List.nodup_nil,(fun x hx=>by cases hx),(fun x hx=>by cases hx),by dsimp only [madeM]; omega⟩
    ·refine ⟨rfl,zero_ents c p,zero_uniq c,f4,fun x hx=>?_,fun r hr s hs=>?_,Sub.self (zero_ents c p),fun r hr=>?_⟩
     ·dsimp only [madeM] at hx
      rw [f2] at hx
      cases hx
     ·dsimp only [madeM] at hs hr
      rw [f2] at hs
      rw [hzl] at hr
      rcases hs with hs | hs
      ·exact ⟨zeroT c,Sub.self (zero_ents c p),hs.trans (hrow r hr)⟩
      ·cases hs
     ·dsimp only [madeM] at hr ⊢
      rw [hzl] at hr
      rw [seen_none (d:=d') (fun x hx=>by rw [f2] at hx; cases hx),show (1 + (r : Int)).toNat = 1 + r by omega]
      exact hrow r hr
end Go.Proofs.YtbpblokfiajpjabGreatDoor

namespace Go.Proofs.YtbpblokfiajpjabGreatDoor
open Go.RowKit Go.SL Go.Crc
attribute [local go_sem ↓] Go.wp_at_zero Go.wp_at_succ
theorem results_cell1 {fn : Func} {p : Tmp} {ty : TypeId} (h : fn.results = #[.cell p ty]) (tmps : Array Value) (P : Program) (w : World) :
  (results fn tmps).run P w = ((asAddr (tmps.getD p undef)).run P w).andThen fun a w₁=>(loadVar ty a).run P w₁:=by
 simp only [results,h]
 simp [Sem.run_bind,Result.andThen]
theorem results_head1 {fn : Func} {t : Tmp} (h : fn.results = #[.cell t 103]) (tmps : Array Value) (w : World) (g : Nat) (c p b : Int) (hg : tmps.getD t undef = .pointer (some ⟨g,0,none⟩))
  (h0 : w.cell? ⟨g,0,none⟩ = some (.int .i64 c)) (h1 : w.cell? ⟨g,1,none⟩ = some (.int .i64 p)) (h2 : w.cell? ⟨g,2,none⟩ = some (.int .i64 b)) :
  (results fn tmps).run Tryz.prog w = .ok (headV c p b) w:=by
 rw [results_cell1 h,hg]
 unfold headV
 go_simp
set_option maxRecDepth 100000 in
set_option maxHeartbeats 1000000 in
theorem imghead_any (b bd bh : Nat) (m : ImgM) (R : List SL.HP) (w : World) (H : own w (imgAt b bd bh m::R)) :
  Calls Tryz.prog 71 #[.pointer (some ⟨b,0,none⟩)] w fun e w'=>e = .returned (headV m.c m.p m.b)∧Ext w w'∧own w' (imgAt b bd bh m::R):=by
 obtain ⟨v,h⟩:=img_open H
 have ha:=own_alloc h (.cells #[.int .i64 0,.int .i64 0,.int .i64 0] 103)
 have hxa:=(Ext.refl w).alloc (.cells #[.int .i64 0,.int .i64 0,.int .i64 0] 103)
 go_enter Tryz.func71,Tryz.ntmps71
 go_upto_region 1 with (fail)
 generalize w.heap.size = g at *
 generalize w.alloc (.cells #[.int .i64 0,.int .i64 0,.int .i64 0] 103) = w1 at *
 obtain ⟨cc,ff⟩:=own_cells 1 ha rfl
 obtain ⟨cg,fg⟩:=own_cells 0 ha rfl
 go_wp2_with fail
 have h5:=own_set (i:=2) (v:=.int .i64 m.b) 0 (own_set (i:=1) (v:=.int .i64 m.p) 0 (own_set (i:=0) (v:=.int .i64 m.c) 0 ha rfl) rfl) rfl
 obtain ⟨c3,-⟩:=own_cells 0 h5 rfl
 refine bodyPost_ret (results_head1 rfl _ _ g m.c m.p m.b rfl (c3 0) (c3 1) (c3 2)) rfl ?_
 exact ⟨rfl,((hxa.setCell _ _).setCell _ _).setCell _ _,img_close (own_drop h5)⟩
theorem read_nonneg (m : ImgM) (k : Int) : 0≤(m.read k).2:=by
 unfold ImgM.read
 split
 ·split
  ·decide
  ·split <;> simp
 ·simp
set_option maxRecDepth 100000 in
set_option maxHeartbeats 8000000 in
theorem asimage_any (b1 bd1 bh b2 bd2 : Nat) (m : ImgM) (hm : m.Ok) (R : List SL.HP) (w : World) (H : own w (imgAt b1 bd1 bh m::devAt bd1 m.d::rimgAt b2 bd2 m::rdevAt bd2 m.d::R)) :
  Calls Tryz.prog 90 #[.pointer (some ⟨b1,0,none⟩),.pointer (some ⟨b2,0,none⟩)] w fun e w'=>e = .returned (.bool true)∧Ext w w'∧own w' (imgAt b1 bd1 bh m::devAt bd1 m.d::rimgAt b2 bd2 m::rdevAt bd2 m.d::R):=by
 obtain ⟨vt,vh,h⟩:=rimg_open (own_pick 2 H rfl)
 obtain ⟨ao,g,cap,rfl,r1,r2,r3,-,-,-,-⟩:=own_row_form 1 h rfl
 obtain ⟨C,hC,q1,q2,q3,q4,q5,q6,-⟩:=hm.nat
 have hh:=held_le40 hm
 obtain rfl:=r3 (by omega)
 have HM:=Lib.hid hm
 have HC:=Lib.hid hC
 have HQ3:=Lib.hid q3
 have hd:=own_drew h
 have HIH:=fun (R : List SL.HP) (w : World) (H : own w (imgAt b1 bd1 bh m::R))=>imghead_any b1 bd1 bh m R w H
 unfold headV at HIH
 have HIH':=Lib.hid HIH
 clear HIH hC q3 r3 hm
 go_enter Tryz.func90,Tryz.ntmps90
 go_upto_region 1 with (fail)
 go_region_held3 (fun w'=>w'.cell? ⟨b2,0,none⟩ = some (.pointer (some ⟨bd2,0,none⟩))∧w'.cell? ⟨b2,1,none⟩ = some (.int .i64 m.c)∧w'.cell? ⟨b2,2,none⟩ = some (.int .i64 m.p)∧w'.cell? ⟨b2,3,none⟩ = some (.int .i64 m.b)) (first | exact ⟨(own_cells 0 hd rfl).1 0,(own_cells 0 hd rfl).1 1,(own_cells 0 hd rfl).1 2,(own_cells 0 hd rfl).1 3⟩ | exact ⟨(own_cells 0 h2 rfl).1 0,(own_cells 0 h2 rfl).1 1,(own_cells 0 h2 rfl).1 2,(own_cells 0 h2 rfl).1 3⟩ | exact ⟨(own_cells 0 h3 rfl).1 0,(own_cells 0 h3 rfl).1 1,(own_cells 0 h3 rfl).1 2,(own_cells 0 h3 rfl).1 3⟩ | exact ⟨(own_cells 2 h4 rfl).1 0,(own_cells 2 h4 rfl).1 1,(own_cells 2 h4 rfl).1 2,(own_cells 2 h4 rfl).1 3⟩) (first | (go_at_call 71; refine (HIH'.out _ _ (own_pick 3 hd rfl)).mono ?_; rintro e w2 ⟨rfl,hx2,h2'⟩; have h2:=own_put hd 3 rfl h2') | (go_at_call 189; refine (free_any b1 bd1 bh m HM.out _ _ (own_pick 3 h2 rfl)).mono ?_; rintro e w3 ⟨rfl,hx3,h3'⟩; have h3:=own_put h2 3 rfl h3') | (go_at_call 190; refine (rfree_any b2 bd2 m HM.out (by omega) _ _ (rimg_close (by first | exact h3 | exact h2))).mono ?_; rintro e w' ⟨rfl,rfl⟩) | (go_at_call 191; refine (imgdev_any b1 bd1 bh m _ _ (own_pick 3 h3 rfl)).mono ?_; rintro e w' ⟨rfl,rfl⟩) | (go_at_call 124; refine (asdev_any bd1 bd2 m.d HM.out.d _ _ (own_pick 5 (own_pick 5 h3 rfl) rfl)).mono ?_; rintro e w4 ⟨rfl,hx4,h4⟩))
 have h5 : own w4 (imgAt b1 bd1 bh m::devAt bd1 m.d::rimgAt b2 bd2 m::rdevAt bd2 m.d::R):=
  own_pick 3 (own_pick 2 (rimg_close (own_behind [_,_,_] (own_behind [_,_,_,_] h4))) rfl) rfl
 have hx5 : Ext w w4:=(((Ext.refl w).drew.trans hx2).trans hx3).trans hx4
 clear hd h h2 h2' h3 h3' hx2 hx3 H
 obtain ⟨c0,f0⟩:=own_cells 2 h4 rfl
 have hcC:=HC.out
 go_wp2_with fail
 clear c0 f0 h4
 go_loopw [5] (fun i wr=>∃q : Nat,q≤C + 2∧i = .int .i64 ((q : Int) - 1)∧Ext w wr∧own wr (imgAt b1 bd1 bh m::devAt bd1 m.d::rimgAt b2 bd2 m::rdevAt bd2 m.d::R)) (fun i _=>(C + 2 - intOf i).toNat)
 case atStart=>exact ⟨0,by omega,by go_num,hx5,h5⟩
 case round=>
  obtain ⟨q,hq,rfl,hxr,hown⟩:=hrel
  clear h5 hx5
  obtain ⟨vt,vh,h6⟩:=rimg_open (own_pick 2 hown rfl)
  obtain ⟨cc,ff⟩:=own_cells 0 h6 rfl
  have hqc : C = m.t.length:=HQ3.out.symm
  have HR:=Lib.hid (fun (R : List SL.HP) (w : World) (H : own w (imgAt b1 bd1 bh m::devAt bd1 m.d::R))=>read_any b1 bd1 bh m HM.out ((q : Int) - 1) R w H)
  have HRR:=Lib.hid (fun (R : List SL.HP) (w : World) (H : own w (rimgAt b2 bd2 m::rdevAt bd2 m.d::R))=>rread_any b2 bd2 m HM.out ((q : Int) - 1) R w H)
  have hrn:=read_nonneg m ((q : Int) - 1)
  have hmc:=HC.out
  by_cases hlt : q < C + 2
  ·have hle : (q : Int) - 1≤m.c:=by omega
   have hki:=kind_any b1 bd1 bh m HM.out ((q : Int) - 1) _ wr hown
   have hth:=fun (R : List SL.HP) (w : World) (H : own w (rimgAt b2 bd2 m::R))=>rthere_any b2 bd2 m ((q : Int) - 1) R w H
   cases ht : m.there ((q : Int) - 1)
   ·rw [ht,if_neg (by decide),show errV 1 = .iface 128 (.int .i64 1) from rfl] at hki
    rw [ht] at hth
    have HK:=Lib.hid hki
    have HTH:=Lib.hid hth
    have HMC:=Lib.hid hmc
    clear hki hth ht hqc hmc hcC
    generalize m.read ((q : Int) - 1) = rd at *
    obtain ⟨rs,rf⟩:=rd
    dsimp only at HR HRR hrn
    go_wp2_with fail
    refine HK.out.mono ?_
    rintro e w' ⟨rfl,rfl⟩
    go_wp2_with fail
    refine (HR.out _ wr hown).mono ?_
    rintro e w7 ⟨rfl,hx7,h7⟩
    clear cc ff
    go_wp2_with fail
    refine (HRR.out _ w7 (own_pick 3 (own_pick 3 h7 rfl) rfl)).mono ?_
    rintro e w8 ⟨rfl,hx8,h8⟩
    go_wp2_with fail
    refine (same_any rf rf w8 hrn).mono ?_
    rintro e w' ⟨rfl,rfl⟩
    go_wp2_with fail
    refine (HTH.out _ w8 h8).mono ?_
    rintro e w' ⟨rfl,rfl⟩
    go_wp2_with fail
    refine (same_any 1 1 w8 (by omega)).mono ?_
    rintro e w' ⟨rfl,rfl⟩
    go_wp2_with fail
    go_roundw
    case rel=>exact ⟨q + 1,by omega,by go_num,(hxr.trans hx7).trans hx8,own_pick 3 (own_pick 3 h8 rfl) rfl⟩
    case measure=>simp [intOf]; omega
   ·obtain ⟨k0,k1,k2⟩:=there_range HM.out ht
    rw [ht,if_pos rfl] at hki
    rw [ht] at hth
    have HK:=Lib.hid hki
    have HTH:=Lib.hid hth
    have HMC:=Lib.hid hmc
    clear hki hth ht hqc hmc hcC
    generalize m.read ((q : Int) - 1) = rd at *
    obtain ⟨rs,rf⟩:=rd
    dsimp only at HR HRR hrn
    obtain ⟨n,rfl⟩ : ∃n,q = n + 1:=⟨q - 1,by omega⟩
    rw [show ((n + 1 : Nat) : Int) - 1 = (n : Int) by omega] at *
    rw [Int.toNat_natCast] at k2
    go_wp2_with fail
    refine HK.out.mono ?_
    rintro e w' ⟨rfl,rfl⟩
    go_wp2_with fail
    refine (HR.out _ wr hown).mono ?_
    rintro e w7 ⟨rfl,hx7,h7⟩
    clear cc ff
    go_wp2_with fail
    refine (HRR.out _ w7 (own_pick 3 (own_pick 3 h7 rfl) rfl)).mono ?_
    rintro e w8 ⟨rfl,hx8,h8⟩
    obtain ⟨vt8,vh8,h9⟩:=rimg_open h8
    obtain ⟨ao8,g8,cap8,rfl,-,-,r38,-,-,r68,-⟩:=own_row_form 1 h9 rfl
    obtain rfl:=r38 (by omega)
    have y1 : w8.cell? ⟨g8,n * 2,none⟩ = some (.int .i64 (m.kind (n : Int))):=r68 _ _ (entCells_get k2).1
    have i2 : (n : Int) < (m.t.length : Int):=by omega
    obtain ⟨cc,ff⟩:=own_cells 0 h9 rfl
    clear r38 r68
    generalize m.kind (n : Int) = kd at *
    go_wp2_with fail
    refine (same_any rf rf w8 hrn).mono ?_
    rintro e w' ⟨rfl,rfl⟩
    go_wp2_with fail
    refine (HTH.out _ w8 h8).mono ?_
    rintro e w' ⟨rfl,rfl⟩
    go_wp2_with fail
    go_roundw
    case rel=>exact ⟨n + 1 + 1,by omega,by go_num,(hxr.trans hx7).trans hx8,own_pick 3 (own_pick 3 h8 rfl) rfl⟩
    case measure=>simp [intOf]; omega
  ·have hgt : m.c < (q : Int) - 1:=by omega
   clear HR HRR hrn
   go_wp2_with fail
   go_ret
   exact ⟨rfl,hxr,hown⟩
end Go.Proofs.YtbpblokfiajpjabGreatDoor

namespace Go.Proofs.YtbpblokfiajpjabGreatDoor
open Go.RowKit Go.SL Go.Crc
end Go.Proofs.YtbpblokfiajpjabGreatDoor

namespace Go.Proofs.YtbpblokfiajpjabGreatDoor
open Go.RowKit Go.SL
def IntsAt (w : World) (v : Value) (l : List Int) : Prop:=SlAt v l.length (fun b off i=>w.cell? ⟨b,off + i,none⟩ = some (.int .i64 (l.getD i 0)))
theorem IntsAt.form {w : World} {v : Value} {l : List Int} (h : IntsAt w v l) : ∃ao b off cap,v = .slice ao l.length cap∧l.length≤cap∧cap≤9223372036854775807∧(0 < l.length→ao = some ⟨b,off,none⟩)∧
  ∀i,i < l.length→w.cell? ⟨b,off + i,none⟩ = some (.int .i64 (l.getD i 0)):=by
 obtain ⟨ao,b,off,cap,hv,h1,h2,h3,h4⟩:=h
 exact ⟨ao,b,off,cap,hv,h1,h2,h3,h4⟩
theorem drewN_add' (w : World) (a b : Nat) : (w.drewN a).drewN b = w.drewN (a + b):=by simp [World.drewN,Nat.add_assoc]
theorem ints_own {w : World} {L : List HP} (k : Nat) {b n : Nat} {arr : Array Value} {T : TypeId} {l : List Int} (H : own w L) (hk : L[k]? = some (pts b (.cells arr T (0,0)))) (hn : l.length = n)
  (ha : ∀i,i < l.length→arr[i]? = some (.int .i64 (l.getD i 0))) (hb : n≤9223372036854775807) : IntsAt w (.slice (some ⟨b,0,none⟩) n n) l:=by
 subst hn
 exact ⟨_,b,0,l.length,rfl,Nat.le_refl _,hb,fun _=>rfl,fun i hi=>by dsimp only; rw [Nat.zero_add,(own_cells k H hk).1]; exact ha i hi⟩
end Go.Proofs.YtbpblokfiajpjabGreatDoor

namespace Go.Proofs.YtbpblokfiajpjabGreatDoor
open Go.RowKit Go.SL Go.Crc
attribute [local go_sem ↓] Go.wp_at_zero Go.wp_at_succ
abbrev ShM:=Nat→Option ImgM
def put (F : ShM) (k : Nat) (m : ImgM) : ShM:=fun j=>if j = k then some m else F j
theorem put_self {F : ShM} {k : Nat} {m : ImgM} (h : F k = some m) : put F k m = F:=funext fun j=>by unfold put; split <;> simp_all
theorem put_at (F : ShM) (k : Nat) (m : ImgM) : put F k m k = some m:=if_pos rfl
theorem put_ne (F : ShM) {k j : Nat} (m : ImgM) (h : j≠k) : put F k m j = F j:=if_neg h
def slotV (A : Nat→Nat×Nat×Nat) (F : ShM) (k : Nat) : Value:=match F k with
 | none=>.pointer none
 | some _=>.pointer (some ⟨(A k).1,0,none⟩)
def slotP (A : Nat→Nat×Nat×Nat) (F : ShM) (k : Nat) : HP:=match F k with
 | none=>emp
 | some m=>star [imgAt (A k).1 (A k).2.1 (A k).2.2 m,devAt (A k).2.1 m.d]
def shCells (A : Nat→Nat×Nat×Nat) (F : ShM) : Array Value:=#[slotV A F 0,slotV A F 1,slotV A F 2,slotV A F 3,slotV A F 4]
def shL (b : Nat) (A : Nat→Nat×Nat×Nat) (F : ShM) : List SL.HP:=[pts b (.cells (shCells A F) 111 (0,0)),slotP A F 0,slotP A F 1,slotP A F 2,slotP A F 3,slotP A F 4]
theorem shL_get {b : Nat} {A : Nat→Nat×Nat×Nat} {F : ShM} {R : List SL.HP} {k : Nat} (hk : k < 5) : (shL b A F++R)[1 + k]? = some (slotP A F k):=by
 rcases k with _ | _ | _ | _ | _ | k
 ·rfl
 ·rfl
 ·rfl
 ·rfl
 ·rfl
 ·omega
theorem slotV_put {A : Nat→Nat×Nat×Nat} {F : ShM} {k : Nat} {m m' : ImgM} (h : F k = some m) (j : Nat) : slotV A (put F k m') j = slotV A F j:=by
 unfold slotV put
 by_cases e : j = k
 ·subst e; rw [if_pos rfl,h]
 ·rw [if_neg e]
theorem shL_put {b : Nat} {A : Nat→Nat×Nat×Nat} {F : ShM} {R : List SL.HP} {k : Nat} (hk : k < 5) {m m' : ImgM} (h : F k = some m) :
  (shL b A F++R).set (1 + k) (star [imgAt (A k).1 (A k).2.1 (A k).2.2 m',devAt (A k).2.1 m'.d]) = shL b A (put F k m')++R:=by
 have hc : shCells A (put F k m') = shCells A F:=by unfold shCells; simp only [slotV_put h]
 have hs : ∀j,j≠k→slotP A (put F k m') j = slotP A F j:=fun j hj=>by unfold slotP; rw [put_ne F m' hj]
 have hk' : slotP A (put F k m') k = star [imgAt (A k).1 (A k).2.1 (A k).2.2 m',devAt (A k).2.1 m'.d]:=by unfold slotP; rw [put_at]
 rcases k with _ | _ | _ | _ | _ | k
 case succ.succ.succ.succ.succ=>omega
 all_goals
  unfold shL
  rw [hc,← hk']
  simp [hs]
theorem sh_take {b : Nat} {A : Nat→Nat×Nat×Nat} {F : ShM} {R : List SL.HP} {w : World} {k : Nat} (hk : k < 5) {m : ImgM} (h : F k = some m) (H : own w (shL b A F++R)) :
  own w (imgAt (A k).1 (A k).2.1 (A k).2.2 m::devAt (A k).2.1 m.d::(shL b A F++R).eraseIdx (1 + k)):=by
 have h1:=own_pick (1 + k) H (shL_get hk)
 have hs : slotP A F k = star [imgAt (A k).1 (A k).2.1 (A k).2.2 m,devAt (A k).2.1 m.d]:=by unfold slotP; rw [h]
 rw [hs] at h1
 exact own_star h1
theorem sh_put {b : Nat} {A : Nat→Nat×Nat×Nat} {F : ShM} {R : List SL.HP} {w w0 : World} {k : Nat} (hk : k < 5) {m m' : ImgM} (h : F k = some m) (H0 : own w0 (shL b A F++R))
  (H : own w (imgAt (A k).1 (A k).2.1 (A k).2.2 m'::devAt (A k).2.1 m'.d::(shL b A F++R).eraseIdx (1 + k))) : own w (shL b A (put F k m')++R):=by
 have h1:=own_star_mk [imgAt (A k).1 (A k).2.1 (A k).2.2 m',devAt (A k).2.1 m'.d] H
 have h2:=own_put H0 (1 + k) (shL_get hk) h1
 rwa [shL_put hk h] at h2
theorem sh_cell {b : Nat} {A : Nat→Nat×Nat×Nat} {F : ShM} {R : List SL.HP} {w : World} (H : own w (shL b A F++R)) {k : Nat} (hk : k < 5) : w.cell? ⟨b,k,none⟩ = some (slotV A F k):=by
 rw [(own_cells (l:=shL b A F++R) (b:=b) (arr:=shCells A F) (T:=111) 0 H rfl).1]
 rcases k with _ | _ | _ | _ | _ | k
 ·rfl
 ·rfl
 ·rfl
 ·rfl
 ·rfl
 ·omega
theorem slotV_some {A : Nat→Nat×Nat×Nat} {F : ShM} {k : Nat} {m : ImgM} (h : F k = some m) : slotV A F k = .pointer (some ⟨(A k).1,0,none⟩):=by unfold slotV; rw [h]
theorem slotV_none {A : Nat→Nat×Nat×Nat} {F : ShM} {k : Nat} (h : F k = none) : slotV A F k = .pointer none:=by unfold slotV; rw [h]
def rslotV (A : Nat→Nat×Nat) (F : ShM) (k : Nat) : Value:=match F k with
 | none=>.pointer none
 | some _=>.pointer (some ⟨(A k).1,0,none⟩)
def rslotP (A : Nat→Nat×Nat) (F : ShM) (k : Nat) : HP:=match F k with
 | none=>emp
 | some m=>star [rimgAt (A k).1 (A k).2 m,rdevAt (A k).2 m.d]
def rshCells (A : Nat→Nat×Nat) (F : ShM) : Array Value:=#[rslotV A F 0,rslotV A F 1,rslotV A F 2,rslotV A F 3,rslotV A F 4]
def rshL (b : Nat) (A : Nat→Nat×Nat) (F : ShM) : List SL.HP:=[pts b (.cells (rshCells A F) 114 (0,0)),rslotP A F 0,rslotP A F 1,rslotP A F 2,rslotP A F 3,rslotP A F 4]
theorem rshL_get {b : Nat} {A : Nat→Nat×Nat} {F : ShM} {R : List SL.HP} {k : Nat} (hk : k < 5) : (rshL b A F++R)[1 + k]? = some (rslotP A F k):=by
 rcases k with _ | _ | _ | _ | _ | k
 ·rfl
 ·rfl
 ·rfl
 ·rfl
 ·rfl
 ·omega
theorem rslotV_put {A : Nat→Nat×Nat} {F : ShM} {k : Nat} {m m' : ImgM} (h : F k = some m) (j : Nat) : rslotV A (put F k m') j = rslotV A F j:=by
 unfold rslotV put
 by_cases e : j = k
 ·subst e; rw [if_pos rfl,h]
 ·rw [if_neg e]
theorem rshL_put {b : Nat} {A : Nat→Nat×Nat} {F : ShM} {R : List SL.HP} {k : Nat} (hk : k < 5) {m m' : ImgM} (h : F k = some m) :
  (rshL b A F++R).set (1 + k) (star [rimgAt (A k).1 (A k).2 m',rdevAt (A k).2 m'.d]) = rshL b A (put F k m')++R:=by
 have hc : rshCells A (put F k m') = rshCells A F:=by unfold rshCells; simp only [rslotV_put h]
 have hs : ∀j,j≠k→rslotP A (put F k m') j = rslotP A F j:=fun j hj=>by unfold rslotP; rw [put_ne F m' hj]
 have hk' : rslotP A (put F k m') k = star [rimgAt (A k).1 (A k).2 m',rdevAt (A k).2 m'.d]:=by unfold rslotP; rw [put_at]
 rcases k with _ | _ | _ | _ | _ | k
 case succ.succ.succ.succ.succ=>omega
 all_goals
  unfold rshL
  rw [hc,← hk']
  simp [hs]
theorem rsh_take {b : Nat} {A : Nat→Nat×Nat} {F : ShM} {R : List SL.HP} {w : World} {k : Nat} (hk : k < 5) {m : ImgM} (h : F k = some m) (H : own w (rshL b A F++R)) :
  own w (rimgAt (A k).1 (A k).2 m::rdevAt (A k).2 m.d::(rshL b A F++R).eraseIdx (1 + k)):=by
 have h1:=own_pick (1 + k) H (rshL_get hk)
 have hs : rslotP A F k = star [rimgAt (A k).1 (A k).2 m,rdevAt (A k).2 m.d]:=by unfold rslotP; rw [h]
 rw [hs] at h1
 exact own_star h1
theorem rsh_put {b : Nat} {A : Nat→Nat×Nat} {F : ShM} {R : List SL.HP} {w w0 : World} {k : Nat} (hk : k < 5) {m m' : ImgM} (h : F k = some m) (H0 : own w0 (rshL b A F++R))
  (H : own w (rimgAt (A k).1 (A k).2 m'::rdevAt (A k).2 m'.d::(rshL b A F++R).eraseIdx (1 + k))) : own w (rshL b A (put F k m')++R):=by
 have h1:=own_star_mk [rimgAt (A k).1 (A k).2 m',rdevAt (A k).2 m'.d] H
 have h2:=own_put H0 (1 + k) (rshL_get hk) h1
 rwa [rshL_put hk h] at h2
theorem rsh_cell {b : Nat} {A : Nat→Nat×Nat} {F : ShM} {R : List SL.HP} {w : World} (H : own w (rshL b A F++R)) {k : Nat} (hk : k < 5) : w.cell? ⟨b,k,none⟩ = some (rslotV A F k):=by
 rw [(own_cells (l:=rshL b A F++R) (b:=b) (arr:=rshCells A F) (T:=114) 0 H rfl).1]
 rcases k with _ | _ | _ | _ | _ | k
 ·rfl
 ·rfl
 ·rfl
 ·rfl
 ·rfl
 ·omega
theorem rslotV_some {A : Nat→Nat×Nat} {F : ShM} {k : Nat} {m : ImgM} (h : F k = some m) : rslotV A F k = .pointer (some ⟨(A k).1,0,none⟩):=by unfold rslotV; rw [h]
theorem rslotV_none {A : Nat→Nat×Nat} {F : ShM} {k : Nat} (h : F k = none) : rslotV A F k = .pointer none:=by unfold rslotV; rw [h]
theorem rsh_img {b : Nat} {A : Nat→Nat×Nat} {F : ShM} {R : List SL.HP} {w : World} {k : Nat} (hk : k < 5) {m : ImgM} (h : F k = some m) (H : own w (rshL b A F++R)) :
  ∃vt vh,w.cell? ⟨(A k).1,0,none⟩ = some (.pointer (some ⟨(A k).2,0,none⟩))∧w.cell? ⟨(A k).1,1,none⟩ = some (.int .i64 m.c)∧w.cell? ⟨(A k).1,2,none⟩ = some (.int .i64 m.p)∧w.cell? ⟨(A k).1,3,none⟩ = some (.int .i64 m.b)∧w.cell? ⟨(A k).1,4,none⟩ = some vt∧w.cell? ⟨(A k).1,5,none⟩ = some vh∧entsAt w vt m.t:=by
 obtain ⟨vt,vh,h1⟩:=rimg_open (rsh_take hk h H)
 have c:=(own_cells 0 h1 rfl).1
 exact ⟨vt,vh,c 0,c 1,c 2,c 3,c 4,c 5,ents_row 1 h1 rfl⟩
structure ShOk (F : ShM) : Prop where
 ok : ∀k m,k < 5→F k = some m→m.Ok
 wr : ∀k m,k < 5→F k = some m→m.d.writes < 900000
 pend : ∀k m,k < 5→F k = some m→m.d.pend.length < 900000
def clus (F : ShM) (root : Int) : Int:=match F root.toNat with
 | some m=>m.c
 | none=>0
def walkGo (F : ShM) (root : Int) : Nat→List Int→Int→List Int×Int
 | 0,l,_=>(l,0)
 | n + 1,l,at_=>if at_ = -1 then (l,0) else if at_ < 0∨5≤at_ then ([],4) else match F at_.toNat with
  | none=>([],4)
  | some m=>if l.length = 5 then ([],10) else if m.c≠clus F root then ([],2) else walkGo F root n (l++[at_]) m.b
def walkM (F : ShM) (root : Int) : List Int×Int:=walkGo F root 6 [] root
def isFile (F : ShM) (x : Int) : Prop:=0≤x∧x < 5∧∃m,F x.toNat = some m
theorem walkGo_files {F : ShM} {root : Int} : ∀{n : Nat} {l : List Int} {at_ : Int},(∀x∈l,isFile F x)→∀x∈(walkGo F root n l at_).1,isFile F x:=by
 intro n
 induction n with
 | zero=>intro l at_ h; exact h
 | succ n ih=>
  intro l at_ h
  rw [walkGo]
  split
  ·exact h
  ·split
   ·intro x hx; cases hx
   ·rename_i h1
    split
    ·intro x hx; cases hx
    ·rename_i m hm
     split
     ·intro x hx; cases hx
     ·split
      ·intro x hx; cases hx
      ·refine ih fun x hx=>?_
       rcases List.mem_append.1 hx with hx | hx
       ·exact h x hx
       ·rw [List.mem_singleton.1 hx]; exact ⟨by omega,by omega,m,hm⟩
theorem walk_files (F : ShM) (root : Int) : ∀x∈(walkM F root).1,isFile F x:=walkGo_files fun x hx=>by cases hx
theorem walkGo_code {F : ShM} {root : Int} : ∀{n : Nat} {l : List Int} {at_ : Int},0≤(walkGo F root n l at_).2:=by
 intro n
 induction n with
 | zero=>intro l at_; simp [walkGo]
 | succ n ih=>
  intro l at_
  rw [walkGo]
  split
  ·simp
  ·split
   ·simp
   ·split
    ·simp
    ·split
     ·simp
     ·split
      ·simp
      ·exact ih
theorem walkGo_len {F : ShM} {root : Int} : ∀{n : Nat} {l : List Int} {at_ : Int},l.length≤5→(walkGo F root n l at_).1.length≤5:=by
 intro n
 induction n with
 | zero=>intro l at_ h; exact h
 | succ n ih=>
  intro l at_ h
  rw [walkGo]
  split
  ·exact h
  ·split
   ·simp
   ·split
    ·simp
    ·split
     ·simp
     ·split
      ·simp
      ·exact ih (by simp; omega)
def intVals (l : List Int) : List Value:=l.map (Value.int .i64)
theorem intVals_get {l : List Int} {i : Nat} (h : i < l.length) : (intVals l)[i]? = some (.int .i64 (l.getD i 0)):=by simp [intVals,h]
theorem ints_row {w : World} {L : List HP} (k : Nat) {v : Value} {l : List Int} (H : own w L) (hk : L[k]? = some (row 3 1 v l.length (intVals l))) : IntsAt w v l:=by
 obtain ⟨ao,g,cap,rfl,h1,h2,h3,-,-,h6,-⟩:=own_row_form k H hk
 refine ⟨ao,g,0,cap,rfl,h1,by simp only [maxLen] at h2; omega,h3,fun i hi=>?_⟩
 dsimp only
 rw [Nat.zero_add]
 exact h6 _ _ (intVals_get hi)
def sliceN : Value→Nat
 | .slice _ n _=>n
 | _=>0
def WalkPost (val : Int→Value) (res : List Int×Int) (L : List SL.HP) (w : World) (e : Ending) (w' : World) : Prop:=
 ∃v,e = .returned (.tuple #[v,val res.2])∧Ext w w'∧own w' (row 3 1 v res.1.length (intVals res.1)::L)
def walkInv (F : ShM) (root : Int) (res : List Int×Int) (L : List SL.HP) (w0 : World) (v i : Value) (wr : World) : Prop:=
 ∃(n : Nat) (l : List Int) (at_ : Int),n + l.length = 6∧l.length≤5∧i = .int .i64 at_∧((l = []∧at_ = root)∨(isFile F root∧-1≤at_∧at_≤4))∧walkGo F root n l at_ = res∧Ext w0 wr∧own wr (row 3 1 v l.length (intVals l)::L)
set_option maxRecDepth 100000 in
set_option maxHeartbeats 1000000 in
theorem shead_any {b : Nat} {A : Nat→Nat×Nat×Nat} {F : ShM} {k : Nat} (hk : k < 5) {m : ImgM} (h : F k = some m) (R : List SL.HP) (w : World) (H : own w (shL b A F++R)) :
  Calls Tryz.prog 71 #[.pointer (some ⟨(A k).1,0,none⟩)] w fun e w'=>e = .returned (headV m.c m.p m.b)∧Ext w w'∧own w' (shL b A F++R):=
 (imghead_any _ _ _ m _ w (sh_take hk h H)).mono fun e w' ⟨h1,h2,h3⟩=>⟨h1,h2,by have:=sh_put hk h H h3; rwa [put_self h] at this⟩
end Go.Proofs.YtbpblokfiajpjabGreatDoor
