/- The files one below the other: Walk, the program's and the document's. What a list of files has of a cluster: Found and Read, the program's and the document's. A cluster of a list of files is read: the program's and the document's. The parts of a range of sectors, and its fault: the program's and the document's. A strings.Builder that a call owns: what it is in memory, WriteString and String. The fault of a range, and what a list of files reads: the document's; a cluster that is there is read. Sectors of a list of files are read: Get, the program's and the document's. Sectors of a list of files are read: the document's Get. Acts on the files of a list: their model, steps, and an image's acts as acts of a shelf. Sectors of one cluster are laid into the first file of a list: the program's and the document's. A closed fact: a cluster is filled; an act on an image and on its model is answered the same. Sectors are written over the files of a list: Put, the program's and the document's. Sectors are written over the files of a list: the document's Put. Sectors of the files of a list are wiped: the program's and the document's. Sectors of the files of a list are wiped: the document's. A cluster's bytes are moved into a file: Move, the program's and the document's. A set of numbers: how many bits, the lowest one; the program's set. The document's set, wherever it lies. No conditions. -/
import Derived.Test.YtbpblokfiajpjabGreatDoorPk5d0bda35cf
import Derived.Test.YtbpblokfiajpjabGreatDoorProg
import Derived.Lib.AppendStr
import Derived.Lib.UnsafeStr
import Derived.Lib.Builder
import Derived.Laws.Externs
import Derived.Shelf.RegionOpenPlain
import Derived.Lib.TrailingZeros
namespace Go.Proofs.YtbpblokfiajpjabGreatDoor
open Go.RowKit Go.SL Go.Crc
attribute [local go_sem ↓] Go.wp_at_zero Go.wp_at_succ
theorem intVals_append (l m : List Int) : intVals (l++m) = intVals l++intVals m:=by simp [intVals]
theorem clus_of {F : ShM} {r : Nat} {m : ImgM} (h : F r = some m) : clus F (r : Int) = m.c:=by unfold clus; rw [Int.toNat_natCast,h]
theorem head_f0 (c p b : Int) (w : World) : (Instr.field 103 (.agg #[.int .i64 c,.int .i64 p,.int .i64 b]) 0).run Tryz.prog w = .ok (.int .i64 c) w:=by kernel_rfl
theorem head_f2 (c p b : Int) (w : World) : (Instr.field 103 (.agg #[.int .i64 c,.int .i64 p,.int .i64 b]) 2).run Tryz.prog w = .ok (.int .i64 b) w:=by kernel_rfl
set_option maxRecDepth 100000 in
set_option maxHeartbeats 8000000 in
theorem walk_any (b : Nat) (A : Nat→Nat×Nat×Nat) (F : ShM) (hF : ShOk F) (root : Int) (R : List SL.HP) (w : World) (H : own w (shL b A F++R)) :
  Calls Tryz.prog 69 #[.pointer (some ⟨b,0,none⟩),.int .i64 root] w (WalkPost errV (walkM F root) (shL b A F++R) w):=by
 generalize hres : walkM F root = res
 have HRES:=Lib.hid hres
 clear hres
 go_enter Tryz.func69,Tryz.ntmps69
 go_wp2_with fail
 go_loopw [6,7] (walkInv F root res (shL b A F++R) w) (fun v _ _=>6 - sliceN v)
 case atStart=>exact ⟨6,[],root,rfl,by simp,rfl,.inl ⟨rfl,rfl⟩,HRES.out,Ext.refl _,own_row_nil _ _ H⟩
 case round=>
  obtain ⟨n,l,at_,hn,hl,rfl,hor,hgo,hxr,hown⟩:=hrel
  obtain ⟨n,rfl⟩ : ∃k,n = k + 1:=⟨n - 1,by omega⟩
  rw [walkGo] at hgo
  have hsh : own wr (shL b A F++R):=own_drop hown
  by_cases h1 : at_ = -1
  ·rw [if_pos h1] at hgo
   subst h1
   subst hgo
   go_wp2_with fail
   go_ret2
   exact ⟨_,rfl,hxr,hown⟩
  ·rw [if_neg h1] at hgo
   by_cases h2 : at_ < 0∨5≤at_
   ·rw [if_pos h2] at hgo
    subst hgo
    have t1 : (at_ != -1) = true:=bne_iff_ne.2 h1
    by_cases h3 : at_ < 0
    ·clear h1 h2
     go_wp2_with fail
     go_ret2
     exact ⟨_,rfl,hxr,own_row_nil _ _ hsh⟩
    ·have h4 : 5≤at_:=by omega
     clear h1 h2
     go_wp2_with fail
     go_ret2
     exact ⟨_,rfl,hxr,own_row_nil _ _ hsh⟩
   ·rw [if_neg h2] at hgo
    obtain ⟨k,rfl⟩:=Int.eq_ofNat_of_zero_le (show 0≤at_ by omega)
    have hk : k < 5:=by omega
    have i1 : (0 : Int)≤(k : Int):=by omega
    have i2 : (k : Int) < 5:=by omega
    have t1 : ((k : Int) != -1) = true:=bne_iff_ne.2 h1
    rw [Int.toNat_natCast] at hgo
    have cell:=sh_cell hsh hk
    clear h1 h2
    cases hFk : F k with
    | none=>
     rw [hFk] at hgo
     rw [slotV_none hFk] at cell
     have hgo' : res = ([],4):=hgo.symm
     subst hgo'
     clear hgo
     go_wp2_with fail
     go_ret2
     exact ⟨_,rfl,hxr,own_row_nil _ _ hsh⟩
    | some m=>
     rw [hFk] at hgo
     dsimp only at hgo
     rw [slotV_some hFk] at cell
     obtain ⟨ao,g,cap,rfl,r1,r2,r3,-,-,-,-⟩:=own_row_form 0 hown rfl
     by_cases h5 : l.length = 5
     ·rw [if_pos h5] at hgo
      have hgo' : res = ([],10):=hgo.symm
      subst hgo'
      have t5 : ((l.length : Int) == 5) = true:=by simp [h5]
      have H5:=Lib.hid h5
      clear hgo h5
      go_wp2_with fail
      go_ret2
      exact ⟨_,rfl,hxr,own_row_nil _ _ hsh⟩
     ·rw [if_neg h5] at hgo
      have t5 : ((l.length : Int) == 5) = false:=by
       rw [beq_eq_false_iff_ne]; omega
      have hroot : isFile F root:=by
       rcases hor with ⟨-,h⟩ | ⟨h,-⟩
       ·rw [← h]; exact ⟨by omega,by omega,m,by rw [Int.toNat_natCast]; exact hFk⟩
       ·exact h
      have HFILE:=Lib.hid hroot
      obtain ⟨q1,q2,mr,hmr⟩:=hroot
      obtain ⟨r,rfl⟩:=Int.eq_ofNat_of_zero_le q1
      rw [Int.toNat_natCast] at hmr
      have hr : r < 5:=by omega
      have cellr:=sh_cell hsh hr
      rw [slotV_some hmr] at cellr
      rw [clus_of hmr] at hgo
      have HGO:=Lib.hid hgo
      have HFK:=Lib.hid hFk
      have HMR:=Lib.hid hmr
      have HH1:=Lib.hid (fun (R' : List SL.HP) (w : World) (H : own w (shL b A F++R'))=>shead_any hk hFk R' w H)
      have HH2:=Lib.hid (fun (R' : List SL.HP) (w : World) (H : own w (shL b A F++R'))=>shead_any hr hmr R' w H)
      unfold headV at HH1 HH2
      obtain ⟨C,-,-,-,-,-,-,-,b1,b2⟩:=(hF.ok k m hk hFk).nat
      have hl4 : l.length≤4:=by omega
      clear hor hgo hFk hmr h5 hl r3
      have f1:=head_f0 m.c m.p m.b
      have f2:=head_f0 mr.c mr.p mr.b
      have f3:=head_f2 m.c m.p m.b
      by_cases hcc : m.c = mr.c
      ·have t6 : (m.c != mr.c) = false:=by simp [hcc]
       have HGO2:=HGO.out
       rw [if_neg (by simpa using hcc)] at HGO2
       have HGO3:=Lib.hid HGO2
       clear hcc HGO2 HGO
       go_upto_region 8 with (fail)
       clear cell cellr
       have hz : own wr.drew (shL b A F++(row 3 1 (.slice ao l.length cap) l.length (intVals l)::R)):=own_drew (own_behind (shL b A F) hown)
       have hxz:=hxr.drew
       clear hown hxr hsh
       go_region_held3 (fun w'=>w'.cell? ⟨b,k,none⟩ = some (.pointer (some ⟨(A k).1,0,none⟩))∧w'.cell? ⟨b,r,none⟩ = some (.pointer (some ⟨(A r).1,0,none⟩))) (exact ⟨by rw [sh_cell hz hk,slotV_some HFK.out],by rw [sh_cell hz hr,slotV_some HMR.out]⟩) (first | (go_at_call 71; refine (HH1.out _ _ hz).mono ?_; rintro e w5 ⟨rfl,hx5,hz'⟩; have hxz:=hxz.trans hx5; have hz:=hz') | (go_at_call 71; refine (HH2.out _ _ hz).mono ?_; rintro e w6 ⟨rfl,hx6,hz'⟩; have hxz:=hxz.trans hx6; have hz:=hz'))
       all_goals
        have hz2 : own _ (row 3 1 (.slice ao l.length cap) l.length (intVals l)::(shL b A F++R)):=own_pick 6 hz rfl
        have hm5 : l.length + 1≤maxLen:=by simp only [maxLen]; omega
        have ha2:=own_alloc hz2 (.cells #[.int .i64 (k : Int)] 3)
        go_wp2_with (first | (at_builtin; refine wpList_append_row rfl _ _ 95 rfl 1 3 Tryz.underlying95 elem_int rfl (by decide) rfl ha2 rfl (some ⟨_,0,none⟩) 1 1 [.int .i64 (k : Int)] rfl rfl (alloc_news _ [.int .i64 (k : Int)] _) (fun h=>by cases h) (one_int _) hm5 (by omega) ?_))
        intro v' w7 h7' hx7
        obtain ⟨ao',g',cap',rfl,-,-,-,-,-,-,-⟩:=own_row_form 1 h7' rfl
        have h7 : own w7 (shL b A F++(row 3 1 (.slice ao' (l.length + 1) cap') (l.length + 1) (intVals l++[.int .i64 (k : Int)])::R)):=own_behind (shL b A F) (own_drop h7')
        have hx8:=(hxz.alloc (.cells #[.int .i64 (k : Int)] 3)).trans hx7
        have cell:=sh_cell h7 hk
        rw [slotV_some HFK.out] at cell
        clear hz hxz hz2 ha2 h7' hx7
        go_wp2_with fail
        refine (HH1.out _ w7 h7).mono ?_
        rintro e w8 ⟨rfl,hx9,h8⟩
        clear cell
        go_wp2_with fail
        go_roundw
        case rel=>exact ⟨n,l++[(k : Int)],m.b,by simp; omega,by simp; omega,rfl,.inr ⟨HFILE.out,by omega,by omega⟩,HGO3.out,hx8.trans hx9,by rw [intVals_append,List.length_append]; exact own_pick 6 h8 rfl⟩
        case measure=>simp [sliceN]; omega
      ·have t6 : (m.c != mr.c) = true:=by simpa using hcc
       have hgo' : res = ([],2):=by have:=HGO.out; rw [if_pos (by simpa using hcc)] at this; exact this.symm
       clear HGO hcc
       subst hgo'
       go_upto_region 8 with (fail)
       clear cell cellr
       have hz : own wr.drew (shL b A F++(row 3 1 (.slice ao l.length cap) l.length (intVals l)::R)):=own_drew (own_behind (shL b A F) hown)
       have hxz:=hxr.drew
       clear hown hxr hsh
       go_region_held3 (fun w'=>w'.cell? ⟨b,k,none⟩ = some (.pointer (some ⟨(A k).1,0,none⟩))∧w'.cell? ⟨b,r,none⟩ = some (.pointer (some ⟨(A r).1,0,none⟩))) (exact ⟨by rw [sh_cell hz hk,slotV_some HFK.out],by rw [sh_cell hz hr,slotV_some HMR.out]⟩) (first | (go_at_call 71; refine (HH1.out _ _ hz).mono ?_; rintro e w5 ⟨rfl,hx5,hz'⟩; have hxz:=hxz.trans hx5; have hz:=hz') | (go_at_call 71; refine (HH2.out _ _ hz).mono ?_; rintro e w6 ⟨rfl,hx6,hz'⟩; have hxz:=hxz.trans hx6; have hz:=hz'))
       all_goals
        go_wp2_with fail
        go_ret2
        exact ⟨_,rfl,hxz,own_row_nil _ _ (own_erase 6 hz rfl)⟩
set_option maxRecDepth 100000 in
set_option maxHeartbeats 8000000 in
theorem rwalk_any (b : Nat) (A : Nat→Nat×Nat) (F : ShM) (hF : ShOk F) (root : Int) (R : List SL.HP) (w : World) (H : own w (rshL b A F++R)) :
  Calls Tryz.prog 77 #[.pointer (some ⟨b,0,none⟩),.int .i64 root] w (WalkPost (Value.int .i64) (walkM F root) (rshL b A F++R) w):=by
 generalize hres : walkM F root = res
 have HRES:=Lib.hid hres
 clear hres
 go_enter Tryz.func77,Tryz.ntmps77
 go_wp2_with fail
 go_loopw [6,7] (walkInv F root res (rshL b A F++R) w) (fun v _ _=>6 - sliceN v)
 case atStart=>exact ⟨6,[],root,rfl,by simp,rfl,.inl ⟨rfl,rfl⟩,HRES.out,Ext.refl _,own_row_nil _ _ H⟩
 case round=>
  obtain ⟨n,l,at_,hn,hl,rfl,hor,hgo,hxr,hown⟩:=hrel
  obtain ⟨n,rfl⟩ : ∃k,n = k + 1:=⟨n - 1,by omega⟩
  rw [walkGo] at hgo
  have hsh : own wr (rshL b A F++R):=own_drop hown
  by_cases h1 : at_ = -1
  ·rw [if_pos h1] at hgo
   subst h1
   subst hgo
   go_wp2_with fail
   go_ret2
   exact ⟨_,rfl,hxr,hown⟩
  ·rw [if_neg h1] at hgo
   by_cases h2 : at_ < 0∨5≤at_
   ·rw [if_pos h2] at hgo
    subst hgo
    have t1 : (at_ != -1) = true:=bne_iff_ne.2 h1
    by_cases h3 : at_ < 0
    ·clear h1 h2
     go_wp2_with fail
     go_ret2
     exact ⟨_,rfl,hxr,own_row_nil _ _ hsh⟩
    ·have h4 : 5≤at_:=by omega
     clear h1 h2
     go_wp2_with fail
     go_ret2
     exact ⟨_,rfl,hxr,own_row_nil _ _ hsh⟩
   ·rw [if_neg h2] at hgo
    obtain ⟨k,rfl⟩:=Int.eq_ofNat_of_zero_le (show 0≤at_ by omega)
    have hk : k < 5:=by omega
    have i1 : (0 : Int)≤(k : Int):=by omega
    have i2 : (k : Int) < 5:=by omega
    have t1 : ((k : Int) != -1) = true:=bne_iff_ne.2 h1
    rw [Int.toNat_natCast] at hgo
    have cell:=rsh_cell hsh hk
    clear h1 h2
    cases hFk : F k with
    | none=>
     rw [hFk] at hgo
     rw [rslotV_none hFk] at cell
     have hgo' : res = ([],4):=hgo.symm
     subst hgo'
     clear hgo
     go_wp2_with fail
     go_ret2
     exact ⟨_,rfl,hxr,own_row_nil _ _ hsh⟩
    | some m=>
     rw [hFk] at hgo
     dsimp only at hgo
     rw [rslotV_some hFk] at cell
     obtain ⟨ao,g,cap,rfl,r1,r2,r3,-,-,-,-⟩:=own_row_form 0 hown rfl
     by_cases h5 : l.length = 5
     ·rw [if_pos h5] at hgo
      have hgo' : res = ([],10):=hgo.symm
      subst hgo'
      have t5 : ((l.length : Int) == 5) = true:=by simp [h5]
      have H5:=Lib.hid h5
      clear hgo h5
      go_wp2_with fail
      go_ret2
      exact ⟨_,rfl,hxr,own_row_nil _ _ hsh⟩
     ·rw [if_neg h5] at hgo
      have t5 : ((l.length : Int) == 5) = false:=by
       rw [beq_eq_false_iff_ne]; omega
      have hroot : isFile F root:=by
       rcases hor with ⟨-,h⟩ | ⟨h,-⟩
       ·rw [← h]; exact ⟨by omega,by omega,m,by rw [Int.toNat_natCast]; exact hFk⟩
       ·exact h
      have HFILE:=Lib.hid hroot
      obtain ⟨q1,q2,mr,hmr⟩:=hroot
      obtain ⟨r,rfl⟩:=Int.eq_ofNat_of_zero_le q1
      rw [Int.toNat_natCast] at hmr
      have hr : r < 5:=by omega
      have j1 : (0 : Int)≤(r : Int):=by omega
      have j2 : (r : Int) < 5:=by omega
      have cellr:=rsh_cell hsh hr
      rw [rslotV_some hmr] at cellr
      rw [clus_of hmr] at hgo
      obtain ⟨vt1,vh1,-,x1,-,x3,-,-,-⟩:=rsh_img hk hFk hsh
      obtain ⟨vt2,vh2,-,y1,-,-,-,-,-⟩:=rsh_img hr hmr hsh
      have HGO:=Lib.hid hgo
      have HFK:=Lib.hid hFk
      obtain ⟨C,-,-,-,-,-,-,-,b1,b2⟩:=(hF.ok k m hk hFk).nat
      have hl4 : l.length≤4:=by omega
      clear hor hgo hmr h5 hl r3 hFk
      by_cases hcc : m.c = mr.c
      ·have t6 : (m.c != mr.c) = false:=by simp [hcc]
       have HGO2:=HGO.out
       rw [if_neg (by simpa using hcc)] at HGO2
       have HGO3:=Lib.hid HGO2
       clear hcc HGO HGO2
       go_upto_region 8 with (fail)
       go_quiet (fail)
       have hz2:=own_drewN nq hown
       have hxz:=hxr.drewN nq
       clear hown hxr hsh cell cellr x1 x3 y1
       generalize wr.drewN nq = w2 at *
       have hm5 : l.length + 1≤maxLen:=by simp only [maxLen]; omega
       have ha2:=own_alloc hz2 (.cells #[.int .i64 (k : Int)] 3)
       go_wp2_with (first | (at_builtin; refine wpList_append_row rfl _ _ 95 rfl 1 3 Tryz.underlying95 elem_int rfl (by decide) rfl ha2 rfl (some ⟨_,0,none⟩) 1 1 [.int .i64 (k : Int)] rfl rfl (alloc_news _ [.int .i64 (k : Int)] _) (fun h=>by cases h) (one_int _) hm5 (by omega) ?_))
       intro v' w7 h7' hx7
       obtain ⟨ao',g',cap',rfl,-,-,-,-,-,-,-⟩:=own_row_form 1 h7' rfl
       have h7 : own w7 (rshL b A F++(row 3 1 (.slice ao' (l.length + 1) cap') (l.length + 1) (intVals l++[.int .i64 (k : Int)])::R)):=own_behind (rshL b A F) (own_drop h7')
       have hx8:=(hxz.alloc (.cells #[.int .i64 (k : Int)] 3)).trans hx7
       have cell:=rsh_cell h7 hk
       rw [rslotV_some HFK.out] at cell
       obtain ⟨vt1,vh1,-,-,-,x3,-,-,-⟩:=rsh_img hk HFK.out h7
       clear hz2 hxz ha2 h7' hx7
       go_wp2_with fail
       go_roundw
       case rel=>exact ⟨n,l++[(k : Int)],m.b,by simp; omega,by simp; omega,rfl,.inr ⟨HFILE.out,by omega,by omega⟩,HGO3.out,hx8,by rw [intVals_append,List.length_append]; exact own_pick 6 h7 rfl⟩
       case measure=>simp [sliceN]; omega
      ·have t6 : (m.c != mr.c) = true:=by simpa using hcc
       have hgo' : res = ([],2):=by have:=HGO.out; rw [if_pos (by simpa using hcc)] at this; exact this.symm
       clear HGO hcc
       subst hgo'
       go_upto_region 8 with (fail)
       go_quiet (fail)
       go_wp2_with fail
       go_ret2
       exact ⟨_,rfl,hxr.drewN nq,own_row_nil _ _ (own_drewN nq hsh)⟩
end Go.Proofs.YtbpblokfiajpjabGreatDoor

namespace Go.Proofs.YtbpblokfiajpjabGreatDoor
open Go.RowKit Go.SL Go.Crc
attribute [local go_sem ↓] Go.wp_at_zero Go.wp_at_succ
def hasC (F : ShM) (x c : Int) : Bool:=match F x.toNat with
 | some m=>m.there c && decide (m.kind c≠0)
 | none=>false
def foundGo (F : ShM) (c : Int) : Nat→List Int→Int
 | _,[]=>-1
 | i,x::l=>if hasC F x c = true then (i : Int) else foundGo F c (i + 1) l
def foundM (F : ShM) (l : List Int) (c : Int) : Int:=foundGo F c 0 l
theorem foundGo_range {F : ShM} {c : Int} : ∀{l : List Int} {i : Nat},foundGo F c i l = -1∨((i : Int)≤foundGo F c i l∧foundGo F c i l < (i : Int) + l.length):=by
 intro l
 induction l with
 | nil=>intro i; exact .inl rfl
 | cons x l ih=>
  intro i
  rw [foundGo]
  split
  ·right; simp only [List.length_cons]; omega
  ·rcases ih (i:=i + 1) with h | h
   ·exact .inl h
   ·right; simp only [List.length_cons]; omega
theorem foundM_range (F : ShM) (l : List Int) (c : Int) : foundM F l c = -1∨(0≤foundM F l c∧foundM F l c < l.length):=by
 have:=foundGo_range (F:=F) (c:=c) (l:=l) (i:=0)
 unfold foundM
 omega
theorem hasC_of {F : ShM} {k : Nat} {m : ImgM} (h : F k = some m) (c : Int) : hasC F (k : Int) c = (m.there c && decide (m.kind c≠0)):=by unfold hasC; rw [Int.toNat_natCast,h]
theorem isFile_nat {F : ShM} {x : Int} (h : isFile F x) : ∃(k : Nat) (m : ImgM),x = k∧k < 5∧F k = some m:=by
 obtain ⟨h0,h1,m,hm⟩:=h
 exact ⟨x.toNat,m,by omega,by omega,hm⟩
theorem kind_range {m : ImgM} (hm : m.Ok) {c : Int} (ht : m.there c = true) : 0≤m.kind c∧m.kind c≤2:=by
 obtain ⟨k0,-,hkl⟩:=there_range hm ht
 have:=entOk_range (hm.ents _ (ent_mem hkl))
 unfold ImgM.kind
 omega
set_option maxRecDepth 100000 in
set_option maxHeartbeats 4000000 in
theorem found_any (b : Nat) (A : Nat→Nat×Nat×Nat) (F : ShM) (hF : ShOk F) (v : Value) (l : List Int) (hl : ∀x∈l,isFile F x) (hl5 : l.length≤5) (c : Int) (R : List SL.HP) (w : World) (hv : IntsAt w v l) (H : own w (shL b A F++R)) :
  Calls Tryz.prog 152 #[.pointer (some ⟨b,0,none⟩),v,.int .i64 c] w fun e w'=>e = .returned (.int .i64 (foundM F l c))∧w = w':=by
 obtain ⟨ao,lb,off,cap,rfl,hlc,hcap,hao,hat⟩:=hv.form
 generalize hres : foundM F l c = res
 unfold foundM at hres
 have HRES:=Lib.hid hres
 have HAO:=Lib.hid hao
 have HAT:=Lib.hid hat
 have HL:=Lib.hid hl
 have HOW:=Lib.hid H
 clear hres hao hat hl hv
 go_enter Tryz.func152,Tryz.ntmps152
 go_wp2_with fail
 go_loop [13] (fun i=>∃q : Nat,q≤l.length∧i = .int .i64 q∧foundGo F c q (l.drop q) = res) (fun i=>l.length - (intOf i).toNat)
 case atStart=>exact ⟨0,Nat.zero_le _,rfl,HRES.out⟩
 case round=>
  obtain ⟨q,hq,rfl,hgo⟩:=hrel
  by_cases hlt : q < l.length
  ·obtain rfl:=HAO.out (by omega)
   have c1:=HAT.out q hlt
   rw [drop_getD 0 hlt,foundGo] at hgo
   obtain ⟨k,m,hxk,hk,hFk⟩:=isFile_nat (HL.out (l.getD q 0) (by simp [hlt]))
   rw [hxk] at c1 hgo
   rw [hasC_of hFk] at hgo
   have cell:=sh_cell HOW.out hk
   rw [slotV_some hFk] at cell
   have i1 : (0 : Int)≤(k : Int):=by omega
   have i2 : (k : Int) < 5:=by omega
   have hm:=hF.ok k m hk hFk
   have hki:=kind_any (A k).1 (A k).2.1 (A k).2.2 m hm c _ w (sh_take hk hFk HOW.out)
   have HGO:=Lib.hid hgo
   clear hgo hxk
   cases ht : m.there c
   ·rw [ht,if_neg (by decide),show errV 1 = .iface 128 (.int .i64 1) from rfl] at hki
    have HK:=Lib.hid hki
    have HT:=Lib.hid ht
    clear hki ht hm hFk
    go_wp2_with fail
    refine HK.out.mono ?_
    rintro e w' ⟨rfl,rfl⟩
    go_wp2_with fail
    go_round
    case rel=>exact ⟨q + 1,by omega,by go_num,by have:=HGO.out; rw [HT.out] at this; simpa using this⟩
    case measure=>simp [intOf]; omega
   ·rw [ht,if_pos rfl] at hki
    have HK:=Lib.hid hki
    have HT:=Lib.hid ht
    clear hki ht hm hFk
    by_cases hz : m.kind c = 0
    ·rw [hz] at HK
     have HZ:=Lib.hid hz
     clear hz
     go_wp2_with fail
     refine HK.out.mono ?_
     rintro e w' ⟨rfl,rfl⟩
     go_wp2_with fail
     go_round
     case rel=>exact ⟨q + 1,by omega,by go_num,by have:=HGO.out; rw [HT.out,HZ.out] at this; simpa using this⟩
     case measure=>simp [intOf]; omega
    ·have t0 : (m.kind c != 0) = true:=bne_iff_ne.2 hz
     have HZ:=Lib.hid hz
     clear hz
     go_wp2_with fail
     refine HK.out.mono ?_
     rintro e w' ⟨rfl,rfl⟩
     go_wp2_with fail
     go_ret
     have:=HGO.out
     rw [HT.out,if_pos (by simpa using HZ.out)] at this
     exact ⟨ret_int this,rfl⟩
  ·obtain rfl : l.length = q:=by omega
   rw [List.drop_of_length_le (Nat.le_refl _)] at hgo
   have hgo' : res = -1:=hgo.symm
   subst hgo'
   clear hgo
   go_wp2_with fail
   go_ret
   exact ⟨rfl,rfl⟩
set_option maxRecDepth 100000 in
set_option maxHeartbeats 4000000 in
theorem rfound_any (b : Nat) (A : Nat→Nat×Nat) (F : ShM) (hF : ShOk F) (v : Value) (l : List Int) (hl : ∀x∈l,isFile F x) (hl5 : l.length≤5) (c : Int) (R : List SL.HP) (w : World) (hv : IntsAt w v l) (H : own w (rshL b A F++R)) :
  Calls Tryz.prog 178 #[.pointer (some ⟨b,0,none⟩),v,.int .i64 c] w fun e w'=>e = .returned (.int .i64 (foundM F l c))∧∃n,w' = w.drewN n:=by
 obtain ⟨ao,lb,off,cap,rfl,hlc,hcap,hao,hat⟩:=hv.form
 generalize hres : foundM F l c = res
 unfold foundM at hres
 have HRES:=Lib.hid hres
 have HAO:=Lib.hid hao
 have HAT:=Lib.hid hat
 have HL:=Lib.hid hl
 have HOW:=Lib.hid H
 clear hres hao hat hl hv
 go_enter Tryz.func178,Tryz.ntmps178
 go_wp2_with fail
 go_loopw [7] (fun i wr=>∃q : Nat,q≤l.length∧i = .int .i64 q∧foundGo F c q (l.drop q) = res∧∃n,wr = w.drewN n) (fun i _=>l.length - (intOf i).toNat)
 case atStart=>exact ⟨0,Nat.zero_le _,rfl,HRES.out,0,rfl⟩
 case round=>
  obtain ⟨q,hq,rfl,hgo,nd,hwr⟩:=hrel
  have hown : own wr (rshL b A F++R):=by rw [hwr]; exact own_drewN nd HOW.out
  by_cases hlt : q < l.length
  ·obtain rfl:=HAO.out (by omega)
   have c1 : wr.cell? ⟨lb,off + q,none⟩ = some (.int .i64 (l.getD q 0)):=by rw [hwr]; exact HAT.out q hlt
   rw [drop_getD 0 hlt,foundGo] at hgo
   obtain ⟨k,m,hxk,hk,hFk⟩:=isFile_nat (HL.out (l.getD q 0) (by simp [hlt]))
   rw [hxk] at c1 hgo
   rw [hasC_of hFk] at hgo
   have cell:=rsh_cell hown hk
   rw [rslotV_some hFk] at cell
   obtain ⟨vt,vh,-,-,-,-,x4,-,x6⟩:=rsh_img hk hFk hown
   have i1 : (0 : Int)≤(k : Int):=by omega
   have i2 : (k : Int) < 5:=by omega
   have j1 : (0 : Int)≤(q : Int):=by omega
   have j2 : (q : Int) < (l.length : Int):=by omega
   have hm:=hF.ok k m hk hFk
   have hth:=fun (w' : World) (H : own w' (rshL b A F++R))=>rthere_any (A k).1 (A k).2 m c _ w' (rsh_take hk hFk H)
   have HGO:=Lib.hid hgo
   have HW:=Lib.hid hwr
   clear hgo hxk hwr
   cases ht : m.there c
   ·rw [ht] at hth
    have HTH:=Lib.hid hth
    have HT:=Lib.hid ht
    clear hth ht hm hFk x4 x6
    go_upto_region 4 with (fail)
    go_quiet ((go_at_call 168; exact Calls.quiet_of_same ((HTH.out _ (by first | exact hown | exact own_drew hown | exact own_drewN _ hown)).mono fun e w' h=>⟨h.1,h.2.symm⟩)))
    generalize nq = n1 at *
    go_wp2_with fail
    go_quiet (fail)
    go_wp2_with fail
    go_roundw
    case rel=>exact ⟨q + 1,by omega,by go_num,by have:=HGO.out; rw [HT.out] at this; simpa using this,nd + (n1 + nq),by rw [HW.out]; simp [drewN_add',Nat.add_assoc]⟩
    case measure=>simp [intOf]; omega
   ·rw [ht] at hth
    have hkr:=kind_range hm ht
    obtain ⟨k0,-,hkl⟩:=there_range hm ht
    obtain ⟨cn,rfl⟩:=Int.eq_ofNat_of_zero_le k0
    rw [Int.toNat_natCast] at hkl
    obtain ⟨eo,eb,eoff,ecap,rfl,e1,e2,e3⟩:=x6.form
    obtain rfl:=e3 (by omega)
    have y1 : wr.cell? ⟨eb,eoff + cn * 2,none⟩ = some (.int .i64 (m.kind (cn : Int))):=(x6.cells hkl).1
    have l1 : (cn : Int) < (m.t.length : Int):=by omega
    have l2 : (0 : Int)≤(cn : Int):=by omega
    have HTH:=Lib.hid hth
    have HT:=Lib.hid ht
    clear hth ht hm hFk x6 e3 k0
    by_cases hz : m.kind (cn : Int) = 0
    ·have d0 : decide (0 < m.kind (cn : Int)) = false:=decide_eq_false (by omega)
     have HZ:=Lib.hid hz
     rw [hz] at y1
     clear hz hkr d0
     go_upto_region 4 with (fail)
     go_quiet ((go_at_call 168; exact Calls.quiet_of_same ((HTH.out _ (by first | exact hown | exact own_drew hown | exact own_drewN _ hown)).mono fun e w' h=>⟨h.1,h.2.symm⟩)))
     generalize nq = n1 at *
     go_wp2_with fail
     go_quiet (fail)
     go_wp2_with fail
     go_roundw
     case rel=>exact ⟨q + 1,by omega,by go_num,by have:=HGO.out; rw [HT.out,HZ.out] at this; simpa using this,nd + (n1 + nq),by rw [HW.out]; simp [drewN_add',Nat.add_assoc]⟩
     case measure=>simp [intOf]; omega
    ·have hp : 0 < m.kind (cn : Int):=by omega
     have HZ:=Lib.hid hz
     clear hz
     generalize m.kind (cn : Int) = kd at *
     go_upto_region 4 with (fail)
     go_quiet ((go_at_call 168; exact Calls.quiet_of_same ((HTH.out _ (by first | exact hown | exact own_drew hown | exact own_drewN _ hown)).mono fun e w' h=>⟨h.1,h.2.symm⟩)))
     generalize nq = n1 at *
     go_wp2_with fail
     go_quiet (fail)
     go_wp2_with fail
     go_ret
     have:=HGO.out
     rw [HT.out,if_pos (by simpa using HZ.out)] at this
     exact ⟨ret_int this,nd + (n1 + nq),by rw [HW.out]; simp [drewN_add',Nat.add_assoc]⟩
  ·obtain rfl : l.length = q:=by omega
   rw [List.drop_of_length_le (Nat.le_refl _)] at hgo
   have hgo' : res = -1:=hgo.symm
   subst hgo'
   have HWR:=Lib.hid hwr
   clear hgo hwr
   go_wp2_with fail
   go_ret
   exact ⟨rfl,nd,HWR.out⟩
end Go.Proofs.YtbpblokfiajpjabGreatDoor

namespace Go.Proofs.YtbpblokfiajpjabGreatDoor
open Go.RowKit Go.SL Go.Crc
attribute [local go_sem ↓] Go.wp_at_zero Go.wp_at_succ
def imgRead (F : ShM) (x c : Int) : ByteArray×Int:=match F x.toNat with
 | some m=>m.read c
 | none=>(ByteArray.empty,4)
def thereC (F : ShM) (x c : Int) : Bool:=match F x.toNat with
 | some m=>m.there c
 | none=>false
def readF (F : ShM) (l : List Int) (c i : Int) : ByteArray×Int:=if i < 0 then (zs 64,0) else imgRead F (l.getD i.toNat 0) c
def readM (F : ShM) (l : List Int) (c : Int) : ByteArray×Int:=
 if l.length = 0 then (ByteArray.empty,4) else if thereC F (l.getD 0 0) c = false then (ByteArray.empty,1) else readF F l c (foundM F l c)
theorem readM_code (F : ShM) (l : List Int) (c : Int) : 0≤(readM F l c).2:=by
 unfold readM
 split
 ·simp
 ·split
  ·simp
  ·unfold readF
   split
   ·simp
   ·unfold imgRead
    split
    ·exact read_nonneg _ _
    ·simp
theorem ints_cell {w : World} {lb off n cap : Nat} {l : List Int} (h : IntsAt w (.slice (some ⟨lb,off,none⟩) n cap) l) {i : Nat} (hi : i < l.length) : w.cell? ⟨lb,off + i,none⟩ = some (.int .i64 (l.getD i 0)):=by
 obtain ⟨ao,lb',off',cap',hv,h1,h2,h3,h4⟩:=h.form
 simp only [Value.slice.injEq] at hv
 have h5:=h3 (by omega)
 rw [← hv.1] at h5
 simp only [Option.some.injEq,Addr.mk.injEq,and_true] at h5
 obtain ⟨rfl,rfl⟩:=h5
 exact h4 i hi
theorem thereC_of {F : ShM} {k : Nat} {m : ImgM} (h : F k = some m) (c : Int) : thereC F (k : Int) c = m.there c:=by unfold thereC; rw [Int.toNat_natCast,h]
theorem imgRead_of {F : ShM} {k : Nat} {m : ImgM} (h : F k = some m) (c : Int) : imgRead F (k : Int) c = m.read c:=by unfold imgRead; rw [Int.toNat_natCast,h]
theorem sread_any {b : Nat} {A : Nat→Nat×Nat×Nat} {F : ShM} {k : Nat} (hk : k < 5) {m : ImgM} (h : F k = some m) (hm : m.Ok) (c : Int) (R : List SL.HP) (w : World) (H : own w (shL b A F++R)) :
  Calls Tryz.prog 153 #[.pointer (some ⟨(A k).1,0,none⟩),.int .i64 c] w fun e w'=>e = .returned (.tuple #[.string (m.read c).1,errV (m.read c).2])∧Ext w w'∧own w' (shL b A F++R):=
 (read_any _ _ _ m hm c _ w (sh_take hk h H)).mono fun e w' ⟨h1,h2,h3⟩=>⟨h1,h2,by have:=sh_put hk h H h3; rwa [put_self h] at this⟩
theorem rsread_any {b : Nat} {A : Nat→Nat×Nat} {F : ShM} {k : Nat} (hk : k < 5) {m : ImgM} (h : F k = some m) (hm : m.Ok) (c : Int) (R : List SL.HP) (w : World) (H : own w (rshL b A F++R)) :
  Calls Tryz.prog 192 #[.pointer (some ⟨(A k).1,0,none⟩),.int .i64 c] w fun e w'=>e = .returned (.tuple #[.string (m.read c).1,.int .i64 (m.read c).2])∧Ext w w'∧own w' (rshL b A F++R):=
 (rread_any _ _ m hm c _ w (rsh_take hk h H)).mono fun e w' ⟨h1,h2,h3⟩=>⟨h1,h2,by have:=rsh_put hk h H h3; rwa [put_self h] at this⟩
set_option maxRecDepth 100000 in
set_option maxHeartbeats 4000000 in
theorem shread_any (b : Nat) (A : Nat→Nat×Nat×Nat) (F : ShM) (hF : ShOk F) (v : Value) (l : List Int) (hl : ∀x∈l,isFile F x) (hl5 : l.length≤5) (c : Int) (R : List SL.HP) (w : World) (hv : ∀w' L,own w' (L++R)→IntsAt w' v l) (H : own w (shL b A F++R)) :
  Calls Tryz.prog 59 #[.pointer (some ⟨b,0,none⟩),v,.int .i64 c] w fun e w'=>e = .returned (.tuple #[.string (readM F l c).1,errV (readM F l c).2])∧Ext w w'∧own w' (shL b A F++R):=by
 have hv0:=hv w _ H
 obtain ⟨ao,lb,off,cap,rfl,hlc,hcap,hao,-⟩:=hv0.form
 generalize hres : readM F l c = res
 unfold readM at hres
 have HV:=Lib.hid hv
 by_cases h0 : l.length = 0
 ·rw [if_pos h0] at hres
  subst hres
  have t0 : ((l.length : Int) == 0) = true:=by simp [h0]
  have H0:=Lib.hid h0
  clear h0 hv hv0 hao
  go_enter Tryz.func59,Tryz.ntmps59
  go_wp2_with fail
  go_ret2
  exact ⟨rfl,Ext.refl _,H⟩
 ·rw [if_neg h0] at hres
  have t0 : ((l.length : Int) == 0) = false:=by rw [beq_eq_false_iff_ne]; omega
  obtain rfl:=hao (by omega)
  have hpos : 0 < l.length:=by omega
  have c0 : w.cell? ⟨lb,off,none⟩ = some (.int .i64 (l.getD 0 0)):=ints_cell hv0 hpos
  obtain ⟨k,m,hxk,hk,hFk⟩:=isFile_nat (hl (l.getD 0 0) (by simp [hpos]))
  rw [hxk] at c0 hres
  rw [thereC_of hFk] at hres
  have cell:=sh_cell H hk
  rw [slotV_some hFk] at cell
  have i1 : (0 : Int)≤(k : Int):=by omega
  have i2 : (k : Int) < 5:=by omega
  have j2 : (0 : Int) < (l.length : Int):=by omega
  have hm:=hF.ok k m hk hFk
  have hki:=fun (w' : World) (H : own w' (shL b A F++R))=>kind_any (A k).1 (A k).2.1 (A k).2.2 m hm c _ w' (sh_take hk hFk H)
  have HRES:=Lib.hid hres
  have HFO:=Lib.hid (fun (w' : World) (H : own w' (shL b A F++R))=>found_any b A F hF _ l hl hl5 c R w' (hv w' _ H) H)
  have HL:=Lib.hid hl
  clear hres hxk h0 hv hv0 hl hao
  cases ht : m.there c
  ·rw [ht,if_neg (by decide),show errV 1 = .iface 128 (.int .i64 1) from rfl] at hki
   have hr2:=HRES.out
   rw [ht,if_pos rfl] at hr2
   have HR2:=Lib.hid hr2
   have HK:=Lib.hid hki
   clear hki ht hm hFk hr2
   go_enter Tryz.func59,Tryz.ntmps59
   go_upto_region 3 with (fail)
   go_quiet ((go_at_call 151; exact Calls.quiet_of_same ((HK.out _ (by first | exact H | exact own_drew H | exact own_drewN _ H)).mono fun e w' h=>⟨h.1,h.2.symm⟩)))
   go_wp2_with fail
   go_ret2
   rw [← HR2.out]
   exact ⟨rfl,(Ext.refl w).drewN _,own_drewN _ H⟩
  ·rw [ht,if_pos rfl] at hki
   have hr2:=HRES.out
   rw [ht,if_neg (by decide)] at hr2
   have HR2:=Lib.hid hr2
   have HK:=Lib.hid hki
   have hfr:=foundM_range F l c
   clear hki ht hm hFk hr2
   generalize foundM F l c = fi at *
   unfold readF at HR2
   by_cases hneg : fi < 0
   ·have hr3:=HR2.out
    rw [if_pos hneg] at hr3
    have HR3:=Lib.hid hr3
    have d0 : decide (fi < 0) = true:=decide_eq_true hneg
    clear hr3 hneg hfr
    go_enter Tryz.func59,Tryz.ntmps59
    go_upto_region 3 with (fail)
    go_quiet ((go_at_call 151; exact Calls.quiet_of_same ((HK.out _ (by first | exact H | exact own_drew H | exact own_drewN _ H)).mono fun e w' h=>⟨h.1,h.2.symm⟩)))
    generalize nq = n1 at *
    go_wp2_with fail
    refine (HFO.out _ (own_drewN n1 H)).mono ?_
    rintro e w' ⟨rfl,rfl⟩
    go_wp2_with fail
    go_ret2
    rw [← HR3.out]
    exact ⟨rfl,(Ext.refl w).drewN _,own_drewN _ H⟩
   ·have hr3:=HR2.out
    rw [if_neg hneg] at hr3
    have hfi : 0≤fi∧fi < l.length:=by omega
    obtain ⟨i,rfl⟩:=Int.eq_ofNat_of_zero_le hfi.1
    have hil : i < l.length:=by omega
    rw [Int.toNat_natCast] at hr3
    obtain ⟨k2,m2,hxk2,hk2,hFk2⟩:=isFile_nat (HL.out (l.getD i 0) (by simp [hil]))
    rw [hxk2,imgRead_of hFk2] at hr3
    have HR3:=Lib.hid hr3
    have HX2:=Lib.hid hxk2
    have HSR:=Lib.hid (fun (w : World) (H : own w (shL b A F++R))=>sread_any hk2 hFk2 (hF.ok k2 m2 hk2 hFk2) c R w H)
    have HF2:=Lib.hid hFk2
    have u1 : (0 : Int)≤(k2 : Int):=by omega
    have u2 : (k2 : Int) < 5:=by omega
    have u3 : (i : Int) < (l.length : Int):=by omega
    have u4 : (0 : Int)≤(i : Int):=by omega
    clear hr3 hneg hfr hfi hxk2 hFk2
    go_enter Tryz.func59,Tryz.ntmps59
    go_upto_region 3 with (fail)
    go_quiet ((go_at_call 151; exact Calls.quiet_of_same ((HK.out _ (by first | exact H | exact own_drew H | exact own_drewN _ H)).mono fun e w' h=>⟨h.1,h.2.symm⟩)))
    generalize nq = n1 at *
    have hd:=own_drewN n1 H
    have hxd:=(Ext.refl w).drewN n1
    generalize w.drewN n1 = w1 at *
    clear c0 cell
    go_wp2_with fail
    refine (HFO.out _ hd).mono ?_
    rintro e w' ⟨rfl,rfl⟩
    go_upto_region 9 with (fail)
    have hz:=own_drew hd
    have hxz:=hxd.drew
    go_region_held3 (fun w'=>w'.cell? ⟨lb,off + i,none⟩ = some (.int .i64 (k2 : Int))∧w'.cell? ⟨b,k2,none⟩ = some (.pointer (some ⟨(A k2).1,0,none⟩))) (exact ⟨by rw [← HX2.out]; exact ints_cell (HV.out _ _ hz) hil,by rw [sh_cell hz hk2,slotV_some HF2.out]⟩) ((go_at_call 153; refine (HSR.out _ hz).mono ?_; rintro e w5 ⟨rfl,hx5,hz'⟩; have hxz:=hxz.trans hx5; have hz:=hz'))
    go_wp2_with fail
    go_ret2
    rw [← HR3.out]
    exact ⟨rfl,hxz,hz⟩
set_option maxRecDepth 100000 in
set_option maxHeartbeats 4000000 in
theorem rshread_any (b : Nat) (A : Nat→Nat×Nat) (F : ShM) (hF : ShOk F) (v : Value) (l : List Int) (hl : ∀x∈l,isFile F x) (hl5 : l.length≤5) (c : Int) (R : List SL.HP) (w : World) (hv : ∀w' L,own w' (L++R)→IntsAt w' v l) (H : own w (rshL b A F++R)) :
  Calls Tryz.prog 181 #[.pointer (some ⟨b,0,none⟩),v,.int .i64 c] w fun e w'=>e = .returned (.tuple #[.string (readM F l c).1,.int .i64 (readM F l c).2])∧Ext w w'∧own w' (rshL b A F++R):=by
 have hv0:=hv w _ H
 obtain ⟨ao,lb,off,cap,rfl,hlc,hcap,hao,-⟩:=hv0.form
 generalize hres : readM F l c = res
 unfold readM at hres
 have HV:=Lib.hid hv
 by_cases h0 : l.length = 0
 ·rw [if_pos h0] at hres
  subst hres
  have t0 : ((l.length : Int) == 0) = true:=by simp [h0]
  have H0:=Lib.hid h0
  clear h0 hv hv0 hao
  go_enter Tryz.func181,Tryz.ntmps181
  go_wp2_with fail
  go_ret2
  exact ⟨rfl,Ext.refl _,H⟩
 ·rw [if_neg h0] at hres
  have t0 : ((l.length : Int) == 0) = false:=by rw [beq_eq_false_iff_ne]; omega
  obtain rfl:=hao (by omega)
  have hpos : 0 < l.length:=by omega
  have c0 : w.cell? ⟨lb,off,none⟩ = some (.int .i64 (l.getD 0 0)):=ints_cell hv0 hpos
  obtain ⟨k,m,hxk,hk,hFk⟩:=isFile_nat (hl (l.getD 0 0) (by simp [hpos]))
  rw [hxk] at c0 hres
  rw [thereC_of hFk] at hres
  have cell:=rsh_cell H hk
  rw [rslotV_some hFk] at cell
  have i1 : (0 : Int)≤(k : Int):=by omega
  have i2 : (k : Int) < 5:=by omega
  have j2 : (0 : Int) < (l.length : Int):=by omega
  have hm:=hF.ok k m hk hFk
  have hki:=fun (w' : World) (H : own w' (rshL b A F++R))=>rthere_any (A k).1 (A k).2 m c _ w' (rsh_take hk hFk H)
  have HRES:=Lib.hid hres
  have HFO:=Lib.hid (fun (w' : World) (H : own w' (rshL b A F++R))=>rfound_any b A F hF _ l hl hl5 c R w' (hv w' _ H) H)
  have HL:=Lib.hid hl
  clear hres hxk h0 hv hv0 hl hao
  cases ht : m.there c
  ·rw [ht] at hki
   have hr2:=HRES.out
   rw [ht,if_pos rfl] at hr2
   have HR2:=Lib.hid hr2
   have HK:=Lib.hid hki
   clear hki ht hm hFk hr2
   go_enter Tryz.func181,Tryz.ntmps181
   go_upto_region 3 with (fail)
   go_quiet ((go_at_call 168; exact Calls.quiet_of_same ((HK.out _ (by first | exact H | exact own_drew H | exact own_drewN _ H)).mono fun e w' h=>⟨h.1,h.2.symm⟩)))
   go_wp2_with fail
   go_ret2
   rw [← HR2.out]
   exact ⟨rfl,(Ext.refl w).drewN _,own_drewN _ H⟩
  ·rw [ht] at hki
   have hr2:=HRES.out
   rw [ht,if_neg (by decide)] at hr2
   have HR2:=Lib.hid hr2
   have HK:=Lib.hid hki
   have hfr:=foundM_range F l c
   clear hki ht hm hFk hr2
   generalize foundM F l c = fi at *
   unfold readF at HR2
   by_cases hneg : fi < 0
   ·have hr3:=HR2.out
    rw [if_pos hneg] at hr3
    have HR3:=Lib.hid hr3
    have d0 : decide (fi < 0) = true:=decide_eq_true hneg
    clear hr3 hneg hfr
    go_enter Tryz.func181,Tryz.ntmps181
    go_upto_region 3 with (fail)
    go_quiet ((go_at_call 168; exact Calls.quiet_of_same ((HK.out _ (by first | exact H | exact own_drew H | exact own_drewN _ H)).mono fun e w' h=>⟨h.1,h.2.symm⟩)))
    generalize nq = n1 at *
    go_wp2_with fail
    refine (HFO.out _ (own_drewN n1 H)).mono ?_
    rintro e w' ⟨rfl,n2,rfl⟩
    go_wp2_with fail
    refine (noughts_any 64 (by decide) _ _ (own_drewN (n1 + n2) H)).mono ?_
    rintro e w5 ⟨rfl,hx5,h5⟩
    go_wp2_with fail
    go_ret2
    rw [← HR3.out]
    exact ⟨rfl,((Ext.refl w).drewN _).trans hx5,h5⟩
   ·have hr3:=HR2.out
    rw [if_neg hneg] at hr3
    have hfi : 0≤fi∧fi < l.length:=by omega
    obtain ⟨i,rfl⟩:=Int.eq_ofNat_of_zero_le hfi.1
    have hil : i < l.length:=by omega
    rw [Int.toNat_natCast] at hr3
    obtain ⟨k2,m2,hxk2,hk2,hFk2⟩:=isFile_nat (HL.out (l.getD i 0) (by simp [hil]))
    rw [hxk2,imgRead_of hFk2] at hr3
    have HR3:=Lib.hid hr3
    have HX2:=Lib.hid hxk2
    have HSR:=Lib.hid (fun (w : World) (H : own w (rshL b A F++R))=>rsread_any hk2 hFk2 (hF.ok k2 m2 hk2 hFk2) c R w H)
    have HF2:=Lib.hid hFk2
    have u1 : (0 : Int)≤(k2 : Int):=by omega
    have u2 : (k2 : Int) < 5:=by omega
    have u3 : (i : Int) < (l.length : Int):=by omega
    have u4 : (0 : Int)≤(i : Int):=by omega
    clear hr3 hneg hfr hfi hxk2 hFk2
    go_enter Tryz.func181,Tryz.ntmps181
    go_upto_region 3 with (fail)
    go_quiet ((go_at_call 168; exact Calls.quiet_of_same ((HK.out _ (by first | exact H | exact own_drew H | exact own_drewN _ H)).mono fun e w' h=>⟨h.1,h.2.symm⟩)))
    generalize nq = n1 at *
    have hd:=own_drewN n1 H
    have hxd:=(Ext.refl w).drewN n1
    generalize w.drewN n1 = w1 at *
    clear c0 cell
    go_wp2_with fail
    refine (HFO.out _ hd).mono ?_
    rintro e w' ⟨rfl,n2,rfl⟩
    have hd2:=own_drewN n2 hd
    have hxd2:=hxd.drewN n2
    generalize w1.drewN n2 = w2 at *
    go_upto_region 9 with (fail)
    have hz:=own_drew hd2
    have hxz:=hxd2.drew
    go_region_held3 (fun w'=>w'.cell? ⟨lb,off + i,none⟩ = some (.int .i64 (k2 : Int))∧w'.cell? ⟨b,k2,none⟩ = some (.pointer (some ⟨(A k2).1,0,none⟩))) (exact ⟨by rw [← HX2.out]; exact ints_cell (HV.out _ _ hz) hil,by rw [rsh_cell hz hk2,rslotV_some HF2.out]⟩) ((go_at_call 192; refine (HSR.out _ hz).mono ?_; rintro e w5 ⟨rfl,hx5,hz'⟩; have hxz:=hxz.trans hx5; have hz:=hz'))
    go_wp2_with fail
    go_ret2
    rw [← HR3.out]
    exact ⟨rfl,hxz,hz⟩
end Go.Proofs.YtbpblokfiajpjabGreatDoor

namespace Go.Proofs.YtbpblokfiajpjabGreatDoor
open Go.RowKit Go.SL Go.Crc
attribute [local go_sem ↓] Go.wp_at_zero Go.wp_at_succ
end Go.Proofs.YtbpblokfiajpjabGreatDoor

namespace Go.SL
open Go.RowKit Go.Lib
section
variable {P : Program}
end
end Go.SL
namespace Go.Proofs.YtbpblokfiajpjabGreatDoor
open Go.RowKit Go.SL Go.Crc
attribute [local go_sem ↓] Go.wp_at_zero Go.wp_at_succ
end Go.Proofs.YtbpblokfiajpjabGreatDoor

namespace Go.Proofs.YtbpblokfiajpjabGreatDoor
open Go.RowKit Go.SL Go.Crc
attribute [local go_sem ↓] Go.wp_at_zero Go.wp_at_succ
theorem foundGo_has {F : ShM} {c : Int} : ∀{l : List Int} {i : Nat},0≤foundGo F c i l→hasC F (l.getD ((foundGo F c i l).toNat - i) 0) c = true:=by
 intro l
 induction l with
 | nil=>intro i h; simp [foundGo] at h
 | cons x l ih=>
  intro i h
  rw [foundGo] at h ⊢
  by_cases hx : hasC F x c = true
  ·rw [if_pos hx] at h ⊢
   simpa using hx
  ·rw [if_neg hx] at h ⊢
   have hr:=foundGo_range (F:=F) (c:=c) (l:=l) (i:=i + 1)
   have:=ih h
   rw [show (foundGo F c (i + 1) l).toNat - i = (foundGo F c (i + 1) l).toNat - (i + 1) + 1 by omega]
   simpa using this
theorem foundM_has {F : ShM} {l : List Int} {c : Int} (h : 0≤foundM F l c) : hasC F (l.getD (foundM F l c).toNat 0) c = true:=by
 have:=foundGo_has (F:=F) (c:=c) (l:=l) (i:=0) h
 simpa [foundM] using this
theorem first_ge' {m : ImgM} (hm : m.Ok) {y : Int} (h0 : 0≤y) : 1≤m.first y:=by
 unfold ImgM.first
 omega
theorem secs_size {m : ImgM} (hm : m.Ok) {k : Nat} (hkl : k < m.t.length) (h0 : m.kind k = 2) : (cat (m.secs (ent m.t k).2 4)).size = 64:=by
 obtain ⟨y0,y1⟩:=data_range hm hkl h0
 have hin:=first_in hm y0 y1
 have hf:=first_ge' hm y0
 have:=catL_length (l:=m.secs (ent m.t k).2 4) (k:=16) fun s hs=>by
  simp only [ImgM.secs,List.mem_map,List.mem_range] at hs
  obtain ⟨j,hj,rfl⟩:=hs
  exact seen_size hm.d (by omega) (by omega)
 simp [ImgM.secs] at this
 simpa [cat,ByteArray.size,ImgM.secs] using this
theorem imgread_ok {m : ImgM} (hm : m.Ok) {c : Int} (ht : m.there c = true) (hk : m.kind c≠0) : (m.read c).2 = 0∧(m.read c).1.size = 64:=by
 obtain ⟨k0,-,hkl⟩:=there_range hm ht
 obtain ⟨n,rfl⟩:=Int.eq_ofNat_of_zero_le k0
 rw [Int.toNat_natCast] at hkl
 unfold ImgM.read
 rw [if_pos ht,if_neg hk]
 rcases kind_cases hm hkl with h0 | h0 | h0
 ·exact absurd h0 hk
 ·rw [if_pos h0]
  exact ⟨rfl,rfl⟩
 ·rw [if_neg (by omega),Int.toNat_natCast]
  exact ⟨rfl,secs_size hm hkl h0⟩
theorem readM_ok {F : ShM} (hF : ShOk F) {l : List Int} (hl : ∀x∈l,isFile F x) (h0 : l.length≠0) {c : Int} (hc : thereC F (l.getD 0 0) c = true) : (readM F l c).2 = 0∧(readM F l c).1.size = 64:=by
 unfold readM
 rw [if_neg h0,if_neg (by rw [hc]; decide)]
 unfold readF
 split
 ·exact ⟨rfl,rfl⟩
 ·rename_i hneg
  have hh:=foundM_has (F:=F) (l:=l) (c:=c) (by omega)
  have hr:=foundM_range F l c
  obtain ⟨k,m,hxk,hk,hFk⟩:=isFile_nat (hl (l.getD (foundM F l c).toNat 0) (by
   have : (foundM F l c).toNat < l.length:=by omega
   simp [this]))
  rw [hxk] at hh ⊢
  rw [hasC_of hFk] at hh
  rw [imgRead_of hFk]
  rw [Bool.and_eq_true,decide_eq_true_iff] at hh
  exact imgread_ok (hF.ok k m hk hFk) hh.1 hh.2
end Go.Proofs.YtbpblokfiajpjabGreatDoor

namespace Go.Proofs.YtbpblokfiajpjabGreatDoor
open Go.RowKit Go.SL Go.Crc
attribute [local go_sem ↓] Go.wp_at_zero Go.wp_at_succ
theorem ints_more {R : List SL.HP} {v : Value} {l : List Int} (hv : ∀w' L,own w' (L++R)→IntsAt w' v l) (X : List SL.HP) : ∀w' L,own w' (L++(X++R))→IntsAt w' v l:=fun w' L h=>hv w' (L++X) (by rwa [List.append_assoc])
end Go.Proofs.YtbpblokfiajpjabGreatDoor

namespace Go.Proofs.YtbpblokfiajpjabGreatDoor
open Go.RowKit Go.SL Go.Crc
attribute [local go_sem ↓] Go.wp_at_zero Go.wp_at_succ
end Go.Proofs.YtbpblokfiajpjabGreatDoor

namespace Go.Proofs.YtbpblokfiajpjabGreatDoor
open Go.RowKit Go.SL Go.Crc
attribute [local go_sem ↓] Go.wp_at_zero Go.wp_at_succ
structure ShStep (n : Nat) (F F' : ShM) : Prop where
 no : ∀k,F k = none→F' k = none
 yes : ∀k m,k < 5→F k = some m→∃m',F' k = some m'∧Step n m m'∧m'.b = m.b
theorem ShStep.refl {F : ShM} (hF : ShOk F) (n : Nat) : ShStep n F F:=⟨fun _ h=>h,fun k m hk h=>⟨m,h,Step.refl (hF.ok k m hk h) n,rfl⟩⟩
theorem ShStep.trans {a b : Nat} {F G H : ShM} (h : ShStep a F G) (g : ShStep b G H) : ShStep (a + b) F H:=
 ⟨fun k hk=>g.no k (h.no k hk),fun k m hk hm=>by
  obtain ⟨m1,h1,s1,b1⟩:=h.yes k m hk hm
  obtain ⟨m2,h2,s2,b2⟩:=g.yes k m1 hk h1
  exact ⟨m2,h2,s1.trans s2,b2.trans b1⟩⟩
theorem ShStep.mono {a b : Nat} {F G : ShM} (h : ShStep a F G) (hab : a≤b) : ShStep b F G:=
 ⟨h.no,fun k m hk hm=>let ⟨m1,h1,s1,b1⟩:=h.yes k m hk hm; ⟨m1,h1,s1.mono hab,b1⟩⟩
theorem ShStep.of_put {F : ShM} (hF : ShOk F) {k : Nat} {m m' : ImgM} (h : F k = some m) {n : Nat} (hs : Step n m m') (hb : m'.b = m.b) : ShStep n F (put F k m'):=by
 refine ⟨fun j hj=>?_,fun j mj hj hmj=>?_⟩
 ·by_cases e : j = k
  ·subst e; rw [h] at hj; cases hj
  ·rw [put_ne F m' e]; exact hj
 ·by_cases e : j = k
  ·subst e
   rw [h] at hmj
   cases hmj
   exact ⟨m',put_at F j m',hs,hb⟩
  ·exact ⟨mj,by rw [put_ne F m' e]; exact hmj,Step.refl (hF.ok j mj hj hmj) n,rfl⟩
theorem ShStep.file {n : Nat} {F F' : ShM} (h : ShStep n F F') {x : Int} (hx : isFile F x) : isFile F' x:=by
 obtain ⟨h0,h1,m,hm⟩:=hx
 obtain ⟨m',hm',-⟩:=h.yes _ m (by omega) hm
 exact ⟨h0,h1,m',hm'⟩
structure ShW (N : Nat) (F : ShM) : Prop where
 ok : ∀k m,k < 5→F k = some m→m.Ok
 wr : ∀k m,k < 5→F k = some m→m.d.writes≤N
 pend : ∀k m,k < 5→F k = some m→m.d.pend.length≤N
theorem ShW.sh {N : Nat} {F : ShM} (h : ShW N F) (hN : N < 900000) : ShOk F:=
 ⟨h.ok,fun k m hk hm=>by have:=h.wr k m hk hm; omega,fun k m hk hm=>by have:=h.pend k m hk hm; omega⟩
theorem ShW.step {N n : Nat} {F F' : ShM} (h : ShW N F) (s : ShStep n F F') : ShW (N + n) F':=by
 have key : ∀k m',k < 5→F' k = some m'→∃m,F k = some m∧Step n m m':=fun k m' hk hm'=>by
  cases e : F k with
  | none=>rw [s.no k e] at hm'; cases hm'
  | some m=>
   obtain ⟨m'',h1,h2,-⟩:=s.yes k m hk e
   rw [hm'] at h1
   cases h1
   exact ⟨m,rfl,h2⟩
 refine ⟨fun k m' hk hm'=>?_,fun k m' hk hm'=>?_,fun k m' hk hm'=>?_⟩
 ·obtain ⟨m,-,h2⟩:=key k m' hk hm'; exact h2.ok
 ·obtain ⟨m,h1,h2⟩:=key k m' hk hm'
  have:=h.wr k m hk h1
  have:=h2.wr
  omega
 ·obtain ⟨m,h1,h2⟩:=key k m' hk hm'
  have:=h.pend k m hk h1
  have:=h2.pend
  omega
theorem ShW.mono {N M : Nat} {F : ShM} (h : ShW N F) (hNM : N≤M) : ShW M F:=⟨h.ok,fun k m hk hm=>by have:=h.wr k m hk hm; omega,fun k m hk hm=>Nat.le_trans (h.pend k m hk hm) hNM⟩
theorem wr_b (m : ImgM) (k fr : Int) (s : ByteArray) : (m.wr k fr s).2.b = m.b:=by
 unfold ImgM.wr
 split
 ·rfl
 ·split <;> rfl
theorem setE_b (m : ImgM) (k : Nat) (e : Ent) : (m.setE k e).2.b = m.b:=by
 unfold ImgM.setE
 dsimp only
 split <;> rfl
theorem clear_b (m : ImgM) (k : Int) : (m.clear k).2.b = m.b:=by
 unfold ImgM.clear
 repeat' split
 ·rfl
 ·exact setE_b _ _ _
 ·rfl
theorem fill_b (m : ImgM) (k : Int) (s : ByteArray) : (m.fill k s).2.b = m.b:=by
 unfold ImgM.fill ImgM.fillAt
 repeat' split
 all_goals first | rfl | exact setE_b _ _ _
def moveM (F : ShM) (x : Nat) (c : Int) (s : ByteArray) : Int×ShM:=match F x with
 | none=>(0,F)
 | some m=>if s = zs 64 then ((m.clear c).1,put F x (m.clear c).2) else if m.there c = false then (1,F) else if m.kind c = 2 then ((m.wr c 0 s).1,put F x (m.wr c 0 s).2) else ((m.fill c s).1,put F x (m.fill c s).2)
theorem moveM_step {F : ShM} (hF : ShOk F) {x : Nat} (h5 : x < 5) (c : Int) (s : ByteArray) : ShStep 5 F (moveM F x c s).2:=by
 unfold moveM
 split
 ·exact ShStep.refl hF 5
 ·rename_i m hm
  have hw:=hF.wr _ m h5 hm
  have hp:=hF.pend _ m h5 hm
  have ho:=hF.ok _ m h5 hm
  split
  ·exact ShStep.of_put hF hm ((step_clear ho (by omega) (by omega) _).mono (by omega)) (clear_b _ _)
  ·split
   ·exact ShStep.refl hF 5
   ·split
    ·exact ShStep.of_put hF hm ((step_wr ho (by omega) (by omega) _ _ _).mono (by omega)) (wr_b _ _ _ _)
    ·exact ShStep.of_put hF hm (step_fill ho (by omega) (by omega) _ _) (fill_b _ _ _)
section
variable {b : Nat} {F : ShM} {k : Nat} {m : ImgM}
theorem skind_any {A : Nat→Nat×Nat×Nat} (hk : k < 5) (h : F k = some m) (hm : m.Ok) (c : Int) (ht : m.there c = true) (R : List SL.HP) (w : World) (H : own w (shL b A F++R)) :
  Calls Tryz.prog 151 #[.pointer (some ⟨(A k).1,0,none⟩),.int .i64 c] w fun e w'=>e = .returned (.tuple #[.int .i64 (m.kind c),.nilIface])∧w = w':=by
 have h1:=kind_any (A k).1 (A k).2.1 (A k).2.2 m hm c _ w (sh_take hk h H)
 rwa [ht,if_pos rfl] at h1
theorem skindno_any {A : Nat→Nat×Nat×Nat} (hk : k < 5) (h : F k = some m) (hm : m.Ok) (c : Int) (ht : m.there c = false) (R : List SL.HP) (w : World) (H : own w (shL b A F++R)) :
  Calls Tryz.prog 151 #[.pointer (some ⟨(A k).1,0,none⟩),.int .i64 c] w fun e w'=>e = .returned (.tuple #[.int .i64 0,.iface 128 (.int .i64 1)])∧w = w':=by
 have h1:=kind_any (A k).1 (A k).2.1 (A k).2.2 m hm c _ w (sh_take hk h H)
 rwa [ht,if_neg (by decide),show errV 1 = .iface 128 (.int .i64 1) from rfl] at h1
theorem swrite_any {A : Nat→Nat×Nat×Nat} (hk : k < 5) (h : F k = some m) (hF : ShOk F) (c fr : Int) (f0 : i64ok fr) (s : ByteArray) (hs : s.size≤9223372036854775807) (R : List SL.HP) (w : World) (H : own w (shL b A F++R)) :
  Calls Tryz.prog 259 #[.pointer (some ⟨(A k).1,0,none⟩),.int .i64 c,.int .i64 fr,.string s] w fun e w'=>e = .returned (errV (m.wr c fr s).1)∧Ext w w'∧own w' (shL b A (put F k (m.wr c fr s).2)++R):=
 (write_any _ _ _ m (hF.ok k m hk h) (by have:=hF.pend k m hk h; omega) (by have:=hF.wr k m hk h; omega) c fr f0 s hs _ w (sh_take hk h H)).mono fun e w' ⟨h1,h2,h3⟩=>⟨h1,h2,sh_put hk h H h3⟩
theorem sfill_any {A : Nat→Nat×Nat×Nat} (hk : k < 5) (h : F k = some m) (hF : ShOk F) (c : Int) (s : ByteArray) (hs : s.size≤9223372036854775807) (R : List SL.HP) (w : World) (H : own w (shL b A F++R)) :
  Calls Tryz.prog 67 #[.pointer (some ⟨(A k).1,0,none⟩),.int .i64 c,.string s] w fun e w'=>e = .returned (errV (m.fill c s).1)∧Ext w w'∧own w' (shL b A (put F k (m.fill c s).2)++R):=
 (fill_any _ _ _ m (hF.ok k m hk h) (by have:=hF.pend k m hk h; omega) (by have:=hF.wr k m hk h; omega) c s hs _ w (sh_take hk h H)).mono fun e w' ⟨h1,h2,h3⟩=>⟨h1,h2,sh_put hk h H h3⟩
theorem sclear_any {A : Nat→Nat×Nat×Nat} (hk : k < 5) (h : F k = some m) (hF : ShOk F) (c : Int) (R : List SL.HP) (w : World) (H : own w (shL b A F++R)) :
  Calls Tryz.prog 65 #[.pointer (some ⟨(A k).1,0,none⟩),.int .i64 c] w fun e w'=>e = .returned (errV (m.clear c).1)∧Ext w w'∧own w' (shL b A (put F k (m.clear c).2)++R):=
 (clear_any _ _ _ m (hF.ok k m hk h) (by have:=hF.wr k m hk h; omega) (by have:=hF.pend k m hk h; omega) c _ w (sh_take hk h H)).mono fun e w' ⟨h1,h2,h3⟩=>⟨h1,h2,sh_put hk h H h3⟩
theorem rswrite_any {A : Nat→Nat×Nat} (hk : k < 5) (h : F k = some m) (hF : ShOk F) (c fr : Int) (f0 : i64ok fr) (s : ByteArray) (hs : s.size≤9223372036854775807) (R : List SL.HP) (w : World) (H : own w (rshL b A F++R)) :
  Calls Tryz.prog 241 #[.pointer (some ⟨(A k).1,0,none⟩),.int .i64 c,.int .i64 fr,.string s] w fun e w'=>e = .returned (.int .i64 (m.wr c fr s).1)∧Ext w w'∧own w' (rshL b A (put F k (m.wr c fr s).2)++R):=
 (rwrite_any _ _ m (hF.ok k m hk h) (by have:=hF.pend k m hk h; omega) (by have:=hF.wr k m hk h; omega) c fr f0 s hs _ w (rsh_take hk h H)).mono fun e w' ⟨h1,h2,h3⟩=>⟨h1,h2,rsh_put hk h H h3⟩
theorem rsfill_any {A : Nat→Nat×Nat} (hk : k < 5) (h : F k = some m) (hF : ShOk F) (c : Int) (s : ByteArray) (hs : s.size≤9223372036854775807) (R : List SL.HP) (w : World) (H : own w (rshL b A F++R)) :
  Calls Tryz.prog 68 #[.pointer (some ⟨(A k).1,0,none⟩),.int .i64 c,.string s] w fun e w'=>e = .returned (.int .i64 (m.fill c s).1)∧Ext w w'∧own w' (rshL b A (put F k (m.fill c s).2)++R):=
 (rfill_any _ _ m (hF.ok k m hk h) (by have:=hF.pend k m hk h; omega) (by have:=hF.wr k m hk h; omega) (by have:=held_le40 (hF.ok k m hk h); omega) c s hs _ w (rsh_take hk h H)).mono fun e w' ⟨h1,h2,h3⟩=>⟨h1,h2,rsh_put hk h H h3⟩
theorem rsclear_any {A : Nat→Nat×Nat} (hk : k < 5) (h : F k = some m) (hF : ShOk F) (c : Int) (R : List SL.HP) (w : World) (H : own w (rshL b A F++R)) :
  Calls Tryz.prog 66 #[.pointer (some ⟨(A k).1,0,none⟩),.int .i64 c] w fun e w'=>e = .returned (.int .i64 (m.clear c).1)∧Ext w w'∧own w' (rshL b A (put F k (m.clear c).2)++R):=
 (rclear_any _ _ m (hF.ok k m hk h) (by have:=hF.wr k m hk h; omega) (by have:=hF.pend k m hk h; omega) (by have:=held_le40 (hF.ok k m hk h); omega) c _ w (rsh_take hk h H)).mono fun e w' ⟨h1,h2,h3⟩=>⟨h1,h2,rsh_put hk h H h3⟩
end
end Go.Proofs.YtbpblokfiajpjabGreatDoor

namespace Go.Proofs.YtbpblokfiajpjabGreatDoor
open Go.RowKit Go.SL Go.Crc
attribute [local go_sem ↓] Go.wp_at_zero Go.wp_at_succ
end Go.Proofs.YtbpblokfiajpjabGreatDoor

namespace Go.Proofs.YtbpblokfiajpjabGreatDoor
open Go.RowKit Go.SL Go.Crc
attribute [local go_sem ↓] Go.wp_at_zero Go.wp_at_succ
theorem setE_nonneg (m : ImgM) (k : Nat) (e : Ent) : 0≤(m.setE k e).1:=by
 unfold ImgM.setE
 dsimp only
 split
 ·exact write_nonneg _ _ _
 ·simp
theorem wr_nonneg (m : ImgM) (k fr : Int) (s : ByteArray) : 0≤(m.wr k fr s).1:=by
 unfold ImgM.wr
 split
 ·simp
 ·split
  ·simp
  ·exact puts_nonneg
theorem fill_nonneg (m : ImgM) (k : Int) (s : ByteArray) : 0≤(m.fill k s).1:=by
 unfold ImgM.fill
 split
 ·simp
 ·split
  ·simp
  ·split
   ·simp
   ·unfold ImgM.fillAt
    split
    ·exact puts_nonneg
    ·exact setE_nonneg _ _ _
theorem clear_nonneg (m : ImgM) (k : Int) : 0≤(m.clear k).1:=by
 unfold ImgM.clear
 split
 ·split
  ·simp
  ·exact setE_nonneg _ _ _
 ·simp
theorem link_nonneg (m : ImgM) (k : Int) : 0≤(m.link k).1:=by
 unfold ImgM.link
 split
 ·simp
 ·split
  ·exact write_nonneg _ _ _
  ·simp
end Go.Proofs.YtbpblokfiajpjabGreatDoor

namespace Go.Proofs.YtbpblokfiajpjabGreatDoor
open Go.RowKit Go.SL Go.Crc
attribute [local go_sem ↓] Go.wp_at_zero Go.wp_at_succ
theorem moveM_code (F : ShM) (x : Nat) (c : Int) (s : ByteArray) : 0≤(moveM F x c s).1:=by
 unfold moveM
 split
 ·simp
 ·split
  ·exact clear_nonneg _ _
  ·split
   ·simp
   ·split
    ·exact wr_nonneg _ _ _ _
    ·exact fill_nonneg _ _ _
theorem mem0 {l : List Int} (h0 : l.length≠0) : l.getD 0 0∈l:=by simp [show 0 < l.length by omega]
end Go.Proofs.YtbpblokfiajpjabGreatDoor

namespace Go.Proofs.YtbpblokfiajpjabGreatDoor
open Go.RowKit Go.SL Go.Crc
attribute [local go_sem ↓] Go.wp_at_zero Go.wp_at_succ
end Go.Proofs.YtbpblokfiajpjabGreatDoor

namespace Go.Proofs.YtbpblokfiajpjabGreatDoor
open Go.RowKit Go.SL Go.Crc
attribute [local go_sem ↓] Go.wp_at_zero Go.wp_at_succ
end Go.Proofs.YtbpblokfiajpjabGreatDoor

namespace Go.Proofs.YtbpblokfiajpjabGreatDoor
open Go.RowKit Go.SL Go.Crc
attribute [local go_sem ↓] Go.wp_at_zero Go.wp_at_succ
end Go.Proofs.YtbpblokfiajpjabGreatDoor

namespace Go.Proofs.YtbpblokfiajpjabGreatDoor
open Go.RowKit Go.SL Go.Crc
attribute [local go_sem ↓] Go.wp_at_zero Go.wp_at_succ
theorem zs64_list : (zs 64).toList = [0,0,0,0,0,0,0,0,0,0,0,0,0,0,0,0,0,0,0,0,0,0,0,0,0,0,0,0,0,0,0,0,0,0,0,0,0,0,0,0,0,0,0,0,0,0,0,0,0,0,0,0,0,0,0,0,0,0,0,0,0,0,0,0]:=by rw [ByteArray.toList_eq]; rfl
theorem beq_same {s z : ByteArray} (h : s = z) : (s.toList == z.toList) = true:=by rw [h]; simp
theorem beq_other {s z : ByteArray} (h : ¬s = z) : (s.toList == z.toList) = false:=by
 rw [beq_eq_false_iff_ne]
 exact fun e=>h (toList_inj e)
set_option maxRecDepth 100000 in
set_option maxHeartbeats 8000000 in
theorem smove_any (b : Nat) (A : Nat→Nat×Nat×Nat) (F : ShM) (hF : ShOk F) (k : Nat) (m : ImgM) (hk : k < 5) (hFk : F k = some m) (c : Int) (s : ByteArray) (hs : s.size≤3200) (R : List SL.HP) (w : World) (H : own w (shL b A F++R)) :
  Calls Tryz.prog 231 #[.pointer (some ⟨b,0,none⟩),.int .i64 k,.int .i64 c,.string s] w fun e w'=>e = .returned (errV (moveM F k c s).1)∧Ext w w'∧own w' (shL b A (moveM F k c s).2++R):=by
 have e0 : moveM F k c s = if s = zs 64 then ((m.clear c).1,put F k (m.clear c).2) else if m.there c = false then (1,F) else if m.kind c = 2 then ((m.wr c 0 s).1,put F k (m.wr c 0 s).2) else ((m.fill c s).1,put F k (m.fill c s).2):=by unfold moveM; rw [hFk]
 rw [e0]
 have cell:=sh_cell H hk
 rw [slotV_some hFk] at cell
 have i1 : (0 : Int)≤(k : Int):=by omega
 have i2 : (k : Int) < 5:=by omega
 by_cases hz : s = zs 64
 ·rw [if_pos hz]
  have HC:=Lib.hid (sclear_any hk hFk hF c R w H)
  have hq:=beq_same hz
  rw [zs64_list] at hq
  clear hz e0 hF hFk
  go_enter Tryz.func231,Tryz.ntmps231
  go_wp2_with fail
  refine HC.out.mono ?_
  rintro e w5 ⟨rfl,hx5,h5⟩
  go_wp2_with fail
  go_ret
  exact ⟨rfl,hx5,h5⟩
 ·rw [if_neg hz]
  have hq:=beq_other hz
  rw [zs64_list] at hq
  have HZ:=Lib.hid hz
  clear hz e0
  cases ht : m.there c
  ·rw [if_pos rfl]
   have HK:=Lib.hid (skindno_any hk hFk (hF.ok k m hk hFk) c ht R w H)
   clear hF hFk ht
   go_enter Tryz.func231,Tryz.ntmps231
   go_wp2_with fail
   refine HK.out.mono ?_
   rintro e w5 ⟨rfl,rfl⟩
   go_wp2_with fail
   go_ret
   exact ⟨rfl,Ext.refl _,H⟩
  ·rw [if_neg (by decide)]
   have HK:=Lib.hid (skind_any hk hFk (hF.ok k m hk hFk) c ht R w H)
   by_cases h2 : m.kind c = 2
   ·rw [if_pos h2]
    rw [h2] at HK
    have HW:=Lib.hid (swrite_any hk hFk hF c 0 ⟨by omega,by omega⟩ s (by omega) R w H)
    clear hF hFk ht h2
    go_enter Tryz.func231,Tryz.ntmps231
    go_wp2_with fail
    refine HK.out.mono ?_
    rintro e w5 ⟨rfl,rfl⟩
    go_wp2_with fail
    refine HW.out.mono ?_
    rintro e w6 ⟨rfl,hx6,h6⟩
    go_wp2_with fail
    go_ret
    exact ⟨rfl,hx6,h6⟩
   ·rw [if_neg h2]
    have t2 : (m.kind c == 2) = false:=beq_eq_false_iff_ne.2 h2
    have HW:=Lib.hid (sfill_any hk hFk hF c s (by omega) R w H)
    clear hF hFk ht h2
    go_enter Tryz.func231,Tryz.ntmps231
    go_wp2_with fail
    refine HK.out.mono ?_
    rintro e w5 ⟨rfl,rfl⟩
    go_wp2_with fail
    refine HW.out.mono ?_
    rintro e w6 ⟨rfl,hx6,h6⟩
    go_wp2_with fail
    go_ret
    exact ⟨rfl,hx6,h6⟩
set_option maxRecDepth 100000 in
set_option maxHeartbeats 8000000 in
theorem rmove_any (b : Nat) (A : Nat→Nat×Nat) (F : ShM) (hF : ShOk F) (k : Nat) (m : ImgM) (hk : k < 5) (hFk : F k = some m) (c : Int) (s : ByteArray) (hs : s.size≤3200) (R : List SL.HP) (w : World) (H : own w (rshL b A F++R)) :
  Calls Tryz.prog 182 #[.pointer (some ⟨b,0,none⟩),.int .i64 k,.int .i64 c,.string s] w fun e w'=>e = .returned (.int .i64 (moveM F k c s).1)∧Ext w w'∧own w' (rshL b A (moveM F k c s).2++R):=by
 have e0 : moveM F k c s = if s = zs 64 then ((m.clear c).1,put F k (m.clear c).2) else if m.there c = false then (1,F) else if m.kind c = 2 then ((m.wr c 0 s).1,put F k (m.wr c 0 s).2) else ((m.fill c s).1,put F k (m.fill c s).2):=by unfold moveM; rw [hFk]
 rw [e0]
 have cell:=rsh_cell H hk
 rw [rslotV_some hFk] at cell
 have i1 : (0 : Int)≤(k : Int):=by omega
 have i2 : (k : Int) < 5:=by omega
 have HN:=Lib.hid (noughts_any 64 (by decide) _ w H)
 have HTH:=Lib.hid (fun (w : World) (H : own w (rshL b A F++R))=>rthere_any (A k).1 (A k).2 m c _ w (rsh_take hk hFk H))
 by_cases hz : s = zs 64
 ·rw [if_pos hz]
  have HC:=Lib.hid (fun (w : World) (H : own w (rshL b A F++R))=>rsclear_any hk hFk hF c R w H)
  have hq:=beq_same hz
  clear hz e0 hF hFk
  generalize zs 64 = z at *
  go_enter Tryz.func182,Tryz.ntmps182
  go_wp2_with fail
  refine HN.out.mono ?_
  rintro e w4 ⟨rfl,hx4,h4⟩
  go_wp2_with fail
  refine (HC.out _ h4).mono ?_
  rintro e w5 ⟨rfl,hx5,h5⟩
  go_wp2_with fail
  go_ret
  exact ⟨rfl,hx4.trans hx5,h5⟩
 ·rw [if_neg hz]
  have hq:=beq_other hz
  have HZ:=Lib.hid hz
  clear hz e0
  generalize zs 64 = z at *
  cases ht : m.there c
  ·rw [if_pos rfl]
   rw [ht] at HTH
   clear hF hFk ht
   go_enter Tryz.func182,Tryz.ntmps182
   go_wp2_with fail
   refine HN.out.mono ?_
   rintro e w4 ⟨rfl,hx4,h4⟩
   go_wp2_with fail
   refine (HTH.out _ h4).mono ?_
   rintro e w5 ⟨rfl,rfl⟩
   go_wp2_with fail
   go_ret
   exact ⟨rfl,hx4,h4⟩
  ·rw [if_neg (by decide)]
   have hm:=hF.ok k m hk hFk
   obtain ⟨k0,-,hkl⟩:=there_range hm ht
   obtain ⟨cn,rfl⟩:=Int.eq_ofNat_of_zero_le k0
   rw [Int.toNat_natCast] at hkl
   rw [ht] at HTH
   have HIMG:=Lib.hid (fun (w : World) (H : own w (rshL b A F++R))=>rsh_img hk hFk H)
   have l1 : (cn : Int) < (m.t.length : Int):=by omega
   by_cases h2 : m.kind (cn : Int) = 2
   ·rw [if_pos h2]
    have HW:=Lib.hid (fun (w : World) (H : own w (rshL b A F++R))=>rswrite_any hk hFk hF (cn : Int) 0 ⟨by omega,by omega⟩ s (by omega) R w H)
    have HK2:=Lib.hid h2
    clear hF hFk ht h2 hm
    go_enter Tryz.func182,Tryz.ntmps182
    go_wp2_with fail
    refine HN.out.mono ?_
    rintro e w4 ⟨rfl,hx4,h4⟩
    go_wp2_with fail
    refine (HTH.out _ h4).mono ?_
    rintro e w5 ⟨rfl,rfl⟩
    obtain ⟨vt,vh,-,-,-,-,x4,-,x6⟩:=HIMG.out _ h4
    obtain ⟨eo,eb,eoff,ecap,rfl,-,-,g3⟩:=x6.form
    obtain rfl:=g3 (by omega)
    have y1 : w4.cell? ⟨eb,eoff + cn * 2,none⟩ = some (.int .i64 (m.kind (cn : Int))):=(x6.cells hkl).1
    rw [HK2.out] at y1
    clear x6 g3
    go_wp2_with fail
    refine (HW.out _ h4).mono ?_
    rintro e w6 ⟨rfl,hx6,h6⟩
    go_wp2_with fail
    go_ret
    exact ⟨rfl,hx4.trans hx6,h6⟩
   ·rw [if_neg h2]
    have t2 : (m.kind (cn : Int) == 2) = false:=beq_eq_false_iff_ne.2 h2
    have HW:=Lib.hid (fun (w : World) (H : own w (rshL b A F++R))=>rsfill_any hk hFk hF (cn : Int) s (by omega) R w H)
    clear hF hFk ht h2 hm
    go_enter Tryz.func182,Tryz.ntmps182
    go_wp2_with fail
    refine HN.out.mono ?_
    rintro e w4 ⟨rfl,hx4,h4⟩
    go_wp2_with fail
    refine (HTH.out _ h4).mono ?_
    rintro e w5 ⟨rfl,rfl⟩
    obtain ⟨vt,vh,-,-,-,-,x4,-,x6⟩:=HIMG.out _ h4
    obtain ⟨eo,eb,eoff,ecap,rfl,-,-,g3⟩:=x6.form
    obtain rfl:=g3 (by omega)
    have y1 : w4.cell? ⟨eb,eoff + cn * 2,none⟩ = some (.int .i64 (m.kind (cn : Int))):=(x6.cells hkl).1
    clear x6 g3
    go_wp2_with fail
    refine (HW.out _ h4).mono ?_
    rintro e w6 ⟨rfl,hx6,h6⟩
    go_wp2_with fail
    go_ret
    exact ⟨rfl,hx4.trans hx6,h6⟩
end Go.Proofs.YtbpblokfiajpjabGreatDoor

namespace Go.Proofs.YtbpblokfiajpjabGreatDoor
open Go.RowKit Go.SL Go.Crc
attribute [local go_sem ↓] Go.wp_at_zero Go.wp_at_succ
theorem wrap_u (n : Nat) (h : n < 2 ^ 64) : IntKind.u64.wrap (n : Int) = (n : Int):=by rw [IntKind.wrap_u64]; omega
theorem bits_and_i64_nat (a b : Nat) (ha : a < 9223372036854775808) (hb : b < 9223372036854775808) : bits .and .i64 (a : Int) (b : Int) = ((a &&& b : Nat) : Int):=by
 have hx : a &&& b < 2 ^ 63:=Nat.and_lt_two_pow _ (by omega)
 have h1 : (BitVec.ofInt 64 (a : Int)).toNat = a:=by
  rw [BitVec.ofInt_natCast,BitVec.toNat_ofNat]; exact Nat.mod_eq_of_lt (by omega)
 have h2 : (BitVec.ofInt 64 (b : Int)).toNat = b:=by
  rw [BitVec.ofInt_natCast,BitVec.toNat_ofNat]; exact Nat.mod_eq_of_lt (by omega)
 show IntKind.i64.wrap ((BitVec.ofInt 64 (a : Int) &&& BitVec.ofInt 64 (b : Int)).toNat : Int) = _
 rw [BitVec.toNat_and,h1,h2]
 exact IntWalk.i64_in _ (by omega)
theorem and127 (n : Nat) : n &&& 127 = n % 128:=Nat.and_two_pow_sub_one_eq_mod n 7
set_option maxRecDepth 100000 in
set_option maxHeartbeats 4000000 in
theorem ones_any (x : Nat) (hx : x < 2 ^ 64) (w : World) : Calls Tryz.prog 188 #[.int .u64 x] w fun e w'=>e = .returned (.int .i64 (Ones.popc 64 x : Nat))∧w = w':=by
 obtain ⟨y1,y2,y3,h1,h2,h3,h4,h5,h6,h7,h8,h9,h10⟩:=Ones.ones_all hx
 go_enter Tryz.func188,Tryz.ntmps188
 have E1 : IntKind.u64.wrap (bits BinOp.and IntKind.u64 ((x : Int) / 2) 6148914691236517205 + bits BinOp.and IntKind.u64 (x : Int) 6148914691236517205) = ((Ones.s1 x : Nat) : Int):=by
  have a1:=bits_and_u64_nat (x / 2) 6148914691236517205 (by omega) (by omega)
  have a2:=bits_and_u64_nat x 6148914691236517205 (by omega) (by omega)
  rw [show ((x : Int) / 2) = ((x / 2 : Nat) : Int) by omega,show (6148914691236517205 : Int) = ((6148914691236517205 : Nat) : Int) from rfl,a1,a2,← Int.natCast_add]
  exact wrap_u _ h8
 have E2 : IntKind.u64.wrap (bits BinOp.and IntKind.u64 (((Ones.s1 x : Nat) : Int) / 4) 3689348814741910323 + bits BinOp.and IntKind.u64 ((Ones.s1 x : Nat) : Int) 3689348814741910323) = ((Ones.s2 (Ones.s1 x) : Nat) : Int):=by
  have a1:=bits_and_u64_nat (Ones.s1 x / 4) 3689348814741910323 (by omega) (by omega)
  have a2:=bits_and_u64_nat (Ones.s1 x) 3689348814741910323 (by omega) (by omega)
  rw [show (((Ones.s1 x : Nat) : Int) / 4) = ((Ones.s1 x / 4 : Nat) : Int) by omega,show (3689348814741910323 : Int) = ((3689348814741910323 : Nat) : Int) from rfl,a1,a2,← Int.natCast_add]
  exact wrap_u _ h9
 have E3a : IntKind.u64.wrap (((Ones.s2 (Ones.s1 x) : Nat) : Int) / 16 + ((Ones.s2 (Ones.s1 x) : Nat) : Int)) = ((Ones.s2 (Ones.s1 x) : Nat) : Int) / 16 + ((Ones.s2 (Ones.s1 x) : Nat) : Int):=by
  rw [show (((Ones.s2 (Ones.s1 x) : Nat) : Int) / 16 + ((Ones.s2 (Ones.s1 x) : Nat) : Int)) = ((Ones.s2 (Ones.s1 x) / 16 + Ones.s2 (Ones.s1 x) : Nat) : Int) by omega]
  exact wrap_u _ h10
 have E3 : bits BinOp.and IntKind.u64 (((Ones.s2 (Ones.s1 x) : Nat) : Int) / 16 + ((Ones.s2 (Ones.s1 x) : Nat) : Int)) 1085102592571150095 = ((Ones.s3 (Ones.s2 (Ones.s1 x)) : Nat) : Int):=by
  rw [show (((Ones.s2 (Ones.s1 x) : Nat) : Int) / 16 + ((Ones.s2 (Ones.s1 x) : Nat) : Int)) = ((Ones.s2 (Ones.s1 x) / 16 + Ones.s2 (Ones.s1 x) : Nat) : Int) by omega]
  exact bits_and_u64_nat _ 1085102592571150095 h10 (by omega)
 have E4 : IntKind.u64.wrap (((Ones.s3 (Ones.s2 (Ones.s1 x)) : Nat) : Int) + ((Ones.s3 (Ones.s2 (Ones.s1 x)) : Nat) : Int) / 256) = (y1 : Int):=by
  rw [show (((Ones.s3 (Ones.s2 (Ones.s1 x)) : Nat) : Int) + ((Ones.s3 (Ones.s2 (Ones.s1 x)) : Nat) : Int) / 256) = (y1 : Int) by omega]
  exact wrap_u _ h5
 have E5 : IntKind.u64.wrap ((y1 : Int) + (y1 : Int) / 65536) = (y2 : Int):=by
  rw [show ((y1 : Int) + (y1 : Int) / 65536) = (y2 : Int) by omega]
  exact wrap_u _ h6
 have E6 : IntKind.u64.wrap ((y2 : Int) + (y2 : Int) / 4294967296) = (y3 : Int):=by
  rw [show ((y2 : Int) + (y2 : Int) / 4294967296) = (y3 : Int) by omega]
  exact wrap_u _ (by omega)
 have E7 : bits BinOp.and IntKind.i64 (y3 : Int) 127 = ((Ones.popc 64 x : Nat) : Int):=by
  rw [show (127 : Int) = ((127 : Nat) : Int) from rfl,bits_and_i64_nat _ _ h7 (by omega),and127,h4]
 generalize Ones.s3 (Ones.s2 (Ones.s1 x)) = z3 at *
 generalize Ones.s2 (Ones.s1 x) = z2 at *
 generalize Ones.s1 x = z1 at *
 have H7:=Lib.hid h7
 clear h1 h2 h3 h4 h5 h6 h8 h9 h10
 have b1 : (0 : Int)≤(y3 : Int):=by omega
 have b2 : (y3 : Int)≤9223372036854775807:=by have:=H7.out; omega
 go_wp2_with fail
 go_ret
 exact ⟨rfl,rfl⟩
def TabAt (w : World) : Prop:=∀j,j < 64→w.cell? ⟨0,j,none⟩ = some (.int .u8 ((Lib.deBruijn64tab.getD j 0 : Nat) : Int))
theorem TabAt.later {w w' : World} {L : List SL.HP} (h : TabAt w) (k : Nat) (H : own w' L) (hk : L[k]? = some (exactly w)) : TabAt w':=fun j hj=>rd_later k H hk (h j hj)
theorem tz_facts (x : Nat) (h0 : x≠0) (hx : x < 2 ^ 64) : ∃pw idx : Nat,idx < 64∧x &&& (2 ^ 64 - x) = pw∧pw * 285870213051353865 % 18446744073709551616 / 288230376151711744 = idx∧Lib.deBruijn64tab.getD idx 0 = Lib.ctz 64 x∧Lib.ctz 64 x < 64:=by
 obtain ⟨hlow,hk⟩:=Lib.lowest_bit 64 x h0 hx
 obtain ⟨hi,htab⟩:=Lib.deBruijn64_at _ hk
 exact ⟨_,_,hi,hlow,rfl,htab,hk⟩
set_option maxRecDepth 100000 in
set_option maxHeartbeats 4000000 in
theorem tz_any (x : Nat) (hx : x < 2 ^ 64) (h0 : x≠0) (w : World) (hT : TabAt w) : Calls Tryz.prog 230 #[.int .u64 x] w fun e w'=>e = .returned (.int .i64 (Lib.ctz 64 x : Nat))∧w = w':=by
 obtain ⟨pw,idx,hi,hlow,hix,htab,hk⟩:=tz_facts x h0 hx
 have hcell:=hT _ hi
 rw [htab] at hcell
 generalize Lib.ctz 64 x = k at *
 have e1 : IntKind.u64.wrap (-(x : Int)) = ((18446744073709551616 - x : Nat) : Int):=by rw [IntKind.wrap_u64]; omega
 have E1 : bits BinOp.and IntKind.u64 (x : Int) (IntKind.u64.wrap (-(x : Int))) = (pw : Int):=by
  rw [e1,bits_and_u64_nat x _ hx (by omega)]
  exact congrArg _ hlow
 have E2 : IntKind.u64.wrap ((pw : Int) * 285870213051353865) / 288230376151711744 = (idx : Int):=by
  rw [IntKind.wrap_u64,← hix,Int.natCast_ediv,Int.natCast_emod,Int.natCast_mul]
  rfl
 have w1 : ((x : Int) == 0) = false:=by rw [beq_eq_false_iff_ne]; omega
 have w2 : (0 : Int)≤(idx : Int):=by omega
 have w3 : (idx : Int) < 64:=by omega
 clear e1 htab hlow hT hix
 go_enter Tryz.func230,Tryz.ntmps230
 go_wp2_with fail
 go_ret
 exact ⟨rfl,rfl⟩
theorem div_pow (w i : Nat) : (w : Int) / 2 ^ i = ((w / 2 ^ i : Nat) : Int):=by rw [Int.natCast_ediv,Int.natCast_pow]; rfl
theorem shr_and1 (w i : Nat) (h : w < 2 ^ 64) : bits BinOp.and IntKind.u64 ((w : Int) / 2 ^ i) 1 = ((w / 2 ^ i % 2 : Nat) : Int):=by
 rw [div_pow]
 have hd : w / 2 ^ i < 2 ^ 64:=Nat.lt_of_le_of_lt (Nat.div_le_self _ _) h
 rw [show (1 : Int) = ((1 : Nat) : Int) from rfl,bits_and_u64_nat _ 1 hd (by omega),Ones.and1]
theorem testBit_div (w i : Nat) : w.testBit i = decide (w / 2 ^ i % 2 = 1):=by
 rw [Nat.testBit_eq_decide_div_mod_eq]
def bsetAt (b n x : Nat) : SL.HP:=pts b (.cells #[.int .i64 n,.int .u64 x] 230 (0,0))
theorem own_same {w : World} {l : List SL.HP} {k : Nat} {P : SL.HP} (H : own w l) (hk : l[k]? = some P) : own w (l.set k P):=by
 have : l.set k P = l:=by
  refine List.ext_getElem? fun i=>?_
  rw [List.getElem?_set]
  by_cases h : k = i
  ·subst h; rw [if_pos rfl,hk]; have:=(List.getElem?_eq_some_iff.1 hk).1; simp [this]
  ·rw [if_neg h]
 rw [this]; exact H
def hasM (n x : Nat) (i : Int) : Bool:=decide (0≤i) && decide (i < n) && x.testBit i.toNat
set_option maxRecDepth 100000 in
set_option maxHeartbeats 4000000 in
theorem bset_has (b n x : Nat) (hn : n≤64) (hx : x < 2 ^ 64) (i : Int) {l : List SL.HP} (k : Nat) (w : World) (H : own w l) (hk : l[k]? = some (bsetAt b n x)) :
  Calls Tryz.prog 177 #[.pointer (some ⟨b,0,none⟩),.int .i64 i] w fun e w'=>e = .returned (.bool (hasM n x i))∧w = w':=by
 obtain ⟨c,-⟩:=own_cells k H hk
 have c0:=c 0
 have c1:=c 1
 clear c
 by_cases h0 : i < 0
 ·have d0 : decide (0≤i) = false:=decide_eq_false (by omega)
  have hr : hasM n x i = false:=by simp [hasM,d0]
  rw [hr]
  clear hr h0
  go_enter Tryz.func177,Tryz.ntmps177
  go_wp2_with fail
  go_ret
  exact ⟨rfl,rfl⟩
 ·obtain ⟨j,rfl⟩:=Int.eq_ofNat_of_zero_le (show 0≤i by omega)
  have d0 : decide (0≤(j : Int)) = true:=decide_eq_true (by omega)
  by_cases h1 : j < n
  ·have d1 : decide ((j : Int) < (n : Int)) = true:=decide_eq_true (by omega)
   have hr : hasM n x (j : Int) = x.testBit j:=by simp [hasM,h1]
   rw [hr,testBit_div]
   have e1:=shr_and1 x j hx
   have w1 : (j : Int) < 64:=by omega
   have w2 : (0 : Int)≤(j : Int):=by omega
   clear hr h0
   go_enter Tryz.func177,Tryz.ntmps177
   go_wp2_with fail
   go_ret
   exact ⟨ret_bool (by rw [Bool.eq_iff_iff]; simp only [beq_iff_eq,decide_eq_true_eq]; rw [div_pow]; generalize x / 2 ^ j = q; omega),rfl⟩
  ·have d1 : decide ((j : Int) < (n : Int)) = false:=decide_eq_false (by omega)
   have hr : hasM n x (j : Int) = false:=by simp [hasM,h1]
   rw [hr]
   clear hr h0
   go_enter Tryz.func177,Tryz.ntmps177
   go_wp2_with fail
   go_ret
   exact ⟨rfl,rfl⟩
def bputM (n x : Nat) (i : Int) (b : Bool) : Bool×Nat:=if 0≤i∧i < n∧x.testBit i.toNat≠b then (true,x ^^^ 2 ^ i.toNat) else (false,x)
theorem bput_lt {n x : Nat} (hn : n≤64) (hx : x < 2 ^ n) (i : Int) (b : Bool) : (bputM n x i b).2 < 2 ^ n:=by
 unfold bputM
 split
 ·rename_i h
  have hj : i.toNat < n:=by have h1:=h.1; have h2:=h.2.1; omega
  exact Nat.xor_lt_two_pow hx (Nat.pow_lt_pow_right (by decide) hj)
 ·exact hx
theorem lt64 {n x : Nat} (hn : n≤64) (hx : x < 2 ^ n) : x < 2 ^ 64:=Nat.lt_of_lt_of_le hx (Nat.pow_le_pow_right (by omega) hn)
set_option maxRecDepth 100000 in
set_option maxHeartbeats 4000000 in
theorem bset_put (b n x : Nat) (hn : n≤64) (hx : x < 2 ^ n) (i : Int) (v : Bool) {l : List SL.HP} (k : Nat) (w : World) (H : own w l) (hk : l[k]? = some (bsetAt b n x)) :
  Calls Tryz.prog 74 #[.pointer (some ⟨b,0,none⟩),.int .i64 i,.bool v] w fun e w'=>e = .returned (.bool (bputM n x i v).1)∧Ext w w'∧own w' (l.set k (bsetAt b n (bputM n x i v).2)):=by
 have hx64:=lt64 hn hx
 obtain ⟨c,f⟩:=own_cells k H hk
 have c0:=c 0
 have c1:=c 1
 have f1:=f 1
 clear c f
 by_cases h0 : i < 0
 ·have d0 : decide (i < 0) = true:=decide_eq_true h0
  have hr : bputM n x i v = (false,x):=by unfold bputM; rw [if_neg (by omega)]
  rw [hr]
  clear hr h0
  go_enter Tryz.func74,Tryz.ntmps74
  go_wp2_with fail
  go_ret
  exact ⟨rfl,Ext.refl _,own_same H hk⟩
 ·obtain ⟨j,rfl⟩:=Int.eq_ofNat_of_zero_le (show 0≤i by omega)
  have d0 : decide ((j : Int) < 0) = false:=decide_eq_false (by omega)
  by_cases h1 : j < n
  ·have d1 : decide ((n : Int)≤(j : Int)) = false:=decide_eq_false (by omega)
   have HH:=Lib.hid (bset_has b n x hn hx64 (j : Int) k w H hk)
   rw [show hasM n x (j : Int) = x.testBit j by simp [hasM,h1]] at HH
   have e0 : bputM n x (j : Int) v = if x.testBit j≠v then (true,x ^^^ 2 ^ j) else (false,x):=by
    unfold bputM
    by_cases h : x.testBit j≠v
    ·rw [if_pos ⟨by omega,by omega,h⟩,if_pos h]; rfl
    ·rw [if_neg (fun g=>h g.2.2),if_neg h]
   rw [e0]
   have w1 : (j : Int) < 64:=by omega
   have w2 : (0 : Int)≤(j : Int):=by omega
   have hp : 2 ^ j < 2 ^ 64:=Nat.pow_lt_pow_right (by decide) (by omega)
   have E0 : IntKind.u64.wrap ((2 : Int) ^ j) = ((2 ^ j : Nat) : Int):=by
    rw [show (2 : Int) ^ j = ((2 ^ j : Nat) : Int) by rw [Int.natCast_pow]; rfl]
    exact wrap_u _ hp
   have E1 : bits BinOp.xor IntKind.u64 (x : Int) (IntKind.u64.wrap ((2 : Int) ^ j)) = ((x ^^^ 2 ^ j : Nat) : Int):=by
    rw [E0]; exact bits_xor_u64_nat x (2 ^ j) hx64 hp
   clear hp E0
   generalize x.testBit j = tb at *
   by_cases ht : tb = v
   ·subst ht
    rw [if_neg (by simp)]
    have t1 : (tb == tb) = true:=by simp
    clear e0 h0
    go_enter Tryz.func74,Tryz.ntmps74
    go_wp2_with fail
    refine HH.out.mono ?_
    rintro e w' ⟨rfl,rfl⟩
    go_wp2_with fail
    go_ret
    exact ⟨rfl,Ext.refl _,own_same H hk⟩
   ·rw [if_pos ht]
    have t1 : (tb == v) = false:=by rw [beq_eq_false_iff_ne]; exact ht
    clear e0 h0
    go_enter Tryz.func74,Tryz.ntmps74
    go_wp2_with fail
    refine HH.out.mono ?_
    rintro e w' ⟨rfl,rfl⟩
    go_upto_region 3 with (fail)
    go_still_tail 9,(by kernel_rfl)
    change wpList _ _ _ _ _ w.drew
    have H1:=own_drew H
    have g1:=(own_cells k H1 hk).2 1
    go_wp2_with fail
    go_ret
    exact ⟨rfl,(Ext.refl w).drew.setCell _ _,own_set (i:=1) k H1 hk⟩
  ·have d1 : decide ((n : Int)≤(j : Int)) = true:=decide_eq_true (by omega)
   have hr : bputM n x (j : Int) v = (false,x):=by unfold bputM; rw [if_neg (by omega)]
   rw [hr]
   clear hr h0
   go_enter Tryz.func74,Tryz.ntmps74
   go_wp2_with fail
   go_ret
   exact ⟨rfl,Ext.refl _,own_same H hk⟩
set_option maxRecDepth 100000 in
set_option maxHeartbeats 4000000 in
theorem bset_new (n : Nat) (hn : n≤64) (R : List SL.HP) (w : World) (H : own w R) :
  Calls Tryz.prog 72 #[.int .i64 n] w fun e w'=>∃b,e = .returned (.tuple #[.pointer (some ⟨b,0,none⟩),.nilIface])∧Ext w w'∧own w' (bsetAt b n 0::R):=by
 have w1 : (0 : Int)≤(n : Int):=by omega
 have w2 : (n : Int)≤64:=by omega
 go_enter Tryz.func72,Tryz.ntmps72
 go_wp2_with fail
 go_ret2
 exact ⟨_,rfl,(Ext.refl _).alloc _,own_alloc H _⟩
set_option maxRecDepth 100000 in
set_option maxHeartbeats 4000000 in
theorem bset_count (b n x : Nat) (hx : x < 2 ^ 64) {l : List SL.HP} (k : Nat) (w : World) (H : own w l) (hk : l[k]? = some (bsetAt b n x)) :
  Calls Tryz.prog 88 #[.pointer (some ⟨b,0,none⟩)] w fun e w'=>e = .returned (.int .i64 (Ones.popc 64 x : Nat))∧w = w':=by
 obtain ⟨c,-⟩:=own_cells k H hk
 have c1:=c 1
 clear c
 have HO:=Lib.hid (ones_any x hx w)
 go_enter Tryz.func88,Tryz.ntmps88
 go_wp2_with fail
 refine HO.out.mono ?_
 rintro e w' ⟨rfl,rfl⟩
 go_wp2_with fail
 go_ret
 exact ⟨rfl,rfl⟩
def nextM (n x : Nat) (fr : Int) : Nat×Bool:=
 if x = 0 then (0,false) else if 0 < fr∧fr < n∧x / 2 ^ fr.toNat≠0 then (fr.toNat + Lib.ctz 64 (x / 2 ^ fr.toNat),true) else (Lib.ctz 64 x,true)
set_option maxRecDepth 100000 in
set_option maxHeartbeats 4000000 in
theorem bset_next (b n x : Nat) (hn : n≤64) (hx : x < 2 ^ 64) (fr : Int) {l : List SL.HP} (k : Nat) (w : World) (hT : TabAt w) (H : own w l) (hk : l[k]? = some (bsetAt b n x)) :
  Calls Tryz.prog 148 #[.pointer (some ⟨b,0,none⟩),.int .i64 fr] w fun e w'=>e = .returned (.tuple #[.int .i64 (nextM n x fr).1,.bool (nextM n x fr).2])∧w = w':=by
 have H1:=own_drew H
 obtain ⟨c,-⟩:=own_cells k H hk
 obtain ⟨d,-⟩:=own_cells k H1 hk
 have c0:=c 0
 have c1:=c 1
 have d0:=d 0
 have d1:=d 1
 clear c d
 by_cases h0 : x = 0
 ·subst h0
  have hr : nextM n 0 fr = (0,false):=rfl
  rw [hr]
  clear hr
  go_enter Tryz.func148,Tryz.ntmps148
  go_wp2_with fail
  go_ret2
  exact ⟨rfl,rfl⟩
 ·have z1 : ((x : Int) == 0) = false:=by rw [beq_eq_false_iff_ne]; omega
  have HZ:=Lib.hid (fun w'=>tz_any x hx h0 w')
  have ha : nextM n x fr = if 0 < fr∧fr < n∧x / 2 ^ fr.toNat≠0 then (fr.toNat + Lib.ctz 64 (x / 2 ^ fr.toNat),true) else (Lib.ctz 64 x,true):=if_neg h0
  by_cases h1 : 0 < fr
  ·obtain ⟨j,rfl⟩:=Int.eq_ofNat_of_zero_le (show 0≤fr by omega)
   have t1 : decide (0 < (j : Int)) = true:=decide_eq_true h1
   by_cases h2 : j < n
   ·have t2 : decide ((j : Int) < (n : Int)) = true:=decide_eq_true (by omega)
    have hd : x / 2 ^ j < 2 ^ 64:=Nat.lt_of_le_of_lt (Nat.div_le_self _ _) hx
    have e1:=div_pow x j
    have w1 : (j : Int) < 64:=by omega
    have w2 : (0 : Int)≤(j : Int):=by omega
    by_cases h3 : x / 2 ^ j = 0
    ·have hr : nextM n x (j : Int) = (Lib.ctz 64 x,true):=by rw [ha,if_neg (fun h=>h.2.2 h3)]
     rw [hr]
     rw [h3] at e1
     clear hr ha
     go_enter Tryz.func148,Tryz.ntmps148
     go_wp2_with fail
     refine (HZ.out _ hT).mono ?_
     rintro e w' ⟨rfl,rfl⟩
     go_wp2_with fail
     go_ret2
     exact ⟨rfl,rfl⟩
    ·have hr : nextM n x (j : Int) = (j + Lib.ctz 64 (x / 2 ^ j),true):=by rw [ha,if_pos ⟨by omega,by omega,h3⟩]; rfl
     rw [hr]
     have HZ2:=Lib.hid (fun w'=>tz_any (x / 2 ^ j) hd h3 w')
     have hz:=(tz_facts (x / 2 ^ j) h3 hd)
     obtain ⟨-,-,-,-,-,-,hz⟩:=hz
     clear hr ha
     generalize x / 2 ^ j = q at *
     have z2 : ((q : Int) == 0) = false:=by rw [beq_eq_false_iff_ne]; omega
     generalize Lib.ctz 64 q = t at *
     have w3 : (j : Int) + (t : Int)≤9223372036854775807:=by omega
     have w4 : (-9223372036854775808 : Int)≤(j : Int) + (t : Int):=by omega
     clear h3 h0
     go_enter Tryz.func148,Tryz.ntmps148
     go_wp2_with fail
     refine (HZ2.out _ hT).mono ?_
     rintro e w' ⟨rfl,rfl⟩
     go_wp2_with fail
     go_ret2
     exact ⟨rfl,rfl⟩
   ·have t2 : decide ((j : Int) < (n : Int)) = false:=decide_eq_false (by omega)
    have hr : nextM n x (j : Int) = (Lib.ctz 64 x,true):=by rw [ha,if_neg (by omega)]
    rw [hr]
    clear hr ha
    go_enter Tryz.func148,Tryz.ntmps148
    go_wp2_with fail
    refine (HZ.out _ hT).mono ?_
    rintro e w' ⟨rfl,rfl⟩
    go_wp2_with fail
    go_ret2
    exact ⟨rfl,rfl⟩
  ·have t1 : decide (0 < fr) = false:=decide_eq_false h1
   have hr : nextM n x fr = (Lib.ctz 64 x,true):=by rw [ha,if_neg (by omega)]
   rw [hr]
   clear hr ha
   go_enter Tryz.func148,Tryz.ntmps148
   go_wp2_with fail
   refine (HZ.out _ hT).mono ?_
   rintro e w' ⟨rfl,rfl⟩
   go_wp2_with fail
   go_ret2
   exact ⟨rfl,rfl⟩
end Go.Proofs.YtbpblokfiajpjabGreatDoor

namespace Go.Proofs.YtbpblokfiajpjabGreatDoor
open Go.RowKit Go.SL Go.Crc
attribute [local go_sem ↓] Go.wp_at_zero Go.wp_at_succ
structure SetAt (w : World) (b o n x : Nat) : Prop where
 n : w.cell? ⟨b,o,none⟩ = some (.int .i64 n)
 at_ : ∀i,i < 64→w.cell? ⟨b,o + 1 + i,none⟩ = some (.bool (x.testBit i))
theorem SetAt.drew {w : World} {b o n x : Nat} (h : SetAt w b o n x) : SetAt w.drew b o n x:=⟨h.n,h.at_⟩
theorem SetAt.drewN {w : World} {b o n x : Nat} (k : Nat) (h : SetAt w b o n x) : SetAt (w.drewN k) b o n x:=⟨h.n,h.at_⟩
set_option maxRecDepth 100000 in
set_option maxHeartbeats 4000000 in
theorem rmay_any (b o n : Nat) (i : Int) (w : World) (hn : w.cell? ⟨b,o,none⟩ = some (.int .i64 n)) :
  Calls Tryz.prog 240 #[.pointer (some ⟨b,o,none⟩),.int .i64 i] w fun e w'=>e = .returned (.bool (decide (0≤i) && decide (i < n)))∧w = w':=by
 go_enter Tryz.func240,Tryz.ntmps240
 by_cases h0 : 0≤i
 ·have d0 : decide (0≤i) = true:=decide_eq_true h0
  go_wp2_with fail
  go_ret
  exact ⟨ret_bool (by simp [d0]),rfl⟩
 ·have d0 : decide (0≤i) = false:=decide_eq_false h0
  go_wp2_with fail
  go_ret
  exact ⟨ret_bool (by simp [d0]),rfl⟩
set_option maxRecDepth 100000 in
set_option maxHeartbeats 4000000 in
theorem rset_count (b o n x : Nat) (w : World) (h : SetAt w b o n x) :
  Calls Tryz.prog 89 #[.pointer (some ⟨b,o,none⟩)] w fun e w'=>e = .returned (.int .i64 (Ones.popc 64 x : Nat))∧w = w':=by
 have HA:=Lib.hid h.at_
 have HB:=Lib.hid (fun q=>Ones.popc_le q x)
 have HE:=Lib.hid (fun q=>Ones.popc_end q x)
 generalize hres : Ones.popc 64 x = res
 have HRES:=Lib.hid hres
 clear h hres
 go_enter Tryz.func89,Tryz.ntmps89
 go_wp2_with fail
 go_loop [3,4] (fun t i=>∃q : Nat,q≤64∧i = .int .i64 q∧∃p : Nat,t = .int .i64 p∧Ones.popc q x = p) (fun _ i=>64 - (intOf i).toNat)
 case atStart=>exact ⟨0,Nat.zero_le _,rfl,0,rfl,rfl⟩
 case round=>
  obtain ⟨q,hq,rfl,pq,rfl,hg⟩:=hrel
  by_cases hlt : q < 64
  ·have c1:=HA.out q hlt
   have i1 : (0 : Int)≤(q : Int):=by omega
   have i2 : (q : Int) < 64:=by omega
   have hb:=HB.out q
   have HQ:=Lib.hid (HE.out q)
   have HT:=Lib.hid (testBit_div x q)
   have HP:=Lib.hid hlt
   rw [hg] at hb HQ
   have HG:=Lib.hid hg
   generalize x.testBit q = tb at *
   clear hg
   cases tb
   ·go_wp2_with fail
    go_round
    case rel=>exact ⟨q + 1,by omega,by go_num,pq,rfl,by have:=HT.out; simp at this; rw [HQ.out,this]; rfl⟩
    case measure=>simp [intOf]; omega
   ·have p1 : (pq : Int)≤64:=by omega
    go_wp2_with fail
    go_round
    case rel=>exact ⟨q + 1,by omega,by go_num,pq + 1,by go_num,by have:=HT.out; simp at this; rw [HQ.out,this]⟩
    case measure=>simp [intOf]; omega
  ·obtain rfl : q = 64:=by omega
   have hb:=HB.out 64
   rw [HRES.out] at hg hb
   subst hg
   have p1 : (res : Int)≤64:=by omega
   go_wp2_with fail
   go_ret
   exact ⟨rfl,rfl⟩
theorem xor_bit (x j i : Nat) (hj : i < 64) : (x ^^^ 2 ^ j).testBit i = if i = j then !x.testBit j else x.testBit i:=by
 rw [Nat.testBit_xor,Nat.testBit_two_pow]
 by_cases h : i = j
 ·subst h; simp
 ·have : ¬j = i:=fun e=>h e.symm
  simp [h,this]
theorem bput_bits {n x : Nat} {i : Int} {v : Bool} {q : Nat} (hq : q < 64) (h : (bputM n x i v).1 = true) : (bputM n x i v).2.testBit q = if q = i.toNat then v else x.testBit q:=by
 unfold bputM at h ⊢
 split at h
 ·rename_i hc
  rw [if_pos hc]
  show (x ^^^ 2 ^ i.toNat).testBit q = _
  rw [xor_bit _ _ _ hq]
  have:=hc.2.2
  split
  ·revert this; cases x.testBit i.toNat <;> cases v <;> simp
  ·rfl
 ·cases h
set_option maxRecDepth 100000 in
set_option maxHeartbeats 4000000 in
theorem rset_put (b o n x : Nat) (hn : n≤64) (i : Int) (v : Bool) (w : World) (h : SetAt w b o n x) (hf : ∀j,j < 64→w.frozen? ⟨b,o + 1 + j,none⟩ = false) :
  Calls Tryz.prog 183 #[.pointer (some ⟨b,o,none⟩),.int .i64 i,.bool v] w fun e w'=>e = .returned (.bool (bputM n x i v).1)∧w' = if (bputM n x i v).1 = true then w.setCell ⟨b,o + 1 + i.toNat,none⟩ (.bool v) else w:=by
 have HM:=Lib.hid (rmay_any b o n i w h.n)
 by_cases h0 : 0≤i∧i < n
 ·obtain ⟨j,rfl⟩:=Int.eq_ofNat_of_zero_le (show 0≤i by omega)
  have hj : j < 64:=by omega
  have d0 : (decide (0≤(j : Int)) && decide ((j : Int) < n)) = true:=by simp; omega
  rw [d0] at HM
  have c1:=h.at_ j hj
  have f1:=hf j hj
  have w1 : (j : Int) < 64:=by omega
  have w2 : (0 : Int)≤(j : Int):=by omega
  have e0 : bputM n x (j : Int) v = if x.testBit j≠v then (true,x ^^^ 2 ^ j) else (false,x):=by
   unfold bputM
   by_cases h : x.testBit j≠v
   ·rw [if_pos ⟨by omega,by omega,h⟩,if_pos h]; rfl
   ·rw [if_neg (fun k=>h k.2.2),if_neg h]
  rw [e0,Int.toNat_natCast]
  clear h0 d0 e0 h hf
  generalize x ^^^ 2 ^ j = z at *
  generalize x.testBit j = tb at *
  by_cases ht : tb = v
  ·subst ht
   rw [if_neg (by simp)]
   have t1 : (tb == tb) = true:=by simp
   go_enter Tryz.func183,Tryz.ntmps183
   go_wp2_with fail
   refine HM.out.mono ?_
   rintro e w' ⟨rfl,rfl⟩
   go_wp2_with fail
   go_ret
   exact ⟨rfl,rfl⟩
  ·rw [if_pos ht]
   have t1 : (tb == v) = false:=by rw [beq_eq_false_iff_ne]; exact ht
   go_enter Tryz.func183,Tryz.ntmps183
   go_wp2_with fail
   refine HM.out.mono ?_
   rintro e w' ⟨rfl,rfl⟩
   go_wp2_with fail
   go_ret
   exact ⟨rfl,rfl⟩
 ·have d0 : (decide (0≤i) && decide (i < n)) = false:=by simp; omega
  have hr : bputM n x i v = (false,x):=by unfold bputM; rw [if_neg (fun k=>h0 ⟨k.1,k.2.1⟩)]
  rw [hr]
  rw [d0] at HM
  clear h0 d0 hr h
  go_enter Tryz.func183,Tryz.ntmps183
  go_wp2_with fail
  refine HM.out.mono ?_
  rintro e w' ⟨rfl,rfl⟩
  go_wp2_with fail
  go_ret
  exact ⟨rfl,rfl⟩
theorem ctzFrom_of : ∀{q f x : Nat},q < f→x.testBit q = true→(∀r,r < q→x.testBit r = false)→Lib.ctzFrom f x = q:=by
 intro q
 induction q with
 | zero=>
  intro f x hf h _
  obtain ⟨f,rfl⟩ : ∃k,f = k + 1:=⟨f - 1,by omega⟩
  rw [Lib.ctzFrom,if_pos (by rw [testBit_div] at h; simpa using h)]
 | succ q ih=>
  intro f x hf h hr
  obtain ⟨f,rfl⟩ : ∃k,f = k + 1:=⟨f - 1,by omega⟩
  have h0:=hr 0 (by omega)
  rw [testBit_div] at h0
  rw [Lib.ctzFrom,if_neg (by simpa using h0),ih (by omega) (by rw [Nat.testBit_div_two]; exact h) (fun r hrq=>by rw [Nat.testBit_div_two]; exact hr (r + 1) (by omega))]
  omega
theorem ctz_of {q x : Nat} (hq : q < 64) (h : x.testBit q = true) (hr : ∀r,r < q→x.testBit r = false) : Lib.ctz 64 x = q:=by
 have h0 : x≠0:=by rintro rfl; simp at h
 rw [Lib.ctz,if_neg h0]
 exact ctzFrom_of hq h hr
theorem no_bits {n x : Nat} (hx : x < 2 ^ n) {k : Nat} (h : ∀r,k≤r→r < n→x.testBit r = false) : x / 2 ^ k = 0:=by
 refine Nat.eq_of_testBit_eq fun i=>?_
 rw [Nat.zero_testBit,Nat.testBit_div_two_pow]
 by_cases hi : i + k < n
 ·exact h _ (by omega) hi
 ·exact Nat.testBit_lt_two_pow (Nat.lt_of_lt_of_le hx (Nat.pow_le_pow_right (by decide) (by omega)))
theorem next_hit1 {n x : Nat} (hn : n≤64) {fr : Int} {q : Nat} (h0 : 0≤fr) (h1 : fr≤q) (h2 : q < n) (hr : ∀r : Nat,fr≤r→(r : Int) < q→x.testBit r = false) (hb : x.testBit q = true) : nextM n x fr = (q,true):=by
 have hx0 : x≠0:=by rintro rfl; simp at hb
 obtain ⟨f,rfl⟩:=Int.eq_ofNat_of_zero_le h0
 unfold nextM
 rw [if_neg hx0,Int.toNat_natCast]
 by_cases hf : f = 0
 ·subst hf
  rw [if_neg (by simp),ctz_of (by omega) hb (fun r h=>hr r (by omega) (by omega))]
 ·have hb' : (x / 2 ^ f).testBit (q - f) = true:=by rw [Nat.testBit_div_two_pow,show q - f + f = q by omega]; exact hb
  have hd : x / 2 ^ f≠0:=by intro e; rw [e] at hb'; simp at hb'
  rw [if_pos ⟨by omega,by omega,hd⟩,ctz_of (q:=q - f) (by omega) hb' (fun r h=>by rw [Nat.testBit_div_two_pow]; exact hr (r + f) (by omega) (by omega)),show f + (q - f) = q by omega]
theorem next_hit2 {n x : Nat} (hn : n≤64) (hx : x < 2 ^ n) {fr : Int} {q : Nat} (h2 : q < n) (hf : 0≤fr→∀r : Nat,fr≤r→r < n→x.testBit r = false) (hr : ∀r,r < q→x.testBit r = false) (hb : x.testBit q = true) : nextM n x fr = (q,true):=by
 have hx0 : x≠0:=by rintro rfl; simp at hb
 unfold nextM
 rw [if_neg hx0,ctz_of (by omega) hb hr,if_neg]
 rintro ⟨a,b,c⟩
 exact c (no_bits hx fun r h1 h2=>hf (by omega) r (by omega) h2)
theorem next_miss {n x : Nat} (hx : x < 2 ^ n) {fr : Int} (hr : ∀r,r < n→x.testBit r = false) : nextM n x fr = (0,false):=by
 have:=no_bits hx (k:=0) (fun r _ h=>hr r h)
 rw [Nat.pow_zero,Nat.div_one] at this
 rw [this]
 rfl
set_option maxRecDepth 100000 in
set_option maxHeartbeats 4000000 in
theorem rset_next (b o n x : Nat) (hn : n≤64) (hx : x < 2 ^ n) (fr : Int) (w : World) (h : SetAt w b o n x) :
  Calls Tryz.prog 179 #[.pointer (some ⟨b,o,none⟩),.int .i64 fr] w fun e w'=>e = .returned (.tuple #[.int .i64 (nextM n x fr).1,.bool (nextM n x fr).2])∧w = w':=by
 have HM:=Lib.hid (fun i=>rmay_any b o n i w h.n)
 have HA:=Lib.hid h.at_
 have cn:=h.n
 have H1:=Lib.hid (fun q=>next_hit1 (x:=x) hn (fr:=fr) (q:=q))
 have H2:=Lib.hid (fun q=>next_hit2 hn hx (fr:=fr) (q:=q))
 have H3:=Lib.hid (next_miss hx (fr:=fr))
 generalize hres : nextM n x fr = res at *
 obtain ⟨r1,r2⟩:=res
 clear h hres hx
 go_enter Tryz.func179,Tryz.ntmps179
 go_wp2_with fail
 go_loop [6] (fun i=>∃q : Int,i = .int .i64 q∧fr≤q∧(q < 0→q = fr)∧(fr < 0→q = fr)∧(∀r : Nat,fr≤r→(r : Int) < q→x.testBit r = false)) (fun i=>((n : Int) - intOf i).toNat)
 case atStart=>exact ⟨fr,rfl,by omega,fun _=>rfl,fun _=>rfl,fun r _ _=>by omega⟩
 case round=>
  obtain ⟨q,rfl,hq1,hq2,hq3,hr⟩:=hrel
  have HR:=Lib.hid hr
  by_cases hq : 0≤q∧q < n
  ·obtain ⟨q,rfl⟩:=Int.eq_ofNat_of_zero_le hq.1
   have hqn : q < n:=by omega
   have hm:=HM.out (q : Int)
   rw [show (decide (0≤(q : Int)) && decide ((q : Int) < n)) = true by simp; omega] at hm
   have HK:=Lib.hid hm
   have c1:=HA.out q (by omega)
   have i1 : (0 : Int)≤(q : Int):=by omega
   have i2 : (q : Int) < 64:=by omega
   have HP:=Lib.hid hqn
   have HQ:=Lib.hid (And.intro hq1 hq3)
   clear hm hq hr hq1 hq2 hq3
   cases hb : x.testBit q
   ·have HB:=Lib.hid hb
    rw [hb] at c1
    clear hb
    go_wp2_with fail
    refine HK.out.mono ?_
    rintro e w' ⟨rfl,rfl⟩
    go_wp2_with fail
    go_round
    case rel=>
     refine ⟨(q : Int) + 1,by go_num,by have:=HQ.out.1; omega,fun h=>by omega,fun h=>by have:=HQ.out.2 h; omega,fun r h1 h2=>?_⟩
     by_cases e : r = q
     ·subst e; exact HB.out
     ·exact HR.out r h1 (by omega)
    case measure=>have:=HP.out; simp [intOf]; omega
   ·have hx:=H1.out q (by have:=HQ.out; omega) HQ.out.1 HP.out HR.out hb
    rw [hb] at c1
    obtain ⟨rfl,rfl⟩:=Prod.mk.inj hx
    clear hb hx
    go_wp2_with fail
    refine HK.out.mono ?_
    rintro e w' ⟨rfl,rfl⟩
    go_wp2_with fail
    go_ret2
    exact ⟨rfl,rfl⟩
  ·have hm:=HM.out q
   rw [show (decide (0≤q) && decide (q < n)) = false by simp; omega] at hm
   have HK:=Lib.hid hm
   have HF:=Lib.hid (show 0≤fr→∀r : Nat,fr≤r→r < n→x.testBit r = false from fun h0 r h1 h2=>hr r h1 (by omega))
   clear hm hq hr hq1 hq2 hq3
   go_wp2_with fail
   refine HK.out.mono ?_
   rintro e w' ⟨rfl,rfl⟩
   go_wp2_with fail
   go_loop [7] (fun i=>∃q : Nat,i = .int .i64 q∧q≤n∧(∀r : Nat,r < q→x.testBit r = false)) (fun i=>((n : Int) - intOf i).toNat)
   case atStart=>exact ⟨0,rfl,Nat.zero_le _,fun r h=>by omega⟩
   case round=>
    obtain ⟨q,rfl,hq1,hr⟩:=hrel
    have HR:=Lib.hid hr
    by_cases hqn : q < n
    ·have c1:=HA.out q (by omega)
     have i1 : (0 : Int)≤(q : Int):=by omega
     have i2 : (q : Int) < 64:=by omega
     have i3 : (q : Int) < (n : Int):=by omega
     clear hr hq1
     cases hb : x.testBit q
     ·have HB:=Lib.hid hb
      rw [hb] at c1
      clear hb
      go_wp2_with fail
      go_round
      case rel=>
       refine ⟨q + 1,by go_num,by omega,fun r h2=>?_⟩
       by_cases e : r = q
       ·subst e; exact HB.out
       ·exact HR.out r (by omega)
      case measure=>simp [intOf]; omega
     ·have hx:=H2.out q hqn HF.out HR.out hb
      rw [hb] at c1
      obtain ⟨rfl,rfl⟩:=Prod.mk.inj hx
      clear hb hx
      go_wp2_with fail
      go_ret2
      exact ⟨rfl,rfl⟩
    ·obtain rfl : q = n:=by omega
     have hx:=H3.out hr
     obtain ⟨rfl,rfl⟩:=Prod.mk.inj hx
     clear hr hx hq1
     go_wp2_with fail
     go_ret2
     exact ⟨rfl,rfl⟩
end Go.Proofs.YtbpblokfiajpjabGreatDoor
