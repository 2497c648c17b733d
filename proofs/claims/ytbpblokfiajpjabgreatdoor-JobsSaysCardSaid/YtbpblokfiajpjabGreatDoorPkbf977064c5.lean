/- The document's job: its cells, and its small acts. The document's job: its acts but Settle. What a job that is ready has moved lasts; the document's side. A file's place in a list; Walk's list holds a file at most once. A new job: its model. A new job; the document's side. A new job; the program's side. No conditions. -/
import Derived.Test.YtbpblokfiajpjabGreatDoorPk9ec6921666
import Derived.Test.YtbpblokfiajpjabGreatDoorProg
namespace Go.Proofs.YtbpblokfiajpjabGreatDoor
open Go.RowKit Go.SL Go.Crc
attribute [local go_sem ↓] Go.wp_at_zero Go.wp_at_succ
def rjobV (bs : Nat) (v : Value) (j : JobM) (i : Nat) : Value:=
 if i = 0 then .pointer (some ⟨bs,0,none⟩) else if i = 1 then .int .i64 j.root else if i = 2 then .int .i64 j.kind else if i = 3 then .int .i64 j.file else if i = 4 then .int .i64 j.rate
 else if i = 5 then .int .i64 j.burst else if i = 6 then v else if i = 7 then .int .i64 (deepR j : Nat) else if i = 8 then .int .i64 (j.n : Nat) else if i = 73 then .int .i64 ((j.at_ : Nat) - 1 : Int)
 else if i = 74 then .int .i64 j.st else if i = 75 then .int .i64 j.rate else if i = 76 then .int .i64 j.burst else if i = 77 then .int .i64 j.level else .bool (j.x.testBit (i - 9))
def rjobC (bs : Nat) (v : Value) (j : JobM) : Array Value:=Array.ofFn (n:=78) fun i=>rjobV bs v j i
def rjobP (bs br : Nat) (v : Value) (j : JobM) : SL.HP:=pts br (.cells (rjobC bs v j) 149 (0,0))
theorem rjob_get (bs : Nat) (v : Value) (j : JobM) {i : Nat} (hi : i < 78) : (rjobC bs v j)[i]? = some (rjobV bs v j i):=by
 unfold rjobC
 rw [Array.getElem?_ofFn,dif_pos hi]
theorem rjob_cell {w : World} {L : List SL.HP} {bs br : Nat} {v : Value} {j : JobM} (k : Nat) (H : own w L) (hk : L[k]? = some (rjobP bs br v j)) (i : Nat) (hi : i < 78) : w.cell? ⟨br,i,none⟩ = some (rjobV bs v j i):=by
 rw [(own_cells k H hk).1 i,rjob_get _ _ _ hi]
theorem rjob_free {w : World} {L : List SL.HP} {bs br : Nat} {v : Value} {j : JobM} (k : Nat) (H : own w L) (hk : L[k]? = some (rjobP bs br v j)) (i : Nat) : w.frozen? ⟨br,i,none⟩ = false:=(own_cells k H hk).2 i
theorem rjobC_set {bs : Nat} {v : Value} {j j' : JobM} {k : Nat} {a : Value} (h : ∀i,i < 78→rjobV bs v j' i = if i = k then a else rjobV bs v j i) : (rjobC bs v j).setIfInBounds k a = rjobC bs v j':=by
 refine Array.ext_getElem? fun i=>?_
 rw [Array.getElem?_setIfInBounds]
 have hsz : (rjobC bs v j).size = 78:=by simp [rjobC]
 by_cases hi : i < 78
 ·rw [rjob_get _ _ _ hi,rjob_get _ _ _ hi,h i hi,hsz]
  by_cases e : k = i
  ·subst e; simp [hi]
  ·have : ¬i = k:=fun h=>e h.symm
   simp [e,this]
 ·have n1 : (rjobC bs v j)[i]? = none:=Array.getElem?_eq_none (by rw [hsz]; omega)
  have n2 : (rjobC bs v j')[i]? = none:=Array.getElem?_eq_none (by simp [rjobC]; omega)
  rw [n1,n2,hsz]
  by_cases e : k = i
  ·subst e; simp [hi]
  ·simp [e]
theorem rjob_set {w : World} {L : List SL.HP} {bs br : Nat} {v : Value} {j j' : JobM} {i : Nat} {a : Value} (k : Nat) (H : own w L) (hk : L[k]? = some (rjobP bs br v j)) (h : ∀q,q < 78→rjobV bs v j' q = if q = i then a else rjobV bs v j q) :
  own (w.setCell ⟨br,i,none⟩ a) (L.set k (rjobP bs br v j')):=by
 have h1:=own_set (i:=i) (v:=a) k H hk
 rw [rjobC_set h] at h1
 exact h1
theorem rjob_st (bs : Nat) (v : Value) (j : JobM) (s : Int) : ∀q,q < 78→rjobV bs v { j with st:=s } q = if q = 74 then .int .i64 s else rjobV bs v j q:=by
 intro q _
 unfold rjobV
 by_cases h : q = 74
 ·subst h; rfl
 ·rw [if_neg h,if_neg h,if_neg h]; rfl
theorem rjob_last (bs : Nat) (v : Value) (j : JobM) (a : Nat) : ∀q,q < 78→rjobV bs v { j with at_:=a } q = if q = 73 then .int .i64 ((a : Nat) - 1 : Int) else rjobV bs v j q:=by
 intro q _
 unfold rjobV
 by_cases h : q = 73
 ·subst h; rfl
 ·rw [if_neg h,if_neg h,if_neg h]; rfl
theorem rjob_level (bs : Nat) (v : Value) (j : JobM) (s : Int) : ∀q,q < 78→rjobV bs v { j with level:=s } q = if q = 77 then .int .i64 s else rjobV bs v j q:=by
 intro q _
 unfold rjobV
 by_cases h : q = 77
 ·subst h; rfl
 ·rw [if_neg h,if_neg h,if_neg h]; rfl
theorem rjob_bitV (bs : Nat) (v : Value) (j : JobM) {q : Nat} (h0 : 9≤q) (h1 : q < 73) : rjobV bs v j q = .bool (j.x.testBit (q - 9)):=by
 unfold rjobV
 rw [if_neg (by omega),if_neg (by omega),if_neg (by omega),if_neg (by omega),if_neg (by omega),if_neg (by omega),if_neg (by omega),if_neg (by omega),if_neg (by omega),if_neg (by omega),if_neg (by omega),if_neg (by omega),if_neg (by omega),if_neg (by omega)]
theorem rjob_other (bs : Nat) (v : Value) (j : JobM) (x : Nat) {q : Nat} (h : ¬(9≤q∧q < 73)) (h78 : q < 78) : rjobV bs v { j with x:=x } q = rjobV bs v j q:=by
 have : q = 0∨q = 1∨q = 2∨q = 3∨q = 4∨q = 5∨q = 6∨q = 7∨q = 8∨q = 73∨q = 74∨q = 75∨q = 76∨q = 77:=by omega
 rcases this with rfl | rfl | rfl | rfl | rfl | rfl | rfl | rfl | rfl | rfl | rfl | rfl | rfl | rfl <;> rfl
theorem rjob_bit (bs : Nat) (v : Value) (j : JobM) (i : Int) (b : Bool) (hn : j.n≤64) (hp : (bputM j.n j.x i b).1 = true) : ∀q,q < 78→rjobV bs v { j with x:=(bputM j.n j.x i b).2 } q = if q = 9 + i.toNat then .bool b else rjobV bs v j q:=by
 intro q hq
 have hi : 0≤i∧i < j.n:=by
  unfold bputM at hp
  split at hp
  ·rename_i h; exact ⟨h.1,h.2.1⟩
  ·cases hp
 by_cases h : 9≤q∧q < 73
 ·rw [rjob_bitV _ _ _ h.1 h.2,rjob_bitV _ _ _ h.1 h.2]
  show Value.bool ((bputM j.n j.x i b).2.testBit (q - 9)) = _
  rw [bput_bits (by omega) hp]
  by_cases e : q - 9 = i.toNat
  ·rw [if_pos e,if_pos (by omega)]
  ·rw [if_neg e,if_neg (by omega)]
 ·rw [rjob_other _ _ _ _ h hq,if_neg (by omega)]
theorem rjob_setat {w : World} {L : List SL.HP} {bs br : Nat} {v : Value} {j : JobM} (k : Nat) (H : own w L) (hk : L[k]? = some (rjobP bs br v j)) : SetAt w br 8 j.n j.x:=
 ⟨rjob_cell k H hk 8 (by decide),fun i hi=>by
  have:=rjob_cell k H hk (8 + 1 + i) (by omega)
  rw [rjob_bitV _ _ _ (by omega) (by omega),show 8 + 1 + i - 9 = i by omega] at this
  exact this⟩
theorem rjob_put {L : List SL.HP} {bs br : Nat} {v : Value} {j : JobM} (hn : j.n≤64) (i : Int) (b : Bool) (k : Nat) (w : World) (H : own w L) (hk : L[k]? = some (rjobP bs br v j)) :
  Calls Tryz.prog 183 #[.pointer (some ⟨br,8,none⟩),.int .i64 i,.bool b] w fun e w'=>e = .returned (.bool (bputM j.n j.x i b).1)∧Ext w w'∧own w' (L.set k (rjobP bs br v { j with x:=(bputM j.n j.x i b).2 })):=by
 refine (rset_put br 8 j.n j.x hn i b w (rjob_setat k H hk) (fun q _=>rjob_free k H hk _)).mono ?_
 rintro e w' ⟨rfl,rfl⟩
 cases hp : (bputM j.n j.x i b).1
 ·rw [if_neg (by simp)]
  have hx : (bputM j.n j.x i b).2 = j.x:=by
   unfold bputM at hp ⊢
   split at hp
   ·cases hp
   ·rename_i h; rw [if_neg h]
  rw [hx]
  exact ⟨rfl,Ext.refl _,own_same H hk⟩
 ·rw [if_pos rfl]
  exact ⟨rfl,(Ext.refl _).setCell _ _,rjob_set k H hk (rjob_bit bs v j i b hn hp)⟩
theorem rjob_bk {bs br : Nat} {v : Value} {j : JobM} (l : Int) : rjobP bs br v { j with level:=l } = bkB br (rjobC bs v j) 149 75 l:=by
 unfold rjobP bkB
 rw [rjobC_set (rjob_level bs v j l)]
theorem rjob_bkat (bs : Nat) (v : Value) (j : JobM) : BkAt (rjobC bs v j) 75 j.rate j.burst:=
 ⟨by rw [rjob_get _ _ _ (by decide)]; rfl,by rw [rjob_get _ _ _ (by decide)]; rfl,by simp [rjobC]⟩
set_option maxRecDepth 100000 in
set_option maxHeartbeats 4000000 in
theorem rjturn_any (bs br : Nat) (v : Value) (j : JobM) (L : List SL.HP) (w : World) (H : own w (rjobP bs br v j::L)) :
  Calls Tryz.prog 184 #[.pointer (some ⟨br,0,none⟩)] w fun e w'=>e = .returned (.tuple #[])∧Ext w w'∧own w' (rjobP bs br v (turnM j)::L):=by
 have c7 : w.cell? ⟨br,74,none⟩ = some (.int .i64 j.st):=rjob_cell 0 H rfl 74 (by decide)
 have f7:=rjob_free 0 H rfl 74
 have hs : ∀s : Int,own (w.setCell ⟨br,74,none⟩ (.int .i64 s)) (rjobP bs br v { j with st:=s }::L):=fun s=>rjob_set (i:=74) (a:=.int .i64 s) 0 H rfl (rjob_st bs v j s)
 have HC:=rset_count br 8 j.n j.x w (rjob_setat 0 H rfl)
 rw [popc_cnt] at HC
 have HC:=Lib.hid HC
 have HS:=Lib.hid hs
 have hq:=cnt_le j.x
 clear hs
 unfold turnM
 by_cases h1 : j.st = 1
 ·rw [h1] at c7
  by_cases h0 : cnt j.x = 0
  ·rw [if_pos ⟨h1,h0⟩]
   rw [h0] at HC
   clear h1 h0 hq
   go_enter Tryz.func184,Tryz.ntmps184
   go_wp2_with fail
   refine HC.out.mono ?_
   rintro e w' ⟨rfl,rfl⟩
   go_wp2_with fail
   go_end0
   exact ⟨rfl,(Ext.refl _).setCell _ _,HS.out 3⟩
  ·rw [if_neg (fun h=>h0 h.2),if_neg (by rw [h1]; intro h; exact absurd h.1 (by decide))]
   generalize cnt j.x = q at *
   have d0 : ((q : Int) == 0) = false:=by rw [beq_eq_false_iff_ne]; omega
   clear h1 h0 hq
   go_enter Tryz.func184,Tryz.ntmps184
   go_wp2_with fail
   refine HC.out.mono ?_
   rintro e w' ⟨rfl,rfl⟩
   go_wp2_with fail
   go_end0
   exact ⟨rfl,Ext.refl _,H⟩
 ·rw [if_neg (fun h=>h1 h.1)]
  by_cases h3 : j.st = 3
  ·rw [h3] at c7
   by_cases h0 : 0 < cnt j.x
   ·rw [if_pos ⟨h3,h0⟩]
    generalize cnt j.x = q at *
    have d0 : decide (0 < (q : Int)) = true:=decide_eq_true (by omega)
    clear h1 h3 hq
    go_enter Tryz.func184,Tryz.ntmps184
    go_wp2_with fail
    refine HC.out.mono ?_
    rintro e w' ⟨rfl,rfl⟩
    go_wp2_with fail
    go_end0
    exact ⟨rfl,(Ext.refl _).setCell _ _,HS.out 1⟩
   ·rw [if_neg (fun h=>h0 h.2)]
    generalize cnt j.x = q at *
    have d0 : decide (0 < (q : Int)) = false:=decide_eq_false (by omega)
    clear h1 h3 hq
    go_enter Tryz.func184,Tryz.ntmps184
    go_wp2_with fail
    refine HC.out.mono ?_
    rintro e w' ⟨rfl,rfl⟩
    go_wp2_with fail
    go_end0
    exact ⟨rfl,Ext.refl _,H⟩
  ·rw [if_neg (fun h=>h3 h.1)]
   have d1 : (j.st == 1) = false:=by rw [beq_eq_false_iff_ne]; exact h1
   have d3 : (j.st == 3) = false:=by rw [beq_eq_false_iff_ne]; exact h3
   generalize cnt j.x = q at *
   clear h1 h3 hq
   go_enter Tryz.func184,Tryz.ntmps184
   go_wp2_with fail
   refine HC.out.mono ?_
   rintro e w' ⟨rfl,rfl⟩
   go_wp2_with fail
   go_end0
   exact ⟨rfl,Ext.refl _,H⟩
end Go.Proofs.YtbpblokfiajpjabGreatDoor

namespace Go.Proofs.YtbpblokfiajpjabGreatDoor
open Go.RowKit Go.SL Go.Crc
attribute [local go_sem ↓] Go.wp_at_zero Go.wp_at_succ
set_option maxRecDepth 100000 in
set_option maxHeartbeats 4000000 in
theorem rjgoes_any (bs br : Nat) (v : Value) (j : JobM) (L : List SL.HP) (w : World) (H : own w (rjobP bs br v j::L)) :
  Calls Tryz.prog 22 #[.pointer (some ⟨br,0,none⟩)] w fun e w'=>e = .returned (.bool (decide (j.st < 4)))∧w = w':=by
 have c7 : w.cell? ⟨br,74,none⟩ = some (.int .i64 j.st):=rjob_cell 0 H rfl 74 (by decide)
 go_enter Tryz.func22,Tryz.ntmps22
 go_wp2_with fail
 go_ret
 exact ⟨rfl,rfl⟩
set_option maxRecDepth 100000 in
set_option maxHeartbeats 4000000 in
theorem rjdirty_any (bs br : Nat) (v : Value) (j : JobM) (hj : j.Ok) (c : Int) (L : List SL.HP) (w : World) (H : own w (rjobP bs br v j::L)) :
  Calls Tryz.prog 81 #[.pointer (some ⟨br,0,none⟩),.int .i64 c] w fun e w'=>e = .returned (.tuple #[])∧Ext w w'∧own w' (rjobP bs br v (dirtyM j c)::L):=by
 have c7 : w.cell? ⟨br,74,none⟩ = some (.int .i64 j.st):=rjob_cell 0 H rfl 74 (by decide)
 have c2 : w.cell? ⟨br,2,none⟩ = some (.int .i64 j.kind):=rjob_cell 0 H rfl 2 (by decide)
 unfold dirtyM
 by_cases h4 : j.st < 4
 ·have d4 : decide (j.st < 4) = true:=decide_eq_true h4
  by_cases h2 : j.kind = 2
  ·rw [if_neg (fun h=>h.2 h2)]
   rw [h2] at c2
   clear h4
   go_enter Tryz.func81,Tryz.ntmps81
   go_wp2_with fail
   go_end0
   exact ⟨rfl,Ext.refl _,H⟩
  ·rw [if_pos ⟨h4,h2⟩]
   have d2 : (j.kind != 2) = true:=bne_iff_ne.2 h2
   have HP:=Lib.hid (rjob_put (v:=v) (bs:=bs) (br:=br) (j:=j) hj.n c true 0 w H rfl)
   have HT:=Lib.hid (fun w' h=>rjturn_any bs br v { j with x:=(bputM j.n j.x c true).2 } L w' h)
   clear h4 h2
   go_enter Tryz.func81,Tryz.ntmps81
   go_wp2_with fail
   refine HP.out.mono ?_
   rintro e w2 ⟨rfl,hx2,h2'⟩
   go_wp2_with fail
   refine (HT.out w2 h2').mono ?_
   rintro e w3 ⟨rfl,hx3,h4'⟩
   go_wp2_with fail
   go_end0
   exact ⟨rfl,hx2.trans hx3,h4'⟩
 ·rw [if_neg (fun h=>h4 h.1)]
  have d4 : decide (j.st < 4) = false:=decide_eq_false h4
  clear h4
  go_enter Tryz.func81,Tryz.ntmps81
  go_wp2_with fail
  go_end0
  exact ⟨rfl,Ext.refl _,H⟩
set_option maxRecDepth 100000 in
set_option maxHeartbeats 4000000 in
theorem rjpause_any (bs br : Nat) (v : Value) (j : JobM) (on : Bool) (L : List SL.HP) (w : World) (H : own w (rjobP bs br v j::L)) :
  Calls Tryz.prog 82 #[.pointer (some ⟨br,0,none⟩),.bool on] w fun e w'=>e = .returned (.int .i64 (pauseM j on).1)∧Ext w w'∧own w' (rjobP bs br v (pauseM j on).2::L):=by
 have c7 : w.cell? ⟨br,74,none⟩ = some (.int .i64 j.st):=rjob_cell 0 H rfl 74 (by decide)
 have f7:=rjob_free 0 H rfl 74
 have hs : ∀s : Int,own (w.setCell ⟨br,74,none⟩ (.int .i64 s)) (rjobP bs br v { j with st:=s }::L):=fun s=>rjob_set (i:=74) (a:=.int .i64 s) 0 H rfl (rjob_st bs v j s)
 have H1:=hs 1
 have H2:=hs 2
 have HT:=Lib.hid (fun w' h=>rjturn_any bs br v { j with st:=1 } L w' h)
 clear hs
 unfold pauseM
 cases on
 ·rw [if_neg (by decide)]
  by_cases h2 : j.st = 2
  ·rw [if_pos h2]
   rw [h2] at c7
   clear h2
   go_enter Tryz.func82,Tryz.ntmps82
   go_wp2_with fail
   refine (HT.out _ H1).mono ?_
   rintro e w' ⟨rfl,hx,h⟩
   go_wp2_with fail
   go_ret
   exact ⟨rfl,((Ext.refl _).setCell _ _).trans hx,h⟩
  ·rw [if_neg h2]
   have d2 : (j.st == 2) = false:=by rw [beq_eq_false_iff_ne]; exact h2
   clear h2
   go_enter Tryz.func82,Tryz.ntmps82
   go_wp2_with fail
   go_ret
   exact ⟨rfl,Ext.refl _,H⟩
 ·rw [if_pos rfl]
  by_cases h1 : j.st = 1
  ·rw [if_pos (.inl h1)]
   rw [h1] at c7
   clear h1
   go_enter Tryz.func82,Tryz.ntmps82
   go_wp2_with fail
   go_ret
   exact ⟨rfl,(Ext.refl _).setCell _ _,H2⟩
  ·have d1 : (j.st == 1) = false:=by rw [beq_eq_false_iff_ne]; exact h1
   by_cases h3 : j.st = 3
   ·rw [if_pos (.inr h3)]
    rw [h3] at c7 d1
    clear h1 h3
    go_enter Tryz.func82,Tryz.ntmps82
    go_wp2_with fail
    go_ret
    exact ⟨rfl,(Ext.refl _).setCell _ _,H2⟩
   ·rw [if_neg (by rintro (h | h); exact h1 h; exact h3 h)]
    have d3 : (j.st == 3) = false:=by rw [beq_eq_false_iff_ne]; exact h3
    clear h1 h3
    go_enter Tryz.func82,Tryz.ntmps82
    go_wp2_with fail
    go_ret
    exact ⟨rfl,Ext.refl _,H⟩
set_option maxRecDepth 100000 in
set_option maxHeartbeats 4000000 in
theorem rjwants_any (bs : Nat) (A : Nat→Nat×Nat) (F : ShM) (hF : ShOk F) (br : Nat) (v : Value) (j : JobM) (hj : j.Ok) (hl : ∀x∈j.list,isFile F x) (c : Int) (R : List SL.HP) (w : World)
  (hv : ∀w' L,own w' (L++R)→IntsAt w' v j.list) (H : own w (rshL bs A F++(rjobP bs br v j::R))) :
  Calls Tryz.prog 78 #[.pointer (some ⟨br,0,none⟩),.int .i64 c] w fun e w'=>e = .returned (.bool (wantsM F j c))∧∃n,w' = w.drewN n:=by
 have c2 : w.cell? ⟨br,2,none⟩ = some (.int .i64 j.kind):=rjob_cell 6 H rfl 2 (by decide)
 unfold wantsM
 by_cases h1 : j.kind = 1
 ·rw [if_pos h1]
  rw [h1] at c2
  go_enter Tryz.func78,Tryz.ntmps78
  go_wp2_with fail
  go_ret
  exact ⟨rfl,0,rfl⟩
 ·rw [if_neg h1]
  have hvw:=ints_more hv [rjobP bs br v j]
  obtain ⟨ao,lb,off,cap,rfl,hlc,hcap,hao,-⟩:=(hvw w _ H).form
  have hd : j.deep≤j.list.length:=hj.deep
  have hf : ∀w',own w' (rshL bs A F++(rjobP bs br (.slice ao j.list.length cap) j::R))→Calls Tryz.prog 178 #[.pointer (some ⟨bs,0,none⟩),.slice ao j.deep cap,.int .i64 c] w' fun e w''=>e = .returned (.int .i64 (foundM F (j.list.take j.deep) c))∧∃n,w'' = w'.drewN n:=fun w' h=>
   rfound_any bs A F hF _ _ (fun x hx=>hl x (List.mem_of_mem_take hx)) (by rw [List.length_take]; have:=hj.len; omega) c _ w' ((hvw w' _ h).take _ hd) h
  have c0 : w.cell? ⟨br,0,none⟩ = some (.pointer (some ⟨bs,0,none⟩)):=rjob_cell 6 H rfl 0 (by decide)
  have c6 : w.cell? ⟨br,6,none⟩ = some (.slice ao j.list.length cap):=rjob_cell 6 H rfl 6 (by decide)
  have c7 : w.cell? ⟨br,7,none⟩ = some (.int .i64 (j.deep : Nat)):=by
   have : w.cell? ⟨br,7,none⟩ = some (.int .i64 (deepR j : Nat)):=rjob_cell 6 H rfl 7 (by decide)
   rw [this]; unfold deepR; rw [if_neg h1]
  have i1 : (0 : Int)≤(j.deep : Int):=by omega
  have i2 : (j.deep : Int)≤(cap : Int):=by omega
  have hk : j.kind = 2∨j.kind = 3:=by have:=hj.kind; omega
  have HF:=Lib.hid hf
  have HOW:=Lib.hid H
  generalize foundM F (j.list.take j.deep) c = fi at *
  generalize j.deep = dp at *
  clear hf hl hv hvw hao H hd hlc
  have hkk : ∀n,(w.drewN n).cell? ⟨br,2,none⟩ = some (.int .i64 j.kind):=fun n=>c2
  clear h1
  generalize j.kind = kd at *
  rcases hk with rfl | rfl
  all_goals
   first
   | rw [if_pos rfl]
   | rw [if_neg (by decide)]
   go_enter Tryz.func78,Tryz.ntmps78
   go_upto_region 3 with (fail)
   go_quiet ((go_at_call 178; exact Calls.quiet_of (HF.out _ (by first | exact HOW.out | exact own_drew HOW.out | exact own_drewN _ HOW.out))))
   have k1:=hkk nq
   clear hkk c0 c6 c7 c2
   by_cases hfi : 0 < fi
   all_goals
    go_wp2_with fail
    go_ret
    exact ⟨ret_bool (by first | rfl | (simp; omega)),_,rfl⟩
set_option maxRecDepth 100000 in
set_option maxHeartbeats 4000000 in
theorem rjstatus_any (bs br : Nat) (v : Value) (j : JobM) (L : List SL.HP) (w : World) (H : own w (rjobP bs br v j::L)) :
  Calls Tryz.prog 20 #[.pointer (some ⟨br,0,none⟩)] w fun e w'=>e = .returned (statusV j)∧Ext w w'∧own w' (rjobP bs br v j::L):=by
 have ha:=own_alloc H (.cells #[.int .i64 0,.int .i64 0,.int .i64 0,.int .i64 0] 47)
 have hxa:=(Ext.refl w).alloc (.cells #[.int .i64 0,.int .i64 0,.int .i64 0,.int .i64 0] 47)
 have hc : ∀g w',own w' (pts g (.cells #[.int .i64 0,.int .i64 0,.int .i64 0,.int .i64 0] 47 (0,0))::(rjobP bs br v j::L))→Calls Tryz.prog 89 #[.pointer (some ⟨br,8,none⟩)] w' fun e w''=>e = .returned (.int .i64 (cnt j.x : Nat))∧w' = w'':=
  fun g w' h=>by have:=rset_count br 8 j.n j.x w' (rjob_setat 1 h rfl); rw [popc_cnt] at this; exact this
 have HC:=Lib.hid hc
 unfold statusV
 generalize cnt j.x = q at *
 clear hc H
 go_enter Tryz.func20,Tryz.ntmps20
 go_upto_region 1 with (fail)
 generalize w.heap.size = g at *
 generalize w.alloc (.cells #[.int .i64 0,.int .i64 0,.int .i64 0,.int .i64 0] 47) = w1 at *
 have c2 : w1.cell? ⟨br,2,none⟩ = some (.int .i64 j.kind):=rjob_cell 1 ha rfl 2 (by decide)
 have c3 : w1.cell? ⟨br,3,none⟩ = some (.int .i64 j.file):=rjob_cell 1 ha rfl 3 (by decide)
 have c7 : w1.cell? ⟨br,74,none⟩ = some (.int .i64 j.st):=rjob_cell 1 ha rfl 74 (by decide)
 have hb:=own_drew ha
 have hxb:=hxa.drew
 have hcq:=(HC.out _ _ hb).mono fun e w' h=>(⟨h.1,h.2.symm⟩ : e = .returned (.int .i64 (q : Int))∧w' = w1.drew)
 go_still_tail 19,(by kernel_rfl)
 still_call hcq
 repeat still_step
 refine wpStill_nil ?_
 change wpList _ _ _ _ _ w1.drew
 clear ha hxa c2 c3 c7 hcq
 generalize w1.drew = w2 at *
 obtain ⟨cg,fg⟩:=own_cells 0 hb rfl
 go_wp2_with fail
 have h5:=own_set (i:=3) (v:=.int .i64 (q : Int)) 0 (own_set (i:=2) (v:=.int .i64 j.st) 0 (own_set (i:=1) (v:=.int .i64 j.file) 0 (own_set (i:=0) (v:=.int .i64 j.kind) 0 hb rfl) rfl) rfl) rfl
 obtain ⟨c3,-⟩:=own_cells 0 h5 rfl
 refine bodyPost_ret (results_status rfl _ _ g j.kind j.file j.st (q : Int) rfl (c3 0) (c3 1) (c3 2) (c3 3)) rfl ?_
 exact ⟨rfl,(((hxb.setCell _ _).setCell _ _).setCell _ _).setCell _ _,own_drop h5⟩
end Go.Proofs.YtbpblokfiajpjabGreatDoor

namespace Go.Proofs.YtbpblokfiajpjabGreatDoor
open Go.RowKit Go.SL Go.Crc
attribute [local go_sem ↓] Go.wp_at_zero Go.wp_at_succ
theorem walkGo_nil {F : ShM} {root : Int} : ∀{n : Nat} {l : List Int} {at_ : Int},(walkGo F root n l at_).2≠0→(walkGo F root n l at_).1 = []:=by
 intro n
 induction n with
 | zero=>intro l at_ h; exact absurd rfl h
 | succ n ih=>
  intro l at_
  rw [walkGo]
  split
  ·intro h; exact absurd rfl h
  ·split
   ·intro _; rfl
   ·split
    ·intro _; rfl
    ·split
     ·intro _; rfl
     ·split
      ·intro _; rfl
      ·exact ih
theorem walkM_nil {F : ShM} {root : Int} : (walkM F root).2≠0→(walkM F root).1 = []:=walkGo_nil
set_option maxRecDepth 100000 in
set_option maxHeartbeats 8000000 in
theorem rjsettle_any (bs : Nat) (A : Nat→Nat×Nat) (F : ShM) (N : Nat) (hW : ShW N F) (hN : N < 900000) (br : Nat) (v : Value) (j : JobM) (hj : j.Ok) (hS : JobS F j) (R : List SL.HP) (w : World)
  (hv : ∀w' L,own w' (L++R)→IntsAt w' v j.list) (H : own w (rshL bs A F++(rjobP bs br v j::R))) :
  Calls Tryz.prog 86 #[.pointer (some ⟨br,0,none⟩)] w fun e w'=>e = .returned (.int .i64 (settleM F j).1)∧Ext w w'∧own w' (rshL bs A (settleM F j).2.1++(rjobP bs br v (settleM F j).2.2::R)):=by
 have hF : ShOk F:=hW.sh hN
 have c7 : w.cell? ⟨br,74,none⟩ = some (.int .i64 j.st):=rjob_cell 6 H rfl 74 (by decide)
 unfold settleM
 by_cases h3 : j.st = 3
 ·rw [if_neg (fun h=>h h3)]
  rw [h3] at c7
  clear h3
  by_cases h2 : j.kind = 2
  ·rw [if_pos h2]
   have c1 : w.cell? ⟨br,2,none⟩ = some (.int .i64 j.kind):=rjob_cell 6 H rfl 2 (by decide)
   rw [h2] at c1
   have hvw:=ints_more hv [rjobP bs br v j]
   obtain ⟨ao,lb,off,cap,rfl,hlc,hcap,hao,-⟩:=(hvw w _ H).form
   obtain rfl:=hao (by have:=hj.pos; omega)
   have hpos : 0 < j.list.length:=by have:=hj.pos; omega
   have l0 : (0 : Int) < (j.list.length : Int):=by omega
   obtain ⟨k,m,hxk,hk,hFk⟩:=isFile_nat (hS.list _ (mem0 hj.pos))
   have c0 : w.cell? ⟨br,0,none⟩ = some (.pointer (some ⟨bs,0,none⟩)):=rjob_cell 6 H rfl 0 (by decide)
   have c2 : w.cell? ⟨br,3,none⟩ = some (.int .i64 j.file):=rjob_cell 6 H rfl 3 (by decide)
   have c3 : w.cell? ⟨br,6,none⟩ = some (.slice (some ⟨lb,off,none⟩) j.list.length cap):=rjob_cell 6 H rfl 6 (by decide)
   have c9 : w.cell? ⟨lb,off,none⟩ = some (.int .i64 (k : Int)):=by rw [← hxk]; exact ints_cell (hvw _ _ H) hpos
   have g1:=rsh_cell H hk
   rw [rslotV_some hFk] at g1
   have i1 : (0 : Int)≤(k : Int):=by omega
   have i2 : (k : Int) < 5:=by omega
   have HL:=Lib.hid (fun w' h=>rslink_any (b:=bs) (A:=A) hk hFk hF j.file (rjobP bs br (.slice (some ⟨lb,off,none⟩) j.list.length cap) j::R) w' h)
   have hc:=linkI_code F k j.file
   rw [hxk,Int.toNat_natCast]
   rw [show linkI F k j.file = ((m.link j.file).1,put F k (m.link j.file).2) by unfold linkI; rw [hFk]] at hc ⊢
   dsimp only at hc ⊢
   generalize put F k (m.link j.file).2 = F' at *
   generalize (m.link j.file).1 = lc at *
   clear hv hvw hao hlc hxk h2 hFk
   by_cases hlz : lc = 0
   ·subst hlz
    rw [if_neg (show ¬((0 : Int)≠0) by decide)]
    go_enter Tryz.func86,Tryz.ntmps86
    go_upto_region 4 with (fail)
    go_still_tail 18,(by kernel_rfl)
    change wpList _ _ _ _ _ w.drew
    go_wp2_with fail
    refine (HL.out _ (own_drew H)).mono ?_
    rintro e w2 ⟨rfl,hx2,h2'⟩
    go_wp2_with fail
    go_ret
    exact ⟨rfl,(Ext.refl w).drew.trans hx2,h2'⟩
   ·have hp : 0 < lc:=by omega
    rw [if_pos (show lc≠0 from hlz)]
    clear hlz
    go_enter Tryz.func86,Tryz.ntmps86
    go_upto_region 4 with (fail)
    go_still_tail 18,(by kernel_rfl)
    change wpList _ _ _ _ _ w.drew
    go_wp2_with fail
    refine (HL.out _ (own_drew H)).mono ?_
    rintro e w2 ⟨rfl,hx2,h2'⟩
    clear c0 c1 c2 c3 c9 g1 c7
    have c7 : w2.cell? ⟨br,74,none⟩ = some (.int .i64 j.st):=rjob_cell 6 h2' rfl 74 (by decide)
    have f7:=rjob_free 6 h2' rfl 74
    have h6 : own (w2.setCell ⟨br,74,none⟩ (.int .i64 5)) (rshL bs A F'++(rjobP bs br (.slice (some ⟨lb,off,none⟩) j.list.length cap) { j with st:=5 }::R)):=rjob_set (i:=74) (a:=.int .i64 5) 6 h2' rfl (rjob_st bs _ j 5)
    go_wp2_with fail
    go_ret
    exact ⟨rfl,((Ext.refl w).drew.trans hx2).setCell _ _,h6⟩
  ·rw [if_neg h2]
   have d2 : (j.kind == 2) = false:=by rw [beq_eq_false_iff_ne]; exact h2
   have c1 : w.cell? ⟨br,2,none⟩ = some (.int .i64 j.kind):=rjob_cell 6 H rfl 2 (by decide)
   have hwk:=fun w' h=>rwalk_any bs A F hF j.file (rjobP bs br v j::R) w' h
   have hfl:=walk_files F j.file
   have hwc : 0≤(walkM F j.file).2:=walkGo_code
   have hnil : (walkM F j.file).2≠0→(walkM F j.file).1 = []:=walkM_nil
   have HWK:=Lib.hid hwk
   unfold WalkPost at HWK
   generalize walkM F j.file = S at *
   obtain ⟨l,wc⟩:=S
   dsimp only at hfl hwc HWK hnil ⊢
   have HFL:=Lib.hid hfl
   have HSW:=Lib.hid hW
   have HN:=Lib.hid hN
   clear hwk h2 hfl hF hW hN hv
   generalize hres : flushAll F l = res
   have HRES:=Lib.hid hres
   have hfin : (if wc≠0 then (wc,F,j) else (0,res,j)) = (wc,res,j):=by
    split
    ·rename_i h
     rw [hnil h] at hres
     rw [show res = F from hres.symm]
    ·rename_i h
     rw [show wc = 0 by omega]
   rw [hfin]
   dsimp only
   clear hres hfin hnil
   go_enter Tryz.func86,Tryz.ntmps86
   go_upto_region 8 with (fail)
   have hd:=own_drew H
   have hxd:=(Ext.refl w).drew
   go_region_held3 (fun w'=>w'.cell? ⟨br,0,none⟩ = some (.pointer (some ⟨bs,0,none⟩))∧w'.cell? ⟨br,3,none⟩ = some (.int .i64 j.file)) (first | exact ⟨rjob_cell 6 hd rfl 0 (by decide),rjob_cell 6 hd rfl 3 (by decide)⟩ | exact ⟨rjob_cell 7 h4 rfl 0 (by decide),rjob_cell 7 h4 rfl 3 (by decide)⟩) ((go_at_call 77; refine (HWK.out _ hd).mono ?_; rintro e w4 ⟨vl,rfl,hx4,h4⟩))
   have hx5:=hxd.trans hx4
   clear hd hxd hx4 c1 c7 d2 H
   have hil:=ints_row 0 h4 rfl
   obtain ⟨ao,lb,off,cap,rfl,hlc,hcap,hao,-⟩:=hil.form
   have HAO:=Lib.hid hao
   clear hao hil
   go_wp2_with fail
   go_loopw [6] (fun i wr=>∃(q : Nat) (F' : ShM),q≤l.length∧i = .int .i64 q∧flushAll F' (l.drop q) = res∧ShW N F'∧(∀x∈l,isFile F' x)∧Ext w wr∧own wr (row 3 1 (.slice ao l.length cap) l.length (intVals l)::(rshL bs A F'++(rjobP bs br v j::R)))) (fun i _=>l.length - (intOf i).toNat)
   case atStart=>exact ⟨0,F,Nat.zero_le _,rfl,HRES.out,HSW.out,HFL.out,hx5,h4⟩
   case round=>
    obtain ⟨q,F',hq,rfl,hgo,hW',hl',hxr,hown⟩:=hrel
    by_cases hlt : q < l.length
    ·obtain rfl:=HAO.out (by omega)
     rw [drop_getD 0 hlt] at hgo
     obtain ⟨k,m,hxk,hk,hFk⟩:=isFile_nat (hl' (l.getD q 0) (by simp [hlt]))
     have hgo' : flushAll (put F' k m.flush) (l.drop (q + 1)) = res:=by
      rw [← hgo]
      show _ = flushAll (flushI F' (l.getD q 0).toNat) _
      rw [hxk,Int.toNat_natCast]
      unfold flushI
      rw [hFk]
     have hd:=own_drew hown
     have hxd:=hxr.drew
     have i1 : (0 : Int)≤(k : Int):=by omega
     have i2 : (k : Int) < 5:=by omega
     have j1 : (0 : Int)≤(q : Int):=by omega
     have j2 : (q : Int) < (l.length : Int):=by omega
     have HFU:=Lib.hid (fun wz=>rsflush_any (b:=bs) (A:=A) hk hFk (hW'.sh HN.out) (rjobP bs br v j::(row 3 1 (.slice (some ⟨lb,off,none⟩) l.length cap) l.length (intVals l)::R)) wz)
     have HW2:=Lib.hid (put_shw hW' hk hFk (step_flush (hW'.ok k m hk hFk)))
     have HL2:=Lib.hid (fun x hx=>put_file (k:=k) (m':=m.flush) (hl' x hx))
     have HGO:=Lib.hid hgo'
     have HX:=Lib.hid hxk
     have HFK:=Lib.hid hFk
     have hz : own wr.drew (rshL bs A F'++(rjobP bs br v j::(row 3 1 (.slice (some ⟨lb,off,none⟩) l.length cap) l.length (intVals l)::R))):=by
      have:=own_behind (rshL bs A F'++[rjobP bs br v j]) (by simpa [List.append_assoc] using hd); simpa [List.append_assoc] using this
     have g0 : wr.cell? ⟨lb,off + q,none⟩ = some (.int .i64 (k : Int)):=by rw [← hxk]; exact ints_cell (ints_row 0 hown rfl) hlt
     have c0 : wr.cell? ⟨br,0,none⟩ = some (.pointer (some ⟨bs,0,none⟩)):=rjob_cell 7 hown rfl 0 (by decide)
     have g1:=rsh_cell (own_drop hown) hk
     rw [rslotV_some hFk] at g1
     clear hgo hgo' hxk hW' hl' hown hFk hd
     go_upto_region 12 with (fail)
     go_still_tail 11,(by kernel_rfl)
     change wpList _ _ _ _ _ wr.drew
     go_wp2_with fail
     refine (HFU.out _ hz).mono ?_
     rintro e w6 ⟨rfl,hx6,h6⟩
     go_wp2_with fail
     go_roundw
     case rel=>exact ⟨q + 1,_,by omega,by go_num,HGO.out,HW2.out,HL2.out,hxd.trans hx6,own_pick 7 h6 rfl⟩
     case measure=>simp [intOf]; omega
    ·obtain rfl : l.length = q:=by omega
     rw [List.drop_of_length_le (Nat.le_refl _)] at hgo
     have hgo' : res = F':=hgo.symm
     subst hgo'
     go_wp2_with fail
     go_ret
     exact ⟨rfl,hxr,own_drop hown⟩
 ·rw [if_pos h3]
  have d3 : (j.st != 3) = true:=bne_iff_ne.2 h3
  clear h3
  go_enter Tryz.func86,Tryz.ntmps86
  go_wp2_with fail
  go_ret
  exact ⟨rfl,Ext.refl _,H⟩
end Go.Proofs.YtbpblokfiajpjabGreatDoor

namespace Go.Proofs.YtbpblokfiajpjabGreatDoor
open Go.RowKit Go.SL Go.Crc
attribute [local go_sem ↓] Go.wp_at_zero Go.wp_at_succ
def placeGo (f : Int) : Nat→List Int→Int
 | _,[]=>-1
 | i,x::l=>if x = f then (i : Int) else placeGo f (i + 1) l
def placeM (l : List Int) (f : Int) : Int:=placeGo f 0 l
theorem placeGo_range {f : Int} : ∀{l : List Int} {i : Nat},placeGo f i l = -1∨((i : Int)≤placeGo f i l∧placeGo f i l < (i : Int) + l.length):=by
 intro l
 induction l with
 | nil=>intro i; exact .inl rfl
 | cons x l ih=>
  intro i
  rw [placeGo]
  split
  ·right; simp only [List.length_cons]; omega
  ·rcases ih (i:=i + 1) with h | h
   ·exact .inl h
   ·right; simp only [List.length_cons]; omega
def bkOf (F : ShM) (x : Int) : Int:=match F x.toNat with
 | some m=>m.b
 | none=>-1
def Ch (F : ShM) : List Int→Int→Prop
 | [],_=>True
 | x::l,e=>bkOf F x = l.headD e∧Ch F l e
theorem Ch.snoc {F : ShM} {x : Int} : ∀{l : List Int},Ch F l x→Ch F (l++[x]) (bkOf F x):=by
 intro l
 induction l with
 | nil=>intro _; exact ⟨rfl,trivial⟩
 | cons y l ih=>
  intro h
  refine ⟨?_,ih h.2⟩
  have h1:=h.1
  cases l with
  | nil=>exact h1
  | cons z l=>exact h1
theorem Ch.same {F : ShM} : ∀{l l' : List Int} {x : Int},(∀y∈l,0≤y)→(∀y∈l',0≤y)→Ch F (x::l) (-1)→Ch F (x::l') (-1)→l = l':=by
 intro l
 induction l with
 | nil=>
  intro l' x _ h' h1 h2
  cases l' with
  | nil=>rfl
  | cons z l'=>
   have a:=h1.1
   have b:=h2.1
   have c:=h' z List.mem_cons_self
   simp only [List.headD] at a b
   omega
 | cons y l ih=>
  intro l' x h h' h1 h2
  cases l' with
  | nil=>
   have a:=h1.1
   have b:=h2.1
   have c:=h y List.mem_cons_self
   simp only [List.headD] at a b
   omega
  | cons z l'=>
   have a:=h1.1
   have b:=h2.1
   simp only [List.headD] at a b
   have e : y = z:=by omega
   subst e
   rw [ih (fun q hq=>h q (List.mem_cons_of_mem _ hq)) (fun q hq=>h' q (List.mem_cons_of_mem _ hq)) h1.2 h2.2]
theorem Ch.tail {F : ShM} {e : Int} : ∀{p l : List Int},Ch F (p++l) e→Ch F l e:=by
 intro p
 induction p with
 | nil=>intro l h; exact h
 | cons y p ih=>intro l h; exact ih h.2
theorem Ch.nodup {F : ShM} : ∀{l : List Int},(∀y∈l,0≤y)→Ch F l (-1)→l.Nodup:=by
 intro l
 induction l with
 | nil=>intro _ _; exact List.nodup_nil
 | cons x l ih=>
  intro h hc
  refine List.nodup_cons.2 ⟨fun hx=>?_,ih (fun q hq=>h q (List.mem_cons_of_mem _ hq)) hc.2⟩
  obtain ⟨p,q,hpq⟩:=List.append_of_mem hx
  have h2 : Ch F (x::q) (-1):=Ch.tail (p:=p) (by rw [← hpq]; exact hc.2)
  have hs:=Ch.same (fun y hy=>h y (List.mem_cons_of_mem _ hy)) (fun y hy=>h y (List.mem_cons_of_mem _ (by rw [hpq]; exact List.mem_append.2 (.inr (List.mem_cons_of_mem _ hy))))) hc h2
  have:=congrArg List.length hpq
  rw [hs] at this
  simp at this
  omega
theorem walkGo_ch {F : ShM} {root : Int} : ∀{n : Nat} {l : List Int} {at_ : Int},n + l.length = 6→l.length≤5→Ch F l at_→(∀y∈l,0≤y)→(walkGo F root n l at_).2 = 0→(walkGo F root n l at_).1.Nodup:=by
 intro n
 induction n with
 | zero=>
  intro l at_ hn h5
  omega
 | succ n ih=>
  intro l at_ hn h5 hc hl
  rw [walkGo]
  split
  ·rename_i h1
   intro _
   rw [h1] at hc
   exact Ch.nodup hl hc
  ·split
   ·intro h; exact absurd h (by decide)
   ·split
    ·intro h; exact absurd h (by decide)
    ·rename_i h2 m hm
     split
     ·intro h; exact absurd h (by decide)
     ·split
      ·intro h; exact absurd h (by decide)
      ·rename_i h6 h7
       refine ih (by simp; omega) (by simp; omega) ?_ ?_
       ·have:=Ch.snoc hc
        rw [show bkOf F at_ = m.b by unfold bkOf; rw [hm]] at this
        exact this
       ·intro y hy
        rcases List.mem_append.1 hy with h | h
        ·exact hl y h
        ·rw [List.mem_singleton.1 h]; omega
theorem walk_nodup {F : ShM} {root : Int} (h : (walkM F root).2 = 0) : (walkM F root).1.Nodup:=walkGo_ch rfl (by decide) trivial (fun y hy=>by cases hy) h
def lastGo (f : Int) : Nat→List Int→Int→Int
 | _,[],a=>a
 | i,x::l,a=>lastGo f (i + 1) l (if x = f then (i : Int) else a)
theorem lastGo_none {f : Int} : ∀{l : List Int} {i : Nat} {a : Int},f∉l→lastGo f i l a = a:=by
 intro l
 induction l with
 | nil=>intro i a _; rfl
 | cons x l ih=>
  intro i a h
  rw [lastGo,if_neg (fun e=>h (by rw [e]; exact List.mem_cons_self)),ih (fun hm=>h (List.mem_cons_of_mem _ hm))]
theorem last_place {f : Int} : ∀{l : List Int} {i : Nat},l.Nodup→lastGo f i l (-1) = placeGo f i l:=by
 intro l
 induction l with
 | nil=>intro i _; rfl
 | cons x l ih=>
  intro i h
  rw [lastGo,placeGo]
  by_cases e : x = f
  ·rw [if_pos e,if_pos e]
   exact lastGo_none (by rw [← e]; exact (List.nodup_cons.1 h).1)
  ·rw [if_neg e,if_neg e]
   exact ih (List.nodup_cons.1 h).2
set_option maxRecDepth 100000 in
set_option maxHeartbeats 4000000 in
theorem place_any (v : Value) (l : List Int) (f : Int) (hl5 : l.length≤5) (w : World) (hv : IntsAt w v l) :
  Calls Tryz.prog 73 #[v,.int .i64 f] w fun e w'=>e = .returned (.int .i64 (placeM l f))∧w = w':=by
 obtain ⟨ao,lb,off,cap,rfl,hlc,hcap,hao,hat⟩:=hv.form
 generalize hres : placeM l f = res
 unfold placeM at hres
 have HRES:=Lib.hid hres
 have HAO:=Lib.hid hao
 have HAT:=Lib.hid hat
 clear hres hao hat hv
 go_enter Tryz.func73,Tryz.ntmps73
 go_wp2_with fail
 go_loop [9] (fun i=>∃q : Nat,q≤l.length∧i = .int .i64 q∧placeGo f q (l.drop q) = res) (fun i=>l.length - (intOf i).toNat)
 case atStart=>exact ⟨0,Nat.zero_le _,rfl,HRES.out⟩
 case round=>
  obtain ⟨q,hq,rfl,hgo⟩:=hrel
  by_cases hlt : q < l.length
  ·obtain rfl:=HAO.out (by omega)
   have c1:=HAT.out q hlt
   rw [drop_getD 0 hlt,placeGo] at hgo
   have j1 : (0 : Int)≤(q : Int):=by omega
   have j2 : (q : Int) < (l.length : Int):=by omega
   generalize l.getD q 0 = x at *
   by_cases hx : x = f
   ·subst hx
    rw [if_pos rfl] at hgo
    subst hgo
    go_wp2_with fail
    go_ret
    exact ⟨rfl,rfl⟩
   ·rw [if_neg hx] at hgo
    have HGO:=Lib.hid hgo
    have d0 : (x == f) = false:=by rw [beq_eq_false_iff_ne]; exact hx
    clear hgo hx
    go_wp2_with fail
    go_round
    case rel=>exact ⟨q + 1,by omega,by go_num,HGO.out⟩
    case measure=>simp [intOf]; omega
  ·obtain rfl : l.length = q:=by omega
   rw [List.drop_of_length_le (Nat.le_refl _)] at hgo
   have hgo' : res = -1:=hgo.symm
   subst hgo'
   clear hgo
   go_wp2_with fail
   go_ret
   exact ⟨rfl,rfl⟩
end Go.Proofs.YtbpblokfiajpjabGreatDoor

namespace Go.Proofs.YtbpblokfiajpjabGreatDoor
open Go.RowKit Go.SL Go.Crc
attribute [local go_sem ↓] Go.wp_at_zero Go.wp_at_succ
def fillX (F : ShM) (j : JobM) : Nat→Nat
  | 0=>0
  | c + 1=>(bputM j.n (fillX F j c) (c : Int) (wantsM F j (c : Int))).2
theorem fillX_lt (F : ShM) (j : JobM) (hn : j.n≤64) : ∀c,fillX F j c < 2 ^ j.n
  | 0=>Nat.two_pow_pos _
  | c + 1=>bput_lt hn (fillX_lt F j hn c) _ _
theorem fillX_no (F : ShM) (j : JobM) (hn : j.n≤64) : ∀c q,c≤q→q < 64→(fillX F j c).testBit q = false
  | 0,q,_,_=>by simp [fillX]
  | c + 1,q,h,h64=>by
    have ih:=fillX_no F j hn c q (by omega) h64
    rw [fillX]
    cases hp : (bputM j.n (fillX F j c) (c : Int) (wantsM F j (c : Int))).1
    · have : (bputM j.n (fillX F j c) (c : Int) (wantsM F j (c : Int))).2 = fillX F j c:=by
        unfold bputM at hp ⊢
        split at hp
        · cases hp
        · rename_i h; rw [if_neg h]
      rw [this]
      exact ih
    · rw [bput_bits h64 hp,if_neg (by omega)]
      exact ih
theorem fillX_at (F : ShM) (j : JobM) (hn : j.n≤64) {c : Nat} (hc : c < j.n) : ∀q,q < 64→(fillX F j (c + 1)).testBit q = if q = c then wantsM F j (c : Int) else (fillX F j c).testBit q:=by
  intro q hq
  rw [fillX]
  have h0:=fillX_no F j hn c c (Nat.le_refl _) (by omega)
  cases hp : (bputM j.n (fillX F j c) (c : Int) (wantsM F j (c : Int))).1
  · unfold bputM at hp ⊢
    split at hp
    · cases hp
    · rename_i h
      rw [if_neg h]
      by_cases e : q = c
      · subst e
        rw [if_pos rfl,h0]
        cases hw : wantsM F j (q : Int)
        · rfl
        · exfalso
          apply h
          refine ⟨by omega,by omega,?_⟩
          rw [Int.toNat_natCast,h0,hw]
          decide
      · rw [if_neg e]
  · rw [bput_bits hq hp,Int.toNat_natCast]
def isFileB (F : ShM) (x : Int) : Bool:=decide (0≤x) && decide (x < 5) && (F x.toNat).isSome
theorem isFileB_iff {F : ShM} {x : Int} : isFileB F x = true↔isFile F x:=by
  unfold isFileB isFile
  simp only [Bool.and_eq_true,decide_eq_true_eq,Option.isSome_iff_exists,and_assoc]
def jNew (F : ShM) (root kind file rate burst : Int) (l : List Int) (deep : Nat) : JobM:=
  { root:=root,kind:=kind,file:=file,rate:=rate,burst:=burst,list:=l,deep:=deep,n:=(clus F root).toNat,x:=0,at_:=0,st:=2,level:=burst }
def jFill (F : ShM) (j : JobM) : JobM:={ j with x:=fillX F j j.n }
def newM (F : ShM) (root kind file rate burst : Int) : Option JobM×Int:=
  if (walkM F root).2≠0 then (none,(walkM F root).2)
  else if (walkM F root).1.length = 0 then (none,4)
  else if newOk rate burst = false then (none,1)
  else if kind = 1 then
    (if isFileB F file = false then (none,4)
     else if 0≤placeM (walkM F root).1 file∨bkOf F file≠-1∨clus F file≠clus F root then (none,2)
     else (some (jFill F (jNew F root kind file rate burst (walkM F root).1 0)),0))
  else if kind = 2∧file = -1 then (some (jFill F (jNew F root kind file rate burst (walkM F root).1 (walkM F root).1.length)),0)
  else if kind = 2∨kind = 3 then
    (if placeM (walkM F root).1 file < 1 then (none,4) else (some (jFill F (jNew F root kind file rate burst (walkM F root).1 (placeM (walkM F root).1 file).toNat)),0))
  else (none,1)
theorem walkGo_root {F : ShM} {root : Int} : ∀{n : Nat} {l : List Int} {at_ : Int},(∀y,l.head? = some y→y = root)→(l = []→at_ = root)→∀y,(walkGo F root n l at_).1.head? = some y→y = root:=by
  intro n
  induction n with
  | zero=>intro l at_ h _; exact h
  | succ n ih=>
    intro l at_ h h2
    rw [walkGo]
    split
    · exact h
    · split
      · intro y hy; cases hy
      · split
        · intro y hy; cases hy
        · split
          · intro y hy; cases hy
          · split
            · intro y hy; cases hy
            · refine ih ?_ (by simp)
              intro y hy
              cases l with
              | nil=>simp at hy; rw [← hy]; exact h2 rfl
              | cons z l=>exact h y (by simpa using hy)
theorem walk_root {F : ShM} {root : Int} (h : (walkM F root).1.length≠0) : isFile F root:=by
  have h1:=walkGo_root (F:=F) (root:=root) (n:=6) (l:=[]) (at_:=root) (fun y hy=>by cases hy) (fun _=>rfl)
  have h2:=walk_files F root
  cases hw : (walkM F root).1 with
  | nil=>rw [hw] at h; exact absurd rfl h
  | cons z l=>
    have e : z = root:=h1 z (by show (walkM F root).1.head? = _; rw [hw]; rfl)
    rw [← e]
    exact h2 z (by rw [hw]; exact List.mem_cons_self)
theorem clus_range {F : ShM} (hF : ShOk F) {x : Int} (h : isFile F x) : 1≤clus F x∧clus F x≤32:=by
  obtain ⟨k,m,rfl,hk,hm⟩:=isFile_nat h
  rw [clus_of hm]
  have:=(hF.ok k m hk hm).head
  unfold headBad at this
  omega
theorem newOk_iff {r u : Int} : newOk r u = true↔0≤r∧r≤1000∧0≤u∧u≤1000:=by unfold newOk; simp
theorem jNew_ok {F : ShM} (hF : ShOk F) {root kind file rate burst : Int} {deep : Nat} (hr : isFile F root) (hl5 : (walkM F root).1.length≤5) (h0 : (walkM F root).1.length≠0) (ho : newOk rate burst = true) (hk : kind = 1∨kind = 2∨kind = 3) (hd : deep≤(walkM F root).1.length) :
    (jFill F (jNew F root kind file rate burst (walkM F root).1 deep)).Ok:=by
  have hc:=clus_range hF hr
  obtain ⟨a,b,c,d⟩:=newOk_iff.1 ho
  have hn : (jNew F root kind file rate burst (walkM F root).1 deep).n≤64:=by show (clus F root).toNat≤64; omega
  exact ⟨hk,hn,fillX_lt F _ hn _,hl5,h0,hd,⟨a,b⟩,⟨c,d⟩,⟨c,Int.le_refl _⟩,Nat.zero_le _,(⟨by decide,by decide⟩ : (1 : Int)≤2∧(2 : Int)≤5)⟩
theorem place_range (l : List Int) (f : Int) : placeM l f = -1∨(0≤placeM l f∧placeM l f < l.length):=by
  have:=placeGo_range (f:=f) (l:=l) (i:=0)
  unfold placeM
  omega
theorem placeGo_mem {f : Int} : ∀{l : List Int} {i : Nat},0≤placeGo f i l→f∈l:=by
  intro l
  induction l with
  | nil=>intro i h; exact absurd (show (0 : Int)≤-1 from h) (by decide)
  | cons x l ih=>
    intro i h
    rw [placeGo] at h
    split at h
    · rename_i e; rw [e]; exact List.mem_cons_self
    · exact List.mem_cons_of_mem _ (ih h)
theorem newM_good {F : ShM} (hF : ShOk F) {root kind file rate burst : Int} (hl5 : (walkM F root).1.length≤5) {j : JobM} (h : (newM F root kind file rate burst).1 = some j) : j.Ok∧JobS F j:=by
  unfold newM at h
  split at h
  · cases h
  · split at h
    · cases h
    · rename_i h0
      split at h
      · cases h
      · rename_i ho
        have ho : newOk rate burst = true:=by simpa using ho
        have hr:=walk_root h0
        have hf:=walk_files F root
        split at h
        · rename_i hk
          split at h
          · cases h
          · rename_i hfi
            split at h
            · cases h
            · cases h
              exact ⟨jNew_ok hF hr hl5 h0 ho (.inl hk) (Nat.zero_le _),hf,fun _=>(isFileB_iff.1 (by simpa using hfi) : isFile F file)⟩
        · split at h
          · rename_i hk
            cases h
            exact ⟨jNew_ok hF hr hl5 h0 ho (.inr (.inl hk.1)) (Nat.le_refl _),hf,fun h2=>absurd hk.1 h2⟩
          · split at h
            · rename_i hk
              split at h
              · cases h
              · rename_i hp
                cases h
                have hpr:=place_range (walkM F root).1 file
                exact ⟨jNew_ok hF hr hl5 h0 ho (.inr hk) (by omega),hf,fun _=>(hf _ (placeGo_mem (i:=0) (by show 0≤placeM (walkM F root).1 file; omega)) : isFile F file)⟩
            · cases h
end Go.Proofs.YtbpblokfiajpjabGreatDoor

namespace Go.Proofs.YtbpblokfiajpjabGreatDoor
open Go.RowKit Go.SL Go.Crc
attribute [local go_sem ↓] Go.wp_at_zero Go.wp_at_succ
def RNewPost (bs : Nat) (A : Nat→Nat×Nat) (F : ShM) (res : Option JobM×Int) (R : List SL.HP) (w : World) (e : Ending) (w' : World) : Prop:=
 match res with
 | (none,f)=>e = .returned (.tuple #[.pointer none,.int .i64 f])∧Ext w w'∧own w' (rshL bs A F++R)
 | (some j,_)=>∃br v,e = .returned (.tuple #[.pointer (some ⟨br,0,none⟩),.int .i64 0])∧Ext w w'∧own w' (rshL bs A F++(rjobP bs br v j::(row 3 1 v j.list.length (intVals j.list)::R)))
theorem RNewPost.no {bs : Nat} {A : Nat→Nat×Nat} {F : ShM} {f : Int} {R : List SL.HP} {w : World} {e : Ending} {w' : World} (h1 : e = .returned (.tuple #[.pointer none,.int .i64 f])) (h2 : Ext w w') (h3 : own w' (rshL bs A F++R)) : RNewPost bs A F (none,f) R w e w':=⟨h1,h2,h3⟩
theorem RNewPost.yes {bs : Nat} {A : Nat→Nat×Nat} {F : ShM} {j : JobM} {R : List SL.HP} {w : World} {e : Ending} {w' : World} (br : Nat) (v : Value) (h1 : e = .returned (.tuple #[.pointer (some ⟨br,0,none⟩),.int .i64 0])) (h2 : Ext w w') (h3 : own w' (rshL bs A F++(rjobP bs br v j::(row 3 1 v j.list.length (intVals j.list)::R)))) : RNewPost bs A F (some j,0) R w e w':=⟨br,v,h1,h2,h3⟩
def jBox (k kind file rate burst : Int) (l : List Int) : JobM:={ root:=k,kind:=kind,file:=file,rate:=rate,burst:=burst,list:=l,deep:=0,n:=0,x:=0,at_:=0,st:=2,level:=burst }
theorem jBox_lit (bs : Nat) (v : Value) (k kind file rate burst : Int) (l : List Int) :
  #[.pointer (some ⟨bs,0,none⟩),.int .i64 k,.int .i64 kind,.int .i64 file,.int .i64 rate,.int .i64 burst,v,.int .i64 0,.int .i64 0,.bool false,.bool false,.bool false,.bool false,.bool false,.bool false,.bool false,.bool false,.bool false,.bool false,.bool false,.bool false,.bool false,.bool false,.bool false,.bool false,.bool false,.bool false,.bool false,.bool false,.bool false,.bool false,.bool false,.bool false,.bool false,.bool false,.bool false,.bool false,.bool false,.bool false,.bool false,.bool false,.bool false,.bool false,.bool false,.bool false,.bool false,.bool false,.bool false,.bool false,.bool false,.bool false,.bool false,.bool false,.bool false,.bool false,.bool false,.bool false,.bool false,.bool false,.bool false,.bool false,.bool false,.bool false,.bool false,.bool false,.bool false,.bool false,.bool false,.bool false,.bool false,.bool false,.bool false,.bool false,.int .i64 (-1),.int .i64 2,.int .i64 rate,.int .i64 burst,.int .i64 burst] = rjobC bs v (jBox k kind file rate burst l):=by
 refine Array.ext_getElem? fun i=>?_
 by_cases hi : i < 78
 ·rw [rjob_get _ _ _ hi]
  by_cases h : 9≤i∧i < 73
  ·rw [rjob_bitV _ _ _ h.1 h.2,show (jBox k kind file rate burst l).x = 0 from rfl,Nat.zero_testBit]
   have : i = 9∨i = 10∨i = 11∨i = 12∨i = 13∨i = 14∨i = 15∨i = 16∨i = 17∨i = 18∨i = 19∨i = 20∨i = 21∨i = 22∨i = 23∨i = 24∨i = 25∨i = 26∨i = 27∨i = 28∨i = 29∨i = 30∨i = 31∨i = 32∨i = 33∨i = 34∨i = 35∨i = 36∨i = 37∨i = 38∨i = 39∨i = 40∨i = 41∨i = 42∨i = 43∨i = 44∨i = 45∨i = 46∨i = 47∨i = 48∨i = 49∨i = 50∨i = 51∨i = 52∨i = 53∨i = 54∨i = 55∨i = 56∨i = 57∨i = 58∨i = 59∨i = 60∨i = 61∨i = 62∨i = 63∨i = 64∨i = 65∨i = 66∨i = 67∨i = 68∨i = 69∨i = 70∨i = 71∨i = 72:=by omega
   rcases this with rfl | rfl | rfl | rfl | rfl | rfl | rfl | rfl | rfl | rfl | rfl | rfl | rfl | rfl | rfl | rfl | rfl | rfl | rfl | rfl | rfl | rfl | rfl | rfl | rfl | rfl | rfl | rfl | rfl | rfl | rfl | rfl | rfl | rfl | rfl | rfl | rfl | rfl | rfl | rfl | rfl | rfl | rfl | rfl | rfl | rfl | rfl | rfl | rfl | rfl | rfl | rfl | rfl | rfl | rfl | rfl | rfl | rfl | rfl | rfl | rfl | rfl | rfl | rfl <;> rfl
  ·have : i = 0∨i = 1∨i = 2∨i = 3∨i = 4∨i = 5∨i = 6∨i = 7∨i = 8∨i = 73∨i = 74∨i = 75∨i = 76∨i = 77:=by omega
   rcases this with rfl | rfl | rfl | rfl | rfl | rfl | rfl | rfl | rfl | rfl | rfl | rfl | rfl | rfl
   all_goals first | rfl | (show some (Value.int .i64 0) = some (Value.int .i64 ((deepR (jBox k kind file rate burst l) : Nat) : Int)); unfold deepR; split <;> rfl)
 ·rw [Array.getElem?_eq_none (by show 78≤i; omega),Array.getElem?_eq_none (by simp [rjobC]; omega)]
theorem jBox_box (bs : Nat) (v : Value) (k kind file rate burst : Int) (l : List Int) :
  ((((((((((((Tryz.zeroCells149.setIfInBounds 0 (.pointer (some ⟨bs,0,none⟩))).setIfInBounds 1 (.int .i64 k)).setIfInBounds 2 (.int .i64 kind)).setIfInBounds 3 (.int .i64 file)).setIfInBounds 4 (.int .i64 rate)).setIfInBounds 5 (.int .i64 burst)).setIfInBounds 6 v).setIfInBounds 73 (.int .i64 (-1))).setIfInBounds 74 (.int .i64 2)).setIfInBounds 75 (.int .i64 rate)).setIfInBounds 76 (.int .i64 burst)).setIfInBounds 77 (.int .i64 burst)) = rjobC bs v (jBox k kind file rate burst l):=(show ((((((((((((Tryz.zeroCells149.setIfInBounds 0 (.pointer (some ⟨bs,0,none⟩))).setIfInBounds 1 (.int .i64 k)).setIfInBounds 2 (.int .i64 kind)).setIfInBounds 3 (.int .i64 file)).setIfInBounds 4 (.int .i64 rate)).setIfInBounds 5 (.int .i64 burst)).setIfInBounds 6 v).setIfInBounds 73 (.int .i64 (-1))).setIfInBounds 74 (.int .i64 2)).setIfInBounds 75 (.int .i64 rate)).setIfInBounds 76 (.int .i64 burst)).setIfInBounds 77 (.int .i64 burst)) = #[.pointer (some ⟨bs,0,none⟩),.int .i64 k,.int .i64 kind,.int .i64 file,.int .i64 rate,.int .i64 burst,v,.int .i64 0,.int .i64 0,.bool false,.bool false,.bool false,.bool false,.bool false,.bool false,.bool false,.bool false,.bool false,.bool false,.bool false,.bool false,.bool false,.bool false,.bool false,.bool false,.bool false,.bool false,.bool false,.bool false,.bool false,.bool false,.bool false,.bool false,.bool false,.bool false,.bool false,.bool false,.bool false,.bool false,.bool false,.bool false,.bool false,.bool false,.bool false,.bool false,.bool false,.bool false,.bool false,.bool false,.bool false,.bool false,.bool false,.bool false,.bool false,.bool false,.bool false,.bool false,.bool false,.bool false,.bool false,.bool false,.bool false,.bool false,.bool false,.bool false,.bool false,.bool false,.bool false,.bool false,.bool false,.bool false,.bool false,.bool false,.int .i64 (-1),.int .i64 2,.int .i64 rate,.int .i64 burst,.int .i64 burst] by kernel_rfl).trans (jBox_lit bs v k kind file rate burst l)
theorem rjob_n (bs : Nat) (v : Value) (j : JobM) (s : Nat) : ∀q,q < 78→rjobV bs v { j with n:=s } q = if q = 8 then .int .i64 (s : Nat) else rjobV bs v j q:=by
 intro q _
 unfold rjobV
 by_cases h : q = 8
 ·subst h; rfl
 ·rw [if_neg h,if_neg h,if_neg h]; rfl
theorem rjob_deep (bs : Nat) (v : Value) (j : JobM) (hk : j.kind≠1) (s : Nat) : ∀q,q < 78→rjobV bs v { j with deep:=s } q = if q = 7 then .int .i64 (s : Nat) else rjobV bs v j q:=by
 intro q _
 unfold rjobV
 by_cases h : q = 7
 ·subst h
  show Value.int .i64 ((deepR { j with deep:=s } : Nat) : Int) = _
  unfold deepR
  rw [if_neg hk]
  try rfl
 ·rw [if_neg h,if_neg h,if_neg h]; try rfl
theorem rjob_fill (bs : Nat) (v : Value) (F : ShM) (j : JobM) (hn : j.n≤64) {c : Nat} (hc : c < j.n) : ∀q,q < 78→rjobV bs v { j with x:=fillX F j (c + 1) } q = if q = 9 + c then .bool (wantsM F j (c : Int)) else rjobV bs v { j with x:=fillX F j c } q:=by
 intro q hq
 by_cases h : 9≤q∧q < 73
 ·rw [rjob_bitV _ _ _ h.1 h.2,rjob_bitV _ _ _ h.1 h.2]
  show Value.bool ((fillX F j (c + 1)).testBit (q - 9)) = _
  rw [fillX_at F j hn hc _ (by omega)]
  by_cases e : q - 9 = c
  ·rw [if_pos e,if_pos (by omega)]
  ·rw [if_neg e,if_neg (by omega)]
 ·rw [if_neg (by omega),rjob_other bs v j (fillX F j (c + 1)) h hq,rjob_other bs v j (fillX F j c) h hq]
end Go.Proofs.YtbpblokfiajpjabGreatDoor

namespace Go.Proofs.YtbpblokfiajpjabGreatDoor
open Go.RowKit Go.SL Go.Crc
attribute [local go_sem ↓] Go.wp_at_zero Go.wp_at_succ
def NewPost (bs : Nat) (A : Nat→Nat×Nat×Nat) (F : ShM) (res : Option JobM×Int) (R : List SL.HP) (w : World) (e : Ending) (w' : World) : Prop:=
 match res with
 | (none,f)=>e = .returned (.tuple #[.pointer none,errV f])∧Ext w w'∧own w' (shL bs A F++R)
 | (some j,_)=>∃bj bt bb v,e = .returned (.tuple #[.pointer (some ⟨bj,0,none⟩),.nilIface])∧Ext w w'∧own w' (shL bs A F++(jobL bs bj bt bb v j++(row 3 1 v j.list.length (intVals j.list)::R)))
theorem NewPost.no {bs : Nat} {A : Nat→Nat×Nat×Nat} {F : ShM} {f : Int} {R : List SL.HP} {w : World} {e : Ending} {w' : World} (h1 : e = .returned (.tuple #[.pointer none,errV f])) (h2 : Ext w w') (h3 : own w' (shL bs A F++R)) : NewPost bs A F (none,f) R w e w':=⟨h1,h2,h3⟩
theorem NewPost.yes {bs : Nat} {A : Nat→Nat×Nat×Nat} {F : ShM} {j : JobM} {R : List SL.HP} {w : World} {e : Ending} {w' : World} (bj bt bb : Nat) (v : Value) (h1 : e = .returned (.tuple #[.pointer (some ⟨bj,0,none⟩),.nilIface])) (h2 : Ext w w') (h3 : own w' (shL bs A F++(jobL bs bj bt bb v j++(row 3 1 v j.list.length (intVals j.list)::R)))) : NewPost bs A F (some j,0) R w e w':=⟨bj,bt,bb,v,h1,h2,h3⟩
theorem jz_ok {F : ShM} {j : JobM} (h : (jFill F j).Ok) (q : Nat) : ({ j with x:=fillX F j q } : JobM).Ok:={ h with x:=fillX_lt F j h.n q }
theorem turnM_two {j : JobM} (h : j.st = 2) : turnM j = j:=by unfold turnM; rw [h]; rfl
theorem jz_next {bs : Nat} {A : Nat→Nat×Nat×Nat} {F : ShM} {bj bt bb : Nat} {v : Value} {j : JobM} {q : Nat} {L : List SL.HP} {w : World} (H : own w ((shL bs A F++(jobL bs bj bt bb v { j with x:=fillX F j q }++L)).set 7 (bsetAt bt j.n (bputM j.n (fillX F j q) (q : Int) (wantsM F { j with x:=fillX F j q } (q : Int))).2))) :
  own w (shL bs A F++(jobL bs bj bt bb v { j with x:=fillX F j (q + 1) }++L)):=H
end Go.Proofs.YtbpblokfiajpjabGreatDoor
