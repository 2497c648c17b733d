/- Lemmas on which YardOpens stands: the texts Jobs7 Jobs8 Jobs10 Jobs11 Jobs12 Jobs9 Chain19 Chain20 Jobs17 Jobs18 Yard1. No conditions. -/
import Derived.Test.YtbpblokfiajpjabGreatDoorPk8d86564021
import Derived.Test.YtbpblokfiajpjabGreatDoorProg
set_option linter.all false
set_option maxRecDepth 1000000
set_option maxHeartbeats 32000000
namespace Go.Proofs.YtbpblokfiajpjabGreatDoor
open Go.RowKit Go.SL Go.Crc
attribute [local go_sem ↓] Go.wp_at_zero Go.wp_at_succ
def yx (bs : Nat) (v : Value) (j : JobM) (i : Nat) : Value:=
 if i = 0 then .pointer (some ⟨bs,0,none⟩) else if i = 1 then .int .i64 j.root else if i = 2 then .int .i64 j.kind else if i = 3 then .int .i64 j.file else if i = 4 then .int .i64 j.rate
 else if i = 5 then .int .i64 j.burst else if i = 6 then v else if i = 7 then .int .i64 (Gh j : Nat) else if i = 8 then .int .i64 (j.n : Nat) else if i = 73 then .int .i64 ((j.at_ : Nat) - 1 : Int)
 else if i = 74 then .int .i64 j.st else if i = 75 then .int .i64 j.rate else if i = 76 then .int .i64 j.burst else if i = 77 then .int .i64 j.level else .bool (j.x.testBit (i - 9))
def AV (bs : Nat) (v : Value) (j : JobM) : Array Value:=Array.ofFn (n:=78) fun i=>yx bs v j i
def lA (bs br : Nat) (v : Value) (j : JobM) : SL.HP:=pts br (.cells (AV bs v j) 149 (0,0))
theorem Dp (bs : Nat) (v : Value) (j : JobM) {i : Nat} (hi : i < 78) : (AV bs v j)[i]? = some (yx bs v j i):=by
 unfold AV
 rw [Array.getElem?_ofFn,dif_pos hi]
theorem lp {w : World} {L : List SL.HP} {bs br : Nat} {v : Value} {j : JobM} (k : Nat) (H : own w L) (hk : L[k]? = some (lA bs br v j)) (i : Nat) (hi : i < 78) : w.cell? ⟨br,i,none⟩ = some (yx bs v j i):=by
 rw [(ld k H hk).1 i,Dp _ _ _ hi]
theorem oU {w : World} {L : List SL.HP} {bs br : Nat} {v : Value} {j : JobM} (k : Nat) (H : own w L) (hk : L[k]? = some (lA bs br v j)) (i : Nat) : w.frozen? ⟨br,i,none⟩ = false:=(ld k H hk).2 i
theorem Le {bs : Nat} {v : Value} {j j' : JobM} {k : Nat} {a : Value} (h : ∀i,i < 78 -> yx bs v j' i = if i = k then a else yx bs v j i) : (AV bs v j).setIfInBounds k a = AV bs v j':=by
 refine Array.ext_getElem? fun i=>?_
 rw [Array.getElem?_setIfInBounds]
 have hsz : (AV bs v j).size = 78:=by simp [AV]
 by_cases hi : i < 78
 ·rw [Dp _ _ _ hi,Dp _ _ _ hi,h i hi,hsz]
  by_cases e : k = i
  ·subst e; simp [hi]
  ·have : ¬i = k:=fun h=>e h.symm
   simp [e,this]
 ·have n1 : (AV bs v j)[i]? = none:=Array.getElem?_eq_none (by rw [hsz]; omega)
  have n2 : (AV bs v j')[i]? = none:=Array.getElem?_eq_none (by simp [AV]; omega)
  rw [n1,n2,hsz]
  by_cases e : k = i
  ·subst e; simp [hi]
  ·simp [e]
theorem yV {w : World} {L : List SL.HP} {bs br : Nat} {v : Value} {j j' : JobM} {i : Nat} {a : Value} (k : Nat) (H : own w L) (hk : L[k]? = some (lA bs br v j)) (h : ∀q,q < 78 -> yx bs v j' q = if q = i then a else yx bs v j q) :
  own (w.setCell ⟨br,i,none⟩ a) (L.set k (lA bs br v j')):=by
 have h1:=lg (i:=i) (v:=a) k H hk
 rw [Le h] at h1
 exact h1
theorem B6 (bs : Nat) (v : Value) (j : JobM) (s : Int) : ∀q,q < 78 -> yx bs v { j with st:=s } q = if q = 74 then .int .i64 s else yx bs v j q:=by
 intro q _
 unfold yx
 by_cases h : q = 74
 ·subst h; rfl
 ·rw [if_neg h,if_neg h,if_neg h]; rfl
theorem G7 (bs : Nat) (v : Value) (j : JobM) (a : Nat) : ∀q,q < 78 -> yx bs v { j with at_:=a } q = if q = 73 then .int .i64 ((a : Nat) - 1 : Int) else yx bs v j q:=by
 intro q _
 unfold yx
 by_cases h : q = 73
 ·subst h; rfl
 ·rw [if_neg h,if_neg h,if_neg h]; rfl
theorem Qw (bs : Nat) (v : Value) (j : JobM) (s : Int) : ∀q,q < 78 -> yx bs v { j with level:=s } q = if q = 77 then .int .i64 s else yx bs v j q:=by
 intro q _
 unfold yx
 by_cases h : q = 77
 ·subst h; rfl
 ·rw [if_neg h,if_neg h,if_neg h]; rfl
theorem Cz (bs : Nat) (v : Value) (j : JobM) {q : Nat} (h0 : 9 <= q) (h1 : q < 73) : yx bs v j q = .bool (j.x.testBit (q - 9)):=by
 unfold yx
 rw [if_neg (by omega),if_neg (by omega),if_neg (by omega),if_neg (by omega),if_neg (by omega),if_neg (by omega),if_neg (by omega),if_neg (by omega),if_neg (by omega),if_neg (by omega),if_neg (by omega),if_neg (by omega),if_neg (by omega),if_neg (by omega)]
theorem FY (bs : Nat) (v : Value) (j : JobM) (x : Nat) {q : Nat} (h : ¬(9 <= q /\ q < 73)) (h78 : q < 78) : yx bs v { j with x:=x } q = yx bs v j q:=by
 have : q = 0 \/ q = 1 \/ q = 2 \/ q = 3 \/ q = 4 \/ q = 5 \/ q = 6 \/ q = 7 \/ q = 8 \/ q = 73 \/ q = 74 \/ q = 75 \/ q = 76 \/ q = 77:=by omega
 rcases this with rfl | rfl | rfl | rfl | rfl | rfl | rfl | rfl | rfl | rfl | rfl | rfl | rfl | rfl <;> rfl
theorem UN (bs : Nat) (v : Value) (j : JobM) (i : Int) (b : Bool) (hn : j.n <= 64) (hp : (od j.n j.x i b).1 = true) : ∀q,q < 78 -> yx bs v { j with x:=(od j.n j.x i b).2 } q = if q = 9 + i.toNat then .bool b else yx bs v j q:=by
 intro q hq
 have hi : 0 <= i /\ i < j.n:=by
  unfold od at hp
  split at hp
  ·rename_i h; exact ⟨h.1,h.2.1⟩
  ·cases hp
 by_cases h : 9 <= q /\ q < 73
 ·rw [Cz _ _ _ h.1 h.2,Cz _ _ _ h.1 h.2]
  show Value.bool ((od j.n j.x i b).2.testBit (q - 9)) = _
  rw [Ik (by omega) hp]
  by_cases e : q - 9 = i.toNat
  ·rw [if_pos e,if_pos (by omega)]
  ·rw [if_neg e,if_neg (by omega)]
 ·rw [FY _ _ _ _ h hq,if_neg (by omega)]
theorem Ec {w : World} {L : List SL.HP} {bs br : Nat} {v : Value} {j : JobM} (k : Nat) (H : own w L) (hk : L[k]? = some (lA bs br v j)) : Ds w br 8 j.n j.x:=
 ⟨lp k H hk 8 (by decide),fun i hi=>by
  have:=lp k H hk (8 + 1 + i) (by omega)
  rw [Cz _ _ _ (by omega) (by omega),show 8 + 1 + i - 9 = i by omega] at this
  exact this⟩
theorem NC {L : List SL.HP} {bs br : Nat} {v : Value} {j : JobM} (hn : j.n <= 64) (i : Int) (b : Bool) (k : Nat) (w : World) (H : own w L) (hk : L[k]? = some (lA bs br v j)) :
  Calls Tryz.prog 183 #[.pointer (some ⟨br,8,none⟩),.int .i64 i,.bool b] w fun e w'=>e = .returned (.bool (od j.n j.x i b).1) /\ Ext w w' /\ own w' (L.set k (lA bs br v { j with x:=(od j.n j.x i b).2 })):=by
 refine (Ud br 8 j.n j.x hn i b w (Ec k H hk) (fun q _=>oU k H hk _)).mono ?_
 rintro e w' ⟨rfl,rfl⟩
 cases hp : (od j.n j.x i b).1
 ·rw [if_neg (by simp)]
  have hx : (od j.n j.x i b).2 = j.x:=by
   unfold od at hp ⊢
   split at hp
   ·cases hp
   ·rename_i h; rw [if_neg h]
  rw [hx]
  exact ⟨rfl,Ext.refl _,C3 H hk⟩
 ·rw [if_pos rfl]
  exact ⟨rfl,(Ext.refl _).setCell _ _,yV k H hk (UN bs v j i b hn hp)⟩
theorem Em {bs br : Nat} {v : Value} {j : JobM} (l : Int) : lA bs br v { j with level:=l } = bkB br (AV bs v j) 149 75 l:=by
 unfold lA bkB
 rw [Le (Qw bs v j l)]
theorem Id (bs : Nat) (v : Value) (j : JobM) : BkAt (AV bs v j) 75 j.rate j.burst:=
 ⟨by rw [Dp _ _ _ (by decide)]; rfl,by rw [Dp _ _ _ (by decide)]; rfl,by simp [AV]⟩
theorem Gq (bs br : Nat) (v : Value) (j : JobM) (L : List SL.HP) (w : World) (H : own w (lA bs br v j::L)) :
  Calls Tryz.prog 184 #[.pointer (some ⟨br,0,none⟩)] w fun e w'=>e = .returned (.tuple #[]) /\ Ext w w' /\ own w' (lA bs br v (y9 j)::L):=by
 have c7 : w.cell? ⟨br,74,none⟩ = some (.int .i64 j.st):=lp 0 H rfl 74 (by decide)
 have f7:=oU 0 H rfl 74
 have hs : ∀s : Int,own (w.setCell ⟨br,74,none⟩ (.int .i64 s)) (lA bs br v { j with st:=s }::L):=fun s=>yV (i:=74) (a:=.int .i64 s) 0 H rfl (B6 bs v j s)
 have HC:=Kb br 8 j.n j.x w (Ec 0 H rfl)
 rw [F7] at HC
 have HC:=zh HC
 have HS:=zh hs
 have hq:=SI j.x
 clear hs
 unfold y9
 by_cases h1 : j.st = 1
 ·rw [h1] at c7
  by_cases h0 : cnt j.x = 0
  ·rw [if_pos ⟨h1,h0⟩]
   rw [h0] at HC
   clear h1 h0 hq
   go_enter Tryz.func184,Tryz.ntmps184
   go_wp2_with fail
   refine HC.out.mono ?_
   rintro e w' ⟨rfl,rfl⟩
   go_wp2_with fail
   go_end0
   exact ⟨rfl,(Ext.refl _).setCell _ _,HS.out 3⟩
  ·rw [if_neg (fun h=>h0 h.2),if_neg (by rw [h1]; intro h; exact absurd h.1 (by decide))]
   generalize cnt j.x = q at *
   have d0 : ((q : Int) == 0) = false:=by rw [beq_eq_false_iff_ne]; omega
   clear h1 h0 hq
   go_enter Tryz.func184,Tryz.ntmps184
   go_wp2_with fail
   refine HC.out.mono ?_
   rintro e w' ⟨rfl,rfl⟩
   go_wp2_with fail
   go_end0
   exact ⟨rfl,Ext.refl _,H⟩
 ·rw [if_neg (fun h=>h1 h.1)]
  by_cases h3 : j.st = 3
  ·rw [h3] at c7
   by_cases h0 : 0 < cnt j.x
   ·rw [if_pos ⟨h3,h0⟩]
    generalize cnt j.x = q at *
    have d0 : decide (0 < (q : Int)) = true:=decide_eq_true (by omega)
    clear h1 h3 hq
    go_enter Tryz.func184,Tryz.ntmps184
    go_wp2_with fail
    refine HC.out.mono ?_
    rintro e w' ⟨rfl,rfl⟩
    go_wp2_with fail
    go_end0
    exact ⟨rfl,(Ext.refl _).setCell _ _,HS.out 1⟩
   ·rw [if_neg (fun h=>h0 h.2)]
    generalize cnt j.x = q at *
    have d0 : decide (0 < (q : Int)) = false:=decide_eq_false (by omega)
    clear h1 h3 hq
    go_enter Tryz.func184,Tryz.ntmps184
    go_wp2_with fail
    refine HC.out.mono ?_
    rintro e w' ⟨rfl,rfl⟩
    go_wp2_with fail
    go_end0
    exact ⟨rfl,Ext.refl _,H⟩
  ·rw [if_neg (fun h=>h3 h.1)]
   have d1 : (j.st == 1) = false:=by rw [beq_eq_false_iff_ne]; exact h1
   have d3 : (j.st == 3) = false:=by rw [beq_eq_false_iff_ne]; exact h3
   generalize cnt j.x = q at *
   clear h1 h3 hq
   go_enter Tryz.func184,Tryz.ntmps184
   go_wp2_with fail
   refine HC.out.mono ?_
   rintro e w' ⟨rfl,rfl⟩
   go_wp2_with fail
   go_end0
   exact ⟨rfl,Ext.refl _,H⟩
theorem QT (bs br : Nat) (v : Value) (j : JobM) (L : List SL.HP) (w : World) (H : own w (lA bs br v j::L)) :
  Calls Tryz.prog 22 #[.pointer (some ⟨br,0,none⟩)] w fun e w'=>e = .returned (.bool (decide (j.st < 4))) /\ w = w':=by
 have c7 : w.cell? ⟨br,74,none⟩ = some (.int .i64 j.st):=lp 0 H rfl 74 (by decide)
 go_enter Tryz.func22,Tryz.ntmps22
 go_wp2_with fail
 go_ret
 exact ⟨rfl,rfl⟩
theorem Of (bs br : Nat) (v : Value) (j : JobM) (hj : j.Ok) (c : Int) (L : List SL.HP) (w : World) (H : own w (lA bs br v j::L)) :
  Calls Tryz.prog 81 #[.pointer (some ⟨br,0,none⟩),.int .i64 c] w fun e w'=>e = .returned (.tuple #[]) /\ Ext w w' /\ own w' (lA bs br v (zy j c)::L):=by
 have c7 : w.cell? ⟨br,74,none⟩ = some (.int .i64 j.st):=lp 0 H rfl 74 (by decide)
 have c2 : w.cell? ⟨br,2,none⟩ = some (.int .i64 j.kind):=lp 0 H rfl 2 (by decide)
 unfold zy
 by_cases h4 : j.st < 4
 ·have d4 : decide (j.st < 4) = true:=decide_eq_true h4
  by_cases h2 : j.kind = 2
  ·rw [if_neg (fun h=>h.2 h2)]
   rw [h2] at c2
   clear h4
   go_enter Tryz.func81,Tryz.ntmps81
   go_wp2_with fail
   go_end0
   exact ⟨rfl,Ext.refl _,H⟩
  ·rw [if_pos ⟨h4,h2⟩]
   have d2 : (j.kind != 2) = true:=bne_iff_ne.2 h2
   have HP:=zh (NC (v:=v) (bs:=bs) (br:=br) (j:=j) hj.n c true 0 w H rfl)
   have HT:=zh (fun w' h=>Gq bs br v { j with x:=(od j.n j.x c true).2 } L w' h)
   clear h4 h2
   go_enter Tryz.func81,Tryz.ntmps81
   go_wp2_with fail
   refine HP.out.mono ?_
   rintro e w2 ⟨rfl,hx2,h2'⟩
   go_wp2_with fail
   refine (HT.out w2 h2').mono ?_
   rintro e w3 ⟨rfl,hx3,h4'⟩
   go_wp2_with fail
   go_end0
   exact ⟨rfl,hx2.trans hx3,h4'⟩
 ·rw [if_neg (fun h=>h4 h.1)]
  have d4 : decide (j.st < 4) = false:=decide_eq_false h4
  clear h4
  go_enter Tryz.func81,Tryz.ntmps81
  go_wp2_with fail
  go_end0
  exact ⟨rfl,Ext.refl _,H⟩
theorem I1 (bs br : Nat) (v : Value) (j : JobM) (on : Bool) (L : List SL.HP) (w : World) (H : own w (lA bs br v j::L)) :
  Calls Tryz.prog 82 #[.pointer (some ⟨br,0,none⟩),.bool on] w fun e w'=>e = .returned (.int .i64 (yG j on).1) /\ Ext w w' /\ own w' (lA bs br v (yG j on).2::L):=by
 have c7 : w.cell? ⟨br,74,none⟩ = some (.int .i64 j.st):=lp 0 H rfl 74 (by decide)
 have f7:=oU 0 H rfl 74
 have hs : ∀s : Int,own (w.setCell ⟨br,74,none⟩ (.int .i64 s)) (lA bs br v { j with st:=s }::L):=fun s=>yV (i:=74) (a:=.int .i64 s) 0 H rfl (B6 bs v j s)
 have H1:=hs 1
 have H2:=hs 2
 have HT:=zh (fun w' h=>Gq bs br v { j with st:=1 } L w' h)
 clear hs
 unfold yG
 cases on
 ·rw [if_neg (by decide)]
  by_cases h2 : j.st = 2
  ·rw [if_pos h2]
   rw [h2] at c7
   clear h2
   go_enter Tryz.func82,Tryz.ntmps82
   go_wp2_with fail
   refine (HT.out _ H1).mono ?_
   rintro e w' ⟨rfl,hx,h⟩
   go_wp2_with fail
   go_ret
   exact ⟨rfl,((Ext.refl _).setCell _ _).trans hx,h⟩
  ·rw [if_neg h2]
   have d2 : (j.st == 2) = false:=by rw [beq_eq_false_iff_ne]; exact h2
   clear h2
   go_enter Tryz.func82,Tryz.ntmps82
   go_wp2_with fail
   go_ret
   exact ⟨rfl,Ext.refl _,H⟩
 ·rw [if_pos rfl]
  by_cases h1 : j.st = 1
  ·rw [if_pos (.inl h1)]
   rw [h1] at c7
   clear h1
   go_enter Tryz.func82,Tryz.ntmps82
   go_wp2_with fail
   go_ret
   exact ⟨rfl,(Ext.refl _).setCell _ _,H2⟩
  ·have d1 : (j.st == 1) = false:=by rw [beq_eq_false_iff_ne]; exact h1
   by_cases h3 : j.st = 3
   ·rw [if_pos (.inr h3)]
    rw [h3] at c7 d1
    clear h1 h3
    go_enter Tryz.func82,Tryz.ntmps82
    go_wp2_with fail
    go_ret
    exact ⟨rfl,(Ext.refl _).setCell _ _,H2⟩
   ·rw [if_neg (by rintro (h | h); exact h1 h; exact h3 h)]
    have d3 : (j.st == 3) = false:=by rw [beq_eq_false_iff_ne]; exact h3
    clear h1 h3
    go_enter Tryz.func82,Tryz.ntmps82
    go_wp2_with fail
    go_ret
    exact ⟨rfl,Ext.refl _,H⟩
theorem I4 (bs : Nat) (A : Nat -> Nat×Nat) (F : ShM) (hF : ShOk F) (br : Nat) (v : Value) (j : JobM) (hj : j.Ok) (hl : ∀x∈j.list,lx F x) (c : Int) (R : List SL.HP) (w : World)
  (hv : ∀w' L,own w' (L++R) -> lR w' v j.list) (H : own w (rshL bs A F++(lA bs br v j::R))) :
  Calls Tryz.prog 78 #[.pointer (some ⟨br,0,none⟩),.int .i64 c] w fun e w'=>e = .returned (.bool (o5 F j c)) /\ ∃n,w' = w.drewN n:=by
 have c2 : w.cell? ⟨br,2,none⟩ = some (.int .i64 j.kind):=lp 6 H rfl 2 (by decide)
 unfold o5
 by_cases h1 : j.kind = 1
 ·rw [if_pos h1]
  rw [h1] at c2
  go_enter Tryz.func78,Tryz.ntmps78
  go_wp2_with fail
  go_ret
  exact ⟨rfl,0,rfl⟩
 ·rw [if_neg h1]
  have hvw:=yE hv [lA bs br v j]
  obtain ⟨ao,lb,off,cap,rfl,hlc,hcap,hao,-⟩:=(hvw w _ H).form
  have hd : j.deep <= j.list.length:=hj.deep
  have hf : ∀w',own w' (rshL bs A F++(lA bs br (.slice ao j.list.length cap) j::R)) -> Calls Tryz.prog 178 #[.pointer (some ⟨bs,0,none⟩),.slice ao j.deep cap,.int .i64 c] w' fun e w''=>e = .returned (.int .i64 (yq F (j.list.take j.deep) c)) /\ ∃n,w'' = w'.drewN n:=fun w' h=>
   J6 bs A F hF _ _ (fun x hx=>hl x (List.mem_of_mem_take hx)) (by rw [List.length_take]; have:=hj.len; omega) c _ w' ((hvw w' _ h).take _ hd) h
  have c0 : w.cell? ⟨br,0,none⟩ = some (.pointer (some ⟨bs,0,none⟩)):=lp 6 H rfl 0 (by decide)
  have c6 : w.cell? ⟨br,6,none⟩ = some (.slice ao j.list.length cap):=lp 6 H rfl 6 (by decide)
  have c7 : w.cell? ⟨br,7,none⟩ = some (.int .i64 (j.deep : Nat)):=by
   have : w.cell? ⟨br,7,none⟩ = some (.int .i64 (Gh j : Nat)):=lp 6 H rfl 7 (by decide)
   rw [this]; unfold Gh; rw [if_neg h1]
  have i1 : (0 : Int) <= (j.deep : Int):=by omega
  have i2 : (j.deep : Int) <= (cap : Int):=by omega
  have hk : j.kind = 2 \/ j.kind = 3:=by have:=hj.kind; omega
  have HF:=zh hf
  have HOW:=zh H
  generalize yq F (j.list.take j.deep) c = fi at *
  generalize j.deep = dp at *
  clear hf hl hv hvw hao H hd hlc
  have hkk : ∀n,(w.drewN n).cell? ⟨br,2,none⟩ = some (.int .i64 j.kind):=fun n=>c2
  clear h1
  generalize j.kind = kd at *
  rcases hk with rfl | rfl
  all_goals
   first
   | rw [if_pos rfl]
   | rw [if_neg (by decide)]
   go_enter Tryz.func78,Tryz.ntmps78
   go_upto_region 3 with (fail)
   go_quiet ((go_at_call 178; exact Calls.quiet_of (HF.out _ (by first | exact HOW.out | exact lj HOW.out | exact lm _ HOW.out))))
   have k1:=hkk nq
   clear hkk c0 c6 c7 c2
   by_cases hfi : 0 < fi
   all_goals
    go_wp2_with fail
    go_ret
    exact ⟨oT (by first | rfl | (simp; omega)),_,rfl⟩
theorem Np (bs br : Nat) (v : Value) (j : JobM) (L : List SL.HP) (w : World) (H : own w (lA bs br v j::L)) :
  Calls Tryz.prog 20 #[.pointer (some ⟨br,0,none⟩)] w fun e w'=>e = .returned (CB j) /\ Ext w w' /\ own w' (lA bs br v j::L):=by
 have ha:=li H (.cells #[.int .i64 0,.int .i64 0,.int .i64 0,.int .i64 0] 47)
 have hxa:=(Ext.refl w).alloc (.cells #[.int .i64 0,.int .i64 0,.int .i64 0,.int .i64 0] 47)
 have hc : ∀g w',own w' (pts g (.cells #[.int .i64 0,.int .i64 0,.int .i64 0,.int .i64 0] 47 (0,0))::(lA bs br v j::L)) -> Calls Tryz.prog 89 #[.pointer (some ⟨br,8,none⟩)] w' fun e w''=>e = .returned (.int .i64 (cnt j.x : Nat)) /\ w' = w'':=
  fun g w' h=>by have:=Kb br 8 j.n j.x w' (Ec 1 h rfl); rw [F7] at this; exact this
 have HC:=zh hc
 unfold CB
 generalize cnt j.x = q at *
 clear hc H
 go_enter Tryz.func20,Tryz.ntmps20
 go_upto_region 1 with (fail)
 generalize w.heap.size = g at *
 generalize w.alloc (.cells #[.int .i64 0,.int .i64 0,.int .i64 0,.int .i64 0] 47) = w1 at *
 have c2 : w1.cell? ⟨br,2,none⟩ = some (.int .i64 j.kind):=lp 1 ha rfl 2 (by decide)
 have c3 : w1.cell? ⟨br,3,none⟩ = some (.int .i64 j.file):=lp 1 ha rfl 3 (by decide)
 have c7 : w1.cell? ⟨br,74,none⟩ = some (.int .i64 j.st):=lp 1 ha rfl 74 (by decide)
 have hb:=lj ha
 have hxb:=hxa.drew
 have hcq:=(HC.out _ _ hb).mono fun e w' h=>(⟨h.1,h.2.symm⟩ : e = .returned (.int .i64 (q : Int)) /\ w' = w1.drew)
 go_still_tail 19,(by kernel_rfl)
 still_call hcq
 repeat still_step
 refine wpStill_nil ?_
 change wpList _ _ _ _ _ w1.drew
 clear ha hxa c2 c3 c7 hcq
 generalize w1.drew = w2 at *
 obtain ⟨cg,fg⟩:=ld 0 hb rfl
 go_wp2_with fail
 have h5:=lg (i:=3) (v:=.int .i64 (q : Int)) 0 (lg (i:=2) (v:=.int .i64 j.st) 0 (lg (i:=1) (v:=.int .i64 j.file) 0 (lg (i:=0) (v:=.int .i64 j.kind) 0 hb rfl) rfl) rfl) rfl
 obtain ⟨c3,-⟩:=ld 0 h5 rfl
 refine bodyPost_ret (Av rfl _ _ g j.kind j.file j.st (q : Int) rfl (c3 0) (c3 1) (c3 2) (c3 3)) rfl ?_
 exact ⟨rfl,(((hxb.setCell _ _).setCell _ _).setCell _ _).setCell _ _,le h5⟩
theorem Qo {F : ShM} {root : Int} : ∀{n : Nat} {l : List Int} {at_ : Int},(oV F root n l at_).2≠0 -> (oV F root n l at_).1 = []:=by
 intro n
 induction n with
 | zero=>intro l at_ h; exact absurd rfl h
 | succ n ih=>
  intro l at_
  rw [oV]
  split
  ·intro h; exact absurd rfl h
  ·split
   ·intro _; rfl
   ·split
    ·intro _; rfl
    ·split
     ·intro _; rfl
     ·split
      ·intro _; rfl
      ·exact ih
theorem SG {F : ShM} {root : Int} : (ls F root).2≠0 -> (ls F root).1 = []:=Qo
theorem GS (bs : Nat) (A : Nat -> Nat×Nat) (F : ShM) (N : Nat) (hW : ShW N F) (hN : N < 900000) (br : Nat) (v : Value) (j : JobM) (hj : j.Ok) (hS : JobS F j) (R : List SL.HP) (w : World)
  (hv : ∀w' L,own w' (L++R) -> lR w' v j.list) (H : own w (rshL bs A F++(lA bs br v j::R))) :
  Calls Tryz.prog 86 #[.pointer (some ⟨br,0,none⟩)] w fun e w'=>e = .returned (.int .i64 (lz F j).1) /\ Ext w w' /\ own w' (rshL bs A (lz F j).2.1++(lA bs br v (lz F j).2.2::R)):=by
 have hF : ShOk F:=hW.sh hN
 have c7 : w.cell? ⟨br,74,none⟩ = some (.int .i64 j.st):=lp 6 H rfl 74 (by decide)
 unfold lz
 by_cases h3 : j.st = 3
 ·rw [if_neg (fun h=>h h3)]
  rw [h3] at c7
  clear h3
  by_cases h2 : j.kind = 2
  ·rw [if_pos h2]
   have c1 : w.cell? ⟨br,2,none⟩ = some (.int .i64 j.kind):=lp 6 H rfl 2 (by decide)
   rw [h2] at c1
   have hvw:=yE hv [lA bs br v j]
   obtain ⟨ao,lb,off,cap,rfl,hlc,hcap,hao,-⟩:=(hvw w _ H).form
   obtain rfl:=hao (by have:=hj.pos; omega)
   have hpos : 0 < j.list.length:=by have:=hj.pos; omega
   have l0 : (0 : Int) < (j.list.length : Int):=by omega
   obtain ⟨k,m,hxk,hk,hFk⟩:=lT (hS.list _ (mem0 hj.pos))
   have c0 : w.cell? ⟨br,0,none⟩ = some (.pointer (some ⟨bs,0,none⟩)):=lp 6 H rfl 0 (by decide)
   have c2 : w.cell? ⟨br,3,none⟩ = some (.int .i64 j.file):=lp 6 H rfl 3 (by decide)
   have c3 : w.cell? ⟨br,6,none⟩ = some (.slice (some ⟨lb,off,none⟩) j.list.length cap):=lp 6 H rfl 6 (by decide)
   have c9 : w.cell? ⟨lb,off,none⟩ = some (.int .i64 (k : Int)):=by rw [<- hxk]; exact oo (hvw _ _ H) hpos
   have g1:=yl H hk
   rw [oS hFk] at g1
   have i1 : (0 : Int) <= (k : Int):=by omega
   have i2 : (k : Int) < 5:=by omega
   have HL:=zh (fun w' h=>QR (b:=bs) (A:=A) hk hFk hF j.file (lA bs br (.slice (some ⟨lb,off,none⟩) j.list.length cap) j::R) w' h)
   have hc:=Gi F k j.file
   rw [hxk,zn]
   rw [show A8 F k j.file = ((m.link j.file).1,put F k (m.link j.file).2) by unfold A8; rw [hFk]] at hc ⊢
   dsimp only at hc ⊢
   generalize put F k (m.link j.file).2 = F' at *
   generalize (m.link j.file).1 = lc at *
   clear hv hvw hao hlc hxk h2 hFk
   by_cases hlz : lc = 0
   ·subst hlz
    rw [if_neg (show ¬((0 : Int)≠0) by decide)]
    go_enter Tryz.func86,Tryz.ntmps86
    go_upto_region 4 with (fail)
    go_still_tail 18,(by kernel_rfl)
    change wpList _ _ _ _ _ w.drew
    go_wp2_with fail
    refine (HL.out _ (lj H)).mono ?_
    rintro e w2 ⟨rfl,hx2,h2'⟩
    go_wp2_with fail
    go_ret
    exact ⟨rfl,(Ext.refl w).drew.trans hx2,h2'⟩
   ·have hp : 0 < lc:=by omega
    rw [if_pos (show lc≠0 from hlz)]
    clear hlz
    go_enter Tryz.func86,Tryz.ntmps86
    go_upto_region 4 with (fail)
    go_still_tail 18,(by kernel_rfl)
    change wpList _ _ _ _ _ w.drew
    go_wp2_with fail
    refine (HL.out _ (lj H)).mono ?_
    rintro e w2 ⟨rfl,hx2,h2'⟩
    clear c0 c1 c2 c3 c9 g1 c7
    have c7 : w2.cell? ⟨br,74,none⟩ = some (.int .i64 j.st):=lp 6 h2' rfl 74 (by decide)
    have f7:=oU 6 h2' rfl 74
    have h6 : own (w2.setCell ⟨br,74,none⟩ (.int .i64 5)) (rshL bs A F'++(lA bs br (.slice (some ⟨lb,off,none⟩) j.list.length cap) { j with st:=5 }::R)):=yV (i:=74) (a:=.int .i64 5) 6 h2' rfl (B6 bs _ j 5)
    go_wp2_with fail
    go_ret
    exact ⟨rfl,((Ext.refl w).drew.trans hx2).setCell _ _,h6⟩
  ·rw [if_neg h2]
   have d2 : (j.kind == 2) = false:=by rw [beq_eq_false_iff_ne]; exact h2
   have c1 : w.cell? ⟨br,2,none⟩ = some (.int .i64 j.kind):=lp 6 H rfl 2 (by decide)
   have hwk:=fun w' h=>DX bs A F hF j.file (lA bs br v j::R) w' h
   have hfl:=zQ F j.file
   have hwc : 0 <= (ls F j.file).2:=zd
   have hnil : (ls F j.file).2≠0 -> (ls F j.file).1 = []:=SG
   have HWK:=zh hwk
   unfold zA at HWK
   generalize ls F j.file = S at *
   obtain ⟨l,wc⟩:=S
   dsimp only at hfl hwc HWK hnil ⊢
   have HFL:=zh hfl
   have HSW:=zh hW
   have HN:=zh hN
   clear hwk h2 hfl hF hW hN hv
   generalize hres : ye F l = res
   have HRES:=zh hres
   have hfin : (if wc≠0 then (wc,F,j) else (0,res,j)) = (wc,res,j):=by
    split
    ·rename_i h
     rw [hnil h] at hres
     rw [show res = F from hres.symm]
    ·rename_i h
     rw [show wc = 0 by omega]
   rw [hfin]
   dsimp only
   clear hres hfin hnil
   go_enter Tryz.func86,Tryz.ntmps86
   go_upto_region 8 with (fail)
   have hd:=lj H
   have hxd:=(Ext.refl w).drew
   go_region_held3 (fun w'=>w'.cell? ⟨br,0,none⟩ = some (.pointer (some ⟨bs,0,none⟩)) /\ w'.cell? ⟨br,3,none⟩ = some (.int .i64 j.file)) (first | exact ⟨lp 6 hd rfl 0 (by decide),lp 6 hd rfl 3 (by decide)⟩ | exact ⟨lp 7 h4 rfl 0 (by decide),lp 7 h4 rfl 3 (by decide)⟩) ((go_at_call 77; refine (HWK.out _ hd).mono ?_; rintro e w4 ⟨vl,rfl,hx4,h4⟩))
   have hx5:=hxd.trans hx4
   clear hd hxd hx4 c1 c7 d2 H
   have hil:=lY 0 h4 rfl
   obtain ⟨ao,lb,off,cap,rfl,hlc,hcap,hao,-⟩:=hil.form
   have HAO:=zh hao
   clear hao hil
   go_wp2_with fail
   go_loopw [6] (fun i wr=>∃(q : Nat) (F' : ShM),q <= l.length /\ i = .int .i64 q /\ ye F' (l.drop q) = res /\ ShW N F' /\ (∀x∈l,lx F' x) /\ Ext w wr /\ own wr (row 3 1 (.slice ao l.length cap) l.length (ln l)::(rshL bs A F'++(lA bs br v j::R)))) (fun i _=>l.length - (intOf i).toNat)
   case atStart=>exact ⟨0,F,Nat.zero_le _,rfl,HRES.out,HSW.out,HFL.out,hx5,h4⟩
   case round=>
    obtain ⟨q,F',hq,rfl,hgo,hW',hl',hxr,hown⟩:=hrel
    by_cases hlt : q < l.length
    ·obtain rfl:=HAO.out (by omega)
     rw [zJ 0 hlt] at hgo
     obtain ⟨k,m,hxk,hk,hFk⟩:=lT (hl' (l.getD q 0) (by simp [hlt]))
     have hgo' : ye (put F' k m.flush) (l.drop (q + 1)) = res:=by
      rw [<- hgo]
      show _ = ye (AD F' (l.getD q 0).toNat) _
      rw [hxk,zn]
      unfold AD
      rw [hFk]
     have hd:=lj hown
     have hxd:=hxr.drew
     have i1 : (0 : Int) <= (k : Int):=by omega
     have i2 : (k : Int) < 5:=by omega
     have j1 : (0 : Int) <= (q : Int):=by omega
     have j2 : (q : Int) < (l.length : Int):=by omega
     have HFU:=zh (fun wz=>Jh (b:=bs) (A:=A) hk hFk (hW'.sh HN.out) (lA bs br v j::(row 3 1 (.slice (some ⟨lb,off,none⟩) l.length cap) l.length (ln l)::R)) wz)
     have HW2:=zh (Iy hW' hk hFk (CP (hW'.ok k m hk hFk)))
     have HL2:=zh (fun x hx=>Jo (k:=k) (m':=m.flush) (hl' x hx))
     have HGO:=zh hgo'
     have HX:=zh hxk
     have HFK:=zh hFk
     have hz : own wr.drew (rshL bs A F'++(lA bs br v j::(row 3 1 (.slice (some ⟨lb,off,none⟩) l.length cap) l.length (ln l)::R))):=by
      have:=lu (rshL bs A F'++[lA bs br v j]) (by simpa [zp] using hd); simpa [zp] using this
     have g0 : wr.cell? ⟨lb,off + q,none⟩ = some (.int .i64 (k : Int)):=by rw [<- hxk]; exact oo (lY 0 hown rfl) hlt
     have c0 : wr.cell? ⟨br,0,none⟩ = some (.pointer (some ⟨bs,0,none⟩)):=lp 7 hown rfl 0 (by decide)
     have g1:=yl (le hown) hk
     rw [oS hFk] at g1
     clear hgo hgo' hxk hW' hl' hown hFk hd
     go_upto_region 12 with (fail)
     go_still_tail 11,(by kernel_rfl)
     change wpList _ _ _ _ _ wr.drew
     go_wp2_with fail
     refine (HFU.out _ hz).mono ?_
     rintro e w6 ⟨rfl,hx6,h6⟩
     go_wp2_with fail
     go_roundw
     case rel=>exact ⟨q + 1,_,by omega,by go_num,HGO.out,HW2.out,HL2.out,hxd.trans hx6,lt 7 h6 rfl⟩
     case measure=>simp [intOf]; omega
    ·obtain rfl : l.length = q:=by omega
     rw [List.drop_of_length_le (Nat.le_refl _)] at hgo
     have hgo' : res = F':=hgo.symm
     subst hgo'
     go_wp2_with fail
     go_ret
     exact ⟨rfl,hxr,le hown⟩
 ·rw [if_pos h3]
  have d3 : (j.st != 3) = true:=bne_iff_ne.2 h3
  clear h3
  go_enter Tryz.func86,Tryz.ntmps86
  go_wp2_with fail
  go_ret
  exact ⟨rfl,Ext.refl _,H⟩
def zI (f : Int) : Nat -> List Int -> Int
 | _,[]=>-1
 | i,x::l=>if x = f then (i : Int) else zI f (i + 1) l
def zM (l : List Int) (f : Int) : Int:=zI f 0 l
theorem L8 {f : Int} : ∀{l : List Int} {i : Nat},zI f i l = -1 \/ ((i : Int) <= zI f i l /\ zI f i l < (i : Int) + l.length):=by
 intro l
 induction l with
 | nil=>intro i; exact .inl rfl
 | cons x l ih=>
  intro i
  rw [zI]
  split
  ·right; simp only [List.length_cons]; omega
  ·rcases ih (i:=i + 1) with h | h
   ·exact .inl h
   ·right; simp only [List.length_cons]; omega
def bkOf (F : ShM) (x : Int) : Int:=match F x.toNat with
 | some m=>m.b
 | none=>-1
def Ch (F : ShM) : List Int -> Int -> Prop
 | [],_=>True
 | x::l,e=>bkOf F x = l.headD e /\ Ch F l e
theorem Ch.snoc {F : ShM} {x : Int} : ∀{l : List Int},Ch F l x -> Ch F (l++[x]) (bkOf F x):=by
 intro l
 induction l with
 | nil=>intro _; exact ⟨rfl,trivial⟩
 | cons y l ih=>
  intro h
  refine ⟨?_,ih h.2⟩
  have h1:=h.1
  cases l with
  | nil=>exact h1
  | cons z l=>exact h1
theorem Ch.same {F : ShM} : ∀{l l' : List Int} {x : Int},(∀y∈l,0 <= y) -> (∀y∈l',0 <= y) -> Ch F (x::l) (-1) -> Ch F (x::l') (-1) -> l = l':=by
 intro l
 induction l with
 | nil=>
  intro l' x _ h' h1 h2
  cases l' with
  | nil=>rfl
  | cons z l'=>
   have a:=h1.1
   have b:=h2.1
   have c:=h' z List.mem_cons_self
   simp only [List.headD] at a b
   omega
 | cons y l ih=>
  intro l' x h h' h1 h2
  cases l' with
  | nil=>
   have a:=h1.1
   have b:=h2.1
   have c:=h y List.mem_cons_self
   simp only [List.headD] at a b
   omega
  | cons z l'=>
   have a:=h1.1
   have b:=h2.1
   simp only [List.headD] at a b
   have e : y = z:=by omega
   subst e
   rw [ih (fun q hq=>h q (List.mem_cons_of_mem _ hq)) (fun q hq=>h' q (List.mem_cons_of_mem _ hq)) h1.2 h2.2]
theorem Ch.tail {F : ShM} {e : Int} : ∀{p l : List Int},Ch F (p++l) e -> Ch F l e:=by
 intro p
 induction p with
 | nil=>intro l h; exact h
 | cons y p ih=>intro l h; exact ih h.2
theorem Ch.nodup {F : ShM} : ∀{l : List Int},(∀y∈l,0 <= y) -> Ch F l (-1) -> l.Nodup:=by
 intro l
 induction l with
 | nil=>intro _ _; exact List.nodup_nil
 | cons x l ih=>
  intro h hc
  refine List.nodup_cons.2 ⟨fun hx=>?_,ih (fun q hq=>h q (List.mem_cons_of_mem _ hq)) hc.2⟩
  obtain ⟨p,q,hpq⟩:=List.append_of_mem hx
  have h2 : Ch F (x::q) (-1):=Ch.tail (p:=p) (by rw [<- hpq]; exact hc.2)
  have hs:=Ch.same (fun y hy=>h y (List.mem_cons_of_mem _ hy)) (fun y hy=>h y (List.mem_cons_of_mem _ (by rw [hpq]; exact List.mem_append.2 (.inr (List.mem_cons_of_mem _ hy))))) hc h2
  have:=congrArg List.length hpq
  rw [hs] at this
  simp at this
  omega
theorem SK {F : ShM} {root : Int} : ∀{n : Nat} {l : List Int} {at_ : Int},n + l.length = 6 -> l.length <= 5 -> Ch F l at_ -> (∀y∈l,0 <= y) -> (oV F root n l at_).2 = 0 -> (oV F root n l at_).1.Nodup:=by
 intro n
 induction n with
 | zero=>
  intro l at_ hn h5
  omega
 | succ n ih=>
  intro l at_ hn h5 hc hl
  rw [oV]
  split
  ·rename_i h1
   intro _
   rw [h1] at hc
   exact Ch.nodup hl hc
  ·split
   ·intro h; exact absurd h (by decide)
   ·split
    ·intro h; exact absurd h (by decide)
    ·rename_i h2 m hm
     split
     ·intro h; exact absurd h (by decide)
     ·split
      ·intro h; exact absurd h (by decide)
      ·rename_i h6 h7
       refine ih (by simp; omega) (by simp; omega) ?_ ?_
       ·have:=Ch.snoc hc
        rw [show bkOf F at_ = m.b by unfold bkOf; rw [hm]] at this
        exact this
       ·intro y hy
        rcases List.mem_append.1 hy with h | h
        ·exact hl y h
        ·rw [List.mem_singleton.1 h]; omega
theorem Gv {F : ShM} {root : Int} (h : (ls F root).2 = 0) : (ls F root).1.Nodup:=SK rfl (by decide) trivial (fun y hy=>by cases hy) h
theorem Nl {f : Int} : ∀{l : List Int} {i : Nat},f∉l -> zI f i l = -1:=by
 intro l
 induction l with
 | nil=>intro i _; rfl
 | cons x l ih=>
  intro i h
  rw [zI,if_neg (fun e=>h (by rw [e]; exact List.mem_cons_self)),ih (fun hm=>h (List.mem_cons_of_mem _ hm))]
def EJ (f : Int) : Nat -> List Int -> Int -> Int
 | _,[],a=>a
 | i,x::l,a=>EJ f (i + 1) l (if x = f then (i : Int) else a)
theorem Ob {f : Int} : ∀{l : List Int} {i : Nat} {a : Int},f∉l -> EJ f i l a = a:=by
 intro l
 induction l with
 | nil=>intro i a _; rfl
 | cons x l ih=>
  intro i a h
  rw [EJ,if_neg (fun e=>h (by rw [e]; exact List.mem_cons_self)),ih (fun hm=>h (List.mem_cons_of_mem _ hm))]
theorem Qh {f : Int} : ∀{l : List Int} {i : Nat},l.Nodup -> EJ f i l (-1) = zI f i l:=by
 intro l
 induction l with
 | nil=>intro i _; rfl
 | cons x l ih=>
  intro i h
  rw [EJ,zI]
  by_cases e : x = f
  ·rw [if_pos e,if_pos e]
   exact Ob (by rw [<- e]; exact (List.nodup_cons.1 h).1)
  ·rw [if_neg e,if_neg e]
   exact ih (List.nodup_cons.1 h).2
theorem LH (v : Value) (l : List Int) (f : Int) (hl5 : l.length <= 5) (w : World) (hv : lR w v l) :
  Calls Tryz.prog 73 #[v,.int .i64 f] w fun e w'=>e = .returned (.int .i64 (zM l f)) /\ w = w':=by
 obtain ⟨ao,lb,off,cap,rfl,hlc,hcap,hao,hat⟩:=hv.form
 generalize hres : zM l f = res
 unfold zM at hres
 have HRES:=zh hres
 have HAO:=zh hao
 have HAT:=zh hat
 clear hres hao hat hv
 go_enter Tryz.func73,Tryz.ntmps73
 go_wp2_with fail
 go_loop [9] (fun i=>∃q : Nat,q <= l.length /\ i = .int .i64 q /\ zI f q (l.drop q) = res) (fun i=>l.length - (intOf i).toNat)
 case atStart=>exact ⟨0,Nat.zero_le _,rfl,HRES.out⟩
 case round=>
  obtain ⟨q,hq,rfl,hgo⟩:=hrel
  by_cases hlt : q < l.length
  ·obtain rfl:=HAO.out (by omega)
   have c1:=HAT.out q hlt
   rw [zJ 0 hlt,zI] at hgo
   have j1 : (0 : Int) <= (q : Int):=by omega
   have j2 : (q : Int) < (l.length : Int):=by omega
   generalize l.getD q 0 = x at *
   by_cases hx : x = f
   ·subst hx
    rw [if_pos rfl] at hgo
    subst hgo
    go_wp2_with fail
    go_ret
    exact ⟨rfl,rfl⟩
   ·rw [if_neg hx] at hgo
    have HGO:=zh hgo
    have d0 : (x == f) = false:=by rw [beq_eq_false_iff_ne]; exact hx
    clear hgo hx
    go_wp2_with fail
    go_round
    case rel=>exact ⟨q + 1,by omega,by go_num,HGO.out⟩
    case measure=>simp [intOf]; omega
  ·obtain rfl : l.length = q:=by omega
   rw [List.drop_of_length_le (Nat.le_refl _)] at hgo
   have hgo' : res = -1:=hgo.symm
   subst hgo'
   clear hgo
   go_wp2_with fail
   go_ret
   exact ⟨rfl,rfl⟩
def oX (F : ShM) (j : JobM) : Nat -> Nat
  | 0=>0
  | c + 1=>(od j.n (oX F j c) (c : Int) (o5 F j (c : Int))).2
theorem Jy (F : ShM) (j : JobM) (hn : j.n <= 64) : ∀c,oX F j c < 2 ^ j.n
  | 0=>Nat.two_pow_pos _
  | c + 1=>Fy hn (Jy F j hn c) _ _
theorem MW (F : ShM) (j : JobM) (hn : j.n <= 64) : ∀c q,c <= q -> q < 64 -> (oX F j c).testBit q = false
  | 0,q,_,_=>by simp [oX]
  | c + 1,q,h,h64=>by
    have ih:=MW F j hn c q (by omega) h64
    rw [oX]
    cases hp : (od j.n (oX F j c) (c : Int) (o5 F j (c : Int))).1
    · have : (od j.n (oX F j c) (c : Int) (o5 F j (c : Int))).2 = oX F j c:=by
        unfold od at hp ⊢
        split at hp
        · cases hp
        · rename_i h; rw [if_neg h]
      rw [this]
      exact ih
    · rw [Ik h64 hp,if_neg (by omega)]
      exact ih
theorem TY (F : ShM) (j : JobM) (hn : j.n <= 64) {c : Nat} (hc : c < j.n) : ∀q,q < 64 -> (oX F j (c + 1)).testBit q = if q = c then o5 F j (c : Int) else (oX F j c).testBit q:=by
  intro q hq
  rw [oX]
  have h0:=MW F j hn c c (Nat.le_refl _) (by omega)
  cases hp : (od j.n (oX F j c) (c : Int) (o5 F j (c : Int))).1
  · unfold od at hp ⊢
    split at hp
    · cases hp
    · rename_i h
      rw [if_neg h]
      by_cases e : q = c
      · subst e
        rw [if_pos rfl,h0]
        cases hw : o5 F j (q : Int)
        · rfl
        · exfalso
          apply h
          refine ⟨by omega,by omega,?_⟩
          rw [zn,h0,hw]
          decide
      · rw [if_neg e]
  · rw [Ik hq hp,zn]
def Fo (F : ShM) (x : Int) : Bool:=decide (0 <= x) && decide (x < 5) && (F x.toNat).isSome
theorem Cb {F : ShM} {x : Int} : Fo F x = true↔lx F x:=by
  unfold Fo lx
  simp only [Bool.and_eq_true,decide_eq_true_eq,Option.isSome_iff_exists,and_assoc]
def jNew (F : ShM) (root kind file rate burst : Int) (l : List Int) (deep : Nat) : JobM:=
  { root:=root,kind:=kind,file:=file,rate:=rate,burst:=burst,list:=l,deep:=deep,n:=(clus F root).toNat,x:=0,at_:=0,st:=2,level:=burst }
def zP (F : ShM) (j : JobM) : JobM:={ j with x:=oX F j j.n }
def newM (F : ShM) (root kind file rate burst : Int) : Option JobM×Int:=
  if (ls F root).2≠0 then (none,(ls F root).2)
  else if (ls F root).1.length = 0 then (none,4)
  else if A9 rate burst = false then (none,1)
  else if kind = 1 then
    (if Fo F file = false then (none,4)
     else if 0 <= zM (ls F root).1 file \/ bkOf F file≠-1 \/ clus F file≠clus F root then (none,2)
     else (some (zP F (jNew F root kind file rate burst (ls F root).1 0)),0))
  else if kind = 2 /\ file = -1 then (some (zP F (jNew F root kind file rate burst (ls F root).1 (ls F root).1.length)),0)
  else if kind = 2 \/ kind = 3 then
    (if zM (ls F root).1 file < 1 then (none,4) else (some (zP F (jNew F root kind file rate burst (ls F root).1 (zM (ls F root).1 file).toNat)),0))
  else (none,1)
theorem Oi {F : ShM} {root : Int} : ∀{n : Nat} {l : List Int} {at_ : Int},(∀y,l.head? = some y -> y = root) -> (l = [] -> at_ = root) -> ∀y,(oV F root n l at_).1.head? = some y -> y = root:=by
  intro n
  induction n with
  | zero=>intro l at_ h _; exact h
  | succ n ih=>
    intro l at_ h h2
    rw [oV]
    split
    · exact h
    · split
      · intro y hy; cases hy
      · split
        · intro y hy; cases hy
        · split
          · intro y hy; cases hy
          · split
            · intro y hy; cases hy
            · refine ih ?_ (by simp)
              intro y hy
              cases l with
              | nil=>simp at hy; rw [<- hy]; exact h2 rfl
              | cons z l=>exact h y (by simpa using hy)
theorem EU {F : ShM} {root : Int} (h : (ls F root).1.length≠0) : lx F root:=by
  have h1:=Oi (F:=F) (root:=root) (n:=6) (l:=[]) (at_:=root) (fun y hy=>by cases hy) (fun _=>rfl)
  have h2:=zQ F root
  cases hw : (ls F root).1 with
  | nil=>rw [hw] at h; exact absurd rfl h
  | cons z l=>
    have e : z = root:=h1 z (by show (ls F root).1.head? = _; rw [hw]; rfl)
    rw [<- e]
    exact h2 z (by rw [hw]; exact List.mem_cons_self)
theorem zB {F : ShM} (hF : ShOk F) {x : Int} (h : lx F x) : 1 <= clus F x /\ clus F x <= 32:=by
  obtain ⟨k,m,rfl,hk,hm⟩:=lT h
  rw [yo hm]
  have:=(hF.ok k m hk hm).head
  unfold lG at this
  omega
theorem Ln {r u : Int} : A9 r u = true↔0 <= r /\ r <= 1000 /\ 0 <= u /\ u <= 1000:=by unfold A9; simp
theorem Ej {F : ShM} (hF : ShOk F) {root kind file rate burst : Int} {deep : Nat} (hr : lx F root) (hl5 : (ls F root).1.length <= 5) (h0 : (ls F root).1.length≠0) (ho : A9 rate burst = true) (hk : kind = 1 \/ kind = 2 \/ kind = 3) (hd : deep <= (ls F root).1.length) :
    (zP F (jNew F root kind file rate burst (ls F root).1 deep)).Ok:=by
  have hc:=zB hF hr
  obtain ⟨a,b,c,d⟩:=Ln.1 ho
  have hn : (jNew F root kind file rate burst (ls F root).1 deep).n <= 64:=by show (clus F root).toNat <= 64; omega
  exact ⟨hk,hn,Jy F _ hn _,hl5,h0,hd,⟨a,b⟩,⟨c,d⟩,⟨c,Int.le_refl _⟩,Nat.zero_le _,(⟨by decide,by decide⟩ : (1 : Int) <= 2 /\ (2 : Int) <= 5)⟩
theorem Dt (l : List Int) (f : Int) : zM l f = -1 \/ (0 <= zM l f /\ zM l f < l.length):=by
  have:=L8 (f:=f) (l:=l) (i:=0)
  unfold zM
  omega
theorem Ow {f : Int} : ∀{l : List Int} {i : Nat},0 <= zI f i l -> f∈l:=by
  intro l
  induction l with
  | nil=>intro i h; exact absurd (show (0 : Int) <= -1 from h) (by decide)
  | cons x l ih=>
    intro i h
    rw [zI] at h
    split at h
    · rename_i e; rw [e]; exact List.mem_cons_self
    · exact List.mem_cons_of_mem _ (ih h)
theorem Fa {F : ShM} (hF : ShOk F) {root kind file rate burst : Int} (hl5 : (ls F root).1.length <= 5) {j : JobM} (h : (newM F root kind file rate burst).1 = some j) : j.Ok /\ JobS F j:=by
  unfold newM at h
  split at h
  · cases h
  · split at h
    · cases h
    · rename_i h0
      split at h
      · cases h
      · rename_i ho
        have ho : A9 rate burst = true:=by simpa using ho
        have hr:=EU h0
        have hf:=zQ F root
        split at h
        · rename_i hk
          split at h
          · cases h
          · rename_i hfi
            split at h
            · cases h
            · cases h
              exact ⟨Ej hF hr hl5 h0 ho (.inl hk) (Nat.zero_le _),hf,fun _=>(Cb.1 (by simpa using hfi) : lx F file)⟩
        · split at h
          · rename_i hk
            cases h
            exact ⟨Ej hF hr hl5 h0 ho (.inr (.inl hk.1)) (Nat.le_refl _),hf,fun h2=>absurd hk.1 h2⟩
          · split at h
            · rename_i hk
              split at h
              · cases h
              · rename_i hp
                cases h
                have hpr:=Dt (ls F root).1 file
                exact ⟨Ej hF hr hl5 h0 ho (.inr hk) (by omega),hf,fun _=>(hf _ (Ow (i:=0) (by show 0 <= zM (ls F root).1 file; omega)) : lx F file)⟩
            · cases h
theorem Qf (bs : Nat) (A : Nat -> Nat×Nat) (F : ShM) (hF : ShOk F) (br : Nat) (v : Value) (j : JobM) (hj : j.Ok) (hS : JobS F j) (R : List SL.HP) (w : World)
  (hv : ∀w' L,own w' (L++R) -> lR w' v j.list) (H : own w (rshL bs A F++(lA bs br v j::R))) :
  Calls Tryz.prog 79 #[.pointer (some ⟨br,0,none⟩)] w fun e w'=>e = .returned (.tuple #[.bool (lZ F j).1.1,.int .i64 (lZ F j).1.2]) /\ Ext w w' /\ own w' (rshL bs A (lZ F j).2.1++(lA bs br v (lZ F j).2.2::R)):=by
 have c7 : w.cell? ⟨br,74,none⟩ = some (.int .i64 j.st):=lp 6 H rfl 74 (by decide)
 have hat : ((j.at_ : Nat) - 1 : Int) + 1 = (j.at_ : Nat):=by omega
 have hat2 : (j.at_ : Int) <= 200:=by have:=hj.at_; omega
 unfold lZ
 by_cases hst : j.st≠1 /\ j.st≠3
 ·rw [if_pos hst]
  have d1 : (j.st != 1) = true:=bne_iff_ne.2 hst.1
  have d3 : (j.st != 3) = true:=bne_iff_ne.2 hst.2
  clear hst
  go_enter Tryz.func79,Tryz.ntmps79
  go_wp2_with fail
  go_ret2
  exact ⟨rfl,Ext.refl _,H⟩
 ·rw [if_neg hst]
  have hst' : j.st = 1 \/ j.st = 3:=by omega
  have hNX : ∀w',own w' (rshL bs A F++(lA bs br v j::R)) -> Calls Tryz.prog 179 #[.pointer (some ⟨br,8,none⟩),.int .i64 (j.at_ : Nat)] w' fun e w''=>e = .returned (.tuple #[.int .i64 ((ov j).1 : Nat),.bool (ov j).2]) /\ w' = w'':=fun w' h=>
   Sx br 8 j.n j.x hj.n hj.x (j.at_ : Nat) w' (Ec 6 h rfl)
  have HNX:=zh hNX
  have hle : (ov j).1 <= 127:=K0 hj.n hj.x64 _
  have HOW:=zh H
  have c6 : w.cell? ⟨br,73,none⟩ = some (.int .i64 ((j.at_ : Nat) - 1 : Int)):=lp 6 H rfl 73 (by decide)
  by_cases hsm : (ov j).2 = false
  ·rw [if_pos (.inl hsm)]
   rw [hsm] at HNX
   generalize (ov j).1 = cn at *
   rcases hst' with h1 | h1
   all_goals
    rw [h1] at c7
    clear hst hNX hsm
    go_enter Tryz.func79,Tryz.ntmps79
    go_upto_region 3 with (fail)
    go_quiet ((go_at_call 179; exact Calls.quiet_of_same ((HNX.out _ (by first | exact HOW.out | exact lj HOW.out | exact lm _ HOW.out)).mono fun e w' h=>⟨h.1,h.2.symm⟩)))
    have h2:=lm nq H
    have hx2:=(Ext.refl w).drewN nq
    clear H HNX c6 c7
    generalize w.drewN nq = w2 at *
    go_wp2_with fail
    go_ret2
    exact ⟨rfl,hx2,h2⟩
  ·have hsm' : (ov j).2 = true:=by simpa using hsm
   rw [hsm'] at HNX
   by_cases h4 : j.level < 4
   ·rw [if_pos (.inr h4)]
    have hTK : ∀w',own w' (rshL bs A F++(lA bs br v j::R)) -> Calls Tryz.prog 180 #[.pointer (some ⟨br,75,none⟩),.int .i64 4] w' fun e w''=>e = .returned (.bool false) /\ Ext w' w'' /\ own w'' (rshL bs A F++(lA bs br v j::R)):=fun w' h=>by
     have:=NG (n:=4) (l:=j.level) (T:=149) (Id bs v j) (L:=rshL bs A F++(lA bs br v j::R)) 6 w' (by have:=hj.level; have:=hj.burst; omega) h (by rw [<- Em]; rfl)
     rw [show FQ j.level 4 = j.level from if_neg (by omega),show decide ((0 : Int) <= 4 /\ 4 <= j.level) = false from decide_eq_false (by omega),<- Em] at this
     exact this
    have HTK:=zh hTK
    generalize (ov j).1 = cn at *
    rcases hst' with h1 | h1
    all_goals
     rw [h1] at c7
     clear hst hNX hsm hsm' hTK h4
     go_enter Tryz.func79,Tryz.ntmps79
     go_upto_region 3 with (fail)
     go_quiet ((go_at_call 179; exact Calls.quiet_of_same ((HNX.out _ (by first | exact HOW.out | exact lj HOW.out | exact lm _ HOW.out)).mono fun e w' h=>⟨h.1,h.2.symm⟩)))
     have h2:=lm nq H
     have hx2:=(Ext.refl w).drewN nq
     clear H HNX c6 c7
     generalize w.drewN nq = w2 at *
     go_wp2_with fail
     refine (HTK.out _ h2).mono ?_
     rintro e w3 ⟨rfl,hx3,h3⟩
     go_wp2_with fail
     go_ret2
     exact ⟨rfl,hx2.trans hx3,h3⟩
   ·rw [if_neg (by rintro (h | h); exact hsm h; exact h4 h)]
    have hTK : ∀w',own w' (rshL bs A F++(lA bs br v j::R)) -> Calls Tryz.prog 180 #[.pointer (some ⟨br,75,none⟩),.int .i64 4] w' fun e w''=>e = .returned (.bool true) /\ Ext w' w'' /\ own w'' (rshL bs A F++(lA bs br v { j with level:=j.level - 4 }::R)):=fun w' h=>by
     have:=NG (n:=4) (l:=j.level) (T:=149) (Id bs v j) (L:=rshL bs A F++(lA bs br v j::R)) 6 w' (by have:=hj.level; have:=hj.burst; omega) h (by rw [<- Em]; rfl)
     rw [show FQ j.level 4 = j.level - 4 from if_pos (by omega),show decide ((0 : Int) <= 4 /\ 4 <= j.level) = true from decide_eq_true (by omega),<- Em] at this
     exact this
    have HTK:=zh hTK
    have hj1 : ({ j with level:=j.level - 4 } : JobM).Ok:={ hj with level:=by have:=hj.level; dsimp only; omega }
    have hwa:=fun w' h=>I4 bs A F hF br v { j with level:=j.level - 4 } hj1 hS.list ((ov j).1 : Nat) R w' hv h
    rw [show o5 F { j with level:=j.level - 4 } ((ov j).1 : Nat) = o5 F j ((ov j).1 : Nat) from rfl] at hwa
    have HWA:=zh hwa
    have hvw:=yE hv [lA bs br v { j with level:=j.level - 4 }]
    have HRD:=zh (fun w' h=>Fj bs A F hF v j.list hS.list hj.len ((ov j).1 : Nat) ([lA bs br v { j with level:=j.level - 4 }]++R) w' hvw h)
    have hto:=JH hj hS
    obtain ⟨k,m,hxk,hk,hFk⟩:=lT hto
    have hsz:=JT hF hS.list ((ov j).1 : Nat)
    have HMV:=zh (fun w' h=>Tk bs A F hF k m hk hFk ((ov j).1 : Nat) (oG F j.list ((ov j).1 : Nat)).1 (by omega) (lA bs br v { j with level:=j.level - 4 }::R) w' h)
    have e0 : zZ F j ((ov j).1 : Nat) = if o5 F j ((ov j).1 : Nat) = false then (0,F) else if (oG F j.list ((ov j).1 : Nat)).2≠0 then ((oG F j.list ((ov j).1 : Nat)).2,F) else AX F k ((ov j).1 : Nat) (oG F j.list ((ov j).1 : Nat)).1:=by
     unfold zZ; rw [hxk,zn]
    have hcode:=Gb F j.list ((ov j).1 : Nat)
    have hmc:=FX F k ((ov j).1 : Nat) (oG F j.list ((ov j).1 : Nat)).1
    unfold jdid
    rw [e0]
    generalize oG F j.list ((ov j).1 : Nat) = rdd at *
    obtain ⟨t,rc⟩:=rdd
    dsimp only at *
    generalize AX F k ((ov j).1 : Nat) t = mv at *
    obtain ⟨mc,F'⟩:=mv
    dsimp only at *
    generalize o5 F j ((ov j).1 : Nat) = wt at *
    generalize (ov j).1 = cn at *
    have hvv:=hvw
    have HPT:=zh (fun (L : List SL.HP) w' h hk=>NC (L:=L) (bs:=bs) (br:=br) (v:=v) (j:={ j with level:=j.level - 4 }) hj.n (cn : Nat) false 6 w' h hk)
    have HTN:=zh (fun (FF : ShM) w' h=>Gq bs br v { j with level:=j.level - 4,x:=(od j.n j.x (cn : Nat) false).2,at_:=cn + 1 } (rshL bs A FF++R) w' h)
    dsimp only at HPT
    generalize (od j.n j.x (cn : Nat) false).1 = pb at *
    generalize (od j.n j.x (cn : Nat) false).2 = px at *
    obtain ⟨ao,lb,off,cap,rfl,hlc,hcap,hao,-⟩:=(hv w (rshL bs A F++[lA bs br v j]) (by simpa using H)).form
    obtain rfl:=hao (by have:=hj.pos; omega)
    have HV:=zh hvv
    have hpos : 0 < j.list.length:=by have:=hj.pos; omega
    have l0 : (0 : Int) < (j.list.length : Int):=by omega
    unfold toM at hxk
    have w9 : (cn : Int) <= 127:=by omega
    clear hv hvv hvw hwa hTK e0 hto hFk hsz hj1 hao hlc hNX hst hsm hsm' h4
    cases wt
    ·rw [if_pos (show false = false from rfl)]
     dsimp only
     rw [if_neg (show ¬((0 : Int)≠0) by decide)]
     rcases hst' with h1 | h1
     all_goals
      rw [h1] at c7
      go_enter Tryz.func79,Tryz.ntmps79
      go_upto_region 3 with (fail)
      go_quiet ((go_at_call 179; exact Calls.quiet_of_same ((HNX.out _ (by first | exact HOW.out | exact lj HOW.out | exact lm _ HOW.out)).mono fun e w' h=>⟨h.1,h.2.symm⟩)))
      have h2:=lm nq H
      have hx2:=(Ext.refl w).drewN nq
      clear H HNX c6 c7
      generalize w.drewN nq = w2 at *
      go_wp2_with fail
      refine (HTK.out _ h2).mono ?_
      rintro e w3 ⟨rfl,hx3,h3⟩
      go_wp2_with fail
      refine (HWA.out _ h3).mono ?_
      rintro e w4 ⟨rfl,n4,rfl⟩
      have h4:=lm n4 h3
      have hx4:=((hx2.trans hx3).drewN n4)
      clear h2 h3 hx2 hx3
      generalize w3.drewN n4 = w5 at *
      have hx6:=hx4
      have h6:=h4
      go_wp2_with fail
      refine (HPT.out _ _ h6 rfl).mono ?_
      rintro e w8 ⟨rfl,hx8,h8'⟩
      have h8 : own w8 (rshL bs A F++(lA bs br (.slice (some ⟨lb,off,none⟩) j.list.length cap) { j with level:=j.level - 4,x:=px }::R)):=h8'
      have f73:=oU 6 h8 rfl 73
      have c73 : w8.cell? ⟨br,73,none⟩ = some (.int .i64 ((j.at_ : Nat) - 1 : Int)):=lp 6 h8 rfl 73 (by decide)
      have h9 : own (w8.setCell ⟨br,73,none⟩ (.int .i64 (cn : Int))) (rshL bs A F++(lA bs br (.slice (some ⟨lb,off,none⟩) j.list.length cap) { j with level:=j.level - 4,x:=px,at_:=cn + 1 }::R)):=by
       have:=yV (i:=73) (a:=.int .i64 (((cn + 1 : Nat) : Int) - 1)) 6 h8 rfl (G7 bs (.slice (some ⟨lb,off,none⟩) j.list.length cap) { j with level:=j.level - 4,x:=px } (cn + 1))
       rw [show (((cn + 1 : Nat) : Int) - 1) = (cn : Int) by omega] at this
       exact this
      go_wp2_with fail
      refine (HTN.out _ _ (lq (rshL bs A F) [lA bs br (.slice (some ⟨lb,off,none⟩) j.list.length cap) _] h9)).mono ?_
      rintro e w10 ⟨rfl,hx10,h10⟩
      go_wp2_with fail
      go_ret2
      exact ⟨rfl,((hx6.trans hx8).setCell _ _).trans hx10,lq [lA bs br (.slice (some ⟨lb,off,none⟩) j.list.length cap) _] (rshL bs A F) h10⟩
    ·rw [if_neg (show ¬(true = false) by decide)]
     by_cases hrc : rc = 0
     ·subst hrc
      rw [if_neg (show ¬((0 : Int)≠0) by decide)]
      dsimp only
      by_cases hm : mc = 0
      ·subst hm
       rw [if_neg (show ¬((0 : Int)≠0) by decide)]
       by_cases hkd : j.kind = 2
       ·rw [if_pos hkd] at hxk
        rcases hst' with h1 | h1
        all_goals
         rw [h1] at c7
         go_enter Tryz.func79,Tryz.ntmps79
         go_upto_region 3 with (fail)
         go_quiet ((go_at_call 179; exact Calls.quiet_of_same ((HNX.out _ (by first | exact HOW.out | exact lj HOW.out | exact lm _ HOW.out)).mono fun e w' h=>⟨h.1,h.2.symm⟩)))
         have h2:=lm nq H
         have hx2:=(Ext.refl w).drewN nq
         clear H HNX c6 c7
         generalize w.drewN nq = w2 at *
         go_wp2_with fail
         refine (HTK.out _ h2).mono ?_
         rintro e w3 ⟨rfl,hx3,h3⟩
         go_wp2_with fail
         refine (HWA.out _ h3).mono ?_
         rintro e w4 ⟨rfl,n4,rfl⟩
         have h4:=lm n4 h3
         have hx4:=((hx2.trans hx3).drewN n4)
         clear h2 h3 hx2 hx3
         generalize w3.drewN n4 = w5 at *
         go_upto_region 11 with (fail)
         have hd:=lj h4
         have hxd:=hx4.drew
         clear h4 hx4
         go_region_held3 (fun w'=>w'.cell? ⟨br,0,none⟩ = some (.pointer (some ⟨bs,0,none⟩)) /\ w'.cell? ⟨br,6,none⟩ = some (.slice (some ⟨lb,off,none⟩) j.list.length cap)) (first | exact ⟨lp 6 hd rfl 0 (by decide),lp 6 hd rfl 6 (by decide)⟩ | exact ⟨lp 6 hr rfl 0 (by decide),lp 6 hr rfl 6 (by decide)⟩) ((go_at_call 181; refine (HRD.out _ hd).mono ?_; rintro e wr ⟨rfl,hxr,hr⟩))
         have hx5:=hxd.trans hxr
         clear hd hxd hxr
         have c0 : wr.cell? ⟨br,0,none⟩ = some (.pointer (some ⟨bs,0,none⟩)):=lp 6 hr rfl 0 (by decide)
         have c2 : wr.cell? ⟨br,2,none⟩ = some (.int .i64 j.kind):=lp 6 hr rfl 2 (by decide)
         have c3 : wr.cell? ⟨br,3,none⟩ = some (.int .i64 j.file):=lp 6 hr rfl 3 (by decide)
         have c6 : wr.cell? ⟨br,6,none⟩ = some (.slice (some ⟨lb,off,none⟩) j.list.length cap):=lp 6 hr rfl 6 (by decide)
         have c74 : wr.cell? ⟨br,74,none⟩ = some (.int .i64 j.st):=lp 6 hr rfl 74 (by decide)
         have f74:=oU 6 hr rfl 74
         have c9 : wr.cell? ⟨lb,off,none⟩ = some (.int .i64 (j.list.getD 0 0)):=oo (HV.out _ _ hr) hpos
         rw [hkd] at c2
         rw [hxk] at c9
         clear hkd h1
         go_wp2_with fail
         refine (HMV.out _ hr).mono ?_
         rintro e w6 ⟨rfl,hx6',h6⟩
         have hx6:=hx5.trans hx6'
         go_wp2_with fail
         refine (HPT.out _ _ h6 rfl).mono ?_
         rintro e w8 ⟨rfl,hx8,h8'⟩
         have h8 : own w8 (rshL bs A F'++(lA bs br (.slice (some ⟨lb,off,none⟩) j.list.length cap) { j with level:=j.level - 4,x:=px }::R)):=h8'
         have f73:=oU 6 h8 rfl 73
         have c73 : w8.cell? ⟨br,73,none⟩ = some (.int .i64 ((j.at_ : Nat) - 1 : Int)):=lp 6 h8 rfl 73 (by decide)
         have h9 : own (w8.setCell ⟨br,73,none⟩ (.int .i64 (cn : Int))) (rshL bs A F'++(lA bs br (.slice (some ⟨lb,off,none⟩) j.list.length cap) { j with level:=j.level - 4,x:=px,at_:=cn + 1 }::R)):=by
          have:=yV (i:=73) (a:=.int .i64 (((cn + 1 : Nat) : Int) - 1)) 6 h8 rfl (G7 bs (.slice (some ⟨lb,off,none⟩) j.list.length cap) { j with level:=j.level - 4,x:=px } (cn + 1))
          rw [show (((cn + 1 : Nat) : Int) - 1) = (cn : Int) by omega] at this
          exact this
         go_wp2_with fail
         refine (HTN.out _ _ (lq (rshL bs A F') [lA bs br (.slice (some ⟨lb,off,none⟩) j.list.length cap) _] h9)).mono ?_
         rintro e w10 ⟨rfl,hx10,h10⟩
         go_wp2_with fail
         go_ret2
         exact ⟨rfl,((hx6.trans hx8).setCell _ _).trans hx10,lq [lA bs br (.slice (some ⟨lb,off,none⟩) j.list.length cap) _] (rshL bs A F') h10⟩
       ·rw [if_neg hkd] at hxk
        have d2 : (j.kind == 2) = false:=by rw [beq_eq_false_iff_ne]; exact hkd
        rcases hst' with h1 | h1
        all_goals
         rw [h1] at c7
         go_enter Tryz.func79,Tryz.ntmps79
         go_upto_region 3 with (fail)
         go_quiet ((go_at_call 179; exact Calls.quiet_of_same ((HNX.out _ (by first | exact HOW.out | exact lj HOW.out | exact lm _ HOW.out)).mono fun e w' h=>⟨h.1,h.2.symm⟩)))
         have h2:=lm nq H
         have hx2:=(Ext.refl w).drewN nq
         clear H HNX c6 c7
         generalize w.drewN nq = w2 at *
         go_wp2_with fail
         refine (HTK.out _ h2).mono ?_
         rintro e w3 ⟨rfl,hx3,h3⟩
         go_wp2_with fail
         refine (HWA.out _ h3).mono ?_
         rintro e w4 ⟨rfl,n4,rfl⟩
         have h4:=lm n4 h3
         have hx4:=((hx2.trans hx3).drewN n4)
         clear h2 h3 hx2 hx3
         generalize w3.drewN n4 = w5 at *
         go_upto_region 11 with (fail)
         have hd:=lj h4
         have hxd:=hx4.drew
         clear h4 hx4
         go_region_held3 (fun w'=>w'.cell? ⟨br,0,none⟩ = some (.pointer (some ⟨bs,0,none⟩)) /\ w'.cell? ⟨br,6,none⟩ = some (.slice (some ⟨lb,off,none⟩) j.list.length cap)) (first | exact ⟨lp 6 hd rfl 0 (by decide),lp 6 hd rfl 6 (by decide)⟩ | exact ⟨lp 6 hr rfl 0 (by decide),lp 6 hr rfl 6 (by decide)⟩) ((go_at_call 181; refine (HRD.out _ hd).mono ?_; rintro e wr ⟨rfl,hxr,hr⟩))
         have hx5:=hxd.trans hxr
         clear hd hxd hxr
         have c0 : wr.cell? ⟨br,0,none⟩ = some (.pointer (some ⟨bs,0,none⟩)):=lp 6 hr rfl 0 (by decide)
         have c2 : wr.cell? ⟨br,2,none⟩ = some (.int .i64 j.kind):=lp 6 hr rfl 2 (by decide)
         have c3 : wr.cell? ⟨br,3,none⟩ = some (.int .i64 j.file):=lp 6 hr rfl 3 (by decide)
         have c6 : wr.cell? ⟨br,6,none⟩ = some (.slice (some ⟨lb,off,none⟩) j.list.length cap):=lp 6 hr rfl 6 (by decide)
         have c74 : wr.cell? ⟨br,74,none⟩ = some (.int .i64 j.st):=lp 6 hr rfl 74 (by decide)
         have f74:=oU 6 hr rfl 74
         have c9 : wr.cell? ⟨lb,off,none⟩ = some (.int .i64 (j.list.getD 0 0)):=oo (HV.out _ _ hr) hpos
         rw [hxk] at c3
         clear hkd h1
         go_wp2_with fail
         refine (HMV.out _ hr).mono ?_
         rintro e w6 ⟨rfl,hx6',h6⟩
         have hx6:=hx5.trans hx6'
         go_wp2_with fail
         refine (HPT.out _ _ h6 rfl).mono ?_
         rintro e w8 ⟨rfl,hx8,h8'⟩
         have h8 : own w8 (rshL bs A F'++(lA bs br (.slice (some ⟨lb,off,none⟩) j.list.length cap) { j with level:=j.level - 4,x:=px }::R)):=h8'
         have f73:=oU 6 h8 rfl 73
         have c73 : w8.cell? ⟨br,73,none⟩ = some (.int .i64 ((j.at_ : Nat) - 1 : Int)):=lp 6 h8 rfl 73 (by decide)
         have h9 : own (w8.setCell ⟨br,73,none⟩ (.int .i64 (cn : Int))) (rshL bs A F'++(lA bs br (.slice (some ⟨lb,off,none⟩) j.list.length cap) { j with level:=j.level - 4,x:=px,at_:=cn + 1 }::R)):=by
          have:=yV (i:=73) (a:=.int .i64 (((cn + 1 : Nat) : Int) - 1)) 6 h8 rfl (G7 bs (.slice (some ⟨lb,off,none⟩) j.list.length cap) { j with level:=j.level - 4,x:=px } (cn + 1))
          rw [show (((cn + 1 : Nat) : Int) - 1) = (cn : Int) by omega] at this
          exact this
         go_wp2_with fail
         refine (HTN.out _ _ (lq (rshL bs A F') [lA bs br (.slice (some ⟨lb,off,none⟩) j.list.length cap) _] h9)).mono ?_
         rintro e w10 ⟨rfl,hx10,h10⟩
         go_wp2_with fail
         go_ret2
         exact ⟨rfl,((hx6.trans hx8).setCell _ _).trans hx10,lq [lA bs br (.slice (some ⟨lb,off,none⟩) j.list.length cap) _] (rshL bs A F') h10⟩
      ·rw [if_pos (show mc≠0 from hm)]
       have hp : 0 < mc:=by omega
       by_cases hkd : j.kind = 2
       ·rw [if_pos hkd] at hxk
        rcases hst' with h1 | h1
        all_goals
         rw [h1] at c7
         go_enter Tryz.func79,Tryz.ntmps79
         go_upto_region 3 with (fail)
         go_quiet ((go_at_call 179; exact Calls.quiet_of_same ((HNX.out _ (by first | exact HOW.out | exact lj HOW.out | exact lm _ HOW.out)).mono fun e w' h=>⟨h.1,h.2.symm⟩)))
         have h2:=lm nq H
         have hx2:=(Ext.refl w).drewN nq
         clear H HNX c6 c7
         generalize w.drewN nq = w2 at *
         go_wp2_with fail
         refine (HTK.out _ h2).mono ?_
         rintro e w3 ⟨rfl,hx3,h3⟩
         go_wp2_with fail
         refine (HWA.out _ h3).mono ?_
         rintro e w4 ⟨rfl,n4,rfl⟩
         have h4:=lm n4 h3
         have hx4:=((hx2.trans hx3).drewN n4)
         clear h2 h3 hx2 hx3
         generalize w3.drewN n4 = w5 at *
         go_upto_region 11 with (fail)
         have hd:=lj h4
         have hxd:=hx4.drew
         clear h4 hx4
         go_region_held3 (fun w'=>w'.cell? ⟨br,0,none⟩ = some (.pointer (some ⟨bs,0,none⟩)) /\ w'.cell? ⟨br,6,none⟩ = some (.slice (some ⟨lb,off,none⟩) j.list.length cap)) (first | exact ⟨lp 6 hd rfl 0 (by decide),lp 6 hd rfl 6 (by decide)⟩ | exact ⟨lp 6 hr rfl 0 (by decide),lp 6 hr rfl 6 (by decide)⟩) ((go_at_call 181; refine (HRD.out _ hd).mono ?_; rintro e wr ⟨rfl,hxr,hr⟩))
         have hx5:=hxd.trans hxr
         clear hd hxd hxr
         have c0 : wr.cell? ⟨br,0,none⟩ = some (.pointer (some ⟨bs,0,none⟩)):=lp 6 hr rfl 0 (by decide)
         have c2 : wr.cell? ⟨br,2,none⟩ = some (.int .i64 j.kind):=lp 6 hr rfl 2 (by decide)
         have c3 : wr.cell? ⟨br,3,none⟩ = some (.int .i64 j.file):=lp 6 hr rfl 3 (by decide)
         have c6 : wr.cell? ⟨br,6,none⟩ = some (.slice (some ⟨lb,off,none⟩) j.list.length cap):=lp 6 hr rfl 6 (by decide)
         have c74 : wr.cell? ⟨br,74,none⟩ = some (.int .i64 j.st):=lp 6 hr rfl 74 (by decide)
         have f74:=oU 6 hr rfl 74
         have c9 : wr.cell? ⟨lb,off,none⟩ = some (.int .i64 (j.list.getD 0 0)):=oo (HV.out _ _ hr) hpos
         rw [hkd] at c2
         rw [hxk] at c9
         clear hkd h1 hm
         go_wp2_with fail
         refine (HMV.out _ hr).mono ?_
         rintro e w6 ⟨rfl,hx6',h6⟩
         have hx6:=hx5.trans hx6'
         have c74 : w6.cell? ⟨br,74,none⟩ = some (.int .i64 j.st):=lp 6 h6 rfl 74 (by decide)
         have f74:=oU 6 h6 rfl 74
         have h9 : own (w6.setCell ⟨br,74,none⟩ (.int .i64 5)) (rshL bs A F'++(lA bs br (.slice (some ⟨lb,off,none⟩) j.list.length cap) { j with level:=j.level - 4,st:=5 }::R)):=yV (i:=74) (a:=.int .i64 5) 6 h6 rfl (B6 bs (.slice (some ⟨lb,off,none⟩) j.list.length cap) { j with level:=j.level - 4 } 5)
         go_wp2_with fail
         go_ret2
         exact ⟨rfl,hx6.setCell _ _,h9⟩
       ·rw [if_neg hkd] at hxk
        have d2 : (j.kind == 2) = false:=by rw [beq_eq_false_iff_ne]; exact hkd
        rcases hst' with h1 | h1
        all_goals
         rw [h1] at c7
         go_enter Tryz.func79,Tryz.ntmps79
         go_upto_region 3 with (fail)
         go_quiet ((go_at_call 179; exact Calls.quiet_of_same ((HNX.out _ (by first | exact HOW.out | exact lj HOW.out | exact lm _ HOW.out)).mono fun e w' h=>⟨h.1,h.2.symm⟩)))
         have h2:=lm nq H
         have hx2:=(Ext.refl w).drewN nq
         clear H HNX c6 c7
         generalize w.drewN nq = w2 at *
         go_wp2_with fail
         refine (HTK.out _ h2).mono ?_
         rintro e w3 ⟨rfl,hx3,h3⟩
         go_wp2_with fail
         refine (HWA.out _ h3).mono ?_
         rintro e w4 ⟨rfl,n4,rfl⟩
         have h4:=lm n4 h3
         have hx4:=((hx2.trans hx3).drewN n4)
         clear h2 h3 hx2 hx3
         generalize w3.drewN n4 = w5 at *
         go_upto_region 11 with (fail)
         have hd:=lj h4
         have hxd:=hx4.drew
         clear h4 hx4
         go_region_held3 (fun w'=>w'.cell? ⟨br,0,none⟩ = some (.pointer (some ⟨bs,0,none⟩)) /\ w'.cell? ⟨br,6,none⟩ = some (.slice (some ⟨lb,off,none⟩) j.list.length cap)) (first | exact ⟨lp 6 hd rfl 0 (by decide),lp 6 hd rfl 6 (by decide)⟩ | exact ⟨lp 6 hr rfl 0 (by decide),lp 6 hr rfl 6 (by decide)⟩) ((go_at_call 181; refine (HRD.out _ hd).mono ?_; rintro e wr ⟨rfl,hxr,hr⟩))
         have hx5:=hxd.trans hxr
         clear hd hxd hxr
         have c0 : wr.cell? ⟨br,0,none⟩ = some (.pointer (some ⟨bs,0,none⟩)):=lp 6 hr rfl 0 (by decide)
         have c2 : wr.cell? ⟨br,2,none⟩ = some (.int .i64 j.kind):=lp 6 hr rfl 2 (by decide)
         have c3 : wr.cell? ⟨br,3,none⟩ = some (.int .i64 j.file):=lp 6 hr rfl 3 (by decide)
         have c6 : wr.cell? ⟨br,6,none⟩ = some (.slice (some ⟨lb,off,none⟩) j.list.length cap):=lp 6 hr rfl 6 (by decide)
         have c74 : wr.cell? ⟨br,74,none⟩ = some (.int .i64 j.st):=lp 6 hr rfl 74 (by decide)
         have f74:=oU 6 hr rfl 74
         have c9 : wr.cell? ⟨lb,off,none⟩ = some (.int .i64 (j.list.getD 0 0)):=oo (HV.out _ _ hr) hpos
         rw [hxk] at c3
         clear hkd h1 hm
         go_wp2_with fail
         refine (HMV.out _ hr).mono ?_
         rintro e w6 ⟨rfl,hx6',h6⟩
         have hx6:=hx5.trans hx6'
         have c74 : w6.cell? ⟨br,74,none⟩ = some (.int .i64 j.st):=lp 6 h6 rfl 74 (by decide)
         have f74:=oU 6 h6 rfl 74
         have h9 : own (w6.setCell ⟨br,74,none⟩ (.int .i64 5)) (rshL bs A F'++(lA bs br (.slice (some ⟨lb,off,none⟩) j.list.length cap) { j with level:=j.level - 4,st:=5 }::R)):=yV (i:=74) (a:=.int .i64 5) 6 h6 rfl (B6 bs (.slice (some ⟨lb,off,none⟩) j.list.length cap) { j with level:=j.level - 4 } 5)
         go_wp2_with fail
         go_ret2
         exact ⟨rfl,hx6.setCell _ _,h9⟩
     ·rw [if_pos (show rc≠0 from hrc)]
      dsimp only
      rw [if_pos (show rc≠0 from hrc)]
      have hp : 0 < rc:=by omega
      have d0 : (rc == 0) = false:=by rw [beq_eq_false_iff_ne]; exact hrc
      by_cases hkd : j.kind = 2
      ·rw [if_pos hkd] at hxk
       rcases hst' with h1 | h1
       all_goals
        rw [h1] at c7
        go_enter Tryz.func79,Tryz.ntmps79
        go_upto_region 3 with (fail)
        go_quiet ((go_at_call 179; exact Calls.quiet_of_same ((HNX.out _ (by first | exact HOW.out | exact lj HOW.out | exact lm _ HOW.out)).mono fun e w' h=>⟨h.1,h.2.symm⟩)))
        have h2:=lm nq H
        have hx2:=(Ext.refl w).drewN nq
        clear H HNX c6 c7
        generalize w.drewN nq = w2 at *
        go_wp2_with fail
        refine (HTK.out _ h2).mono ?_
        rintro e w3 ⟨rfl,hx3,h3⟩
        go_wp2_with fail
        refine (HWA.out _ h3).mono ?_
        rintro e w4 ⟨rfl,n4,rfl⟩
        have h4:=lm n4 h3
        have hx4:=((hx2.trans hx3).drewN n4)
        clear h2 h3 hx2 hx3
        generalize w3.drewN n4 = w5 at *
        go_upto_region 11 with (fail)
        have hd:=lj h4
        have hxd:=hx4.drew
        clear h4 hx4
        go_region_held3 (fun w'=>w'.cell? ⟨br,0,none⟩ = some (.pointer (some ⟨bs,0,none⟩)) /\ w'.cell? ⟨br,6,none⟩ = some (.slice (some ⟨lb,off,none⟩) j.list.length cap)) (first | exact ⟨lp 6 hd rfl 0 (by decide),lp 6 hd rfl 6 (by decide)⟩ | exact ⟨lp 6 hr rfl 0 (by decide),lp 6 hr rfl 6 (by decide)⟩) ((go_at_call 181; refine (HRD.out _ hd).mono ?_; rintro e wr ⟨rfl,hxr,hr⟩))
        have hx5:=hxd.trans hxr
        clear hd hxd hxr
        have c0 : wr.cell? ⟨br,0,none⟩ = some (.pointer (some ⟨bs,0,none⟩)):=lp 6 hr rfl 0 (by decide)
        have c2 : wr.cell? ⟨br,2,none⟩ = some (.int .i64 j.kind):=lp 6 hr rfl 2 (by decide)
        have c3 : wr.cell? ⟨br,3,none⟩ = some (.int .i64 j.file):=lp 6 hr rfl 3 (by decide)
        have c6 : wr.cell? ⟨br,6,none⟩ = some (.slice (some ⟨lb,off,none⟩) j.list.length cap):=lp 6 hr rfl 6 (by decide)
        have c74 : wr.cell? ⟨br,74,none⟩ = some (.int .i64 j.st):=lp 6 hr rfl 74 (by decide)
        have f74:=oU 6 hr rfl 74
        have c9 : wr.cell? ⟨lb,off,none⟩ = some (.int .i64 (j.list.getD 0 0)):=oo (HV.out _ _ hr) hpos
        rw [hkd] at c2
        rw [hxk] at c9
        clear hkd h1 hrc
        have c74 : wr.cell? ⟨br,74,none⟩ = some (.int .i64 j.st):=lp 6 hr rfl 74 (by decide)
        have f74:=oU 6 hr rfl 74
        have h9 : own (wr.setCell ⟨br,74,none⟩ (.int .i64 5)) (rshL bs A F++(lA bs br (.slice (some ⟨lb,off,none⟩) j.list.length cap) { j with level:=j.level - 4,st:=5 }::R)):=yV (i:=74) (a:=.int .i64 5) 6 hr rfl (B6 bs (.slice (some ⟨lb,off,none⟩) j.list.length cap) { j with level:=j.level - 4 } 5)
        go_wp2_with fail
        go_ret2
        exact ⟨rfl,hx5.setCell _ _,h9⟩
      ·rw [if_neg hkd] at hxk
       have d2 : (j.kind == 2) = false:=by rw [beq_eq_false_iff_ne]; exact hkd
       rcases hst' with h1 | h1
       all_goals
        rw [h1] at c7
        go_enter Tryz.func79,Tryz.ntmps79
        go_upto_region 3 with (fail)
        go_quiet ((go_at_call 179; exact Calls.quiet_of_same ((HNX.out _ (by first | exact HOW.out | exact lj HOW.out | exact lm _ HOW.out)).mono fun e w' h=>⟨h.1,h.2.symm⟩)))
        have h2:=lm nq H
        have hx2:=(Ext.refl w).drewN nq
        clear H HNX c6 c7
        generalize w.drewN nq = w2 at *
        go_wp2_with fail
        refine (HTK.out _ h2).mono ?_
        rintro e w3 ⟨rfl,hx3,h3⟩
        go_wp2_with fail
        refine (HWA.out _ h3).mono ?_
        rintro e w4 ⟨rfl,n4,rfl⟩
        have h4:=lm n4 h3
        have hx4:=((hx2.trans hx3).drewN n4)
        clear h2 h3 hx2 hx3
        generalize w3.drewN n4 = w5 at *
        go_upto_region 11 with (fail)
        have hd:=lj h4
        have hxd:=hx4.drew
        clear h4 hx4
        go_region_held3 (fun w'=>w'.cell? ⟨br,0,none⟩ = some (.pointer (some ⟨bs,0,none⟩)) /\ w'.cell? ⟨br,6,none⟩ = some (.slice (some ⟨lb,off,none⟩) j.list.length cap)) (first | exact ⟨lp 6 hd rfl 0 (by decide),lp 6 hd rfl 6 (by decide)⟩ | exact ⟨lp 6 hr rfl 0 (by decide),lp 6 hr rfl 6 (by decide)⟩) ((go_at_call 181; refine (HRD.out _ hd).mono ?_; rintro e wr ⟨rfl,hxr,hr⟩))
        have hx5:=hxd.trans hxr
        clear hd hxd hxr
        have c0 : wr.cell? ⟨br,0,none⟩ = some (.pointer (some ⟨bs,0,none⟩)):=lp 6 hr rfl 0 (by decide)
        have c2 : wr.cell? ⟨br,2,none⟩ = some (.int .i64 j.kind):=lp 6 hr rfl 2 (by decide)
        have c3 : wr.cell? ⟨br,3,none⟩ = some (.int .i64 j.file):=lp 6 hr rfl 3 (by decide)
        have c6 : wr.cell? ⟨br,6,none⟩ = some (.slice (some ⟨lb,off,none⟩) j.list.length cap):=lp 6 hr rfl 6 (by decide)
        have c74 : wr.cell? ⟨br,74,none⟩ = some (.int .i64 j.st):=lp 6 hr rfl 74 (by decide)
        have f74:=oU 6 hr rfl 74
        have c9 : wr.cell? ⟨lb,off,none⟩ = some (.int .i64 (j.list.getD 0 0)):=oo (HV.out _ _ hr) hpos
        rw [hxk] at c3
        clear hkd h1 hrc
        have c74 : wr.cell? ⟨br,74,none⟩ = some (.int .i64 j.st):=lp 6 hr rfl 74 (by decide)
        have f74:=oU 6 hr rfl 74
        have h9 : own (wr.setCell ⟨br,74,none⟩ (.int .i64 5)) (rshL bs A F++(lA bs br (.slice (some ⟨lb,off,none⟩) j.list.length cap) { j with level:=j.level - 4,st:=5 }::R)):=yV (i:=74) (a:=.int .i64 5) 6 hr rfl (B6 bs (.slice (some ⟨lb,off,none⟩) j.list.length cap) { j with level:=j.level - 4 } 5)
        go_wp2_with fail
        go_ret2
        exact ⟨rfl,hx5.setCell _ _,h9⟩
section
variable {b b2 : Nat} {A : Nat -> Nat×Nat×Nat} {A2 : Nat -> Nat×Nat} {F : ShM} {R : List SL.HP} {w : World} {k : Nat}
end
end Go.Proofs.YtbpblokfiajpjabGreatDoor
namespace Go.Proofs.YtbpblokfiajpjabGreatDoor
open Go.RowKit Go.SL Go.Crc
attribute [local go_sem ↓] Go.wp_at_zero Go.wp_at_succ
open Classical in
theorem Vt {w : World} {l R : List SL.HP} (o : Obj) (H : own w (l++R)) : own (w.alloc o) (l++(pts w.heap.size o::R)):=lu l (li H o)
end Go.Proofs.YtbpblokfiajpjabGreatDoor
namespace Go.Proofs.YtbpblokfiajpjabGreatDoor
open Go.RowKit Go.SL Go.Crc
attribute [local go_sem ↓] Go.wp_at_zero Go.wp_at_succ
theorem O3 {w : World} (a c d e : List SL.HP) {R : List SL.HP} (H : own w (a++(c++(d++(e++R))))) : own w (d++(e++(a++(c++R)))):=by
 have:=lq (a++c) (d++e) (R:=R) (by simpa only [zp] using H)
 simpa only [zp] using this
theorem Lv {R : List SL.HP} (hT : ∀w' L,own w' (L++R) -> yH w') (X : List SL.HP) : ∀w' L,own w' (L++(X++R)) -> yH w':=fun w' L h=>hT w' (L++X) (by rwa [zp])
theorem Sq {bs br : Nat} {v : Value} {j : JobM} (hj : j.Ok) {n : Int} (hn : 0 <= n) (hn2 : n <= 100000) {L : List SL.HP} (kk : Nat) (w : World) (H : own w L) (hk : L[kk]? = some (lA bs br v j)) :
  Calls Tryz.prog 84 #[.pointer (some ⟨br,75,none⟩),.int .i64 n] w fun e w'=>e = .returned (.tuple #[]) /\ Ext w w' /\ own w' (L.set kk (lA bs br v (Bz j n))):=by
 have hk' : L[kk]? = some (bkB br (AV bs v j) 149 75 j.level):=by rw [hk,<- Em]
 refine (Un (Id bs v j) kk w H hk' hn hn2 hj.level.1 hj.level.2 hj.rate.1 hj.rate.2 hj.burst.2).mono ?_
 rintro e w' ⟨h1,h2,h3⟩
 unfold Bz
 rw [if_pos ⟨hn,hn2⟩,Em]
 exact ⟨h1,h2,h3⟩
end Go.Proofs.YtbpblokfiajpjabGreatDoor
namespace Go.Proofs.YtbpblokfiajpjabGreatDoor
open Go.RowKit Go.SL Go.Crc
def y7 (j j' : JobM) : Prop:=j'.list = j.list /\ j'.kind = j.kind /\ j'.file = j.file /\ j'.root = j.root /\ j'.n = j.n
theorem y7.refl (j : JobM) : y7 j j:=⟨rfl,rfl,rfl,rfl,rfl⟩
theorem Ks (j : JobM) : y7 j (y9 j):=by
 unfold y9
 split
 ·exact ⟨rfl,rfl,rfl,rfl,rfl⟩
 ·split <;> exact ⟨rfl,rfl,rfl,rfl,rfl⟩
theorem y7.turn {j j2 : JobM} (h : y7 j j2) : y7 j (y9 j2):=by
 obtain ⟨a,b,c,d,e⟩:=Ks j2
 exact ⟨a.trans h.1,b.trans h.2.1,c.trans h.2.2.1,d.trans h.2.2.2.1,e.trans h.2.2.2.2⟩
theorem OT (j : JobM) (n : Int) : y7 j (Bz j n):=by
 unfold Bz
 split <;> exact ⟨rfl,rfl,rfl,rfl,rfl⟩
theorem NT (j : JobM) (c : Int) : y7 j (zy j c):=by
 unfold zy
 split
 ·exact y7.turn ⟨rfl,rfl,rfl,rfl,rfl⟩
 ·exact y7.refl j
theorem IM (j : JobM) (on : Bool) : y7 j (yG j on).2:=by
 unfold yG
 split
 ·split
  ·exact ⟨rfl,rfl,rfl,rfl,rfl⟩
  ·exact y7.refl j
 ·split
  ·exact y7.turn (j:=j) (j2:={ j with st:=1 }) ⟨rfl,rfl,rfl,rfl,rfl⟩
  ·exact y7.refl j
theorem CN (F : ShM) (j : JobM) : y7 j (lZ F j).2.2:=by
 unfold lZ
 split
 ·exact y7.refl j
 ·split
  ·exact y7.refl j
  ·split
   ·exact ⟨rfl,rfl,rfl,rfl,rfl⟩
   ·exact y7.turn ⟨rfl,rfl,rfl,rfl,rfl⟩
theorem BQ (F : ShM) (j : JobM) : y7 j (lz F j).2.2:=by
 unfold lz
 split
 ·exact y7.refl j
 ·split
  ·split
   ·exact ⟨rfl,rfl,rfl,rfl,rfl⟩
   ·exact y7.refl j
  ·split <;> exact y7.refl j
theorem JobS.same {F : ShM} {j j' : JobM} (h : JobS F j) (s : y7 j j') : JobS F j':=
 ⟨fun x hx=>h.list x (by rw [<- s.1]; exact hx),fun h2=>by rw [s.2.2.1]; exact h.file (by rw [<- s.2.1]; exact h2)⟩
theorem JobS.files {F F' : ShM} {j : JobM} (h : JobS F j) (hf : ∀x,lx F x -> lx F' x) : JobS F' j:=⟨fun x hx=>hf x (h.list x hx),fun h2=>hf _ (h.file h2)⟩
end Go.Proofs.YtbpblokfiajpjabGreatDoor
namespace Go.Proofs.YtbpblokfiajpjabGreatDoor
open Go.RowKit Go.SL Go.Crc
attribute [local go_sem ↓] Go.wp_at_zero Go.wp_at_succ
structure lK where
 root : Int
 kind : Int
 file : Int
 rate : Int
 burst : Int
def lC (r : Int) : lK:=⟨r,0,-1,0,0⟩
def lK.v (d : lK) : Value:=o6 d.root d.kind d.file d.rate d.burst
def lK.f (d : lK) : Int:=yd d.root d.kind d.file d.rate d.burst
def lK.s (d : lK) : ByteArray:=Aa d.root d.kind d.file d.rate d.burst
structure lf where
 F : ShM
 D : Nat -> DevM
 top : DevM
 dk : lK
 list : List Int
 job : Option JobM
structure YA where
 y : Nat
 bs : Nat
 tp : Nat
 A : Nat -> Nat×Nat×Nat
 v : Value
 bj : Nat
 bt : Nat
 bb : Nat
 vj : Value
def oL (A : Nat -> Nat×Nat×Nat) (F : ShM) (D : Nat -> DevM) (k : Nat) : HP:=match F k with
 | none=>ll (A k).2.1 (D k)
 | some _=>emp
def jobV (bj : Nat) (j : Option JobM) : Value:=match j with
 | none=>.pointer none
 | some _=>.pointer (some ⟨bj,0,none⟩)
def Mm (Y : YA) (j : Option JobM) : HP:=match j with
 | none=>emp
 | some j=>star (jobL Y.bs Y.bj Y.bt Y.bb Y.vj j++[row 3 1 Y.vj j.list.length (ln j.list)])
def yC (Y : YA) (m : lf) : Array Value:=#[.pointer (some ⟨(Y.A 0).2.1,0,none⟩),.pointer (some ⟨(Y.A 1).2.1,0,none⟩),.pointer (some ⟨(Y.A 2).2.1,0,none⟩),.pointer (some ⟨(Y.A 3).2.1,0,none⟩),.pointer (some ⟨(Y.A 4).2.1,0,none⟩),.pointer (some ⟨Y.tp,0,none⟩),.pointer (some ⟨Y.bs,0,none⟩),.int .i64 m.dk.root,.int .i64 m.dk.kind,.int .i64 m.dk.file,.int .i64 m.dk.rate,.int .i64 m.dk.burst,Y.v,jobV Y.bj m.job]
def yT (Y : YA) (m : lf) : List SL.HP:=[pts Y.y (.cells (yC Y m) 165 (0,0)),oL Y.A m.F m.D 0,oL Y.A m.F m.D 1,oL Y.A m.F m.D 2,oL Y.A m.F m.D 3,oL Y.A m.F m.D 4,ll Y.tp m.top,row 3 1 Y.v m.list.length (ln m.list),Mm Y m.job]
abbrev yL (Y : YA) (m : lf) (R : List SL.HP) : List SL.HP:=shL Y.bs Y.A m.F++(yT Y m++R)
structure RA where
 y : Nat
 bs : Nat
 tp : Nat
 A : Nat -> Nat×Nat
 v : Value
 bj : Nat
 vj : Value
def oA (A : Nat -> Nat×Nat) (F : ShM) (D : Nat -> DevM) (k : Nat) : HP:=match F k with
 | none=>lo (A k).2 (D k)
 | some _=>emp
def J3 (Y : RA) (j : Option JobM) : HP:=match j with
 | none=>emp
 | some j=>star [lA Y.bs Y.bj Y.vj j,row 3 1 Y.vj j.list.length (ln j.list)]
def ryC (Y : RA) (m : lf) : Array Value:=#[.pointer (some ⟨(Y.A 0).2,0,none⟩),.pointer (some ⟨(Y.A 1).2,0,none⟩),.pointer (some ⟨(Y.A 2).2,0,none⟩),.pointer (some ⟨(Y.A 3).2,0,none⟩),.pointer (some ⟨(Y.A 4).2,0,none⟩),.pointer (some ⟨Y.tp,0,none⟩),.pointer (some ⟨Y.bs,0,none⟩),.int .i64 m.dk.root,.int .i64 m.dk.kind,.int .i64 m.dk.file,.int .i64 m.dk.rate,.int .i64 m.dk.burst,Y.v,jobV Y.bj m.job]
def ryT (Y : RA) (m : lf) : List SL.HP:=[pts Y.y (.cells (ryC Y m) 171 (0,0)),oA Y.A m.F m.D 0,oA Y.A m.F m.D 1,oA Y.A m.F m.D 2,oA Y.A m.F m.D 3,oA Y.A m.F m.D 4,lo Y.tp m.top,row 3 1 Y.v m.list.length (ln m.list),J3 Y m.job]
abbrev ryL (Y : RA) (m : lf) (R : List SL.HP) : List SL.HP:=rshL Y.bs Y.A m.F++(ryT Y m++R)
def yX (m : lf) : Bool:=match m.job with
 | none=>false
 | some j=>decide (j.st < 4)
def CZ (m : lf) (file : Int) : Bool:=decide (file∈m.list) || (yX m && decide (m.dk.file = file))
def lw (m : lf) (d : lK) : Int×lf:=
 if (m.top.write 0 d.s).1≠0 then ((m.top.write 0 d.s).1,{ m with top:=(m.top.write 0 d.s).2 }) else (0,{ m with top:=(m.top.write 0 d.s).2.flush,dk:=d })
def devOf (m : lf) (k : Nat) : DevM:=match m.F k with
 | some i=>i.d
 | none=>m.D k
def cut (F : ShM) (k : Nat) : ShM:=fun j=>if j = k then none else F j
def setD (D : Nat -> DevM) (k : Nat) (d : DevM) : Nat -> DevM:=fun j=>if j = k then d else D j
def zN (c : Int) (d : DevM) : Int:=Int.tdiv ((d.fl.length : Int) - 1 - (lr c.toNat : Nat)) 4
def yS (m : lf) (file : Nat) (back : Int) : Int×ImgM:=oI (devOf m file) (clus m.F m.dk.root) (zN (clus m.F m.dk.root) (devOf m file)) back
def oC (m : lf) (file back : Int) : Int×lf:=
 if file < 0 \/ 5 <= file then (1,m) else if CZ m file then (5,m)
 else if (yS m file.toNat back).1≠0 then ((yS m file.toNat back).1,{ m with F:=cut m.F file.toNat,D:=setD m.D file.toNat (yS m file.toNat back).2.d })
 else (0,{ m with F:=put m.F file.toNat (yS m file.toNat back).2 })
def Ba (m : lf) (file : Int) : Int×lf:=
 if yX m then (8,m) else if m.list.length = 4 then (6,m)
 else if (oC m file m.dk.root).1≠0 then oC m file m.dk.root
 else if (lw (oC m file m.dk.root).2 (lC file)).1≠0 then lw (oC m file m.dk.root).2 (lC file)
 else (0,{ (lw (oC m file m.dk.root).2 (lC file)).2 with list:=file::m.list })
def Aj (m : lf) (kind file rate burst : Int) : Int×lf:=
 if yX m then (8,m) else if kind = 0 then (1,m)
 else if yd m.dk.root kind file rate burst≠0 then (yd m.dk.root kind file rate burst,m)
 else match newM m.F m.dk.root kind file rate burst with
  | (none,f)=>(f,m)
  | (some j,_)=>if (lw m ⟨m.dk.root,kind,file,rate,burst⟩).1≠0 then lw m ⟨m.dk.root,kind,file,rate,burst⟩
   else ((yG j false).1,{ (lw m ⟨m.dk.root,kind,file,rate,burst⟩).2 with job:=some (yG j false).2 })
def BJ (m : lf) (j : JobM) (root : Int) (well : Bool) : Int×lf:=
 if (lw m (lC root)).1≠0 then lw m (lC root)
 else (0,{ (lw m (lC root)).2 with job:=some (endM j well),list:=(ls m.F root).1 })
def zj (m : lf) : (Bool×Int)×lf:=match m.job with
 | none=>((false,4),m)
 | some j=>if 4 <= j.st then ((false,4),m)
  else
   let m1 : lf:={ m with F:=(lZ m.F j).2.1,job:=some (lZ m.F j).2.2 }
   if (lZ m.F j).1.2≠0 then ((false,(lZ m.F j).1.2),if (lZ m.F j).2.2.st < 4 then m1 else (lw m1 (lC m.dk.root)).2)
   else if m.dk.kind≠2 \/ (lZ m.F j).2.2.st≠3 then (((lZ m.F j).1.1,0),m1)
   else
    let S:=lz m1.F (lZ m.F j).2.2
    let m2 : lf:={ m with F:=S.2.1,job:=some S.2.2 }
    if S.1≠0 then ((false,S.1),(lw m2 (lC m.dk.root)).2)
    else
     let m3 : lf:={ m2 with list:=(ls m2.F m.dk.root).1,job:=some (endM S.2.2 true) }
     ((true,0),{ (lw m3 (lC m.dk.root)).2 with dk:=lC m.dk.root })
def Ai (m : lf) : Int×lf:=match m.job with
 | none=>(4,m)
 | some j=>if 4 <= j.st then (4,m) else if m.dk.kind = 2 then (9,m)
  else if (lz m.F j).1≠0 then ((lz m.F j).1,{ m with F:=(lz m.F j).2.1,job:=some (lz m.F j).2.2 })
  else BJ { m with F:=(lz m.F j).2.1,job:=some (lz m.F j).2.2 } (lz m.F j).2.2 m.dk.file true
def zG (m : lf) : Int×lf:=match m.job with
 | none=>(4,m)
 | some j=>if 4 <= j.st then (4,m) else BJ m j m.dk.root false
def zH (m : lf) (on : Bool) : Int×lf:=match m.job with
 | none=>(4,m)
 | some j=>if 4 <= j.st then (4,m) else ((yG j on).1,{ m with job:=some (yG j on).2 })
def Ag (m : lf) (n : Int) : Int×lf:=
 if n < 0 \/ 100000 < n then (1,m) else match m.job with
 | none=>(0,m)
 | some j=>if 4 <= j.st then (0,m) else (0,{ m with job:=some (Bz j n) })
def Fx (m : lf) : Value:=match m.job with
 | none=>.agg #[.int .i64 0,.int .i64 (-1),.int .i64 0,.int .i64 0]
 | some j=>CB j
def armM (m : lf) (file n : Int) : Int×lf:=
 if file < -1 \/ 5 <= file \/ n < 0 then (1,m) else if file = -1 then (0,{ m with top:={ m.top with fail:=n } })
 else match m.F file.toNat with
  | some i=>(0,{ m with F:=put m.F file.toNat { i with d:={ i.d with fail:=n } } })
  | none=>(0,{ m with D:=setD m.D file.toNat { m.D file.toNat with fail:=n } })
def ob (j : JobM) (c : Int) : Nat -> JobM
 | 0=>j
 | n + 1=>ob (zy j c) (c + 1) n
def yz (m : lf) (from_ n : Int) : lf:=match m.job with
 | none=>m
 | some j=>if n = 0 then m else { m with job:=some (ob j (from_ / 4) ((from_ + n - 1) / 4 - from_ / 4 + 1).toNat) }
def z8 (m : lf) : lf:={ m with F:=ye m.F m.list }
structure YOk (N : Nat) (m : lf) : Prop where
 sh : ShW N m.F
 dv : ∀k,k < 5 -> m.F k = none -> (m.D k).Ok /\ (m.D k).writes <= N /\ (m.D k).pend.length <= N
 tp : m.top.Ok /\ m.top.writes <= N /\ m.top.pend.length <= N /\ 1 <= m.top.fl.length
 walk : ls m.F m.dk.root = (m.list,0)
 root : lx m.F m.dk.root
 jok : ∀j,m.job = some j -> j.Ok
 job : ∀j,m.job = some j -> j.st < 4 -> JobS m.F j /\ j.list = m.list /\ j.kind = m.dk.kind /\ j.file = m.dk.file /\ j.root = m.dk.root
theorem BG {Y : YA} {m : lf} {R : List SL.HP} {w : World} (H : own w (yL Y m R)) : ∀i,w.cell? ⟨Y.y,i,none⟩ = (yC Y m)[i]?:=(ld 6 H rfl).1
theorem BT {Y : YA} {m : lf} {R : List SL.HP} {w : World} (H : own w (yL Y m R)) : ∀i,w.frozen? ⟨Y.y,i,none⟩ = false:=(ld 6 H rfl).2
theorem y_tp {Y : YA} {m : lf} {R : List SL.HP} {w : World} (H : own w (yL Y m R)) : w.cell? ⟨Y.y,5,none⟩ = some (.pointer (some ⟨Y.tp,0,none⟩)):=BG H 5
theorem y_bs {Y : YA} {m : lf} {R : List SL.HP} {w : World} (H : own w (yL Y m R)) : w.cell? ⟨Y.y,6,none⟩ = some (.pointer (some ⟨Y.bs,0,none⟩)):=BG H 6
theorem yI {Y : YA} {m : lf} {R : List SL.HP} {w : World} (H : own w (yL Y m R)) : w.cell? ⟨Y.y,7,none⟩ = some (.int .i64 m.dk.root):=BG H 7
theorem Cj {Y : YA} {m : lf} {R : List SL.HP} {w : World} (H : own w (yL Y m R)) : w.cell? ⟨Y.y,8,none⟩ = some (.int .i64 m.dk.kind):=BG H 8
theorem Cd {Y : YA} {m : lf} {R : List SL.HP} {w : World} (H : own w (yL Y m R)) : w.cell? ⟨Y.y,9,none⟩ = some (.int .i64 m.dk.file):=BG H 9
theorem Ex {Y : YA} {m : lf} {R : List SL.HP} {w : World} (H : own w (yL Y m R)) : w.cell? ⟨Y.y,10,none⟩ = some (.int .i64 m.dk.rate):=BG H 10
theorem Dm {Y : YA} {m : lf} {R : List SL.HP} {w : World} (H : own w (yL Y m R)) : w.cell? ⟨Y.y,11,none⟩ = some (.int .i64 m.dk.burst):=BG H 11
theorem BO {Y : YA} {m : lf} {R : List SL.HP} {w : World} (H : own w (yL Y m R)) : w.cell? ⟨Y.y,12,none⟩ = some Y.v:=BG H 12
theorem FR {Y : YA} {m : lf} {R : List SL.HP} {w : World} (H : own w (yL Y m R)) : w.cell? ⟨Y.y,13,none⟩ = some (jobV Y.bj m.job):=BG H 13
theorem DG {Y : YA} {m : lf} {R : List SL.HP} {w : World} (H : own w (yL Y m R)) {k : Nat} (hk : k < 5) : w.cell? ⟨Y.y,k,none⟩ = some (.pointer (some ⟨(Y.A k).2.1,0,none⟩)):=by
 rw [BG H k]
 match k,hk with
 | 0,_=>rfl
 | 1,_=>rfl
 | 2,_=>rfl
 | 3,_=>rfl
 | 4,_=>rfl
theorem DV {Y : YA} {m : lf} {R : List SL.HP} {w : World} (H : own w (yL Y m R)) : lR w Y.v m.list:=lY 13 H rfl
theorem A1 {Y : RA} {m : lf} {R : List SL.HP} {w : World} (H : own w (ryL Y m R)) : ∀i,w.cell? ⟨Y.y,i,none⟩ = (ryC Y m)[i]?:=(ld 6 H rfl).1
theorem AI {Y : RA} {m : lf} {R : List SL.HP} {w : World} (H : own w (ryL Y m R)) : ∀i,w.frozen? ⟨Y.y,i,none⟩ = false:=(ld 6 H rfl).2
theorem JW {Y : RA} {m : lf} {R : List SL.HP} {w : World} (H : own w (ryL Y m R)) : w.cell? ⟨Y.y,5,none⟩ = some (.pointer (some ⟨Y.tp,0,none⟩)):=A1 H 5
theorem Br {Y : RA} {m : lf} {R : List SL.HP} {w : World} (H : own w (ryL Y m R)) : w.cell? ⟨Y.y,6,none⟩ = some (.pointer (some ⟨Y.bs,0,none⟩)):=A1 H 6
theorem zC {Y : RA} {m : lf} {R : List SL.HP} {w : World} (H : own w (ryL Y m R)) : w.cell? ⟨Y.y,7,none⟩ = some (.int .i64 m.dk.root):=A1 H 7
theorem CA {Y : RA} {m : lf} {R : List SL.HP} {w : World} (H : own w (ryL Y m R)) : w.cell? ⟨Y.y,8,none⟩ = some (.int .i64 m.dk.kind):=A1 H 8
theorem CD {Y : RA} {m : lf} {R : List SL.HP} {w : World} (H : own w (ryL Y m R)) : w.cell? ⟨Y.y,9,none⟩ = some (.int .i64 m.dk.file):=A1 H 9
theorem Ek {Y : RA} {m : lf} {R : List SL.HP} {w : World} (H : own w (ryL Y m R)) : w.cell? ⟨Y.y,10,none⟩ = some (.int .i64 m.dk.rate):=A1 H 10
theorem Db {Y : RA} {m : lf} {R : List SL.HP} {w : World} (H : own w (ryL Y m R)) : w.cell? ⟨Y.y,11,none⟩ = some (.int .i64 m.dk.burst):=A1 H 11
theorem Aw {Y : RA} {m : lf} {R : List SL.HP} {w : World} (H : own w (ryL Y m R)) : w.cell? ⟨Y.y,12,none⟩ = some Y.v:=A1 H 12
theorem EN {Y : RA} {m : lf} {R : List SL.HP} {w : World} (H : own w (ryL Y m R)) : w.cell? ⟨Y.y,13,none⟩ = some (jobV Y.bj m.job):=A1 H 13
theorem Es {Y : RA} {m : lf} {R : List SL.HP} {w : World} (H : own w (ryL Y m R)) {k : Nat} (hk : k < 5) : w.cell? ⟨Y.y,k,none⟩ = some (.pointer (some ⟨(Y.A k).2,0,none⟩)):=by
 rw [A1 H k]
 match k,hk with
 | 0,_=>rfl
 | 1,_=>rfl
 | 2,_=>rfl
 | 3,_=>rfl
 | 4,_=>rfl
theorem BF {Y : RA} {m : lf} {R : List SL.HP} {w : World} (H : own w (ryL Y m R)) : lR w Y.v m.list:=lY 13 H rfl
theorem Bw {Y : YA} {m : lf} {j : JobM} (h : m.job = some j) {R : List SL.HP} {w : World} (H : own w (yL Y m R)) :
  own w (shL Y.bs Y.A m.F++(jobL Y.bs Y.bj Y.bt Y.bb Y.vj j++(row 3 1 Y.vj j.list.length (ln j.list)::((yT Y m).take 8++R)))):=by
 have h1:=lt 14 H rfl
 have hj : Mm Y m.job = star (jobL Y.bs Y.bj Y.bt Y.bb Y.vj j++[row 3 1 Y.vj j.list.length (ln j.list)]):=by rw [h]; rfl
 rw [hj] at h1
 have h2:=Dn h1
 have h3 : own w ((jobL Y.bs Y.bj Y.bt Y.bb Y.vj j++[row 3 1 Y.vj j.list.length (ln j.list)])++(shL Y.bs Y.A m.F++((yT Y m).take 8++R))):=h2
 have h4:=lq (jobL Y.bs Y.bj Y.bt Y.bb Y.vj j++[row 3 1 Y.vj j.list.length (ln j.list)]) (shL Y.bs Y.A m.F) h3
 simpa only [zp,List.singleton_append] using h4
theorem IB {Y : YA} {m : lf} {j : JobM} (h : m.job = some j) {R : List SL.HP} {w : World}
  (H : own w (shL Y.bs Y.A m.F++(jobL Y.bs Y.bj Y.bt Y.bb Y.vj j++(row 3 1 Y.vj j.list.length (ln j.list)::((yT Y m).take 8++R))))) : own w (yL Y m R):=by
 have h1 : own w (shL Y.bs Y.A m.F++((jobL Y.bs Y.bj Y.bt Y.bb Y.vj j++[row 3 1 Y.vj j.list.length (ln j.list)])++((yT Y m).take 8++R))):=by
  simpa only [zp,List.singleton_append] using H
 have h2:=lq (shL Y.bs Y.A m.F) (jobL Y.bs Y.bj Y.bt Y.bb Y.vj j++[row 3 1 Y.vj j.list.length (ln j.list)]) h1
 have h3:=yB (jobL Y.bs Y.bj Y.bt Y.bb Y.vj j++[row 3 1 Y.vj j.list.length (ln j.list)]) h2
 have hj : Mm Y m.job = star (jobL Y.bs Y.bj Y.bt Y.bb Y.vj j++[row 3 1 Y.vj j.list.length (ln j.list)]):=by rw [h]; rfl
 rw [<- hj] at h3
 have h4 : own w (Mm Y m.job::((shL Y.bs Y.A m.F++(yT Y m).take 8)++R)):=by rw [zp]; exact h3
 have h5:=lu (shL Y.bs Y.A m.F++(yT Y m).take 8) h4
 rw [zp] at h5
 exact h5
theorem Ax {Y : RA} {m : lf} {j : JobM} (h : m.job = some j) {R : List SL.HP} {w : World} (H : own w (ryL Y m R)) :
  own w (rshL Y.bs Y.A m.F++(lA Y.bs Y.bj Y.vj j::(row 3 1 Y.vj j.list.length (ln j.list)::((ryT Y m).take 8++R)))):=by
 have h1:=lt 14 H rfl
 have hj : J3 Y m.job = star [lA Y.bs Y.bj Y.vj j,row 3 1 Y.vj j.list.length (ln j.list)]:=by rw [h]; rfl
 rw [hj] at h1
 have h2:=Dn h1
 have h3 : own w ([lA Y.bs Y.bj Y.vj j,row 3 1 Y.vj j.list.length (ln j.list)]++(rshL Y.bs Y.A m.F++((ryT Y m).take 8++R))):=h2
 exact lq _ (rshL Y.bs Y.A m.F) h3
theorem Mw {Y : RA} {m : lf} {j : JobM} (h : m.job = some j) {R : List SL.HP} {w : World}
  (H : own w (rshL Y.bs Y.A m.F++(lA Y.bs Y.bj Y.vj j::(row 3 1 Y.vj j.list.length (ln j.list)::((ryT Y m).take 8++R))))) : own w (ryL Y m R):=by
 have h2:=lq (rshL Y.bs Y.A m.F) [lA Y.bs Y.bj Y.vj j,row 3 1 Y.vj j.list.length (ln j.list)] H
 have h3:=yB [lA Y.bs Y.bj Y.vj j,row 3 1 Y.vj j.list.length (ln j.list)] h2
 have hj : J3 Y m.job = star [lA Y.bs Y.bj Y.vj j,row 3 1 Y.vj j.list.length (ln j.list)]:=by rw [h]; rfl
 rw [<- hj] at h3
 have h4 : own w (J3 Y m.job::((rshL Y.bs Y.A m.F++(ryT Y m).take 8)++R)):=by rw [zp]; exact h3
 have h5:=lu (rshL Y.bs Y.A m.F++(ryT Y m).take 8) h4
 rw [zp] at h5
 exact h5
end Go.Proofs.YtbpblokfiajpjabGreatDoor
