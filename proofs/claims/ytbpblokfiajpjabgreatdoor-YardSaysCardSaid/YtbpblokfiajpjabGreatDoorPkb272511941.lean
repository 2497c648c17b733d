/- Lemmas on which YardSays stands: the texts Jobs7 Jobs8 Jobs10 Jobs11 Jobs12 Jobs9 Chain19 Chain20 Jobs17 Jobs18 Yard1. No conditions. -/
import Derived.Test.YtbpblokfiajpjabGreatDoorPkc157f97e69
set_option linter.all false
set_option maxRecDepth 1000000
set_option maxHeartbeats 32000000
namespace Go.Proofs.YtbpblokfiajpjabGreatDoor
open Go.RowKit Go.SL Go.Crc
attribute [local go_sem ↓] Go.wp_at_zero Go.wp_at_succ
def yH (bs : Nat) (v : Value) (j : JobM) (i : Nat) : Value:=
 if i = 0 then .pointer (some ⟨bs,0,none⟩) else if i = 1 then .int .i64 j.root else if i = 2 then .int .i64 j.kind else if i = 3 then .int .i64 j.file else if i = 4 then .int .i64 j.rate
 else if i = 5 then .int .i64 j.burst else if i = 6 then v else if i = 7 then .int .i64 (GG j : Nat) else if i = 8 then .int .i64 (j.n : Nat) else if i = 73 then .int .i64 ((j.at_ : Nat) - 1 : Int)
 else if i = 74 then .int .i64 j.st else if i = 75 then .int .i64 j.rate else if i = 76 then .int .i64 j.burst else if i = 77 then .int .i64 j.level else .bool (j.x.testBit (i - 9))
def A9 (bs : Nat) (v : Value) (j : JobM) : Array Value:=Array.ofFn (n:=78) fun i=>yH bs v j i
def lB (bs br : Nat) (v : Value) (j : JobM) : SL.HP:=pts br (.cells (A9 bs v j) 149 (0,0))
theorem DA (bs : Nat) (v : Value) (j : JobM) {i : Nat} (hi : i < 78) : (A9 bs v j)[i]? = some (yH bs v j i):=by
 unfold A9
 rw [Array.getElem?_ofFn,dif_pos hi]
theorem lq {w : World} {L : List SL.HP} {bs br : Nat} {v : Value} {j : JobM} (k : Nat) (H : own w L) (hk : L[k]? = some (lB bs br v j)) (i : Nat) (hi : i < 78) : w.cell? ⟨br,i,none⟩ = some (yH bs v j i):=by
 rw [(ld k H hk).1 i,DA _ _ _ hi]
theorem oV {w : World} {L : List SL.HP} {bs br : Nat} {v : Value} {j : JobM} (k : Nat) (H : own w L) (hk : L[k]? = some (lB bs br v j)) (i : Nat) : w.frozen? ⟨br,i,none⟩ = false:=(ld k H hk).2 i
theorem LA {bs : Nat} {v : Value} {j j' : JobM} {k : Nat} {a : Value} (h : ∀i,i < 78 -> yH bs v j' i = if i = k then a else yH bs v j i) : (A9 bs v j).setIfInBounds k a = A9 bs v j':=by
 refine Array.ext_getElem? fun i=>?_
 rw [Array.getElem?_setIfInBounds]
 have hsz : (A9 bs v j).size = 78:=by simp [A9]
 by_cases hi : i < 78
 ·rw [DA _ _ _ hi,DA _ _ _ hi,h i hi,hsz]
  by_cases e : k = i
  ·subst e; simp [hi]
  ·have : ¬i = k:=fun h=>e h.symm
   simp [e,this]
 ·have n1 : (A9 bs v j)[i]? = none:=Array.getElem?_eq_none (by rw [hsz]; omega)
  have n2 : (A9 bs v j')[i]? = none:=Array.getElem?_eq_none (by simp [A9]; omega)
  rw [n1,n2,hsz]
  by_cases e : k = i
  ·subst e; simp [hi]
  ·simp [e]
theorem yZ {w : World} {L : List SL.HP} {bs br : Nat} {v : Value} {j j' : JobM} {i : Nat} {a : Value} (k : Nat) (H : own w L) (hk : L[k]? = some (lB bs br v j)) (h : ∀q,q < 78 -> yH bs v j' q = if q = i then a else yH bs v j q) :
  own (w.setCell ⟨br,i,none⟩ a) (L.set k (lB bs br v j')):=by
 have h1:=lg (i:=i) (v:=a) k H hk
 rw [LA h] at h1
 exact h1
theorem Cv (bs : Nat) (v : Value) (j : JobM) (s : Int) : ∀q,q < 78 -> yH bs v { j with st:=s } q = if q = 74 then .int .i64 s else yH bs v j q:=by
 intro q _
 unfold yH
 by_cases h : q = 74
 ·subst h; rfl
 ·rw [zq h,zq h,zq h]; rfl
theorem IJ (bs : Nat) (v : Value) (j : JobM) (a : Nat) : ∀q,q < 78 -> yH bs v { j with at_:=a } q = if q = 73 then .int .i64 ((a : Nat) - 1 : Int) else yH bs v j q:=by
 intro q _
 unfold yH
 by_cases h : q = 73
 ·subst h; rfl
 ·rw [zq h,zq h,zq h]; rfl
theorem Q3 (bs : Nat) (v : Value) (j : JobM) (s : Int) : ∀q,q < 78 -> yH bs v { j with level:=s } q = if q = 77 then .int .i64 s else yH bs v j q:=by
 intro q _
 unfold yH
 by_cases h : q = 77
 ·subst h; rfl
 ·rw [zq h,zq h,zq h]; rfl
theorem CY (bs : Nat) (v : Value) (j : JobM) {q : Nat} (h0 : 9 <= q) (h1 : q < 73) : yH bs v j q = .bool (j.x.testBit (q - 9)):=by
 unfold yH
 rw [zq (by omega),zq (by omega),zq (by omega),zq (by omega),zq (by omega),zq (by omega),zq (by omega),zq (by omega),zq (by omega),zq (by omega),zq (by omega),zq (by omega),zq (by omega),zq (by omega)]
theorem Gn (bs : Nat) (v : Value) (j : JobM) (x : Nat) {q : Nat} (h : ¬(9 <= q /\ q < 73)) (h78 : q < 78) : yH bs v { j with x:=x } q = yH bs v j q:=by
 have : q = 0 \/ q = 1 \/ q = 2 \/ q = 3 \/ q = 4 \/ q = 5 \/ q = 6 \/ q = 7 \/ q = 8 \/ q = 73 \/ q = 74 \/ q = 75 \/ q = 76 \/ q = 77:=by omega
 rcases this with rfl | rfl | rfl | rfl | rfl | rfl | rfl | rfl | rfl | rfl | rfl | rfl | rfl | rfl <;> rfl
theorem UJ (bs : Nat) (v : Value) (j : JobM) (i : Int) (b : Bool) (hn : j.n <= 64) (hp : (og j.n j.x i b).1 = true) : ∀q,q < 78 -> yH bs v { j with x:=(og j.n j.x i b).2 } q = if q = 9 + i.toNat then .bool b else yH bs v j q:=by
 intro q hq
 have hi : 0 <= i /\ i < j.n:=by
  unfold og at hp
  split at hp
  ·rename_i h; exact ⟨h.1,h.2.1⟩
  ·cases hp
 by_cases h : 9 <= q /\ q < 73
 ·rw [CY _ _ _ h.1 h.2,CY _ _ _ h.1 h.2]
  show Value.bool ((og j.n j.x i b).2.testBit (q - 9)) = _
  rw [If (by omega) hp]
  by_cases e : q - 9 = i.toNat
  ·rw [zt e,zt (by omega)]
  ·rw [zq e,zq (by omega)]
 ·rw [Gn _ _ _ _ h hq,zq (by omega)]
theorem Es {w : World} {L : List SL.HP} {bs br : Nat} {v : Value} {j : JobM} (k : Nat) (H : own w L) (hk : L[k]? = some (lB bs br v j)) : DU w br 8 j.n j.x:=
 ⟨lq k H hk 8 (by decide),fun i hi=>by
  have:=lq k H hk (8 + 1 + i) (by omega)
  rw [CY _ _ _ (by omega) (by omega),show 8 + 1 + i - 9 = i by omega] at this
  exact this⟩
theorem NU {L : List SL.HP} {bs br : Nat} {v : Value} {j : JobM} (hn : j.n <= 64) (i : Int) (b : Bool) (k : Nat) (w : World) (H : own w L) (hk : L[k]? = some (lB bs br v j)) :
  Calls Tryz.prog 183 #[.pointer (some ⟨br,8,none⟩),.int .i64 i,.bool b] w fun e w'=>e = .returned (.bool (og j.n j.x i b).1) /\ Ext w w' /\ own w' (L.set k (lB bs br v { j with x:=(og j.n j.x i b).2 })):=by
 refine (US br 8 j.n j.x hn i b w (Es k H hk) (fun q _=>oV k H hk _)).mono ?_
 rintro e w' ⟨rfl,rfl⟩
 cases hp : (og j.n j.x i b).1
 ·rw [zq (by simp)]
  have hx : (og j.n j.x i b).2 = j.x:=by
   unfold og at hp ⊢
   split at hp
   ·cases hp
   ·rename_i h; rw [zq h]
  rw [hx]
  exact ⟨rfl,zR _,Dw H hk⟩
 ·rw [zt rfl]
  exact ⟨rfl,(zR _).setCell _ _,yZ k H hk (UJ bs v j i b hn hp)⟩
theorem EE {bs br : Nat} {v : Value} {j : JobM} (l : Int) : lB bs br v { j with level:=l } = bkB br (A9 bs v j) 149 75 l:=by
 unfold lB bkB
 rw [LA (Q3 bs v j l)]
theorem Ik (bs : Nat) (v : Value) (j : JobM) : BkAt (A9 bs v j) 75 j.rate j.burst:=
 ⟨by rw [DA _ _ _ (by decide)]; rfl,by rw [DA _ _ _ (by decide)]; rfl,by simp [A9]⟩
theorem GU (bs br : Nat) (v : Value) (j : JobM) (L : List SL.HP) (w : World) (H : own w (lB bs br v j::L)) :
  Calls Tryz.prog 184 #[.pointer (some ⟨br,0,none⟩)] w fun e w'=>e = .returned (.tuple #[]) /\ Ext w w' /\ own w' (lB bs br v (zu j)::L):=by
 have c7 : w.cell? ⟨br,74,none⟩ = some (.int .i64 j.st):=lq 0 H rfl 74 (by decide)
 have f7:=oV 0 H rfl 74
 have hs : ∀s : Int,own (w.setCell ⟨br,74,none⟩ (.int .i64 s)) (lB bs br v { j with st:=s }::L):=fun s=>yZ (i:=74) (a:=.int .i64 s) 0 H rfl (Cv bs v j s)
 have HC:=KN br 8 j.n j.x w (Es 0 H rfl)
 rw [Gd] at HC
 have HC:=zh HC
 have HS:=zh hs
 have hq:=S7 j.x
 clear hs
 unfold zu
 by_cases h1 : j.st = 1
 ·rw [h1] at c7
  by_cases h0 : cnt j.x = 0
  ·rw [zt ⟨h1,h0⟩]
   rw [h0] at HC
   clear h1 h0 hq
   go_enter Tryz.func184,Tryz.ntmps184
   go_wp2_with fail
   refine HC.out.mono ?_
   rintro e w' ⟨rfl,rfl⟩
   go_wp2_with fail
   go_end0
   exact ⟨rfl,(zR _).setCell _ _,HS.out 3⟩
  ·rw [zq (fun h=>h0 h.2),zq (by rw [h1]; intro h; exact absurd h.1 (by decide))]
   generalize cnt j.x = q at *
   have d0 : ((q : Int) == 0) = false:=by rw [zb]; omega
   clear h1 h0 hq
   go_enter Tryz.func184,Tryz.ntmps184
   go_wp2_with fail
   refine HC.out.mono ?_
   rintro e w' ⟨rfl,rfl⟩
   go_wp2_with fail
   go_end0
   exact ⟨rfl,zR _,H⟩
 ·rw [zq (fun h=>h1 h.1)]
  by_cases h3 : j.st = 3
  ·rw [h3] at c7
   by_cases h0 : 0 < cnt j.x
   ·rw [zt ⟨h3,h0⟩]
    generalize cnt j.x = q at *
    have d0 : decide (0 < (q : Int)) = true:=zg (by omega)
    clear h1 h3 hq
    go_enter Tryz.func184,Tryz.ntmps184
    go_wp2_with fail
    refine HC.out.mono ?_
    rintro e w' ⟨rfl,rfl⟩
    go_wp2_with fail
    go_end0
    exact ⟨rfl,(zR _).setCell _ _,HS.out 1⟩
   ·rw [zq (fun h=>h0 h.2)]
    generalize cnt j.x = q at *
    have d0 : decide (0 < (q : Int)) = false:=zf (by omega)
    clear h1 h3 hq
    go_enter Tryz.func184,Tryz.ntmps184
    go_wp2_with fail
    refine HC.out.mono ?_
    rintro e w' ⟨rfl,rfl⟩
    go_wp2_with fail
    go_end0
    exact ⟨rfl,zR _,H⟩
  ·rw [zq (fun h=>h3 h.1)]
   have d1 : (j.st == 1) = false:=by rw [zb]; exact h1
   have d3 : (j.st == 3) = false:=by rw [zb]; exact h3
   generalize cnt j.x = q at *
   clear h1 h3 hq
   go_enter Tryz.func184,Tryz.ntmps184
   go_wp2_with fail
   refine HC.out.mono ?_
   rintro e w' ⟨rfl,rfl⟩
   go_wp2_with fail
   go_end0
   exact ⟨rfl,zR _,H⟩
theorem QK (bs br : Nat) (v : Value) (j : JobM) (L : List SL.HP) (w : World) (H : own w (lB bs br v j::L)) :
  Calls Tryz.prog 22 #[.pointer (some ⟨br,0,none⟩)] w fun e w'=>e = .returned (.bool (decide (j.st < 4))) /\ w = w':=by
 have c7 : w.cell? ⟨br,74,none⟩ = some (.int .i64 j.st):=lq 0 H rfl 74 (by decide)
 go_enter Tryz.func22,Tryz.ntmps22
 go_wp2_with fail
 go_ret
 exact ⟨rfl,rfl⟩
theorem OF (bs br : Nat) (v : Value) (j : JobM) (hj : j.Ok) (c : Int) (L : List SL.HP) (w : World) (H : own w (lB bs br v j::L)) :
  Calls Tryz.prog 81 #[.pointer (some ⟨br,0,none⟩),.int .i64 c] w fun e w'=>e = .returned (.tuple #[]) /\ Ext w w' /\ own w' (lB bs br v (zL j c)::L):=by
 have c7 : w.cell? ⟨br,74,none⟩ = some (.int .i64 j.st):=lq 0 H rfl 74 (by decide)
 have c2 : w.cell? ⟨br,2,none⟩ = some (.int .i64 j.kind):=lq 0 H rfl 2 (by decide)
 unfold zL
 by_cases h4 : j.st < 4
 ·have d4 : decide (j.st < 4) = true:=zg h4
  by_cases h2 : j.kind = 2
  ·rw [zq (fun h=>h.2 h2)]
   rw [h2] at c2
   clear h4
   go_enter Tryz.func81,Tryz.ntmps81
   go_wp2_with fail
   go_end0
   exact ⟨rfl,zR _,H⟩
  ·rw [zt ⟨h4,h2⟩]
   have d2 : (j.kind != 2) = true:=bne_iff_ne.2 h2
   have HP:=zh (NU (v:=v) (bs:=bs) (br:=br) (j:=j) hj.n c true 0 w H rfl)
   have HT:=zh (fun w' h=>GU bs br v { j with x:=(og j.n j.x c true).2 } L w' h)
   clear h4 h2
   go_enter Tryz.func81,Tryz.ntmps81
   go_wp2_with fail
   refine HP.out.mono ?_
   rintro e w2 ⟨rfl,hx2,h2'⟩
   go_wp2_with fail
   refine (HT.out w2 h2').mono ?_
   rintro e w3 ⟨rfl,hx3,h4'⟩
   go_wp2_with fail
   go_end0
   exact ⟨rfl,hx2.trans hx3,h4'⟩
 ·rw [zq (fun h=>h4 h.1)]
  have d4 : decide (j.st < 4) = false:=zf h4
  clear h4
  go_enter Tryz.func81,Tryz.ntmps81
  go_wp2_with fail
  go_end0
  exact ⟨rfl,zR _,H⟩
theorem Jl (bs br : Nat) (v : Value) (j : JobM) (on : Bool) (L : List SL.HP) (w : World) (H : own w (lB bs br v j::L)) :
  Calls Tryz.prog 82 #[.pointer (some ⟨br,0,none⟩),.bool on] w fun e w'=>e = .returned (.int .i64 (yU j on).1) /\ Ext w w' /\ own w' (lB bs br v (yU j on).2::L):=by
 have c7 : w.cell? ⟨br,74,none⟩ = some (.int .i64 j.st):=lq 0 H rfl 74 (by decide)
 have f7:=oV 0 H rfl 74
 have hs : ∀s : Int,own (w.setCell ⟨br,74,none⟩ (.int .i64 s)) (lB bs br v { j with st:=s }::L):=fun s=>yZ (i:=74) (a:=.int .i64 s) 0 H rfl (Cv bs v j s)
 have H1:=hs 1
 have H2:=hs 2
 have HT:=zh (fun w' h=>GU bs br v { j with st:=1 } L w' h)
 clear hs
 unfold yU
 cases on
 ·rw [zq (by decide)]
  by_cases h2 : j.st = 2
  ·rw [zt h2]
   rw [h2] at c7
   clear h2
   go_enter Tryz.func82,Tryz.ntmps82
   go_wp2_with fail
   refine (HT.out _ H1).mono ?_
   rintro e w' ⟨rfl,hx,h⟩
   go_wp2_with fail
   go_ret
   exact ⟨rfl,((zR _).setCell _ _).trans hx,h⟩
  ·rw [zq h2]
   have d2 : (j.st == 2) = false:=by rw [zb]; exact h2
   clear h2
   go_enter Tryz.func82,Tryz.ntmps82
   go_wp2_with fail
   go_ret
   exact ⟨rfl,zR _,H⟩
 ·rw [zt rfl]
  by_cases h1 : j.st = 1
  ·rw [zt (.inl h1)]
   rw [h1] at c7
   clear h1
   go_enter Tryz.func82,Tryz.ntmps82
   go_wp2_with fail
   go_ret
   exact ⟨rfl,(zR _).setCell _ _,H2⟩
  ·have d1 : (j.st == 1) = false:=by rw [zb]; exact h1
   by_cases h3 : j.st = 3
   ·rw [zt (.inr h3)]
    rw [h3] at c7 d1
    clear h1 h3
    go_enter Tryz.func82,Tryz.ntmps82
    go_wp2_with fail
    go_ret
    exact ⟨rfl,(zR _).setCell _ _,H2⟩
   ·rw [zq (by rintro (h | h); exact h1 h; exact h3 h)]
    have d3 : (j.st == 3) = false:=by rw [zb]; exact h3
    clear h1 h3
    go_enter Tryz.func82,Tryz.ntmps82
    go_wp2_with fail
    go_ret
    exact ⟨rfl,zR _,H⟩
theorem Ja (bs : Nat) (A : Nat -> Nat×Nat) (F : ShM) (hF : ShOk F) (br : Nat) (v : Value) (j : JobM) (hj : j.Ok) (hl : ∀x∈j.list,ly F x) (c : Int) (R : List SL.HP) (w : World)
  (hv : ∀w' L,own w' (L++R) -> lS w' v j.list) (H : own w (rshL bs A F++(lB bs br v j::R))) :
  Calls Tryz.prog 78 #[.pointer (some ⟨br,0,none⟩),.int .i64 c] w fun e w'=>e = .returned (.bool (ya F j c)) /\ ∃n,w' = w.drewN n:=by
 have c2 : w.cell? ⟨br,2,none⟩ = some (.int .i64 j.kind):=lq 6 H rfl 2 (by decide)
 unfold ya
 by_cases h1 : j.kind = 1
 ·rw [zt h1]
  rw [h1] at c2
  go_enter Tryz.func78,Tryz.ntmps78
  go_wp2_with fail
  go_ret
  exact ⟨rfl,0,rfl⟩
 ·rw [zq h1]
  have hvw:=yO hv [lB bs br v j]
  obtain ⟨ao,lb,off,cap,rfl,hlc,hcap,hao,-⟩:=(hvw w _ H).form
  have hd : j.deep <= j.list.length:=hj.deep
  have hf : ∀w',own w' (rshL bs A F++(lB bs br (.slice ao j.list.length cap) j::R)) -> Calls Tryz.prog 178 #[.pointer (some ⟨bs,0,none⟩),.slice ao j.deep cap,.int .i64 c] w' fun e w''=>e = .returned (.int .i64 (yw F (j.list.take j.deep) c)) /\ ∃n,w'' = w'.drewN n:=fun w' h=>
   KQ bs A F hF _ _ (fun x hx=>hl x (List.mem_of_mem_take hx)) (by rw [List.length_take]; have:=hj.len; omega) c _ w' ((hvw w' _ h).take _ hd) h
  have c0 : w.cell? ⟨br,0,none⟩ = some (.pointer (some ⟨bs,0,none⟩)):=lq 6 H rfl 0 (by decide)
  have c6 : w.cell? ⟨br,6,none⟩ = some (.slice ao j.list.length cap):=lq 6 H rfl 6 (by decide)
  have c7 : w.cell? ⟨br,7,none⟩ = some (.int .i64 (j.deep : Nat)):=by
   have : w.cell? ⟨br,7,none⟩ = some (.int .i64 (GG j : Nat)):=lq 6 H rfl 7 (by decide)
   rw [this]; unfold GG; rw [zq h1]
  have i1 : (0 : Int) <= (j.deep : Int):=by omega
  have i2 : (j.deep : Int) <= (cap : Int):=by omega
  have hk : j.kind = 2 \/ j.kind = 3:=by have:=hj.kind; omega
  have HF:=zh hf
  have HOW:=zh H
  generalize yw F (j.list.take j.deep) c = fi at *
  generalize j.deep = dp at *
  clear hf hl hv hvw hao H hd hlc
  have hkk : ∀n,(w.drewN n).cell? ⟨br,2,none⟩ = some (.int .i64 j.kind):=fun n=>c2
  clear h1
  generalize j.kind = kd at *
  rcases hk with rfl | rfl
  all_goals
   first
   | rw [zt rfl]
   | rw [zq (by decide)]
   go_enter Tryz.func78,Tryz.ntmps78
   go_upto_region 3 with (fail)
   go_quiet ((go_at_call 178; exact Calls.quiet_of (HF.out _ (by first | exact HOW.out | exact lj HOW.out | exact ll _ HOW.out))))
   have k1:=hkk nq
   clear hkk c0 c6 c7 c2
   by_cases hfi : 0 < fi
   all_goals
    go_wp2_with fail
    go_ret
    exact ⟨yi (by first | rfl | (simp; omega)),_,rfl⟩
theorem M6 (bs br : Nat) (v : Value) (j : JobM) (L : List SL.HP) (w : World) (H : own w (lB bs br v j::L)) :
  Calls Tryz.prog 20 #[.pointer (some ⟨br,0,none⟩)] w fun e w'=>e = .returned (C0 j) /\ Ext w w' /\ own w' (lB bs br v j::L):=by
 have ha:=li H (.cells #[.int .i64 0,.int .i64 0,.int .i64 0,.int .i64 0] 47)
 have hxa:=(zR w).alloc (.cells #[.int .i64 0,.int .i64 0,.int .i64 0,.int .i64 0] 47)
 have hc : ∀g w',own w' (pts g (.cells #[.int .i64 0,.int .i64 0,.int .i64 0,.int .i64 0] 47 (0,0))::(lB bs br v j::L)) -> Calls Tryz.prog 89 #[.pointer (some ⟨br,8,none⟩)] w' fun e w''=>e = .returned (.int .i64 (cnt j.x : Nat)) /\ w' = w'':=
  fun g w' h=>by have:=KN br 8 j.n j.x w' (Es 1 h rfl); rw [Gd] at this; exact this
 have HC:=zh hc
 unfold C0
 generalize cnt j.x = q at *
 clear hc H
 go_enter Tryz.func20,Tryz.ntmps20
 go_upto_region 1 with (fail)
 generalize w.heap.size = g at *
 generalize w.alloc (.cells #[.int .i64 0,.int .i64 0,.int .i64 0,.int .i64 0] 47) = w1 at *
 have c2 : w1.cell? ⟨br,2,none⟩ = some (.int .i64 j.kind):=lq 1 ha rfl 2 (by decide)
 have c3 : w1.cell? ⟨br,3,none⟩ = some (.int .i64 j.file):=lq 1 ha rfl 3 (by decide)
 have c7 : w1.cell? ⟨br,74,none⟩ = some (.int .i64 j.st):=lq 1 ha rfl 74 (by decide)
 have hb:=lj ha
 have hxb:=hxa.drew
 have hcq:=(HC.out _ _ hb).mono fun e w' h=>(⟨h.1,h.2.symm⟩ : e = .returned (.int .i64 (q : Int)) /\ w' = w1.drew)
 go_still_tail 19,(by kernel_rfl)
 still_call hcq
 repeat still_step
 refine wpStill_nil ?_
 change wpList _ _ _ _ _ w1.drew
 clear ha hxa c2 c3 c7 hcq
 generalize w1.drew = w2 at *
 obtain ⟨cg,fg⟩:=ld 0 hb rfl
 go_wp2_with fail
 have h5:=lg (i:=3) (v:=.int .i64 (q : Int)) 0 (lg (i:=2) (v:=.int .i64 j.st) 0 (lg (i:=1) (v:=.int .i64 j.file) 0 (lg (i:=0) (v:=.int .i64 j.kind) 0 hb rfl) rfl) rfl) rfl
 obtain ⟨c3,-⟩:=ld 0 h5 rfl
 refine bodyPost_ret (AQ rfl _ _ g j.kind j.file j.st (q : Int) rfl (c3 0) (c3 1) (c3 2) (c3 3)) rfl ?_
 exact ⟨rfl,(((hxb.setCell _ _).setCell _ _).setCell _ _).setCell _ _,le h5⟩
theorem Sp {F : ShM} {root : Int} : ∀{n : Nat} {l : List Int} {at_ : Int},(oW F root n l at_).2≠0 -> (oW F root n l at_).1 = []:=by
 intro n
 induction n with
 | zero=>intro l at_ h; exact absurd rfl h
 | succ n ih=>
  intro l at_
  rw [oW]
  split
  ·intro h; exact absurd rfl h
  ·split
   ·intro _; rfl
   ·split
    ·intro _; rfl
    ·split
     ·intro _; rfl
     ·split
      ·intro _; rfl
      ·exact ih
theorem Tm {F : ShM} {root : Int} : (lt F root).2≠0 -> (lt F root).1 = []:=Sp
theorem Iz (bs : Nat) (A : Nat -> Nat×Nat) (F : ShM) (N : Nat) (hW : ShW N F) (hN : N < 900000) (br : Nat) (v : Value) (j : JobM) (hj : j.Ok) (hS : JobS F j) (R : List SL.HP) (w : World)
  (hv : ∀w' L,own w' (L++R) -> lS w' v j.list) (H : own w (rshL bs A F++(lB bs br v j::R))) :
  Calls Tryz.prog 86 #[.pointer (some ⟨br,0,none⟩)] w fun e w'=>e = .returned (.int .i64 (lA F j).1) /\ Ext w w' /\ own w' (rshL bs A (lA F j).2.1++(lB bs br v (lA F j).2.2::R)):=by
 have hF : ShOk F:=hW.sh hN
 have c7 : w.cell? ⟨br,74,none⟩ = some (.int .i64 j.st):=lq 6 H rfl 74 (by decide)
 unfold lA
 by_cases h3 : j.st = 3
 ·rw [zq (fun h=>h h3)]
  rw [h3] at c7
  clear h3
  by_cases h2 : j.kind = 2
  ·rw [zt h2]
   have c1 : w.cell? ⟨br,2,none⟩ = some (.int .i64 j.kind):=lq 6 H rfl 2 (by decide)
   rw [h2] at c1
   have hvw:=yO hv [lB bs br v j]
   obtain ⟨ao,lb,off,cap,rfl,hlc,hcap,hao,-⟩:=(hvw w _ H).form
   obtain rfl:=hao (by have:=hj.pos; omega)
   have hpos : 0 < j.list.length:=by have:=hj.pos; omega
   have l0 : (0 : Int) < (j.list.length : Int):=by omega
   obtain ⟨k,m,hxk,hk,hFk⟩:=lT (hS.list _ (mem0 hj.pos))
   have c0 : w.cell? ⟨br,0,none⟩ = some (.pointer (some ⟨bs,0,none⟩)):=lq 6 H rfl 0 (by decide)
   have c2 : w.cell? ⟨br,3,none⟩ = some (.int .i64 j.file):=lq 6 H rfl 3 (by decide)
   have c3 : w.cell? ⟨br,6,none⟩ = some (.slice (some ⟨lb,off,none⟩) j.list.length cap):=lq 6 H rfl 6 (by decide)
   have c9 : w.cell? ⟨lb,off,none⟩ = some (.int .i64 (k : Int)):=by rw [<- hxk]; exact oq (hvw _ _ H) hpos
   have g1:=yo H hk
   rw [oT hFk] at g1
   have i1 : (0 : Int) <= (k : Int):=by omega
   have i2 : (k : Int) < 5:=by omega
   have HL:=zh (fun w' h=>QE (b:=bs) (A:=A) hk hFk hF j.file (lB bs br (.slice (some ⟨lb,off,none⟩) j.list.length cap) j::R) w' h)
   have hc:=GB F k j.file
   rw [hxk,zn]
   rw [show Bs F k j.file = ((m.link j.file).1,put F k (m.link j.file).2) by unfold Bs; rw [hFk]] at hc ⊢
   dsimp only at hc ⊢
   generalize put F k (m.link j.file).2 = F' at *
   generalize (m.link j.file).1 = lc at *
   clear hv hvw hao hlc hxk h2 hFk
   by_cases hlz : lc = 0
   ·subst hlz
    rw [zq (show ¬((0 : Int)≠0) by decide)]
    go_enter Tryz.func86,Tryz.ntmps86
    go_upto_region 4 with (fail)
    go_still_tail 18,(by kernel_rfl)
    change wpList _ _ _ _ _ w.drew
    go_wp2_with fail
    refine (HL.out _ (lj H)).mono ?_
    rintro e w2 ⟨rfl,hx2,h2'⟩
    go_wp2_with fail
    go_ret
    exact ⟨rfl,(zR w).drew.trans hx2,h2'⟩
   ·have hp : 0 < lc:=by omega
    rw [zt (show lc≠0 from hlz)]
    clear hlz
    go_enter Tryz.func86,Tryz.ntmps86
    go_upto_region 4 with (fail)
    go_still_tail 18,(by kernel_rfl)
    change wpList _ _ _ _ _ w.drew
    go_wp2_with fail
    refine (HL.out _ (lj H)).mono ?_
    rintro e w2 ⟨rfl,hx2,h2'⟩
    clear c0 c1 c2 c3 c9 g1 c7
    have c7 : w2.cell? ⟨br,74,none⟩ = some (.int .i64 j.st):=lq 6 h2' rfl 74 (by decide)
    have f7:=oV 6 h2' rfl 74
    have h6 : own (w2.setCell ⟨br,74,none⟩ (.int .i64 5)) (rshL bs A F'++(lB bs br (.slice (some ⟨lb,off,none⟩) j.list.length cap) { j with st:=5 }::R)):=yZ (i:=74) (a:=.int .i64 5) 6 h2' rfl (Cv bs _ j 5)
    go_wp2_with fail
    go_ret
    exact ⟨rfl,((zR w).drew.trans hx2).setCell _ _,h6⟩
  ·rw [zq h2]
   have d2 : (j.kind == 2) = false:=by rw [zb]; exact h2
   have c1 : w.cell? ⟨br,2,none⟩ = some (.int .i64 j.kind):=lq 6 H rfl 2 (by decide)
   have hwk:=fun w' h=>Ea bs A F hF j.file (lB bs br v j::R) w' h
   have hfl:=Ak F j.file
   have hwc : 0 <= (lt F j.file).2:=zv
   have hnil : (lt F j.file).2≠0 -> (lt F j.file).1 = []:=Tm
   have HWK:=zh hwk
   unfold zO at HWK
   generalize lt F j.file = S at *
   obtain ⟨l,wc⟩:=S
   dsimp only at hfl hwc HWK hnil ⊢
   have HFL:=zh hfl
   have HSW:=zh hW
   have HN:=zh hN
   clear hwk h2 hfl hF hW hN hv
   generalize hres : yh F l = res
   have HRES:=zh hres
   have hfin : (if wc≠0 then (wc,F,j) else (0,res,j)) = (wc,res,j):=by
    split
    ·rename_i h
     rw [hnil h] at hres
     rw [show res = F from hres.symm]
    ·rename_i h
     rw [show wc = 0 by omega]
   rw [hfin]
   dsimp only
   clear hres hfin hnil
   go_enter Tryz.func86,Tryz.ntmps86
   go_upto_region 8 with (fail)
   have hd:=lj H
   have hxd:=(zR w).drew
   go_region_held3 (fun w'=>w'.cell? ⟨br,0,none⟩ = some (.pointer (some ⟨bs,0,none⟩)) /\ w'.cell? ⟨br,3,none⟩ = some (.int .i64 j.file)) (first | exact ⟨lq 6 hd rfl 0 (by decide),lq 6 hd rfl 3 (by decide)⟩ | exact ⟨lq 7 h4 rfl 0 (by decide),lq 7 h4 rfl 3 (by decide)⟩) ((go_at_call 77; refine (HWK.out _ hd).mono ?_; rintro e w4 ⟨vl,rfl,hx4,h4⟩))
   have hx5:=hxd.trans hx4
   clear hd hxd hx4 c1 c7 d2 H
   have hil:=l9 0 h4 rfl
   obtain ⟨ao,lb,off,cap,rfl,hlc,hcap,hao,-⟩:=hil.form
   have HAO:=zh hao
   clear hao hil
   go_wp2_with fail
   go_loopw [6] (fun i wr=>∃(q : Nat) (F' : ShM),q <= l.length /\ i = .int .i64 q /\ yh F' (l.drop q) = res /\ ShW N F' /\ (∀x∈l,ly F' x) /\ Ext w wr /\ own wr (row 3 1 (.slice ao l.length cap) l.length (lo l)::(rshL bs A F'++(lB bs br v j::R)))) (fun i _=>l.length - (intOf i).toNat)
   case atStart=>exact ⟨0,F,Nat.zero_le _,rfl,HRES.out,HSW.out,HFL.out,hx5,h4⟩
   case round=>
    obtain ⟨q,F',hq,rfl,hgo,hW',hl',hxr,hown⟩:=hrel
    by_cases hlt : q < l.length
    ·obtain rfl:=HAO.out (by omega)
     rw [zY 0 hlt] at hgo
     obtain ⟨k,m,hxk,hk,hFk⟩:=lT (hl' (l.getD q 0) (by simp [hlt]))
     have hgo' : yh (put F' k m.flush) (l.drop (q + 1)) = res:=by
      rw [<- hgo]
      show _ = yh (AV F' (l.getD q 0).toNat) _
      rw [hxk,zn]
      unfold AV
      rw [hFk]
     have hd:=lj hown
     have hxd:=hxr.drew
     have i1 : (0 : Int) <= (k : Int):=by omega
     have i2 : (k : Int) < 5:=by omega
     have j1 : (0 : Int) <= (q : Int):=by omega
     have j2 : (q : Int) < (l.length : Int):=by omega
     have HFU:=zh (fun wz=>Jm (b:=bs) (A:=A) hk hFk (hW'.sh HN.out) (lB bs br v j::(row 3 1 (.slice (some ⟨lb,off,none⟩) l.length cap) l.length (lo l)::R)) wz)
     have HW2:=zh (I6 hW' hk hFk (Df (hW'.ok k m hk hFk)))
     have HL2:=zh (fun x hx=>J7 (k:=k) (m':=m.flush) (hl' x hx))
     have HGO:=zh hgo'
     have HX:=zh hxk
     have HFK:=zh hFk
     have hz : own wr.drew (rshL bs A F'++(lB bs br v j::(row 3 1 (.slice (some ⟨lb,off,none⟩) l.length cap) l.length (lo l)::R))):=by
      have:=lr (rshL bs A F'++[lB bs br v j]) (by simpa [zp] using hd); simpa [zp] using this
     have g0 : wr.cell? ⟨lb,off + q,none⟩ = some (.int .i64 (k : Int)):=by rw [<- hxk]; exact oq (l9 0 hown rfl) hlt
     have c0 : wr.cell? ⟨br,0,none⟩ = some (.pointer (some ⟨bs,0,none⟩)):=lq 7 hown rfl 0 (by decide)
     have g1:=yo (le hown) hk
     rw [oT hFk] at g1
     clear hgo hgo' hxk hW' hl' hown hFk hd
     go_upto_region 12 with (fail)
     go_still_tail 11,(by kernel_rfl)
     change wpList _ _ _ _ _ wr.drew
     go_wp2_with fail
     refine (HFU.out _ hz).mono ?_
     rintro e w6 ⟨rfl,hx6,h6⟩
     go_wp2_with fail
     go_roundw
     case rel=>exact ⟨q + 1,_,by omega,by go_num,HGO.out,HW2.out,HL2.out,hxd.trans hx6,lu 7 h6 rfl⟩
     case measure=>simp [intOf]; omega
    ·obtain rfl : l.length = q:=by omega
     rw [List.drop_of_length_le (Nat.le_refl _)] at hgo
     have hgo' : res = F':=hgo.symm
     subst hgo'
     go_wp2_with fail
     go_ret
     exact ⟨rfl,hxr,le hown⟩
 ·rw [zt h3]
  have d3 : (j.st != 3) = true:=bne_iff_ne.2 h3
  clear h3
  go_enter Tryz.func86,Tryz.ntmps86
  go_wp2_with fail
  go_ret
  exact ⟨rfl,zR _,H⟩
def zX (f : Int) : Nat -> List Int -> Int
 | _,[]=>-1
 | i,x::l=>if x = f then (i : Int) else zX f (i + 1) l
def Ab (l : List Int) (f : Int) : Int:=zX f 0 l
theorem Mx {f : Int} : ∀{l : List Int} {i : Nat},zX f i l = -1 \/ ((i : Int) <= zX f i l /\ zX f i l < (i : Int) + l.length):=by
 intro l
 induction l with
 | nil=>intro i; exact .inl rfl
 | cons x l ih=>
  intro i
  rw [zX]
  split
  ·right; simp only [List.length_cons]; omega
  ·rcases ih (i:=i + 1) with h | h
   ·exact .inl h
   ·right; simp only [List.length_cons]; omega
def bkOf (F : ShM) (x : Int) : Int:=match F x.toNat with
 | some m=>m.b
 | none=>-1
def Ch (F : ShM) : List Int -> Int -> Prop
 | [],_=>True
 | x::l,e=>bkOf F x = l.headD e /\ Ch F l e
theorem Ch.snoc {F : ShM} {x : Int} : ∀{l : List Int},Ch F l x -> Ch F (l++[x]) (bkOf F x):=by
 intro l
 induction l with
 | nil=>intro _; exact ⟨rfl,trivial⟩
 | cons y l ih=>
  intro h
  refine ⟨?_,ih h.2⟩
  have h1:=h.1
  cases l with
  | nil=>exact h1
  | cons z l=>exact h1
theorem Ch.same {F : ShM} : ∀{l l' : List Int} {x : Int},(∀y∈l,0 <= y) -> (∀y∈l',0 <= y) -> Ch F (x::l) (-1) -> Ch F (x::l') (-1) -> l = l':=by
 intro l
 induction l with
 | nil=>
  intro l' x _ h' h1 h2
  cases l' with
  | nil=>rfl
  | cons z l'=>
   have a:=h1.1
   have b:=h2.1
   have c:=h' z List.mem_cons_self
   simp only [List.headD] at a b
   omega
 | cons y l ih=>
  intro l' x h h' h1 h2
  cases l' with
  | nil=>
   have a:=h1.1
   have b:=h2.1
   have c:=h y List.mem_cons_self
   simp only [List.headD] at a b
   omega
  | cons z l'=>
   have a:=h1.1
   have b:=h2.1
   simp only [List.headD] at a b
   have e : y = z:=by omega
   subst e
   rw [ih (fun q hq=>h q (List.mem_cons_of_mem _ hq)) (fun q hq=>h' q (List.mem_cons_of_mem _ hq)) h1.2 h2.2]
theorem Ch.tail {F : ShM} {e : Int} : ∀{p l : List Int},Ch F (p++l) e -> Ch F l e:=by
 intro p
 induction p with
 | nil=>intro l h; exact h
 | cons y p ih=>intro l h; exact ih h.2
theorem Ch.nodup {F : ShM} : ∀{l : List Int},(∀y∈l,0 <= y) -> Ch F l (-1) -> l.Nodup:=by
 intro l
 induction l with
 | nil=>intro _ _; exact List.nodup_nil
 | cons x l ih=>
  intro h hc
  refine List.nodup_cons.2 ⟨fun hx=>?_,ih (fun q hq=>h q (List.mem_cons_of_mem _ hq)) hc.2⟩
  obtain ⟨p,q,hpq⟩:=List.append_of_mem hx
  have h2 : Ch F (x::q) (-1):=Ch.tail (p:=p) (by rw [<- hpq]; exact hc.2)
  have hs:=Ch.same (fun y hy=>h y (List.mem_cons_of_mem _ hy)) (fun y hy=>h y (List.mem_cons_of_mem _ (by rw [hpq]; exact List.mem_append.2 (.inr (List.mem_cons_of_mem _ hy))))) hc h2
  have:=congrArg List.length hpq
  rw [hs] at this
  simp at this
  omega
theorem S4 {F : ShM} {root : Int} : ∀{n : Nat} {l : List Int} {at_ : Int},n + l.length = 6 -> l.length <= 5 -> Ch F l at_ -> (∀y∈l,0 <= y) -> (oW F root n l at_).2 = 0 -> (oW F root n l at_).1.Nodup:=by
 intro n
 induction n with
 | zero=>
  intro l at_ hn h5
  omega
 | succ n ih=>
  intro l at_ hn h5 hc hl
  rw [oW]
  split
  ·rename_i h1
   intro _
   rw [h1] at hc
   exact Ch.nodup hl hc
  ·split
   ·intro h; exact absurd h (by decide)
   ·split
    ·intro h; exact absurd h (by decide)
    ·rename_i h2 m hm
     split
     ·intro h; exact absurd h (by decide)
     ·split
      ·intro h; exact absurd h (by decide)
      ·rename_i h6 h7
       refine ih (by simp; omega) (by simp; omega) ?_ ?_
       ·have:=Ch.snoc hc
        rw [show bkOf F at_ = m.b by unfold bkOf; rw [hm]] at this
        exact this
       ·intro y hy
        rcases List.mem_append.1 hy with h | h
        ·exact hl y h
        ·rw [List.mem_singleton.1 h]; omega
theorem GJ {F : ShM} {root : Int} (h : (lt F root).2 = 0) : (lt F root).1.Nodup:=S4 rfl (by decide) trivial (fun y hy=>by cases hy) h
theorem Oa {f : Int} : ∀{l : List Int} {i : Nat},f∉l -> zX f i l = -1:=by
 intro l
 induction l with
 | nil=>intro i _; rfl
 | cons x l ih=>
  intro i h
  rw [zX,zq (fun e=>h (by rw [e]; exact List.mem_cons_self)),ih (fun hm=>h (List.mem_cons_of_mem _ hm))]
def ES (f : Int) : Nat -> List Int -> Int -> Int
 | _,[],a=>a
 | i,x::l,a=>ES f (i + 1) l (if x = f then (i : Int) else a)
theorem Pe {f : Int} : ∀{l : List Int} {i : Nat} {a : Int},f∉l -> ES f i l a = a:=by
 intro l
 induction l with
 | nil=>intro i a _; rfl
 | cons x l ih=>
  intro i a h
  rw [ES,zq (fun e=>h (by rw [e]; exact List.mem_cons_self)),ih (fun hm=>h (List.mem_cons_of_mem _ hm))]
theorem Se {f : Int} : ∀{l : List Int} {i : Nat},l.Nodup -> ES f i l (-1) = zX f i l:=by
 intro l
 induction l with
 | nil=>intro i _; rfl
 | cons x l ih=>
  intro i h
  rw [ES,zX]
  by_cases e : x = f
  ·rw [zt e,zt e]
   exact Pe (by rw [<- e]; exact (List.nodup_cons.1 h).1)
  ·rw [zq e,zq e]
   exact ih (List.nodup_cons.1 h).2
theorem LM (v : Value) (l : List Int) (f : Int) (hl5 : l.length <= 5) (w : World) (hv : lS w v l) :
  Calls Tryz.prog 73 #[v,.int .i64 f] w fun e w'=>e = .returned (.int .i64 (Ab l f)) /\ w = w':=by
 obtain ⟨ao,lb,off,cap,rfl,hlc,hcap,hao,hat⟩:=hv.form
 generalize hres : Ab l f = res
 unfold Ab at hres
 have HRES:=zh hres
 have HAO:=zh hao
 have HAT:=zh hat
 clear hres hao hat hv
 go_enter Tryz.func73,Tryz.ntmps73
 go_wp2_with fail
 go_loop [9] (fun i=>∃q : Nat,q <= l.length /\ i = .int .i64 q /\ zX f q (l.drop q) = res) (fun i=>l.length - (intOf i).toNat)
 case atStart=>exact ⟨0,Nat.zero_le _,rfl,HRES.out⟩
 case round=>
  obtain ⟨q,hq,rfl,hgo⟩:=hrel
  by_cases hlt : q < l.length
  ·obtain rfl:=HAO.out (by omega)
   have c1:=HAT.out q hlt
   rw [zY 0 hlt,zX] at hgo
   have j1 : (0 : Int) <= (q : Int):=by omega
   have j2 : (q : Int) < (l.length : Int):=by omega
   generalize l.getD q 0 = x at *
   by_cases hx : x = f
   ·subst hx
    rw [zt rfl] at hgo
    subst hgo
    go_wp2_with fail
    go_ret
    exact ⟨rfl,rfl⟩
   ·rw [zq hx] at hgo
    have HGO:=zh hgo
    have d0 : (x == f) = false:=by rw [zb]; exact hx
    clear hgo hx
    go_wp2_with fail
    go_round
    case rel=>exact ⟨q + 1,by omega,by go_num,HGO.out⟩
    case measure=>simp [intOf]; omega
  ·obtain rfl : l.length = q:=by omega
   rw [List.drop_of_length_le (Nat.le_refl _)] at hgo
   have hgo' : res = -1:=hgo.symm
   subst hgo'
   clear hgo
   go_wp2_with fail
   go_ret
   exact ⟨rfl,rfl⟩
def oY (F : ShM) (j : JobM) : Nat -> Nat
  | 0=>0
  | c + 1=>(og j.n (oY F j c) (c : Int) (ya F j (c : Int))).2
theorem J2 (F : ShM) (j : JobM) (hn : j.n <= 64) : ∀c,oY F j c < 2 ^ j.n
  | 0=>Nat.two_pow_pos _
  | c + 1=>F5 hn (J2 F j hn c) _ _
theorem M7 (F : ShM) (j : JobM) (hn : j.n <= 64) : ∀c q,c <= q -> q < 64 -> (oY F j c).testBit q = false
  | 0,q,_,_=>by simp [oY]
  | c + 1,q,h,h64=>by
    have ih:=M7 F j hn c q (by omega) h64
    rw [oY]
    cases hp : (og j.n (oY F j c) (c : Int) (ya F j (c : Int))).1
    · have : (og j.n (oY F j c) (c : Int) (ya F j (c : Int))).2 = oY F j c:=by
        unfold og at hp ⊢
        split at hp
        · cases hp
        · rename_i h; rw [zq h]
      rw [this]
      exact ih
    · rw [If h64 hp,zq (by omega)]
      exact ih
theorem UD (F : ShM) (j : JobM) (hn : j.n <= 64) {c : Nat} (hc : c < j.n) : ∀q,q < 64 -> (oY F j (c + 1)).testBit q = if q = c then ya F j (c : Int) else (oY F j c).testBit q:=by
  intro q hq
  rw [oY]
  have h0:=M7 F j hn c c (Nat.le_refl _) (by omega)
  cases hp : (og j.n (oY F j c) (c : Int) (ya F j (c : Int))).1
  · unfold og at hp ⊢
    split at hp
    · cases hp
    · rename_i h
      rw [zq h]
      by_cases e : q = c
      · subst e
        rw [zt rfl,h0]
        cases hw : ya F j (q : Int)
        · rfl
        · exfalso
          apply h
          refine ⟨by omega,by omega,?_⟩
          rw [zn,h0,hw]
          decide
      · rw [zq e]
  · rw [If hq hp,zn]
def FY (F : ShM) (x : Int) : Bool:=decide (0 <= x) && decide (x < 5) && (F x.toNat).isSome
theorem CB {F : ShM} {x : Int} : FY F x = true↔ly F x:=by
  unfold FY ly
  simp only [Bool.and_eq_true,decide_eq_true_eq,Option.isSome_iff_exists,and_assoc]
def jNew (F : ShM) (root kind file rate burst : Int) (l : List Int) (deep : Nat) : JobM:=
  { root:=root,kind:=kind,file:=file,rate:=rate,burst:=burst,list:=l,deep:=deep,n:=(clus F root).toNat,x:=0,at_:=0,st:=2,level:=burst }
def Ah (F : ShM) (j : JobM) : JobM:={ j with x:=oY F j j.n }
def newM (F : ShM) (root kind file rate burst : Int) : Option JobM×Int:=
  if (lt F root).2≠0 then (none,(lt F root).2)
  else if (lt F root).1.length = 0 then (none,4)
  else if Bq rate burst = false then (none,1)
  else if kind = 1 then
    (if FY F file = false then (none,4)
     else if 0 <= Ab (lt F root).1 file \/ bkOf F file≠-1 \/ clus F file≠clus F root then (none,2)
     else (some (Ah F (jNew F root kind file rate burst (lt F root).1 0)),0))
  else if kind = 2 /\ file = -1 then (some (Ah F (jNew F root kind file rate burst (lt F root).1 (lt F root).1.length)),0)
  else if kind = 2 \/ kind = 3 then
    (if Ab (lt F root).1 file < 1 then (none,4) else (some (Ah F (jNew F root kind file rate burst (lt F root).1 (Ab (lt F root).1 file).toNat)),0))
  else (none,1)
theorem Om {F : ShM} {root : Int} : ∀{n : Nat} {l : List Int} {at_ : Int},(∀y,l.head? = some y -> y = root) -> (l = [] -> at_ = root) -> ∀y,(oW F root n l at_).1.head? = some y -> y = root:=by
  intro n
  induction n with
  | zero=>intro l at_ h _; exact h
  | succ n ih=>
    intro l at_ h h2
    rw [oW]
    split
    · exact h
    · split
      · intro y hy; cases hy
      · split
        · intro y hy; cases hy
        · split
          · intro y hy; cases hy
          · split
            · intro y hy; cases hy
            · refine ih ?_ (by simp)
              intro y hy
              cases l with
              | nil=>simp at hy; rw [<- hy]; exact h2 rfl
              | cons z l=>exact h y (by simpa using hy)
theorem FA {F : ShM} {root : Int} (h : (lt F root).1.length≠0) : ly F root:=by
  have h1:=Om (F:=F) (root:=root) (n:=6) (l:=[]) (at_:=root) (fun y hy=>by cases hy) (fun _=>rfl)
  have h2:=Ak F root
  cases hw : (lt F root).1 with
  | nil=>rw [hw] at h; exact absurd rfl h
  | cons z l=>
    have e : z = root:=h1 z (by show (lt F root).1.head? = _; rw [hw]; rfl)
    rw [<- e]
    exact h2 z (by rw [hw]; exact List.mem_cons_self)
theorem zI {F : ShM} (hF : ShOk F) {x : Int} (h : ly F x) : 1 <= clus F x /\ clus F x <= 32:=by
  obtain ⟨k,m,rfl,hk,hm⟩:=lT h
  rw [yr hm]
  have:=(hF.ok k m hk hm).head
  unfold lF at this
  omega
theorem Lx {r u : Int} : Bq r u = true↔0 <= r /\ r <= 1000 /\ 0 <= u /\ u <= 1000:=by unfold Bq; simp
theorem ED {F : ShM} (hF : ShOk F) {root kind file rate burst : Int} {deep : Nat} (hr : ly F root) (hl5 : (lt F root).1.length <= 5) (h0 : (lt F root).1.length≠0) (ho : Bq rate burst = true) (hk : kind = 1 \/ kind = 2 \/ kind = 3) (hd : deep <= (lt F root).1.length) :
    (Ah F (jNew F root kind file rate burst (lt F root).1 deep)).Ok:=by
  have hc:=zI hF hr
  obtain ⟨a,b,c,d⟩:=Lx.1 ho
  have hn : (jNew F root kind file rate burst (lt F root).1 deep).n <= 64:=by show (clus F root).toNat <= 64; omega
  exact ⟨hk,hn,J2 F _ hn _,hl5,h0,hd,⟨a,b⟩,⟨c,d⟩,⟨c,Int.le_refl _⟩,Nat.zero_le _,(⟨by decide,by decide⟩ : (1 : Int) <= 2 /\ (2 : Int) <= 5)⟩
theorem DY (l : List Int) (f : Int) : Ab l f = -1 \/ (0 <= Ab l f /\ Ab l f < l.length):=by
  have:=Mx (f:=f) (l:=l) (i:=0)
  unfold Ab
  omega
theorem O3 {f : Int} : ∀{l : List Int} {i : Nat},0 <= zX f i l -> f∈l:=by
  intro l
  induction l with
  | nil=>intro i h; exact absurd (show (0 : Int) <= -1 from h) (by decide)
  | cons x l ih=>
    intro i h
    rw [zX] at h
    split at h
    · rename_i e; rw [e]; exact List.mem_cons_self
    · exact List.mem_cons_of_mem _ (ih h)
theorem Ft {F : ShM} (hF : ShOk F) {root kind file rate burst : Int} (hl5 : (lt F root).1.length <= 5) {j : JobM} (h : (newM F root kind file rate burst).1 = some j) : j.Ok /\ JobS F j:=by
  unfold newM at h
  split at h
  · cases h
  · split at h
    · cases h
    · rename_i h0
      split at h
      · cases h
      · rename_i ho
        have ho : Bq rate burst = true:=by simpa using ho
        have hr:=FA h0
        have hf:=Ak F root
        split at h
        · rename_i hk
          split at h
          · cases h
          · rename_i hfi
            split at h
            · cases h
            · cases h
              exact ⟨ED hF hr hl5 h0 ho (.inl hk) (Nat.zero_le _),hf,fun _=>(CB.1 (by simpa using hfi) : ly F file)⟩
        · split at h
          · rename_i hk
            cases h
            exact ⟨ED hF hr hl5 h0 ho (.inr (.inl hk.1)) (Nat.le_refl _),hf,fun h2=>absurd hk.1 h2⟩
          · split at h
            · rename_i hk
              split at h
              · cases h
              · rename_i hp
                cases h
                have hpr:=DY (lt F root).1 file
                exact ⟨ED hF hr hl5 h0 ho (.inr hk) (by omega),hf,fun _=>(hf _ (O3 (i:=0) (by show 0 <= Ab (lt F root).1 file; omega)) : ly F file)⟩
            · cases h
theorem Qa (bs : Nat) (A : Nat -> Nat×Nat) (F : ShM) (hF : ShOk F) (br : Nat) (v : Value) (j : JobM) (hj : j.Ok) (hS : JobS F j) (R : List SL.HP) (w : World)
  (hv : ∀w' L,own w' (L++R) -> lS w' v j.list) (H : own w (rshL bs A F++(lB bs br v j::R))) :
  Calls Tryz.prog 79 #[.pointer (some ⟨br,0,none⟩)] w fun e w'=>e = .returned (.tuple #[.bool (lZ F j).1.1,.int .i64 (lZ F j).1.2]) /\ Ext w w' /\ own w' (rshL bs A (lZ F j).2.1++(lB bs br v (lZ F j).2.2::R)):=by
 have c7 : w.cell? ⟨br,74,none⟩ = some (.int .i64 j.st):=lq 6 H rfl 74 (by decide)
 have hat : ((j.at_ : Nat) - 1 : Int) + 1 = (j.at_ : Nat):=by omega
 have hat2 : (j.at_ : Int) <= 200:=by have:=hj.at_; omega
 unfold lZ
 by_cases hst : j.st≠1 /\ j.st≠3
 ·rw [zt hst]
  have d1 : (j.st != 1) = true:=bne_iff_ne.2 hst.1
  have d3 : (j.st != 3) = true:=bne_iff_ne.2 hst.2
  clear hst
  go_enter Tryz.func79,Tryz.ntmps79
  go_wp2_with fail
  go_ret2
  exact ⟨rfl,zR _,H⟩
 ·rw [zq hst]
  have hst' : j.st = 1 \/ j.st = 3:=by omega
  have hNX : ∀w',own w' (rshL bs A F++(lB bs br v j::R)) -> Calls Tryz.prog 179 #[.pointer (some ⟨br,8,none⟩),.int .i64 (j.at_ : Nat)] w' fun e w''=>e = .returned (.tuple #[.int .i64 ((oy j).1 : Nat),.bool (oy j).2]) /\ w' = w'':=fun w' h=>
   Th br 8 j.n j.x hj.n hj.x (j.at_ : Nat) w' (Es 6 h rfl)
  have HNX:=zh hNX
  have hle : (oy j).1 <= 127:=Le hj.n hj.x64 _
  have HOW:=zh H
  have c6 : w.cell? ⟨br,73,none⟩ = some (.int .i64 ((j.at_ : Nat) - 1 : Int)):=lq 6 H rfl 73 (by decide)
  by_cases hsm : (oy j).2 = false
  ·rw [zt (.inl hsm)]
   rw [hsm] at HNX
   generalize (oy j).1 = cn at *
   rcases hst' with h1 | h1
   all_goals
    rw [h1] at c7
    clear hst hNX hsm
    go_enter Tryz.func79,Tryz.ntmps79
    go_upto_region 3 with (fail)
    go_quiet ((go_at_call 179; exact Calls.quiet_of_same ((HNX.out _ (by first | exact HOW.out | exact lj HOW.out | exact ll _ HOW.out)).mono fun e w' h=>⟨h.1,h.2.symm⟩)))
    have h2:=ll nq H
    have hx2:=(zR w).drewN nq
    clear H HNX c6 c7
    generalize w.drewN nq = w2 at *
    go_wp2_with fail
    go_ret2
    exact ⟨rfl,hx2,h2⟩
  ·have hsm' : (oy j).2 = true:=by simpa using hsm
   rw [hsm'] at HNX
   by_cases h4 : j.level < 4
   ·rw [zt (.inr h4)]
    have hTK : ∀w',own w' (rshL bs A F++(lB bs br v j::R)) -> Calls Tryz.prog 180 #[.pointer (some ⟨br,75,none⟩),.int .i64 4] w' fun e w''=>e = .returned (.bool false) /\ Ext w' w'' /\ own w'' (rshL bs A F++(lB bs br v j::R)):=fun w' h=>by
     have:=ND (n:=4) (l:=j.level) (T:=149) (Ik bs v j) (L:=rshL bs A F++(lB bs br v j::R)) 6 w' (by have:=hj.level; have:=hj.burst; omega) h (by rw [<- EE]; rfl)
     rw [show Gk j.level 4 = j.level from zq (by omega),show decide ((0 : Int) <= 4 /\ 4 <= j.level) = false from zf (by omega),<- EE] at this
     exact this
    have HTK:=zh hTK
    generalize (oy j).1 = cn at *
    rcases hst' with h1 | h1
    all_goals
     rw [h1] at c7
     clear hst hNX hsm hsm' hTK h4
     go_enter Tryz.func79,Tryz.ntmps79
     go_upto_region 3 with (fail)
     go_quiet ((go_at_call 179; exact Calls.quiet_of_same ((HNX.out _ (by first | exact HOW.out | exact lj HOW.out | exact ll _ HOW.out)).mono fun e w' h=>⟨h.1,h.2.symm⟩)))
     have h2:=ll nq H
     have hx2:=(zR w).drewN nq
     clear H HNX c6 c7
     generalize w.drewN nq = w2 at *
     go_wp2_with fail
     refine (HTK.out _ h2).mono ?_
     rintro e w3 ⟨rfl,hx3,h3⟩
     go_wp2_with fail
     go_ret2
     exact ⟨rfl,hx2.trans hx3,h3⟩
   ·rw [zq (by rintro (h | h); exact hsm h; exact h4 h)]
    have hTK : ∀w',own w' (rshL bs A F++(lB bs br v j::R)) -> Calls Tryz.prog 180 #[.pointer (some ⟨br,75,none⟩),.int .i64 4] w' fun e w''=>e = .returned (.bool true) /\ Ext w' w'' /\ own w'' (rshL bs A F++(lB bs br v { j with level:=j.level - 4 }::R)):=fun w' h=>by
     have:=ND (n:=4) (l:=j.level) (T:=149) (Ik bs v j) (L:=rshL bs A F++(lB bs br v j::R)) 6 w' (by have:=hj.level; have:=hj.burst; omega) h (by rw [<- EE]; rfl)
     rw [show Gk j.level 4 = j.level - 4 from zt (by omega),show decide ((0 : Int) <= 4 /\ 4 <= j.level) = true from zg (by omega),<- EE] at this
     exact this
    have HTK:=zh hTK
    have hj1 : ({ j with level:=j.level - 4 } : JobM).Ok:={ hj with level:=by have:=hj.level; dsimp only; omega }
    have hwa:=fun w' h=>Ja bs A F hF br v { j with level:=j.level - 4 } hj1 hS.list ((oy j).1 : Nat) R w' hv h
    rw [show ya F { j with level:=j.level - 4 } ((oy j).1 : Nat) = ya F j ((oy j).1 : Nat) from rfl] at hwa
    have HWA:=zh hwa
    have hvw:=yO hv [lB bs br v { j with level:=j.level - 4 }]
    have HRD:=zh (fun w' h=>FD bs A F hF v j.list hS.list hj.len ((oy j).1 : Nat) ([lB bs br v { j with level:=j.level - 4 }]++R) w' hvw h)
    have hto:=JL hj hS
    obtain ⟨k,m,hxk,hk,hFk⟩:=lT hto
    have hsz:=KX hF hS.list ((oy j).1 : Nat)
    have HMV:=zh (fun w' h=>Sz bs A F hF k m hk hFk ((oy j).1 : Nat) (oG F j.list ((oy j).1 : Nat)).1 (by omega) (lB bs br v { j with level:=j.level - 4 }::R) w' h)
    have e0 : Am F j ((oy j).1 : Nat) = if ya F j ((oy j).1 : Nat) = false then (0,F) else if (oG F j.list ((oy j).1 : Nat)).2≠0 then ((oG F j.list ((oy j).1 : Nat)).2,F) else Bj F k ((oy j).1 : Nat) (oG F j.list ((oy j).1 : Nat)).1:=by
     unfold Am; rw [hxk,zn]
    have hcode:=Gs F j.list ((oy j).1 : Nat)
    have hmc:=GV F k ((oy j).1 : Nat) (oG F j.list ((oy j).1 : Nat)).1
    unfold jdid
    rw [e0]
    generalize oG F j.list ((oy j).1 : Nat) = rdd at *
    obtain ⟨t,rc⟩:=rdd
    dsimp only at *
    generalize Bj F k ((oy j).1 : Nat) t = mv at *
    obtain ⟨mc,F'⟩:=mv
    dsimp only at *
    generalize ya F j ((oy j).1 : Nat) = wt at *
    generalize (oy j).1 = cn at *
    have hvv:=hvw
    have HPT:=zh (fun (L : List SL.HP) w' h hk=>NU (L:=L) (bs:=bs) (br:=br) (v:=v) (j:={ j with level:=j.level - 4 }) hj.n (cn : Nat) false 6 w' h hk)
    have HTN:=zh (fun (FF : ShM) w' h=>GU bs br v { j with level:=j.level - 4,x:=(og j.n j.x (cn : Nat) false).2,at_:=cn + 1 } (rshL bs A FF++R) w' h)
    dsimp only at HPT
    generalize (og j.n j.x (cn : Nat) false).1 = pb at *
    generalize (og j.n j.x (cn : Nat) false).2 = px at *
    obtain ⟨ao,lb,off,cap,rfl,hlc,hcap,hao,-⟩:=(hv w (rshL bs A F++[lB bs br v j]) (by simpa using H)).form
    obtain rfl:=hao (by have:=hj.pos; omega)
    have HV:=zh hvv
    have hpos : 0 < j.list.length:=by have:=hj.pos; omega
    have l0 : (0 : Int) < (j.list.length : Int):=by omega
    unfold toM at hxk
    have w9 : (cn : Int) <= 127:=by omega
    clear hv hvv hvw hwa hTK e0 hto hFk hsz hj1 hao hlc hNX hst hsm hsm' h4
    cases wt
    ·rw [zt (show false = false from rfl)]
     dsimp only
     rw [zq (show ¬((0 : Int)≠0) by decide)]
     rcases hst' with h1 | h1
     all_goals
      rw [h1] at c7
      go_enter Tryz.func79,Tryz.ntmps79
      go_upto_region 3 with (fail)
      go_quiet ((go_at_call 179; exact Calls.quiet_of_same ((HNX.out _ (by first | exact HOW.out | exact lj HOW.out | exact ll _ HOW.out)).mono fun e w' h=>⟨h.1,h.2.symm⟩)))
      have h2:=ll nq H
      have hx2:=(zR w).drewN nq
      clear H HNX c6 c7
      generalize w.drewN nq = w2 at *
      go_wp2_with fail
      refine (HTK.out _ h2).mono ?_
      rintro e w3 ⟨rfl,hx3,h3⟩
      go_wp2_with fail
      refine (HWA.out _ h3).mono ?_
      rintro e w4 ⟨rfl,n4,rfl⟩
      have h4:=ll n4 h3
      have hx4:=((hx2.trans hx3).drewN n4)
      clear h2 h3 hx2 hx3
      generalize w3.drewN n4 = w5 at *
      have hx6:=hx4
      have h6:=h4
      go_wp2_with fail
      refine (HPT.out _ _ h6 rfl).mono ?_
      rintro e w8 ⟨rfl,hx8,h8'⟩
      have h8 : own w8 (rshL bs A F++(lB bs br (.slice (some ⟨lb,off,none⟩) j.list.length cap) { j with level:=j.level - 4,x:=px }::R)):=h8'
      have f73:=oV 6 h8 rfl 73
      have c73 : w8.cell? ⟨br,73,none⟩ = some (.int .i64 ((j.at_ : Nat) - 1 : Int)):=lq 6 h8 rfl 73 (by decide)
      have h9 : own (w8.setCell ⟨br,73,none⟩ (.int .i64 (cn : Int))) (rshL bs A F++(lB bs br (.slice (some ⟨lb,off,none⟩) j.list.length cap) { j with level:=j.level - 4,x:=px,at_:=cn + 1 }::R)):=by
       have:=yZ (i:=73) (a:=.int .i64 (((cn + 1 : Nat) : Int) - 1)) 6 h8 rfl (IJ bs (.slice (some ⟨lb,off,none⟩) j.list.length cap) { j with level:=j.level - 4,x:=px } (cn + 1))
       rw [show (((cn + 1 : Nat) : Int) - 1) = (cn : Int) by omega] at this
       exact this
      go_wp2_with fail
      refine (HTN.out _ _ (lp (rshL bs A F) [lB bs br (.slice (some ⟨lb,off,none⟩) j.list.length cap) _] h9)).mono ?_
      rintro e w10 ⟨rfl,hx10,h10⟩
      go_wp2_with fail
      go_ret2
      exact ⟨rfl,((hx6.trans hx8).setCell _ _).trans hx10,lp [lB bs br (.slice (some ⟨lb,off,none⟩) j.list.length cap) _] (rshL bs A F) h10⟩
    ·rw [zq (show ¬(true = false) by decide)]
     by_cases hrc : rc = 0
     ·subst hrc
      rw [zq (show ¬((0 : Int)≠0) by decide)]
      dsimp only
      by_cases hm : mc = 0
      ·subst hm
       rw [zq (show ¬((0 : Int)≠0) by decide)]
       by_cases hkd : j.kind = 2
       ·rw [zt hkd] at hxk
        rcases hst' with h1 | h1
        all_goals
         rw [h1] at c7
         go_enter Tryz.func79,Tryz.ntmps79
         go_upto_region 3 with (fail)
         go_quiet ((go_at_call 179; exact Calls.quiet_of_same ((HNX.out _ (by first | exact HOW.out | exact lj HOW.out | exact ll _ HOW.out)).mono fun e w' h=>⟨h.1,h.2.symm⟩)))
         have h2:=ll nq H
         have hx2:=(zR w).drewN nq
         clear H HNX c6 c7
         generalize w.drewN nq = w2 at *
         go_wp2_with fail
         refine (HTK.out _ h2).mono ?_
         rintro e w3 ⟨rfl,hx3,h3⟩
         go_wp2_with fail
         refine (HWA.out _ h3).mono ?_
         rintro e w4 ⟨rfl,n4,rfl⟩
         have h4:=ll n4 h3
         have hx4:=((hx2.trans hx3).drewN n4)
         clear h2 h3 hx2 hx3
         generalize w3.drewN n4 = w5 at *
         go_upto_region 11 with (fail)
         have hd:=lj h4
         have hxd:=hx4.drew
         clear h4 hx4
         go_region_held3 (fun w'=>w'.cell? ⟨br,0,none⟩ = some (.pointer (some ⟨bs,0,none⟩)) /\ w'.cell? ⟨br,6,none⟩ = some (.slice (some ⟨lb,off,none⟩) j.list.length cap)) (first | exact ⟨lq 6 hd rfl 0 (by decide),lq 6 hd rfl 6 (by decide)⟩ | exact ⟨lq 6 hr rfl 0 (by decide),lq 6 hr rfl 6 (by decide)⟩) ((go_at_call 181; refine (HRD.out _ hd).mono ?_; rintro e wr ⟨rfl,hxr,hr⟩))
         have hx5:=hxd.trans hxr
         clear hd hxd hxr
         have c0 : wr.cell? ⟨br,0,none⟩ = some (.pointer (some ⟨bs,0,none⟩)):=lq 6 hr rfl 0 (by decide)
         have c2 : wr.cell? ⟨br,2,none⟩ = some (.int .i64 j.kind):=lq 6 hr rfl 2 (by decide)
         have c3 : wr.cell? ⟨br,3,none⟩ = some (.int .i64 j.file):=lq 6 hr rfl 3 (by decide)
         have c6 : wr.cell? ⟨br,6,none⟩ = some (.slice (some ⟨lb,off,none⟩) j.list.length cap):=lq 6 hr rfl 6 (by decide)
         have c74 : wr.cell? ⟨br,74,none⟩ = some (.int .i64 j.st):=lq 6 hr rfl 74 (by decide)
         have f74:=oV 6 hr rfl 74
         have c9 : wr.cell? ⟨lb,off,none⟩ = some (.int .i64 (j.list.getD 0 0)):=oq (HV.out _ _ hr) hpos
         rw [hkd] at c2
         rw [hxk] at c9
         clear hkd h1
         go_wp2_with fail
         refine (HMV.out _ hr).mono ?_
         rintro e w6 ⟨rfl,hx6',h6⟩
         have hx6:=hx5.trans hx6'
         go_wp2_with fail
         refine (HPT.out _ _ h6 rfl).mono ?_
         rintro e w8 ⟨rfl,hx8,h8'⟩
         have h8 : own w8 (rshL bs A F'++(lB bs br (.slice (some ⟨lb,off,none⟩) j.list.length cap) { j with level:=j.level - 4,x:=px }::R)):=h8'
         have f73:=oV 6 h8 rfl 73
         have c73 : w8.cell? ⟨br,73,none⟩ = some (.int .i64 ((j.at_ : Nat) - 1 : Int)):=lq 6 h8 rfl 73 (by decide)
         have h9 : own (w8.setCell ⟨br,73,none⟩ (.int .i64 (cn : Int))) (rshL bs A F'++(lB bs br (.slice (some ⟨lb,off,none⟩) j.list.length cap) { j with level:=j.level - 4,x:=px,at_:=cn + 1 }::R)):=by
          have:=yZ (i:=73) (a:=.int .i64 (((cn + 1 : Nat) : Int) - 1)) 6 h8 rfl (IJ bs (.slice (some ⟨lb,off,none⟩) j.list.length cap) { j with level:=j.level - 4,x:=px } (cn + 1))
          rw [show (((cn + 1 : Nat) : Int) - 1) = (cn : Int) by omega] at this
          exact this
         go_wp2_with fail
         refine (HTN.out _ _ (lp (rshL bs A F') [lB bs br (.slice (some ⟨lb,off,none⟩) j.list.length cap) _] h9)).mono ?_
         rintro e w10 ⟨rfl,hx10,h10⟩
         go_wp2_with fail
         go_ret2
         exact ⟨rfl,((hx6.trans hx8).setCell _ _).trans hx10,lp [lB bs br (.slice (some ⟨lb,off,none⟩) j.list.length cap) _] (rshL bs A F') h10⟩
       ·rw [zq hkd] at hxk
        have d2 : (j.kind == 2) = false:=by rw [zb]; exact hkd
        rcases hst' with h1 | h1
        all_goals
         rw [h1] at c7
         go_enter Tryz.func79,Tryz.ntmps79
         go_upto_region 3 with (fail)
         go_quiet ((go_at_call 179; exact Calls.quiet_of_same ((HNX.out _ (by first | exact HOW.out | exact lj HOW.out | exact ll _ HOW.out)).mono fun e w' h=>⟨h.1,h.2.symm⟩)))
         have h2:=ll nq H
         have hx2:=(zR w).drewN nq
         clear H HNX c6 c7
         generalize w.drewN nq = w2 at *
         go_wp2_with fail
         refine (HTK.out _ h2).mono ?_
         rintro e w3 ⟨rfl,hx3,h3⟩
         go_wp2_with fail
         refine (HWA.out _ h3).mono ?_
         rintro e w4 ⟨rfl,n4,rfl⟩
         have h4:=ll n4 h3
         have hx4:=((hx2.trans hx3).drewN n4)
         clear h2 h3 hx2 hx3
         generalize w3.drewN n4 = w5 at *
         go_upto_region 11 with (fail)
         have hd:=lj h4
         have hxd:=hx4.drew
         clear h4 hx4
         go_region_held3 (fun w'=>w'.cell? ⟨br,0,none⟩ = some (.pointer (some ⟨bs,0,none⟩)) /\ w'.cell? ⟨br,6,none⟩ = some (.slice (some ⟨lb,off,none⟩) j.list.length cap)) (first | exact ⟨lq 6 hd rfl 0 (by decide),lq 6 hd rfl 6 (by decide)⟩ | exact ⟨lq 6 hr rfl 0 (by decide),lq 6 hr rfl 6 (by decide)⟩) ((go_at_call 181; refine (HRD.out _ hd).mono ?_; rintro e wr ⟨rfl,hxr,hr⟩))
         have hx5:=hxd.trans hxr
         clear hd hxd hxr
         have c0 : wr.cell? ⟨br,0,none⟩ = some (.pointer (some ⟨bs,0,none⟩)):=lq 6 hr rfl 0 (by decide)
         have c2 : wr.cell? ⟨br,2,none⟩ = some (.int .i64 j.kind):=lq 6 hr rfl 2 (by decide)
         have c3 : wr.cell? ⟨br,3,none⟩ = some (.int .i64 j.file):=lq 6 hr rfl 3 (by decide)
         have c6 : wr.cell? ⟨br,6,none⟩ = some (.slice (some ⟨lb,off,none⟩) j.list.length cap):=lq 6 hr rfl 6 (by decide)
         have c74 : wr.cell? ⟨br,74,none⟩ = some (.int .i64 j.st):=lq 6 hr rfl 74 (by decide)
         have f74:=oV 6 hr rfl 74
         have c9 : wr.cell? ⟨lb,off,none⟩ = some (.int .i64 (j.list.getD 0 0)):=oq (HV.out _ _ hr) hpos
         rw [hxk] at c3
         clear hkd h1
         go_wp2_with fail
         refine (HMV.out _ hr).mono ?_
         rintro e w6 ⟨rfl,hx6',h6⟩
         have hx6:=hx5.trans hx6'
         go_wp2_with fail
         refine (HPT.out _ _ h6 rfl).mono ?_
         rintro e w8 ⟨rfl,hx8,h8'⟩
         have h8 : own w8 (rshL bs A F'++(lB bs br (.slice (some ⟨lb,off,none⟩) j.list.length cap) { j with level:=j.level - 4,x:=px }::R)):=h8'
         have f73:=oV 6 h8 rfl 73
         have c73 : w8.cell? ⟨br,73,none⟩ = some (.int .i64 ((j.at_ : Nat) - 1 : Int)):=lq 6 h8 rfl 73 (by decide)
         have h9 : own (w8.setCell ⟨br,73,none⟩ (.int .i64 (cn : Int))) (rshL bs A F'++(lB bs br (.slice (some ⟨lb,off,none⟩) j.list.length cap) { j with level:=j.level - 4,x:=px,at_:=cn + 1 }::R)):=by
          have:=yZ (i:=73) (a:=.int .i64 (((cn + 1 : Nat) : Int) - 1)) 6 h8 rfl (IJ bs (.slice (some ⟨lb,off,none⟩) j.list.length cap) { j with level:=j.level - 4,x:=px } (cn + 1))
          rw [show (((cn + 1 : Nat) : Int) - 1) = (cn : Int) by omega] at this
          exact this
         go_wp2_with fail
         refine (HTN.out _ _ (lp (rshL bs A F') [lB bs br (.slice (some ⟨lb,off,none⟩) j.list.length cap) _] h9)).mono ?_
         rintro e w10 ⟨rfl,hx10,h10⟩
         go_wp2_with fail
         go_ret2
         exact ⟨rfl,((hx6.trans hx8).setCell _ _).trans hx10,lp [lB bs br (.slice (some ⟨lb,off,none⟩) j.list.length cap) _] (rshL bs A F') h10⟩
      ·rw [zt (show mc≠0 from hm)]
       have hp : 0 < mc:=by omega
       by_cases hkd : j.kind = 2
       ·rw [zt hkd] at hxk
        rcases hst' with h1 | h1
        all_goals
         rw [h1] at c7
         go_enter Tryz.func79,Tryz.ntmps79
         go_upto_region 3 with (fail)
         go_quiet ((go_at_call 179; exact Calls.quiet_of_same ((HNX.out _ (by first | exact HOW.out | exact lj HOW.out | exact ll _ HOW.out)).mono fun e w' h=>⟨h.1,h.2.symm⟩)))
         have h2:=ll nq H
         have hx2:=(zR w).drewN nq
         clear H HNX c6 c7
         generalize w.drewN nq = w2 at *
         go_wp2_with fail
         refine (HTK.out _ h2).mono ?_
         rintro e w3 ⟨rfl,hx3,h3⟩
         go_wp2_with fail
         refine (HWA.out _ h3).mono ?_
         rintro e w4 ⟨rfl,n4,rfl⟩
         have h4:=ll n4 h3
         have hx4:=((hx2.trans hx3).drewN n4)
         clear h2 h3 hx2 hx3
         generalize w3.drewN n4 = w5 at *
         go_upto_region 11 with (fail)
         have hd:=lj h4
         have hxd:=hx4.drew
         clear h4 hx4
         go_region_held3 (fun w'=>w'.cell? ⟨br,0,none⟩ = some (.pointer (some ⟨bs,0,none⟩)) /\ w'.cell? ⟨br,6,none⟩ = some (.slice (some ⟨lb,off,none⟩) j.list.length cap)) (first | exact ⟨lq 6 hd rfl 0 (by decide),lq 6 hd rfl 6 (by decide)⟩ | exact ⟨lq 6 hr rfl 0 (by decide),lq 6 hr rfl 6 (by decide)⟩) ((go_at_call 181; refine (HRD.out _ hd).mono ?_; rintro e wr ⟨rfl,hxr,hr⟩))
         have hx5:=hxd.trans hxr
         clear hd hxd hxr
         have c0 : wr.cell? ⟨br,0,none⟩ = some (.pointer (some ⟨bs,0,none⟩)):=lq 6 hr rfl 0 (by decide)
         have c2 : wr.cell? ⟨br,2,none⟩ = some (.int .i64 j.kind):=lq 6 hr rfl 2 (by decide)
         have c3 : wr.cell? ⟨br,3,none⟩ = some (.int .i64 j.file):=lq 6 hr rfl 3 (by decide)
         have c6 : wr.cell? ⟨br,6,none⟩ = some (.slice (some ⟨lb,off,none⟩) j.list.length cap):=lq 6 hr rfl 6 (by decide)
         have c74 : wr.cell? ⟨br,74,none⟩ = some (.int .i64 j.st):=lq 6 hr rfl 74 (by decide)
         have f74:=oV 6 hr rfl 74
         have c9 : wr.cell? ⟨lb,off,none⟩ = some (.int .i64 (j.list.getD 0 0)):=oq (HV.out _ _ hr) hpos
         rw [hkd] at c2
         rw [hxk] at c9
         clear hkd h1 hm
         go_wp2_with fail
         refine (HMV.out _ hr).mono ?_
         rintro e w6 ⟨rfl,hx6',h6⟩
         have hx6:=hx5.trans hx6'
         have c74 : w6.cell? ⟨br,74,none⟩ = some (.int .i64 j.st):=lq 6 h6 rfl 74 (by decide)
         have f74:=oV 6 h6 rfl 74
         have h9 : own (w6.setCell ⟨br,74,none⟩ (.int .i64 5)) (rshL bs A F'++(lB bs br (.slice (some ⟨lb,off,none⟩) j.list.length cap) { j with level:=j.level - 4,st:=5 }::R)):=yZ (i:=74) (a:=.int .i64 5) 6 h6 rfl (Cv bs (.slice (some ⟨lb,off,none⟩) j.list.length cap) { j with level:=j.level - 4 } 5)
         go_wp2_with fail
         go_ret2
         exact ⟨rfl,hx6.setCell _ _,h9⟩
       ·rw [zq hkd] at hxk
        have d2 : (j.kind == 2) = false:=by rw [zb]; exact hkd
        rcases hst' with h1 | h1
        all_goals
         rw [h1] at c7
         go_enter Tryz.func79,Tryz.ntmps79
         go_upto_region 3 with (fail)
         go_quiet ((go_at_call 179; exact Calls.quiet_of_same ((HNX.out _ (by first | exact HOW.out | exact lj HOW.out | exact ll _ HOW.out)).mono fun e w' h=>⟨h.1,h.2.symm⟩)))
         have h2:=ll nq H
         have hx2:=(zR w).drewN nq
         clear H HNX c6 c7
         generalize w.drewN nq = w2 at *
         go_wp2_with fail
         refine (HTK.out _ h2).mono ?_
         rintro e w3 ⟨rfl,hx3,h3⟩
         go_wp2_with fail
         refine (HWA.out _ h3).mono ?_
         rintro e w4 ⟨rfl,n4,rfl⟩
         have h4:=ll n4 h3
         have hx4:=((hx2.trans hx3).drewN n4)
         clear h2 h3 hx2 hx3
         generalize w3.drewN n4 = w5 at *
         go_upto_region 11 with (fail)
         have hd:=lj h4
         have hxd:=hx4.drew
         clear h4 hx4
         go_region_held3 (fun w'=>w'.cell? ⟨br,0,none⟩ = some (.pointer (some ⟨bs,0,none⟩)) /\ w'.cell? ⟨br,6,none⟩ = some (.slice (some ⟨lb,off,none⟩) j.list.length cap)) (first | exact ⟨lq 6 hd rfl 0 (by decide),lq 6 hd rfl 6 (by decide)⟩ | exact ⟨lq 6 hr rfl 0 (by decide),lq 6 hr rfl 6 (by decide)⟩) ((go_at_call 181; refine (HRD.out _ hd).mono ?_; rintro e wr ⟨rfl,hxr,hr⟩))
         have hx5:=hxd.trans hxr
         clear hd hxd hxr
         have c0 : wr.cell? ⟨br,0,none⟩ = some (.pointer (some ⟨bs,0,none⟩)):=lq 6 hr rfl 0 (by decide)
         have c2 : wr.cell? ⟨br,2,none⟩ = some (.int .i64 j.kind):=lq 6 hr rfl 2 (by decide)
         have c3 : wr.cell? ⟨br,3,none⟩ = some (.int .i64 j.file):=lq 6 hr rfl 3 (by decide)
         have c6 : wr.cell? ⟨br,6,none⟩ = some (.slice (some ⟨lb,off,none⟩) j.list.length cap):=lq 6 hr rfl 6 (by decide)
         have c74 : wr.cell? ⟨br,74,none⟩ = some (.int .i64 j.st):=lq 6 hr rfl 74 (by decide)
         have f74:=oV 6 hr rfl 74
         have c9 : wr.cell? ⟨lb,off,none⟩ = some (.int .i64 (j.list.getD 0 0)):=oq (HV.out _ _ hr) hpos
         rw [hxk] at c3
         clear hkd h1 hm
         go_wp2_with fail
         refine (HMV.out _ hr).mono ?_
         rintro e w6 ⟨rfl,hx6',h6⟩
         have hx6:=hx5.trans hx6'
         have c74 : w6.cell? ⟨br,74,none⟩ = some (.int .i64 j.st):=lq 6 h6 rfl 74 (by decide)
         have f74:=oV 6 h6 rfl 74
         have h9 : own (w6.setCell ⟨br,74,none⟩ (.int .i64 5)) (rshL bs A F'++(lB bs br (.slice (some ⟨lb,off,none⟩) j.list.length cap) { j with level:=j.level - 4,st:=5 }::R)):=yZ (i:=74) (a:=.int .i64 5) 6 h6 rfl (Cv bs (.slice (some ⟨lb,off,none⟩) j.list.length cap) { j with level:=j.level - 4 } 5)
         go_wp2_with fail
         go_ret2
         exact ⟨rfl,hx6.setCell _ _,h9⟩
     ·rw [zt (show rc≠0 from hrc)]
      dsimp only
      rw [zt (show rc≠0 from hrc)]
      have hp : 0 < rc:=by omega
      have d0 : (rc == 0) = false:=by rw [zb]; exact hrc
      by_cases hkd : j.kind = 2
      ·rw [zt hkd] at hxk
       rcases hst' with h1 | h1
       all_goals
        rw [h1] at c7
        go_enter Tryz.func79,Tryz.ntmps79
        go_upto_region 3 with (fail)
        go_quiet ((go_at_call 179; exact Calls.quiet_of_same ((HNX.out _ (by first | exact HOW.out | exact lj HOW.out | exact ll _ HOW.out)).mono fun e w' h=>⟨h.1,h.2.symm⟩)))
        have h2:=ll nq H
        have hx2:=(zR w).drewN nq
        clear H HNX c6 c7
        generalize w.drewN nq = w2 at *
        go_wp2_with fail
        refine (HTK.out _ h2).mono ?_
        rintro e w3 ⟨rfl,hx3,h3⟩
        go_wp2_with fail
        refine (HWA.out _ h3).mono ?_
        rintro e w4 ⟨rfl,n4,rfl⟩
        have h4:=ll n4 h3
        have hx4:=((hx2.trans hx3).drewN n4)
        clear h2 h3 hx2 hx3
        generalize w3.drewN n4 = w5 at *
        go_upto_region 11 with (fail)
        have hd:=lj h4
        have hxd:=hx4.drew
        clear h4 hx4
        go_region_held3 (fun w'=>w'.cell? ⟨br,0,none⟩ = some (.pointer (some ⟨bs,0,none⟩)) /\ w'.cell? ⟨br,6,none⟩ = some (.slice (some ⟨lb,off,none⟩) j.list.length cap)) (first | exact ⟨lq 6 hd rfl 0 (by decide),lq 6 hd rfl 6 (by decide)⟩ | exact ⟨lq 6 hr rfl 0 (by decide),lq 6 hr rfl 6 (by decide)⟩) ((go_at_call 181; refine (HRD.out _ hd).mono ?_; rintro e wr ⟨rfl,hxr,hr⟩))
        have hx5:=hxd.trans hxr
        clear hd hxd hxr
        have c0 : wr.cell? ⟨br,0,none⟩ = some (.pointer (some ⟨bs,0,none⟩)):=lq 6 hr rfl 0 (by decide)
        have c2 : wr.cell? ⟨br,2,none⟩ = some (.int .i64 j.kind):=lq 6 hr rfl 2 (by decide)
        have c3 : wr.cell? ⟨br,3,none⟩ = some (.int .i64 j.file):=lq 6 hr rfl 3 (by decide)
        have c6 : wr.cell? ⟨br,6,none⟩ = some (.slice (some ⟨lb,off,none⟩) j.list.length cap):=lq 6 hr rfl 6 (by decide)
        have c74 : wr.cell? ⟨br,74,none⟩ = some (.int .i64 j.st):=lq 6 hr rfl 74 (by decide)
        have f74:=oV 6 hr rfl 74
        have c9 : wr.cell? ⟨lb,off,none⟩ = some (.int .i64 (j.list.getD 0 0)):=oq (HV.out _ _ hr) hpos
        rw [hkd] at c2
        rw [hxk] at c9
        clear hkd h1 hrc
        have c74 : wr.cell? ⟨br,74,none⟩ = some (.int .i64 j.st):=lq 6 hr rfl 74 (by decide)
        have f74:=oV 6 hr rfl 74
        have h9 : own (wr.setCell ⟨br,74,none⟩ (.int .i64 5)) (rshL bs A F++(lB bs br (.slice (some ⟨lb,off,none⟩) j.list.length cap) { j with level:=j.level - 4,st:=5 }::R)):=yZ (i:=74) (a:=.int .i64 5) 6 hr rfl (Cv bs (.slice (some ⟨lb,off,none⟩) j.list.length cap) { j with level:=j.level - 4 } 5)
        go_wp2_with fail
        go_ret2
        exact ⟨rfl,hx5.setCell _ _,h9⟩
      ·rw [zq hkd] at hxk
       have d2 : (j.kind == 2) = false:=by rw [zb]; exact hkd
       rcases hst' with h1 | h1
       all_goals
        rw [h1] at c7
        go_enter Tryz.func79,Tryz.ntmps79
        go_upto_region 3 with (fail)
        go_quiet ((go_at_call 179; exact Calls.quiet_of_same ((HNX.out _ (by first | exact HOW.out | exact lj HOW.out | exact ll _ HOW.out)).mono fun e w' h=>⟨h.1,h.2.symm⟩)))
        have h2:=ll nq H
        have hx2:=(zR w).drewN nq
        clear H HNX c6 c7
        generalize w.drewN nq = w2 at *
        go_wp2_with fail
        refine (HTK.out _ h2).mono ?_
        rintro e w3 ⟨rfl,hx3,h3⟩
        go_wp2_with fail
        refine (HWA.out _ h3).mono ?_
        rintro e w4 ⟨rfl,n4,rfl⟩
        have h4:=ll n4 h3
        have hx4:=((hx2.trans hx3).drewN n4)
        clear h2 h3 hx2 hx3
        generalize w3.drewN n4 = w5 at *
        go_upto_region 11 with (fail)
        have hd:=lj h4
        have hxd:=hx4.drew
        clear h4 hx4
        go_region_held3 (fun w'=>w'.cell? ⟨br,0,none⟩ = some (.pointer (some ⟨bs,0,none⟩)) /\ w'.cell? ⟨br,6,none⟩ = some (.slice (some ⟨lb,off,none⟩) j.list.length cap)) (first | exact ⟨lq 6 hd rfl 0 (by decide),lq 6 hd rfl 6 (by decide)⟩ | exact ⟨lq 6 hr rfl 0 (by decide),lq 6 hr rfl 6 (by decide)⟩) ((go_at_call 181; refine (HRD.out _ hd).mono ?_; rintro e wr ⟨rfl,hxr,hr⟩))
        have hx5:=hxd.trans hxr
        clear hd hxd hxr
        have c0 : wr.cell? ⟨br,0,none⟩ = some (.pointer (some ⟨bs,0,none⟩)):=lq 6 hr rfl 0 (by decide)
        have c2 : wr.cell? ⟨br,2,none⟩ = some (.int .i64 j.kind):=lq 6 hr rfl 2 (by decide)
        have c3 : wr.cell? ⟨br,3,none⟩ = some (.int .i64 j.file):=lq 6 hr rfl 3 (by decide)
        have c6 : wr.cell? ⟨br,6,none⟩ = some (.slice (some ⟨lb,off,none⟩) j.list.length cap):=lq 6 hr rfl 6 (by decide)
        have c74 : wr.cell? ⟨br,74,none⟩ = some (.int .i64 j.st):=lq 6 hr rfl 74 (by decide)
        have f74:=oV 6 hr rfl 74
        have c9 : wr.cell? ⟨lb,off,none⟩ = some (.int .i64 (j.list.getD 0 0)):=oq (HV.out _ _ hr) hpos
        rw [hxk] at c3
        clear hkd h1 hrc
        have c74 : wr.cell? ⟨br,74,none⟩ = some (.int .i64 j.st):=lq 6 hr rfl 74 (by decide)
        have f74:=oV 6 hr rfl 74
        have h9 : own (wr.setCell ⟨br,74,none⟩ (.int .i64 5)) (rshL bs A F++(lB bs br (.slice (some ⟨lb,off,none⟩) j.list.length cap) { j with level:=j.level - 4,st:=5 }::R)):=yZ (i:=74) (a:=.int .i64 5) 6 hr rfl (Cv bs (.slice (some ⟨lb,off,none⟩) j.list.length cap) { j with level:=j.level - 4 } 5)
        go_wp2_with fail
        go_ret2
        exact ⟨rfl,hx5.setCell _ _,h9⟩
section
variable {b b2 : Nat} {A : Nat -> Nat×Nat×Nat} {A2 : Nat -> Nat×Nat} {F : ShM} {R : List SL.HP} {w : World} {k : Nat}
end
end Go.Proofs.YtbpblokfiajpjabGreatDoor
namespace Go.Proofs.YtbpblokfiajpjabGreatDoor
open Go.RowKit Go.SL Go.Crc
attribute [local go_sem ↓] Go.wp_at_zero Go.wp_at_succ
open Classical in
theorem V3 {w : World} {l R : List SL.HP} (o : Obj) (H : own w (l++R)) : own (w.alloc o) (l++(pts w.heap.size o::R)):=lr l (li H o)
end Go.Proofs.YtbpblokfiajpjabGreatDoor
namespace Go.Proofs.YtbpblokfiajpjabGreatDoor
open Go.RowKit Go.SL Go.Crc
attribute [local go_sem ↓] Go.wp_at_zero Go.wp_at_succ
theorem PI {w : World} (a c d e : List SL.HP) {R : List SL.HP} (H : own w (a++(c++(d++(e++R))))) : own w (d++(e++(a++(c++R)))):=by
 have:=lp (a++c) (d++e) (R:=R) (by simpa only [zp] using H)
 simpa only [zp] using this
theorem Lw {R : List SL.HP} (hT : ∀w' L,own w' (L++R) -> yR w') (X : List SL.HP) : ∀w' L,own w' (L++(X++R)) -> yR w':=fun w' L h=>hT w' (L++X) (by rwa [zp])
theorem T9 {bs br : Nat} {v : Value} {j : JobM} (hj : j.Ok) {n : Int} (hn : 0 <= n) (hn2 : n <= 100000) {L : List SL.HP} (kk : Nat) (w : World) (H : own w L) (hk : L[kk]? = some (lB bs br v j)) :
  Calls Tryz.prog 84 #[.pointer (some ⟨br,75,none⟩),.int .i64 n] w fun e w'=>e = .returned (.tuple #[]) /\ Ext w w' /\ own w' (L.set kk (lB bs br v (BR j n))):=by
 have hk' : L[kk]? = some (bkB br (A9 bs v j) 149 75 j.level):=by rw [hk,<- EE]
 refine (Uv (Ik bs v j) kk w H hk' hn hn2 hj.level.1 hj.level.2 hj.rate.1 hj.rate.2 hj.burst.2).mono ?_
 rintro e w' ⟨h1,h2,h3⟩
 unfold BR
 rw [zt ⟨hn,hn2⟩,EE]
 exact ⟨h1,h2,h3⟩
end Go.Proofs.YtbpblokfiajpjabGreatDoor
namespace Go.Proofs.YtbpblokfiajpjabGreatDoor
open Go.RowKit Go.SL Go.Crc
def zm (j j' : JobM) : Prop:=j'.list = j.list /\ j'.kind = j.kind /\ j'.file = j.file /\ j'.root = j.root /\ j'.n = j.n
theorem zm.refl (j : JobM) : zm j j:=⟨rfl,rfl,rfl,rfl,rfl⟩
theorem Kk (j : JobM) : zm j (zu j):=by
 unfold zu
 split
 ·exact ⟨rfl,rfl,rfl,rfl,rfl⟩
 ·split <;> exact ⟨rfl,rfl,rfl,rfl,rfl⟩
theorem zm.turn {j j2 : JobM} (h : zm j j2) : zm j (zu j2):=by
 obtain ⟨a,b,c,d,e⟩:=Kk j2
 exact ⟨a.trans h.1,b.trans h.2.1,c.trans h.2.2.1,d.trans h.2.2.2.1,e.trans h.2.2.2.2⟩
theorem Oh (j : JobM) (n : Int) : zm j (BR j n):=by
 unfold BR
 split <;> exact ⟨rfl,rfl,rfl,rfl,rfl⟩
theorem OA (j : JobM) (c : Int) : zm j (zL j c):=by
 unfold zL
 split
 ·exact zm.turn ⟨rfl,rfl,rfl,rfl,rfl⟩
 ·exact zm.refl j
theorem JD (j : JobM) (on : Bool) : zm j (yU j on).2:=by
 unfold yU
 split
 ·split
  ·exact ⟨rfl,rfl,rfl,rfl,rfl⟩
  ·exact zm.refl j
 ·split
  ·exact zm.turn (j:=j) (j2:={ j with st:=1 }) ⟨rfl,rfl,rfl,rfl,rfl⟩
  ·exact zm.refl j
theorem C7 (F : ShM) (j : JobM) : zm j (lZ F j).2.2:=by
 unfold lZ
 split
 ·exact zm.refl j
 ·split
  ·exact zm.refl j
  ·split
   ·exact ⟨rfl,rfl,rfl,rfl,rfl⟩
   ·exact zm.turn ⟨rfl,rfl,rfl,rfl,rfl⟩
theorem Cj (F : ShM) (j : JobM) : zm j (lA F j).2.2:=by
 unfold lA
 split
 ·exact zm.refl j
 ·split
  ·split
   ·exact ⟨rfl,rfl,rfl,rfl,rfl⟩
   ·exact zm.refl j
  ·split <;> exact zm.refl j
theorem JobS.same {F : ShM} {j j' : JobM} (h : JobS F j) (s : zm j j') : JobS F j':=
 ⟨fun x hx=>h.list x (by rw [<- s.1]; exact hx),fun h2=>by rw [s.2.2.1]; exact h.file (by rw [<- s.2.1]; exact h2)⟩
theorem JobS.files {F F' : ShM} {j : JobM} (h : JobS F j) (hf : ∀x,ly F x -> ly F' x) : JobS F' j:=⟨fun x hx=>hf x (h.list x hx),fun h2=>hf _ (h.file h2)⟩
end Go.Proofs.YtbpblokfiajpjabGreatDoor
namespace Go.Proofs.YtbpblokfiajpjabGreatDoor
open Go.RowKit Go.SL Go.Crc
attribute [local go_sem ↓] Go.wp_at_zero Go.wp_at_succ
structure lI where
 root : Int
 kind : Int
 file : Int
 rate : Int
 burst : Int
def lz (r : Int) : lI:=⟨r,0,-1,0,0⟩
def lI.v (d : lI) : Value:=o8 d.root d.kind d.file d.rate d.burst
def lI.f (d : lI) : Int:=yg d.root d.kind d.file d.rate d.burst
def lI.s (d : lI) : ByteArray:=Aq d.root d.kind d.file d.rate d.burst
structure lf where
 F : ShM
 D : Nat -> DevM
 top : DevM
 dk : lI
 list : List Int
 job : Option JobM
structure YA where
 y : Nat
 bs : Nat
 tp : Nat
 A : Nat -> Nat×Nat×Nat
 v : Value
 bj : Nat
 bt : Nat
 bb : Nat
 vj : Value
def oM (A : Nat -> Nat×Nat×Nat) (F : ShM) (D : Nat -> DevM) (k : Nat) : HP:=match F k with
 | none=>lm (A k).2.1 (D k)
 | some _=>emp
def jobV (bj : Nat) (j : Option JobM) : Value:=match j with
 | none=>.pointer none
 | some _=>.pointer (some ⟨bj,0,none⟩)
def MJ (Y : YA) (j : Option JobM) : HP:=match j with
 | none=>emp
 | some j=>star (jobL Y.bs Y.bj Y.bt Y.bb Y.vj j++[row 3 1 Y.vj j.list.length (lo j.list)])
def yC (Y : YA) (m : lf) : Array Value:=#[.pointer (some ⟨(Y.A 0).2.1,0,none⟩),.pointer (some ⟨(Y.A 1).2.1,0,none⟩),.pointer (some ⟨(Y.A 2).2.1,0,none⟩),.pointer (some ⟨(Y.A 3).2.1,0,none⟩),.pointer (some ⟨(Y.A 4).2.1,0,none⟩),.pointer (some ⟨Y.tp,0,none⟩),.pointer (some ⟨Y.bs,0,none⟩),.int .i64 m.dk.root,.int .i64 m.dk.kind,.int .i64 m.dk.file,.int .i64 m.dk.rate,.int .i64 m.dk.burst,Y.v,jobV Y.bj m.job]
def yT (Y : YA) (m : lf) : List SL.HP:=[pts Y.y (.cells (yC Y m) 165 (0,0)),oM Y.A m.F m.D 0,oM Y.A m.F m.D 1,oM Y.A m.F m.D 2,oM Y.A m.F m.D 3,oM Y.A m.F m.D 4,lm Y.tp m.top,row 3 1 Y.v m.list.length (lo m.list),MJ Y m.job]
abbrev yL (Y : YA) (m : lf) (R : List SL.HP) : List SL.HP:=shL Y.bs Y.A m.F++(yT Y m++R)
structure RA where
 y : Nat
 bs : Nat
 tp : Nat
 A : Nat -> Nat×Nat
 v : Value
 bj : Nat
 vj : Value
def oz (A : Nat -> Nat×Nat) (F : ShM) (D : Nat -> DevM) (k : Nat) : HP:=match F k with
 | none=>ln (A k).2 (D k)
 | some _=>emp
def K8 (Y : RA) (j : Option JobM) : HP:=match j with
 | none=>emp
 | some j=>star [lB Y.bs Y.bj Y.vj j,row 3 1 Y.vj j.list.length (lo j.list)]
def ryC (Y : RA) (m : lf) : Array Value:=#[.pointer (some ⟨(Y.A 0).2,0,none⟩),.pointer (some ⟨(Y.A 1).2,0,none⟩),.pointer (some ⟨(Y.A 2).2,0,none⟩),.pointer (some ⟨(Y.A 3).2,0,none⟩),.pointer (some ⟨(Y.A 4).2,0,none⟩),.pointer (some ⟨Y.tp,0,none⟩),.pointer (some ⟨Y.bs,0,none⟩),.int .i64 m.dk.root,.int .i64 m.dk.kind,.int .i64 m.dk.file,.int .i64 m.dk.rate,.int .i64 m.dk.burst,Y.v,jobV Y.bj m.job]
def ryT (Y : RA) (m : lf) : List SL.HP:=[pts Y.y (.cells (ryC Y m) 171 (0,0)),oz Y.A m.F m.D 0,oz Y.A m.F m.D 1,oz Y.A m.F m.D 2,oz Y.A m.F m.D 3,oz Y.A m.F m.D 4,ln Y.tp m.top,row 3 1 Y.v m.list.length (lo m.list),K8 Y m.job]
abbrev ryL (Y : RA) (m : lf) (R : List SL.HP) : List SL.HP:=rshL Y.bs Y.A m.F++(ryT Y m++R)
def y8 (m : lf) : Bool:=match m.job with
 | none=>false
 | some j=>decide (j.st < 4)
def Dk (m : lf) (file : Int) : Bool:=decide (file∈m.list) || (y8 m && decide (m.dk.file = file))
def lw (m : lf) (d : lI) : Int×lf:=
 if (m.top.write 0 d.s).1≠0 then ((m.top.write 0 d.s).1,{ m with top:=(m.top.write 0 d.s).2 }) else (0,{ m with top:=(m.top.write 0 d.s).2.flush,dk:=d })
def devOf (m : lf) (k : Nat) : DevM:=match m.F k with
 | some i=>i.d
 | none=>m.D k
def cut (F : ShM) (k : Nat) : ShM:=fun j=>if j = k then none else F j
def setD (D : Nat -> DevM) (k : Nat) (d : DevM) : Nat -> DevM:=fun j=>if j = k then d else D j
def Ae (c : Int) (d : DevM) : Int:=Int.tdiv ((d.fl.length : Int) - 1 - (ls c.toNat : Nat)) 4
def yY (m : lf) (file : Nat) (back : Int) : Int×ImgM:=oD (devOf m file) (clus m.F m.dk.root) (Ae (clus m.F m.dk.root) (devOf m file)) back
def oB (m : lf) (file back : Int) : Int×lf:=
 if file < 0 \/ 5 <= file then (1,m) else if Dk m file then (5,m)
 else if (yY m file.toNat back).1≠0 then ((yY m file.toNat back).1,{ m with F:=cut m.F file.toNat,D:=setD m.D file.toNat (yY m file.toNat back).2.d })
 else (0,{ m with F:=put m.F file.toNat (yY m file.toNat back).2 })
def Bt (m : lf) (file : Int) : Int×lf:=
 if y8 m then (8,m) else if m.list.length = 4 then (6,m)
 else if (oB m file m.dk.root).1≠0 then oB m file m.dk.root
 else if (lw (oB m file m.dk.root).2 (lz file)).1≠0 then lw (oB m file m.dk.root).2 (lz file)
 else (0,{ (lw (oB m file m.dk.root).2 (lz file)).2 with list:=file::m.list })
def AC (m : lf) (kind file rate burst : Int) : Int×lf:=
 if y8 m then (8,m) else if kind = 0 then (1,m)
 else if yg m.dk.root kind file rate burst≠0 then (yg m.dk.root kind file rate burst,m)
 else match newM m.F m.dk.root kind file rate burst with
  | (none,f)=>(f,m)
  | (some j,_)=>if (lw m ⟨m.dk.root,kind,file,rate,burst⟩).1≠0 then lw m ⟨m.dk.root,kind,file,rate,burst⟩
   else ((yU j false).1,{ (lw m ⟨m.dk.root,kind,file,rate,burst⟩).2 with job:=some (yU j false).2 })
def B4 (m : lf) (j : JobM) (root : Int) (well : Bool) : Int×lf:=
 if (lw m (lz root)).1≠0 then lw m (lz root)
 else (0,{ (lw m (lz root)).2 with job:=some (endM j well),list:=(lt m.F root).1 })
def zE (m : lf) : (Bool×Int)×lf:=match m.job with
 | none=>((false,4),m)
 | some j=>if 4 <= j.st then ((false,4),m)
  else
   let m1 : lf:={ m with F:=(lZ m.F j).2.1,job:=some (lZ m.F j).2.2 }
   if (lZ m.F j).1.2≠0 then ((false,(lZ m.F j).1.2),if (lZ m.F j).2.2.st < 4 then m1 else (lw m1 (lz m.dk.root)).2)
   else if m.dk.kind≠2 \/ (lZ m.F j).2.2.st≠3 then (((lZ m.F j).1.1,0),m1)
   else
    let S:=lA m1.F (lZ m.F j).2.2
    let m2 : lf:={ m with F:=S.2.1,job:=some S.2.2 }
    if S.1≠0 then ((false,S.1),(lw m2 (lz m.dk.root)).2)
    else
     let m3 : lf:={ m2 with list:=(lt m2.F m.dk.root).1,job:=some (endM S.2.2 true) }
     ((true,0),{ (lw m3 (lz m.dk.root)).2 with dk:=lz m.dk.root })
def AD (m : lf) : Int×lf:=match m.job with
 | none=>(4,m)
 | some j=>if 4 <= j.st then (4,m) else if m.dk.kind = 2 then (9,m)
  else if (lA m.F j).1≠0 then ((lA m.F j).1,{ m with F:=(lA m.F j).2.1,job:=some (lA m.F j).2.2 })
  else B4 { m with F:=(lA m.F j).2.1,job:=some (lA m.F j).2.2 } (lA m.F j).2.2 m.dk.file true
def zT (m : lf) : Int×lf:=match m.job with
 | none=>(4,m)
 | some j=>if 4 <= j.st then (4,m) else B4 m j m.dk.root false
def zW (m : lf) (on : Bool) : Int×lf:=match m.job with
 | none=>(4,m)
 | some j=>if 4 <= j.st then (4,m) else ((yU j on).1,{ m with job:=some (yU j on).2 })
def Az (m : lf) (n : Int) : Int×lf:=
 if n < 0 \/ 100000 < n then (1,m) else match m.job with
 | none=>(0,m)
 | some j=>if 4 <= j.st then (0,m) else (0,{ m with job:=some (BR j n) })
def F4 (m : lf) : Value:=match m.job with
 | none=>.agg #[.int .i64 0,.int .i64 (-1),.int .i64 0,.int .i64 0]
 | some j=>C0 j
def armM (m : lf) (file n : Int) : Int×lf:=
 if file < -1 \/ 5 <= file \/ n < 0 then (1,m) else if file = -1 then (0,{ m with top:={ m.top with fail:=n } })
 else match m.F file.toNat with
  | some i=>(0,{ m with F:=put m.F file.toNat { i with d:={ i.d with fail:=n } } })
  | none=>(0,{ m with D:=setD m.D file.toNat { m.D file.toNat with fail:=n } })
def oe (j : JobM) (c : Int) : Nat -> JobM
 | 0=>j
 | n + 1=>oe (zL j c) (c + 1) n
def yN (m : lf) (from_ n : Int) : lf:=match m.job with
 | none=>m
 | some j=>if n = 0 then m else { m with job:=some (oe j (from_ / 4) ((from_ + n - 1) / 4 - from_ / 4 + 1).toNat) }
def Ar (m : lf) : lf:={ m with F:=yh m.F m.list }
structure YOk (N : Nat) (m : lf) : Prop where
 sh : ShW N m.F
 dv : ∀k,k < 5 -> m.F k = none -> (m.D k).Ok /\ (m.D k).writes <= N /\ (m.D k).pend.length <= N
 tp : m.top.Ok /\ m.top.writes <= N /\ m.top.pend.length <= N /\ 1 <= m.top.fl.length
 walk : lt m.F m.dk.root = (m.list,0)
 root : ly m.F m.dk.root
 jok : ∀j,m.job = some j -> j.Ok
 job : ∀j,m.job = some j -> j.st < 4 -> JobS m.F j /\ j.list = m.list /\ j.kind = m.dk.kind /\ j.file = m.dk.file /\ j.root = m.dk.root
theorem BX {Y : YA} {m : lf} {R : List SL.HP} {w : World} (H : own w (yL Y m R)) : ∀i,w.cell? ⟨Y.y,i,none⟩ = (yC Y m)[i]?:=(ld 6 H rfl).1
theorem Cd {Y : YA} {m : lf} {R : List SL.HP} {w : World} (H : own w (yL Y m R)) : ∀i,w.frozen? ⟨Y.y,i,none⟩ = false:=(ld 6 H rfl).2
theorem y_tp {Y : YA} {m : lf} {R : List SL.HP} {w : World} (H : own w (yL Y m R)) : w.cell? ⟨Y.y,5,none⟩ = some (.pointer (some ⟨Y.tp,0,none⟩)):=BX H 5
theorem y_bs {Y : YA} {m : lf} {R : List SL.HP} {w : World} (H : own w (yL Y m R)) : w.cell? ⟨Y.y,6,none⟩ = some (.pointer (some ⟨Y.bs,0,none⟩)):=BX H 6
theorem yS {Y : YA} {m : lf} {R : List SL.HP} {w : World} (H : own w (yL Y m R)) : w.cell? ⟨Y.y,7,none⟩ = some (.int .i64 m.dk.root):=BX H 7
theorem Cw {Y : YA} {m : lf} {R : List SL.HP} {w : World} (H : own w (yL Y m R)) : w.cell? ⟨Y.y,8,none⟩ = some (.int .i64 m.dk.kind):=BX H 8
theorem CF {Y : YA} {m : lf} {R : List SL.HP} {w : World} (H : own w (yL Y m R)) : w.cell? ⟨Y.y,9,none⟩ = some (.int .i64 m.dk.file):=BX H 9
theorem Fd {Y : YA} {m : lf} {R : List SL.HP} {w : World} (H : own w (yL Y m R)) : w.cell? ⟨Y.y,10,none⟩ = some (.int .i64 m.dk.rate):=BX H 10
theorem DJ {Y : YA} {m : lf} {R : List SL.HP} {w : World} (H : own w (yL Y m R)) : w.cell? ⟨Y.y,11,none⟩ = some (.int .i64 m.dk.burst):=BX H 11
theorem Cg {Y : YA} {m : lf} {R : List SL.HP} {w : World} (H : own w (yL Y m R)) : w.cell? ⟨Y.y,12,none⟩ = some Y.v:=BX H 12
theorem Gr {Y : YA} {m : lf} {R : List SL.HP} {w : World} (H : own w (yL Y m R)) : w.cell? ⟨Y.y,13,none⟩ = some (jobV Y.bj m.job):=BX H 13
theorem BH {Y : YA} {m : lf} {R : List SL.HP} {w : World} (H : own w (yL Y m R)) {k : Nat} (hk : k < 5) : w.cell? ⟨Y.y,k,none⟩ = some (.pointer (some ⟨(Y.A k).2.1,0,none⟩)):=by
 rw [BX H k]
 match k,hk with
 | 0,_=>rfl
 | 1,_=>rfl
 | 2,_=>rfl
 | 3,_=>rfl
 | 4,_=>rfl
theorem Ej {Y : YA} {m : lf} {R : List SL.HP} {w : World} (H : own w (yL Y m R)) : lS w Y.v m.list:=l9 13 H rfl
theorem Bp {Y : RA} {m : lf} {R : List SL.HP} {w : World} (H : own w (ryL Y m R)) : ∀i,w.cell? ⟨Y.y,i,none⟩ = (ryC Y m)[i]?:=(ld 6 H rfl).1
theorem A5 {Y : RA} {m : lf} {R : List SL.HP} {w : World} (H : own w (ryL Y m R)) : ∀i,w.frozen? ⟨Y.y,i,none⟩ = false:=(ld 6 H rfl).2
theorem Db {Y : RA} {m : lf} {R : List SL.HP} {w : World} (H : own w (ryL Y m R)) : w.cell? ⟨Y.y,5,none⟩ = some (.pointer (some ⟨Y.tp,0,none⟩)):=Bp H 5
theorem BE {Y : RA} {m : lf} {R : List SL.HP} {w : World} (H : own w (ryL Y m R)) : w.cell? ⟨Y.y,6,none⟩ = some (.pointer (some ⟨Y.bs,0,none⟩)):=Bp H 6
theorem zC {Y : RA} {m : lf} {R : List SL.HP} {w : World} (H : own w (ryL Y m R)) : w.cell? ⟨Y.y,7,none⟩ = some (.int .i64 m.dk.root):=Bp H 7
theorem Co {Y : RA} {m : lf} {R : List SL.HP} {w : World} (H : own w (ryL Y m R)) : w.cell? ⟨Y.y,8,none⟩ = some (.int .i64 m.dk.kind):=Bp H 8
theorem Cr {Y : RA} {m : lf} {R : List SL.HP} {w : World} (H : own w (ryL Y m R)) : w.cell? ⟨Y.y,9,none⟩ = some (.int .i64 m.dk.file):=Bp H 9
theorem Dz {Y : RA} {m : lf} {R : List SL.HP} {w : World} (H : own w (ryL Y m R)) : w.cell? ⟨Y.y,10,none⟩ = some (.int .i64 m.dk.rate):=Bp H 10
theorem CR {Y : RA} {m : lf} {R : List SL.HP} {w : World} (H : own w (ryL Y m R)) : w.cell? ⟨Y.y,11,none⟩ = some (.int .i64 m.dk.burst):=Bp H 11
theorem AR {Y : RA} {m : lf} {R : List SL.HP} {w : World} (H : own w (ryL Y m R)) : w.cell? ⟨Y.y,12,none⟩ = some Y.v:=Bp H 12
theorem EP {Y : RA} {m : lf} {R : List SL.HP} {w : World} (H : own w (ryL Y m R)) : w.cell? ⟨Y.y,13,none⟩ = some (jobV Y.bj m.job):=Bp H 13
theorem D5 {Y : RA} {m : lf} {R : List SL.HP} {w : World} (H : own w (ryL Y m R)) {k : Nat} (hk : k < 5) : w.cell? ⟨Y.y,k,none⟩ = some (.pointer (some ⟨(Y.A k).2,0,none⟩)):=by
 rw [Bp H k]
 match k,hk with
 | 0,_=>rfl
 | 1,_=>rfl
 | 2,_=>rfl
 | 3,_=>rfl
 | 4,_=>rfl
theorem BY {Y : RA} {m : lf} {R : List SL.HP} {w : World} (H : own w (ryL Y m R)) : lS w Y.v m.list:=l9 13 H rfl
theorem BO {Y : YA} {m : lf} {j : JobM} (h : m.job = some j) {R : List SL.HP} {w : World} (H : own w (yL Y m R)) :
  own w (shL Y.bs Y.A m.F++(jobL Y.bs Y.bj Y.bt Y.bb Y.vj j++(row 3 1 Y.vj j.list.length (lo j.list)::((yT Y m).take 8++R)))):=by
 have h1:=lu 14 H rfl
 have hj : MJ Y m.job = star (jobL Y.bs Y.bj Y.bt Y.bb Y.vj j++[row 3 1 Y.vj j.list.length (lo j.list)]):=by rw [h]; rfl
 rw [hj] at h1
 have h2:=DF h1
 have h3 : own w ((jobL Y.bs Y.bj Y.bt Y.bb Y.vj j++[row 3 1 Y.vj j.list.length (lo j.list)])++(shL Y.bs Y.A m.F++((yT Y m).take 8++R))):=h2
 have h4:=lp (jobL Y.bs Y.bj Y.bt Y.bb Y.vj j++[row 3 1 Y.vj j.list.length (lo j.list)]) (shL Y.bs Y.A m.F) h3
 simpa only [zp,List.singleton_append] using h4
theorem I0 {Y : YA} {m : lf} {j : JobM} (h : m.job = some j) {R : List SL.HP} {w : World}
  (H : own w (shL Y.bs Y.A m.F++(jobL Y.bs Y.bj Y.bt Y.bb Y.vj j++(row 3 1 Y.vj j.list.length (lo j.list)::((yT Y m).take 8++R))))) : own w (yL Y m R):=by
 have h1 : own w (shL Y.bs Y.A m.F++((jobL Y.bs Y.bj Y.bt Y.bb Y.vj j++[row 3 1 Y.vj j.list.length (lo j.list)])++((yT Y m).take 8++R))):=by
  simpa only [zp,List.singleton_append] using H
 have h2:=lp (shL Y.bs Y.A m.F) (jobL Y.bs Y.bj Y.bt Y.bb Y.vj j++[row 3 1 Y.vj j.list.length (lo j.list)]) h1
 have h3:=yK (jobL Y.bs Y.bj Y.bt Y.bb Y.vj j++[row 3 1 Y.vj j.list.length (lo j.list)]) h2
 have hj : MJ Y m.job = star (jobL Y.bs Y.bj Y.bt Y.bb Y.vj j++[row 3 1 Y.vj j.list.length (lo j.list)]):=by rw [h]; rfl
 rw [<- hj] at h3
 have h4 : own w (MJ Y m.job::((shL Y.bs Y.A m.F++(yT Y m).take 8)++R)):=by rw [zp]; exact h3
 have h5:=lr (shL Y.bs Y.A m.F++(yT Y m).take 8) h4
 rw [zp] at h5
 exact h5
theorem AS {Y : RA} {m : lf} {j : JobM} (h : m.job = some j) {R : List SL.HP} {w : World} (H : own w (ryL Y m R)) :
  own w (rshL Y.bs Y.A m.F++(lB Y.bs Y.bj Y.vj j::(row 3 1 Y.vj j.list.length (lo j.list)::((ryT Y m).take 8++R)))):=by
 have h1:=lu 14 H rfl
 have hj : K8 Y m.job = star [lB Y.bs Y.bj Y.vj j,row 3 1 Y.vj j.list.length (lo j.list)]:=by rw [h]; rfl
 rw [hj] at h1
 have h2:=DF h1
 have h3 : own w ([lB Y.bs Y.bj Y.vj j,row 3 1 Y.vj j.list.length (lo j.list)]++(rshL Y.bs Y.A m.F++((ryT Y m).take 8++R))):=h2
 exact lp _ (rshL Y.bs Y.A m.F) h3
theorem NA {Y : RA} {m : lf} {j : JobM} (h : m.job = some j) {R : List SL.HP} {w : World}
  (H : own w (rshL Y.bs Y.A m.F++(lB Y.bs Y.bj Y.vj j::(row 3 1 Y.vj j.list.length (lo j.list)::((ryT Y m).take 8++R))))) : own w (ryL Y m R):=by
 have h2:=lp (rshL Y.bs Y.A m.F) [lB Y.bs Y.bj Y.vj j,row 3 1 Y.vj j.list.length (lo j.list)] H
 have h3:=yK [lB Y.bs Y.bj Y.vj j,row 3 1 Y.vj j.list.length (lo j.list)] h2
 have hj : K8 Y m.job = star [lB Y.bs Y.bj Y.vj j,row 3 1 Y.vj j.list.length (lo j.list)]:=by rw [h]; rfl
 rw [<- hj] at h3
 have h4 : own w (K8 Y m.job::((rshL Y.bs Y.A m.F++(ryT Y m).take 8)++R)):=by rw [zp]; exact h3
 have h5:=lr (rshL Y.bs Y.A m.F++(ryT Y m).take 8) h4
 rw [zp] at h5
 exact h5
end Go.Proofs.YtbpblokfiajpjabGreatDoor
