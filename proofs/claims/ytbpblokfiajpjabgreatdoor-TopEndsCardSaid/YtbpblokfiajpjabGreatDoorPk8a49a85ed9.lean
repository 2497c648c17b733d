/- Lemmas on which TopEnds stands: the texts Image18 Chain18 Jobs5 Jobs6. No conditions. -/
import Derived.Test.YtbpblokfiajpjabGreatDoorPk0310531dc0
set_option linter.all false
set_option maxRecDepth 1000000
set_option maxHeartbeats 32000000
namespace Go.Proofs.YtbpblokfiajpjabGreatDoor
open Go.RowKit Go.SL Go.Crc
attribute [local go_sem ↓] Go.wp_at_zero Go.wp_at_succ
theorem lp {w : World} (l m : List SL.HP) {R : List SL.HP} (H : own w (l++(m++R))) : own w (m++(l++R)):=yw (fun _=>Jd (List.perm_append_comm_assoc l m R)) H
theorem Ea (d : DevM) (c p b : Int) : 0 <= (oa d c p b).1:=by
 unfold oa
 split
 ·simp
 ·split
  ·exact z8
  ·split
   ·exact ow _ _ _
   ·simp
theorem LR {n x : Nat} (hn : n <= 64) (hx : x < 2 ^ 64) (fr : Int) : (zd n x fr).1 <= 127:=by
 unfold zd
 split
 ·exact Nat.zero_le _
 ·rename_i h0
  split
  ·rename_i h
   have hd : x / 2 ^ fr.toNat < 2 ^ 64:=Nat.lt_of_le_of_lt (Nat.div_le_self _ _) hx
   obtain ⟨-,-,-,-,-,-,hk⟩:=Ds _ h.2.2 hd
   have:=h.2.1
   dsimp only
   omega
  ·obtain ⟨-,-,-,-,-,-,hk⟩:=Ds _ h0 hx
   dsimp only
   omega
def lU (j : JobM) : Nat×Bool:=zd j.n j.x (j.at_ : Nat)
def jdid (j : JobM) : JobM:=yX { j with level:=j.level - 4,x:=(ou j.n j.x ((lU j).1 : Nat) false).2,at_:=(lU j).1 + 1 }
def lh (F : ShM) (j : JobM) : (Bool×Int)×ShM×JobM:=
 if j.st≠1 /\ j.st≠3 then ((false,9),F,j) else if (lU j).2 = false \/ j.level < 4 then ((false,0),F,j)
 else if (oq F j ((lU j).1 : Nat)).1≠0 then ((false,(oq F j ((lU j).1 : Nat)).1),(oq F j ((lU j).1 : Nat)).2,{ j with level:=j.level - 4,st:=5 })
 else ((true,0),(oq F j ((lU j).1 : Nat)).2,jdid j)
theorem Qr {j : JobM} (h : j.Ok) (h4 : ¬j.level < 4) : (jdid j).Ok:=by
 unfold jdid
 have:=h.level
 exact Ge { h with x:=Db h.n h.x _ false,level:=(by dsimp only; omega),at_:=(by have:=LR h.n h.x64 (j.at_ : Nat); dsimp only [lU]; omega) }
theorem Kz {F : ShM} {j : JobM} (h : j.Ok) : (lh F j).2.2.Ok:=by
 unfold lh
 have:=h.level
 split
 ·exact h
 ·split
  ·exact h
  ·rename_i h4
   have h4 : ¬j.level < 4:=fun e=>h4 (.inr e)
   split
   ·exact { h with level:=(by dsimp only; omega),st:=(by dsimp only; omega) }
   ·exact Qr h h4
theorem DE {F : ShM} (hF : ShOk F) {j : JobM} (hj : j.Ok) (h : JobS F j) : lC 5 F (lh F j).2.1:=by
 unfold lh
 split
 ·exact lC.refl hF 5
 ·split
  ·exact lC.refl hF 5
  ·split <;> exact CU hF hj h _
theorem L5 (F : ShM) (j : JobM) : 0 <= (lh F j).1.2:=by
 unfold lh
 split
 ·simp
 ·split
  ·simp
  ·split
   ·exact FL F j _
   ·simp
theorem Nx (bs : Nat) (A : Nat -> Nat×Nat×Nat) (F : ShM) (hF : ShOk F) (bj bt bb : Nat) (v : Value) (j : JobM) (hj : j.Ok) (hS : JobS F j) (R : List SL.HP) (w : World)
  (hv : ∀w' L,own w' (L++R) -> lV w' v j.list) (hT : ∀w' L,own w' (L++R) -> Ak w') (H : own w (shL bs A F++(jobL bs bj bt bb v j++R))) :
  Calls Tryz.prog 58 #[.pointer (some ⟨bj,0,none⟩)] w fun e w'=>e = .returned (.tuple #[.bool (lh F j).1.1,errV (lh F j).1.2]) /\ Ext w w' /\ own w' (shL bs A (lh F j).2.1++(jobL bs bj bt bb v (lh F j).2.2++R)):=by
 unfold lh
 by_cases hst : j.st≠1 /\ j.st≠3
 ·rw [zt hst]
  have d1 : (j.st != 1) = true:=bne_iff_ne.2 hst.1
  have d3 : (j.st != 3) = true:=bne_iff_ne.2 hst.2
  have c7:=(la 6 H rfl).1 7
  clear hst
  go_enter Tryz.func58,Tryz.ntmps58
  go_wp2_with fail
  go_ret2
  exact ⟨rfl,zR _,H⟩
 ·rw [zq hst]
  have hst' : j.st = 1 \/ j.st = 3:=by omega
  have hNX : ∀w',own w' (shL bs A F++(jobL bs bj bt bb v j++R)) -> Calls Tryz.prog 148 #[.pointer (some ⟨bt,0,none⟩),.int .i64 (j.at_ : Nat)] w' fun e w''=>e = .returned (.tuple #[.int .i64 ((lU j).1 : Nat),.bool (lU j).2]) /\ w' = w'':=fun w' h=>
   Oa bt j.n j.x hj.n hj.x64 (j.at_ : Nat) 7 w' (hT w' (shL bs A F++jobL bs bj bt bb v j) (by rwa [zp])) h rfl
  have HNX:=zh hNX
  have hle : (lU j).1 <= 127:=LR hj.n hj.x64 _
  have HOW:=zh H
  have c5:=(la 6 H rfl).1 5
  have c6:=(la 6 H rfl).1 6
  by_cases hsm : (lU j).2 = false
  ·rw [zt (.inl hsm)]
   rw [hsm] at HNX
   generalize (lU j).1 = cn at *
   rcases hst' with h1 | h1
   all_goals
    have c7 : w.cell? ⟨bj,7,none⟩ = some (.int .i64 j.st):=(la 6 H rfl).1 7
    rw [h1] at c7
    clear hst hNX hsm
    go_enter Tryz.func58,Tryz.ntmps58
    go_upto_region 3 with (fail)
    go_quiet ((go_at_call 148; exact Calls.quiet_of_same ((HNX.out _ (by first | exact HOW.out | exact lj HOW.out | exact lI _ HOW.out)).mono fun e w' h=>⟨h.1,h.2.symm⟩)))
    have h2:=lI nq H
    have hx2:=(zR w).drewN nq
    clear H HNX c5 c6 c7
    generalize w.drewN nq = w2 at *
    go_wp2_with fail
    go_ret2
    exact ⟨rfl,hx2,h2⟩
  ·have hsm' : (lU j).2 = true:=by simpa using hsm
   rw [hsm'] at HNX
   by_cases h4 : j.level < 4
   ·rw [zt (.inr h4)]
    have hTK : ∀w',own w' (shL bs A F++(jobL bs bj bt bb v j++R)) -> Calls Tryz.prog 149 #[.pointer (some ⟨bb,0,none⟩),.int .i64 4] w' fun e w''=>e = .returned (.bool false) /\ Ext w' w'' /\ own w'' (shL bs A F++(jobL bs bj bt bb v j++R)):=fun w' h=>by
     have:=LL (b:=bb) (r:=j.rate) (u:=j.burst) (l:=j.level) (n:=4) (L:=shL bs A F++(jobL bs bj bt bb v j++R)) 8 w' (by have:=hj.level; have:=hj.burst; omega) h rfl
     rw [show MW j.level 4 = j.level from zq (by omega),show decide ((0 : Int) <= 4 /\ 4 <= j.level) = false from zf (by omega)] at this
     exact this
    have HTK:=zh hTK
    generalize (lU j).1 = cn at *
    rcases hst' with h1 | h1
    all_goals
     have c7 : w.cell? ⟨bj,7,none⟩ = some (.int .i64 j.st):=(la 6 H rfl).1 7
     rw [h1] at c7
     clear hst hNX hsm hsm' hTK h4
     go_enter Tryz.func58,Tryz.ntmps58
     go_upto_region 3 with (fail)
     go_quiet ((go_at_call 148; exact Calls.quiet_of_same ((HNX.out _ (by first | exact HOW.out | exact lj HOW.out | exact lI _ HOW.out)).mono fun e w' h=>⟨h.1,h.2.symm⟩)))
     have h2:=lI nq H
     have hx2:=(zR w).drewN nq
     clear H HNX c5 c6 c7
     generalize w.drewN nq = w2 at *
     have c8:=(la 6 h2 rfl).1 8
     go_wp2_with fail
     refine (HTK.out _ h2).mono ?_
     rintro e w3 ⟨rfl,hx3,h3⟩
     go_wp2_with fail
     go_ret2
     exact ⟨rfl,hx2.trans hx3,h3⟩
   ·rw [zq (by rintro (h | h); exact hsm h; exact h4 h)]
    have hTK : ∀w',own w' (shL bs A F++(jobL bs bj bt bb v j++R)) -> Calls Tryz.prog 149 #[.pointer (some ⟨bb,0,none⟩),.int .i64 4] w' fun e w''=>e = .returned (.bool true) /\ Ext w' w'' /\ own w'' (shL bs A F++(jobL bs bj bt bb v { j with level:=j.level - 4 }++R)):=fun w' h=>by
     have:=LL (b:=bb) (r:=j.rate) (u:=j.burst) (l:=j.level) (n:=4) (L:=shL bs A F++(jobL bs bj bt bb v j++R)) 8 w' (by have:=hj.level; have:=hj.burst; omega) h rfl
     rw [show MW j.level 4 = j.level - 4 from zt (by omega),show decide ((0 : Int) <= 4 /\ 4 <= j.level) = true from zg (by omega)] at this
     exact this
    have HTK:=zh hTK
    have hj1 : ({ j with level:=j.level - 4 } : JobM).Ok:={ hj with level:=by have:=hj.level; dsimp only; omega }
    have HMV:=zh (fun w' h=>OB bs A F hF bj bt bb v { j with level:=j.level - 4 } hj1 ⟨hS.list,hS.file⟩ ((lU j).1 : Nat) R w' hv h)
    rw [show oq F { j with level:=j.level - 4 } ((lU j).1 : Nat) = oq F j ((lU j).1 : Nat) from rfl] at HMV
    have hmc:=FL F j ((lU j).1 : Nat)
    have hms:=CU hF hj hS ((lU j).1 : Nat)
    unfold jdid
    generalize oq F j ((lU j).1 : Nat) = mv at *
    obtain ⟨mc,F'⟩:=mv
    dsimp only at *
    by_cases hm : mc = 0
    ·subst hm
     rw [zq (by decide)]
     rw [show errV 0 = .nilIface from rfl] at HMV
     generalize (lU j).1 = cn at *
     have hjp : ∀b,({ j with level:=j.level - 4,x:=(ou j.n j.x (cn : Nat) false).2,at_:=b } : JobM).x < 2 ^ j.n:=fun b=>Db hj.n hj.x _ false
     have HPT:=zh (fun (L : List SL.HP) w' h hk=>Bu (l:=L) bt j.n j.x hj.n hj.x (cn : Nat) false 7 w' h hk)
     have HTN:=zh (fun w' h=>Al bs bj bt bb v { j with level:=j.level - 4,x:=(ou j.n j.x (cn : Nat) false).2,at_:=cn + 1 } { hj1 with x:=hjp 0,at_:=(by dsimp only; omega) } (shL bs A F'++R) w' h)
     generalize (ou j.n j.x (cn : Nat) false).1 = pb at *
     generalize (ou j.n j.x (cn : Nat) false).2 = px at *
     have w9 : (cn : Int) <= 127:=by omega
     rcases hst' with h1 | h1
     all_goals
      have c7 : w.cell? ⟨bj,7,none⟩ = some (.int .i64 j.st):=(la 6 H rfl).1 7
      rw [h1] at c7
      clear hst hNX hsm hsm' hTK h4 hjp
      go_enter Tryz.func58,Tryz.ntmps58
      go_upto_region 3 with (fail)
      go_quiet ((go_at_call 148; exact Calls.quiet_of_same ((HNX.out _ (by first | exact HOW.out | exact lj HOW.out | exact lI _ HOW.out)).mono fun e w' h=>⟨h.1,h.2.symm⟩)))
      have h2:=lI nq H
      have hx2:=(zR w).drewN nq
      clear H HNX c5 c6 c7
      generalize w.drewN nq = w2 at *
      have c8:=(la 6 h2 rfl).1 8
      go_wp2_with fail
      refine (HTK.out _ h2).mono ?_
      rintro e w3 ⟨rfl,hx3,h3⟩
      go_wp2_with fail
      refine (HMV.out _ h3).mono ?_
      rintro e w4 ⟨rfl,hx4,h4⟩
      have c5:=(la 6 h4 rfl).1 5
      go_wp2_with fail
      refine (HPT.out _ _ h4 rfl).mono ?_
      rintro e w5 ⟨rfl,hx5,h5'⟩
      have h5 : own w5 (shL bs A F'++(jobL bs bj bt bb v { j with level:=j.level - 4,x:=px }++R)):=h5'
      have c6:=(la 6 h5 rfl).1 6
      have f6:=(la 6 h5 rfl).2 6
      have h6 : own (w5.setCell ⟨bj,6,none⟩ (.int .i64 ((cn : Int) + 1))) (shL bs A F'++(jobL bs bj bt bb v { j with level:=j.level - 4,x:=px,at_:=cn + 1 }++R)):=ln (i:=6) (v:=.int .i64 ((cn : Int) + 1)) 6 h5 rfl
      go_wp2_with fail
      refine (HTN.out _ (lp (shL bs A F') (jobL bs bj bt bb v _) h6)).mono ?_
      rintro e w7 ⟨rfl,hx7,h7⟩
      go_wp2_with fail
      go_ret2
      exact ⟨rfl,(((((hx2.trans hx3).trans hx4).trans hx5).setCell _ _).trans hx7),lp (jobL bs bj bt bb v _) (shL bs A F') h7⟩
    ·rw [zt hm]
     have hp : 0 < mc:=by omega
     rw [lu hp] at HMV ⊢
     generalize (lU j).1 = cn at *
     rcases hst' with h1 | h1
     all_goals
      have c7 : w.cell? ⟨bj,7,none⟩ = some (.int .i64 j.st):=(la 6 H rfl).1 7
      rw [h1] at c7
      clear hst hNX hsm hsm' hTK h4 hm
      go_enter Tryz.func58,Tryz.ntmps58
      go_upto_region 3 with (fail)
      go_quiet ((go_at_call 148; exact Calls.quiet_of_same ((HNX.out _ (by first | exact HOW.out | exact lj HOW.out | exact lI _ HOW.out)).mono fun e w' h=>⟨h.1,h.2.symm⟩)))
      have h2:=lI nq H
      have hx2:=(zR w).drewN nq
      clear H HNX c5 c6 c7
      generalize w.drewN nq = w2 at *
      have c8:=(la 6 h2 rfl).1 8
      go_wp2_with fail
      refine (HTK.out _ h2).mono ?_
      rintro e w3 ⟨rfl,hx3,h3⟩
      go_wp2_with fail
      refine (HMV.out _ h3).mono ?_
      rintro e w4 ⟨rfl,hx4,h4⟩
      have c7:=(la 6 h4 rfl).1 7
      have f7:=(la 6 h4 rfl).2 7
      have h6 : own (w4.setCell ⟨bj,7,none⟩ (.int .i64 5)) (shL bs A F'++(jobL bs bj bt bb v { j with level:=j.level - 4,st:=5 }++R)):=ln (i:=7) (v:=.int .i64 5) 6 h4 rfl
      go_wp2_with fail
      go_ret2
      exact ⟨rfl,((hx2.trans hx3).trans hx4).setCell _ _,h6⟩
section
variable {b : Nat} {F : ShM} {k : Nat} {m : ImgM}
theorem N4 {A : Nat -> Nat×Nat×Nat} (hk : k < 5) (h : F k = some m) (hF : ShOk F) (c : Int) (R : List SL.HP) (w : World) (H : own w (shL b A F++R)) :
  Calls Tryz.prog 186 #[.pointer (some ⟨(A k).1,0,none⟩),.int .i64 c] w fun e w'=>e = .returned (errV (m.link c).1) /\ Ext w w' /\ own w' (shL b A (put F k (m.link c).2)++R):=
 (PD _ _ _ m (hF.ok k m hk h) (by have:=hF.wr k m hk h; omega) c _ w (zk hk h H)).mono fun e w' ⟨h1,h2,h3⟩=>⟨h1,h2,BZ hk h H h3⟩
theorem Ii {A : Nat -> Nat×Nat×Nat} (hk : k < 5) (h : F k = some m) (hF : ShOk F) (R : List SL.HP) (w : World) (H : own w (shL b A F++R)) :
  Calls Tryz.prog 172 #[.pointer (some ⟨(A k).1,0,none⟩)] w fun e w'=>e = .returned (.tuple #[]) /\ Ext w w' /\ own w' (shL b A (put F k m.flush)++R):=
 (Bf _ _ _ m (hF.ok k m hk h).d _ w (zk hk h H)).mono fun e w' ⟨h1,h2,h3⟩=>⟨h1,h2,BZ (m':=m.flush) hk h H h3⟩
end
theorem F9 {F : ShM} {k : Nat} {m' : ImgM} {x : Int} (h : lq F x) : lq (put F k m') x:=by
 obtain ⟨h0,h1,m,hm⟩:=h
 refine ⟨h0,h1,?_⟩
 by_cases e : x.toNat = k
 ·exact ⟨m',by rw [e]; exact yg F k m'⟩
 ·exact ⟨m,by rw [AJ F m' e]; exact hm⟩
theorem Iy {N n : Nat} {F : ShM} {k : Nat} {m m' : ImgM} (h : ShW N F) (hk : k < 5) (hm : F k = some m) (s : Step n m m') : ShW (N + n) (put F k m'):=by
 have key : ∀q mq,q < 5 -> put F k m' q = some mq -> (q≠k /\ F q = some mq) \/ (q = k /\ mq = m'):=fun q mq _ hq=>by
  by_cases e : q = k
  ·subst e; rw [yg] at hq; exact .inr ⟨rfl,(Option.some.inj hq).symm⟩
  ·rw [AJ F m' e] at hq; exact .inl ⟨e,hq⟩
 refine ⟨fun q mq hq h'=>?_,fun q mq hq h'=>?_,fun q mq hq h'=>?_⟩
 ·rcases key q mq hq h' with ⟨-,h2⟩ | ⟨-,rfl⟩
  ·exact h.ok q mq hq h2
  ·exact s.ok
 ·rcases key q mq hq h' with ⟨-,h2⟩ | ⟨-,rfl⟩
  ·have:=h.wr q mq hq h2; omega
  ·have:=h.wr k m hk hm; have:=s.wr; omega
 ·rcases key q mq hq h' with ⟨-,h2⟩ | ⟨-,rfl⟩
  ·have:=h.pend q mq hq h2; omega
  ·have:=h.pend k m hk hm; have:=s.pend; omega
def y9 (F : ShM) (k : Nat) : ShM:=match F k with
 | some m=>put F k m.flush
 | none=>F
def ox (F : ShM) : List Int -> ShM
 | []=>F
 | x::l=>ox (y9 F x.toNat) l
theorem CZ {F : ShM} {k : Nat} {x : Int} (h : lq F x) : lq (y9 F k) x:=by
 unfold y9
 split
 ·exact F9 h
 ·exact h
theorem DF {N : Nat} {F : ShM} (h : ShW N F) {k : Nat} (hk : k < 5) : ShW N (y9 F k):=by
 unfold y9
 split
 ·rename_i m hm; exact Iy h hk hm (yZ (h.ok k m hk hm))
 ·exact h
theorem JH {x : Int} {l : List Int} : ∀{F : ShM},lq F x -> lq (ox F l) x:=by
 induction l with
 | nil=>intro F h; exact h
 | cons y l ih=>intro F h; exact ih (CZ h)
theorem Ew {N : Nat} {l : List Int} : ∀{F : ShM},ShW N F -> (∀x∈l,lq F x) -> ShW N (ox F l):=by
 induction l with
 | nil=>intro F h _; exact h
 | cons x l ih=>
  intro F h hl
  have hx:=hl x List.mem_cons_self
  exact ih (DF h (by have:=hx.1; have:=hx.2.1; omega)) (fun y hy=>CZ (hl y (List.mem_cons_of_mem _ hy)))
def yA (F : ShM) (k : Nat) (c : Int) : Int×ShM:=match F k with
 | some m=>((m.link c).1,put F k (m.link c).2)
 | none=>(0,F)
theorem Mp {F : ShM} {k : Nat} {c x : Int} (h : lq F x) : lq (yA F k c).2 x:=by
 unfold yA
 split
 ·exact F9 h
 ·exact h
theorem Ns {N : Nat} {F : ShM} (h : ShW N F) (hN : N < 900000) {k : Nat} (hk : k < 5) (c : Int) : ShW (N + 1) (yA F k c).2:=by
 unfold yA
 split
 ·rename_i m hm; exact Iy h hk hm (Nd (h.ok k m hk hm) (by have:=h.wr k m hk hm; omega) c)
 ·exact h.mono (by omega)
theorem GF (F : ShM) (k : Nat) (c : Int) : 0 <= (yA F k c).1:=by
 unfold yA
 split
 ·exact Lb _ _
 ·simp
def li (F : ShM) (j : JobM) : Int×ShM×JobM:=
 if j.st≠3 then (9,F,j)
 else if j.kind = 2 then (if (yA F (j.list.getD 0 0).toNat j.file).1≠0 then ((yA F (j.list.getD 0 0).toNat j.file).1,(yA F (j.list.getD 0 0).toNat j.file).2,{ j with st:=5 }) else (0,(yA F (j.list.getD 0 0).toNat j.file).2,j))
 else if (lk F j.file).2≠0 then ((lk F j.file).2,F,j) else (0,ox F (lk F j.file).1,j)
theorem Mt {F : ShM} {j : JobM} (h : j.Ok) : (li F j).2.2.Ok:=by
 unfold li
 split
 ·exact h
 ·split
  ·split
   ·exact { h with st:=by simp }
   ·exact h
  ·split <;> exact h
theorem AE {N : Nat} {F : ShM} (hW : ShW N F) (hN : N < 900000) {j : JobM} (hj : j.Ok) (hS : JobS F j) : ShW (N + 1) (li F j).2.1:=by
 have h0:=hS.list _ (mem0 hj.pos)
 have hk : (j.list.getD 0 0).toNat < 5:=by have:=h0.1; have:=h0.2.1; omega
 unfold li
 split
 ·exact hW.mono (by omega)
 ·split
  ·split <;> exact Ns hW hN hk _
  ·split
   ·exact hW.mono (by omega)
   ·exact (Ew hW (yG F j.file)).mono (by omega)
theorem J1 {F : ShM} {j : JobM} {x : Int} (h : lq F x) : lq (li F j).2.1 x:=by
 unfold li
 split
 ·exact h
 ·split
  ·split <;> exact Mp h
  ·split
   ·exact h
   ·exact JH h
theorem Ex (F : ShM) (j : JobM) : 0 <= (li F j).1:=by
 unfold li
 split
 ·simp
 ·split
  ·split
   ·exact GF _ _ _
   ·simp
  ·split
   ·exact Aa
   ·simp
theorem Fo (bs : Nat) (A : Nat -> Nat×Nat×Nat) (F : ShM) (N : Nat) (hW : ShW N F) (hN : N < 900000) (bj bt bb : Nat) (v : Value) (j : JobM) (hj : j.Ok) (hS : JobS F j) (R : List SL.HP) (w : World)
  (hv : ∀w' L,own w' (L++R) -> lV w' v j.list) (H : own w (shL bs A F++(jobL bs bj bt bb v j++R))) :
  Calls Tryz.prog 85 #[.pointer (some ⟨bj,0,none⟩)] w fun e w'=>e = .returned (errV (li F j).1) /\ Ext w w' /\ own w' (shL bs A (li F j).2.1++(jobL bs bj bt bb v (li F j).2.2++R)):=by
 have hF : ShOk F:=hW.sh hN
 have c7:=(la 6 H rfl).1 7
 unfold li
 by_cases h3 : j.st = 3
 ·rw [zq (fun h=>h h3)]
  have d7 : w.cell? ⟨bj,7,none⟩ = some (.int .i64 3):=by rw [<- h3]; exact c7
  clear c7 h3
  by_cases h2 : j.kind = 2
  ·rw [zt h2]
   have c1 : w.cell? ⟨bj,1,none⟩ = some (.int .i64 2):=by rw [<- h2]; exact (la 6 H rfl).1 1
   have hvw:=yn hv (jobL bs bj bt bb v j)
   obtain ⟨ao,lb,off,cap,rfl,hlc,hcap,hao,-⟩:=(hvw w _ H).form
   obtain rfl:=hao (by have:=hj.pos; omega)
   have hpos : 0 < j.list.length:=by have:=hj.pos; omega
   have l0 : (0 : Int) < (j.list.length : Int):=by omega
   obtain ⟨k,m,hxk,hk,hFk⟩:=og (hS.list _ (mem0 hj.pos))
   have c0:=(la 6 H rfl).1 0
   have c2:=(la 6 H rfl).1 2
   have c3:=(la 6 H rfl).1 3
   have c9 : w.cell? ⟨lb,off,none⟩ = some (.int .i64 (k : Int)):=by rw [<- hxk]; exact ym (hvw _ _ H) hpos
   have g1:=l9 H hk
   rw [lO hFk] at g1
   have i1 : (0 : Int) <= (k : Int):=by omega
   have i2 : (k : Int) < 5:=by omega
   have HL:=zh (fun w' h=>N4 (b:=bs) (A:=A) hk hFk hF j.file (jobL bs bj bt bb (.slice (some ⟨lb,off,none⟩) j.list.length cap) j++R) w' h)
   have hc:=GF F k j.file
   rw [hxk,zn]
   rw [show yA F k j.file = ((m.link j.file).1,put F k (m.link j.file).2) by unfold yA; rw [hFk]] at hc ⊢
   dsimp only at hc ⊢
   generalize put F k (m.link j.file).2 = F' at *
   generalize (m.link j.file).1 = lc at *
   clear hv hvw hao hlc hxk h2 hFk
   by_cases hlz : lc = 0
   ·subst hlz
    rw [zq (by decide)]
    rw [show errV 0 = .nilIface from rfl] at HL
    go_enter Tryz.func85,Tryz.ntmps85
    go_upto_region 4 with (fail)
    go_still_tail 17,(by kernel_rfl)
    change wpList _ _ _ _ _ w.drew
    go_wp2_with fail
    refine (HL.out _ (lj H)).mono ?_
    rintro e w2 ⟨rfl,hx2,h2'⟩
    go_wp2_with fail
    go_ret
    exact ⟨rfl,(zR w).drew.trans hx2,h2'⟩
   ·have hp : 0 < lc:=by omega
    rw [zt hlz]
    rw [lu hp] at HL ⊢
    clear hlz
    go_enter Tryz.func85,Tryz.ntmps85
    go_upto_region 4 with (fail)
    go_still_tail 17,(by kernel_rfl)
    change wpList _ _ _ _ _ w.drew
    go_wp2_with fail
    refine (HL.out _ (lj H)).mono ?_
    rintro e w2 ⟨rfl,hx2,h2'⟩
    clear c0 c1 c2 c3 c9 g1 d7
    have c7:=(la 6 h2' rfl).1 7
    have f7:=(la 6 h2' rfl).2 7
    have h6 : own (w2.setCell ⟨bj,7,none⟩ (.int .i64 5)) (shL bs A F'++(jobL bs bj bt bb (.slice (some ⟨lb,off,none⟩) j.list.length cap) { j with st:=5 }++R)):=ln (i:=7) (v:=.int .i64 5) 6 h2' rfl
    go_wp2_with fail
    go_ret
    exact ⟨rfl,((zR w).drew.trans hx2).setCell _ _,h6⟩
  ·rw [zq h2]
   have d2 : (j.kind == 2) = false:=by rw [zb]; exact h2
   have c1:=(la 6 H rfl).1 1
   have hwk:=fun w' h=>Bx bs A F hF j.file (jobL bs bj bt bb v j++R) w' h
   have hfl:=yG F j.file
   have hwc : 0 <= (lk F j.file).2:=Aa
   have HWK:=zh hwk
   unfold AW at HWK
   generalize lk F j.file = S at *
   obtain ⟨l,wc⟩:=S
   dsimp only at hfl hwc HWK ⊢
   have HFL:=zh hfl
   have HSW:=zh hW
   have HN:=zh hN
   clear hwk h2 hfl hF hW hN hv
   by_cases hz : wc = 0
   ·subst hz
    rw [zq (by decide)]
    rw [show errV 0 = .nilIface from rfl] at HWK
    generalize hres : ox F l = res
    have HRES:=zh hres
    clear hres
    go_enter Tryz.func85,Tryz.ntmps85
    go_upto_region 9 with (fail)
    have hd:=lj H
    have hxd:=(zR w).drew
    go_region_held3 (fun w'=>w'.cell? ⟨bj,0,none⟩ = some (.pointer (some ⟨bs,0,none⟩)) /\ w'.cell? ⟨bj,2,none⟩ = some (.int .i64 j.file)) (first | exact ⟨(la 6 hd rfl).1 0,(la 6 hd rfl).1 2⟩ | exact ⟨(la 7 h4 rfl).1 0,(la 7 h4 rfl).1 2⟩) ((go_at_call 69; refine (HWK.out _ hd).mono ?_; rintro e w4 ⟨vl,rfl,hx4,h4⟩))
    have hx5:=hxd.trans hx4
    clear hd hxd hx4 c1 d7 d2 H
    have hil:=oM 0 h4 rfl
    obtain ⟨ao,lb,off,cap,rfl,hlc,hcap,hao,-⟩:=hil.form
    have HAO:=zh hao
    clear hao hil
    go_wp2_with fail
    go_loopw [60] (fun i wr=>∃(q : Nat) (F' : ShM),q <= l.length /\ i = .int .i64 q /\ ox F' (l.drop q) = res /\ ShW N F' /\ (∀x∈l,lq F' x) /\ Ext w wr /\ own wr (row 3 1 (.slice ao l.length cap) l.length (lr l)::(shL bs A F'++(jobL bs bj bt bb v j++R)))) (fun i _=>l.length - (intOf i).toNat)
    case atStart=>exact ⟨0,F,Nat.zero_le _,rfl,HRES.out,HSW.out,HFL.out,hx5,h4⟩
    case round=>
     obtain ⟨q,F',hq,rfl,hgo,hW',hl',hxr,hown⟩:=hrel
     by_cases hlt : q < l.length
     ·obtain rfl:=HAO.out (by omega)
      have g0:=ym (oM 0 hown rfl) hlt
      rw [BW 0 hlt] at hgo
      obtain ⟨k,m,hxk,hk,hFk⟩:=og (hl' (l.getD q 0) (by simp [hlt]))
      rw [hxk] at g0
      have hgo' : ox (put F' k m.flush) (l.drop (q + 1)) = res:=by
       rw [<- hgo]
       show _ = ox (y9 F' (l.getD q 0).toNat) _
       rw [hxk,zn]
       unfold y9
       rw [hFk]
      have c0:=(la 7 hown rfl).1 0
      have hsh:=lg hown
      have g1:=l9 hsh hk
      rw [lO hFk] at g1
      have i1 : (0 : Int) <= (k : Int):=by omega
      have i2 : (k : Int) < 5:=by omega
      have j1 : (0 : Int) <= (q : Int):=by omega
      have j2 : (q : Int) < (l.length : Int):=by omega
      have HFU:=zh (Ii (b:=bs) (A:=A) hk hFk (hW'.sh HN.out) (jobL bs bj bt bb v j++(row 3 1 (.slice (some ⟨lb,off,none⟩) l.length cap) l.length (lr l)::R)) wr)
      have HW2:=zh (Iy hW' hk hFk (yZ (hW'.ok k m hk hFk)))
      have HL2:=zh (fun x hx=>F9 (k:=k) (m':=m.flush) (hl' x hx))
      have HGO:=zh hgo'
      have HOW:=zh hown
      clear hgo hgo' hxk hW' hl' hsh hown
      go_wp2_with fail
      refine (HFU.out (by have:=lD (shL bs A F'++jobL bs bj bt bb v j) (by simpa [zp] using HOW.out); simpa [zp] using this)).mono ?_
      rintro e w6 ⟨rfl,hx6,h6⟩
      go_wp2_with fail
      go_roundw
      case rel=>exact ⟨q + 1,_,by omega,by go_num,HGO.out,HW2.out,HL2.out,hxr.trans hx6,lG 9 h6 rfl⟩
      case measure=>simp [intOf]; omega
     ·obtain rfl : l.length = q:=by omega
      rw [List.drop_of_length_le (Nat.le_refl _)] at hgo
      have hgo' : res = F':=hgo.symm
      subst hgo'
      go_wp2_with fail
      go_ret
      exact ⟨rfl,hxr,lg hown⟩
   ·have hp : 0 < wc:=by omega
    rw [zt hz]
    rw [lu hp] at HWK ⊢
    clear hz
    go_enter Tryz.func85,Tryz.ntmps85
    go_upto_region 9 with (fail)
    have hd:=lj H
    have hxd:=(zR w).drew
    go_region_held3 (fun w'=>w'.cell? ⟨bj,0,none⟩ = some (.pointer (some ⟨bs,0,none⟩)) /\ w'.cell? ⟨bj,2,none⟩ = some (.int .i64 j.file)) (first | exact ⟨(la 6 hd rfl).1 0,(la 6 hd rfl).1 2⟩ | exact ⟨(la 7 h4 rfl).1 0,(la 7 h4 rfl).1 2⟩) ((go_at_call 69; refine (HWK.out _ hd).mono ?_; rintro e w4 ⟨vl,rfl,hx4,h4⟩))
    go_wp2_with fail
    go_ret
    exact ⟨rfl,hxd.trans hx4,lg h4⟩
 ·rw [zt h3]
  have d3 : (j.st != 3) = true:=bne_iff_ne.2 h3
  clear h3
  go_enter Tryz.func85,Tryz.ntmps85
  go_wp2_with fail
  go_ret
  exact ⟨rfl,zR _,H⟩
end Go.Proofs.YtbpblokfiajpjabGreatDoor
