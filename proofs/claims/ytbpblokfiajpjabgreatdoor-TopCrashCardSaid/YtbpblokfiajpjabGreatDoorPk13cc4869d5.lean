/- Lemmas on which TopAlone and TopCrash stands: the texts Jobs6 Jobs7 Jobs8 Jobs10 Jobs11 Jobs12 Jobs9 Chain19 Chain20 Jobs17 Jobs18 Yard1 Yard2 Yard3 Yard4. No conditions. -/
import Derived.Test.YtbpblokfiajpjabGreatDoorPk8bd5183cf2
set_option linter.all false
set_option maxRecDepth 1000000
set_option maxHeartbeats 32000000
namespace Go.Proofs.YtbpblokfiajpjabGreatDoor
open Go.RowKit Go.SL Go.Crc
attribute [local go_sem ↓] Go.wp_at_zero Go.wp_at_succ
section
variable {b : Nat} {F : ShM} {k : Nat} {m : ImgM}
theorem UR {A : Nat -> Nat×Nat×Nat} (hk : k < 5) (h : F k = some m) (hF : ShOk F) (c : Int) (R : List SL.HP) (w : World) (H : own w (shL b A F++R)) :
  Calls Tryz.prog 186 #[.pointer (some ⟨(A k).1,0,none⟩),.int .i64 c] w fun e w'=>e = .returned (errV (m.link c).1) /\ Ext w w' /\ own w' (shL b A (put F k (m.link c).2)++R):=
 (Wj _ _ _ m (hF.ok k m hk h) (by have:=hF.wr k m hk h; omega) c _ w (AE hk h H)).mono fun e w' ⟨h1,h2,h3⟩=>⟨h1,h2,DM hk h H h3⟩
theorem Kd {A : Nat -> Nat×Nat×Nat} (hk : k < 5) (h : F k = some m) (hF : ShOk F) (R : List SL.HP) (w : World) (H : own w (shL b A F++R)) :
  Calls Tryz.prog 172 #[.pointer (some ⟨(A k).1,0,none⟩)] w fun e w'=>e = .returned (.tuple #[]) /\ Ext w w' /\ own w' (shL b A (put F k m.flush)++R):=
 (CR _ _ _ m (hF.ok k m hk h).d _ w (AE hk h H)).mono fun e w' ⟨h1,h2,h3⟩=>⟨h1,h2,DM (m':=m.flush) hk h H h3⟩
end
theorem JP {F : ShM} {k : Nat} {m' : ImgM} {x : Int} (h : lz F x) : lz (put F k m') x:=by
 obtain ⟨h0,h1,m,hm⟩:=h
 refine ⟨h0,h1,?_⟩
 by_cases e : x.toNat = k
 ·exact ⟨m',by rw [e]; exact oU F k m'⟩
 ·exact ⟨m,by rw [Ak F m' e]; exact hm⟩
theorem K9 {N n : Nat} {F : ShM} {k : Nat} {m m' : ImgM} (h : ShW N F) (hk : k < 5) (hm : F k = some m) (s : Step n m m') : ShW (N + n) (put F k m'):=by
 have key : ∀q mq,q < 5 -> put F k m' q = some mq -> (q≠k /\ F q = some mq) \/ (q = k /\ mq = m'):=fun q mq _ hq=>by
  by_cases e : q = k
  ·subst e; rw [oU] at hq; exact .inr ⟨rfl,(Option.some.inj hq).symm⟩
  ·rw [Ak F m' e] at hq; exact .inl ⟨e,hq⟩
 refine ⟨fun q mq hq h'=>?_,fun q mq hq h'=>?_,fun q mq hq h'=>?_⟩
 ·rcases key q mq hq h' with ⟨-,h2⟩ | ⟨-,rfl⟩
  ·exact h.ok q mq hq h2
  ·exact s.ok
 ·rcases key q mq hq h' with ⟨-,h2⟩ | ⟨-,rfl⟩
  ·have:=h.wr q mq hq h2; omega
  ·have:=h.wr k m hk hm; have:=s.wr; omega
 ·rcases key q mq hq h' with ⟨-,h2⟩ | ⟨-,rfl⟩
  ·have:=h.pend q mq hq h2; omega
  ·have:=h.pend k m hk hm; have:=s.pend; omega
def flushI (F : ShM) (k : Nat) : ShM:=match F k with
 | some m=>put F k m.flush
 | none=>F
def oZ (F : ShM) : List Int -> ShM
 | []=>F
 | x::l=>oZ (flushI F x.toNat) l
theorem B5 {F : ShM} {k : Nat} {x : Int} (h : lz F x) : lz (flushI F k) x:=by
 unfold flushI
 split
 ·exact JP h
 ·exact h
theorem CX {N : Nat} {F : ShM} (h : ShW N F) {k : Nat} (hk : k < 5) : ShW N (flushI F k):=by
 unfold flushI
 split
 ·rename_i m hm; exact K9 h hk hm (zv (h.ok k m hk hm))
 ·exact h
theorem MZ {x : Int} {l : List Int} : ∀{F : ShM},lz F x -> lz (oZ F l) x:=by
 induction l with
 | nil=>intro F h; exact h
 | cons y l ih=>intro F h; exact ih (B5 h)
theorem EB {N : Nat} {l : List Int} : ∀{F : ShM},ShW N F -> (∀x∈l,lz F x) -> ShW N (oZ F l):=by
 induction l with
 | nil=>intro F h _; exact h
 | cons x l ih=>
  intro F h hl
  have hx:=hl x List.mem_cons_self
  exact ih (CX h (by have:=hx.1; have:=hx.2.1; omega)) (fun y hy=>B5 (hl y (List.mem_cons_of_mem _ hy)))
def linkI (F : ShM) (k : Nat) (c : Int) : Int×ShM:=match F k with
 | some m=>((m.link c).1,put F k (m.link c).2)
 | none=>(0,F)
theorem Sm {F : ShM} {k : Nat} {c x : Int} (h : lz F x) : lz (linkI F k c).2 x:=by
 unfold linkI
 split
 ·exact JP h
 ·exact h
theorem TH {N : Nat} {F : ShM} (h : ShW N F) (hN : N < 900000) {k : Nat} (hk : k < 5) (c : Int) : ShW (N + 1) (linkI F k c).2:=by
 unfold linkI
 split
 ·rename_i m hm; exact K9 h hk hm (EP (h.ok k m hk hm) (by have:=h.wr k m hk hm; omega) c)
 ·exact h.mono (by omega)
theorem Km (F : ShM) (k : Nat) (c : Int) : 0 <= (linkI F k c).1:=by
 unfold linkI
 split
 ·exact P7 _ _
 ·simp
def ll (F : ShM) (j : JobM) : Int×ShM×JobM:=
 if j.st≠3 then (9,F,j)
 else if j.kind = 2 then (if (linkI F (j.list.getD 0 0).toNat j.file).1≠0 then ((linkI F (j.list.getD 0 0).toNat j.file).1,(linkI F (j.list.getD 0 0).toNat j.file).2,{ j with st:=5 }) else (0,(linkI F (j.list.getD 0 0).toNat j.file).2,j))
 else if (lr F j.file).2≠0 then ((lr F j.file).2,F,j) else (0,oZ F (lr F j.file).1,j)
theorem Sv {F : ShM} {j : JobM} (h : j.Ok) : (ll F j).2.2.Ok:=by
 unfold ll
 split
 ·exact h
 ·split
  ·split
   ·exact { h with st:=by simp }
   ·exact h
  ·split <;> exact h
theorem AW {N : Nat} {F : ShM} (hW : ShW N F) (hN : N < 900000) {j : JobM} (hj : j.Ok) (hS : JobS F j) : ShW (N + 1) (ll F j).2.1:=by
 have h0:=hS.list _ (mem0 hj.pos)
 have hk : (j.list.getD 0 0).toNat < 5:=by have:=h0.1; have:=h0.2.1; omega
 unfold ll
 split
 ·exact hW.mono (by omega)
 ·split
  ·split <;> exact TH hW hN hk _
  ·split
   ·exact hW.mono (by omega)
   ·exact (EB hW (zo F j.file)).mono (by omega)
theorem Nu {F : ShM} {j : JobM} {x : Int} (h : lz F x) : lz (ll F j).2.1 x:=by
 unfold ll
 split
 ·exact h
 ·split
  ·split <;> exact Sm h
  ·split
   ·exact h
   ·exact MZ h
theorem Gw (F : ShM) (j : JobM) : 0 <= (ll F j).1:=by
 unfold ll
 split
 ·simp
 ·split
  ·split
   ·exact Km _ _ _
   ·simp
  ·split
   ·exact Ar
   ·simp
theorem IT (bs : Nat) (A : Nat -> Nat×Nat×Nat) (F : ShM) (N : Nat) (hW : ShW N F) (hN : N < 900000) (bj bt bb : Nat) (v : Value) (j : JobM) (hj : j.Ok) (hS : JobS F j) (R : List SL.HP) (w : World)
  (hv : ∀w' L,own w' (L++R) -> lW w' v j.list) (H : own w (shL bs A F++(jobL bs bj bt bb v j++R))) :
  Calls Tryz.prog 85 #[.pointer (some ⟨bj,0,none⟩)] w fun e w'=>e = .returned (errV (ll F j).1) /\ Ext w w' /\ own w' (shL bs A (ll F j).2.1++(jobL bs bj bt bb v (ll F j).2.2++R)):=by
 have hF : ShOk F:=hW.sh hN
 have c7:=(ld 6 H rfl).1 7
 unfold ll
 by_cases h3 : j.st = 3
 ·rw [zq (fun h=>h h3)]
  have d7 : w.cell? ⟨bj,7,none⟩ = some (.int .i64 3):=by rw [<- h3]; exact c7
  clear c7 h3
  by_cases h2 : j.kind = 2
  ·rw [zt h2]
   have c1 : w.cell? ⟨bj,1,none⟩ = some (.int .i64 2):=by rw [<- h2]; exact (ld 6 H rfl).1 1
   have hvw:=zw hv (jobL bs bj bt bb v j)
   obtain ⟨ao,lb,off,cap,rfl,hlc,hcap,hao,-⟩:=(hvw w _ H).form
   obtain rfl:=hao (by have:=hj.pos; omega)
   have hpos : 0 < j.list.length:=by have:=hj.pos; omega
   have l0 : (0 : Int) < (j.list.length : Int):=by omega
   obtain ⟨k,m,hxk,hk,hFk⟩:=oF (hS.list _ (mem0 hj.pos))
   have c0:=(ld 6 H rfl).1 0
   have c2:=(ld 6 H rfl).1 2
   have c3:=(ld 6 H rfl).1 3
   have c9 : w.cell? ⟨lb,off,none⟩ = some (.int .i64 (k : Int)):=by rw [<- hxk]; exact zx (hvw _ _ H) hpos
   have g1:=ou H hk
   rw [lU hFk] at g1
   have i1 : (0 : Int) <= (k : Int):=by omega
   have i2 : (k : Int) < 5:=by omega
   have HL:=zh (fun w' h=>UR (b:=bs) (A:=A) hk hFk hF j.file (jobL bs bj bt bb (.slice (some ⟨lb,off,none⟩) j.list.length cap) j++R) w' h)
   have hc:=Km F k j.file
   rw [hxk,zn]
   rw [show linkI F k j.file = ((m.link j.file).1,put F k (m.link j.file).2) by unfold linkI; rw [hFk]] at hc ⊢
   dsimp only at hc ⊢
   generalize put F k (m.link j.file).2 = F' at *
   generalize (m.link j.file).1 = lc at *
   clear hv hvw hao hlc hxk h2 hFk
   by_cases hlz : lc = 0
   ·subst hlz
    rw [zq (by decide)]
    rw [show errV 0 = .nilIface from rfl] at HL
    go_enter Tryz.func85,Tryz.ntmps85
    go_upto_region 4 with (fail)
    go_still_tail 17,(by kernel_rfl)
    change wpList _ _ _ _ _ w.drew
    go_wp2_with fail
    refine (HL.out _ (ln H)).mono ?_
    rintro e w2 ⟨rfl,hx2,h2'⟩
    go_wp2_with fail
    go_ret
    exact ⟨rfl,(zR w).drew.trans hx2,h2'⟩
   ·have hp : 0 < lc:=by omega
    rw [zt hlz]
    rw [lv hp] at HL ⊢
    clear hlz
    go_enter Tryz.func85,Tryz.ntmps85
    go_upto_region 4 with (fail)
    go_still_tail 17,(by kernel_rfl)
    change wpList _ _ _ _ _ w.drew
    go_wp2_with fail
    refine (HL.out _ (ln H)).mono ?_
    rintro e w2 ⟨rfl,hx2,h2'⟩
    clear c0 c1 c2 c3 c9 g1 d7
    have c7:=(ld 6 h2' rfl).1 7
    have f7:=(ld 6 h2' rfl).2 7
    have h6 : own (w2.setCell ⟨bj,7,none⟩ (.int .i64 5)) (shL bs A F'++(jobL bs bj bt bb (.slice (some ⟨lb,off,none⟩) j.list.length cap) { j with st:=5 }++R)):=lp (i:=7) (v:=.int .i64 5) 6 h2' rfl
    go_wp2_with fail
    go_ret
    exact ⟨rfl,((zR w).drew.trans hx2).setCell _ _,h6⟩
  ·rw [zq h2]
   have d2 : (j.kind == 2) = false:=by rw [zb]; exact h2
   have c1:=(ld 6 H rfl).1 1
   have hwk:=fun w' h=>Cq bs A F hF j.file (jobL bs bj bt bb v j++R) w' h
   have hfl:=zo F j.file
   have hwc : 0 <= (lr F j.file).2:=Ar
   have HWK:=zh hwk
   unfold BH at HWK
   generalize lr F j.file = S at *
   obtain ⟨l,wc⟩:=S
   dsimp only at hfl hwc HWK ⊢
   have HFL:=zh hfl
   have HSW:=zh hW
   have HN:=zh hN
   clear hwk h2 hfl hF hW hN hv
   by_cases hz : wc = 0
   ·subst hz
    rw [zq (by decide)]
    rw [show errV 0 = .nilIface from rfl] at HWK
    generalize hres : oZ F l = res
    have HRES:=zh hres
    clear hres
    go_enter Tryz.func85,Tryz.ntmps85
    go_upto_region 9 with (fail)
    have hd:=ln H
    have hxd:=(zR w).drew
    go_region_held3 (fun w'=>w'.cell? ⟨bj,0,none⟩ = some (.pointer (some ⟨bs,0,none⟩)) /\ w'.cell? ⟨bj,2,none⟩ = some (.int .i64 j.file)) (first | exact ⟨(ld 6 hd rfl).1 0,(ld 6 hd rfl).1 2⟩ | exact ⟨(ld 7 h4 rfl).1 0,(ld 7 h4 rfl).1 2⟩) ((go_at_call 69; refine (HWK.out _ hd).mono ?_; rintro e w4 ⟨vl,rfl,hx4,h4⟩))
    have hx5:=hxd.trans hx4
    clear hd hxd hx4 c1 d7 d2 H
    have hil:=oz 0 h4 rfl
    obtain ⟨ao,lb,off,cap,rfl,hlc,hcap,hao,-⟩:=hil.form
    have HAO:=zh hao
    clear hao hil
    go_wp2_with fail
    go_loopw [60] (fun i wr=>∃(q : Nat) (F' : ShM),q <= l.length /\ i = .int .i64 q /\ oZ F' (l.drop q) = res /\ ShW N F' /\ (∀x∈l,lz F' x) /\ Ext w wr /\ own wr (row 3 1 (.slice ao l.length cap) l.length (lq l)::(shL bs A F'++(jobL bs bj bt bb v j++R)))) (fun i _=>l.length - (intOf i).toNat)
    case atStart=>exact ⟨0,F,Nat.zero_le _,rfl,HRES.out,HSW.out,HFL.out,hx5,h4⟩
    case round=>
     obtain ⟨q,F',hq,rfl,hgo,hW',hl',hxr,hown⟩:=hrel
     by_cases hlt : q < l.length
     ·obtain rfl:=HAO.out (by omega)
      have g0:=zx (oz 0 hown rfl) hlt
      rw [BS 0 hlt] at hgo
      obtain ⟨k,m,hxk,hk,hFk⟩:=oF (hl' (l.getD q 0) (by simp [hlt]))
      rw [hxk] at g0
      have hgo' : oZ (put F' k m.flush) (l.drop (q + 1)) = res:=by
       rw [<- hgo]
       show _ = oZ (flushI F' (l.getD q 0).toNat) _
       rw [hxk,zn]
       unfold flushI
       rw [hFk]
      have c0:=(ld 7 hown rfl).1 0
      have hsh:=lg hown
      have g1:=ou hsh hk
      rw [lU hFk] at g1
      have i1 : (0 : Int) <= (k : Int):=by omega
      have i2 : (k : Int) < 5:=by omega
      have j1 : (0 : Int) <= (q : Int):=by omega
      have j2 : (q : Int) < (l.length : Int):=by omega
      have HFU:=zh (Kd (b:=bs) (A:=A) hk hFk (hW'.sh HN.out) (jobL bs bj bt bb v j++(row 3 1 (.slice (some ⟨lb,off,none⟩) l.length cap) l.length (lq l)::R)) wr)
      have HW2:=zh (K9 hW' hk hFk (zv (hW'.ok k m hk hFk)))
      have HL2:=zh (fun x hx=>JP (k:=k) (m':=m.flush) (hl' x hx))
      have HGO:=zh hgo'
      have HOW:=zh hown
      clear hgo hgo' hxk hW' hl' hsh hown
      go_wp2_with fail
      refine (HFU.out (by have:=lC (shL bs A F'++jobL bs bj bt bb v j) (by simpa [zp] using HOW.out); simpa [zp] using this)).mono ?_
      rintro e w6 ⟨rfl,hx6,h6⟩
      go_wp2_with fail
      go_roundw
      case rel=>exact ⟨q + 1,_,by omega,by go_num,HGO.out,HW2.out,HL2.out,hxr.trans hx6,lE 9 h6 rfl⟩
      case measure=>simp [intOf]; omega
     ·obtain rfl : l.length = q:=by omega
      rw [List.drop_of_length_le (Nat.le_refl _)] at hgo
      have hgo' : res = F':=hgo.symm
      subst hgo'
      go_wp2_with fail
      go_ret
      exact ⟨rfl,hxr,lg hown⟩
   ·have hp : 0 < wc:=by omega
    rw [zt hz]
    rw [lv hp] at HWK ⊢
    clear hz
    go_enter Tryz.func85,Tryz.ntmps85
    go_upto_region 9 with (fail)
    have hd:=ln H
    have hxd:=(zR w).drew
    go_region_held3 (fun w'=>w'.cell? ⟨bj,0,none⟩ = some (.pointer (some ⟨bs,0,none⟩)) /\ w'.cell? ⟨bj,2,none⟩ = some (.int .i64 j.file)) (first | exact ⟨(ld 6 hd rfl).1 0,(ld 6 hd rfl).1 2⟩ | exact ⟨(ld 7 h4 rfl).1 0,(ld 7 h4 rfl).1 2⟩) ((go_at_call 69; refine (HWK.out _ hd).mono ?_; rintro e w4 ⟨vl,rfl,hx4,h4⟩))
    go_wp2_with fail
    go_ret
    exact ⟨rfl,hxd.trans hx4,lg h4⟩
 ·rw [zt h3]
  have d3 : (j.st != 3) = true:=bne_iff_ne.2 h3
  clear h3
  go_enter Tryz.func85,Tryz.ntmps85
  go_wp2_with fail
  go_ret
  exact ⟨rfl,zR _,H⟩
end Go.Proofs.YtbpblokfiajpjabGreatDoor
namespace Go.Proofs.YtbpblokfiajpjabGreatDoor
open Go.RowKit Go.SL Go.Crc
attribute [local go_sem ↓] Go.wp_at_zero Go.wp_at_succ
def Yr (bs : Nat) (v : Value) (j : JobM) (i : Nat) : Value:=
 if i = 0 then .pointer (some ⟨bs,0,none⟩) else if i = 1 then .int .i64 j.root else if i = 2 then .int .i64 j.kind else if i = 3 then .int .i64 j.file else if i = 4 then .int .i64 j.rate
 else if i = 5 then .int .i64 j.burst else if i = 6 then v else if i = 7 then .int .i64 (X9 j : Nat) else if i = 8 then .int .i64 (j.n : Nat) else if i = 73 then .int .i64 ((j.at_ : Nat) - 1 : Int)
 else if i = 74 then .int .i64 j.st else if i = 75 then .int .i64 j.rate else if i = 76 then .int .i64 j.burst else if i = 77 then .int .i64 j.level else .bool (j.x.testBit (i - 9))
def Ya (bs : Nat) (v : Value) (j : JobM) : Array Value:=Array.ofFn (n:=78) fun i=>Yr bs v j i
def Ww (bs br : Nat) (v : Value) (j : JobM) : SL.HP:=pts br (.cells (Ya bs v j) 149 (0,0))


def zj (f : Int) : Nat -> List Int -> Int
 | _,[]=>-1
 | i,x::l=>if x = f then (i : Int) else zj f (i + 1) l
def zy (l : List Int) (f : Int) : Int:=zj f 0 l
theorem MI {f : Int} : ∀{l : List Int} {i : Nat},zj f i l = -1 \/ ((i : Int) <= zj f i l /\ zj f i l < (i : Int) + l.length):=by
 intro l
 induction l with
 | nil=>intro i; exact .inl rfl
 | cons x l ih=>
  intro i
  rw [zj]
  split
  ·right; simp only [List.length_cons]; omega
  ·rcases ih (i:=i + 1) with h | h
   ·exact .inl h
   ·right; simp only [List.length_cons]; omega
def bkOf (F : ShM) (x : Int) : Int:=match F x.toNat with
 | some m=>m.b
 | none=>-1
def Ch (F : ShM) : List Int -> Int -> Prop
 | [],_=>True
 | x::l,e=>bkOf F x = l.headD e /\ Ch F l e
theorem Ch.snoc {F : ShM} {x : Int} : ∀{l : List Int},Ch F l x -> Ch F (l++[x]) (bkOf F x):=by
 intro l
 induction l with
 | nil=>intro _; exact ⟨rfl,trivial⟩
 | cons y l ih=>
  intro h
  refine ⟨?_,ih h.2⟩
  have h1:=h.1
  cases l with
  | nil=>exact h1
  | cons z l=>exact h1
theorem Ch.same {F : ShM} : ∀{l l' : List Int} {x : Int},(∀y∈l,0 <= y) -> (∀y∈l',0 <= y) -> Ch F (x::l) (-1) -> Ch F (x::l') (-1) -> l = l':=by
 intro l
 induction l with
 | nil=>
  intro l' x _ h' h1 h2
  cases l' with
  | nil=>rfl
  | cons z l'=>
   have a:=h1.1
   have b:=h2.1
   have c:=h' z List.mem_cons_self
   simp only [List.headD] at a b
   omega
 | cons y l ih=>
  intro l' x h h' h1 h2
  cases l' with
  | nil=>
   have a:=h1.1
   have b:=h2.1
   have c:=h y List.mem_cons_self
   simp only [List.headD] at a b
   omega
  | cons z l'=>
   have a:=h1.1
   have b:=h2.1
   simp only [List.headD] at a b
   have e : y = z:=by omega
   subst e
   rw [ih (fun q hq=>h q (List.mem_cons_of_mem _ hq)) (fun q hq=>h' q (List.mem_cons_of_mem _ hq)) h1.2 h2.2]
theorem Ch.tail {F : ShM} {e : Int} : ∀{p l : List Int},Ch F (p++l) e -> Ch F l e:=by
 intro p
 induction p with
 | nil=>intro l h; exact h
 | cons y p ih=>intro l h; exact ih h.2
theorem Ch.nodup {F : ShM} : ∀{l : List Int},(∀y∈l,0 <= y) -> Ch F l (-1) -> l.Nodup:=by
 intro l
 induction l with
 | nil=>intro _ _; exact List.nodup_nil
 | cons x l ih=>
  intro h hc
  refine List.nodup_cons.2 ⟨fun hx=>?_,ih (fun q hq=>h q (List.mem_cons_of_mem _ hq)) hc.2⟩
  obtain ⟨p,q,hpq⟩:=List.append_of_mem hx
  have h2 : Ch F (x::q) (-1):=Ch.tail (p:=p) (by rw [<- hpq]; exact hc.2)
  have hs:=Ch.same (fun y hy=>h y (List.mem_cons_of_mem _ hy)) (fun y hy=>h y (List.mem_cons_of_mem _ (by rw [hpq]; exact List.mem_append.2 (.inr (List.mem_cons_of_mem _ hy))))) hc h2
  have:=congrArg List.length hpq
  rw [hs] at this
  simp at this
  omega
theorem T5 {F : ShM} {root : Int} : ∀{n : Nat} {l : List Int} {at_ : Int},n + l.length = 6 -> l.length <= 5 -> Ch F l at_ -> (∀y∈l,0 <= y) -> (ym F root n l at_).2 = 0 -> (ym F root n l at_).1.Nodup:=by
 intro n
 induction n with
 | zero=>
  intro l at_ hn h5
  omega
 | succ n ih=>
  intro l at_ hn h5 hc hl
  rw [ym]
  split
  ·rename_i h1
   intro _
   rw [h1] at hc
   exact Ch.nodup hl hc
  ·split
   ·intro h; exact absurd h (by decide)
   ·split
    ·intro h; exact absurd h (by decide)
    ·rename_i h2 m hm
     split
     ·intro h; exact absurd h (by decide)
     ·split
      ·intro h; exact absurd h (by decide)
      ·rename_i h6 h7
       refine ih (by simp; omega) (by simp; omega) ?_ ?_
       ·have:=Ch.snoc hc
        rw [show bkOf F at_ = m.b by unfold bkOf; rw [hm]] at this
        exact this
       ·intro y hy
        rcases List.mem_append.1 hy with h | h
        ·exact hl y h
        ·rw [List.mem_singleton.1 h]; omega
theorem KH {F : ShM} {root : Int} (h : (lr F root).2 = 0) : (lr F root).1.Nodup:=T5 rfl (by decide) trivial (fun y hy=>by cases hy) h
theorem NW {f : Int} : ∀{l : List Int} {i : Nat},f∉l -> zj f i l = -1:=by
 intro l
 induction l with
 | nil=>intro i _; rfl
 | cons x l ih=>
  intro i h
  rw [zj,zq (fun e=>h (by rw [e]; exact List.mem_cons_self)),ih (fun hm=>h (List.mem_cons_of_mem _ hm))]
theorem LN (v : Value) (l : List Int) (f : Int) (hl5 : l.length <= 5) (w : World) (hv : lW w v l) :
  Calls Tryz.prog 73 #[v,.int .i64 f] w fun e w'=>e = .returned (.int .i64 (zy l f)) /\ w = w':=by
 obtain ⟨ao,lb,off,cap,rfl,hlc,hcap,hao,hat⟩:=hv.form
 generalize hres : zy l f = res
 unfold zy at hres
 have HRES:=zh hres
 have HAO:=zh hao
 have HAT:=zh hat
 clear hres hao hat hv
 go_enter Tryz.func73,Tryz.ntmps73
 go_wp2_with fail
 go_loop [9] (fun i=>∃q : Nat,q <= l.length /\ i = .int .i64 q /\ zj f q (l.drop q) = res) (fun i=>l.length - (intOf i).toNat)
 case atStart=>exact ⟨0,Nat.zero_le _,rfl,HRES.out⟩
 case round=>
  obtain ⟨q,hq,rfl,hgo⟩:=hrel
  by_cases hlt : q < l.length
  ·obtain rfl:=HAO.out (by omega)
   have c1:=HAT.out q hlt
   rw [BS 0 hlt,zj] at hgo
   have j1 : (0 : Int) <= (q : Int):=by omega
   have j2 : (q : Int) < (l.length : Int):=by omega
   generalize l.getD q 0 = x at *
   by_cases hx : x = f
   ·subst hx
    rw [zt rfl] at hgo
    subst hgo
    go_wp2_with fail
    go_ret
    exact ⟨rfl,rfl⟩
   ·rw [zq hx] at hgo
    have HGO:=zh hgo
    have d0 : (x == f) = false:=by rw [zb]; exact hx
    clear hgo hx
    go_wp2_with fail
    go_round
    case rel=>exact ⟨q + 1,by omega,by go_num,HGO.out⟩
    case measure=>simp [intOf]; omega
  ·obtain rfl : l.length = q:=by omega
   rw [List.drop_of_length_le (Nat.le_refl _)] at hgo
   have hgo' : res = -1:=hgo.symm
   subst hgo'
   clear hgo
   go_wp2_with fail
   go_ret
   exact ⟨rfl,rfl⟩
def ya (F : ShM) (j : JobM) : Nat -> Nat
  | 0=>0
  | c + 1=>(oY j.n (ya F j c) (c : Int) (oQ F j (c : Int))).2
theorem Jv (F : ShM) (j : JobM) (hn : j.n <= 64) : ∀c,ya F j c < 2 ^ j.n
  | 0=>Nat.two_pow_pos _
  | c + 1=>Fu hn (Jv F j hn c) _ _
theorem Ng (F : ShM) (j : JobM) (hn : j.n <= 64) : ∀c q,c <= q -> q < 64 -> (ya F j c).testBit q = false
  | 0,q,_,_=>by simp [ya]
  | c + 1,q,h,h64=>by
    have ih:=Ng F j hn c q (by omega) h64
    rw [ya]
    cases hp : (oY j.n (ya F j c) (c : Int) (oQ F j (c : Int))).1
    · have : (oY j.n (ya F j c) (c : Int) (oQ F j (c : Int))).2 = ya F j c:=by
        unfold oY at hp ⊢
        split at hp
        · cases hp
        · rename_i h; rw [zq h]
      rw [this]
      exact ih
    · rw [MA h64 hp,zq (by omega)]
      exact ih
theorem Wk (F : ShM) (j : JobM) (hn : j.n <= 64) {c : Nat} (hc : c < j.n) : ∀q,q < 64 -> (ya F j (c + 1)).testBit q = if q = c then oQ F j (c : Int) else (ya F j c).testBit q:=by
  intro q hq
  rw [ya]
  have h0:=Ng F j hn c c (Nat.le_refl _) (by omega)
  cases hp : (oY j.n (ya F j c) (c : Int) (oQ F j (c : Int))).1
  · unfold oY at hp ⊢
    split at hp
    · cases hp
    · rename_i h
      rw [zq h]
      by_cases e : q = c
      · subst e
        rw [zt rfl,h0]
        cases hw : oQ F j (q : Int)
        · rfl
        · exfalso
          apply h
          refine ⟨by omega,by omega,?_⟩
          rw [zn,h0,hw]
          decide
      · rw [zq e]
  · rw [MA hq hp,zn]
def IM (F : ShM) (x : Int) : Bool:=decide (0 <= x) && decide (x < 5) && (F x.toNat).isSome
theorem DI {F : ShM} {x : Int} : IM F x = true↔lz F x:=by
  unfold IM lz
  simp only [Bool.and_eq_true,decide_eq_true_eq,Option.isSome_iff_exists,and_assoc]
def jNew (F : ShM) (root kind file rate burst : Int) (l : List Int) (deep : Nat) : JobM:=
  { root:=root,kind:=kind,file:=file,rate:=rate,burst:=burst,list:=l,deep:=deep,n:=(clus F root).toNat,x:=0,at_:=0,st:=2,level:=burst }
def zK (F : ShM) (j : JobM) : JobM:={ j with x:=ya F j j.n }
def newM (F : ShM) (root kind file rate burst : Int) : Option JobM×Int:=
  if (lr F root).2≠0 then (none,(lr F root).2)
  else if (lr F root).1.length = 0 then (none,4)
  else if BZ rate burst = false then (none,1)
  else if kind = 1 then
    (if IM F file = false then (none,4)
     else if 0 <= zy (lr F root).1 file \/ bkOf F file≠-1 \/ clus F file≠clus F root then (none,2)
     else (some (zK F (jNew F root kind file rate burst (lr F root).1 0)),0))
  else if kind = 2 /\ file = -1 then (some (zK F (jNew F root kind file rate burst (lr F root).1 (lr F root).1.length)),0)
  else if kind = 2 \/ kind = 3 then
    (if zy (lr F root).1 file < 1 then (none,4) else (some (zK F (jNew F root kind file rate burst (lr F root).1 (zy (lr F root).1 file).toNat)),0))
  else (none,1)
theorem PV {F : ShM} {root : Int} : ∀{n : Nat} {l : List Int} {at_ : Int},(∀y,l.head? = some y -> y = root) -> (l = [] -> at_ = root) -> ∀y,(ym F root n l at_).1.head? = some y -> y = root:=by
  intro n
  induction n with
  | zero=>intro l at_ h _; exact h
  | succ n ih=>
    intro l at_ h h2
    rw [ym]
    split
    · exact h
    · split
      · intro y hy; cases hy
      · split
        · intro y hy; cases hy
        · split
          · intro y hy; cases hy
          · split
            · intro y hy; cases hy
            · refine ih ?_ (by simp)
              intro y hy
              cases l with
              | nil=>simp at hy; rw [<- hy]; exact h2 rfl
              | cons z l=>exact h y (by simpa using hy)
theorem If {F : ShM} {root : Int} (h : (lr F root).1.length≠0) : lz F root:=by
  have h1:=PV (F:=F) (root:=root) (n:=6) (l:=[]) (at_:=root) (fun y hy=>by cases hy) (fun _=>rfl)
  have h2:=zo F root
  cases hw : (lr F root).1 with
  | nil=>rw [hw] at h; exact absurd rfl h
  | cons z l=>
    have e : z = root:=h1 z (by show (lr F root).1.head? = _; rw [hw]; rfl)
    rw [<- e]
    exact h2 z (by rw [hw]; exact List.mem_cons_self)
theorem zZ {F : ShM} (hF : ShOk F) {x : Int} (h : lz F x) : 1 <= clus F x /\ clus F x <= 32:=by
  obtain ⟨k,m,rfl,hk,hm⟩:=oF h
  rw [Au hm]
  have:=(hF.ok k m hk hm).head
  unfold lH at this
  omega
theorem Uc {r u : Int} : BZ r u = true↔0 <= r /\ r <= 1000 /\ 0 <= u /\ u <= 1000:=by unfold BZ; simp
theorem Fk {F : ShM} (hF : ShOk F) {root kind file rate burst : Int} {deep : Nat} (hr : lz F root) (hl5 : (lr F root).1.length <= 5) (h0 : (lr F root).1.length≠0) (ho : BZ rate burst = true) (hk : kind = 1 \/ kind = 2 \/ kind = 3) (hd : deep <= (lr F root).1.length) :
    (zK F (jNew F root kind file rate burst (lr F root).1 deep)).Ok:=by
  have hc:=zZ hF hr
  obtain ⟨a,b,c,d⟩:=Uc.1 ho
  have hn : (jNew F root kind file rate burst (lr F root).1 deep).n <= 64:=by show (clus F root).toNat <= 64; omega
  exact ⟨hk,hn,Jv F _ hn _,hl5,h0,hd,⟨a,b⟩,⟨c,d⟩,⟨c,Int.le_refl _⟩,Nat.zero_le _,(⟨by decide,by decide⟩ : (1 : Int) <= 2 /\ (2 : Int) <= 5)⟩
theorem Fc (l : List Int) (f : Int) : zy l f = -1 \/ (0 <= zy l f /\ zy l f < l.length):=by
  have:=MI (f:=f) (l:=l) (i:=0)
  unfold zy
  omega
theorem Pd {f : Int} : ∀{l : List Int} {i : Nat},0 <= zj f i l -> f∈l:=by
  intro l
  induction l with
  | nil=>intro i h; exact absurd (show (0 : Int) <= -1 from h) (by decide)
  | cons x l ih=>
    intro i h
    rw [zj] at h
    split at h
    · rename_i e; rw [e]; exact List.mem_cons_self
    · exact List.mem_cons_of_mem _ (ih h)
theorem G6 {F : ShM} (hF : ShOk F) {root kind file rate burst : Int} (hl5 : (lr F root).1.length <= 5) {j : JobM} (h : (newM F root kind file rate burst).1 = some j) : j.Ok /\ JobS F j:=by
  unfold newM at h
  split at h
  · cases h
  · split at h
    · cases h
    · rename_i h0
      split at h
      · cases h
      · rename_i ho
        have ho : BZ rate burst = true:=by simpa using ho
        have hr:=If h0
        have hf:=zo F root
        split at h
        · rename_i hk
          split at h
          · cases h
          · rename_i hfi
            split at h
            · cases h
            · cases h
              exact ⟨Fk hF hr hl5 h0 ho (.inl hk) (Nat.zero_le _),hf,fun _=>(DI.1 (by simpa using hfi) : lz F file)⟩
        · split at h
          · rename_i hk
            cases h
            exact ⟨Fk hF hr hl5 h0 ho (.inr (.inl hk.1)) (Nat.le_refl _),hf,fun h2=>absurd hk.1 h2⟩
          · split at h
            · rename_i hk
              split at h
              · cases h
              · rename_i hp
                cases h
                have hpr:=Fc (lr F root).1 file
                exact ⟨Fk hF hr hl5 h0 ho (.inr hk) (by omega),hf,fun _=>(hf _ (Pd (i:=0) (by show 0 <= zy (lr F root).1 file; omega)) : lz F file)⟩
            · cases h

section
variable {b b2 : Nat} {A : Nat -> Nat×Nat×Nat} {A2 : Nat -> Nat×Nat} {F : ShM} {R : List SL.HP} {w : World} {k : Nat}
end
end Go.Proofs.YtbpblokfiajpjabGreatDoor
namespace Go.Proofs.YtbpblokfiajpjabGreatDoor
open Go.RowKit Go.SL Go.Crc
attribute [local go_sem ↓] Go.wp_at_zero Go.wp_at_succ
theorem EN {R : List SL.HP} (hT : ∀w' L,own w' (L++R) -> A0 w') (X : List SL.HP) : ∀w' L,own w' (L++(X++R)) -> A0 w':=fun w' L h=>hT w' (L++X) (by rwa [zp])
end Go.Proofs.YtbpblokfiajpjabGreatDoor
namespace Go.Proofs.YtbpblokfiajpjabGreatDoor
open Go.RowKit Go.SL Go.Crc
def yy (j j' : JobM) : Prop:=j'.list = j.list /\ j'.kind = j.kind /\ j'.file = j.file /\ j'.root = j.root /\ j'.n = j.n
theorem yy.refl (j : JobM) : yy j j:=⟨rfl,rfl,rfl,rfl,rfl⟩
theorem QN (j : JobM) : yy j (An j):=by
 unfold An
 split
 ·exact ⟨rfl,rfl,rfl,rfl,rfl⟩
 ·split <;> exact ⟨rfl,rfl,rfl,rfl,rfl⟩
theorem yy.turn {j j2 : JobM} (h : yy j j2) : yy j (An j2):=by
 obtain ⟨a,b,c,d,e⟩:=QN j2
 exact ⟨a.trans h.1,b.trans h.2.1,c.trans h.2.2.1,d.trans h.2.2.2.1,e.trans h.2.2.2.2⟩
theorem Pj (j : JobM) (n : Int) : yy j (AP j n):=by
 unfold AP
 split <;> exact ⟨rfl,rfl,rfl,rfl,rfl⟩
theorem Po (j : JobM) (c : Int) : yy j (zl j c):=by
 unfold zl
 split
 ·exact yy.turn ⟨rfl,rfl,rfl,rfl,rfl⟩
 ·exact yy.refl j
theorem IQ (j : JobM) (on : Bool) : yy j (yX j on).2:=by
 unfold yX
 split
 ·split
  ·exact ⟨rfl,rfl,rfl,rfl,rfl⟩
  ·exact yy.refl j
 ·split
  ·exact yy.turn (j:=j) (j2:={ j with st:=1 }) ⟨rfl,rfl,rfl,rfl,rfl⟩
  ·exact yy.refl j
theorem Bl (F : ShM) (j : JobM) : yy j (lk F j).2.2:=by
 unfold lk
 split
 ·exact yy.refl j
 ·split
  ·exact yy.refl j
  ·split
   ·exact ⟨rfl,rfl,rfl,rfl,rfl⟩
   ·exact yy.turn ⟨rfl,rfl,rfl,rfl,rfl⟩
theorem Es (F : ShM) (j : JobM) : yy j (ll F j).2.2:=by
 unfold ll
 split
 ·exact yy.refl j
 ·split
  ·split
   ·exact ⟨rfl,rfl,rfl,rfl,rfl⟩
   ·exact yy.refl j
  ·split <;> exact yy.refl j
theorem JobS.same {F : ShM} {j j' : JobM} (h : JobS F j) (s : yy j j') : JobS F j':=
 ⟨fun x hx=>h.list x (by rw [<- s.1]; exact hx),fun h2=>by rw [s.2.2.1]; exact h.file (by rw [<- s.2.1]; exact h2)⟩
theorem JobS.files {F F' : ShM} {j : JobM} (h : JobS F j) (hf : ∀x,lz F x -> lz F' x) : JobS F' j:=⟨fun x hx=>hf x (h.list x hx),fun h2=>hf _ (h.file h2)⟩
end Go.Proofs.YtbpblokfiajpjabGreatDoor
namespace Go.Proofs.YtbpblokfiajpjabGreatDoor
open Go.RowKit Go.SL Go.Crc
attribute [local go_sem ↓] Go.wp_at_zero Go.wp_at_succ
structure lR where
 root : Int
 kind : Int
 file : Int
 rate : Int
 burst : Int
def lA (r : Int) : lR:=⟨r,0,-1,0,0⟩
def lR.v (d : lR) : Value:=zO d.root d.kind d.file d.rate d.burst
def lR.f (d : lR) : Int:=yH d.root d.kind d.file d.rate d.burst
def lR.s (d : lR) : ByteArray:=zM d.root d.kind d.file d.rate d.burst
structure le where
 F : ShM
 D : Nat -> DevM
 top : DevM
 dk : lR
 list : List Int
 job : Option JobM
structure YA where
 y : Nat
 bs : Nat
 tp : Nat
 A : Nat -> Nat×Nat×Nat
 v : Value
 bj : Nat
 bt : Nat
 bb : Nat
 vj : Value
def oK (A : Nat -> Nat×Nat×Nat) (F : ShM) (D : Nat -> DevM) (k : Nat) : HP:=match F k with
 | none=>lj (A k).2.1 (D k)
 | some _=>emp
def jobV (bj : Nat) (j : Option JobM) : Value:=match j with
 | none=>.pointer none
 | some _=>.pointer (some ⟨bj,0,none⟩)
def M6 (Y : YA) (j : Option JobM) : HP:=match j with
 | none=>emp
 | some j=>star (jobL Y.bs Y.bj Y.bt Y.bb Y.vj j++[row 3 1 Y.vj j.list.length (lq j.list)])
def yC (Y : YA) (m : le) : Array Value:=#[.pointer (some ⟨(Y.A 0).2.1,0,none⟩),.pointer (some ⟨(Y.A 1).2.1,0,none⟩),.pointer (some ⟨(Y.A 2).2.1,0,none⟩),.pointer (some ⟨(Y.A 3).2.1,0,none⟩),.pointer (some ⟨(Y.A 4).2.1,0,none⟩),.pointer (some ⟨Y.tp,0,none⟩),.pointer (some ⟨Y.bs,0,none⟩),.int .i64 m.dk.root,.int .i64 m.dk.kind,.int .i64 m.dk.file,.int .i64 m.dk.rate,.int .i64 m.dk.burst,Y.v,jobV Y.bj m.job]
def yT (Y : YA) (m : le) : List SL.HP:=[pts Y.y (.cells (yC Y m) 165 (0,0)),oK Y.A m.F m.D 0,oK Y.A m.F m.D 1,oK Y.A m.F m.D 2,oK Y.A m.F m.D 3,oK Y.A m.F m.D 4,lj Y.tp m.top,row 3 1 Y.v m.list.length (lq m.list),M6 Y m.job]
abbrev yL (Y : YA) (m : le) (R : List SL.HP) : List SL.HP:=shL Y.bs Y.A m.F++(yT Y m++R)
structure RA where
 y : Nat
 bs : Nat
 tp : Nat
 A : Nat -> Nat×Nat
 v : Value
 bj : Nat
 vj : Value
def Ae (m : le) : Bool:=match m.job with
 | none=>false
 | some j=>decide (j.st < 4)
def A1 (m : le) (file : Int) : Bool:=decide (file∈m.list) || (Ae m && decide (m.dk.file = file))
def lx (m : le) (d : lR) : Int×le:=
 if (m.top.write 0 d.s).1≠0 then ((m.top.write 0 d.s).1,{ m with top:=(m.top.write 0 d.s).2 }) else (0,{ m with top:=(m.top.write 0 d.s).2.flush,dk:=d })
def devOf (m : le) (k : Nat) : DevM:=match m.F k with
 | some i=>i.d
 | none=>m.D k
def cut (F : ShM) (k : Nat) : ShM:=fun j=>if j = k then none else F j
def setD (D : Nat -> DevM) (k : Nat) (d : DevM) : Nat -> DevM:=fun j=>if j = k then d else D j
def yR (c : Int) (d : DevM) : Int:=Int.tdiv ((d.fl.length : Int) - 1 - (lt c.toNat : Nat)) 4
def yt (m : le) (file : Nat) (back : Int) : Int×ImgM:=oE (devOf m file) (clus m.F m.dk.root) (yR (clus m.F m.dk.root) (devOf m file)) back
def lZ (m : le) (file back : Int) : Int×le:=
 if file < 0 \/ 5 <= file then (1,m) else if A1 m file then (5,m)
 else if (yt m file.toNat back).1≠0 then ((yt m file.toNat back).1,{ m with F:=cut m.F file.toNat,D:=setD m.D file.toNat (yt m file.toNat back).2.d })
 else (0,{ m with F:=put m.F file.toNat (yt m file.toNat back).2 })
def AC (m : le) (file : Int) : Int×le:=
 if Ae m then (8,m) else if m.list.length = 4 then (6,m)
 else if (lZ m file m.dk.root).1≠0 then lZ m file m.dk.root
 else if (lx (lZ m file m.dk.root).2 (lA file)).1≠0 then lx (lZ m file m.dk.root).2 (lA file)
 else (0,{ (lx (lZ m file m.dk.root).2 (lA file)).2 with list:=file::m.list })
def zP (m : le) (kind file rate burst : Int) : Int×le:=
 if Ae m then (8,m) else if kind = 0 then (1,m)
 else if yH m.dk.root kind file rate burst≠0 then (yH m.dk.root kind file rate burst,m)
 else match newM m.F m.dk.root kind file rate burst with
  | (none,f)=>(f,m)
  | (some j,_)=>if (lx m ⟨m.dk.root,kind,file,rate,burst⟩).1≠0 then lx m ⟨m.dk.root,kind,file,rate,burst⟩
   else ((yX j false).1,{ (lx m ⟨m.dk.root,kind,file,rate,burst⟩).2 with job:=some (yX j false).2 })
def AN (m : le) (j : JobM) (root : Int) (well : Bool) : Int×le:=
 if (lx m (lA root)).1≠0 then lx m (lA root)
 else (0,{ (lx m (lA root)).2 with job:=some (endM j well),list:=(lr m.F root).1 })
def zU (m : le) : (Bool×Int)×le:=match m.job with
 | none=>((false,4),m)
 | some j=>if 4 <= j.st then ((false,4),m)
  else
   let m1 : le:={ m with F:=(lk m.F j).2.1,job:=some (lk m.F j).2.2 }
   if (lk m.F j).1.2≠0 then ((false,(lk m.F j).1.2),if (lk m.F j).2.2.st < 4 then m1 else (lx m1 (lA m.dk.root)).2)
   else if m.dk.kind≠2 \/ (lk m.F j).2.2.st≠3 then (((lk m.F j).1.1,0),m1)
   else
    let S:=ll m1.F (lk m.F j).2.2
    let m2 : le:={ m with F:=S.2.1,job:=some S.2.2 }
    if S.1≠0 then ((false,S.1),(lx m2 (lA m.dk.root)).2)
    else
     let m3 : le:={ m2 with list:=(lr m2.F m.dk.root).1,job:=some (endM S.2.2 true) }
     ((true,0),{ (lx m3 (lA m.dk.root)).2 with dk:=lA m.dk.root })
def zV (m : le) : Int×le:=match m.job with
 | none=>(4,m)
 | some j=>if 4 <= j.st then (4,m) else if m.dk.kind = 2 then (9,m)
  else if (ll m.F j).1≠0 then ((ll m.F j).1,{ m with F:=(ll m.F j).2.1,job:=some (ll m.F j).2.2 })
  else AN { m with F:=(ll m.F j).2.1,job:=some (ll m.F j).2.2 } (ll m.F j).2.2 m.dk.file true
def zc (m : le) : Int×le:=match m.job with
 | none=>(4,m)
 | some j=>if 4 <= j.st then (4,m) else AN m j m.dk.root false
def zk (m : le) (on : Bool) : Int×le:=match m.job with
 | none=>(4,m)
 | some j=>if 4 <= j.st then (4,m) else ((yX j on).1,{ m with job:=some (yX j on).2 })
def zQ (m : le) (n : Int) : Int×le:=
 if n < 0 \/ 100000 < n then (1,m) else match m.job with
 | none=>(0,m)
 | some j=>if 4 <= j.st then (0,m) else (0,{ m with job:=some (AP j n) })
def Ey (m : le) : Value:=match m.job with
 | none=>.agg #[.int .i64 0,.int .i64 (-1),.int .i64 0,.int .i64 0]
 | some j=>Fq j
def armM (m : le) (file n : Int) : Int×le:=
 if file < -1 \/ 5 <= file \/ n < 0 then (1,m) else if file = -1 then (0,{ m with top:={ m.top with fail:=n } })
 else match m.F file.toNat with
  | some i=>(0,{ m with F:=put m.F file.toNat { i with d:={ i.d with fail:=n } } })
  | none=>(0,{ m with D:=setD m.D file.toNat { m.D file.toNat with fail:=n } })
def ob (j : JobM) (c : Int) : Nat -> JobM
 | 0=>j
 | n + 1=>ob (zl j c) (c + 1) n
def oS (m : le) (from_ n : Int) : le:=match m.job with
 | none=>m
 | some j=>if n = 0 then m else { m with job:=some (ob j (from_ / 4) ((from_ + n - 1) / 4 - from_ / 4 + 1).toNat) }
def AD (m : le) : le:={ m with F:=oZ m.F m.list }
structure YOk (N : Nat) (m : le) : Prop where
 sh : ShW N m.F
 dv : ∀k,k < 5 -> m.F k = none -> (m.D k).Ok /\ (m.D k).writes <= N /\ (m.D k).pend.length <= N
 tp : m.top.Ok /\ m.top.writes <= N /\ m.top.pend.length <= N /\ 1 <= m.top.fl.length
 walk : lr m.F m.dk.root = (m.list,0)
 root : lz m.F m.dk.root
 jok : ∀j,m.job = some j -> j.Ok
 job : ∀j,m.job = some j -> j.st < 4 -> JobS m.F j /\ j.list = m.list /\ j.kind = m.dk.kind /\ j.file = m.dk.file /\ j.root = m.dk.root
theorem Bz {Y : YA} {m : le} {R : List SL.HP} {w : World} (H : own w (yL Y m R)) : ∀i,w.cell? ⟨Y.y,i,none⟩ = (yC Y m)[i]?:=(ld 6 H rfl).1
theorem BO {Y : YA} {m : le} {R : List SL.HP} {w : World} (H : own w (yL Y m R)) : ∀i,w.frozen? ⟨Y.y,i,none⟩ = false:=(ld 6 H rfl).2
theorem y_tp {Y : YA} {m : le} {R : List SL.HP} {w : World} (H : own w (yL Y m R)) : w.cell? ⟨Y.y,5,none⟩ = some (.pointer (some ⟨Y.tp,0,none⟩)):=Bz H 5
theorem y_bs {Y : YA} {m : le} {R : List SL.HP} {w : World} (H : own w (yL Y m R)) : w.cell? ⟨Y.y,6,none⟩ = some (.pointer (some ⟨Y.bs,0,none⟩)):=Bz H 6
theorem yM {Y : YA} {m : le} {R : List SL.HP} {w : World} (H : own w (yL Y m R)) : w.cell? ⟨Y.y,7,none⟩ = some (.int .i64 m.dk.root):=Bz H 7
theorem Cb {Y : YA} {m : le} {R : List SL.HP} {w : World} (H : own w (yL Y m R)) : w.cell? ⟨Y.y,8,none⟩ = some (.int .i64 m.dk.kind):=Bz H 8
theorem Ca {Y : YA} {m : le} {R : List SL.HP} {w : World} (H : own w (yL Y m R)) : w.cell? ⟨Y.y,9,none⟩ = some (.int .i64 m.dk.file):=Bz H 9
theorem Ev {Y : YA} {m : le} {R : List SL.HP} {w : World} (H : own w (yL Y m R)) : w.cell? ⟨Y.y,10,none⟩ = some (.int .i64 m.dk.rate):=Bz H 10
theorem Dn {Y : YA} {m : le} {R : List SL.HP} {w : World} (H : own w (yL Y m R)) : w.cell? ⟨Y.y,11,none⟩ = some (.int .i64 m.dk.burst):=Bz H 11
theorem BQ {Y : YA} {m : le} {R : List SL.HP} {w : World} (H : own w (yL Y m R)) : w.cell? ⟨Y.y,12,none⟩ = some Y.v:=Bz H 12
theorem FC {Y : YA} {m : le} {R : List SL.HP} {w : World} (H : own w (yL Y m R)) : w.cell? ⟨Y.y,13,none⟩ = some (jobV Y.bj m.job):=Bz H 13
theorem Bi {Y : YA} {m : le} {R : List SL.HP} {w : World} (H : own w (yL Y m R)) {k : Nat} (hk : k < 5) : w.cell? ⟨Y.y,k,none⟩ = some (.pointer (some ⟨(Y.A k).2.1,0,none⟩)):=by
 rw [Bz H k]
 match k,hk with
 | 0,_=>rfl
 | 1,_=>rfl
 | 2,_=>rfl
 | 3,_=>rfl
 | 4,_=>rfl
theorem DQ {Y : YA} {m : le} {R : List SL.HP} {w : World} (H : own w (yL Y m R)) : lW w Y.v m.list:=oz 13 H rfl
theorem Bq {Y : YA} {m : le} {j : JobM} (h : m.job = some j) {R : List SL.HP} {w : World} (H : own w (yL Y m R)) :
  own w (shL Y.bs Y.A m.F++(jobL Y.bs Y.bj Y.bt Y.bb Y.vj j++(row 3 1 Y.vj j.list.length (lq j.list)::((yT Y m).take 8++R)))):=by
 have h1:=lE 14 H rfl
 have hj : M6 Y m.job = star (jobL Y.bs Y.bj Y.bt Y.bb Y.vj j++[row 3 1 Y.vj j.list.length (lq j.list)]):=by rw [h]; rfl
 rw [hj] at h1
 have h2:=Ju h1
 have h3 : own w ((jobL Y.bs Y.bj Y.bt Y.bb Y.vj j++[row 3 1 Y.vj j.list.length (lq j.list)])++(shL Y.bs Y.A m.F++((yT Y m).take 8++R))):=h2
 have h4:=lu (jobL Y.bs Y.bj Y.bt Y.bb Y.vj j++[row 3 1 Y.vj j.list.length (lq j.list)]) (shL Y.bs Y.A m.F) h3
 simpa only [zp,List.singleton_append] using h4
theorem II {Y : YA} {m : le} {j : JobM} (h : m.job = some j) {R : List SL.HP} {w : World}
  (H : own w (shL Y.bs Y.A m.F++(jobL Y.bs Y.bj Y.bt Y.bb Y.vj j++(row 3 1 Y.vj j.list.length (lq j.list)::((yT Y m).take 8++R))))) : own w (yL Y m R):=by
 have h1 : own w (shL Y.bs Y.A m.F++((jobL Y.bs Y.bj Y.bt Y.bb Y.vj j++[row 3 1 Y.vj j.list.length (lq j.list)])++((yT Y m).take 8++R))):=by
  simpa only [zp,List.singleton_append] using H
 have h2:=lu (shL Y.bs Y.A m.F) (jobL Y.bs Y.bj Y.bt Y.bb Y.vj j++[row 3 1 Y.vj j.list.length (lq j.list)]) h1
 have h3:=AV (jobL Y.bs Y.bj Y.bt Y.bb Y.vj j++[row 3 1 Y.vj j.list.length (lq j.list)]) h2
 have hj : M6 Y m.job = star (jobL Y.bs Y.bj Y.bt Y.bb Y.vj j++[row 3 1 Y.vj j.list.length (lq j.list)]):=by rw [h]; rfl
 rw [<- hj] at h3
 have h4 : own w (M6 Y m.job::((shL Y.bs Y.A m.F++(yT Y m).take 8)++R)):=by rw [zp]; exact h3
 have h5:=lC (shL Y.bs Y.A m.F++(yT Y m).take 8) h4
 rw [zp] at h5
 exact h5
theorem IC {Y : YA} {m : le} {R : List SL.HP} {w : World} (o : Obj) (H : own w (yL Y m R)) : own (w.alloc o) (yL Y m (pts w.heap.size o::R)):=by
 have h:=lC (shL Y.bs Y.A m.F++yT Y m) (R:=R) (by rw [zp]; exact lh H o)
 rwa [zp] at h
theorem A8 {Y : YA} {m : le} {P : SL.HP} {R : List SL.HP} {w : World} (H : own w (yL Y m (P::R))) : own w (yL Y m R):=li 15 H rfl
theorem KT {Y : YA} {m : le} {R : List SL.HP} {w : World} (H : own w (yL Y m R)) : own w (lj Y.tp m.top::(yL Y m R).eraseIdx 12):=lE 12 H rfl
theorem MD {Y : YA} {m : le} {R : List SL.HP} {w0 w : World} {d : DevM} (H0 : own w0 (yL Y m R)) (H : own w (lj Y.tp d::(yL Y m R).eraseIdx 12)) : own w (yL Y { m with top:=d } R):=oT H0 12 rfl H
theorem MJ {fn : Func} {t : Tmp} (h : fn.results = #[.cell t 24]) (tmps : Array Value) (w : World) (g : Nat) (r k f a b : Int) (hg : tmps.getD t undef = .pointer (some ⟨g,0,none⟩))
  (h0 : w.cell? ⟨g,0,none⟩ = some (.int .i64 r)) (h1 : w.cell? ⟨g,1,none⟩ = some (.int .i64 k)) (h2 : w.cell? ⟨g,2,none⟩ = some (.int .i64 f)) (h3 : w.cell? ⟨g,3,none⟩ = some (.int .i64 a)) (h4 : w.cell? ⟨g,4,none⟩ = some (.int .i64 b)) :
  (results fn tmps).run Tryz.prog w = .ok (.agg #[.int .i64 r,.int .i64 k,.int .i64 f,.int .i64 a,.int .i64 b]) w:=by
 rw [D1 h,hg]
 go_simp
theorem Cx (r : Int) (R : List SL.HP) (w : World) (H : own w R) :
  Calls Tryz.prog 126 #[.int .i64 r] w fun e w'=>e = .returned (lA r).v /\ Ext w w' /\ own w' R:=by
 have ha:=lh H (.cells #[.int .i64 0,.int .i64 0,.int .i64 0,.int .i64 0,.int .i64 0] 24)
 have hxa:=(zR w).alloc (.cells #[.int .i64 0,.int .i64 0,.int .i64 0,.int .i64 0,.int .i64 0] 24)
 go_enter Tryz.func126,Tryz.ntmps126
 go_upto_region 1 with (fail)
 generalize w.heap.size = g at *
 generalize w.alloc (.cells #[.int .i64 0,.int .i64 0,.int .i64 0,.int .i64 0,.int .i64 0] 24) = w1 at *
 obtain ⟨cg,fg⟩:=ld 0 ha rfl
 go_wp2_with fail
 have h5:=lp (i:=4) (v:=.int .i64 0) 0 (lp (i:=3) (v:=.int .i64 0) 0 (lp (i:=2) (v:=.int .i64 (-1)) 0 (lp (i:=1) (v:=.int .i64 0) 0 (lp (i:=0) (v:=.int .i64 r) 0 ha rfl) rfl) rfl) rfl) rfl
 obtain ⟨c3,-⟩:=ld 0 h5 rfl
 refine bodyPost_ret (MJ rfl _ _ g r 0 (-1) 0 0 rfl (c3 0) (c3 1) (c3 2) (c3 3) (c3 4)) rfl ?_
 exact ⟨rfl,((((hxa.setCell _ _).setCell _ _).setCell _ _).setCell _ _).setCell _ _,lg h5⟩
theorem Bc (Y : YA) (m : le) (R : List SL.HP) (w : World) (H : own w (yL Y m R)) :
  Calls Tryz.prog 145 #[.pointer (some ⟨Y.y,0,none⟩)] w fun e w'=>e = .returned (.bool (Ae m)) /\ w = w':=by
 have cj:=FC H
 unfold Ae
 cases hj : m.job with
 | none=>
  rw [hj] at cj
  change w.cell? ⟨Y.y,13,none⟩ = some (.pointer none) at cj
  clear H hj
  generalize Y.y = y at *
  go_enter Tryz.func145,Tryz.ntmps145
  go_wp2_with fail
  go_ret
  exact ⟨rfl,rfl⟩
 | some j=>
  rw [hj] at cj
  change w.cell? ⟨Y.y,13,none⟩ = some (.pointer (some ⟨Y.bj,0,none⟩)) at cj
  have HG:=zh (Ic Y.bs Y.bj Y.bt Y.bb Y.vj j _ w (lu (shL Y.bs Y.A m.F) (jobL Y.bs Y.bj Y.bt Y.bb Y.vj j) (Bq hj H)))
  clear H hj
  generalize Y.y = y at *
  generalize Y.bj = bj at *
  go_enter Tryz.func145,Tryz.ntmps145
  go_wp2_with fail
  refine HG.out.mono ?_
  rintro e w' ⟨rfl,rfl⟩
  go_wp2_with fail
  go_ret
  exact ⟨by simp,rfl⟩
theorem U9 (Y : YA) (m : le) (hl : m.list.length <= 5) (file : Int) (R : List SL.HP) (w : World) (H : own w (yL Y m R)) :
  Calls Tryz.prog 248 #[.pointer (some ⟨Y.y,0,none⟩),.int .i64 file] w fun e w'=>e = .returned (.bool (A1 m file)) /\ w = w':=by
 have cl:=BQ H
 have cf:=Ca H
 obtain ⟨ao,lb,off,cap,hY,hlc,hcap,hao,hat⟩:=(DQ H).form
 rw [hY] at cl
 have HB:=zh (Bc Y m R w H)
 have HAO:=zh hao
 have HAT:=zh hat
 unfold A1
 generalize Ae m = by_ at *
 generalize m.dk.file = df at *
 clear H hY hao hat
 generalize Y.y = y at *
 generalize m.list = l at *
 go_enter Tryz.func248,Tryz.ntmps248
 go_wp2_with fail
 go_loop [12] (fun i=>∃q : Nat,q <= l.length /\ i = .int .i64 q /\ (file∈l↔file∈l.drop q)) (fun i=>l.length - (intOf i).toNat)
 case atStart=>exact ⟨0,Nat.zero_le _,rfl,Iff.rfl⟩
 case round=>
  obtain ⟨q,hq,rfl,hgo⟩:=hrel
  by_cases hlt : q < l.length
  ·obtain rfl:=HAO.out (by omega)
   have c1:=HAT.out q hlt
   rw [BS 0 hlt,List.mem_cons] at hgo
   have j1 : (0 : Int) <= (q : Int):=by omega
   have j2 : (q : Int) < (l.length : Int):=by omega
   generalize l.getD q 0 = x at *
   by_cases hx : x = file
   ·have d0 : (x == file) = true:=by rw [hx]; simp
    replace hgo : file∈l:=hgo.2 (.inl hx.symm)
    have HGO:=zh hgo
    clear hgo hx
    go_wp2_with fail
    go_ret
    exact ⟨by first | (simp [HGO.out]; done) | (simp [HGO.out]; rfl),rfl⟩
   ·have d0 : (x == file) = false:=by rw [zb]; exact hx
    replace hgo : file∈l↔file∈l.drop (q + 1):=hgo.trans ⟨fun h=>h.resolve_left fun e=>hx e.symm,.inr⟩
    have HGO:=zh hgo
    clear hgo hx
    go_wp2_with fail
    go_round
    case rel=>exact ⟨q + 1,by omega,by go_num,HGO.out⟩
    case measure=>simp [intOf]; omega
  ·obtain rfl : l.length = q:=by omega
   rw [List.drop_of_length_le (Nat.le_refl _)] at hgo
   replace hgo : ¬file∈l:=fun h=>by cases hgo.1 h
   have HGO:=zh hgo
   clear hgo
   go_wp2_with fail
   refine HB.out.mono ?_
   rintro e w' ⟨rfl,rfl⟩
   cases by_
   ·go_wp2_with fail
    go_ret
    exact ⟨by first | (simp [HGO.out]; done) | (simp [HGO.out]; rfl),rfl⟩
   ·go_wp2_with fail
    go_ret
    exact ⟨by first | (simp [HGO.out]; done) | (simp [HGO.out]; rfl),rfl⟩
theorem Bk (Y : YA) (m : le) (ht : m.top.Ok) (hw : m.top.writes < 999000) (hp : m.top.pend.length < 999000) (d : lR) (hf : d.f = 0) (R : List SL.HP) (w : World) (H : own w (yL Y m R)) :
  Calls Tryz.prog 128 #[.pointer (some ⟨Y.y,0,none⟩),d.v] w fun e w'=>e = .returned (errV (lx m d).1) /\ Ext w w' /\ own w' (yL Y (lx m d).2 R):=by
 obtain ⟨r,k,f,a,b⟩:=d
 have hb:=IC (.cells #[.int .i64 r,.int .i64 k,.int .i64 f,.int .i64 a,.int .i64 b] 24) H
 have hxb:=(zR w).alloc (.cells #[.int .i64 r,.int .i64 k,.int .i64 f,.int .i64 a,.int .i64 b] 24)
 have HD:=zh (fun (R : List SL.HP) w' h=>O1 r k f a b R w' h)
 have hf' : yH r k f a b = 0:=hf
 rw [hf'] at HD
 generalize hres : lx m ⟨r,k,f,a,b⟩ = res
 unfold lx at hres
 unfold lR.v zO
 have hs : (lR.mk r k f a b).s.size <= 9223372036854775807:=by
  show (zM r k f a b).size <= _
  unfold zM
  rw [BT (by simp)]
  decide
 have HS : Hid (zM r k f a b = (lR.mk r k f a b).s):=zh rfl
 rw [zt rfl,lS,HS.out] at HD
 generalize (lR.mk r k f a b).s = s at *
 have HW:=zh (fun (R : List SL.HP) w' h=>BP Y.tp m.top ht 0 s hs (by omega) (by omega) R w' h)
 have hok:=DevM.write_ok ht 0 s (by omega) (by omega)
 have hcode : 0 <= (m.top.write 0 s).1:=o5 _ _ _
 have HP : Hid (∀w0 w' R d,own w0 (yL Y m R) -> own w' (lj Y.tp d::(yL Y m R).eraseIdx 12) -> own w' (yL Y { m with top:=d } R)):=zh fun w0 w' R d h0 h=>MD h0 h
 unfold zO at HD
 generalize m.top.write 0 s = S at *
 obtain ⟨c,t⟩:=S
 dsimp only at hcode hok HW hres
 have HRES:=zh hres
 clear hres
 clear H hf hf' HS ht hw hp hs
 go_enter Tryz.func128,Tryz.ntmps128
 go_upto_region 1 with (fail)
 generalize w.heap.size = g at *
 generalize w.alloc (.cells #[.int .i64 r,.int .i64 k,.int .i64 f,.int .i64 a,.int .i64 b] 24) = w1 at *
 have cd:=(ld 15 hb rfl).1
 have d0:=cd 0
 have d1:=cd 1
 have d2:=cd 2
 have d3:=cd 3
 have d4:=cd 4
 clear cd
 go_wp2_with fail
 refine (HD.out _ w1 hb).mono ?_
 rintro e w2 ⟨rfl,hx2,h2⟩
 have ct:=y_tp h2
 clear d0 d1 d2 d3 d4
 go_wp2_with fail
 refine (HW.out _ w2 (KT h2)).mono ?_
 rintro e w3 ⟨rfl,hx3,h3⟩
 have h4:=HP.out _ _ _ t h2 h3
 by_cases hc : c = 0
 ·subst hc
  rw [zq (by decide)] at HRES
  rw [lS]
  have ct:=y_tp h4
  go_wp2_with fail
  refine (Cz Y.tp t hok _ w3 (KT h4)).mono ?_
  rintro e w4 ⟨rfl,hx4,h5⟩
  have h6 : own w4 (yL Y { m with top:=t.flush } (pts g (.cells #[.int .i64 r,.int .i64 k,.int .i64 f,.int .i64 a,.int .i64 b] 24 (0,0))::R)):=oT h4 12 rfl h5
  have cd:=(ld 15 h6 rfl).1
  have d0:=cd 0
  have d1:=cd 1
  have d2:=cd 2
  have d3:=cd 3
  have d4:=cd 4
  have fy:=BO h6
  have e7:=yM h6
  have e8:=Cb h6
  have e9:=Ca h6
  have e10:=Ev h6
  have e11:=Dn h6
  clear ct cd
  have h7:=lp (i:=11) (v:=.int .i64 b) 6 (lp (i:=10) (v:=.int .i64 a) 6 (lp (i:=9) (v:=.int .i64 f) 6 (lp (i:=8) (v:=.int .i64 k) 6 (lp (i:=7) (v:=.int .i64 r) 6 h6 rfl) rfl) rfl) rfl) rfl
  have h8 : own _ (yL Y { m with top:=t.flush,dk:=⟨r,k,f,a,b⟩ } (pts g (.cells #[.int .i64 r,.int .i64 k,.int .i64 f,.int .i64 a,.int .i64 b] 24 (0,0))::R)):=h7
  clear h7 h6 h5 h4 h3
  go_wp2_with fail
  go_ret
  rw [<- HRES.out]
  exact ⟨rfl,((((((((hxb.trans hx2).trans hx3).trans hx4).setCell _ _).setCell _ _).setCell _ _).setCell _ _).setCell _ _),A8 h8⟩
 ·rw [zt hc] at HRES
  rw [lv (e:=c) (by omega)]
  go_wp2_with fail
  go_ret
  rw [<- HRES.out]
  exact ⟨by rw [lv (e:=c) (by omega)]; rfl,(hxb.trans hx2).trans hx3,A8 h4⟩
theorem Jn {w : World} {l : List SL.HP} (k : Nat) {P : SL.HP} (H : own w l) (hk : l[k]? = some P) : own w (P::l.set k emp):=by
 refine y7 (fun h hh=>?_) (lE k H hk)
 have h2 : star ([P]++l.eraseIdx k) h:=hh
 refine zX (fun _ x=>x) (fun h3 h4=>?_) hh
 have hlt : k < l.length:=by
  rcases Nat.lt_or_ge k l.length with h | h
  ·exact h
  ·rw [List.getElem?_eq_none h] at hk; cases hk
 refine Bw k (P:=emp) (by rw [List.getElem?_set_self hlt]) ?_
 rw [List.eraseIdx_set_eq]
 exact KW h4
theorem zW {w : World} {l : List SL.HP} (k : Nat) {P : SL.HP} (H : own w (P::l)) (hk : l[k]? = some emp) : own w (l.set k P):=by
 refine y7 (fun h hh=>?_) H
 have hlt : k < l.length:=by
  rcases Nat.lt_or_ge k l.length with h | h
  ·exact h
  ·rw [List.getElem?_eq_none h] at hk; cases hk
 refine Bw k (P:=P) (by rw [List.getElem?_set_self hlt]) ?_
 rw [List.eraseIdx_set_eq]
 exact zX (fun _ x=>x) (fun h3 h4=>Mw (DS k hk h4)) hh
def stA (A : Nat -> Nat×Nat×Nat) (k : Nat) (a : Nat×Nat×Nat) : Nat -> Nat×Nat×Nat:=fun j=>if j = k then a else A j
def Yk (A : Nat -> Nat×Nat) (k : Nat) (a : Nat×Nat) : Nat -> Nat×Nat:=fun j=>if j = k then a else A j
theorem Ka (Y : YA) (m : le) (R : List SL.HP) {k : Nat} (hk : k < 5) : (yL Y m R)[1 + k]? = some (oG Y.A m.F k):=Lm hk
theorem O2 (Y : YA) (m : le) (R : List SL.HP) {k : Nat} (hk : k < 5) : (yL Y m R)[7 + k]? = some (oK Y.A m.F m.D k):=by
 match k,hk with
 | 0,_=>rfl
 | 1,_=>rfl
 | 2,_=>rfl
 | 3,_=>rfl
 | 4,_=>rfl
theorem DB {Y : YA} {m : le} {R : List SL.HP} {w : World} {k : Nat} (hk : k < 5) (h : m.F k = none) (H : own w (yL Y m R)) : own w (lj (Y.A k).2.1 (m.D k)::(yL Y m R).set (7 + k) emp):=by
 have h1:=Jn (7 + k) H (O2 Y m R hk)
 have hp : oK Y.A m.F m.D k = lj (Y.A k).2.1 (m.D k):=by unfold oK; rw [h]
 rwa [hp] at h1
theorem Si (Y : YA) (m : le) (R : List SL.HP) {k : Nat} (hk : k < 5) (h : m.F k = none) (d : DevM) : ((yL Y m R).set (7 + k) emp).set (7 + k) (lj (Y.A k).2.1 d) = yL Y { m with D:=setD m.D k d } R:=by
 have hs : ∀j,j≠k -> oK Y.A m.F (setD m.D k d) j = oK Y.A m.F m.D j:=fun j hj=>by unfold oK setD; rw [zq hj]
 have hk' : oK Y.A m.F (setD m.D k d) k = lj (Y.A k).2.1 d:=by unfold oK setD; rw [h,zt rfl]
 rw [List.set_set]
 match k,hk with
 | 0,_=>show _ = shL _ _ _++(yT _ _++R); unfold yT; dsimp only; rw [hk',hs 1 (by decide),hs 2 (by decide),hs 3 (by decide),hs 4 (by decide)]; rfl
 | 1,_=>show _ = shL _ _ _++(yT _ _++R); unfold yT; dsimp only; rw [hk',hs 0 (by decide),hs 2 (by decide),hs 3 (by decide),hs 4 (by decide)]; rfl
 | 2,_=>show _ = shL _ _ _++(yT _ _++R); unfold yT; dsimp only; rw [hk',hs 0 (by decide),hs 1 (by decide),hs 3 (by decide),hs 4 (by decide)]; rfl
 | 3,_=>show _ = shL _ _ _++(yT _ _++R); unfold yT; dsimp only; rw [hk',hs 0 (by decide),hs 1 (by decide),hs 2 (by decide),hs 4 (by decide)]; rfl
 | 4,_=>show _ = shL _ _ _++(yT _ _++R); unfold yT; dsimp only; rw [hk',hs 0 (by decide),hs 1 (by decide),hs 2 (by decide),hs 3 (by decide)]; rfl
theorem Gf {Y : YA} {m : le} {R : List SL.HP} {w : World} {k : Nat} (hk : k < 5) (h : m.F k = none) {d : DevM} (H : own w (lj (Y.A k).2.1 d::(yL Y m R).set (7 + k) emp)) : own w (yL Y { m with D:=setD m.D k d } R):=by
 have hlt : 7 + k < (yL Y m R).length:=by
  show _ < (shL _ _ _++(yT _ _++R)).length
  unfold yT shL
  simp
  omega
 have h1:=zW (7 + k) H (by rw [List.getElem?_set_self hlt])
 rwa [Si Y m R hk h] at h1
theorem Kn {Y : YA} {m : le} {R : List SL.HP} {w : World} {k : Nat} (hk : k < 5) (H : own w (yL Y m R)) : own w (lj (Y.A k).2.1 (devOf m k)::((yL Y m R).set (1 + k) emp).set (7 + k) emp):=by
 cases h : m.F k with
 | none=>
  have h1:=DB hk h H
  have hd : devOf m k = m.D k:=by unfold devOf; rw [h]
  have hs : (yL Y m R).set (1 + k) emp = yL Y m R:=by
   have hp : (yL Y m R)[1 + k]? = some emp:=by rw [Ka Y m R hk]; unfold oG; rw [h]
   obtain ⟨hlt,he⟩:=zS.1 hp
   have:=List.set_getElem_self hlt
   rwa [he] at this
  rw [hd,hs]
  exact h1
 | some i=>
  have h1:=Jn (1 + k) H (Ka Y m R hk)
  have hp : oG Y.A m.F k = star [lL (Y.A k).1 (Y.A k).2.1 (Y.A k).2.2 i,lj (Y.A k).2.1 i.d]:=by unfold oG; rw [h]
  have hd : devOf m k = i.d:=by unfold devOf; rw [h]
  rw [hp] at h1
  have h2:=lg (Ju h1)
  have hs : ((yL Y m R).set (1 + k) emp).set (7 + k) emp = (yL Y m R).set (1 + k) emp:=by
   have hp : ((yL Y m R).set (1 + k) emp)[7 + k]? = some emp:=by rw [List.getElem?_set_ne (by omega),O2 Y m R hk]; unfold oK; rw [h]
   obtain ⟨hlt,he⟩:=zS.1 hp
   have:=List.set_getElem_self hlt
   rwa [he] at this
  rw [hd,hs]
  exact h2
theorem yh {A : Nat -> Nat×Nat×Nat} {F : ShM} {k j : Nat} (h : j≠k) : yE A (cut F k) j = yE A F j:=by unfold yE cut; rw [zq h]
theorem yg {A : Nat -> Nat×Nat×Nat} {F : ShM} {k j : Nat} (h : j≠k) : oG A (cut F k) j = oG A F j:=by unfold oG cut; rw [zq h]
theorem yd {A : Nat -> Nat×Nat×Nat} {F : ShM} {D : Nat -> DevM} {d : DevM} {k j : Nat} (h : j≠k) : oK A (cut F k) (setD D k d) j = oK A F D j:=by unfold oK cut setD; rw [zq h,zq h]
theorem CL {A : Nat -> Nat×Nat×Nat} {F : ShM} {k : Nat} : oG A (cut F k) k = emp:=by unfold oG cut; rw [zt rfl]
theorem C5 {A : Nat -> Nat×Nat×Nat} {F : ShM} {k : Nat} : yE A (cut F k) k = .pointer none:=by unfold yE cut; rw [zt rfl]
theorem Db {A : Nat -> Nat×Nat×Nat} {F : ShM} {D : Nat -> DevM} {d : DevM} {k : Nat} : oK A (cut F k) (setD D k d) k = lj (A k).2.1 d:=by unfold oK cut setD; rw [zt rfl,zt rfl]
theorem QV (Y : YA) (m : le) (R : List SL.HP) {k : Nat} (hk : k < 5) (d : DevM) :
  ((((yL Y m R).set (1 + k) emp).set (7 + k) emp).set 0 (pts Y.bs (.cells ((yk Y.A m.F).setIfInBounds k (.pointer none)) 111 (0,0)))).set (7 + k) (lj (Y.A k).2.1 d) = yL Y { m with F:=cut m.F k,D:=setD m.D k d } R:=by
 match k,hk with
 | 0,_=>show _ = shL _ _ _++(yT _ _++R); unfold yT shL yk; dsimp only; rw [CL,C5,Db,yg (j:=1) (by decide),yg (j:=2) (by decide),yg (j:=3) (by decide),yg (j:=4) (by decide),yh (j:=1) (by decide),yh (j:=2) (by decide),yh (j:=3) (by decide),yh (j:=4) (by decide),yd (j:=1) (by decide),yd (j:=2) (by decide),yd (j:=3) (by decide),yd (j:=4) (by decide)]; rfl
 | 1,_=>show _ = shL _ _ _++(yT _ _++R); unfold yT shL yk; dsimp only; rw [CL,C5,Db,yg (j:=0) (by decide),yg (j:=2) (by decide),yg (j:=3) (by decide),yg (j:=4) (by decide),yh (j:=0) (by decide),yh (j:=2) (by decide),yh (j:=3) (by decide),yh (j:=4) (by decide),yd (j:=0) (by decide),yd (j:=2) (by decide),yd (j:=3) (by decide),yd (j:=4) (by decide)]; rfl
 | 2,_=>show _ = shL _ _ _++(yT _ _++R); unfold yT shL yk; dsimp only; rw [CL,C5,Db,yg (j:=1) (by decide),yg (j:=0) (by decide),yg (j:=3) (by decide),yg (j:=4) (by decide),yh (j:=1) (by decide),yh (j:=0) (by decide),yh (j:=3) (by decide),yh (j:=4) (by decide),yd (j:=1) (by decide),yd (j:=0) (by decide),yd (j:=3) (by decide),yd (j:=4) (by decide)]; rfl
 | 3,_=>show _ = shL _ _ _++(yT _ _++R); unfold yT shL yk; dsimp only; rw [CL,C5,Db,yg (j:=1) (by decide),yg (j:=2) (by decide),yg (j:=0) (by decide),yg (j:=4) (by decide),yh (j:=1) (by decide),yh (j:=2) (by decide),yh (j:=0) (by decide),yh (j:=4) (by decide),yd (j:=1) (by decide),yd (j:=2) (by decide),yd (j:=0) (by decide),yd (j:=4) (by decide)]; rfl
 | 4,_=>show _ = shL _ _ _++(yT _ _++R); unfold yT shL yk; dsimp only; rw [CL,C5,Db,yg (j:=1) (by decide),yg (j:=2) (by decide),yg (j:=3) (by decide),yg (j:=0) (by decide),yh (j:=1) (by decide),yh (j:=2) (by decide),yh (j:=3) (by decide),yh (j:=0) (by decide),yd (j:=1) (by decide),yd (j:=2) (by decide),yd (j:=3) (by decide),yd (j:=0) (by decide)]; rfl
theorem Yq {Y : YA} {m : le} {R : List SL.HP} {w : World} {k : Nat} (hk : k < 5) (H : own w (yL Y m R)) : own (w.setCell ⟨Y.bs,k,none⟩ (.pointer none)) (yL Y { m with F:=cut m.F k,D:=setD m.D k (devOf m k) } R):=by
 have h1:=Kn hk H
 have h0 : (((yL Y m R).set (1 + k) emp).set (7 + k) emp)[0]? = some (pts Y.bs (.cells (yk Y.A m.F) 111 (0,0))):=by
  rw [List.getElem?_set_ne (by omega),List.getElem?_set_ne (by omega)]; rfl
 have h2:=lp (i:=k) (v:=.pointer none) 1 h1 (by rw [List.getElem?_cons_succ]; exact h0)
 rw [List.set_cons_succ] at h2
 have hlt : 7 + k < (yL Y m R).length:=by
  show _ < (shL _ _ _++(yT _ _++R)).length
  unfold yT shL
  simp
  omega
 have h3:=zW (7 + k) h2 (by rw [List.getElem?_set_ne (by omega),List.getElem?_set_self (by simpa using hlt)])
 rwa [QV Y m R hk] at h3
theorem oL {A : Nat -> Nat×Nat×Nat} {F : ShM} {k j : Nat} {i : ImgM} {a : Nat×Nat×Nat} (h : j≠k) : yE (stA A k a) (put F k i) j = yE A F j:=by unfold yE put stA; rw [zq h,zq h]
theorem oN {A : Nat -> Nat×Nat×Nat} {F : ShM} {k j : Nat} {i : ImgM} {a : Nat×Nat×Nat} (h : j≠k) : oG (stA A k a) (put F k i) j = oG A F j:=by unfold oG put stA; rw [zq h,zq h]
theorem oM {A : Nat -> Nat×Nat×Nat} {F : ShM} {D : Nat -> DevM} {k j : Nat} {i : ImgM} {a : Nat×Nat×Nat} (h : j≠k) : oK (stA A k a) (put F k i) D j = oK A F D j:=by unfold oK put stA; rw [zq h,zq h]
theorem Cd {A : Nat -> Nat×Nat×Nat} {F : ShM} {k : Nat} {i : ImgM} {a : Nat×Nat×Nat} : yE (stA A k a) (put F k i) k = .pointer (some ⟨a.1,0,none⟩):=by unfold yE put stA; rw [zt rfl,zt rfl]
theorem B6 {A : Nat -> Nat×Nat×Nat} {F : ShM} {k : Nat} {i : ImgM} {a : Nat×Nat×Nat} : oG (stA A k a) (put F k i) k = star [lL a.1 a.2.1 a.2.2 i,lj a.2.1 i.d]:=by unfold oG put stA; rw [zt rfl,zt rfl]
theorem B8 {A : Nat -> Nat×Nat×Nat} {F : ShM} {D : Nat -> DevM} {k : Nat} {i : ImgM} {a : Nat×Nat×Nat} : oK (stA A k a) (put F k i) D k = emp:=by unfold oK put; rw [zt rfl]
def YA.stA (Y : YA) (k bi bh : Nat) : YA:={ Y with A:=Go.Proofs.YtbpblokfiajpjabGreatDoor.stA Y.A k (bi,(Y.A k).2.1,bh) }
theorem Fw (Y : YA) (k bi bh : Nat) (m : le) : yC (Y.stA k bi bh) m = yC Y m:=by
 have h : ∀j,((Y.stA k bi bh).A j).2.1 = (Y.A j).2.1:=fun j=>by
  show (Go.Proofs.YtbpblokfiajpjabGreatDoor.stA Y.A k (bi,(Y.A k).2.1,bh) j).2.1 = _
  unfold Go.Proofs.YtbpblokfiajpjabGreatDoor.stA
  by_cases e : j = k
  ·rw [zt e,e]
  ·rw [zq e]
 unfold yC
 rw [h,h,h,h,h]
 rfl
theorem S8 (Y : YA) (m : le) (R : List SL.HP) {k : Nat} (hk : k < 5) (i : ImgM) (bi bh : Nat) :
  (((yL Y m R).set (7 + k) emp).set 0 (pts Y.bs (.cells ((yk Y.A m.F).setIfInBounds k (.pointer (some ⟨bi,0,none⟩))) 111 (0,0)))).set (1 + k) (star [lL bi (Y.A k).2.1 bh i,lj (Y.A k).2.1 i.d]) = yL (Y.stA k bi bh) { m with F:=put m.F k i } R:=by
 have hA : (Y.stA k bi bh).A = stA Y.A k (bi,(Y.A k).2.1,bh):=rfl
 match k,hk with
 | 0,_=>show _ = shL _ _ _++(yT _ _++R); unfold yT shL yk; dsimp only; rw [Fw,hA,B6,Cd,B8,oN (j:=1) (by decide),oN (j:=2) (by decide),oN (j:=3) (by decide),oN (j:=4) (by decide),oL (j:=1) (by decide),oL (j:=2) (by decide),oL (j:=3) (by decide),oL (j:=4) (by decide),oM (j:=1) (by decide),oM (j:=2) (by decide),oM (j:=3) (by decide),oM (j:=4) (by decide)]; rfl
 | 1,_=>show _ = shL _ _ _++(yT _ _++R); unfold yT shL yk; dsimp only; rw [Fw,hA,B6,Cd,B8,oN (j:=0) (by decide),oN (j:=2) (by decide),oN (j:=3) (by decide),oN (j:=4) (by decide),oL (j:=0) (by decide),oL (j:=2) (by decide),oL (j:=3) (by decide),oL (j:=4) (by decide),oM (j:=0) (by decide),oM (j:=2) (by decide),oM (j:=3) (by decide),oM (j:=4) (by decide)]; rfl
 | 2,_=>show _ = shL _ _ _++(yT _ _++R); unfold yT shL yk; dsimp only; rw [Fw,hA,B6,Cd,B8,oN (j:=1) (by decide),oN (j:=0) (by decide),oN (j:=3) (by decide),oN (j:=4) (by decide),oL (j:=1) (by decide),oL (j:=0) (by decide),oL (j:=3) (by decide),oL (j:=4) (by decide),oM (j:=1) (by decide),oM (j:=0) (by decide),oM (j:=3) (by decide),oM (j:=4) (by decide)]; rfl
 | 3,_=>show _ = shL _ _ _++(yT _ _++R); unfold yT shL yk; dsimp only; rw [Fw,hA,B6,Cd,B8,oN (j:=1) (by decide),oN (j:=2) (by decide),oN (j:=0) (by decide),oN (j:=4) (by decide),oL (j:=1) (by decide),oL (j:=2) (by decide),oL (j:=0) (by decide),oL (j:=4) (by decide),oM (j:=1) (by decide),oM (j:=2) (by decide),oM (j:=0) (by decide),oM (j:=4) (by decide)]; rfl
 | 4,_=>show _ = shL _ _ _++(yT _ _++R); unfold yT shL yk; dsimp only; rw [Fw,hA,B6,Cd,B8,oN (j:=1) (by decide),oN (j:=2) (by decide),oN (j:=3) (by decide),oN (j:=0) (by decide),oL (j:=1) (by decide),oL (j:=2) (by decide),oL (j:=3) (by decide),oL (j:=0) (by decide),oM (j:=1) (by decide),oM (j:=2) (by decide),oM (j:=3) (by decide),oM (j:=0) (by decide)]; rfl
theorem LI {Y : YA} {m : le} {R : List SL.HP} {w : World} {k : Nat} (hk : k < 5) (hF : m.F k = none) {i : ImgM} {bi bh : Nat} (H : own w (lL bi (Y.A k).2.1 bh i::lj (Y.A k).2.1 i.d::(yL Y m R).set (7 + k) emp)) :
  own (w.setCell ⟨Y.bs,k,none⟩ (.pointer (some ⟨bi,0,none⟩))) (yL (Y.stA k bi bh) { m with F:=put m.F k i } R):=by
 have h1 : own w (star [lL bi (Y.A k).2.1 bh i,lj (Y.A k).2.1 i.d]::(yL Y m R).set (7 + k) emp):=AV [lL bi (Y.A k).2.1 bh i,lj (Y.A k).2.1 i.d] H
 have h0 : ((yL Y m R).set (7 + k) emp)[0]? = some (pts Y.bs (.cells (yk Y.A m.F) 111 (0,0))):=by
  rw [List.getElem?_set_ne (by omega)]; rfl
 have h2:=lp (i:=k) (v:=.pointer (some ⟨bi,0,none⟩)) 1 h1 (by rw [List.getElem?_cons_succ]; exact h0)
 rw [List.set_cons_succ] at h2
 have hs : (yL Y m R)[1 + k]? = some emp:=by rw [Ka Y m R hk]; unfold oG; rw [hF]
 have h3:=zW (1 + k) h2 (by rw [List.getElem?_set_ne (by omega),List.getElem?_set_ne (by omega)]; exact hs)
 rwa [S8 Y m R hk] at h3
theorem WP (F : ShM) (k : Nat) (i : ImgM) : put (cut F k) k i = put F k i:=by
 funext j
 unfold put cut
 by_cases h : j = k
 ·rw [zt h,zt h]
 ·rw [zq h,zq h,zq h]
theorem TS (D : Nat -> DevM) (k : Nat) (d d' : DevM) : setD (setD D k d) k d' = setD D k d':=by
 funext j
 unfold setD
 by_cases h : j = k
 ·rw [zt h,zt h]
 ·rw [zq h,zq h,zq h]
theorem DV (A : Nat -> Nat×Nat×Nat) (F : ShM) (D : Nat -> DevM) (k : Nat) (i : ImgM) (d : DevM) (j : Nat) : oK A (put F k i) (setD D k d) j = oK A (put F k i) D j:=by
 unfold oK put setD
 by_cases h : j = k
 ·rw [zt h]
 ·rw [zq h,zq h]
theorem VP (Y : YA) (m : le) (R : List SL.HP) (k : Nat) (i : ImgM) (d : DevM) : yL Y { m with F:=put (cut m.F k) k i,D:=setD m.D k d } R = yL Y { m with F:=put m.F k i } R:=by
 show shL _ _ _++(yT _ _++R) = shL _ _ _++(yT _ _++R)
 unfold yT
 dsimp only
 rw [WP,DV,DV,DV,DV,DV]
 rfl
def zL (Y : YA) (S : Int×le) (R : List SL.HP) (w : World) (e : Ending) (w' : World) : Prop:=
 ∃Y' : YA,Y'.y = Y.y /\ e = .returned (errV S.1) /\ Ext w w' /\ own w' (yL Y' S.2 R)
theorem LV {b : Nat} {A : Nat -> Nat×Nat×Nat} {F : ShM} {R : List SL.HP} {w : World} (H : own w (shL b A F++R)) (i : Nat) : w.frozen? ⟨b,i,none⟩ = false:=(ld 0 H rfl).2 i
theorem YOk.list5 {N : Nat} {m : le} (h : YOk N m) : m.list.length <= 5:=by
 have:=Kf (F:=m.F) (root:=m.dk.root) (n:=6) (l:=[]) (at_:=m.dk.root) (by simp)
 have hw : ym m.F m.dk.root 6 [] m.dk.root = (m.list,0):=h.walk
 rwa [hw] at this
theorem YOk.devOf {N : Nat} {m : le} (h : YOk N m) {k : Nat} (hk : k < 5) : (devOf m k).Ok /\ (devOf m k).writes <= N /\ (devOf m k).pend.length <= N:=by
 unfold Go.Proofs.YtbpblokfiajpjabGreatDoor.devOf
 cases e : m.F k with
 | none=>exact h.dv k hk e
 | some i=>exact ⟨(h.sh.ok k i hk e).d,h.sh.wr k i hk e,h.sh.pend k i hk e⟩
theorem Uw (Y : YA) (m : le) {k : Nat} (hk : k < 5) : (yC Y m)[k]? = some (.pointer (some ⟨(Y.A k).2.1,0,none⟩)):=by
 match k,hk with
 | 0,_=>rfl
 | 1,_=>rfl
 | 2,_=>rfl
 | 3,_=>rfl
 | 4,_=>rfl
theorem KL (N : Nat) (Y : YA) (m : le) (hm : YOk N m) (hN : N < 900000) (file back : Int) (R : List SL.HP) (w : World) (H : own w (yL Y m R)) :
  Calls Tryz.prog 208 #[.pointer (some ⟨Y.y,0,none⟩),.int .i64 file,.int .i64 back] w (zL Y (lZ m file back) R w):=by
 have HU:=zh (U9 Y m hm.list5 file R w H)
 generalize hres : lZ m file back = res
 unfold lZ at hres
 by_cases hb : file < 0 \/ 5 <= file
 ·rw [zt hb] at hres
  subst hres
  by_cases q1 : file < 0
  ·go_enter Tryz.func208,Tryz.ntmps208
   go_wp2_with fail
   go_ret
   exact ⟨Y,rfl,rfl,zR w,H⟩
  ·have q2 : 5 <= file:=by omega
   clear hb
   go_enter Tryz.func208,Tryz.ntmps208
   go_wp2_with fail
   go_ret
   exact ⟨Y,rfl,rfl,zR w,H⟩
 ·rw [zq hb] at hres
  obtain ⟨k,rfl⟩ : ∃k : Nat,file = (k : Int):=⟨file.toNat,by omega⟩
  have hk : k < 5:=by omega
  have q1 : ¬((k : Int) < 0):=by omega
  have q2 : ¬(5 <= (k : Int)):=by omega
  have q3 : (0 : Int) <= (k : Int):=by omega
  have q4 : (k : Int) < 5:=by omega
  clear hb
  rw [zn] at hres
  cases hu : A1 m (k : Int) with
  | true=>
   rw [zt hu] at hres
   subst hres
   rw [hu] at HU
   clear hu
   go_enter Tryz.func208,Tryz.ntmps208
   go_wp2_with fail
   refine HU.out.mono ?_
   rintro e w1 ⟨rfl,rfl⟩
   go_wp2_with fail
   go_ret
   exact ⟨Y,rfl,rfl,zR w,H⟩
  | false=>
   rw [hu] at HU
   rw [zq (by rw [hu]; decide)] at hres
   obtain ⟨r,mr,hxr,hr,hFr⟩:=oF hm.root
   have hcl : clus m.F m.dk.root = mr.c:=by rw [hxr]; exact Au hFr
   obtain ⟨dok,dw,dp⟩:=hm.devOf hk
   have hcr:=zZ (hm.sh.sh hN) hm.root
   rw [hcl] at hcr
   have hcn : ((mr.c.toNat : Nat) : Int) = mr.c:=by omega
   have hro:=fun w'=>Ay mr.c.toNat (by omega) w'
   rw [hcn] at hro
   have hnl : (devOf m k).fl.length <= 1000000:=by have:=dok.n; omega
   have hrn : lt mr.c.toNat <= 1000000:=by unfold lt; omega
   have hpl : yR mr.c (devOf m k) = Int.tdiv (((devOf m k).fl.length : Int) - 1 - (lt mr.c.toNat : Nat)) 4:=rfl
   have hbl : yt m k back = oE (devOf m k) mr.c (yR mr.c (devOf m k)) back:=by unfold yt; rw [hcl]
   rw [hbl] at hres
   have HSZ:=zh (fun R' w' (h : own w' (yL Y m R'))=>Nj (Y.A k).2.1 (devOf m k) _ w' (Kn hk h))
   have HCR:=zh (fun R' w' (h : own w' (yL Y { m with F:=cut m.F k,D:=setD m.D k (devOf m k) } R'))=>Kl (Y.A k).2.1 (devOf m k) dok (by omega) (by omega) mr.c (yR mr.c (devOf m k)) back _ w' (by
    have h1:=DB hk (by show cut m.F k k = none; unfold cut; rw [zt rfl]) h
    have e : setD m.D k (devOf m k) k = devOf m k:=by unfold setD; rw [zt rfl]
    rw [show ({ m with F:=cut m.F k,D:=setD m.D k (devOf m k) } : le).D k = devOf m k from e] at h1
    exact h1))
   have hcode:=In (devOf m k) mr.c (yR mr.c (devOf m k)) back
   have HH:=zh (fun R' w' h=>AT (b:=Y.bs) (A:=Y.A) hr hFr R' w' h)
   have HS : ∀w' R',own w' (yL Y m R') -> w'.cell? ⟨Y.y,6,none⟩ = some (.pointer (some ⟨Y.bs,0,none⟩)) /\ w'.cell? ⟨Y.y,7,none⟩ = some (.int .i64 (r : Int)) /\ w'.cell? ⟨Y.bs,r,none⟩ = some (.pointer (some ⟨(Y.A r).1,0,none⟩)):=fun w' R' h=>⟨y_bs h,by rw [<- hxr]; exact yM h,by rw [ou h hr,lU hFr]⟩
   have HS:=zh HS
   have HRES:=zh hres
   have r0 : (0 : Int) <= (r : Int):=by omega
   have r5 : (r : Int) < 5:=by omega
   clear hu hbl hres hcn hm hcl
   unfold ol at HH HCR
   generalize hpv : yR mr.c (devOf m k) = pl at *
   generalize oE (devOf m k) mr.c pl back = S at *
   generalize hn : (devOf m k).fl.length = n at *
   generalize hrn' : lt mr.c.toNat = rn at *
   have n0 : (0 : Int) <= (n : Int):=by omega
   have n1 : (n : Int) <= 1000000:=by omega
   have m0 : (0 : Int) <= (rn : Int):=by omega
   have m1 : (rn : Int) <= 1000000:=by omega
   have HRO:=zh hro
   have HPL:=zh hpl
   clear hro hpl hpv hn hrn'
   have h1:=ln H
   have hx1:=(zR w).drew
   go_enter Tryz.func208,Tryz.ntmps208
   go_wp2_with fail
   refine HU.out.mono ?_
   rintro e w0 ⟨rfl,rfl⟩
   go_upto_region 5 with (fail)
   refine wp_region_held_drew (S:=fun w'=>w'.cell? ⟨Y.y,6,none⟩ = some (.pointer (some ⟨Y.bs,0,none⟩)) /\ w'.cell? ⟨Y.y,7,none⟩ = some (.int .i64 (r : Int)) /\ w'.cell? ⟨Y.bs,r,none⟩ = some (.pointer (some ⟨(Y.A r).1,0,none⟩))) (by kernel_rfl) (HS.out _ _ h1) (fun hHeld=>?_)
   refine tk 0 ?_
   refine tk 1 ?_
   refine tk 2 ?_
   refine tk 3 ?_
   refine tk 4 ?_
   refine tk 5 ?_
   refine tk 6 ?_
   refine tk 7 ?_
   refine tk 8 ?_
   refine tk 9 ?_
   refine tk 10 ?_
   refine tk 11 ?_
   try simp only [Act.put,tA,tB,tC,tD,tE,tF]
   refine wpAnyH_ready (rs:=[12,13]) (by kernel_rfl) (by simp) ?_
   refine AllReadyH.cons rfl (fun K hK=>?_) (AllReadyH.cons rfl (fun K hK=>?_) AllReadyH.nil)
   all_goals
    try
     go_simp
     go_at_call 71
     refine (HH.out _ _ h1).mono ?_
     rintro e w2 ⟨rfl,hx2,h2⟩
     go_simp
     refine hK.out _ _ (HS.out _ _ h2) (fun _=>?_)
     clear hK K
     try simp only [Act.put,tA,tB,tC,tD,tE,tF]
     refine rd 13 rfl fun K hK=>?_
     have h3:=IC (.cells #[.int .i64 0,.int .i64 0,.int .i64 0] 103) h2
     have hx3:=(hx1.trans hx2).alloc (.cells #[.int .i64 0,.int .i64 0,.int .i64 0] 103)
     go_simp
     refine hK.out _ _ (HS.out _ _ h3) (fun _=>?_)
     clear hK K
     try simp only [Act.put,tA,tB,tC,tD,tE,tF]
     generalize w2.heap.size = g at *
     generalize w2.alloc (.cells #[.int .i64 0,.int .i64 0,.int .i64 0] 103) = w3 at *
    try
     have h3:=ln (IC (.cells #[.int .i64 0,.int .i64 0,.int .i64 0] 103) H)
     have hx3':=((zR w).alloc (.cells #[.int .i64 0,.int .i64 0,.int .i64 0] 103)).drew
     go_simp
     refine hK.out _ _ (HS.out _ _ h3) (fun _=>?_)
     clear hK K
     try simp only [Act.put,tA,tB,tC,tD,tE,tF]
     refine rd 12 rfl fun K hK=>?_
     generalize w.heap.size = g at *
     generalize (w.alloc (.cells #[.int .i64 0,.int .i64 0,.int .i64 0] 103)).drew = w2 at *
     go_simp
     go_at_call 71
     refine (HH.out _ _ h3).mono ?_
     clear h3
     rintro e w3 ⟨rfl,hx2,h3⟩
     have hx3:=hx3'.trans hx2
     go_simp
     refine hK.out _ _ (HS.out _ _ h3) (fun _=>?_)
     clear hK K
     try simp only [Act.put,tA,tB,tC,tD,tE,tF]
    refine rd 14 rfl fun K hK=>?_
    have c0:=(ld 15 h3 rfl).1 0
    have c1:=(ld 15 h3 rfl).1 1
    have c2:=(ld 15 h3 rfl).1 2
    have f3:=(ld 15 h3 rfl).2
    have h4:=lp (i:=2) (v:=.int .i64 mr.b) 15 (lp (i:=1) (v:=.int .i64 mr.p) 15 (lp (i:=0) (v:=.int .i64 mr.c) 15 h3 rfl) rfl) rfl
    have h5 : own _ (yL Y m (pts g (.cells #[.int .i64 mr.c,.int .i64 mr.p,.int .i64 mr.b] 103 (0,0))::R)):=h4
    have hx5:=((hx3.setCell (⟨g,0,none⟩ : Addr) (.int .i64 mr.c)).setCell (⟨g,1,none⟩ : Addr) (.int .i64 mr.p)).setCell (⟨g,2,none⟩ : Addr) (.int .i64 mr.b)
    go_simp
    refine hK.out _ _ (HS.out _ _ h5) (fun _=>?_)
    clear hK K c0 c1 c2 f3 h4 h3 hx3
    try simp only [Act.put,tA,tB,tC,tD,tE,tF]
    refine wpAnyH_done (by kernel_rfl) ?_ _
    generalize ((w3.setCell ⟨g,0,none⟩ (.int .i64 mr.c)).setCell ⟨g,1,none⟩ (.int .i64 mr.p)).setCell ⟨g,2,none⟩ (.int .i64 mr.b) = w5 at *
    have c2:=(ld 15 h5 rfl).1 2
    have f2:=(ld 15 h5 rfl).2 2
    have h6':=lp (i:=2) (v:=.int .i64 back) 15 h5 rfl
    have h6 : own _ (yL Y m (pts g (.cells #[.int .i64 mr.c,.int .i64 mr.p,.int .i64 back] 103 (0,0))::R)):=h6'
    have hx6:=hx5.setCell (⟨g,2,none⟩ : Addr) (.int .i64 back)
    clear h5 hx5 h6'
    go_upto_region 7 with (fail)
    generalize w5.setCell ⟨g,2,none⟩ (.int .i64 back) = w6 at *
    clear c2 f2
    have c0:=(ld 15 h6 rfl).1 0
    have dv:=Bi h6 hk
    have hs:=(HSZ.out _ _ (ln h6)).mono fun e w' h=>(⟨h.1,h.2.symm⟩ : e = .returned (.int .i64 (n : Nat)) /\ w' = w6.drew)
    have hr:=(HRO.out w6.drew).mono fun e w' h=>(⟨h.1,h.2.symm⟩ : e = .returned (.int .i64 (rn : Nat)) /\ w' = w6.drew)
    go_still_tail 14,(by kernel_rfl)
    still_call hs
    repeat still_step
    still_call hr
    repeat still_step
    refine wpStill_nil ?_
    change wpList _ _ _ _ _ w6.drew
    have h7:=ln h6
    have hx7:=hx6.drew
    clear c0 dv hs hr h6 hx6
    generalize w6.drew = w7 at *
    have c1:=(ld 15 h7 rfl).1 1
    have f1:=(ld 15 h7 rfl).2 1
    have h8':=lp (i:=1) (v:=.int .i64 pl) 15 h7 rfl
    have h8 : own _ (yL Y m (pts g (.cells #[.int .i64 mr.c,.int .i64 pl,.int .i64 back] 103 (0,0))::R)):=h8'
    have hx8:=hx7.setCell (⟨g,1,none⟩ : Addr) (.int .i64 pl)
    clear h7 hx7 h8'
    go_upto_region 8 with (fail)
    rw [<- HPL.out]
    generalize w7.setCell ⟨g,1,none⟩ (.int .i64 pl) = w8 at *
    clear c1 f1
    have cb:=y_bs h8
    have cs:=ou h8 hk
    have fs:=LV h8 k
    have h9:=Yq hk h8
    have hx9:=hx8.setCell (⟨Y.bs,k,none⟩ : Addr) (.pointer none)
    clear h8 hx8
    go_upto_region 9 with (fail)
    generalize w8.setCell ⟨Y.bs,k,none⟩ (.pointer none) = w9 at *
    clear cb cs fs
    have hz:=ln h9
    have hxz:=hx9.drew
    clear h9 hx9
    have dv:=Bi hz hk
    have g0:=(ld 15 hz rfl).1 0
    have g1:=(ld 15 hz rfl).1 1
    have g2:=(ld 15 hz rfl).1 2
    refine wp_region_held_drew (S:=fun w'=>w'.cell? ⟨Y.y,k,none⟩ = some (.pointer (some ⟨(Y.A k).2.1,0,none⟩)) /\ w'.cell? ⟨g,0,none⟩ = some (.int .i64 mr.c) /\ w'.cell? ⟨g,1,none⟩ = some (.int .i64 pl) /\ w'.cell? ⟨g,2,none⟩ = some (.int .i64 back)) (by kernel_rfl) ⟨dv,g0,g1,g2⟩ (fun hHeld=>?_)
    refine tk 0 ?_
    refine tk 1 ?_
    refine tk 2 ?_
    refine tk 3 ?_
    refine tk 4 ?_
    refine tk 5 ?_
    refine tk 6 ?_
    try simp only [Act.put,tA,tB,tC,tD,tE,tF]
    refine rd 7 rfl fun K hK=>?_
    go_simp
    go_at_call 62
    refine (HCR.out _ _ hz).mono ?_
    rintro e w10 hpost
    have h0 : ((yL Y { m with F:=cut m.F k,D:=setD m.D k (devOf m k) } (pts g (.cells #[.int .i64 mr.c,.int .i64 pl,.int .i64 back] 103 (0,0))::R)).set (7 + k) emp)[0]? = some (pts Y.bs (.cells (yk Y.A (cut m.F k)) 111 (0,0))):=by rw [List.getElem?_set_ne (by omega)]; rfl
    have h6 : ((yL Y { m with F:=cut m.F k,D:=setD m.D k (devOf m k) } (pts g (.cells #[.int .i64 mr.c,.int .i64 pl,.int .i64 back] 103 (0,0))::R)).set (7 + k) emp)[6]? = some (pts Y.y (.cells (yC Y m) 165 (0,0))):=by rw [List.getElem?_set_ne (by omega)]; rfl
    have h15 : ((yL Y { m with F:=cut m.F k,D:=setD m.D k (devOf m k) } (pts g (.cells #[.int .i64 mr.c,.int .i64 pl,.int .i64 back] 103 (0,0))::R)).set (7 + k) emp)[15]? = some (pts g (.cells #[.int .i64 mr.c,.int .i64 pl,.int .i64 back] 103 (0,0))):=by rw [List.getElem?_set_ne (by omega)]; rfl
    rcases hpost with ⟨hc,rfl,hx10,h10⟩ | ⟨hc,bi,bh,rfl,hx10,h10⟩
    ·have z1 : w10.cell? ⟨Y.y,k,none⟩ = some (.pointer (some ⟨(Y.A k).2.1,0,none⟩)):=by rw [(ld 7 h10 h6).1 k]; exact Uw Y m hk
     have z2:=(ld 16 h10 h15).1
     go_simp
     refine hK.out _ _ ⟨z1,z2 0,z2 1,z2 2⟩ (fun _=>?_)
     clear hK K z1 z2 dv g0 g1 g2
     try simp only [Act.put,tA,tB,tC,tD,tE,tF]
     refine tk 8 ?_
     refine tk 9 ?_
     refine tk 10 ?_
     refine tk 11 ?_
     refine tk 12 ?_
     try simp only [Act.put,tA,tB,tC,tD,tE,tF]
     refine wpAnyH_done (by kernel_rfl) ?_ _
     have h11:=Gf (Y:=Y) hk (by show cut m.F k k = none; unfold cut; rw [zt rfl]) h10
     rw [zt hc] at HRES
     rw [lv (e:=S.1) (by omega)]
     go_wp2_with fail
     go_ret
     rw [<- HRES.out]
     refine ⟨Y,rfl,by rw [lv (e:=S.1) (by omega)]; rfl,hxz.trans hx10,?_⟩
     have h12:=A8 h11
     rw [TS] at h12
     exact h12
    ·have z1 : w10.cell? ⟨Y.y,k,none⟩ = some (.pointer (some ⟨(Y.A k).2.1,0,none⟩)):=by rw [(ld 8 h10 h6).1 k]; exact Uw Y m hk
     have z2:=(ld 17 h10 h15).1
     go_simp
     refine hK.out _ _ ⟨z1,z2 0,z2 1,z2 2⟩ (fun _=>?_)
     clear hK K z1 z2 dv g0 g1 g2
     try simp only [Act.put,tA,tB,tC,tD,tE,tF]
     refine tk 8 ?_
     refine tk 9 ?_
     refine tk 10 ?_
     refine tk 11 ?_
     refine tk 12 ?_
     try simp only [Act.put,tA,tB,tC,tD,tE,tF]
     refine wpAnyH_done (by kernel_rfl) ?_ _
     rw [zq (by rw [hc]; decide)] at HRES
     have cb : w10.cell? ⟨Y.y,6,none⟩ = some (.pointer (some ⟨Y.bs,0,none⟩)):=(ld 8 h10 h6).1 6
     have fs : w10.frozen? ⟨Y.bs,k,none⟩ = false:=(ld 2 h10 h0).2 k
     have cs : ∃v,w10.cell? ⟨Y.bs,k,none⟩ = some v:=by
      rw [(ld 2 h10 h0).1 k]
      unfold yk
      exact ⟨_,Array.getElem?_eq_getElem (by simp; omega)⟩
     obtain ⟨vs,cs⟩:=cs
     have h11:=LI (Y:=Y) hk (by show cut m.F k k = none; unfold cut; rw [zt rfl]) h10
     have hx11:=(hxz.trans hx10).setCell (⟨Y.bs,k,none⟩ : Addr) (.pointer (some ⟨bi,0,none⟩))
     clear h0 h6 h15 h10 hz hxz hx10
     go_wp2_with fail
     go_ret
     rw [<- HRES.out]
     refine ⟨Y.stA k bi bh,rfl,rfl,hx11,?_⟩
     have h12:=A8 h11
     rw [VP] at h12
     exact h12
end Go.Proofs.YtbpblokfiajpjabGreatDoor
