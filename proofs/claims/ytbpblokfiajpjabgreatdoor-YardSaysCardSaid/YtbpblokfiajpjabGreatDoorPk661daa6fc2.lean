/- Lemmas on which YardSays stands: the texts Held Image1 Image2 FormSaysLaw Image3 Image4 Image6 Image7 Image8 Image9 Image10 Image11 Image12 Image5. No conditions. -/
import Derived.Test.YtbpblokfiajpjabGreatDoorPk70f0e45a01
import Derived.Maps.OwnSet
set_option linter.all false
set_option maxRecDepth 1000000
set_option maxHeartbeats 32000000
namespace Go.Proofs.YtbpblokfiajpjabGreatDoor
open Go.RowKit Go.SL Go.ChangeMaps
def CS (es : Array MapEntry) (hs : List Int) : Prop:=es.toList.map (fun e=>(e.key,e.val)) = hs.map fun h=>(Value.int .i64 h,Value.bool true)
def AE (b : Nat) (hs : List Int) : HP:=exi fun x : Array MapEntry×Nat=>fun h=>CS x.1 hs /\ pts b (.map x.1 x.2) h
theorem JY {w : World} {L : List HP} (k : Nat) {b : Nat} {hs : List Int} (H : own w L) (hk : L[k]? = some (AE b hs)) : ∃es clock,CS es hs /\ w.heap[b]? = some (.map es clock) /\ own w (L.set k (pts b (.map es clock))):=by
 obtain ⟨h,hs',h1,h2,a,⟨⟨es,clock⟩,hc,hp⟩,q⟩:=lu k H hk
 have H':=oo H k hk (Q:=pts b (.map es clock)) ⟨h,hs',h1,h2,a,hp,q⟩
 have hkl : k < L.length:=(zS.1 hk).1
 exact ⟨es,clock,hc,C2 k H' (by simp [hkl]),H'⟩
theorem In {w : World} {L : List HP} (k : Nat) {b : Nat} {hs : List Int} {es : Array MapEntry} {clock : Nat} (hc : CS es hs) (H : own w L) (hk : L[k]? = some (pts b (.map es clock))) : own w (L.set k (AE b hs)):=
 Nn k (fun h hh=>⟨(es,clock),hc,hh⟩) H hk
theorem Ip {w : World} {L : List HP} (H : own w L) : own (w.alloc (.map #[] 0)) (AE w.heap.size []::L):=
 In 0 (hs:=[]) (es:=#[]) (clock:=0) rfl (li H (.map #[] 0)) rfl
theorem M4 {es : List MapEntry} {hs : List Int} (h : es.map (fun e=>(e.key,e.val)) = hs.map fun h=>(Value.int .i64 h,Value.bool true)) (k : Int) : ∀i,Instr.findNow (.int .i64) (.int .i64 k) es i = some (if k∈hs then some (i + hs.idxOf k,Value.bool true) else none):=by
 induction es generalizing hs with
 | nil=>
  cases hs with
  | nil=>intro i; rfl
  | cons a hs=>simp at h
 | cons e es ih=>
  intro i
  cases hs with
  | nil=>simp at h
  | cons a hs=>
   simp only [List.map_cons,List.cons.injEq,Prod.mk.injEq] at h
   obtain ⟨⟨h1,h2⟩,h3⟩:=h
   rw [Instr.findNow,h1,h2]
   simp only [Instr.sameNow,if_true]
   by_cases e : k = a
   ·subst e; simp
   ·have e' : (k == a) = false:=zb.2 e
    rw [e']
    simp only
    rw [ih h3]
    have e2 : (a == k) = false:=zb.2 fun h=>e h.symm
    by_cases hm : k∈hs
    ·simp [hm,e,List.idxOf_cons,e2]; omega
    ·simp [hm,e]
theorem Jf {w : World} {es : Array MapEntry} {hs : List Int} (h : CS es hs) (k : Int) : (Instr.findKey 3 (.int .i64 k) es.toList).run Tryz.prog w = .ok (if k∈hs then some (hs.idxOf k,Value.bool true) else none) w:=by
 have:=M4 h k 0
 simp only [Nat.zero_add] at this
 simp [Instr.findKey,run_underlying Tryz.underlying3,this]
theorem Ll (em : Bool) (x : Int) (w : World) : (Instr.checkKey em 10000 3 (.int .i64 x)).run Tryz.prog w = .ok () w:=by
 rw [show (10000 : Nat) = 9999 + 1 from rfl,Instr.checkKey]
 simp [run_underlying Tryz.underlying3]
theorem OC {w : World} {L : List HP} (k : Nat) {b : Nat} {hs : List Int} (H : own w L) (hk : L[k]? = some (AE b hs)) (x : Int) :
  (Instr.lookup 216 (.map (some b)) (.int .i64 x) false).run Tryz.prog w = .ok (.bool (decide (x∈hs))) w:=by
 obtain ⟨es,clock,hc,hb,_⟩:=JY k H hk
 have hz : (zeroValue 4).run Tryz.prog w = .ok (.bool false) w:=by kernel_rfl
 have hf:=Jf (w:=w) hc x
 by_cases hm : x∈hs
 ·rw [zt hm] at hf
  simp [Instr.lookup,run_underlying Tryz.underlying216,MapKept.run_getObj_map hb,Ll,hf,hm,Result.andThen]
 ·rw [zq hm] at hf
  simp [Instr.lookup,run_underlying Tryz.underlying216,MapKept.run_getObj_map hb,Ll,hf,hm,hz,Result.andThen]
theorem Lz {w : World} {L : List HP} (k : Nat) {b : Nat} {es : Array MapEntry} {clock : Nat} {o' : Obj} (H : own w L) (hk : L[k]? = some (pts b (.map es clock))) (hw : w.heap[b]? = some (.map es clock)) : own (setBlock w b o') (L.set k (pts b o')):=
 FO k H hk (by
  funext c
  by_cases hc : c = b
  ·subst hc; simp only [if_true]; exact heap_setBlock_same hw _
  ·simp only [hc,if_false]; exact heap_setBlock_other hw _ hc)
theorem L3 (w : World) (b : Nat) (o : Obj) : Ext w (setBlock w b o):=⟨rfl,rfl,rfl,by simp [setBlock]⟩
theorem UL {w : World} {L : List HP} (k : Nat) {b : Nat} {hs : List Int} (H : own w L) (hk : L[k]? = some (AE b hs)) {x : Int} (hx : x∉hs) :
  ∃w',(Instr.mapUpdate 216 (.map (some b)) (.int .i64 x) (.bool true)).run Tryz.prog w = .ok () w' /\ own w' (L.set k (AE b (hs++[x]))) /\ Ext w w':=by
 obtain ⟨es,clock,hc,hb,H1⟩:=JY k H hk
 have hkl : k < L.length:=(zS.1 hk).1
 have hf:=Jf (w:=w) hc x
 rw [zq hx] at hf
 refine ⟨setBlock w b (.map (es.push { key:=.int .i64 x,val:=.bool true,born:=clock }) (clock + 1)),?_,?_,L3 _ _ _⟩
 ·simp [Instr.mapUpdate,run_underlying Tryz.underlying216,MapKept.run_getObj_map hb,Ll,hf,MapKept.run_setObj_map _ hb,Result.andThen,setBlock]
 ·have H2:=Lz k (o':=.map (es.push { key:=.int .i64 x,val:=.bool true,born:=clock }) (clock + 1)) H1 (by simp [hkl]) hb
  have H3:=In k (b:=b) (hs:=hs++[x]) (es:=es.push { key:=.int .i64 x,val:=.bool true,born:=clock }) (clock:=clock + 1) (by unfold CS at hc ⊢; simp [hc]) H2 (by simp [hkl])
  simpa only [List.set_set] using H3
theorem Sq {w : World} {L : List HP} (k : Nat) {b : Nat} {hs : List Int} (H : own w L) (hk : L[k]? = some (AE b hs)) (ty : TypeId) :
  ∃w',(Builtin.clear_ #[216] ty #[.map (some b)]).run Tryz.prog w = .ok (.tuple #[]) w' /\ own w' (L.set k (AE b [])) /\ Ext w w':=by
 obtain ⟨es,clock,hc,hb,H1⟩:=JY k H hk
 have hkl : k < L.length:=(zS.1 hk).1
 refine ⟨setBlock w b (.map #[] clock),?_,?_,L3 _ _ _⟩
 ·simp [Builtin.clear_,run_underlying Tryz.underlying216,MapKept.run_getObj_map hb,MapKept.run_setObj_map _ hb,Result.andThen,setBlock]
 ·have H2:=Lz k (o':=.map #[] clock) H1 (by simp [hkl]) hb
  have H3:=In k (b:=b) (hs:=[]) (es:=#[]) (clock:=clock) (show CS #[] [] from rfl) H2 (by simp [hkl])
  simpa only [List.set_set] using H3
end Go.Proofs.YtbpblokfiajpjabGreatDoor
namespace Go.Proofs.YtbpblokfiajpjabGreatDoor
open Go.RowKit Go.SL Go.Crc
attribute [local go_sem ↓] Go.wp_at_zero Go.wp_at_succ
structure ImgM where
 d : DevM
 c : Int
 p : Int
 b : Int
 t : List Ent
 held : List Int
def ent (t : List Ent) (k : Nat) : Ent:=t.getD k (0,0)
structure ImgM.Ok (m : ImgM) : Prop where
 d : m.d.Ok
 head : ¬lF m.c m.p m.b
 t : (m.t.length : Int) = m.c
 ents : ∀e∈m.t,lW e m.p = true
 one : ∀i j : Nat,i < m.t.length -> j < m.t.length -> (ent m.t i).1 = 2 -> ent m.t i = ent m.t j -> i = j
 nodup : m.held.Nodup
 range : ∀x∈m.held,0 <= x /\ x < m.p
 apart : ∀x∈m.held,((2,x) : Ent)∉m.t
 need : 1 + (ls m.c.toNat : Int) + 4 * m.p <= m.d.fl.length
def yz (c p : Int) : Int:=1 + (ls c.toNat : Int) + 4 * p
def lP (b bd bh : Nat) (m : ImgM) : HP:=exi fun v : Value=>star [pts b (.cells #[.pointer (some ⟨bd,0,none⟩),.int .i64 m.c,.int .i64 m.p,.int .i64 m.b,v,.map (some bh)] 218 (0,0)),row 221 2 v m.t.length (lG m.t),AE bh m.held]
theorem yF {w : World} {b bd bh : Nat} {m : ImgM} {R : List HP} (H : own w (lP b bd bh m::R)) : ∃v,own w (pts b (.cells #[.pointer (some ⟨bd,0,none⟩),.int .i64 m.c,.int .i64 m.p,.int .i64 m.b,v,.map (some bh)] 218 (0,0))::row 221 2 v m.t.length (lG m.t)::AE bh m.held::R):=
 EX 0 (L:=fun v : Value=>[pts b (.cells #[.pointer (some ⟨bd,0,none⟩),.int .i64 m.c,.int .i64 m.p,.int .i64 m.b,v,.map (some bh)] 218 (0,0)),row 221 2 v m.t.length (lG m.t),AE bh m.held]) H rfl fun h hh=>hh
theorem ye {w : World} {b bd bh : Nat} {m : ImgM} {R : List HP} {v : Value} (H : own w (pts b (.cells #[.pointer (some ⟨bd,0,none⟩),.int .i64 m.c,.int .i64 m.p,.int .i64 m.b,v,.map (some bh)] 218 (0,0))::row 221 2 v m.t.length (lG m.t)::AE bh m.held::R)) : own w (lP b bd bh m::R):=
 Ed [pts b (.cells #[.pointer (some ⟨bd,0,none⟩),.int .i64 m.c,.int .i64 m.p,.int .i64 m.b,v,.map (some bh)] 218 (0,0)),row 221 2 v m.t.length (lG m.t),AE bh m.held] (fun h hh=>⟨v,hh⟩) H
def Au (l : List Int) : List Value:=l.map (Value.int .i64)
def lX (b bd : Nat) (m : ImgM) : HP:=exi fun v : Value×Value=>star [pts b (.cells #[.pointer (some ⟨bd,0,none⟩),.int .i64 m.c,.int .i64 m.p,.int .i64 m.b,v.1,v.2] 152 (0,0)),row 221 2 v.1 m.t.length (lG m.t),row 3 1 v.2 m.held.length (Au m.held)]
theorem yP {w : World} {b bd : Nat} {m : ImgM} {R : List HP} (H : own w (lX b bd m::R)) : ∃vt vh,own w (pts b (.cells #[.pointer (some ⟨bd,0,none⟩),.int .i64 m.c,.int .i64 m.p,.int .i64 m.b,vt,vh] 152 (0,0))::row 221 2 vt m.t.length (lG m.t)::row 3 1 vh m.held.length (Au m.held)::R):=by
 obtain ⟨v,h⟩:=EX 0 (L:=fun v : Value×Value=>[pts b (.cells #[.pointer (some ⟨bd,0,none⟩),.int .i64 m.c,.int .i64 m.p,.int .i64 m.b,v.1,v.2] 152 (0,0)),row 221 2 v.1 m.t.length (lG m.t),row 3 1 v.2 m.held.length (Au m.held)]) H rfl fun h hh=>hh
 exact ⟨v.1,v.2,h⟩
theorem yW {w : World} {b bd : Nat} {m : ImgM} {R : List HP} {vt vh : Value} (H : own w (pts b (.cells #[.pointer (some ⟨bd,0,none⟩),.int .i64 m.c,.int .i64 m.p,.int .i64 m.b,vt,vh] 152 (0,0))::row 221 2 vt m.t.length (lG m.t)::row 3 1 vh m.held.length (Au m.held)::R)) : own w (lX b bd m::R):=
 Ed [pts b (.cells #[.pointer (some ⟨bd,0,none⟩),.int .i64 m.c,.int .i64 m.p,.int .i64 m.b,vt,vh] 152 (0,0)),row 221 2 vt m.t.length (lG m.t),row 3 1 vh m.held.length (Au m.held)] (fun h hh=>⟨(vt,vh),hh⟩) H
theorem PA {c : Int} (h : ¬(32 < c)) : ls c.toNat <= 4:=by unfold ls; omega
theorem N0 (c p b : Int) (h : ¬lF c p b) (R : List SL.HP) (w : World) (H : own w R) :
  Calls Tryz.prog 127 #[lM c p b] w fun e w'=>e = .returned (.int .i64 (yz c p)) /\ Ext w w' /\ own w' R:=by
 have ha:=li H (.cells #[.int .i64 c,.int .i64 p,.int .i64 b] 103)
 have hxa:=(zR w).alloc (.cells #[.int .i64 c,.int .i64 p,.int .i64 b] 103)
 unfold lF at h
 obtain ⟨C,rfl⟩:=ze (show 0 <= c by omega)
 have r4:=PA (c:=C) (by omega)
 rw [zn] at r4
 have hn : yz C p = 1 + (ls C : Int) + 4 * p:=by unfold yz; rw [zn]
 have h3 : 0 <= p:=by omega
 have h4 : p <= 40:=by omega
 have h5 : C <= 32:=by omega
 have HN:=zh hn
 clear h hn
 have e1 : IntKind.i64.wrap (p * 4) = p * 4:=zi _ (by omega)
 have e2 : IntKind.i64.wrap (1 + (ls C : Int)) = 1 + (ls C : Int):=zi _ (by omega)
 have e3 : IntKind.i64.wrap (1 + (ls C : Int) + p * 4) = 1 + (ls C : Int) + p * 4:=zi _ (by omega)
 unfold lM
 go_enter Tryz.func127,Tryz.ntmps127
 go_upto_region 1 with (fail)
 obtain ⟨cc,ff⟩:=ld 0 ha rfl
 generalize w.heap.size = g at *
 generalize w.alloc (.cells #[.int .i64 C,.int .i64 p,.int .i64 b] 103) = w1 at *
 have c0:=cc 0
 have c1:=cc 1
 go_quiet ((go_at_call 156; exact Calls.quiet_of_same ((AT C (by omega) _).mono fun e w' h=>⟨h.1,h.2.symm⟩)))
 go_wp2_with fail
 go_ret
 exact ⟨A4 (by rw [HN.out]; omega),hxa.drewN _,le (ll _ ha)⟩
theorem Ie (c p b : Int) (h : ¬lF c p b) (R : List SL.HP) (w : World) (H : own w R) :
  Calls Tryz.prog 130 #[lM c p b] w fun e w'=>e = .returned (.int .i64 (yz c p)) /\ Ext w w' /\ own w' R:=by
 have ha:=li H (.cells #[.int .i64 c,.int .i64 p,.int .i64 b] 103)
 have hxa:=(zR w).alloc (.cells #[.int .i64 c,.int .i64 p,.int .i64 b] 103)
 unfold lF at h
 obtain ⟨C,rfl⟩:=ze (show 0 <= c by omega)
 have r4:=PA (c:=C) (by omega)
 rw [zn] at r4
 have hn : yz C p = 1 + (ls C : Int) + 4 * p:=by unfold yz; rw [zn]
 have h3 : 0 <= p:=by omega
 have h4 : p <= 40:=by omega
 have h5 : C <= 32:=by omega
 have HN:=zh hn
 clear h hn
 have e1 : IntKind.i64.wrap (4 * p) = 4 * p:=zi _ (by omega)
 have e2 : IntKind.i64.wrap (1 + (ls C : Int)) = 1 + (ls C : Int):=zi _ (by omega)
 have e3 : IntKind.i64.wrap (1 + (ls C : Int) + 4 * p) = 1 + (ls C : Int) + 4 * p:=zi _ (by omega)
 unfold lM
 go_enter Tryz.func130,Tryz.ntmps130
 go_upto_region 1 with (fail)
 obtain ⟨cc,ff⟩:=ld 0 ha rfl
 generalize w.heap.size = g at *
 generalize w.alloc (.cells #[.int .i64 C,.int .i64 p,.int .i64 b] 103) = w1 at *
 have c0:=cc 0
 have c1:=cc 1
 go_quiet ((go_at_call 161; exact Calls.quiet_of_same ((Bf C (by omega) _).mono fun e w' h=>⟨h.1,h.2.symm⟩)))
 go_wp2_with fail
 go_ret
 exact ⟨A4 (by rw [HN.out]),hxa.drewN _,le (ll _ ha)⟩
def ImgM.there (m : ImgM) (k : Int) : Bool:=decide (0 <= k) && decide (k < m.c)
def ImgM.first (m : ImgM) (p : Int) : Int:=1 + (ls m.c.toNat : Int) + 4 * p
theorem ImgM.Ok.nat {m : ImgM} (h : m.Ok) : ∃C : Nat,m.c = C /\ 1 <= C /\ C <= 32 /\ m.t.length = C /\ ls C <= 4 /\ 0 <= m.p /\ m.p <= 40 /\ -1 <= m.b /\ m.b <= 4:=by
 have hh:=h.head
 have ht:=h.t
 unfold lF at hh
 refine ⟨m.t.length,ht.symm,by omega,by omega,rfl,by unfold ls; omega,by omega,by omega,by omega,by omega⟩
theorem D3 (b bd bh : Nat) (m : ImgM) (k : Int) (R : List SL.HP) (w : World) (H : own w (lP b bd bh m::R)) :
  Calls Tryz.prog 166 #[.pointer (some ⟨b,0,none⟩),.int .i64 k] w fun e w'=>e = .returned (.bool (m.there k)) /\ w = w':=by
 obtain ⟨v,h⟩:=yF H
 obtain ⟨c,f⟩:=ld 0 h rfl
 have hd : m.there k = (decide (0 <= k) && decide (k < m.c)):=rfl
 by_cases h0 : 0 <= k
 ·have d0 : decide (0 <= k) = true:=zg h0
  rw [hd,d0,Bool.true_and]
  go_enter Tryz.func166,Tryz.ntmps166
  go_wp2_with fail
  go_ret
  exact ⟨rfl,rfl⟩
 ·have d0 : decide (0 <= k) = false:=zf h0
  rw [hd,d0,Bool.false_and]
  clear h0
  go_enter Tryz.func166,Tryz.ntmps166
  go_wp2_with fail
  go_ret
  exact ⟨rfl,rfl⟩
theorem BL (b bd : Nat) (m : ImgM) (k : Int) (R : List SL.HP) (w : World) (H : own w (lX b bd m::R)) :
  Calls Tryz.prog 168 #[.pointer (some ⟨b,0,none⟩),.int .i64 k] w fun e w'=>e = .returned (.bool (m.there k)) /\ w = w':=by
 obtain ⟨vt,vh,h⟩:=yP H
 obtain ⟨c,f⟩:=ld 0 h rfl
 have hd : m.there k = (decide (0 <= k) && decide (k < m.c)):=rfl
 by_cases h0 : 0 <= k
 ·have d0 : decide (0 <= k) = true:=zg h0
  rw [hd,d0,Bool.true_and]
  go_enter Tryz.func168,Tryz.ntmps168
  go_wp2_with fail
  go_ret
  exact ⟨rfl,rfl⟩
 ·have d0 : decide (0 <= k) = false:=zf h0
  rw [hd,d0,Bool.false_and]
  clear h0
  go_enter Tryz.func168,Tryz.ntmps168
  go_wp2_with fail
  go_ret
  exact ⟨rfl,rfl⟩
theorem Io (b bd bh : Nat) (m : ImgM) (hm : m.Ok) (p : Int) (h0 : 0 <= p) (h1 : p <= 40) (R : List SL.HP) (w : World) (H : own w (lP b bd bh m::R)) :
  Calls Tryz.prog 171 #[.pointer (some ⟨b,0,none⟩),.int .i64 p] w fun e w'=>e = .returned (.int .i64 (m.first p)) /\ w = w':=by
 obtain ⟨v,h⟩:=yF H
 obtain ⟨c,f⟩:=ld 0 h rfl
 obtain ⟨C,hC,q1,q2,q3,q4,-⟩:=hm.nat
 have hf : m.first p = 1 + (ls C : Int) + 4 * p:=by unfold ImgM.first; rw [hC,zn]
 rw [hf]
 rw [hC] at c
 clear hf hC
 go_enter Tryz.func171,Tryz.ntmps171
 go_wp2_with fail
 refine (AT C (by omega) _).mono ?_
 rintro e w' ⟨rfl,rfl⟩
 go_wp2_with fail
 go_ret
 exact ⟨A4 (by omega),rfl⟩
theorem GD (b bd : Nat) (m : ImgM) (hm : m.Ok) (p : Int) (h0 : 0 <= p) (h1 : p <= 40) (R : List SL.HP) (w : World) (H : own w (lX b bd m::R)) :
  Calls Tryz.prog 175 #[.pointer (some ⟨b,0,none⟩),.int .i64 p] w fun e w'=>e = .returned (.int .i64 (m.first p)) /\ w = w':=by
 obtain ⟨vt,vh,h⟩:=yP H
 obtain ⟨c,f⟩:=ld 0 h rfl
 obtain ⟨C,hC,q1,q2,q3,q4,-⟩:=hm.nat
 have hf : m.first p = 1 + (ls C : Int) + 4 * p:=by unfold ImgM.first; rw [hC,zn]
 rw [hf]
 rw [hC] at c
 clear hf hC
 go_enter Tryz.func175,Tryz.ntmps175
 go_wp2_with fail
 refine (Bf C (by omega) _).mono ?_
 rintro e w' ⟨rfl,rfl⟩
 go_wp2_with fail
 go_ret
 exact ⟨A4 (by omega),rfl⟩
def ImgM.kind (m : ImgM) (k : Int) : Int:=(ent m.t k.toNat).1
theorem Gg (b bd bh : Nat) (m : ImgM) (hm : m.Ok) (k : Int) (R : List SL.HP) (w : World) (H : own w (lP b bd bh m::R)) :
  Calls Tryz.prog 151 #[.pointer (some ⟨b,0,none⟩),.int .i64 k] w fun e w'=>e = .returned (if m.there k = true then .tuple #[.int .i64 (m.kind k),.nilIface] else .tuple #[.int .i64 0,errV 1]) /\ w = w':=by
 obtain ⟨v,h⟩:=yF H
 obtain ⟨C,hC,q1,q2,q3,q4,-⟩:=hm.nat
 have hth:=D3 b bd bh m k R w H
 cases ht : m.there k
 ·rw [ht] at hth
  rw [zq (by decide)]
  have HT:=zh hth
  clear hth hC q3 ht
  go_enter Tryz.func151,Tryz.ntmps151
  go_wp2_with fail
  refine HT.out.mono ?_
  rintro e w' ⟨rfl,rfl⟩
  go_wp2_with fail
  go_ret2
  exact ⟨rfl,rfl⟩
 ·rw [ht] at hth
  rw [zt rfl]
  have hr : 0 <= k /\ k < m.c:=by
   unfold ImgM.there at ht
   simpa using ht
  obtain ⟨n,rfl⟩:=ze hr.1
  have hn : n < m.t.length:=by omega
  have hk : m.kind n = (ent m.t n).1:=rfl
  rw [hk]
  obtain ⟨ao,g,cap,rfl,r1,r2,r3,-,-,r6,-⟩:=lk 1 h rfl
  obtain rfl:=r3 (by omega)
  have e1:=r6 _ _ (lE hn).1
  have e2 : w.cell? ⟨g,n * 2,none⟩ = some (.int .i64 (ent m.t n).1):=e1
  obtain ⟨c,f⟩:=ld 0 h rfl
  have HT:=zh hth
  clear hth hC q3 ht hk e1 r3 r6 hr
  generalize (ent m.t n).1 = x at *
  go_enter Tryz.func151,Tryz.ntmps151
  go_wp2_with fail
  refine HT.out.mono ?_
  rintro e w' ⟨rfl,rfl⟩
  go_wp2_with fail
  go_ret2
  exact ⟨rfl,rfl⟩
theorem VI (v : Value) (t : List Ent) (row : Int) (ht : t.length <= 1000) (R : List SL.HP) (w : World) (hv : ∀w' l,own w' (l++R) -> Ba w' v t) (H : own w R) :
  Calls Tryz.prog 236 #[v,.int .i64 row] w fun e w'=>e = .returned (.tuple #[.string (lU t row).1,errV (lU t row).2]) /\ Ext w w' /\ own w' R:=by
 by_cases ho : zF t row
 ·have e : lU t row = (ByteArray.empty,1):=by rw [lU,zt ho]
  rw [e]
  exact V0 v t row ht ho R w hv H
 ·obtain ⟨r,rfl⟩:=ze (show 0 <= row by unfold zF at ho; omega)
  exact Wy v t r ho R w hv H
theorem K6 (v : Value) (t : List Ent) (row : Int) (ht : t.length <= 1000) (R : List SL.HP) (w : World) (hv : ∀w' l,own w' (l++R) -> Ba w' v t) (H : own w R) :
  Calls Tryz.prog 162 #[v,.int .i64 row] w fun e w'=>e = .returned (.tuple #[.string (lU t row).1,.int .i64 (lU t row).2]) /\ Ext w w' /\ own w' R:=by
 by_cases ho : zF t row
 ·have e : lU t row = (ByteArray.empty,1):=by rw [lU,zt ho]
  rw [e]
  exact QW v t row ht ho R w hv H
 ·obtain ⟨r,rfl⟩:=ze (show 0 <= row by unfold zF at ho; omega)
  exact TG v t r ho R w hv H
theorem To {w : World} {ao : Option Addr} {n cap : Nat} {l : List Ent} (h : Ba w (.slice ao n cap) l) : (∀ad,ao = some ad -> ∀j u,(lG l)[j]? = some u -> w.cell? (ad.add j) = some u) /\ (ao = none -> l.length = 0):=by
 obtain ⟨ao',b,off,cap',hv,h1,h2,h3,h4⟩:=h
 simp only [Value.slice.injEq] at hv
 obtain ⟨rfl,rfl,rfl⟩:=hv
 refine ⟨fun ad had j u hu=>?_,fun h=>?_⟩
 ·have hj:=(zS.1 hu).1
  rw [EN] at hj
  have e:=h3 (by omega)
  rw [e] at had
  obtain rfl:=Option.some.inj had
  rw [add_none]
  have hi : j / 2 < l.length:=by omega
  obtain ⟨c1,c2⟩:=h4 _ hi
  obtain ⟨g1,g2⟩:=lE hi
  rcases Nat.mod_two_eq_zero_or_one j with hm | hm
  ·have ej : j / 2 * 2 = j:=by omega
   rw [ej] at c1 g1
   rw [hu] at g1
   rw [c1,Option.some.inj g1]
  ·have ej : j / 2 * 2 + 1 = j:=by omega
   rw [ej] at g2
   rw [Nat.add_assoc,ej] at c2
   rw [hu] at g2
   rw [c2,Option.some.inj g2]
 ·rcases Nat.eq_zero_or_pos l.length with h0 | h0
  ·exact h0
  ·rw [h3 h0] at h; cases h
theorem MR {l : List Ent} : ∀u∈lG l,u.oneCell' = true:=fun u hu=>by
 simp only [lG,List.mem_flatMap] at hu
 obtain ⟨e,_,he⟩:=hu
 simp at he
 rcases he with rfl | rfl <;> rfl
theorem Nv {l : List Ent} : ∀{k : Nat} (e : Ent),lG (l.set k e) = ((lG l).set (k * 2) (.int .i64 e.1)).set (k * 2 + 1) (.int .i64 e.2):=by
 induction l with
 | nil=>intro k e; simp [lG]
 | cons x l ih=>
  intro k e
  cases k with
  | zero=>simp [lG]
  | succ k=>
   have:=ih (k:=k) e
   have e2 : (k + 1) * 2 = k * 2 + 2:=by omega
   simp only [lG,List.set_cons_succ,List.flatMap_cons,e2] at this ⊢
   rw [this]
   simp
theorem Fc {w : World} {L : List HP} (k : Nat) {g n cap : Nat} {t : List Ent} (j : Nat) (e : Ent) (H : own w L) (hk : L[k]? = some (row 221 2 (.slice (some ⟨g,0,none⟩) n cap) n (lG t))) (hn : 0 < n) :
  own ((w.setCell ⟨g,j * 2,none⟩ (.int .i64 e.1)).setCell ⟨g,j * 2 + 1,none⟩ (.int .i64 e.2)) (L.set k (row 221 2 (.slice (some ⟨g,0,none⟩) n cap) n (lG (t.set j e)))):=by
 have hkl : k < L.length:=(zS.1 hk).1
 have h1:=AJ k (j * 2) (.int .i64 e.1) H hk hn
 have h2:=AJ (e:=221) (sz:=2) (g:=g) (n:=n) (cap:=cap) (xs:=(lG t).set (j * 2) (.int .i64 e.1)) k (j * 2 + 1) (.int .i64 e.2) h1 (by simp [hkl]) hn
 rw [List.set_set] at h2
 rw [Nv]
 exact h2
theorem GN {t : List Ent} {r : Int} (h : (lU t r).2 = 0) : (lU t r).1.size = 16:=by
 unfold lU at h ⊢
 split
 ·rename_i h1; rw [zt h1] at h; cases h
 ·rename_i h1
  rw [zq h1] at h
  split
  ·dsimp only
   rw [strOfNums_size,DT,Bk]
  ·rename_i h2; rw [zq h2] at h; cases h
theorem ol (m : DevM) (a : Int) (s : ByteArray) : 0 <= (m.write a s).1:=by
 unfold DevM.write
 split
 ·simp
 ·split <;> simp
def ImgM.rowS (m : ImgM) (r : Nat) : ByteArray:=(lU m.t r).1
theorem Gc (b bd bh : Nat) (m : ImgM) (hd : m.d.Ok) (hl : m.t.length <= 1000) (hw : m.d.writes < 1000000) (hp : m.d.pend.length < 1000000) (r : Nat) (hr : r <= 4) (hrow : (lU m.t r).2 = 0) (R : List SL.HP) (w : World) (H : own w (lP b bd bh m::lm bd m.d::R)) :
  Calls Tryz.prog 157 #[.pointer (some ⟨b,0,none⟩),.int .i64 r] w fun e w'=>e = .returned (errV (m.d.write (1 + (r : Int)) (m.rowS r)).1) /\ Ext w w' /\ own w' (lP b bd bh m::lm bd (m.d.write (1 + (r : Int)) (m.rowS r)).2::R):=by
 obtain ⟨v,h⟩:=yF H
 obtain ⟨ao,g,cap,rfl,r1,r2,-,-,-,-,-⟩:=lk 1 h rfl
 obtain ⟨c,f⟩:=ld 0 h rfl
 have hsz:=GN hrow
 have hra:=VI (.slice ao m.t.length cap) m.t r hl _ w (fun w' L H=>EL (L.length + 1) H (Ec (l:=L) rfl)) h
 rw [hrow,oa] at hra
 have hs : m.rowS r = (lU m.t r).1:=rfl
 have HRA:=zh hra
 have HS:=zh hs
 rw [hs]
 clear hra hs hrow
 generalize (lU m.t r).1 = s at *
 have hdw:=fun (R : List SL.HP) (w : World) (H : own w (lm bd m.d::R))=>Ci bd m.d hd (1 + (r : Int)) s (by omega) hw hp R w H
 have HDW:=zh hdw
 clear hdw
 generalize m.d.write (1 + (r : Int)) s = res at *
 go_enter Tryz.func157,Tryz.ntmps157
 go_wp2_with fail
 refine HRA.out.mono ?_
 rintro e w2 ⟨rfl,hx2,h2⟩
 clear c f
 obtain ⟨c,f⟩:=ld 0 h2 rfl
 go_wp2_with fail
 refine (HDW.out _ w2 (lu 3 h2 rfl)).mono ?_
 rintro e w3 ⟨rfl,hx3,h3⟩
 have h4:=oo h2 3 rfl h3
 go_wp2_with fail
 go_ret
 exact ⟨rfl,hx2.trans hx3,ye h4⟩
def ImgM.setE (m : ImgM) (k : Nat) (e : Ent) : Int×ImgM:=
 let r:=m.d.write (1 + (k / 8 : Nat)) (lU (m.t.set k e) (k / 8 : Nat)).1
 if r.1≠0 then (r.1,{ m with d:=r.2 })
 else (0,{ m with d:=r.2,t:=m.t.set k e,held:=if (ent m.t k).1 = 2 then m.held++[(ent m.t k).2] else m.held })
theorem CA {t : List Ent} {r : Nat} (hl : t.length <= 32) (hr : r < ls t.length) (hv : ∀e∈t,lW e 40 = true) : (lU t r).2 = 0:=by
 have ho : ¬zF t r:=by unfold zF; omega
 rw [Gw ho fun k hk=>?_]
 by_cases h : 8 * r + k < t.length
 ·exact hv _ (by simp [h])
 ·rw [show t.getD (8 * r + k) (0,0) = (0,0) by simp [show t.length <= 8 * r + k by omega]]
  rfl
theorem Dh {e : Ent} {p : Int} (h : lW e p = true) (hp : p <= 40) : lW e 40 = true:=by
 unfold lW at h ⊢
 split
 ·rename_i h1; rw [zt h1] at h; simp at h ⊢; omega
 ·rename_i h1; rw [zq h1] at h; exact h
theorem UC {t : List Ent} {k : Nat} (e : Ent) (hk : k < t.length) : (t.set k e).set k (ent t k) = t:=by
 unfold ent
 rw [List.set_set]
 apply List.ext_getElem?
 intro j
 rw [List.getElem?_set]
 by_cases h : k = j
 ·subst h; simp [hk]
 ·rw [zq h]
theorem PG (b bd bh : Nat) (m : ImgM) (hm : m.Ok) (hw : m.d.writes < 1000000) (hp : m.d.pend.length < 1000000) (k : Nat) (hk : k < m.t.length) (e1 e2 : Int) (he : lW (e1,e2) m.p = true) (R : List SL.HP) (w : World) (H : own w (lP b bd bh m::lm bd m.d::R)) :
  Calls Tryz.prog 167 #[.pointer (some ⟨b,0,none⟩),.int .i64 k,.agg #[.int .i64 e1,.int .i64 e2]] w fun e w'=>e = .returned (errV (m.setE k (e1,e2)).1) /\ Ext w w' /\ own w' (lP b bd bh (m.setE k (e1,e2)).2::lm bd (m.setE k (e1,e2)).2.d::R):=by
 obtain ⟨C,hC,q1,q2,q3,q4,q5,q6,-⟩:=hm.nat
 have hsetE : m.setE k (e1,e2) = if (m.d.write (1 + ((k / 8 : Nat) : Int)) (lU (m.t.set k (e1,e2)) (k / 8 : Nat)).1).1≠0 then ((m.d.write (1 + ((k / 8 : Nat) : Int)) (lU (m.t.set k (e1,e2)) (k / 8 : Nat)).1).1,{ m with d:=(m.d.write (1 + ((k / 8 : Nat) : Int)) (lU (m.t.set k (e1,e2)) (k / 8 : Nat)).1).2 })
  else (0,{ m with d:=(m.d.write (1 + ((k / 8 : Nat) : Int)) (lU (m.t.set k (e1,e2)) (k / 8 : Nat)).1).2,t:=m.t.set k (e1,e2),held:=if (ent m.t k).1 = 2 then m.held++[(ent m.t k).2] else m.held }):=rfl
 generalize m.setE k (e1,e2) = S at *
 have hvalid : (lU (m.t.set k (e1,e2)) (k / 8 : Nat)).2 = 0:=CA (by simp; omega) (by simp; unfold ls; omega) fun x hx=>by
  rcases List.mem_or_eq_of_mem_set hx with h | h
  ·exact Dh (hm.ents x h) q6
  ·rw [h]; exact Dh he q6
 have hcode:=ol m.d (1 + ((k / 8 : Nat) : Int)) (lU (m.t.set k (e1,e2)) (k / 8 : Nat)).1
 have hrc:=fun (R : List SL.HP) (w : World) (H : own w (lP b bd bh { m with t:=m.t.set k (e1,e2) }::lm bd m.d::R))=>Gc b bd bh { m with t:=m.t.set k (e1,e2) } hm.d (by simp; omega) hw hp (k / 8) (by omega) hvalid R w H
 unfold ImgM.rowS at hrc
 dsimp only at hrc
 have HRC:=zh hrc
 have hap : (ent m.t k).1 = 2 -> (ent m.t k).2∉m.held:=fun h hin=>hm.apart _ hin (by
  have hmem : ent m.t k∈m.t:=by unfold ent; simp [hk]
  have : ent m.t k = (2,(ent m.t k).2):=by rw [<- h]
  rw [<- this]; exact hmem)
 have hsb:=UC (e1,e2) hk
 have ha:=li H (.cells #[.int .i64 e1,.int .i64 e2] 221)
 have hxa:=(zR w).alloc (.cells #[.int .i64 e1,.int .i64 e2] 221)
 have l2 : m.t.length <= 32:=by omega
 clear hrc hvalid he hC q1 q2 q3 q4
 generalize m.d.write (1 + ((k / 8 : Nat) : Int)) (lU (m.t.set k (e1,e2)) (k / 8 : Nat)).1 = res at *
 generalize hx : ent m.t k = x at *
 have HSE:=zh hsetE
 clear hsetE
 have HX:=zh hx
 have HAP:=zh hap
 have HSB:=zh hsb
 clear hx hap hsb
 go_enter Tryz.func167,Tryz.ntmps167
 go_upto_region 1 with (fail)
 generalize w.heap.size = ge at *
 generalize w.alloc (.cells #[.int .i64 e1,.int .i64 e2] 221) = w1 at *
 obtain ⟨v,h1⟩:=yF (lu 1 ha rfl)
 clear ha
 obtain ⟨ao,g,cap,rfl,r1,r2,r3,-,-,r6,-⟩:=lk 1 h1 rfl
 obtain rfl:=r3 (by omega)
 have x1 : w1.cell? ⟨g,k * 2,none⟩ = some (.int .i64 x.1):=by rw [<- HX.out]; exact r6 _ _ (lE hk).1
 have x2 : w1.cell? ⟨g,k * 2 + 1,none⟩ = some (.int .i64 x.2):=by rw [<- HX.out]; exact r6 _ _ (lE hk).2
 clear r3 r6
 obtain ⟨xa,xb⟩:=x
 dsimp only at x1 x2
 obtain ⟨c,f⟩:=ld 0 h1 rfl
 go_upto_region 2 with (fail)
 have h2:=li h1 (.cells #[.int .i64 xa,.int .i64 xb] 221)
 have hx2:=hxa.alloc (.cells #[.int .i64 xa,.int .i64 xb] 221)
 clear c f h1 hxa x1 x2
 generalize w1.heap.size = gw at *
 generalize w1.alloc (.cells #[.int .i64 xa,.int .i64 xb] 221) = w2 at *
 obtain ⟨c,f⟩:=ld 1 h2 rfl
 obtain ⟨ce,fe⟩:=ld 4 h2 rfl
 obtain ⟨r6,f6⟩:=lH 2 h2 rfl
 have x1:=r6 _ _ (lE hk).1
 have x2:=r6 _ _ (lE hk).2
 clear r6
 have i1 : (0 : Int) <= (k : Int):=by omega
 have i2 : (k : Int) < (m.t.length : Int):=by omega
 go_still_tail 7,(by kernel_rfl)
 change wpList _ _ _ _ _ w2.drew
 go_wp2_with fail
 have h3:=lj (Fc 2 k (e1,e2) h2 rfl (by omega))
 have hx3:=((hx2.setCell ⟨g,k * 2,none⟩ (.int .i64 e1)).setCell ⟨g,k * 2 + 1,none⟩ (.int .i64 e2)).drew
 clear c f ce fe f6 x1 x2 h2 hx2
 dsimp only at h3
 generalize ((w2.setCell ⟨g,k * 2,none⟩ (.int .i64 e1)).setCell ⟨g,k * 2 + 1,none⟩ (.int .i64 e2)).drew = w3 at *
 have hlen : (m.t.set k (e1,e2)).length = m.t.length:=by simp
 have h4 : own w3 (lP b bd bh { m with t:=m.t.set k (e1,e2) }::lm bd m.d::pts ge (.cells #[.int .i64 e1,.int .i64 e2] 221 (0,0))::pts gw (.cells #[.int .i64 xa,.int .i64 xb] 221 (0,0))::R):=by
  have h5:=lr [_,_,_,_,_] h3
  have h6 : own w3 (lP b bd bh { m with t:=m.t.set k (e1,e2) }::pts ge (.cells #[.int .i64 e1,.int .i64 e2] 221 (0,0))::lm bd m.d::pts gw (.cells #[.int .i64 xa,.int .i64 xb] 221 (0,0))::R):=ye (m:={ m with t:=m.t.set k (e1,e2) }) (by dsimp only; rw [hlen]; exact h5)
  exact lr [_] (lu 2 h6 rfl)
 clear h3
 rw [show (k : Int) / 8 = ((k / 8 : Nat) : Int) by omega]
 refine (HRC.out _ w3 h4).mono ?_
 rintro e w4 ⟨rfl,hx4,h5⟩
 replace hx4:=hx3.trans hx4
 clear h4 hx3
 obtain ⟨v5,h6⟩:=yF h5
 dsimp only at h6
 rw [hlen] at h6
 obtain ⟨ao5,g5,cap5,rfl,r1',r2',r3',-,-,r6',-⟩:=lk 1 h6 rfl
 obtain rfl:=r3' (by omega)
 clear r3' h5
 by_cases hz : res.1 = 0
 ·have HZ:=zh hz
  rw [hz,oa]
  obtain ⟨c,f⟩:=ld 0 h6 rfl
  obtain ⟨cw,fw⟩:=ld 5 h6 rfl
  clear hz r6'
  by_cases h2 : xa = 2
  ·have hni : xb∉m.held:=HAP.out h2
   have hS : S = (0,{ m with d:=res.2,t:=m.t.set k (e1,e2),held:=m.held++[xb] }):=by
    rw [HSE.out,zq (by simpa using HZ.out),zt h2]
   have HSS:=zh hS
   clear hS
   subst h2
   obtain ⟨w7,hr,h7,hx7⟩:=UL 2 (lj h6) rfl hni
   go_upto_region 8 with (fail)
   go_still_tail 6,(by kernel_rfl)
   change wpList _ _ _ _ _ w4.drew
   go_wp2_with fail
   go_ret
   rw [HSS.out]
   refine ⟨rfl,hx4.drew.trans hx7,?_⟩
   dsimp only at h7 ⊢
   have h8 : own w7 (lP b bd bh { m with d:=res.2,t:=m.t.set k (e1,e2),held:=m.held++[xb] }::lm bd res.2::pts ge (.cells #[.int .i64 e1,.int .i64 e2] 221 (0,0))::pts gw (.cells #[.int .i64 2,.int .i64 xb] 221 (0,0))::R):=ye (m:={ m with d:=res.2,t:=m.t.set k (e1,e2),held:=m.held++[xb] }) (by dsimp only; rw [hlen]; exact h7)
   exact lh 2 (lh 2 h8 rfl) rfl
  ·have hS : S = (0,{ m with d:=res.2,t:=m.t.set k (e1,e2) }):=by
    rw [HSE.out,zq (by simpa using HZ.out),zq h2]
   have HSS:=zh hS
   have t2 : (xa == 2) = false:=zb.2 h2
   clear h2 hS
   go_wp2_with fail
   go_ret
   rw [HSS.out]
   refine ⟨rfl,hx4,?_⟩
   have h8 : own w4 (lP b bd bh { m with d:=res.2,t:=m.t.set k (e1,e2) }::lm bd res.2::pts ge (.cells #[.int .i64 e1,.int .i64 e2] 221 (0,0))::pts gw (.cells #[.int .i64 xa,.int .i64 xb] 221 (0,0))::R):=ye (m:={ m with d:=res.2,t:=m.t.set k (e1,e2) }) (by dsimp only; rw [hlen]; exact h6)
   exact lh 2 (lh 2 h8 rfl) rfl
 ·have hS : S = (res.1,{ m with d:=res.2 }):=by rw [HSE.out,zt hz]
  have hpz : 0 < res.1:=by omega
  have HSS:=zh hS
  clear hS hz
  rw [lx hpz]
  have HPE:=zh (lx hpz)
  obtain ⟨c,f⟩:=ld 0 h6 rfl
  obtain ⟨cw,fw⟩:=ld 5 h6 rfl
  have x1:=r6' _ _ (lE (l:=m.t.set k (e1,e2)) (i:=k) (by simp; omega)).1
  have x2:=r6' _ _ (lE (l:=m.t.set k (e1,e2)) (i:=k) (by simp; omega)).2
  obtain ⟨-,f6⟩:=lH 1 h6 rfl
  clear r6'
  go_upto_region 5 with (fail)
  go_still_tail 7,(by kernel_rfl)
  change wpList _ _ _ _ _ w4.drew
  go_wp2_with fail
  go_ret
  rw [HSS.out]
  have h9:=lj (Fc 1 k (xa,xb) h6 rfl (by omega))
  have hback : (m.t.set k (e1,e2)).set k (xa,xb) = m.t:=HSB.out
  rw [hback] at h9
  refine ⟨by rw [HPE.out]; rfl,((hx4.setCell _ _).setCell _ _).drew,?_⟩
  have h8:=ye (m:={ m with d:=res.2 }) h9
  exact lh 2 (lh 2 h8 rfl) rfl
theorem Qd {w : World} {L : List HP} (k : Nat) {v : Value} {l : List Ent} {n : Nat} (hn : l.length = n) (H : own w L) (hk : L[k]? = some (row 221 2 v n (lG l))) : Ba w v l:=by
 subst hn; exact EL k H hk
theorem N5 (b bd : Nat) (m : ImgM) (hm : m.Ok) (hw : m.d.writes < 1000000) (hp : m.d.pend.length < 1000000) (hh : m.held.length <= 1000000) (k : Nat) (hk : k < m.t.length) (e1 e2 : Int) (he : lW (e1,e2) m.p = true) (R : List SL.HP) (w : World) (H : own w (lX b bd m::ln bd m.d::R)) :
  Calls Tryz.prog 169 #[.pointer (some ⟨b,0,none⟩),.int .i64 k,.agg #[.int .i64 e1,.int .i64 e2]] w fun e w'=>e = .returned (.int .i64 (m.setE k (e1,e2)).1) /\ Ext w w' /\ own w' (lX b bd (m.setE k (e1,e2)).2::ln bd (m.setE k (e1,e2)).2.d::R):=by
 obtain ⟨C,hC,q1,q2,q3,q4,q5,q6,-⟩:=hm.nat
 have hsetE : m.setE k (e1,e2) = if (m.d.write (1 + ((k / 8 : Nat) : Int)) (lU (m.t.set k (e1,e2)) (k / 8 : Nat)).1).1≠0 then ((m.d.write (1 + ((k / 8 : Nat) : Int)) (lU (m.t.set k (e1,e2)) (k / 8 : Nat)).1).1,{ m with d:=(m.d.write (1 + ((k / 8 : Nat) : Int)) (lU (m.t.set k (e1,e2)) (k / 8 : Nat)).1).2 })
  else (0,{ m with d:=(m.d.write (1 + ((k / 8 : Nat) : Int)) (lU (m.t.set k (e1,e2)) (k / 8 : Nat)).1).2,t:=m.t.set k (e1,e2),held:=if (ent m.t k).1 = 2 then m.held++[(ent m.t k).2] else m.held }):=rfl
 generalize m.setE k (e1,e2) = S at *
 have hvalid : (lU (m.t.set k (e1,e2)) (k / 8 : Nat)).2 = 0:=CA (by simp; omega) (by simp; unfold ls; omega) fun x hx=>by
  rcases List.mem_or_eq_of_mem_set hx with h | h
  ·exact Dh (hm.ents x h) q6
  ·rw [h]; exact Dh he q6
 have hsz:=GN hvalid
 have hcode:=ol m.d (1 + ((k / 8 : Nat) : Int)) (lU (m.t.set k (e1,e2)) (k / 8 : Nat)).1
 have HVA:=zh hvalid
 have hwr:=fun (R : List SL.HP) (w : World) (H : own w (ln bd m.d::R))=>Ct bd m.d hm.d (1 + ((k / 8 : Nat) : Int)) (lU (m.t.set k (e1,e2)) (k / 8 : Nat)).1 (by omega) hw hp R w H
 have HWR:=zh hwr
 have ha:=li H (.cells #[.int .i64 e1,.int .i64 e2] 221)
 have hxa:=(zR w).alloc (.cells #[.int .i64 e1,.int .i64 e2] 221)
 have l2 : m.t.length <= 32:=by omega
 have hrow : (lU (m.t.set k (e1,e2)) (k / 8 : Nat)) = ((lU (m.t.set k (e1,e2)) (k / 8 : Nat)).1,0):=Prod.ext rfl hvalid
 have HROW:=zh hrow
 clear hwr hvalid he hC q1 q2 q3 q4 hrow
 generalize m.d.write (1 + ((k / 8 : Nat) : Int)) (lU (m.t.set k (e1,e2)) (k / 8 : Nat)).1 = res at *
 generalize hz : (lU (m.t.set k (e1,e2)) (k / 8 : Nat)).1 = z at *
 generalize hx : ent m.t k = x at *
 have HSE:=zh hsetE
 clear hsetE
 have HX:=zh hx
 clear hx hz
 go_enter Tryz.func169,Tryz.ntmps169
 go_upto_region 1 with (fail)
 generalize w.heap.size = ge at *
 generalize w.alloc (.cells #[.int .i64 e1,.int .i64 e2] 221) = w1 at *
 obtain ⟨vt,vh,h1⟩:=yP (lu 1 ha rfl)
 clear ha
 obtain ⟨ao,g,cap,rfl,r1,r2,r3,-,-,r6,-⟩:=lk 1 h1 rfl
 obtain rfl:=r3 (by omega)
 obtain ⟨hao,hg,hcap,rfl,s1,s2,-,-,-,-,-⟩:=lk 2 h1 rfl
 clear r3 r6
 obtain ⟨c,f⟩:=ld 0 h1 rfl
 obtain ⟨hn1,hn2⟩:=To (EL 1 h1 rfl)
 have hml : 0 + m.t.length <= maxLen:=by simp only [maxLen]; omega
 go_wp2_with (first | (at_builtin; refine lD rfl _ _ 150 rfl 0 221 Tryz.underlying150 BJ rfl (by decide) rfl (lv 221 2 h1) rfl (some ⟨g,0,none⟩) m.t.length cap (lG m.t) rfl (EN m.t) hn1 hn2 MR hml (by omega) ?_))
 clear hn1 hn2
 intro v2 w2 h2 hx2
 replace hx2:=hxa.trans hx2
 try simp only [Nat.zero_add,List.nil_append,List.set_cons_zero] at h2
 obtain ⟨a2,g2,cap2,rfl,t1,t2,t3,-,-,t6,-⟩:=lk 0 h2 rfl
 try simp only [Nat.zero_add] at t1
 obtain rfl:=t3 (by omega)
 have x1:=t6 _ _ (lE hk).1
 have x2:=t6 _ _ (lE hk).2
 clear t3 t6 c f h1 hxa
 obtain ⟨c,f⟩:=ld 1 h2 rfl
 obtain ⟨ce,fe⟩:=ld 4 h2 rfl
 obtain ⟨-,f6⟩:=lH 0 h2 rfl
 have i1 : (0 : Int) <= (k : Int):=by omega
 have i2 : (k : Int) < (m.t.length : Int):=by omega
 go_wp2_with fail
 have h3:=Fc 0 k (e1,e2) h2 rfl (by omega)
 have hx3:=(hx2.setCell ⟨g2,k * 2,none⟩ (.int .i64 e1)).setCell ⟨g2,k * 2 + 1,none⟩ (.int .i64 e2)
 dsimp only at h3
 clear c f ce fe f6 x1 x2 h2 hx2
 generalize (w2.setCell ⟨g2,k * 2,none⟩ (.int .i64 e1)).setCell ⟨g2,k * 2 + 1,none⟩ (.int .i64 e2) = w3 at *
 have hlen : (m.t.set k (e1,e2)).length = m.t.length:=by simp
 have HLEN:=zh hlen
 clear hlen
 rw [show (k : Int) / 8 = ((k / 8 : Nat) : Int) by omega]
 refine (K6 (.slice (some ⟨g2,0,none⟩) m.t.length cap2) (m.t.set k (e1,e2)) ((k / 8 : Nat) : Int) (by have:=HLEN.out; omega) _ w3 (fun w' L H=>Qd (L.length + 0) HLEN.out H (Ec (l:=L) rfl)) h3).mono ?_
 rw [HROW.out]
 rintro e w4 ⟨rfl,hx4,h4⟩
 replace hx4:=hx3.trans hx4
 clear h3 hx3
 obtain ⟨c,f⟩:=ld 1 h4 rfl
 have e8 : 1 + (k : Int) / 8 = 1 + ((k / 8 : Nat) : Int):=by omega
 have E8:=zh e8
 clear e8
 go_wp2_with fail
 rw [E8.out]
 refine (HWR.out _ w4 (lu 5 h4 rfl)).mono ?_
 rintro e w5 ⟨rfl,hx5,h5'⟩
 have h5:=oo h4 5 rfl h5'
 replace hx5:=hx4.trans hx5
 clear h4 h5' hx4 c f
 obtain ⟨c,f⟩:=ld 1 h5 rfl
 by_cases hz : res.1 = 0
 ·have HZ:=zh hz
  have hpos : decide (0 < res.1) = false:=zf (by omega)
  obtain ⟨r6,-⟩:=lH 2 h5 rfl
  have y1 : w5.cell? ⟨g,k * 2,none⟩ = some (.int .i64 x.1):=by rw [<- HX.out]; exact r6 _ _ (lE hk).1
  have y2 : w5.cell? ⟨g,k * 2 + 1,none⟩ = some (.int .i64 x.2):=by rw [<- HX.out]; exact r6 _ _ (lE hk).2
  obtain ⟨xa,xb⟩:=x
  dsimp only at y1 y2
  clear r6 hz
  by_cases h2 : xa = 2
  ·have hS : S = (0,{ m with d:=res.2,t:=m.t.set k (e1,e2),held:=m.held++[xb] }):=by
    rw [HSE.out,zq (by simpa using HZ.out),zt h2]
   have HSS:=zh hS
   have HXB : Hid ((ent m.t k).2 = xb):=zh (by rw [HX.out])
   clear hS
   subst h2
   go_upto_region 8 with (fail)
   have H7:=zh (lj (li h5 (.cells #[.int .i64 xb] 3)))
   have HX7:=zh (hx5.alloc (.cells #[.int .i64 xb] 3)).drew
   have hmlh : m.held.length + 1 <= maxLen:=by simp only [maxLen]; omega
   have z5:=c 5
   have z4:=c 4
   clear c f
   refine wp_region_held_drew (S:=fun w'=>w'.cell? ⟨b,4,none⟩ = some (.slice (some ⟨g,0,none⟩) m.t.length cap) /\ w'.cell? ⟨g,k * 2 + 1,none⟩ = some (.int .i64 xb)) (by kernel_rfl) ⟨z4,y2⟩ (fun hHeld=>?_)
   refine tk 0 ?_
   refine tk 1 ?_
   refine tk 2 ?_
   refine tk 3 ?_
   try simp only [Act.put,tA,tB,tC,tD,tE,tF]
   refine tk 5 ?_
   refine tk 6 ?_
   refine tk 7 ?_
   refine tk 8 ?_
   refine tk 9 ?_
   refine tk 10 ?_
   refine tk 11 ?_
   refine tk 12 ?_
   try simp only [Act.put,tA,tB,tC,tD,tE,tF]
   refine wpAnyH_ready (rs:=[4,13]) (by kernel_rfl) (by simp) ?_
   refine AllReadyH.cons rfl (fun K hK=>?_) (AllReadyH.cons rfl (fun K hK=>?_) AllReadyH.nil)
   ·go_simp
    refine hK.out _ _ ⟨z4,y2⟩ (fun _=>?_)
    clear hK K
    try simp only [Act.put,tA,tB,tC,tD,tE,tF]
    refine rd 13 rfl fun K hK=>?_
    go_simp
    refine hK.out _ _ ⟨(ld 2 H7.out rfl).1 4,(lH 3 H7.out rfl).1 _ _ (by rw [<- HXB.out]; exact (lE hk).2)⟩ (fun _=>?_)
    clear hK K
    try simp only [Act.put,tA,tB,tC,tD,tE,tF]
    refine rd 14 rfl fun K hK=>?_
    refine At (by rfl) _ _ 95 (by rfl) 4 3 Tryz.underlying95 Cb rfl (by decide) (by rfl) H7.out rfl (some ⟨w5.heap.size,0,none⟩) 1 1 [.int .i64 xb] (by rfl) rfl (ot w5 [.int .i64 xb] _) (fun h=>by cases h) (FQ _) hmlh (by omega) ?_
    intro v8 w8 h8 hx8
    obtain ⟨ao8,g8,cap8,rfl,-,-,-,-,-,-,-⟩:=lk 4 h8 rfl
    refine hK.out _ _ ⟨(ld 2 h8 rfl).1 4,(lH 3 h8 rfl).1 _ _ (by rw [<- HXB.out]; exact (lE hk).2)⟩ (fun _=>?_)
    clear hK K
    try simp only [Act.put,tA,tB,tC,tD,tE,tF]
    refine tk 15 ?_
    refine tk 16 ?_
    try simp only [Act.put,tA,tB,tC,tD,tE,tF]
    refine rd 17 rfl fun K hK=>?_
    obtain ⟨c8,f8⟩:=ld 2 h8 rfl
    have h9:=lg (i:=5) (v:=.slice ao8 (m.held.length + 1) cap8) 2 h8 rfl
    have hx9:=((HX7.out).trans hx8).setCell ⟨b,5,none⟩ (.slice ao8 (m.held.length + 1) cap8)
    go_simp
    refine hK.out _ _ ⟨(ld 2 h9 rfl).1 4,(lH 3 h9 rfl).1 _ _ (by rw [<- HXB.out]; exact (lE hk).2)⟩ (fun _=>?_)
    clear hK K c8 f8
    try simp only [Act.put,tA,tB,tC,tD,tE,tF]
    refine wpAnyH_done (by kernel_rfl) ?_ _
    have h10:=h9
    have hx10:=hx9
    clear h9 hx9 h8 hx8
    generalize w8.setCell ⟨b,5,none⟩ (.slice ao8 (m.held.length + 1) cap8) = w9 at *
    obtain ⟨c,f⟩:=ld 2 h10 rfl
    go_wp2_with fail
    go_ret
    rw [HSS.out]
    have h11:=lg (i:=4) (v:=.slice (some ⟨g2,0,none⟩) m.t.length cap2) 2 h10 rfl
    refine ⟨rfl,hx10.setCell _ _,?_⟩
    have h12:=lh 2 (lu 1 (le h11) rfl) rfl
    have h13:=yW (m:={ m with d:=res.2,t:=m.t.set k (e1,e2),held:=m.held++[xb] }) (vt:=.slice (some ⟨g2,0,none⟩) m.t.length cap2) (vh:=.slice ao8 (m.held.length + 1) cap8) (by
     dsimp only
     rw [HLEN.out,show (m.held++[xb]).length = m.held.length + 1 by simp,show Au (m.held++[xb]) = Au m.held++[.int .i64 xb] by simp [Au]]
     exact h12)
    exact lh 1 h13 rfl
   ·go_simp
    refine hK.out _ _ ⟨(ld 2 H7.out rfl).1 4,(lH 3 H7.out rfl).1 _ _ (by rw [<- HXB.out]; exact (lE hk).2)⟩ (fun _=>?_)
    clear hK K
    try simp only [Act.put,tA,tB,tC,tD,tE,tF]
    refine rd 4 rfl fun K hK=>?_
    have z6 : (w5.alloc (.cells #[.int .i64 xb] 3)).drew.cell? ⟨b,5,none⟩ = some (.slice hao m.held.length hcap):=(ld 2 H7.out rfl).1 5
    go_simp
    refine hK.out _ _ ⟨(ld 2 H7.out rfl).1 4,(lH 3 H7.out rfl).1 _ _ (by rw [<- HXB.out]; exact (lE hk).2)⟩ (fun _=>?_)
    clear hK K z6
    try simp only [Act.put,tA,tB,tC,tD,tE,tF]
    refine rd 14 rfl fun K hK=>?_
    refine At (by rfl) _ _ 95 (by rfl) 4 3 Tryz.underlying95 Cb rfl (by decide) (by rfl) H7.out rfl (some ⟨w5.heap.size,0,none⟩) 1 1 [.int .i64 xb] (by rfl) rfl (ot w5 [.int .i64 xb] _) (fun h=>by cases h) (FQ _) hmlh (by omega) ?_
    intro v8 w8 h8 hx8
    obtain ⟨ao8,g8,cap8,rfl,-,-,-,-,-,-,-⟩:=lk 4 h8 rfl
    refine hK.out _ _ ⟨(ld 2 h8 rfl).1 4,(lH 3 h8 rfl).1 _ _ (by rw [<- HXB.out]; exact (lE hk).2)⟩ (fun _=>?_)
    clear hK K
    try simp only [Act.put,tA,tB,tC,tD,tE,tF]
    refine tk 15 ?_
    refine tk 16 ?_
    try simp only [Act.put,tA,tB,tC,tD,tE,tF]
    refine rd 17 rfl fun K hK=>?_
    obtain ⟨c8,f8⟩:=ld 2 h8 rfl
    have h9:=lg (i:=5) (v:=.slice ao8 (m.held.length + 1) cap8) 2 h8 rfl
    have hx9:=((HX7.out).trans hx8).setCell ⟨b,5,none⟩ (.slice ao8 (m.held.length + 1) cap8)
    go_simp
    refine hK.out _ _ ⟨(ld 2 h9 rfl).1 4,(lH 3 h9 rfl).1 _ _ (by rw [<- HXB.out]; exact (lE hk).2)⟩ (fun _=>?_)
    clear hK K c8 f8
    try simp only [Act.put,tA,tB,tC,tD,tE,tF]
    refine wpAnyH_done (by kernel_rfl) ?_ _
    have h10:=h9
    have hx10:=hx9
    clear h9 hx9 h8 hx8
    generalize w8.setCell ⟨b,5,none⟩ (.slice ao8 (m.held.length + 1) cap8) = w9 at *
    obtain ⟨c,f⟩:=ld 2 h10 rfl
    go_wp2_with fail
    go_ret
    rw [HSS.out]
    have h11:=lg (i:=4) (v:=.slice (some ⟨g2,0,none⟩) m.t.length cap2) 2 h10 rfl
    refine ⟨rfl,hx10.setCell _ _,?_⟩
    have h12:=lh 2 (lu 1 (le h11) rfl) rfl
    have h13:=yW (m:={ m with d:=res.2,t:=m.t.set k (e1,e2),held:=m.held++[xb] }) (vt:=.slice (some ⟨g2,0,none⟩) m.t.length cap2) (vh:=.slice ao8 (m.held.length + 1) cap8) (by
     dsimp only
     rw [HLEN.out,show (m.held++[xb]).length = m.held.length + 1 by simp,show Au (m.held++[xb]) = Au m.held++[.int .i64 xb] by simp [Au]]
     exact h12)
    exact lh 1 h13 rfl
  ·have hS : S = (0,{ m with d:=res.2,t:=m.t.set k (e1,e2) }):=by
    rw [HSE.out,zq (by simpa using HZ.out),zq h2]
   have HSS:=zh hS
   have t2 : (xa == 2) = false:=zb.2 h2
   clear h2 hS
   go_wp2_with fail
   go_ret
   rw [HSS.out]
   have h11:=lg (i:=4) (v:=.slice (some ⟨g2,0,none⟩) m.t.length cap2) 1 h5 rfl
   refine ⟨rfl,hx5.setCell _ _,?_⟩
   have h12:=lh 2 (lu 1 h11 rfl) rfl
   have h13:=yW (m:={ m with d:=res.2,t:=m.t.set k (e1,e2) }) (vt:=.slice (some ⟨g2,0,none⟩) m.t.length cap2) (by
    dsimp only
    rw [HLEN.out]
    exact h12)
   exact lh 1 h13 rfl
 ·have hS : S = (res.1,{ m with d:=res.2 }):=by rw [HSE.out,zt hz]
  have hpz : 0 < res.1:=by omega
  have HSS:=zh hS
  clear hS hz
  go_wp2_with fail
  go_ret
  rw [HSS.out]
  refine ⟨rfl,hx5,?_⟩
  have h8:=yW (m:={ m with d:=res.2 }) (le h5)
  exact lh 1 h8 rfl
def ImgM.clear (m : ImgM) (k : Int) : Int×ImgM:=if m.there k = true then (if m.kind k = 1 then (0,m) else m.setE k.toNat (1,0)) else (1,m)
theorem o6 {m : ImgM} {k : Int} (hm : m.Ok) (h : m.there k = true) : 0 <= k /\ k < m.c /\ k.toNat < m.t.length:=by
 have ht:=hm.t
 unfold ImgM.there at h
 simp at h
 omega
theorem TV (b bd bh : Nat) (m : ImgM) (hm : m.Ok) (hw : m.d.writes < 1000000) (hp : m.d.pend.length < 1000000) (k : Int) (R : List SL.HP) (w : World) (H : own w (lP b bd bh m::lm bd m.d::R)) :
  Calls Tryz.prog 65 #[.pointer (some ⟨b,0,none⟩),.int .i64 k] w fun e w'=>e = .returned (errV (m.clear k).1) /\ Ext w w' /\ own w' (lP b bd bh (m.clear k).2::lm bd (m.clear k).2.d::R):=by
 have hth:=D3 b bd bh m k _ w H
 cases ht : m.there k
 ·have e : m.clear k = (1,m):=by unfold ImgM.clear; rw [ht,zq (by decide)]
  rw [e]
  rw [ht] at hth
  have HT:=zh hth
  clear hth e ht
  go_enter Tryz.func65,Tryz.ntmps65
  go_wp2_with fail
  refine HT.out.mono ?_
  rintro e w' ⟨rfl,rfl⟩
  go_wp2_with fail
  go_ret
  exact ⟨rfl,zR _,H⟩
 ·obtain ⟨k0,-,hkl⟩:=o6 hm ht
  obtain ⟨n,rfl⟩:=ze k0
  rw [zn] at hkl
  rw [ht] at hth
  have HT:=zh hth
  obtain ⟨v,h⟩:=yF H
  obtain ⟨ao,g,cap,rfl,r1,r2,r3,-,-,r6,-⟩:=lk 1 h rfl
  obtain rfl:=r3 (by omega)
  have e1:=r6 _ _ (lE hkl).1
  have e2 : w.cell? ⟨g,n * 2,none⟩ = some (.int .i64 (m.kind n)):=e1
  obtain ⟨c,f⟩:=ld 0 h rfl
  by_cases h1 : m.kind n = 1
  ·have e : m.clear n = (0,m):=by unfold ImgM.clear; rw [ht,zt rfl,zt h1]
   rw [e]
   rw [h1] at e2
   clear hth e ht e1 r3 r6 h1
   go_enter Tryz.func65,Tryz.ntmps65
   go_wp2_with fail
   refine HT.out.mono ?_
   rintro e w' ⟨rfl,rfl⟩
   go_wp2_with fail
   go_ret
   exact ⟨rfl,zR _,H⟩
  ·have e : m.clear n = m.setE n (1,0):=by unfold ImgM.clear; rw [ht,zt rfl,zq h1,zn]
   rw [e]
   have t1 : (m.kind n == 1) = false:=zb.2 h1
   have HS:=zh (PG b bd bh m hm hw hp n hkl 1 0 rfl R w H)
   clear hth e ht e1 r3 r6 h1
   generalize m.kind n = kd at *
   generalize m.setE n (1,0) = S at *
   go_enter Tryz.func65,Tryz.ntmps65
   go_wp2_with fail
   refine HT.out.mono ?_
   rintro e w' ⟨rfl,rfl⟩
   go_wp2_with fail
   refine HS.out.mono ?_
   rintro e w' ⟨rfl,hx,h2⟩
   go_wp2_with fail
   go_ret
   exact ⟨rfl,hx,h2⟩
theorem Qt (b bd : Nat) (m : ImgM) (hm : m.Ok) (hw : m.d.writes < 1000000) (hp : m.d.pend.length < 1000000) (hh : m.held.length <= 1000000) (k : Int) (R : List SL.HP) (w : World) (H : own w (lX b bd m::ln bd m.d::R)) :
  Calls Tryz.prog 66 #[.pointer (some ⟨b,0,none⟩),.int .i64 k] w fun e w'=>e = .returned (.int .i64 (m.clear k).1) /\ Ext w w' /\ own w' (lX b bd (m.clear k).2::ln bd (m.clear k).2.d::R):=by
 have hth:=BL b bd m k _ w H
 cases ht : m.there k
 ·have e : m.clear k = (1,m):=by unfold ImgM.clear; rw [ht,zq (by decide)]
  rw [e]
  rw [ht] at hth
  have HT:=zh hth
  clear hth e ht
  go_enter Tryz.func66,Tryz.ntmps66
  go_wp2_with fail
  refine HT.out.mono ?_
  rintro e w' ⟨rfl,rfl⟩
  go_wp2_with fail
  go_ret
  exact ⟨rfl,zR _,H⟩
 ·obtain ⟨k0,-,hkl⟩:=o6 hm ht
  obtain ⟨n,rfl⟩:=ze k0
  rw [zn] at hkl
  rw [ht] at hth
  have HT:=zh hth
  obtain ⟨vt,vh,h⟩:=yP H
  obtain ⟨ao,g,cap,rfl,r1,r2,r3,-,-,r6,-⟩:=lk 1 h rfl
  obtain rfl:=r3 (by omega)
  have e1:=r6 _ _ (lE hkl).1
  have e2 : w.cell? ⟨g,n * 2,none⟩ = some (.int .i64 (m.kind n)):=e1
  obtain ⟨c,f⟩:=ld 0 h rfl
  by_cases h1 : m.kind n = 1
  ·have e : m.clear n = (0,m):=by unfold ImgM.clear; rw [ht,zt rfl,zt h1]
   rw [e]
   rw [h1] at e2
   clear hth e ht e1 r3 r6 h1
   go_enter Tryz.func66,Tryz.ntmps66
   go_wp2_with fail
   refine HT.out.mono ?_
   rintro e w' ⟨rfl,rfl⟩
   go_wp2_with fail
   go_ret
   exact ⟨rfl,zR _,H⟩
  ·have e : m.clear n = m.setE n (1,0):=by unfold ImgM.clear; rw [ht,zt rfl,zq h1,zn]
   rw [e]
   have t1 : (m.kind n == 1) = false:=zb.2 h1
   have HS:=zh (N5 b bd m hm hw hp hh n hkl 1 0 rfl R w H)
   clear hth e ht e1 r3 r6 h1
   generalize m.kind n = kd at *
   generalize m.setE n (1,0) = S at *
   go_enter Tryz.func66,Tryz.ntmps66
   go_wp2_with fail
   refine HT.out.mono ?_
   rintro e w' ⟨rfl,rfl⟩
   go_wp2_with fail
   refine HS.out.mono ?_
   rintro e w' ⟨rfl,hx,h2⟩
   go_wp2_with fail
   go_ret
   exact ⟨rfl,hx,h2⟩
def ImgM.openB (m : ImgM) (p : Int) : Bool:=!(m.t.contains ((2,p) : Ent)) && !(m.held.contains p)
theorem Si {m : ImgM} {p : Int} {j : Nat} (h : j < m.t.length) (he : ent m.t j = (2,p)) : m.openB p = false:=by
 have : ((2,p) : Ent)∈m.t:=by rw [<- he]; unfold ent; simp [h]
 unfold ImgM.openB
 simp [this]
theorem P5 {m : ImgM} {p : Int} {j : Nat} (h : j < m.held.length) (he : m.held.getD j 0 = p) : m.openB p = false:=by
 have : p∈m.held:=by rw [<- he]; simp [h]
 unfold ImgM.openB
 simp [this]
theorem Tr {m : ImgM} {p : Int} (h1 : ∀j,j < m.t.length -> ent m.t j≠(2,p)) (h2 : ∀j,j < m.held.length -> m.held.getD j 0≠p) : m.openB p = true:=by
 have a : ((2,p) : Ent)∉m.t:=fun h=>by
  obtain ⟨j,hj,he⟩:=List.getElem_of_mem h
  exact h1 j hj (by unfold ent; simp [hj,he])
 have b : p∉m.held:=fun h=>by
  obtain ⟨j,hj,he⟩:=List.getElem_of_mem h
  exact h2 j hj (by simp [hj,he])
 unfold ImgM.openB
 simp [a,b]
theorem Tq (b bd : Nat) (m : ImgM) (hl : m.t.length <= 1000) (hh : m.held.length <= 1000000) (p : Int) (R : List SL.HP) (w : World) (H : own w (lX b bd m::R)) :
  Calls Tryz.prog 173 #[.pointer (some ⟨b,0,none⟩),.int .i64 p] w fun e w'=>e = .returned (.bool (m.openB p)) /\ w = w':=by
 obtain ⟨vt,vh,h⟩:=yP H
 obtain ⟨ao,g,cap,rfl,r1,r2,r3,-,-,r6,-⟩:=lk 1 h rfl
 obtain ⟨hao,hg,hcap,rfl,s1,s2,s3,-,-,s6,-⟩:=lk 2 h rfl
 obtain ⟨c,f⟩:=ld 0 h rfl
 have R3:=zh r3
 have R6:=zh r6
 have S3:=zh s3
 have S6:=zh s6
 clear r3 r6 s3 s6
 go_enter Tryz.func173,Tryz.ntmps173
 go_wp2_with fail
 go_loop [5] (fun i=>∃q : Nat,q <= m.t.length /\ i = .int .i64 q /\ ∀j,j < q -> ent m.t j≠(2,p)) (fun i=>m.t.length - (intOf i).toNat)
 case atStart=>exact ⟨0,by omega,rfl,fun j h=>absurd h (by omega)⟩
 case round=>
  obtain ⟨q,hq,rfl,hj⟩:=hrel
  have HJ:=zh hj
  clear hj
  by_cases hlt : q < m.t.length
  ·obtain rfl:=R3.out (by omega)
   have e1 : w.cell? ⟨g,q * 2,none⟩ = some (.int .i64 (ent m.t q).1):=R6.out _ _ (lE hlt).1
   have e2 : w.cell? ⟨g,q * 2 + 1,none⟩ = some (.int .i64 (ent m.t q).2):=R6.out _ _ (lE hlt).2
   generalize hx : ent m.t q = x at *
   have HX:=zh hx
   clear hx
   obtain ⟨xa,xb⟩:=x
   dsimp only at e1 e2
   by_cases ha : xa = 2
   ·by_cases hb : xb = p
    ·have hfin:=Si (m:=m) (p:=p) hlt (by rw [HX.out,ha,hb])
     have HF:=zh hfin
     subst ha hb
     clear hfin
     go_wp2_with fail
     go_ret
     exact ⟨yi HF.out.symm,rfl⟩
    ·have tb : (xb == p) = false:=zb.2 hb
     have HB:=zh hb
     subst ha
     clear hb
     go_wp2_with fail
     go_round
     case rel=>exact ⟨q + 1,by omega,by go_num,fun j h=>by
      by_cases e : j = q
      ·subst e; rw [HX.out]; exact fun h=>HB.out (Prod.mk.inj h).2
      ·exact HJ.out j (by omega)⟩
     case measure=>simp [intOf]; omega
   ·have ta : (xa == 2) = false:=zb.2 ha
    have HA:=zh ha
    clear ha
    go_wp2_with fail
    go_round
    case rel=>exact ⟨q + 1,by omega,by go_num,fun j h=>by
     by_cases e : j = q
     ·subst e; rw [HX.out]; exact fun h=>HA.out (Prod.mk.inj h).1
     ·exact HJ.out j (by omega)⟩
    case measure=>simp [intOf]; omega
  ·have hqe : q = m.t.length:=by omega
   subst hqe
   go_wp2_with fail
   go_loop [6] (fun i=>∃q : Nat,q <= m.held.length /\ i = .int .i64 q /\ ∀j,j < q -> m.held.getD j 0≠p) (fun i=>m.held.length - (intOf i).toNat)
   case atStart=>exact ⟨0,by omega,rfl,fun j h=>absurd h (by omega)⟩
   case round=>
    obtain ⟨q,hq,rfl,hj2⟩:=hrel
    have HJ2:=zh hj2
    clear hj2
    by_cases hlt2 : q < m.held.length
    ·obtain rfl:=S3.out (by omega)
     have e1 : w.cell? ⟨hg,q,none⟩ = some (.int .i64 (m.held.getD q 0)):=S6.out _ _ (by simp [Au,hlt2])
     generalize hx : m.held.getD q 0 = x at *
     have HX:=zh hx
     clear hx
     by_cases hb : x = p
     ·have hfin:=P5 (m:=m) (p:=p) hlt2 (by rw [HX.out,hb])
      have HF:=zh hfin
      subst hb
      clear hfin
      go_wp2_with fail
      go_ret
      exact ⟨yi HF.out.symm,rfl⟩
     ·have tb : (x == p) = false:=zb.2 hb
      have HB:=zh hb
      clear hb
      go_wp2_with fail
      go_round
      case rel=>exact ⟨q + 1,by omega,by go_num,fun j h=>by
       by_cases e : j = q
       ·subst e; rw [HX.out]; exact HB.out
       ·exact HJ2.out j (by omega)⟩
      case measure=>simp [intOf]; omega
    ·have hqe : q = m.held.length:=by omega
     subst hqe
     go_wp2_with fail
     go_ret
     exact ⟨yi (Tr HJ.out HJ2.out).symm,rfl⟩
def ImgM.freeN (m : ImgM) : Nat:=((List.range m.p.toNat).filter fun (q : Nat)=>m.openB q).length
def I5 (t : List Ent) : List Int:=(t.filter fun e=>decide (e.1 = 2)).map (·.2)
theorem Fs {t : List Ent} {x : Int} : x∈I5 t↔((2,x) : Ent)∈t:=by
 unfold I5
 simp only [List.mem_map,List.mem_filter,decide_eq_true_eq]
 constructor
 ·rintro ⟨e,⟨h1,h2⟩,rfl⟩
  have : e = (2,e.2):=by rw [<- h2]
  rw [<- this]; exact h1
 ·intro h; exact ⟨(2,x),⟨h,rfl⟩,rfl⟩
theorem Ou {m : ImgM} (hm : m.Ok) : (I5 m.t).Nodup:=by
 unfold I5
 have h1 : m.t.Pairwise fun a b=>a.1 = 2 -> a≠b:=by
  rw [List.pairwise_iff_getElem]
  intro i j hi hj hij h he
  have:=hm.one i j hi hj (by unfold ent; simpa [hi] using h) (by unfold ent; simp [hi,hj,he])
  omega
 rw [List.Nodup,List.pairwise_map]
 refine List.Pairwise.imp_of_mem ?_ (h1.filter _)
 intro a b ha hb hab he
 simp only [List.mem_filter,decide_eq_true_eq] at ha hb
 exact hab ha.2 (Prod.ext (by rw [ha.2,hb.2]) he)
theorem Qm {m : ImgM} (hm : m.Ok) : (m.freeN : Int) + m.held.length + (I5 m.t).length = m.p:=by
 obtain ⟨C,hC,q1,q2,q3,q4,q5,q6,-⟩:=hm.nat
 obtain ⟨P,hP⟩:=ze q5
 have hfr : m.freeN = ((List.range P).filter fun (q : Nat)=>m.openB q).length:=by unfold ImgM.freeN; rw [hP,zn]
 have hperm : ((List.range P).map fun (q : Nat)=>(q : Int)).Perm ((((List.range P).filter fun (q : Nat)=>m.openB q).map fun (q : Nat)=>(q : Int))++(m.held++I5 m.t)):=by
  have hcast : ∀l : List Nat,l.Nodup -> (l.map fun (q : Nat)=>(q : Int)).Nodup:=fun l h=>by
   rw [List.Nodup,List.pairwise_map]
   exact List.Pairwise.imp (fun h he=>h (by omega)) h
  refine (List.perm_ext_iff_of_nodup (hcast _ List.nodup_range) ?_).2 fun x=>?_
  ·rw [List.nodup_append]
   refine ⟨hcast _ (List.nodup_range.filter _),?_,fun a ha b hb he=>?_⟩
   ·rw [List.nodup_append]
    refine ⟨hm.nodup,Ou hm,fun a ha b hb he=>?_⟩
    subst he
    exact hm.apart a ha (Fs.1 hb)
   ·subst he
    obtain ⟨q,hq,rfl⟩:=List.mem_map.1 ha
    have hop:=(List.mem_filter.1 hq).2
    rcases List.mem_append.1 hb with h | h
    ·unfold ImgM.openB at hop; simp [h] at hop
    ·have:=Fs.1 h
     unfold ImgM.openB at hop; simp [this] at hop
  ·simp only [List.mem_map,List.mem_append,List.mem_filter,List.mem_range]
   constructor
   ·rintro ⟨q,hq,rfl⟩
    by_cases hop : m.openB q = true
    ·exact .inl ⟨q,⟨hq,hop⟩,rfl⟩
    ·right
     have : ((2,(q : Int)) : Ent)∈m.t \/ (q : Int)∈m.held:=by
      unfold ImgM.openB at hop
      simp only [Bool.and_eq_true,Bool.not_eq_true',List.contains_eq_mem,decide_eq_false_iff_not,not_and,Classical.not_not] at hop
      by_cases h : ((2,(q : Int)) : Ent)∈m.t
      ·exact .inl h
      ·exact .inr (hop h)
     rcases this with h | h
     ·exact .inr (Fs.2 h)
     ·exact .inl h
   ·rintro (⟨q,⟨hq,-⟩,rfl⟩ | h | h)
    ·exact ⟨q,hq,rfl⟩
    ·have:=hm.range x h
     exact ⟨x.toNat,by omega,by omega⟩
    ·have h2:=hm.ents _ (Fs.1 h)
     unfold lW at h2
     simp at h2
     exact ⟨x.toNat,by omega,by omega⟩
 have hl:=hperm.length_eq
 simp only [List.length_map,List.length_append,List.length_range] at hl
 rw [<- hfr] at hl
 omega
def B2 (P : Nat) (t : List Ent) : List Value:=(List.range P).map fun (q : Nat)=>Value.bool (t.contains ((2,(q : Int)) : Ent))
theorem IC (P : Nat) (t : List Ent) : (B2 P t).length = P:=by simp [B2]
theorem Fr (P : Nat) (t : List Ent) {q : Nat} (h : q < P) : (B2 P t)[q]? = some (.bool (t.contains ((2,(q : Int)) : Ent))):=by simp [B2,h]
theorem Tt (P : Nat) : B2 P [] = List.replicate P (.bool false):=by
 unfold B2
 apply List.ext_getElem
 ·simp
 ·intro i h1 h2; simp
theorem Ty (P : Nat) (t : List Ent) {q : Nat} (h : q < P) : B2 P (t++[(2,(q : Int))]) = (B2 P t).set q (.bool true):=by
 apply List.ext_getElem?
 intro j
 rw [List.getElem?_set]
 by_cases hj : j < P
 ·rw [Fr _ _ hj]
  by_cases e : q = j
  ·subst e; rw [zt rfl,zt (by rw [IC]; exact h)]; simp
  ·rw [zq e,Fr _ _ hj,List.contains_append]
   congr 2
   have : ((2,(j : Int)) : Ent)≠(2,(q : Int)):=fun h=>e (by have:=(Prod.mk.inj h).2; omega)
   simp [List.contains_cons,this]
 ·have h1 : (B2 P (t++[(2,(q : Int))]))[j]? = none:=List.getElem?_eq_none (by rw [IC]; omega)
  have h2 : (B2 P t)[j]? = none:=List.getElem?_eq_none (by rw [IC]; omega)
  rw [h1,h2]
  split
  ·omega
  ·rfl
theorem Pm (P : Nat) (t : List Ent) {e : Ent} (h : e.1≠2) : B2 P (t++[e]) = B2 P t:=by
 unfold B2
 apply List.map_congr_left
 intro q _
 rw [List.contains_append]
 have : ((2,(q : Int)) : Ent)≠e:=fun h'=>h (by rw [<- h'])
 simp [List.contains_cons,this]
def ImgM.freeP (m : ImgM) : Int:=match (List.range m.p.toNat).find? fun (q : Nat)=>m.openB q with
 | some q=>q
 | none=>-1
theorem Kh {m : ImgM} {P q : Nat} (hP : m.p = P) (hq : q < P) (ho : m.openB q = true) (hn : ∀j : Nat,j < q -> m.openB j = false) : m.freeP = q:=by
 unfold ImgM.freeP
 rw [hP,zn]
 have : (List.range P).find? (fun (q : Nat)=>m.openB q) = some q:=by
  rw [List.find?_range_eq_some]
  exact ⟨ho,by simpa using hq,fun j hj=>by simp [hn j hj]⟩
 rw [this]
theorem Kz {m : ImgM} {P : Nat} (hP : m.p = P) (hn : ∀j : Nat,j < P -> m.openB j = false) : m.freeP = -1:=by
 unfold ImgM.freeP
 rw [hP,zn]
 have : (List.range P).find? (fun (q : Nat)=>m.openB q) = none:=by
  rw [List.find?_eq_none]
  intro j hj
  simp [hn j (List.mem_range.1 hj)]
 rw [this]
theorem ST (b bd bh : Nat) (m : ImgM) (hm : m.Ok) (R : List SL.HP) (w : World) (H : own w (lP b bd bh m::R)) :
  Calls Tryz.prog 170 #[.pointer (some ⟨b,0,none⟩)] w fun e w'=>e = .returned (.int .i64 m.freeP) /\ Ext w w' /\ own w' (lP b bd bh m::R):=by
 obtain ⟨C,hC,q1,q2,q3,q4,q5,q6,-⟩:=hm.nat
 obtain ⟨P,hP⟩:=ze q5
 have hsome:=fun (q : Nat)=>@Kh m P q hP
 have hnone:=Kz hP
 have hents:=hm.ents
 rw [hP] at hents
 have HEN:=zh hents
 have HSO:=zh hsome
 have HNO:=zh hnone
 generalize m.freeP = F at *
 obtain ⟨v,h⟩:=yF H
 obtain ⟨ao,g,cap,rfl,r1,r2,-,-,-,-,-⟩:=lk 1 h rfl
 rw [hP] at h q6
 have HP:=zh hP
 have l2 : m.t.length <= 32:=by omega
 have hml : P <= maxLen:=by simp only [maxLen]; omega
 obtain ⟨c,f⟩:=ld 0 h rfl
 clear hsome hnone hC q3 q5 hents hP
 go_enter Tryz.func170,Tryz.ntmps170
 go_wp2_with (first | (refine Di rfl _ _ 43 rfl 4 Tryz.underlying43 KJ rfl .i64 .i64 P rfl rfl (by omega) hml h ?_))
 intro w1 h1 hx1
 try simp only [Nat.mul_one] at h1
 try rw [show (Value.bool false).cells = #[.bool false] from rfl] at h1
 rw [toList_madeCells_one,<- Tt] at h1
 clear c f
 generalize w.heap.size = gu at *
 obtain ⟨c,f⟩:=ld 1 h1 rfl
 go_wp2_with fail
 clear c f
 go_loopw [19] (fun i wr=>∃q : Nat,q <= m.t.length /\ i = .int .i64 q /\ Ext w wr /\ own wr (row 4 1 (.slice (some ⟨gu,0,none⟩) P P) P (B2 P (m.t.take q))::pts b (.cells #[.pointer (some ⟨bd,0,none⟩),.int .i64 m.c,.int .i64 (P : Int),.int .i64 m.b,.slice ao m.t.length cap,.map (some bh)] 218 (0,0))::row 221 2 (.slice ao m.t.length cap) m.t.length (lG m.t)::AE bh m.held::R)) (fun i _=>m.t.length - (intOf i).toNat)
 case atStart=>exact ⟨0,by omega,rfl,hx1,h1⟩
 case round=>
  clear h1 hx1
  obtain ⟨q,hq,rfl,hxr,hown⟩:=hrel
  by_cases hlt : q < m.t.length
  ·obtain ⟨ao',g',cap',hv',-,-,r3,-,-,r6,-⟩:=lk 2 hown rfl
   simp only [Value.slice.injEq,true_and] at hv'
   obtain ⟨rfl,rfl⟩:=hv'
   obtain rfl:=r3 (by omega)
   have x1 : wr.cell? ⟨g',q * 2,none⟩ = some (.int .i64 (ent m.t q).1):=r6 _ _ (lE hlt).1
   have x2 : wr.cell? ⟨g',q * 2 + 1,none⟩ = some (.int .i64 (ent m.t q).2):=r6 _ _ (lE hlt).2
   have hst : m.t.take (q + 1) = m.t.take q++[ent m.t q]:=yM (0,0) hlt
   have hok:=HEN.out (ent m.t q) (by unfold ent; simp [hlt])
   clear r3 r6
   generalize ent m.t q = x at *
   obtain ⟨xa,xb⟩:=x
   dsimp only at x1 x2
   have HST:=zh hst
   clear hst
   go_upto_region 5 with (fail)
   have ha:=li hown (.cells #[.int .i64 xa,.int .i64 xb] 221)
   have hxa:=hxr.alloc (.cells #[.int .i64 xa,.int .i64 xb] 221)
   clear x1 x2 hown hxr
   generalize wr.heap.size = gx at *
   generalize wr.alloc (.cells #[.int .i64 xa,.int .i64 xb] 221) = wa at *
   obtain ⟨c,f⟩:=ld 0 ha rfl
   by_cases h2 : xa = 2
   ·subst h2
    have hr : 0 <= xb /\ xb < (P : Int):=by unfold lW at hok; simpa using hok
    obtain ⟨y,rfl⟩:=ze hr.1
    have hy : y < P:=by omega
    obtain ⟨k2,k3⟩:=lH 1 ha rfl
    have cu:=k2 y _ (Fr P (m.t.take q) hy)
    clear k2 hok hr
    have i1 : (0 : Int) <= (y : Int):=by omega
    have i2 : (y : Int) < (P : Int):=by omega
    go_wp2_with fail
    go_roundw
    case rel=>
     have h5:=AJ 1 y (.bool true) ha rfl (by omega)
     refine ⟨q + 1,by omega,by go_num,hxa.setCell _ _,?_⟩
     rw [HST.out,Ty P _ hy]
     exact le h5
    case measure=>simp [intOf]; omega
   ·have t2 : (xa == 2) = false:=zb.2 h2
    have HN:=zh h2
    clear h2 hok
    go_wp2_with fail
    go_roundw
    case rel=>exact ⟨q + 1,by omega,by go_num,hxa,by rw [HST.out,Pm P _ HN.out]; exact le ha⟩
    case measure=>simp [intOf]; omega
  ·have hqe : q = m.t.length:=by omega
   subst hqe
   rw [List.take_length] at hown
   obtain ⟨k2,-⟩:=lH 0 hown rfl
   have K2:=zh (fun (y : Nat) (hy : y < P)=>k2 y _ (Fr P m.t hy))
   have HL:=zh (fun x=>OC 3 hown rfl x)
   obtain ⟨c,f⟩:=ld 1 hown rfl
   clear k2
   have hfin : own wr (lP b bd bh m::R):=ye (v:=.slice ao m.t.length cap) (by rw [HP.out]; exact le hown)
   clear hown hlt
   go_wp2_with fail
   go_loop [33] (fun i=>∃q : Nat,q <= P /\ i = .int .i64 q /\ ∀j : Nat,j < q -> m.openB j = false) (fun i=>P - (intOf i).toNat)
   case atStart=>exact ⟨0,by omega,rfl,fun j h=>absurd h (by omega)⟩
   case round=>
    obtain ⟨q,hq,rfl,hj⟩:=hrel
    have HJ:=zh hj
    clear hj
    by_cases hlt : q < P
    ·have cq:=K2.out q hlt
     have hlk:=HL.out q
     have i1 : (0 : Int) <= (q : Int):=by omega
     have i2 : (q : Int) < (P : Int):=by omega
     have hob : m.openB q = (!(m.t.contains ((2,(q : Int)) : Ent)) && !(decide ((q : Int)∈m.held))):=by unfold ImgM.openB; simp
     cases hc : m.t.contains ((2,(q : Int)) : Ent)
     ·rw [hc] at cq hob
      by_cases hin : (q : Int)∈m.held
      ·rw [zg hin] at hlk hob
       have HOB:=zh hob
       clear hob hc hin
       go_wp2_with fail
       go_round
       case rel=>exact ⟨q + 1,by omega,by go_num,fun j h=>by
        by_cases e : j = q
        ·subst e; rw [HOB.out]; rfl
        ·exact HJ.out j (by omega)⟩
       case measure=>simp [intOf]; omega
      ·rw [zf hin] at hlk hob
       have hF:=HSO.out q hlt (by rw [hob]; rfl) HJ.out
       have HF:=zh hF
       clear hob hc hin hF
       go_wp2_with fail
       go_ret
       exact ⟨A4 (by rw [HF.out]),hxr,hfin⟩
     ·rw [hc] at cq hob
      have HOB:=zh hob
      clear hob hc
      go_wp2_with fail
      go_round
      case rel=>exact ⟨q + 1,by omega,by go_num,fun j h=>by
       by_cases e : j = q
       ·subst e; rw [HOB.out]; rfl
       ·exact HJ.out j (by omega)⟩
      case measure=>simp [intOf]; omega
    ·have hqe : q = P:=by omega
     subst hqe
     have hF:=HNO.out HJ.out
     have HF:=zh hF
     clear hF
     go_wp2_with fail
     go_ret
     exact ⟨A4 (by rw [HF.out]),hxr,hfin⟩
def DevM.puts (m : DevM) (at_ : Int) : List ByteArray -> Int×DevM
 | []=>(0,m)
 | s::l=>if (m.write at_ s).1≠0 then m.write at_ s else (m.write at_ s).2.puts (at_ + 1) l
def lO (s : ByteArray) (n : Nat) : List ByteArray:=(List.range n).map (oH s)
theorem EG (s : ByteArray) {n k : Nat} (h : k < n) : (lO s n).drop k = oH s k::(lO s n).drop (k + 1):=by
 rw [List.drop_eq_getElem_cons (by simp [lO]; exact h)]
 simp [lO]
theorem FJ (s : ByteArray) (n : Nat) : (lO s n).drop n = []:=List.drop_of_length_le (by simp [lO])
theorem yE (m : DevM) (n : Int) (s : ByteArray) : (m.write n s).2.fl.length = m.fl.length /\ (m.write n s).2.pend.length <= m.pend.length + 1 /\ (m.write n s).2.writes <= m.writes + 1:=by
 unfold DevM.write
 split
 ·exact ⟨rfl,by dsimp only; omega,by dsimp only; omega⟩
 ·split
  ·exact ⟨rfl,by dsimp only; omega,by dsimp only; omega⟩
  ·exact ⟨rfl,by simp,by dsimp only; omega⟩
def NH (L : DevM -> List HP) (d : DevM) (at_ : Int) (s : ByteArray) (n : Nat) (res : Int×DevM) (w0 : World) (i : Value) (wr : World) : Prop:=
 ∃(k : Nat) (dk : DevM),k <= n /\ i = .int .i64 k /\ dk.puts (at_ + k) ((lO s n).drop k) = res /\ dk.Ok /\ dk.pend.length <= d.pend.length + k /\ dk.writes <= d.writes + k /\ Ext w0 wr /\ own wr (L dk)
theorem IS (b bd : Nat) (m : ImgM) (d : DevM) (hd : d.Ok) (hp : d.pend.length < 999000) (hw : d.writes < 999000) (at_ : Int) (a0 : 0 <= at_) (a1 : at_ <= 1000) (s : ByteArray) (n : Nat) (hn : s.size = 16 * n) (n4 : n <= 4) (R : List SL.HP) (w : World) (H : own w (lX b bd m::ln bd d::R)) :
  Calls Tryz.prog 174 #[.pointer (some ⟨b,0,none⟩),.int .i64 at_,.string s] w fun e w'=>e = .returned (.int .i64 (d.puts at_ (lO s n)).1) /\ Ext w w' /\ own w' (lX b bd m::ln bd (d.puts at_ (lO s n)).2::R):=by
 generalize hres : d.puts at_ (lO s n) = res
 have HRES:=zh hres
 clear hres
 have hsz : (s.size : Int) = 16 * (n : Int):=by omega
 have HSZ:=zh hn
 have hs4 : s.size <= 64:=by omega
 have HSI:=zh hsz
 clear hn hsz
 go_enter Tryz.func174,Tryz.ntmps174
 go_wp2_with fail
 go_loopw [7] (NH (fun dk=>lX b bd m::ln bd dk::R) d at_ s n res w) (fun i _=>n - (intOf i).toNat)
 case atStart=>exact ⟨0,d,by omega,rfl,by simpa using HRES.out,hd,by omega,by simp,zR _,H⟩
 case round=>
  obtain ⟨k,dk,hk,rfl,hput,okd,hpk,hwk,hxr,hown⟩:=hrel
  by_cases hlt : k < n
  ·rw [EG s hlt] at hput
   have HPUT:=zh hput
   clear hput
   have b0 : 16 * (k : Int) < (s.size : Int):=by have:=HSI.out; omega
   have b1 : (0 : Int) <= 16 * (k : Int):=by omega
   have b2 : 16 * (k : Int) <= 16 * (k : Int) + 16:=by omega
   have b3 : 16 * (k : Int) + 16 <= (s.size : Int):=by have:=HSI.out; omega
   have hsl : ∀wx : World,(Instr.slice 9 (.string s) (some (.int .i64 (16 * (k : Int)))) (some (.int .i64 (16 * (k : Int) + 16))) none).run Tryz.prog wx = .ok (.string (oH s k)) wx:=fun wx=>by
    have:=run_slice_string (P:=Tryz.prog) wx 9 s .i64 .i64 (16 * (k : Int)) (16 * (k : Int) + 16) Tryz.underlying9 b1 b2 b3
    rw [this,oH,show (16 * (k : Int)).toNat = k * 16 from by omega,show (16 * (k : Int) + 16).toNat = (k + 1) * 16 from by omega]
   have hcs : (oH s k).size = 16:=by unfold oH; rw [ByteArray.size_extract]; have:=HSZ.out; omega
   have e1 : IntKind.i64.wrap (16 * (k : Int)) = 16 * (k : Int):=zi _ (by omega)
   have e2 : IntKind.i64.wrap (16 * (k : Int) + 16) = 16 * (k : Int) + 16:=zi _ (by omega)
   have e3 : IntKind.i64.wrap (at_ + (k : Int)) = at_ + (k : Int):=zi _ (by omega)
   have hcode:=ol dk (at_ + (k : Int)) (oH s k)
   obtain ⟨g1,g2,g3⟩:=yE dk (at_ + (k : Int)) (oH s k)
   have okw:=DevM.write_ok okd (at_ + (k : Int)) (oH s k) (by omega) (by omega)
   have HW:=zh (fun (R : List SL.HP) (w : World) (H : own w (ln bd dk::R))=>Ct bd dk okd (at_ + (k : Int)) (oH s k) (by omega) (by omega) (by omega) R w H)
   have hstep : dk.puts (at_ + (k : Int)) (oH s k::(lO s n).drop (k + 1)) = if (dk.write (at_ + (k : Int)) (oH s k)).1≠0 then dk.write (at_ + (k : Int)) (oH s k) else (dk.write (at_ + (k : Int)) (oH s k)).2.puts (at_ + (k : Int) + 1) ((lO s n).drop (k + 1)):=rfl
   rw [HPUT.out] at hstep
   have HST:=zh hstep
   clear hstep g1
   generalize dk.write (at_ + (k : Int)) (oH s k) = r at *
   generalize oH s k = ck at *
   obtain ⟨vt,vh,h⟩:=yP hown
   have hd1:=lj h
   go_upto_region 4 with (fail)
   go_region_held3 (fun w'=>w'.cell? ⟨b,0,none⟩ = some (.pointer (some ⟨bd,0,none⟩))) (first | exact (ld 0 hd1 rfl).1 0 | exact (ld 0 h4 rfl).1 0) ((go_at_call 163; refine (HW.out _ _ (lu 3 hd1 rfl)).mono ?_; rintro e w4 ⟨rfl,hx4,h4'⟩; have h4:=oo hd1 3 rfl h4'))
   have h5 : own w4 (lX b bd m::ln bd r.2::R):=yW h4
   have hx5:=hxr.drew.trans hx4
   clear e1 e2 e3 hsl h4 h4' hd1 h
   by_cases hz : r.1 = 0
   ·have d0 : decide (0 < r.1) = false:=zf (by omega)
    have HZ:=zh hz
    clear hz
    go_wp2_with fail
    go_roundw
    case rel=>exact ⟨k + 1,r.2,by omega,by go_num,by have:=HST.out; rw [zq (by simpa using HZ.out)] at this; rw [this]; congr 1; omega,okw,by omega,by omega,hx5,h5⟩
    case measure=>simp [intOf]; omega
   ·have d0 : decide (0 < r.1) = true:=zg (by omega)
    have hfin : res = r:=by have:=HST.out; rw [zt hz] at this; exact this
    have HF:=zh hfin
    clear hz hfin
    go_wp2_with fail
    go_ret
    rw [HF.out]
    exact ⟨rfl,hx5,h5⟩
  ·have hke : k = n:=by omega
   subst hke
   rw [FJ,DevM.puts] at hput
   have HF:=zh hput
   have b0 : (s.size : Int) <= 16 * (k : Int):=by have:=HSI.out; omega
   clear hput hlt
   go_wp2_with fail
   go_ret
   rw [<- HF.out]
   exact ⟨rfl,hxr,hown⟩
def ImgM.wrBad (m : ImgM) (k fr : Int) (s : ByteArray) : Prop:=m.there k = false \/ fr < 0 \/ 4 < fr \/ s.size % 16≠0 \/ 16 * (4 - fr) < (s.size : Int)
instance (m : ImgM) (k fr : Int) (s : ByteArray) : Decidable (m.wrBad k fr s):=by unfold ImgM.wrBad; infer_instance
def ImgM.wr (m : ImgM) (k fr : Int) (s : ByteArray) : Int×ImgM:=
 if m.wrBad k fr s then (1,m) else if m.kind k≠2 then (4,m)
 else ((m.d.puts (m.first (ent m.t k.toNat).2 + fr) (lO s (s.size / 16))).1,{ m with d:=(m.d.puts (m.first (ent m.t k.toNat).2 + fr) (lO s (s.size / 16))).2 })
theorem JB {m : ImgM} {k fr : Int} {s : ByteArray} (h : m.wrBad k fr s) : m.there k = false \/ (m.there k = true /\ fr < 0) \/ (m.there k = true /\ 0 <= fr /\ 4 < fr) \/ (m.there k = true /\ 0 <= fr /\ fr <= 4 /\ 0 < (s.size : Int) % 16) \/ (m.there k = true /\ 0 <= fr /\ fr <= 4 /\ (s.size : Int) % 16 = 0 /\ 16 * (4 - fr) < (s.size : Int)):=by
 unfold ImgM.wrBad at h
 cases ht : m.there k
 ·exact .inl rfl
 ·rw [ht] at h
  have h' : fr < 0 \/ 4 < fr \/ s.size % 16≠0 \/ 16 * (4 - fr) < (s.size : Int):=h.resolve_left (by simp)
  clear h
  right
  by_cases h1 : fr < 0
  ·exact .inl ⟨rfl,h1⟩
  ·by_cases h2 : 4 < fr
   ·exact .inr (.inl ⟨rfl,by omega,h2⟩)
   ·by_cases h3 : s.size % 16 = 0
    ·exact .inr (.inr (.inr ⟨rfl,by omega,by omega,by omega,by omega⟩))
    ·exact .inr (.inr (.inl ⟨rfl,by omega,by omega,by omega⟩))
theorem DG {m : ImgM} (hm : m.Ok) {y : Int} (h0 : 0 <= y) (h1 : y <= 40) : 1 <= m.first y /\ m.first y <= 165:=by
 obtain ⟨C,hC,q1,q2,q3,q4,-⟩:=hm.nat
 unfold ImgM.first
 rw [hC,zn]
 omega
theorem BN {m : ImgM} (hm : m.Ok) {k : Nat} (hk : k < m.t.length) (h2 : (ent m.t k).1 = 2) : 0 <= (ent m.t k).2 /\ (ent m.t k).2 < m.p:=by
 have h:=hm.ents (ent m.t k) (by unfold ent; simp [hk])
 unfold lW at h
 rw [zt h2] at h
 simpa using h
theorem TR (b bd bh : Nat) (m : ImgM) (hm : m.Ok) (hp : m.d.pend.length < 999000) (hw : m.d.writes < 999000) (k fr : Int) (f0 : lR fr) (s : ByteArray) (hs : s.size <= 9223372036854775807) (R : List SL.HP) (w : World) (H : own w (lP b bd bh m::lm bd m.d::R)) :
  Calls Tryz.prog 259 #[.pointer (some ⟨b,0,none⟩),.int .i64 k,.int .i64 fr,.string s] w fun e w'=>e = .returned (errV (m.wr k fr s).1) /\ Ext w w' /\ own w' (lP b bd bh (m.wr k fr s).2::lm bd (m.wr k fr s).2.d::R):=by
 have hth:=D3 b bd bh m k _ w H
 obtain ⟨f1,f2⟩:=f0
 by_cases hb : m.wrBad k fr s
 ·have e : m.wr k fr s = (1,m):=by unfold ImgM.wr; rw [zt hb]
  rw [e]
  rcases JB hb with ht | ⟨ht,g1⟩ | ⟨ht,g1,g2⟩ | ⟨ht,g1,g2,g3⟩ | ⟨ht,g1,g2,g3,g4⟩
  all_goals
   rw [ht] at hth
   have HT:=zh hth
   clear hth e ht hb
   go_enter Tryz.func259,Tryz.ntmps259
   go_wp2_with fail
   refine HT.out.mono ?_
   rintro e w' ⟨rfl,rfl⟩
   go_wp2_with fail
   go_ret
   exact ⟨rfl,zR _,H⟩
 ·have hb':=hb
  unfold ImgM.wrBad at hb'
  have ht : m.there k = true:=by cases h : m.there k; exact absurd (.inl h) hb'; rfl
  have g1 : 0 <= fr:=by omega
  have g2 : fr <= 4:=by omega
  have g3 : (s.size : Int) % 16 = 0:=by omega
  have g4 : (s.size : Int) <= 16 * (4 - fr):=by omega
  have g4' : (s.size : Int) <= (4 - fr) * 16:=by omega
  obtain ⟨k0,-,hkl⟩:=o6 hm ht
  obtain ⟨n,rfl⟩:=ze k0
  rw [zn] at hkl
  rw [ht] at hth
  have HT:=zh hth
  obtain ⟨v,h⟩:=yF H
  obtain ⟨ao,g,cap,rfl,r1,r2,r3,-,-,r6,-⟩:=lk 1 h rfl
  obtain rfl:=r3 (by omega)
  have x1 : w.cell? ⟨g,n * 2,none⟩ = some (.int .i64 (m.kind n)):=r6 _ _ (lE hkl).1
  have x2 : w.cell? ⟨g,n * 2 + 1,none⟩ = some (.int .i64 (ent m.t n).2):=r6 _ _ (lE hkl).2
  obtain ⟨c,f⟩:=ld 0 h rfl
  by_cases h1 : m.kind n = 2
  ·have e : m.wr n fr s = ((m.d.puts (m.first (ent m.t n).2 + fr) (lO s (s.size / 16))).1,{ m with d:=(m.d.puts (m.first (ent m.t n).2 + fr) (lO s (s.size / 16))).2 }):=by
    unfold ImgM.wr
    rw [zq hb,zq (by simpa using h1),zn]
   generalize m.wr n fr s = S at *
   have HE:=zh e
   obtain ⟨y0,y1⟩:=BN hm hkl h1
   obtain ⟨C,hC,q1,q2,q3,q4,q5,q6,-⟩:=hm.nat
   obtain ⟨F0,F1⟩:=DG hm y0 (by omega)
   have hget:=(lE (l:=m.t) hkl).2
   have HGET : Hid ((lG m.t)[n * 2 + 1]? = some (.int .i64 (ent m.t n).2)):=zh hget
   rw [h1] at x1
   obtain ⟨N,hN⟩ : ∃N : Nat,s.size = 16 * N:=⟨s.size / 16,by omega⟩
   have hN16 : s.size / 16 = N:=by omega
   rw [hN16] at HE
   have n4 : N <= 4:=by omega
   have HN:=zh hN
   have y2 : (ent m.t n).2 <= 40:=by omega
   have HFI:=zh (fun (R : List SL.HP) (w : World) (H : own w (lP b bd bh m::R))=>Io b bd bh m hm (ent m.t n).2 y0 (by omega) R w H)
   generalize (ent m.t n).2 = y at *
   generalize m.first y = F at *
   generalize hres : m.d.puts (F + fr) (lO s N) = res at *
   have HRES:=zh hres
   have hd:=hm.d
   clear hth e ht r3 r6 hb hb' h1 hN hN16 hC q1 q2 q3 q4 q5 q6 hres hget
   have i1 : (0 : Int) <= (n : Int):=by omega
   have i2 : (n : Int) < (m.t.length : Int):=by omega
   go_enter Tryz.func259,Tryz.ntmps259
   go_wp2_with fail
   refine HT.out.mono ?_
   rintro e w' ⟨rfl,rfl⟩
   go_wp2_with fail
   go_loopw [9] (NH (fun dk=>lP b bd bh m::lm bd dk::R) m.d (F + fr) s N res w) (fun i _=>N - (intOf i).toNat)
   case atStart=>exact ⟨0,m.d,by omega,rfl,by simpa using HRES.out,hd,by omega,by simp,zR _,H⟩
   case round=>
    obtain ⟨q,dk,hq,rfl,hput,okd,hpk,hwk,hxr,hown⟩:=hrel
    clear c f x1 x2 h
    by_cases hlt : q < N
    ·rw [EG s hlt] at hput
     have HPUT:=zh hput
     clear hput
     have b0 : (q : Int) * 16 < (s.size : Int):=by have:=HN.out; omega
     have b1 : (0 : Int) <= (q : Int) * 16:=by omega
     have b2 : (q : Int) * 16 <= ((q : Int) + 1) * 16:=by omega
     have b3 : ((q : Int) + 1) * 16 <= (s.size : Int):=by have:=HN.out; omega
     have hsl : ∀wx : World,(Instr.slice 9 (.string s) (some (.int .i64 ((q : Int) * 16))) (some (.int .i64 (((q : Int) + 1) * 16))) none).run Tryz.prog wx = .ok (.string (oH s q)) wx:=fun wx=>by
      have:=run_slice_string (P:=Tryz.prog) wx 9 s .i64 .i64 ((q : Int) * 16) (((q : Int) + 1) * 16) Tryz.underlying9 b1 b2 b3
      rw [this,oH,show ((q : Int) * 16).toNat = q * 16 from by omega,show (((q : Int) + 1) * 16).toNat = (q + 1) * 16 from by omega]
     have hcs : (oH s q).size = 16:=by unfold oH; rw [ByteArray.size_extract]; have:=HN.out; omega
     have e1 : IntKind.i64.wrap ((q : Int) * 16) = (q : Int) * 16:=zi _ (by omega)
     have e2 : IntKind.i64.wrap ((q : Int) + 1) = (q : Int) + 1:=zi _ (by omega)
     have e2' : IntKind.i64.wrap (((q : Int) + 1) * 16) = ((q : Int) + 1) * 16:=zi _ (by omega)
     have e3 : IntKind.i64.wrap (F + fr) = F + fr:=zi _ (by omega)
     have e4 : IntKind.i64.wrap (F + fr + (q : Int)) = F + fr + (q : Int):=zi _ (by omega)
     have hcode:=ol dk (F + fr + (q : Int)) (oH s q)
     obtain ⟨l1,l2,l3⟩:=yE dk (F + fr + (q : Int)) (oH s q)
     have okw:=DevM.write_ok okd (F + fr + (q : Int)) (oH s q) (by omega) (by omega)
     have HW:=zh (fun (R : List SL.HP) (w : World) (H : own w (lm bd dk::R))=>Ci bd dk okd (F + fr + (q : Int)) (oH s q) (by omega) (by omega) (by omega) R w H)
     have hstep : dk.puts (F + fr + (q : Int)) (oH s q::(lO s N).drop (q + 1)) = if (dk.write (F + fr + (q : Int)) (oH s q)).1≠0 then dk.write (F + fr + (q : Int)) (oH s q) else (dk.write (F + fr + (q : Int)) (oH s q)).2.puts (F + fr + (q : Int) + 1) ((lO s N).drop (q + 1)):=rfl
     rw [HPUT.out] at hstep
     have HST:=zh hstep
     clear hstep l1
     generalize dk.write (F + fr + (q : Int)) (oH s q) = r at *
     generalize oH s q = ck at *
     obtain ⟨v,h⟩:=yF hown
     obtain ⟨ao2,g2,cap2,rfl,-,-,t3,-,-,t6,-⟩:=lk 1 h rfl
     obtain rfl:=t3 (by omega)
     clear t3 t6
     have hd1:=lj h
     go_upto_region 8 with (fail)
     go_region_held3 (fun w'=>w'.cell? ⟨b,0,none⟩ = some (.pointer (some ⟨bd,0,none⟩)) /\ w'.cell? ⟨b,4,none⟩ = some (.slice (some ⟨g2,0,none⟩) m.t.length cap2) /\ w'.cell? ⟨g2,n * 2 + 1,none⟩ = some (.int .i64 y)) (first | exact ⟨(ld 0 hd1 rfl).1 0,(ld 0 hd1 rfl).1 4,(lH 1 hd1 rfl).1 _ _ HGET.out⟩ | exact ⟨(ld 0 h4 rfl).1 0,(ld 0 h4 rfl).1 4,(lH 1 h4 rfl).1 _ _ HGET.out⟩) (first | (go_at_call 171; refine (HFI.out _ _ (ye hd1)).mono ?_; rintro e w' ⟨rfl,rfl⟩) | (go_at_call 160; refine (HW.out _ _ (lu 3 hd1 rfl)).mono ?_; rintro e w4 ⟨rfl,hx4,h4'⟩; have h4:=oo hd1 3 rfl h4'))
     have h5 : own w4 (lP b bd bh m::lm bd r.2::R):=ye h4
     have hx5:=hxr.drew.trans hx4
     clear e1 e2 e2' e3 e4 hsl h4 h4' hd1 h
     by_cases hz : r.1 = 0
     ·have HZ:=zh hz
      rw [hz,oa]
      clear hz
      go_wp2_with fail
      go_roundw
      case rel=>exact ⟨q + 1,r.2,by omega,by go_num,by have:=HST.out; rw [zq (by simpa using HZ.out)] at this; rw [this]; congr 1; omega,okw,by omega,by omega,hx5,h5⟩
      case measure=>simp [intOf]; omega
     ·have hfin : res = r:=by have:=HST.out; rw [zt hz] at this; exact this
      have HF:=zh hfin
      have hpz : 0 < r.1:=by omega
      have HPE:=zh (lx hpz)
      rw [lx hpz]
      clear hz hfin
      go_wp2_with fail
      go_ret
      rw [HE.out,HF.out]
      exact ⟨by rw [HPE.out]; rfl,hx5,h5⟩
    ·have hqe : q = N:=by omega
     subst hqe
     rw [FJ,DevM.puts] at hput
     have HF:=zh hput
     have b0 : (s.size : Int) <= (q : Int) * 16:=by have:=HN.out; omega
     clear hput hlt
     go_wp2_with fail
     go_ret
     rw [HE.out,<- HF.out]
     exact ⟨rfl,hxr,hown⟩
  ·have e : m.wr n fr s = (4,m):=by unfold ImgM.wr; rw [zq hb,zt h1]
   rw [e]
   have t1 : (m.kind n != 2) = true:=bne_iff_ne.2 h1
   clear hth e ht r3 r6 hb hb' h1
   generalize m.kind n = kd at *
   have i1 : (0 : Int) <= (n : Int):=by omega
   have i2 : (n : Int) < (m.t.length : Int):=by omega
   go_enter Tryz.func259,Tryz.ntmps259
   go_wp2_with fail
   refine HT.out.mono ?_
   rintro e w' ⟨rfl,rfl⟩
   go_wp2_with fail
   go_ret
   exact ⟨rfl,zR _,H⟩
theorem Qr (b bd : Nat) (m : ImgM) (hm : m.Ok) (hp : m.d.pend.length < 999000) (hw : m.d.writes < 999000) (k fr : Int) (f0 : lR fr) (s : ByteArray) (hs : s.size <= 9223372036854775807) (R : List SL.HP) (w : World) (H : own w (lX b bd m::ln bd m.d::R)) :
  Calls Tryz.prog 241 #[.pointer (some ⟨b,0,none⟩),.int .i64 k,.int .i64 fr,.string s] w fun e w'=>e = .returned (.int .i64 (m.wr k fr s).1) /\ Ext w w' /\ own w' (lX b bd (m.wr k fr s).2::ln bd (m.wr k fr s).2.d::R):=by
 have hth:=BL b bd m k _ w H
 obtain ⟨f1,f2⟩:=f0
 by_cases hb : m.wrBad k fr s
 ·have e : m.wr k fr s = (1,m):=by unfold ImgM.wr; rw [zt hb]
  rw [e]
  rcases JB hb with ht | ⟨ht,g1⟩ | ⟨ht,g1,g2⟩ | ⟨ht,g1,g2,g3⟩ | ⟨ht,g1,g2,g3,g4⟩
  all_goals
   rw [ht] at hth
   have HT:=zh hth
   clear hth e ht hb
   go_enter Tryz.func241,Tryz.ntmps241
   go_wp2_with fail
   refine HT.out.mono ?_
   rintro e w' ⟨rfl,rfl⟩
   go_wp2_with fail
   go_ret
   exact ⟨rfl,zR _,H⟩
 ·have hb':=hb
  unfold ImgM.wrBad at hb'
  have ht : m.there k = true:=by cases h : m.there k; exact absurd (.inl h) hb'; rfl
  have g1 : 0 <= fr:=by omega
  have g2 : fr <= 4:=by omega
  have g3 : (s.size : Int) % 16 = 0:=by omega
  have g4 : (s.size : Int) <= 16 * (4 - fr):=by omega
  have g4' : (s.size : Int) <= (4 - fr) * 16:=by omega
  obtain ⟨k0,-,hkl⟩:=o6 hm ht
  obtain ⟨n,rfl⟩:=ze k0
  rw [zn] at hkl
  rw [ht] at hth
  have HT:=zh hth
  obtain ⟨vt,vh,h⟩:=yP H
  obtain ⟨ao,g,cap,rfl,r1,r2,r3,-,-,r6,-⟩:=lk 1 h rfl
  obtain rfl:=r3 (by omega)
  have x1 : w.cell? ⟨g,n * 2,none⟩ = some (.int .i64 (m.kind n)):=r6 _ _ (lE hkl).1
  have x2 : w.cell? ⟨g,n * 2 + 1,none⟩ = some (.int .i64 (ent m.t n).2):=r6 _ _ (lE hkl).2
  obtain ⟨c,f⟩:=ld 0 h rfl
  by_cases h1 : m.kind n = 2
  ·have e : m.wr n fr s = ((m.d.puts (m.first (ent m.t n).2 + fr) (lO s (s.size / 16))).1,{ m with d:=(m.d.puts (m.first (ent m.t n).2 + fr) (lO s (s.size / 16))).2 }):=by
    unfold ImgM.wr
    rw [zq hb,zq (by simpa using h1),zn]
   generalize m.wr n fr s = S at *
   have HE:=zh e
   obtain ⟨y0,y1⟩:=BN hm hkl h1
   obtain ⟨C,hC,q1,q2,q3,q4,q5,q6,-⟩:=hm.nat
   obtain ⟨F0,F1⟩:=DG hm y0 (by omega)
   have hget:=(lE (l:=m.t) hkl).2
   have HGET : Hid ((lG m.t)[n * 2 + 1]? = some (.int .i64 (ent m.t n).2)):=zh hget
   rw [h1] at x1
   obtain ⟨N,hN⟩ : ∃N : Nat,s.size = 16 * N:=⟨s.size / 16,by omega⟩
   have hN16 : s.size / 16 = N:=by omega
   rw [hN16] at HE
   have n4 : N <= 4:=by omega
   have HN:=zh hN
   have y2 : (ent m.t n).2 <= 40:=by omega
   have HFI:=zh (GD b bd m hm (ent m.t n).2 y0 (by omega) _ w H)
   have HSE:=zh (IS b bd m m.d hm.d hp hw (m.first (ent m.t n).2 + fr) (by omega) (by omega) s N hN n4 R w H)
   generalize (ent m.t n).2 = y at *
   generalize m.first y = F at *
   generalize m.d.puts (F + fr) (lO s N) = res at *
   clear hth e ht r3 r6 hb hb' h1 hN hN16 hC q1 q2 q3 q4 q5 q6 hget
   have i1 : (0 : Int) <= (n : Int):=by omega
   have i2 : (n : Int) < (m.t.length : Int):=by omega
   go_enter Tryz.func241,Tryz.ntmps241
   go_wp2_with fail
   refine HT.out.mono ?_
   rintro e w' ⟨rfl,rfl⟩
   go_wp2_with fail
   refine HFI.out.mono ?_
   rintro e w' ⟨rfl,rfl⟩
   go_wp2_with fail
   refine HSE.out.mono ?_
   rintro e w2 ⟨rfl,hx2,h2⟩
   go_wp2_with fail
   go_ret
   rw [HE.out]
   exact ⟨rfl,hx2,h2⟩
  ·have e : m.wr n fr s = (4,m):=by unfold ImgM.wr; rw [zq hb,zt h1]
   rw [e]
   have t1 : (m.kind n != 2) = true:=bne_iff_ne.2 h1
   clear hth e ht r3 r6 hb hb' h1
   generalize m.kind n = kd at *
   have i1 : (0 : Int) <= (n : Int):=by omega
   have i2 : (n : Int) < (m.t.length : Int):=by omega
   go_enter Tryz.func241,Tryz.ntmps241
   go_wp2_with fail
   refine HT.out.mono ?_
   rintro e w' ⟨rfl,rfl⟩
   go_wp2_with fail
   go_ret
   exact ⟨rfl,zR _,H⟩
def ImgM.flush (m : ImgM) : ImgM:={ m with d:=m.d.flush,held:=[] }
theorem Dg (b bd bh : Nat) (m : ImgM) (hd : m.d.Ok) (R : List SL.HP) (w : World) (H : own w (lP b bd bh m::lm bd m.d::R)) :
  Calls Tryz.prog 172 #[.pointer (some ⟨b,0,none⟩)] w fun e w'=>e = .returned (.tuple #[]) /\ Ext w w' /\ own w' (lP b bd bh m.flush::lm bd m.d.flush::R):=by
 obtain ⟨v,h⟩:=yF H
 obtain ⟨c,f⟩:=ld 0 h rfl
 go_enter Tryz.func172,Tryz.ntmps172
 go_wp2_with fail
 refine (CT bd m.d hd _ w (lu 3 h rfl)).mono ?_
 rintro e w2 ⟨rfl,hx2,h2⟩
 have h3:=oo h 3 rfl h2
 clear c f h2
 obtain ⟨c,f⟩:=ld 0 h3 rfl
 obtain ⟨w4,hr,h4,hx4⟩:=Sq 2 h3 rfl 0
 go_wp2_with fail
 go_end0
 exact ⟨rfl,hx2.trans hx4,ye (m:=m.flush) h4⟩
theorem CK (b bd : Nat) (m : ImgM) (hd : m.d.Ok) (R : List SL.HP) (w : World) (H : own w (lX b bd m::ln bd m.d::R)) :
  Calls Tryz.prog 176 #[.pointer (some ⟨b,0,none⟩)] w fun e w'=>e = .returned (.tuple #[]) /\ Ext w w' /\ own w' (lX b bd m.flush::ln bd m.d.flush::R):=by
 obtain ⟨vt,vh,h⟩:=yP H
 obtain ⟨c,f⟩:=ld 0 h rfl
 go_enter Tryz.func176,Tryz.ntmps176
 go_wp2_with fail
 refine (Ew bd m.d hd _ w (lu 3 h rfl)).mono ?_
 rintro e w2 ⟨rfl,hx2,h2⟩
 have h3:=oo h 3 rfl h2
 clear c f h2
 obtain ⟨c,f⟩:=ld 0 h3 rfl
 go_wp2_with fail
 go_end0
 have h4:=lg (i:=5) (v:=.slice none 0 0) 0 h3 rfl
 have h5:=lr [_,_] (lv 3 1 (lh 2 h4 rfl))
 exact ⟨rfl,hx2.setCell _ _,yW (m:=m.flush) h5⟩
end Go.Proofs.YtbpblokfiajpjabGreatDoor
