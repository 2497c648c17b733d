/- Lemmas on which TopEnds stands: the texts Held Image1 Image2 FormSaysLaw Image3 Image4 Image6 Image7 Image8 Image9 Image10 Image11 Image12 Image5. No conditions. -/
import Derived.Test.YtbpblokfiajpjabGreatDoorPkfaa741a2eb
import Derived.Maps.OwnSet
set_option linter.all false
set_option maxRecDepth 1000000
set_option maxHeartbeats 32000000
namespace Go.Proofs.YtbpblokfiajpjabGreatDoor
open Go.RowKit Go.SL Go.ChangeMaps
def A7 (es : Array MapEntry) (hs : List Int) : Prop:=es.toList.map (fun e=>(e.key,e.val)) = hs.map fun h=>(Value.int .i64 h,Value.bool true)
def yU (b : Nat) (hs : List Int) : HP:=exi fun x : Array MapEntry×Nat=>fun h=>A7 x.1 hs /\ pts b (.map x.1 x.2) h
theorem FP {w : World} {L : List HP} (k : Nat) {b : Nat} {hs : List Int} (H : own w L) (hk : L[k]? = some (yU b hs)) : ∃es clock,A7 es hs /\ w.heap[b]? = some (.map es clock) /\ own w (L.set k (pts b (.map es clock))):=by
 obtain ⟨h,hs',h1,h2,a,⟨⟨es,clock⟩,hc,hp⟩,q⟩:=lG k H hk
 have H':=ot H k hk (Q:=pts b (.map es clock)) ⟨h,hs',h1,h2,a,hp,q⟩
 have hkl : k < L.length:=(zS.1 hk).1
 exact ⟨es,clock,hc,Be k H' (by simp [hkl]),H'⟩
theorem Eh {w : World} {L : List HP} (k : Nat) {b : Nat} {hs : List Int} {es : Array MapEntry} {clock : Nat} (hc : A7 es hs) (H : own w L) (hk : L[k]? = some (pts b (.map es clock))) : own w (L.set k (yU b hs)):=
 Dv k (fun h hh=>⟨(es,clock),hc,hh⟩) H hk
theorem Ja {w : World} {L : List HP} (H : own w L) : own (w.alloc (.map #[] 0)) (yU w.heap.size []::L):=
 Eh 0 (hs:=[]) (es:=#[]) (clock:=0) rfl (lf H (.map #[] 0)) rfl
theorem KP {es : List MapEntry} {hs : List Int} (h : es.map (fun e=>(e.key,e.val)) = hs.map fun h=>(Value.int .i64 h,Value.bool true)) (k : Int) : ∀i,Instr.findNow (.int .i64) (.int .i64 k) es i = some (if k∈hs then some (i + hs.idxOf k,Value.bool true) else none):=by
 induction es generalizing hs with
 | nil=>
  cases hs with
  | nil=>intro i; rfl
  | cons a hs=>simp at h
 | cons e es ih=>
  intro i
  cases hs with
  | nil=>simp at h
  | cons a hs=>
   simp only [List.map_cons,List.cons.injEq,Prod.mk.injEq] at h
   obtain ⟨⟨h1,h2⟩,h3⟩:=h
   rw [Instr.findNow,h1,h2]
   simp only [Instr.sameNow,if_true]
   by_cases e : k = a
   ·subst e; simp
   ·have e' : (k == a) = false:=zb.2 e
    rw [e']
    simp only
    rw [ih h3]
    have e2 : (a == k) = false:=zb.2 fun h=>e h.symm
    by_cases hm : k∈hs
    ·simp [hm,e,List.idxOf_cons,e2]; omega
    ·simp [hm,e]
theorem FH {w : World} {es : Array MapEntry} {hs : List Int} (h : A7 es hs) (k : Int) : (Instr.findKey 3 (.int .i64 k) es.toList).run Tryz.prog w = .ok (if k∈hs then some (hs.idxOf k,Value.bool true) else none) w:=by
 have:=KP h k 0
 simp only [Nat.zero_add] at this
 simp [Instr.findKey,run_underlying Tryz.underlying3,this]
theorem Ir (em : Bool) (x : Int) (w : World) : (Instr.checkKey em 10000 3 (.int .i64 x)).run Tryz.prog w = .ok () w:=by
 rw [show (10000 : Nat) = 9999 + 1 from rfl,Instr.checkKey]
 simp [run_underlying Tryz.underlying3]
theorem K5 {w : World} {L : List HP} (k : Nat) {b : Nat} {hs : List Int} (H : own w L) (hk : L[k]? = some (yU b hs)) (x : Int) :
  (Instr.lookup 216 (.map (some b)) (.int .i64 x) false).run Tryz.prog w = .ok (.bool (decide (x∈hs))) w:=by
 obtain ⟨es,clock,hc,hb,_⟩:=FP k H hk
 have hz : (zeroValue 4).run Tryz.prog w = .ok (.bool false) w:=by kernel_rfl
 have hf:=FH (w:=w) hc x
 by_cases hm : x∈hs
 ·rw [zt hm] at hf
  simp [Instr.lookup,run_underlying Tryz.underlying216,MapKept.run_getObj_map hb,Ir,hf,hm,Result.andThen]
 ·rw [zq hm] at hf
  simp [Instr.lookup,run_underlying Tryz.underlying216,MapKept.run_getObj_map hb,Ir,hf,hm,hz,Result.andThen]
theorem Jo {w : World} {L : List HP} (k : Nat) {b : Nat} {es : Array MapEntry} {clock : Nat} {o' : Obj} (H : own w L) (hk : L[k]? = some (pts b (.map es clock))) (hw : w.heap[b]? = some (.map es clock)) : own (setBlock w b o') (L.set k (pts b o')):=
 Cg k H hk (by
  funext c
  by_cases hc : c = b
  ·subst hc; simp only [if_true]; exact heap_setBlock_same hw _
  ·simp only [hc,if_false]; exact heap_setBlock_other hw _ hc)
theorem I3 (w : World) (b : Nat) (o : Obj) : Ext w (setBlock w b o):=⟨rfl,rfl,rfl,by simp [setBlock]⟩
theorem Pz {w : World} {L : List HP} (k : Nat) {b : Nat} {hs : List Int} (H : own w L) (hk : L[k]? = some (yU b hs)) {x : Int} (hx : x∉hs) :
  ∃w',(Instr.mapUpdate 216 (.map (some b)) (.int .i64 x) (.bool true)).run Tryz.prog w = .ok () w' /\ own w' (L.set k (yU b (hs++[x]))) /\ Ext w w':=by
 obtain ⟨es,clock,hc,hb,H1⟩:=FP k H hk
 have hkl : k < L.length:=(zS.1 hk).1
 have hf:=FH (w:=w) hc x
 rw [zq hx] at hf
 refine ⟨setBlock w b (.map (es.push { key:=.int .i64 x,val:=.bool true,born:=clock }) (clock + 1)),?_,?_,I3 _ _ _⟩
 ·simp [Instr.mapUpdate,run_underlying Tryz.underlying216,MapKept.run_getObj_map hb,Ir,hf,MapKept.run_setObj_map _ hb,Result.andThen,setBlock]
 ·have H2:=Jo k (o':=.map (es.push { key:=.int .i64 x,val:=.bool true,born:=clock }) (clock + 1)) H1 (by simp [hkl]) hb
  have H3:=Eh k (b:=b) (hs:=hs++[x]) (es:=es.push { key:=.int .i64 x,val:=.bool true,born:=clock }) (clock:=clock + 1) (by unfold A7 at hc ⊢; simp [hc]) H2 (by simp [hkl])
  simpa only [List.set_set] using H3
theorem Mw {w : World} {L : List HP} (k : Nat) {b : Nat} {hs : List Int} (H : own w L) (hk : L[k]? = some (yU b hs)) (ty : TypeId) :
  ∃w',(Builtin.clear_ #[216] ty #[.map (some b)]).run Tryz.prog w = .ok (.tuple #[]) w' /\ own w' (L.set k (yU b [])) /\ Ext w w':=by
 obtain ⟨es,clock,hc,hb,H1⟩:=FP k H hk
 have hkl : k < L.length:=(zS.1 hk).1
 refine ⟨setBlock w b (.map #[] clock),?_,?_,I3 _ _ _⟩
 ·simp [Builtin.clear_,run_underlying Tryz.underlying216,MapKept.run_getObj_map hb,MapKept.run_setObj_map _ hb,Result.andThen,setBlock]
 ·have H2:=Jo k (o':=.map #[] clock) H1 (by simp [hkl]) hb
  have H3:=Eh k (b:=b) (hs:=[]) (es:=#[]) (clock:=clock) (show A7 #[] [] from rfl) H2 (by simp [hkl])
  simpa only [List.set_set] using H3
end Go.Proofs.YtbpblokfiajpjabGreatDoor
namespace Go.Proofs.YtbpblokfiajpjabGreatDoor
open Go.RowKit Go.SL Go.Crc
attribute [local go_sem ↓] Go.wp_at_zero Go.wp_at_succ
structure ImgM where
 d : DevM
 c : Int
 p : Int
 b : Int
 t : List Ent
 held : List Int
def ent (t : List Ent) (k : Nat) : Ent:=t.getD k (0,0)
structure ImgM.Ok (m : ImgM) : Prop where
 d : m.d.Ok
 head : ¬lH m.c m.p m.b
 t : (m.t.length : Int) = m.c
 ents : ∀e∈m.t,lR e m.p = true
 one : ∀i j : Nat,i < m.t.length -> j < m.t.length -> (ent m.t i).1 = 2 -> ent m.t i = ent m.t j -> i = j
 nodup : m.held.Nodup
 range : ∀x∈m.held,0 <= x /\ x < m.p
 apart : ∀x∈m.held,((2,x) : Ent)∉m.t
 need : 1 + (lA m.c.toNat : Int) + 4 * m.p <= m.d.fl.length
def zL (c p : Int) : Int:=1 + (lA c.toNat : Int) + 4 * p
def lE (b bd bh : Nat) (m : ImgM) : HP:=exi fun v : Value=>star [pts b (.cells #[.pointer (some ⟨bd,0,none⟩),.int .i64 m.c,.int .i64 m.p,.int .i64 m.b,v,.map (some bh)] 218 (0,0)),row 221 2 v m.t.length (lP m.t),yU bh m.held]
theorem oR {w : World} {b bd bh : Nat} {m : ImgM} {R : List HP} (H : own w (lE b bd bh m::R)) : ∃v,own w (pts b (.cells #[.pointer (some ⟨bd,0,none⟩),.int .i64 m.c,.int .i64 m.p,.int .i64 m.b,v,.map (some bh)] 218 (0,0))::row 221 2 v m.t.length (lP m.t)::yU bh m.held::R):=
 FY 0 (L:=fun v : Value=>[pts b (.cells #[.pointer (some ⟨bd,0,none⟩),.int .i64 m.c,.int .i64 m.p,.int .i64 m.b,v,.map (some bh)] 218 (0,0)),row 221 2 v m.t.length (lP m.t),yU bh m.held]) H rfl fun h hh=>hh
theorem oJ {w : World} {b bd bh : Nat} {m : ImgM} {R : List HP} {v : Value} (H : own w (pts b (.cells #[.pointer (some ⟨bd,0,none⟩),.int .i64 m.c,.int .i64 m.p,.int .i64 m.b,v,.map (some bh)] 218 (0,0))::row 221 2 v m.t.length (lP m.t)::yU bh m.held::R)) : own w (lE b bd bh m::R):=
 EK [pts b (.cells #[.pointer (some ⟨bd,0,none⟩),.int .i64 m.c,.int .i64 m.p,.int .i64 m.b,v,.map (some bh)] 218 (0,0)),row 221 2 v m.t.length (lP m.t),yU bh m.held] (fun h hh=>⟨v,hh⟩) H
def Pb (l : List Int) : List Value:=l.map (Value.int .i64)
def Sz (b bd : Nat) (m : ImgM) : HP:=exi fun v : Value×Value=>star [pts b (.cells #[.pointer (some ⟨bd,0,none⟩),.int .i64 m.c,.int .i64 m.p,.int .i64 m.b,v.1,v.2] 152 (0,0)),row 221 2 v.1 m.t.length (lP m.t),row 3 1 v.2 m.held.length (Pb m.held)]
theorem Qq {c : Int} (h : ¬(32 < c)) : lA c.toNat <= 4:=by unfold lA; omega
theorem Kt (c p b : Int) (h : ¬lH c p b) (R : List SL.HP) (w : World) (H : own w R) :
  Calls Tryz.prog 127 #[oF c p b] w fun e w'=>e = .returned (.int .i64 (zL c p)) /\ Ext w w' /\ own w' R:=by
 have ha:=lf H (.cells #[.int .i64 c,.int .i64 p,.int .i64 b] 103)
 have hxa:=(zR w).alloc (.cells #[.int .i64 c,.int .i64 p,.int .i64 b] 103)
 unfold lH at h
 obtain ⟨C,rfl⟩:=ze (show 0 <= c by omega)
 have r4:=Qq (c:=C) (by omega)
 rw [zn] at r4
 have hn : zL C p = 1 + (lA C : Int) + 4 * p:=by unfold zL; rw [zn]
 have h3 : 0 <= p:=by omega
 have h4 : p <= 40:=by omega
 have h5 : C <= 32:=by omega
 have HN:=zh hn
 clear h hn
 have e1 : IntKind.i64.wrap (p * 4) = p * 4:=zi _ (by omega)
 have e2 : IntKind.i64.wrap (1 + (lA C : Int)) = 1 + (lA C : Int):=zi _ (by omega)
 have e3 : IntKind.i64.wrap (1 + (lA C : Int) + p * 4) = 1 + (lA C : Int) + p * 4:=zi _ (by omega)
 unfold oF
 go_enter Tryz.func127,Tryz.ntmps127
 go_upto_region 1 with (fail)
 obtain ⟨cc,ff⟩:=la 0 ha rfl
 generalize w.heap.size = g at *
 generalize w.alloc (.cells #[.int .i64 C,.int .i64 p,.int .i64 b] 103) = w1 at *
 have c0:=cc 0
 have c1:=cc 1
 go_quiet ((go_at_call 156; exact Calls.quiet_of_same ((Aw C (by omega) _).mono fun e w' h=>⟨h.1,h.2.symm⟩)))
 go_wp2_with fail
 go_ret
 exact ⟨By (by rw [HN.out]; omega),hxa.drewN _,lg (lI _ ha)⟩
def ImgM.there (m : ImgM) (k : Int) : Bool:=decide (0 <= k) && decide (k < m.c)
def ImgM.first (m : ImgM) (p : Int) : Int:=1 + (lA m.c.toNat : Int) + 4 * p
theorem ImgM.Ok.nat {m : ImgM} (h : m.Ok) : ∃C : Nat,m.c = C /\ 1 <= C /\ C <= 32 /\ m.t.length = C /\ lA C <= 4 /\ 0 <= m.p /\ m.p <= 40 /\ -1 <= m.b /\ m.b <= 4:=by
 have hh:=h.head
 have ht:=h.t
 unfold lH at hh
 refine ⟨m.t.length,ht.symm,by omega,by omega,rfl,by unfold lA; omega,by omega,by omega,by omega,by omega⟩
theorem BV (b bd bh : Nat) (m : ImgM) (k : Int) (R : List SL.HP) (w : World) (H : own w (lE b bd bh m::R)) :
  Calls Tryz.prog 166 #[.pointer (some ⟨b,0,none⟩),.int .i64 k] w fun e w'=>e = .returned (.bool (m.there k)) /\ w = w':=by
 obtain ⟨v,h⟩:=oR H
 obtain ⟨c,f⟩:=la 0 h rfl
 have hd : m.there k = (decide (0 <= k) && decide (k < m.c)):=rfl
 by_cases h0 : 0 <= k
 ·have d0 : decide (0 <= k) = true:=zg h0
  rw [hd,d0,Bool.true_and]
  go_enter Tryz.func166,Tryz.ntmps166
  go_wp2_with fail
  go_ret
  exact ⟨rfl,rfl⟩
 ·have d0 : decide (0 <= k) = false:=zf h0
  rw [hd,d0,Bool.false_and]
  clear h0
  go_enter Tryz.func166,Tryz.ntmps166
  go_wp2_with fail
  go_ret
  exact ⟨rfl,rfl⟩
theorem Eo (b bd bh : Nat) (m : ImgM) (hm : m.Ok) (p : Int) (h0 : 0 <= p) (h1 : p <= 40) (R : List SL.HP) (w : World) (H : own w (lE b bd bh m::R)) :
  Calls Tryz.prog 171 #[.pointer (some ⟨b,0,none⟩),.int .i64 p] w fun e w'=>e = .returned (.int .i64 (m.first p)) /\ w = w':=by
 obtain ⟨v,h⟩:=oR H
 obtain ⟨c,f⟩:=la 0 h rfl
 obtain ⟨C,hC,q1,q2,q3,q4,-⟩:=hm.nat
 have hf : m.first p = 1 + (lA C : Int) + 4 * p:=by unfold ImgM.first; rw [hC,zn]
 rw [hf]
 rw [hC] at c
 clear hf hC
 go_enter Tryz.func171,Tryz.ntmps171
 go_wp2_with fail
 refine (Aw C (by omega) _).mono ?_
 rintro e w' ⟨rfl,rfl⟩
 go_wp2_with fail
 go_ret
 exact ⟨By (by omega),rfl⟩
def ImgM.kind (m : ImgM) (k : Int) : Int:=(ent m.t k.toNat).1
theorem DC (b bd bh : Nat) (m : ImgM) (hm : m.Ok) (k : Int) (R : List SL.HP) (w : World) (H : own w (lE b bd bh m::R)) :
  Calls Tryz.prog 151 #[.pointer (some ⟨b,0,none⟩),.int .i64 k] w fun e w'=>e = .returned (if m.there k = true then .tuple #[.int .i64 (m.kind k),.nilIface] else .tuple #[.int .i64 0,errV 1]) /\ w = w':=by
 obtain ⟨v,h⟩:=oR H
 obtain ⟨C,hC,q1,q2,q3,q4,-⟩:=hm.nat
 have hth:=BV b bd bh m k R w H
 cases ht : m.there k
 ·rw [ht] at hth
  rw [zq (by decide)]
  have HT:=zh hth
  clear hth hC q3 ht
  go_enter Tryz.func151,Tryz.ntmps151
  go_wp2_with fail
  refine HT.out.mono ?_
  rintro e w' ⟨rfl,rfl⟩
  go_wp2_with fail
  go_ret2
  exact ⟨rfl,rfl⟩
 ·rw [ht] at hth
  rw [zt rfl]
  have hr : 0 <= k /\ k < m.c:=by
   unfold ImgM.there at ht
   simpa using ht
  obtain ⟨n,rfl⟩:=ze hr.1
  have hn : n < m.t.length:=by omega
  have hk : m.kind n = (ent m.t n).1:=rfl
  rw [hk]
  obtain ⟨ao,g,cap,rfl,r1,r2,r3,-,-,r6,-⟩:=ll 1 h rfl
  obtain rfl:=r3 (by omega)
  have e1:=r6 _ _ (lY hn).1
  have e2 : w.cell? ⟨g,n * 2,none⟩ = some (.int .i64 (ent m.t n).1):=e1
  obtain ⟨c,f⟩:=la 0 h rfl
  have HT:=zh hth
  clear hth hC q3 ht hk e1 r3 r6 hr
  generalize (ent m.t n).1 = x at *
  go_enter Tryz.func151,Tryz.ntmps151
  go_wp2_with fail
  refine HT.out.mono ?_
  rintro e w' ⟨rfl,rfl⟩
  go_wp2_with fail
  go_ret2
  exact ⟨rfl,rfl⟩
theorem QF (v : Value) (t : List Ent) (row : Int) (ht : t.length <= 1000) (R : List SL.HP) (w : World) (hv : ∀w' l,own w' (l++R) -> Ax w' v t) (H : own w R) :
  Calls Tryz.prog 236 #[v,.int .i64 row] w fun e w'=>e = .returned (.tuple #[.string (lS t row).1,errV (lS t row).2]) /\ Ext w w' /\ own w' R:=by
 by_cases ho : zy t row
 ·have e : lS t row = (ByteArray.empty,1):=by rw [lS,zt ho]
  rw [e]
  exact QM v t row ht ho R w hv H
 ·obtain ⟨r,rfl⟩:=ze (show 0 <= row by unfold zy at ho; omega)
  exact SH v t r ho R w hv H
theorem Ko {l : List Ent} : ∀{k : Nat} (e : Ent),lP (l.set k e) = ((lP l).set (k * 2) (.int .i64 e.1)).set (k * 2 + 1) (.int .i64 e.2):=by
 induction l with
 | nil=>intro k e; simp [lP]
 | cons x l ih=>
  intro k e
  cases k with
  | zero=>simp [lP]
  | succ k=>
   have:=ih (k:=k) e
   have e2 : (k + 1) * 2 = k * 2 + 2:=by omega
   simp only [lP,List.set_cons_succ,List.flatMap_cons,e2] at this ⊢
   rw [this]
   simp
theorem Eu {w : World} {L : List HP} (k : Nat) {g n cap : Nat} {t : List Ent} (j : Nat) (e : Ent) (H : own w L) (hk : L[k]? = some (row 221 2 (.slice (some ⟨g,0,none⟩) n cap) n (lP t))) (hn : 0 < n) :
  own ((w.setCell ⟨g,j * 2,none⟩ (.int .i64 e.1)).setCell ⟨g,j * 2 + 1,none⟩ (.int .i64 e.2)) (L.set k (row 221 2 (.slice (some ⟨g,0,none⟩) n cap) n (lP (t.set j e)))):=by
 have hkl : k < L.length:=(zS.1 hk).1
 have h1:=Ae k (j * 2) (.int .i64 e.1) H hk hn
 have h2:=Ae (e:=221) (sz:=2) (g:=g) (n:=n) (cap:=cap) (xs:=(lP t).set (j * 2) (.int .i64 e.1)) k (j * 2 + 1) (.int .i64 e.2) h1 (by simp [hkl]) hn
 rw [List.set_set] at h2
 rw [Ko]
 exact h2
theorem Mn {t : List Ent} {r : Int} (h : (lS t r).2 = 0) : (lS t r).1.size = 16:=by
 unfold lS at h ⊢
 split
 ·rename_i h1; rw [zt h1] at h; cases h
 ·rename_i h1
  rw [zq h1] at h
  split
  ·dsimp only
   rw [strOfNums_size,C1,zZ]
  ·rename_i h2; rw [zq h2] at h; cases h
theorem ow (m : DevM) (a : Int) (s : ByteArray) : 0 <= (m.write a s).1:=by
 unfold DevM.write
 split
 ·simp
 ·split <;> simp
def ImgM.rowS (m : ImgM) (r : Nat) : ByteArray:=(lS m.t r).1
theorem DI (b bd bh : Nat) (m : ImgM) (hd : m.d.Ok) (hl : m.t.length <= 1000) (hw : m.d.writes < 1000000) (hp : m.d.pend.length < 1000000) (r : Nat) (hr : r <= 4) (hrow : (lS m.t r).2 = 0) (R : List SL.HP) (w : World) (H : own w (lE b bd bh m::lt bd m.d::R)) :
  Calls Tryz.prog 157 #[.pointer (some ⟨b,0,none⟩),.int .i64 r] w fun e w'=>e = .returned (errV (m.d.write (1 + (r : Int)) (m.rowS r)).1) /\ Ext w w' /\ own w' (lE b bd bh m::lt bd (m.d.write (1 + (r : Int)) (m.rowS r)).2::R):=by
 obtain ⟨v,h⟩:=oR H
 obtain ⟨ao,g,cap,rfl,r1,r2,-,-,-,-,-⟩:=ll 1 h rfl
 obtain ⟨c,f⟩:=la 0 h rfl
 have hsz:=Mn hrow
 have hra:=QF (.slice ao m.t.length cap) m.t r hl _ w (fun w' L H=>PW (L.length + 1) H (OL (l:=L) rfl)) h
 rw [hrow,lL] at hra
 have hs : m.rowS r = (lS m.t r).1:=rfl
 have HRA:=zh hra
 have HS:=zh hs
 rw [hs]
 clear hra hs hrow
 generalize (lS m.t r).1 = s at *
 have hdw:=fun (R : List SL.HP) (w : World) (H : own w (lt bd m.d::R))=>Au bd m.d hd (1 + (r : Int)) s (by omega) hw hp R w H
 have HDW:=zh hdw
 clear hdw
 generalize m.d.write (1 + (r : Int)) s = res at *
 go_enter Tryz.func157,Tryz.ntmps157
 go_wp2_with fail
 refine HRA.out.mono ?_
 rintro e w2 ⟨rfl,hx2,h2⟩
 clear c f
 obtain ⟨c,f⟩:=la 0 h2 rfl
 go_wp2_with fail
 refine (HDW.out _ w2 (lG 3 h2 rfl)).mono ?_
 rintro e w3 ⟨rfl,hx3,h3⟩
 have h4:=ot h2 3 rfl h3
 go_wp2_with fail
 go_ret
 exact ⟨rfl,hx2.trans hx3,oJ h4⟩
def ImgM.setE (m : ImgM) (k : Nat) (e : Ent) : Int×ImgM:=
 let r:=m.d.write (1 + (k / 8 : Nat)) (lS (m.t.set k e) (k / 8 : Nat)).1
 if r.1≠0 then (r.1,{ m with d:=r.2 })
 else (0,{ m with d:=r.2,t:=m.t.set k e,held:=if (ent m.t k).1 = 2 then m.held++[(ent m.t k).2] else m.held })
theorem C5 {t : List Ent} {r : Nat} (hl : t.length <= 32) (hr : r < lA t.length) (hv : ∀e∈t,lR e 40 = true) : (lS t r).2 = 0:=by
 have ho : ¬zy t r:=by unfold zy; omega
 rw [F4 ho fun k hk=>?_]
 by_cases h : 8 * r + k < t.length
 ·exact hv _ (by simp [h])
 ·rw [show t.getD (8 * r + k) (0,0) = (0,0) by simp [show t.length <= 8 * r + k by omega]]
  rfl
theorem DB {e : Ent} {p : Int} (h : lR e p = true) (hp : p <= 40) : lR e 40 = true:=by
 unfold lR at h ⊢
 split
 ·rename_i h1; rw [zt h1] at h; simp at h ⊢; omega
 ·rename_i h1; rw [zq h1] at h; exact h
theorem OX {t : List Ent} {k : Nat} (e : Ent) (hk : k < t.length) : (t.set k e).set k (ent t k) = t:=by
 unfold ent
 rw [List.set_set]
 apply List.ext_getElem?
 intro j
 rw [List.getElem?_set]
 by_cases h : k = j
 ·subst h; simp [hk]
 ·rw [zq h]
theorem LJ (b bd bh : Nat) (m : ImgM) (hm : m.Ok) (hw : m.d.writes < 1000000) (hp : m.d.pend.length < 1000000) (k : Nat) (hk : k < m.t.length) (e1 e2 : Int) (he : lR (e1,e2) m.p = true) (R : List SL.HP) (w : World) (H : own w (lE b bd bh m::lt bd m.d::R)) :
  Calls Tryz.prog 167 #[.pointer (some ⟨b,0,none⟩),.int .i64 k,.agg #[.int .i64 e1,.int .i64 e2]] w fun e w'=>e = .returned (errV (m.setE k (e1,e2)).1) /\ Ext w w' /\ own w' (lE b bd bh (m.setE k (e1,e2)).2::lt bd (m.setE k (e1,e2)).2.d::R):=by
 obtain ⟨C,hC,q1,q2,q3,q4,q5,q6,-⟩:=hm.nat
 have hsetE : m.setE k (e1,e2) = if (m.d.write (1 + ((k / 8 : Nat) : Int)) (lS (m.t.set k (e1,e2)) (k / 8 : Nat)).1).1≠0 then ((m.d.write (1 + ((k / 8 : Nat) : Int)) (lS (m.t.set k (e1,e2)) (k / 8 : Nat)).1).1,{ m with d:=(m.d.write (1 + ((k / 8 : Nat) : Int)) (lS (m.t.set k (e1,e2)) (k / 8 : Nat)).1).2 })
  else (0,{ m with d:=(m.d.write (1 + ((k / 8 : Nat) : Int)) (lS (m.t.set k (e1,e2)) (k / 8 : Nat)).1).2,t:=m.t.set k (e1,e2),held:=if (ent m.t k).1 = 2 then m.held++[(ent m.t k).2] else m.held }):=rfl
 generalize m.setE k (e1,e2) = S at *
 have hvalid : (lS (m.t.set k (e1,e2)) (k / 8 : Nat)).2 = 0:=C5 (by simp; omega) (by simp; unfold lA; omega) fun x hx=>by
  rcases List.mem_or_eq_of_mem_set hx with h | h
  ·exact DB (hm.ents x h) q6
  ·rw [h]; exact DB he q6
 have hcode:=ow m.d (1 + ((k / 8 : Nat) : Int)) (lS (m.t.set k (e1,e2)) (k / 8 : Nat)).1
 have hrc:=fun (R : List SL.HP) (w : World) (H : own w (lE b bd bh { m with t:=m.t.set k (e1,e2) }::lt bd m.d::R))=>DI b bd bh { m with t:=m.t.set k (e1,e2) } hm.d (by simp; omega) hw hp (k / 8) (by omega) hvalid R w H
 unfold ImgM.rowS at hrc
 dsimp only at hrc
 have HRC:=zh hrc
 have hap : (ent m.t k).1 = 2 -> (ent m.t k).2∉m.held:=fun h hin=>hm.apart _ hin (by
  have hmem : ent m.t k∈m.t:=by unfold ent; simp [hk]
  have : ent m.t k = (2,(ent m.t k).2):=by rw [<- h]
  rw [<- this]; exact hmem)
 have hsb:=OX (e1,e2) hk
 have ha:=lf H (.cells #[.int .i64 e1,.int .i64 e2] 221)
 have hxa:=(zR w).alloc (.cells #[.int .i64 e1,.int .i64 e2] 221)
 have l2 : m.t.length <= 32:=by omega
 clear hrc hvalid he hC q1 q2 q3 q4
 generalize m.d.write (1 + ((k / 8 : Nat) : Int)) (lS (m.t.set k (e1,e2)) (k / 8 : Nat)).1 = res at *
 generalize hx : ent m.t k = x at *
 have HSE:=zh hsetE
 clear hsetE
 have HX:=zh hx
 have HAP:=zh hap
 have HSB:=zh hsb
 clear hx hap hsb
 go_enter Tryz.func167,Tryz.ntmps167
 go_upto_region 1 with (fail)
 generalize w.heap.size = ge at *
 generalize w.alloc (.cells #[.int .i64 e1,.int .i64 e2] 221) = w1 at *
 obtain ⟨v,h1⟩:=oR (lG 1 ha rfl)
 clear ha
 obtain ⟨ao,g,cap,rfl,r1,r2,r3,-,-,r6,-⟩:=ll 1 h1 rfl
 obtain rfl:=r3 (by omega)
 have x1 : w1.cell? ⟨g,k * 2,none⟩ = some (.int .i64 x.1):=by rw [<- HX.out]; exact r6 _ _ (lY hk).1
 have x2 : w1.cell? ⟨g,k * 2 + 1,none⟩ = some (.int .i64 x.2):=by rw [<- HX.out]; exact r6 _ _ (lY hk).2
 clear r3 r6
 obtain ⟨xa,xb⟩:=x
 dsimp only at x1 x2
 obtain ⟨c,f⟩:=la 0 h1 rfl
 go_upto_region 2 with (fail)
 have h2:=lf h1 (.cells #[.int .i64 xa,.int .i64 xb] 221)
 have hx2:=hxa.alloc (.cells #[.int .i64 xa,.int .i64 xb] 221)
 clear c f h1 hxa x1 x2
 generalize w1.heap.size = gw at *
 generalize w1.alloc (.cells #[.int .i64 xa,.int .i64 xb] 221) = w2 at *
 obtain ⟨c,f⟩:=la 1 h2 rfl
 obtain ⟨ce,fe⟩:=la 4 h2 rfl
 obtain ⟨r6,f6⟩:=l8 2 h2 rfl
 have x1:=r6 _ _ (lY hk).1
 have x2:=r6 _ _ (lY hk).2
 clear r6
 have i1 : (0 : Int) <= (k : Int):=by omega
 have i2 : (k : Int) < (m.t.length : Int):=by omega
 go_still_tail 7,(by kernel_rfl)
 change wpList _ _ _ _ _ w2.drew
 go_wp2_with fail
 have h3:=lj (Eu 2 k (e1,e2) h2 rfl (by omega))
 have hx3:=((hx2.setCell ⟨g,k * 2,none⟩ (.int .i64 e1)).setCell ⟨g,k * 2 + 1,none⟩ (.int .i64 e2)).drew
 clear c f ce fe f6 x1 x2 h2 hx2
 dsimp only at h3
 generalize ((w2.setCell ⟨g,k * 2,none⟩ (.int .i64 e1)).setCell ⟨g,k * 2 + 1,none⟩ (.int .i64 e2)).drew = w3 at *
 have hlen : (m.t.set k (e1,e2)).length = m.t.length:=by simp
 have h4 : own w3 (lE b bd bh { m with t:=m.t.set k (e1,e2) }::lt bd m.d::pts ge (.cells #[.int .i64 e1,.int .i64 e2] 221 (0,0))::pts gw (.cells #[.int .i64 xa,.int .i64 xb] 221 (0,0))::R):=by
  have h5:=lD [_,_,_,_,_] h3
  have h6 : own w3 (lE b bd bh { m with t:=m.t.set k (e1,e2) }::pts ge (.cells #[.int .i64 e1,.int .i64 e2] 221 (0,0))::lt bd m.d::pts gw (.cells #[.int .i64 xa,.int .i64 xb] 221 (0,0))::R):=oJ (m:={ m with t:=m.t.set k (e1,e2) }) (by dsimp only; rw [hlen]; exact h5)
  exact lD [_] (lG 2 h6 rfl)
 clear h3
 rw [show (k : Int) / 8 = ((k / 8 : Nat) : Int) by omega]
 refine (HRC.out _ w3 h4).mono ?_
 rintro e w4 ⟨rfl,hx4,h5⟩
 replace hx4:=hx3.trans hx4
 clear h4 hx3
 obtain ⟨v5,h6⟩:=oR h5
 dsimp only at h6
 rw [hlen] at h6
 obtain ⟨ao5,g5,cap5,rfl,r1',r2',r3',-,-,r6',-⟩:=ll 1 h6 rfl
 obtain rfl:=r3' (by omega)
 clear r3' h5
 by_cases hz : res.1 = 0
 ·have HZ:=zh hz
  rw [hz,lL]
  obtain ⟨c,f⟩:=la 0 h6 rfl
  obtain ⟨cw,fw⟩:=la 5 h6 rfl
  clear hz r6'
  by_cases h2 : xa = 2
  ·have hni : xb∉m.held:=HAP.out h2
   have hS : S = (0,{ m with d:=res.2,t:=m.t.set k (e1,e2),held:=m.held++[xb] }):=by
    rw [HSE.out,zq (by simpa using HZ.out),zt h2]
   have HSS:=zh hS
   clear hS
   subst h2
   obtain ⟨w7,hr,h7,hx7⟩:=Pz 2 (lj h6) rfl hni
   go_upto_region 8 with (fail)
   go_still_tail 6,(by kernel_rfl)
   change wpList _ _ _ _ _ w4.drew
   go_wp2_with fail
   go_ret
   rw [HSS.out]
   refine ⟨rfl,hx4.drew.trans hx7,?_⟩
   dsimp only at h7 ⊢
   have h8 : own w7 (lE b bd bh { m with d:=res.2,t:=m.t.set k (e1,e2),held:=m.held++[xb] }::lt bd res.2::pts ge (.cells #[.int .i64 e1,.int .i64 e2] 221 (0,0))::pts gw (.cells #[.int .i64 2,.int .i64 xb] 221 (0,0))::R):=oJ (m:={ m with d:=res.2,t:=m.t.set k (e1,e2),held:=m.held++[xb] }) (by dsimp only; rw [hlen]; exact h7)
   exact le 2 (le 2 h8 rfl) rfl
  ·have hS : S = (0,{ m with d:=res.2,t:=m.t.set k (e1,e2) }):=by
    rw [HSE.out,zq (by simpa using HZ.out),zq h2]
   have HSS:=zh hS
   have t2 : (xa == 2) = false:=zb.2 h2
   clear h2 hS
   go_wp2_with fail
   go_ret
   rw [HSS.out]
   refine ⟨rfl,hx4,?_⟩
   have h8 : own w4 (lE b bd bh { m with d:=res.2,t:=m.t.set k (e1,e2) }::lt bd res.2::pts ge (.cells #[.int .i64 e1,.int .i64 e2] 221 (0,0))::pts gw (.cells #[.int .i64 xa,.int .i64 xb] 221 (0,0))::R):=oJ (m:={ m with d:=res.2,t:=m.t.set k (e1,e2) }) (by dsimp only; rw [hlen]; exact h6)
   exact le 2 (le 2 h8 rfl) rfl
 ·have hS : S = (res.1,{ m with d:=res.2 }):=by rw [HSE.out,zt hz]
  have hpz : 0 < res.1:=by omega
  have HSS:=zh hS
  clear hS hz
  rw [lu hpz]
  have HPE:=zh (lu hpz)
  obtain ⟨c,f⟩:=la 0 h6 rfl
  obtain ⟨cw,fw⟩:=la 5 h6 rfl
  have x1:=r6' _ _ (lY (l:=m.t.set k (e1,e2)) (i:=k) (by simp; omega)).1
  have x2:=r6' _ _ (lY (l:=m.t.set k (e1,e2)) (i:=k) (by simp; omega)).2
  obtain ⟨-,f6⟩:=l8 1 h6 rfl
  clear r6'
  go_upto_region 5 with (fail)
  go_still_tail 7,(by kernel_rfl)
  change wpList _ _ _ _ _ w4.drew
  go_wp2_with fail
  go_ret
  rw [HSS.out]
  have h9:=lj (Eu 1 k (xa,xb) h6 rfl (by omega))
  have hback : (m.t.set k (e1,e2)).set k (xa,xb) = m.t:=HSB.out
  rw [hback] at h9
  refine ⟨by rw [HPE.out]; rfl,((hx4.setCell _ _).setCell _ _).drew,?_⟩
  have h8:=oJ (m:={ m with d:=res.2 }) h9
  exact le 2 (le 2 h8 rfl) rfl

def ImgM.clear (m : ImgM) (k : Int) : Int×ImgM:=if m.there k = true then (if m.kind k = 1 then (0,m) else m.setE k.toNat (1,0)) else (1,m)
theorem oN {m : ImgM} {k : Int} (hm : m.Ok) (h : m.there k = true) : 0 <= k /\ k < m.c /\ k.toNat < m.t.length:=by
 have ht:=hm.t
 unfold ImgM.there at h
 simp at h
 omega
theorem OK (b bd bh : Nat) (m : ImgM) (hm : m.Ok) (hw : m.d.writes < 1000000) (hp : m.d.pend.length < 1000000) (k : Int) (R : List SL.HP) (w : World) (H : own w (lE b bd bh m::lt bd m.d::R)) :
  Calls Tryz.prog 65 #[.pointer (some ⟨b,0,none⟩),.int .i64 k] w fun e w'=>e = .returned (errV (m.clear k).1) /\ Ext w w' /\ own w' (lE b bd bh (m.clear k).2::lt bd (m.clear k).2.d::R):=by
 have hth:=BV b bd bh m k _ w H
 cases ht : m.there k
 ·have e : m.clear k = (1,m):=by unfold ImgM.clear; rw [ht,zq (by decide)]
  rw [e]
  rw [ht] at hth
  have HT:=zh hth
  clear hth e ht
  go_enter Tryz.func65,Tryz.ntmps65
  go_wp2_with fail
  refine HT.out.mono ?_
  rintro e w' ⟨rfl,rfl⟩
  go_wp2_with fail
  go_ret
  exact ⟨rfl,zR _,H⟩
 ·obtain ⟨k0,-,hkl⟩:=oN hm ht
  obtain ⟨n,rfl⟩:=ze k0
  rw [zn] at hkl
  rw [ht] at hth
  have HT:=zh hth
  obtain ⟨v,h⟩:=oR H
  obtain ⟨ao,g,cap,rfl,r1,r2,r3,-,-,r6,-⟩:=ll 1 h rfl
  obtain rfl:=r3 (by omega)
  have e1:=r6 _ _ (lY hkl).1
  have e2 : w.cell? ⟨g,n * 2,none⟩ = some (.int .i64 (m.kind n)):=e1
  obtain ⟨c,f⟩:=la 0 h rfl
  by_cases h1 : m.kind n = 1
  ·have e : m.clear n = (0,m):=by unfold ImgM.clear; rw [ht,zt rfl,zt h1]
   rw [e]
   rw [h1] at e2
   clear hth e ht e1 r3 r6 h1
   go_enter Tryz.func65,Tryz.ntmps65
   go_wp2_with fail
   refine HT.out.mono ?_
   rintro e w' ⟨rfl,rfl⟩
   go_wp2_with fail
   go_ret
   exact ⟨rfl,zR _,H⟩
  ·have e : m.clear n = m.setE n (1,0):=by unfold ImgM.clear; rw [ht,zt rfl,zq h1,zn]
   rw [e]
   have t1 : (m.kind n == 1) = false:=zb.2 h1
   have HS:=zh (LJ b bd bh m hm hw hp n hkl 1 0 rfl R w H)
   clear hth e ht e1 r3 r6 h1
   generalize m.kind n = kd at *
   generalize m.setE n (1,0) = S at *
   go_enter Tryz.func65,Tryz.ntmps65
   go_wp2_with fail
   refine HT.out.mono ?_
   rintro e w' ⟨rfl,rfl⟩
   go_wp2_with fail
   refine HS.out.mono ?_
   rintro e w' ⟨rfl,hx,h2⟩
   go_wp2_with fail
   go_ret
   exact ⟨rfl,hx,h2⟩
def ImgM.openB (m : ImgM) (p : Int) : Bool:=!(m.t.contains ((2,p) : Ent)) && !(m.held.contains p)

def Af (P : Nat) (t : List Ent) : List Value:=(List.range P).map fun (q : Nat)=>Value.bool (t.contains ((2,(q : Int)) : Ent))
theorem D8 (P : Nat) (t : List Ent) : (Af P t).length = P:=by simp [Af]
theorem CD (P : Nat) (t : List Ent) {q : Nat} (h : q < P) : (Af P t)[q]? = some (.bool (t.contains ((2,(q : Int)) : Ent))):=by simp [Af,h]
theorem N3 (P : Nat) : Af P [] = List.replicate P (.bool false):=by
 unfold Af
 apply List.ext_getElem
 ·simp
 ·intro i h1 h2; simp
theorem N1 (P : Nat) (t : List Ent) {q : Nat} (h : q < P) : Af P (t++[(2,(q : Int))]) = (Af P t).set q (.bool true):=by
 apply List.ext_getElem?
 intro j
 rw [List.getElem?_set]
 by_cases hj : j < P
 ·rw [CD _ _ hj]
  by_cases e : q = j
  ·subst e; rw [zt rfl,zt (by rw [D8]; exact h)]; simp
  ·rw [zq e,CD _ _ hj,List.contains_append]
   congr 2
   have : ((2,(j : Int)) : Ent)≠(2,(q : Int)):=fun h=>e (by have:=(Prod.mk.inj h).2; omega)
   simp [List.contains_cons,this]
 ·have h1 : (Af P (t++[(2,(q : Int))]))[j]? = none:=List.getElem?_eq_none (by rw [D8]; omega)
  have h2 : (Af P t)[j]? = none:=List.getElem?_eq_none (by rw [D8]; omega)
  rw [h1,h2]
  split
  ·omega
  ·rfl
theorem Lu (P : Nat) (t : List Ent) {e : Ent} (h : e.1≠2) : Af P (t++[e]) = Af P t:=by
 unfold Af
 apply List.map_congr_left
 intro q _
 rw [List.contains_append]
 have : ((2,(q : Int)) : Ent)≠e:=fun h'=>h (by rw [<- h'])
 simp [List.contains_cons,this]
def ImgM.freeP (m : ImgM) : Int:=match (List.range m.p.toNat).find? fun (q : Nat)=>m.openB q with
 | some q=>q
 | none=>-1
theorem MR {m : ImgM} {P q : Nat} (hP : m.p = P) (hq : q < P) (ho : m.openB q = true) (hn : ∀j : Nat,j < q -> m.openB j = false) : m.freeP = q:=by
 unfold ImgM.freeP
 rw [hP,zn]
 have : (List.range P).find? (fun (q : Nat)=>m.openB q) = some q:=by
  rw [List.find?_range_eq_some]
  exact ⟨ho,by simpa using hq,fun j hj=>by simp [hn j hj]⟩
 rw [this]
theorem MF {m : ImgM} {P : Nat} (hP : m.p = P) (hn : ∀j : Nat,j < P -> m.openB j = false) : m.freeP = -1:=by
 unfold ImgM.freeP
 rw [hP,zn]
 have : (List.range P).find? (fun (q : Nat)=>m.openB q) = none:=by
  rw [List.find?_eq_none]
  intro j hj
  simp [hn j (List.mem_range.1 hj)]
 rw [this]
theorem Np (b bd bh : Nat) (m : ImgM) (hm : m.Ok) (R : List SL.HP) (w : World) (H : own w (lE b bd bh m::R)) :
  Calls Tryz.prog 170 #[.pointer (some ⟨b,0,none⟩)] w fun e w'=>e = .returned (.int .i64 m.freeP) /\ Ext w w' /\ own w' (lE b bd bh m::R):=by
 obtain ⟨C,hC,q1,q2,q3,q4,q5,q6,-⟩:=hm.nat
 obtain ⟨P,hP⟩:=ze q5
 have hsome:=fun (q : Nat)=>@MR m P q hP
 have hnone:=MF hP
 have hents:=hm.ents
 rw [hP] at hents
 have HEN:=zh hents
 have HSO:=zh hsome
 have HNO:=zh hnone
 generalize m.freeP = F at *
 obtain ⟨v,h⟩:=oR H
 obtain ⟨ao,g,cap,rfl,r1,r2,-,-,-,-,-⟩:=ll 1 h rfl
 rw [hP] at h q6
 have HP:=zh hP
 have l2 : m.t.length <= 32:=by omega
 have hml : P <= maxLen:=by simp only [maxLen]; omega
 obtain ⟨c,f⟩:=la 0 h rfl
 clear hsome hnone hC q3 q5 hents hP
 go_enter Tryz.func170,Tryz.ntmps170
 go_wp2_with (first | (refine CE rfl _ _ 43 rfl 4 Tryz.underlying43 Me rfl .i64 .i64 P rfl rfl (by omega) hml h ?_))
 intro w1 h1 hx1
 try simp only [Nat.mul_one] at h1
 try rw [show (Value.bool false).cells = #[.bool false] from rfl] at h1
 rw [toList_madeCells_one,<- N3] at h1
 clear c f
 generalize w.heap.size = gu at *
 obtain ⟨c,f⟩:=la 1 h1 rfl
 go_wp2_with fail
 clear c f
 go_loopw [19] (fun i wr=>∃q : Nat,q <= m.t.length /\ i = .int .i64 q /\ Ext w wr /\ own wr (row 4 1 (.slice (some ⟨gu,0,none⟩) P P) P (Af P (m.t.take q))::pts b (.cells #[.pointer (some ⟨bd,0,none⟩),.int .i64 m.c,.int .i64 (P : Int),.int .i64 m.b,.slice ao m.t.length cap,.map (some bh)] 218 (0,0))::row 221 2 (.slice ao m.t.length cap) m.t.length (lP m.t)::yU bh m.held::R)) (fun i _=>m.t.length - (intOf i).toNat)
 case atStart=>exact ⟨0,by omega,rfl,hx1,h1⟩
 case round=>
  clear h1 hx1
  obtain ⟨q,hq,rfl,hxr,hown⟩:=hrel
  by_cases hlt : q < m.t.length
  ·obtain ⟨ao',g',cap',hv',-,-,r3,-,-,r6,-⟩:=ll 2 hown rfl
   simp only [Value.slice.injEq,true_and] at hv'
   obtain ⟨rfl,rfl⟩:=hv'
   obtain rfl:=r3 (by omega)
   have x1 : wr.cell? ⟨g',q * 2,none⟩ = some (.int .i64 (ent m.t q).1):=r6 _ _ (lY hlt).1
   have x2 : wr.cell? ⟨g',q * 2 + 1,none⟩ = some (.int .i64 (ent m.t q).2):=r6 _ _ (lY hlt).2
   have hst : m.t.take (q + 1) = m.t.take q++[ent m.t q]:=zD (0,0) hlt
   have hok:=HEN.out (ent m.t q) (by unfold ent; simp [hlt])
   clear r3 r6
   generalize ent m.t q = x at *
   obtain ⟨xa,xb⟩:=x
   dsimp only at x1 x2
   have HST:=zh hst
   clear hst
   go_upto_region 5 with (fail)
   have ha:=lf hown (.cells #[.int .i64 xa,.int .i64 xb] 221)
   have hxa:=hxr.alloc (.cells #[.int .i64 xa,.int .i64 xb] 221)
   clear x1 x2 hown hxr
   generalize wr.heap.size = gx at *
   generalize wr.alloc (.cells #[.int .i64 xa,.int .i64 xb] 221) = wa at *
   obtain ⟨c,f⟩:=la 0 ha rfl
   by_cases h2 : xa = 2
   ·subst h2
    have hr : 0 <= xb /\ xb < (P : Int):=by unfold lR at hok; simpa using hok
    obtain ⟨y,rfl⟩:=ze hr.1
    have hy : y < P:=by omega
    obtain ⟨k2,k3⟩:=l8 1 ha rfl
    have cu:=k2 y _ (CD P (m.t.take q) hy)
    clear k2 hok hr
    have i1 : (0 : Int) <= (y : Int):=by omega
    have i2 : (y : Int) < (P : Int):=by omega
    go_wp2_with fail
    go_roundw
    case rel=>
     have h5:=Ae 1 y (.bool true) ha rfl (by omega)
     refine ⟨q + 1,by omega,by go_num,hxa.setCell _ _,?_⟩
     rw [HST.out,N1 P _ hy]
     exact lg h5
    case measure=>simp [intOf]; omega
   ·have t2 : (xa == 2) = false:=zb.2 h2
    have HN:=zh h2
    clear h2 hok
    go_wp2_with fail
    go_roundw
    case rel=>exact ⟨q + 1,by omega,by go_num,hxa,by rw [HST.out,Lu P _ HN.out]; exact lg ha⟩
    case measure=>simp [intOf]; omega
  ·have hqe : q = m.t.length:=by omega
   subst hqe
   rw [List.take_length] at hown
   obtain ⟨k2,-⟩:=l8 0 hown rfl
   have K2:=zh (fun (y : Nat) (hy : y < P)=>k2 y _ (CD P m.t hy))
   have HL:=zh (fun x=>K5 3 hown rfl x)
   obtain ⟨c,f⟩:=la 1 hown rfl
   clear k2
   have hfin : own wr (lE b bd bh m::R):=oJ (v:=.slice ao m.t.length cap) (by rw [HP.out]; exact lg hown)
   clear hown hlt
   go_wp2_with fail
   go_loop [33] (fun i=>∃q : Nat,q <= P /\ i = .int .i64 q /\ ∀j : Nat,j < q -> m.openB j = false) (fun i=>P - (intOf i).toNat)
   case atStart=>exact ⟨0,by omega,rfl,fun j h=>absurd h (by omega)⟩
   case round=>
    obtain ⟨q,hq,rfl,hj⟩:=hrel
    have HJ:=zh hj
    clear hj
    by_cases hlt : q < P
    ·have cq:=K2.out q hlt
     have hlk:=HL.out q
     have i1 : (0 : Int) <= (q : Int):=by omega
     have i2 : (q : Int) < (P : Int):=by omega
     have hob : m.openB q = (!(m.t.contains ((2,(q : Int)) : Ent)) && !(decide ((q : Int)∈m.held))):=by unfold ImgM.openB; simp
     cases hc : m.t.contains ((2,(q : Int)) : Ent)
     ·rw [hc] at cq hob
      by_cases hin : (q : Int)∈m.held
      ·rw [zg hin] at hlk hob
       have HOB:=zh hob
       clear hob hc hin
       go_wp2_with fail
       go_round
       case rel=>exact ⟨q + 1,by omega,by go_num,fun j h=>by
        by_cases e : j = q
        ·subst e; rw [HOB.out]; rfl
        ·exact HJ.out j (by omega)⟩
       case measure=>simp [intOf]; omega
      ·rw [zf hin] at hlk hob
       have hF:=HSO.out q hlt (by rw [hob]; rfl) HJ.out
       have HF:=zh hF
       clear hob hc hin hF
       go_wp2_with fail
       go_ret
       exact ⟨By (by rw [HF.out]),hxr,hfin⟩
     ·rw [hc] at cq hob
      have HOB:=zh hob
      clear hob hc
      go_wp2_with fail
      go_round
      case rel=>exact ⟨q + 1,by omega,by go_num,fun j h=>by
       by_cases e : j = q
       ·subst e; rw [HOB.out]; rfl
       ·exact HJ.out j (by omega)⟩
      case measure=>simp [intOf]; omega
    ·have hqe : q = P:=by omega
     subst hqe
     have hF:=HNO.out HJ.out
     have HF:=zh hF
     clear hF
     go_wp2_with fail
     go_ret
     exact ⟨By (by rw [HF.out]),hxr,hfin⟩
def DevM.puts (m : DevM) (at_ : Int) : List ByteArray -> Int×DevM
 | []=>(0,m)
 | s::l=>if (m.write at_ s).1≠0 then m.write at_ s else (m.write at_ s).2.puts (at_ + 1) l
def lv (s : ByteArray) (n : Nat) : List ByteArray:=(List.range n).map (lz s)
theorem Ec (s : ByteArray) {n k : Nat} (h : k < n) : (lv s n).drop k = lz s k::(lv s n).drop (k + 1):=by
 rw [List.drop_eq_getElem_cons (by simp [lv]; exact h)]
 simp [lv]
theorem FG (s : ByteArray) (n : Nat) : (lv s n).drop n = []:=List.drop_of_length_le (by simp [lv])
theorem oU (m : DevM) (n : Int) (s : ByteArray) : (m.write n s).2.fl.length = m.fl.length /\ (m.write n s).2.pend.length <= m.pend.length + 1 /\ (m.write n s).2.writes <= m.writes + 1:=by
 unfold DevM.write
 split
 ·exact ⟨rfl,by dsimp only; omega,by dsimp only; omega⟩
 ·split
  ·exact ⟨rfl,by dsimp only; omega,by dsimp only; omega⟩
  ·exact ⟨rfl,by simp,by dsimp only; omega⟩
def OR (L : DevM -> List HP) (d : DevM) (at_ : Int) (s : ByteArray) (n : Nat) (res : Int×DevM) (w0 : World) (i : Value) (wr : World) : Prop:=
 ∃(k : Nat) (dk : DevM),k <= n /\ i = .int .i64 k /\ dk.puts (at_ + k) ((lv s n).drop k) = res /\ dk.Ok /\ dk.pend.length <= d.pend.length + k /\ dk.writes <= d.writes + k /\ Ext w0 wr /\ own wr (L dk)
def ImgM.wrBad (m : ImgM) (k fr : Int) (s : ByteArray) : Prop:=m.there k = false \/ fr < 0 \/ 4 < fr \/ s.size % 16≠0 \/ 16 * (4 - fr) < (s.size : Int)
instance (m : ImgM) (k fr : Int) (s : ByteArray) : Decidable (m.wrBad k fr s):=by unfold ImgM.wrBad; infer_instance
def ImgM.wr (m : ImgM) (k fr : Int) (s : ByteArray) : Int×ImgM:=
 if m.wrBad k fr s then (1,m) else if m.kind k≠2 then (4,m)
 else ((m.d.puts (m.first (ent m.t k.toNat).2 + fr) (lv s (s.size / 16))).1,{ m with d:=(m.d.puts (m.first (ent m.t k.toNat).2 + fr) (lv s (s.size / 16))).2 })
theorem Ly {m : ImgM} {k fr : Int} {s : ByteArray} (h : m.wrBad k fr s) : m.there k = false \/ (m.there k = true /\ fr < 0) \/ (m.there k = true /\ 0 <= fr /\ 4 < fr) \/ (m.there k = true /\ 0 <= fr /\ fr <= 4 /\ 0 < (s.size : Int) % 16) \/ (m.there k = true /\ 0 <= fr /\ fr <= 4 /\ (s.size : Int) % 16 = 0 /\ 16 * (4 - fr) < (s.size : Int)):=by
 unfold ImgM.wrBad at h
 cases ht : m.there k
 ·exact .inl rfl
 ·rw [ht] at h
  have h' : fr < 0 \/ 4 < fr \/ s.size % 16≠0 \/ 16 * (4 - fr) < (s.size : Int):=h.resolve_left (by simp)
  clear h
  right
  by_cases h1 : fr < 0
  ·exact .inl ⟨rfl,h1⟩
  ·by_cases h2 : 4 < fr
   ·exact .inr (.inl ⟨rfl,by omega,h2⟩)
   ·by_cases h3 : s.size % 16 = 0
    ·exact .inr (.inr (.inr ⟨rfl,by omega,by omega,by omega,by omega⟩))
    ·exact .inr (.inr (.inl ⟨rfl,by omega,by omega,by omega⟩))
theorem FW {m : ImgM} (hm : m.Ok) {y : Int} (h0 : 0 <= y) (h1 : y <= 40) : 1 <= m.first y /\ m.first y <= 165:=by
 obtain ⟨C,hC,q1,q2,q3,q4,-⟩:=hm.nat
 unfold ImgM.first
 rw [hC,zn]
 omega
theorem yI {m : ImgM} (hm : m.Ok) {k : Nat} (hk : k < m.t.length) (h2 : (ent m.t k).1 = 2) : 0 <= (ent m.t k).2 /\ (ent m.t k).2 < m.p:=by
 have h:=hm.ents (ent m.t k) (by unfold ent; simp [hk])
 unfold lR at h
 rw [zt h2] at h
 simpa using h
theorem Nk (b bd bh : Nat) (m : ImgM) (hm : m.Ok) (hp : m.d.pend.length < 999000) (hw : m.d.writes < 999000) (k fr : Int) (f0 : oy fr) (s : ByteArray) (hs : s.size <= 9223372036854775807) (R : List SL.HP) (w : World) (H : own w (lE b bd bh m::lt bd m.d::R)) :
  Calls Tryz.prog 259 #[.pointer (some ⟨b,0,none⟩),.int .i64 k,.int .i64 fr,.string s] w fun e w'=>e = .returned (errV (m.wr k fr s).1) /\ Ext w w' /\ own w' (lE b bd bh (m.wr k fr s).2::lt bd (m.wr k fr s).2.d::R):=by
 have hth:=BV b bd bh m k _ w H
 obtain ⟨f1,f2⟩:=f0
 by_cases hb : m.wrBad k fr s
 ·have e : m.wr k fr s = (1,m):=by unfold ImgM.wr; rw [zt hb]
  rw [e]
  rcases Ly hb with ht | ⟨ht,g1⟩ | ⟨ht,g1,g2⟩ | ⟨ht,g1,g2,g3⟩ | ⟨ht,g1,g2,g3,g4⟩
  all_goals
   rw [ht] at hth
   have HT:=zh hth
   clear hth e ht hb
   go_enter Tryz.func259,Tryz.ntmps259
   go_wp2_with fail
   refine HT.out.mono ?_
   rintro e w' ⟨rfl,rfl⟩
   go_wp2_with fail
   go_ret
   exact ⟨rfl,zR _,H⟩
 ·have hb':=hb
  unfold ImgM.wrBad at hb'
  have ht : m.there k = true:=by cases h : m.there k; exact absurd (.inl h) hb'; rfl
  have g1 : 0 <= fr:=by omega
  have g2 : fr <= 4:=by omega
  have g3 : (s.size : Int) % 16 = 0:=by omega
  have g4 : (s.size : Int) <= 16 * (4 - fr):=by omega
  have g4' : (s.size : Int) <= (4 - fr) * 16:=by omega
  obtain ⟨k0,-,hkl⟩:=oN hm ht
  obtain ⟨n,rfl⟩:=ze k0
  rw [zn] at hkl
  rw [ht] at hth
  have HT:=zh hth
  obtain ⟨v,h⟩:=oR H
  obtain ⟨ao,g,cap,rfl,r1,r2,r3,-,-,r6,-⟩:=ll 1 h rfl
  obtain rfl:=r3 (by omega)
  have x1 : w.cell? ⟨g,n * 2,none⟩ = some (.int .i64 (m.kind n)):=r6 _ _ (lY hkl).1
  have x2 : w.cell? ⟨g,n * 2 + 1,none⟩ = some (.int .i64 (ent m.t n).2):=r6 _ _ (lY hkl).2
  obtain ⟨c,f⟩:=la 0 h rfl
  by_cases h1 : m.kind n = 2
  ·have e : m.wr n fr s = ((m.d.puts (m.first (ent m.t n).2 + fr) (lv s (s.size / 16))).1,{ m with d:=(m.d.puts (m.first (ent m.t n).2 + fr) (lv s (s.size / 16))).2 }):=by
    unfold ImgM.wr
    rw [zq hb,zq (by simpa using h1),zn]
   generalize m.wr n fr s = S at *
   have HE:=zh e
   obtain ⟨y0,y1⟩:=yI hm hkl h1
   obtain ⟨C,hC,q1,q2,q3,q4,q5,q6,-⟩:=hm.nat
   obtain ⟨F0,F1⟩:=FW hm y0 (by omega)
   have hget:=(lY (l:=m.t) hkl).2
   have HGET : Hid ((lP m.t)[n * 2 + 1]? = some (.int .i64 (ent m.t n).2)):=zh hget
   rw [h1] at x1
   obtain ⟨N,hN⟩ : ∃N : Nat,s.size = 16 * N:=⟨s.size / 16,by omega⟩
   have hN16 : s.size / 16 = N:=by omega
   rw [hN16] at HE
   have n4 : N <= 4:=by omega
   have HN:=zh hN
   have y2 : (ent m.t n).2 <= 40:=by omega
   have HFI:=zh (fun (R : List SL.HP) (w : World) (H : own w (lE b bd bh m::R))=>Eo b bd bh m hm (ent m.t n).2 y0 (by omega) R w H)
   generalize (ent m.t n).2 = y at *
   generalize m.first y = F at *
   generalize hres : m.d.puts (F + fr) (lv s N) = res at *
   have HRES:=zh hres
   have hd:=hm.d
   clear hth e ht r3 r6 hb hb' h1 hN hN16 hC q1 q2 q3 q4 q5 q6 hres hget
   have i1 : (0 : Int) <= (n : Int):=by omega
   have i2 : (n : Int) < (m.t.length : Int):=by omega
   go_enter Tryz.func259,Tryz.ntmps259
   go_wp2_with fail
   refine HT.out.mono ?_
   rintro e w' ⟨rfl,rfl⟩
   go_wp2_with fail
   go_loopw [9] (OR (fun dk=>lE b bd bh m::lt bd dk::R) m.d (F + fr) s N res w) (fun i _=>N - (intOf i).toNat)
   case atStart=>exact ⟨0,m.d,by omega,rfl,by simpa using HRES.out,hd,by omega,by simp,zR _,H⟩
   case round=>
    obtain ⟨q,dk,hq,rfl,hput,okd,hpk,hwk,hxr,hown⟩:=hrel
    clear c f x1 x2 h
    by_cases hlt : q < N
    ·rw [Ec s hlt] at hput
     have HPUT:=zh hput
     clear hput
     have b0 : (q : Int) * 16 < (s.size : Int):=by have:=HN.out; omega
     have b1 : (0 : Int) <= (q : Int) * 16:=by omega
     have b2 : (q : Int) * 16 <= ((q : Int) + 1) * 16:=by omega
     have b3 : ((q : Int) + 1) * 16 <= (s.size : Int):=by have:=HN.out; omega
     have hsl : ∀wx : World,(Instr.slice 9 (.string s) (some (.int .i64 ((q : Int) * 16))) (some (.int .i64 (((q : Int) + 1) * 16))) none).run Tryz.prog wx = .ok (.string (lz s q)) wx:=fun wx=>by
      have:=run_slice_string (P:=Tryz.prog) wx 9 s .i64 .i64 ((q : Int) * 16) (((q : Int) + 1) * 16) Tryz.underlying9 b1 b2 b3
      rw [this,lz,show ((q : Int) * 16).toNat = q * 16 from by omega,show (((q : Int) + 1) * 16).toNat = (q + 1) * 16 from by omega]
     have hcs : (lz s q).size = 16:=by unfold lz; rw [ByteArray.size_extract]; have:=HN.out; omega
     have e1 : IntKind.i64.wrap ((q : Int) * 16) = (q : Int) * 16:=zi _ (by omega)
     have e2 : IntKind.i64.wrap ((q : Int) + 1) = (q : Int) + 1:=zi _ (by omega)
     have e2' : IntKind.i64.wrap (((q : Int) + 1) * 16) = ((q : Int) + 1) * 16:=zi _ (by omega)
     have e3 : IntKind.i64.wrap (F + fr) = F + fr:=zi _ (by omega)
     have e4 : IntKind.i64.wrap (F + fr + (q : Int)) = F + fr + (q : Int):=zi _ (by omega)
     have hcode:=ow dk (F + fr + (q : Int)) (lz s q)
     obtain ⟨l1,l2,l3⟩:=oU dk (F + fr + (q : Int)) (lz s q)
     have okw:=DevM.write_ok okd (F + fr + (q : Int)) (lz s q) (by omega) (by omega)
     have HW:=zh (fun (R : List SL.HP) (w : World) (H : own w (lt bd dk::R))=>Au bd dk okd (F + fr + (q : Int)) (lz s q) (by omega) (by omega) (by omega) R w H)
     have hstep : dk.puts (F + fr + (q : Int)) (lz s q::(lv s N).drop (q + 1)) = if (dk.write (F + fr + (q : Int)) (lz s q)).1≠0 then dk.write (F + fr + (q : Int)) (lz s q) else (dk.write (F + fr + (q : Int)) (lz s q)).2.puts (F + fr + (q : Int) + 1) ((lv s N).drop (q + 1)):=rfl
     rw [HPUT.out] at hstep
     have HST:=zh hstep
     clear hstep l1
     generalize dk.write (F + fr + (q : Int)) (lz s q) = r at *
     generalize lz s q = ck at *
     obtain ⟨v,h⟩:=oR hown
     obtain ⟨ao2,g2,cap2,rfl,-,-,t3,-,-,t6,-⟩:=ll 1 h rfl
     obtain rfl:=t3 (by omega)
     clear t3 t6
     have hd1:=lj h
     go_upto_region 8 with (fail)
     go_region_held3 (fun w'=>w'.cell? ⟨b,0,none⟩ = some (.pointer (some ⟨bd,0,none⟩)) /\ w'.cell? ⟨b,4,none⟩ = some (.slice (some ⟨g2,0,none⟩) m.t.length cap2) /\ w'.cell? ⟨g2,n * 2 + 1,none⟩ = some (.int .i64 y)) (first | exact ⟨(la 0 hd1 rfl).1 0,(la 0 hd1 rfl).1 4,(l8 1 hd1 rfl).1 _ _ HGET.out⟩ | exact ⟨(la 0 h4 rfl).1 0,(la 0 h4 rfl).1 4,(l8 1 h4 rfl).1 _ _ HGET.out⟩) (first | (go_at_call 171; refine (HFI.out _ _ (oJ hd1)).mono ?_; rintro e w' ⟨rfl,rfl⟩) | (go_at_call 160; refine (HW.out _ _ (lG 3 hd1 rfl)).mono ?_; rintro e w4 ⟨rfl,hx4,h4'⟩; have h4:=ot hd1 3 rfl h4'))
     have h5 : own w4 (lE b bd bh m::lt bd r.2::R):=oJ h4
     have hx5:=hxr.drew.trans hx4
     clear e1 e2 e2' e3 e4 hsl h4 h4' hd1 h
     by_cases hz : r.1 = 0
     ·have HZ:=zh hz
      rw [hz,lL]
      clear hz
      go_wp2_with fail
      go_roundw
      case rel=>exact ⟨q + 1,r.2,by omega,by go_num,by have:=HST.out; rw [zq (by simpa using HZ.out)] at this; rw [this]; congr 1; omega,okw,by omega,by omega,hx5,h5⟩
      case measure=>simp [intOf]; omega
     ·have hfin : res = r:=by have:=HST.out; rw [zt hz] at this; exact this
      have HF:=zh hfin
      have hpz : 0 < r.1:=by omega
      have HPE:=zh (lu hpz)
      rw [lu hpz]
      clear hz hfin
      go_wp2_with fail
      go_ret
      rw [HE.out,HF.out]
      exact ⟨by rw [HPE.out]; rfl,hx5,h5⟩
    ·have hqe : q = N:=by omega
     subst hqe
     rw [FG,DevM.puts] at hput
     have HF:=zh hput
     have b0 : (s.size : Int) <= (q : Int) * 16:=by have:=HN.out; omega
     clear hput hlt
     go_wp2_with fail
     go_ret
     rw [HE.out,<- HF.out]
     exact ⟨rfl,hxr,hown⟩
  ·have e : m.wr n fr s = (4,m):=by unfold ImgM.wr; rw [zq hb,zt h1]
   rw [e]
   have t1 : (m.kind n != 2) = true:=bne_iff_ne.2 h1
   clear hth e ht r3 r6 hb hb' h1
   generalize m.kind n = kd at *
   have i1 : (0 : Int) <= (n : Int):=by omega
   have i2 : (n : Int) < (m.t.length : Int):=by omega
   go_enter Tryz.func259,Tryz.ntmps259
   go_wp2_with fail
   refine HT.out.mono ?_
   rintro e w' ⟨rfl,rfl⟩
   go_wp2_with fail
   go_ret
   exact ⟨rfl,zR _,H⟩
def ImgM.flush (m : ImgM) : ImgM:={ m with d:=m.d.flush,held:=[] }
theorem Bf (b bd bh : Nat) (m : ImgM) (hd : m.d.Ok) (R : List SL.HP) (w : World) (H : own w (lE b bd bh m::lt bd m.d::R)) :
  Calls Tryz.prog 172 #[.pointer (some ⟨b,0,none⟩)] w fun e w'=>e = .returned (.tuple #[]) /\ Ext w w' /\ own w' (lE b bd bh m.flush::lt bd m.d.flush::R):=by
 obtain ⟨v,h⟩:=oR H
 obtain ⟨c,f⟩:=la 0 h rfl
 go_enter Tryz.func172,Tryz.ntmps172
 go_wp2_with fail
 refine (A6 bd m.d hd _ w (lG 3 h rfl)).mono ?_
 rintro e w2 ⟨rfl,hx2,h2⟩
 have h3:=ot h 3 rfl h2
 clear c f h2
 obtain ⟨c,f⟩:=la 0 h3 rfl
 obtain ⟨w4,hr,h4,hx4⟩:=Mw 2 h3 rfl 0
 go_wp2_with fail
 go_end0
 exact ⟨rfl,hx2.trans hx4,oJ (m:=m.flush) h4⟩
end Go.Proofs.YtbpblokfiajpjabGreatDoor
