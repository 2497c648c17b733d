/- Lemmas on which TopAlone and TopCrash stands: the texts Image16 ImgP1 ImgP2 ImgP3 ImgP4 ImgP5 ImgP6 ImgP7. No conditions. -/
import Derived.Test.YtbpblokfiajpjabGreatDoorPkb31c8174ee
set_option linter.all false
set_option maxRecDepth 1000000
set_option maxHeartbeats 32000000
namespace Go.Proofs.YtbpblokfiajpjabGreatDoor
open Go.RowKit Go.SL Go.Crc
attribute [local go_sem ↓] Go.wp_at_zero Go.wp_at_succ
def CU (d : DevM) (c p b : Int) : Prop:=lH c p b \/ (d.fl.length : Int) < zC c p
instance (d : DevM) (c p b : Int) : Decidable (CU d c p b):=by unfold CU; infer_instance
def fitF (d : DevM) (c p b : Int) : Int:=if CU d c p b then 1 else 0
theorem OX (bd : Nat) (d : DevM) (hd : d.Ok) (c p b : Int) (R : List SL.HP) (w : World) (H : own w (lj bd d::R)) :
  Calls Tryz.prog 155 #[.pointer (some ⟨bd,0,none⟩),ol c p b] w fun e w'=>e = .returned (errV (fitF d c p b)) /\ Ext w w' /\ own w' (lj bd d::R):=by
 have ha:=lh H (.cells #[.int .i64 c,.int .i64 p,.int .i64 b] 103)
 have hxa:=(zR w).alloc (.cells #[.int .i64 c,.int .i64 p,.int .i64 b] 103)
 obtain ⟨F,hF⟩ : ∃F,F = fitF d c p b:=⟨_,rfl⟩
 rw [<- hF]
 have HF:=zh hF
 clear hF
 have hq:=AF c p b _ _ ha
 by_cases hb : lH c p b
 ·have hS : F = 1:=by rw [HF.out,fitF,zt (.inl hb)]
  rw [show AB c p b = 1 from zt hb] at hq
  have HQ:=zh hq
  have HS:=zh hS
  unfold ol at HQ
  unfold ol
  clear hq hb hS
  go_enter Tryz.func155,Tryz.ntmps155
  go_upto_region 1 with (fail)
  obtain ⟨cc,ff⟩:=ld 0 ha rfl
  generalize w.heap.size = g at *
  generalize w.alloc (.cells #[.int .i64 c,.int .i64 p,.int .i64 b] 103) = w1 at *
  go_wp2_with fail
  refine HQ.out.mono ?_
  rintro e w2 ⟨rfl,hx2,h2⟩
  rw [show errV 1 = .iface 128 (.int .i64 1) from rfl]
  go_wp2_with fail
  go_ret
  rw [HS.out]
  exact ⟨rfl,hxa.trans hx2,lg h2⟩
 ·rw [show AB c p b = 0 from zq hb,lS] at hq
  have HQ:=zh hq
  have HN:=zh (fun (R : List SL.HP) (w : World) (H : own w R)=>OL c p b hb R w H)
  have hE : F = if (d.fl.length : Int) < zC c p then 1 else 0:=by
   rw [HF.out]
   unfold fitF
   by_cases h : (d.fl.length : Int) < zC c p
   ·rw [zt (show CU d c p b from .inr h),zt h]
   ·rw [zq (show ¬CU d c p b from fun h'=>h'.elim hb h),zq h]
  have HE:=zh hE
  unfold ol at HQ HN
  unfold ol
  clear hq hb hE
  generalize zC c p = nd at *
  go_enter Tryz.func155,Tryz.ntmps155
  go_upto_region 1 with (fail)
  obtain ⟨cc,ff⟩:=ld 0 ha rfl
  generalize w.heap.size = g at *
  generalize w.alloc (.cells #[.int .i64 c,.int .i64 p,.int .i64 b] 103) = w1 at *
  go_wp2_with fail
  refine HQ.out.mono ?_
  rintro e w2 ⟨rfl,hx2,h2⟩
  clear cc ff
  obtain ⟨cc,ff⟩:=ld 0 h2 rfl
  go_wp2_with fail
  refine (HN.out _ w2 h2).mono ?_
  rintro e w3 ⟨rfl,hx3,h3⟩
  go_wp2_with fail
  refine (Nj bd d _ w3 (lE 1 h3 rfl)).mono ?_
  rintro e w4 ⟨rfl,rfl⟩
  have hx4:=(hxa.trans hx2).trans hx3
  by_cases h : (d.fl.length : Int) < nd
  ·have hS : F = 1:=by rw [HE.out,zt h]
   have HS:=zh hS
   have d0 : decide ((d.fl.length : Int) < nd) = true:=zg h
   clear h hS
   go_wp2_with fail
   go_ret
   rw [HS.out]
   exact ⟨rfl,hx4,lg h3⟩
  ·have hS : F = 0:=by rw [HE.out,zq h]
   have HS:=zh hS
   have d0 : decide ((d.fl.length : Int) < nd) = false:=zf h
   clear h hS
   go_wp2_with fail
   go_ret
   rw [HS.out]
   exact ⟨rfl,hx4,lg h3⟩
def lG (c : Int) : List Ent:=List.replicate c.toNat (0,0)
def oI (t : List Ent) : List ByteArray:=(List.range (lt t.length)).map fun (k : Nat)=>(oe t k).1
def oC (d : DevM) (c p b : Int) : ImgM:=⟨d,c,p,b,lG c,[]⟩
def oE (d : DevM) (c p b : Int) : Int×ImgM:=
 if CU d c p b then (1,oC d c p b)
 else if (d.puts 1 (oI (lG c))).1≠0 then ((d.puts 1 (oI (lG c))).1,oC (d.puts 1 (oI (lG c))).2 c p b)
 else if ((d.puts 1 (oI (lG c))).2.flush.write 0 (lQ c p b)).1≠0 then (((d.puts 1 (oI (lG c))).2.flush.write 0 (lQ c p b)).1,oC ((d.puts 1 (oI (lG c))).2.flush.write 0 (lQ c p b)).2 c p b)
 else (0,oC ((d.puts 1 (oI (lG c))).2.flush.write 0 (lQ c p b)).2.flush c p b)
def OY (bd : Nat) (S : Int×ImgM) (R : List SL.HP) (w : World) (e : Ending) (w' : World) : Prop:=
 (S.1≠0 /\ e = .returned (.tuple #[.pointer none,errV S.1]) /\ Ext w w' /\ own w' (lj bd S.2.d::R)) \/
 (S.1 = 0 /\ ∃bi bh,e = .returned (.tuple #[.pointer (some ⟨bi,0,none⟩),.nilIface]) /\ Ext w w' /\ own w' (lL bi bd bh S.2::lj bd S.2.d::R))
theorem Gr (n : Nat) : (madeCells #[.int .i64 0,.int .i64 0] (n * 2)).toList = lY (List.replicate n (0,0)):=by
 induction n with
 | zero=>simp [madeCells,lY]
 | succ n ih=>
  rw [List.replicate_succ',C6,<- ih]
  unfold madeCells
  rw [show (n + 1) * 2 = n * 2 + 1 + 1 by omega]
  simp [Array.range_succ,lY,Nat.add_mod]
end Go.Proofs.YtbpblokfiajpjabGreatDoor
namespace Go.Proofs.YtbpblokfiajpjabGreatDoor
open Go.RowKit Go.SL Go.Crc
def oy (d : DevM) (C : Nat) : List ByteArray:=(List.range (lt C)).map fun (k : Nat)=>d.seen (1 + (k : Int))
def Q1 (d : DevM) : ImgM:=⟨d,0,0,0,[],[]⟩
def Kb (d : DevM) (c p b : Int) (T : List Ent×Int) : Int×ImgM:=(T.2,⟨d,c,p,b,T.1,[]⟩)
def DD (d : DevM) (h : (Int×Int×Int)×Int) : Int×ImgM:=
 if h.2≠0 then (h.2,Q1 d) else if (d.fl.length : Int) < zC h.1.1 h.1.2.1 then (1,Q1 d)
 else Kb d h.1.1 h.1.2.1 h.1.2.2 (za h.1.1 h.1.2.1 h.1.2.2 (oy d h.1.1.toNat))
def zB (d : DevM) : Int×ImgM:=DD d (oh (d.seen 0))
theorem WW (d : DevM) (h : (Int×Int×Int)×Int) : (DD d h).2.d = d:=by
 unfold DD; split
 ·rfl
 ·split <;> rfl
theorem IL (d : DevM) : (zB d).2.d = d:=WW d _
theorem I4 {s : ByteArray} (h : (oh s).2 = 0) : ¬lH (oh s).1.1 (oh s).1.2.1 (oh s).1.2.2:=by
 unfold oh at h ⊢
 by_cases h1 : zF s≠0
 ·rw [zt h1] at h; exact absurd h h1
 ·rw [zq h1] at h ⊢
  by_cases h2 : Ab s
  ·rw [zt h2] at h; cases h
  ·rw [zq h2]
   exact fun hb=>h2 (.inl hb)
theorem MV (d : DevM) {C q : Nat} (h : q < lt C) : (oy d C).take (q + 1) = (oy d C).take q++[d.seen (1 + (q : Int))]:=by
 rw [List.take_add_one]
 simp [oy,h]
theorem N0 (d : DevM) (C : Nat) : (oy d C).length = lt C:=by simp [oy]
theorem MH {d : DevM} (hd : d.Ok) {C : Nat} (h : (lt C : Int) < d.fl.length) : ∀s∈oy d C,s.size = 16:=fun s hs=>by
 simp only [oy,List.mem_map,List.mem_range] at hs
 obtain ⟨k,hk,rfl⟩:=hs
 exact BJ hd (by omega) (by omega)
theorem Qz {xs : List Int} {i : Nat} {x : Int} (hx : xs[i]? = some x) (h0 : 0 <= x) (h1 : x <= 255) : bt (strOfNums xs) i = x:=by
 have e : (strOfNums xs).data.toList[i]? = some (UInt8.ofNat x.toNat):=by
  simp only [strOfNums,List.getElem?_map,hx]
  rfl
 unfold bt
 rw [List.getD_eq_getElem?_getD,e]
 simp
 omega
theorem I7 {l : List Ent} : ∀{k : Nat},k < l.length -> (yw l)[2 * k]? = some (ent l k).1 /\ (yw l)[2 * k + 1]? = some (ent l k).2:=by
 induction l with
 | nil=>intro k h; simp at h
 | cons x l ih=>
  intro k h
  cases k with
  | zero=>simp [yw,ent]
  | succ k=>
   have:=ih (k:=k) (by simpa using h)
   have e2 : 2 * (k + 1) = 2 * k + 2:=by omega
   simp only [yw,List.flatMap_cons,e2,ent] at this ⊢
   simpa using this
theorem El {t : List Ent} {k : Nat} (h : k < t.length) : ent t k = t[k]:=by simp [ent,h]
theorem yV {t : List Ent} {k : Nat} (h : k < t.length) : ent t k∈t:=by rw [El h]; exact List.getElem_mem h
theorem Fv {t : List Ent} {k : Nat} (h : t.length <= k) : ent t k = (0,0):=by simp [ent,h]
theorem LL {l : List Ent} (hl : l.length = 8) (hv : ∀e∈l,lK e 40 = true) : yG (strOfNums (yw l)) = l:=by
 apply List.ext_getElem
 ·simp [yG,hl]
 ·intro i h1 h2
  have hm:=zm (hv l[i] (List.getElem_mem h2))
  obtain ⟨g1,g2⟩:=I7 (l:=l) (k:=i) h2
  rw [El h2] at g1 g2
  simp only [yG,List.getElem_map,List.getElem_range,sEnt]
  rw [Qz g1 (by omega) (by omega),Qz g2 (by omega) (by omega)]
def Uniq (t : List Ent) : Prop:=∀i j : Nat,i < t.length -> j < t.length -> (ent t i).1 = 2 -> ent t i = ent t j -> i = j
def lN (t : List Ent) (r : Nat) : ByteArray:=strOfNums (yw (oq t r))
theorem Ci (t : List Ent) (r : Nat) : (lN t r).size = 16:=by
 unfold lN
 rw [strOfNums_size,Du,yS]
theorem DZ {P : Int} (hP : P <= 40) {t : List Ent} (hv : ∀e∈t,lK e P = true) (r : Nat) : ∀e∈oq t r,lK e 40 = true:=by
 intro e he
 simp only [oq,List.mem_map,List.mem_range] at he
 obtain ⟨k,hk,rfl⟩:=he
 by_cases h : 8 * r + k < t.length
 ·exact FY (hv _ (yV h)) hP
 ·rw [show t.getD (8 * r + k) (0,0) = (0,0) from Fv (by omega)]
  rfl
theorem Jo {P : Int} (hP : P <= 40) {t : List Ent} (hl : t.length <= 32) (hv : ∀e∈t,lK e P = true) {r : Nat} (hr : r < lt t.length) : oe t (r : Int) = (lN t r,0):=by
 refine Jw (by unfold AR; omega) fun k hk=>DZ hP hv r _ ?_
 simp only [oq,List.mem_map,List.mem_range]
 exact ⟨k,hk,rfl⟩
theorem Tj {C : Nat} {P : Int} {t : List Ent} (hl : t.length = C) (hv : ∀e∈t,lK e P = true) (hu : Uniq t) (r : Nat) :
  ∀n k : Nat,n + k = 8 -> yF C P (t.take (8 * r + k)) ((oq t r).drop k) = some (t.take (8 * r + 8)):=by
 intro n
 induction n with
 | zero=>
  intro k hk
  obtain rfl : k = 8:=by omega
  rw [List.drop_of_length_le (by rw [yS]; omega)]
  rfl
 | succ n ih=>
  intro k hk
  have hd : (oq t r).drop k = ent t (8 * r + k)::(oq t r).drop (k + 1):=by
   rw [BS (0,0) (by rw [yS]; omega),DG _ _ _ (by omega)]
   rfl
  rw [hd]
  by_cases h : 8 * r + k < C
  ·have hne : (t.take (8 * r + k)).length≠C:=by rw [List.length_take]; omega
   have hgood : zI P (t.take (8 * r + k)) (ent t (8 * r + k)) = false:=by
    unfold zI
    rw [hv (ent t (8 * r + k)) (yV (by omega))]
    by_cases h2 : (ent t (8 * r + k)).1 = 2
    ·cases hc : (t.take (8 * r + k)).contains (ent t (8 * r + k)) with
     | false=>simp
     | true=>
      exfalso
      obtain ⟨j,hj,he⟩:=List.getElem_of_mem (by simpa using hc : ent t (8 * r + k)∈t.take (8 * r + k))
      rw [List.length_take] at hj
      rw [List.getElem_take] at he
      have:=hu (8 * r + k) j (by omega) (by omega) h2 (by rw [<- he,El (by omega)])
      omega
    ·simp [h2]
   rw [Fg hne hgood,show t.take (8 * r + k)++[ent t (8 * r + k)] = t.take (8 * r + (k + 1)) from (by rw [<- Nat.add_assoc]; exact (yU (0,0) (by omega)).symm)]
   exact ih (k + 1) (by omega)
  ·have hlen : (t.take (8 * r + k)).length = C:=by rw [List.length_take]; omega
   rw [Fv (by omega),I9 hlen,show t.take (8 * r + k) = t.take (8 * r + (k + 1)) by rw [List.take_of_length_le (by omega),List.take_of_length_le (by omega)]]
   exact ih (k + 1) (by omega)
theorem OV {C : Nat} {P : Int} (hP : P <= 40) {t : List Ent} (hl : t.length = C) (hv : ∀e∈t,lK e P = true) (hu : Uniq t) :
  ∀n r : Nat,n + r = lt C -> yA C P (t.take (8 * r)) (((List.range (lt C)).map (lN t)).drop r) = (t,0):=by
 intro n
 induction n with
 | zero=>
  intro r hr
  obtain rfl : r = lt C:=by omega
  rw [List.drop_of_length_le (by simp),List.take_of_length_le (by unfold lt; omega)]
  rfl
 | succ n ih=>
  intro r hr
  have hd : ((List.range (lt C)).map (lN t)).drop r = lN t r::((List.range (lt C)).map (lN t)).drop (r + 1):=by
   rw [List.drop_eq_getElem_cons (by simp; omega)]
   simp
  have hr2:=Tj hl hv hu r 8 0 rfl
  rw [hd,Ik (Ci t r) (t':=t.take (8 * r + 8)) (by rw [show yG (lN t r) = oq t r from LL (yS t r) (DZ hP hv r)]; simpa using hr2)]
  exact ih (r + 1) (by omega)
theorem NV {c p b : Int} (hb : ¬lH c p b) {t : List Ent} (hl : (t.length : Int) = c) (hv : ∀e∈t,lK e p = true) (hu : Uniq t) : za c p b ((List.range (lt t.length)).map (lN t)) = (t,0):=by
 have hb':=hb
 unfold lH at hb'
 have hc : c.toNat = t.length:=by omega
 unfold za
 rw [zq hb,hc,zq (by simp)]
 have:=OV (P:=p) (by omega) rfl hv hu (lt t.length) 0 (by omega)
 simpa using this
theorem KK {d : DevM} {c p b : Int} {t : List Ent} (hb : ¬lH c p b) (hl : (t.length : Int) = c) (hv : ∀e∈t,lK e p = true) (hu : Uniq t) (h0 : d.seen 0 = lQ c p b)
  (hr : ∀r : Nat,r < lt t.length -> d.seen (1 + (r : Int)) = lN t r) (hn : zC c p <= d.fl.length) : zB d = (0,⟨d,c,p,b,t,[]⟩):=by
 unfold zB
 rw [h0,Oc hb]
 unfold DD
 rw [zq (by simp),zq (by dsimp only; omega)]
 dsimp only
 have hrs : oy d c.toNat = (List.range (lt t.length)).map (lN t):=by
  have hc : c.toNat = t.length:=by omega
  unfold oy
  rw [hc]
  exact List.map_congr_left fun r h=>hr r (List.mem_range.1 h)
 rw [hrs,NV hb hl hv hu]
 rfl
theorem UJ {t : List Ent} {e : Ent} (h : Uniq t) (he : e.1 = 2 -> e∉t) : Uniq (t++[e]):=by
 intro i j hi hj h2 hij
 simp only [List.length_append,List.length_cons,List.length_nil] at hi hj
 have g : ∀k,k < t.length -> ent (t++[e]) k = ent t k:=fun k hk=>by unfold ent; rw [List.getD_eq_getElem?_getD,List.getD_eq_getElem?_getD,List.getElem?_append_left hk]
 have g1 : ent (t++[e]) t.length = e:=by unfold ent; simp
 by_cases h1 : i < t.length
 ·by_cases h3 : j < t.length
  ·rw [g i h1] at h2 hij
   rw [g j h3] at hij
   exact h i j h1 h3 h2 hij
  ·obtain rfl : j = t.length:=by omega
   rw [g1,g i h1] at hij
   rw [g i h1] at h2
   exact absurd (hij ▸ yV h1) (he (hij ▸ h2))
 ·obtain rfl : i = t.length:=by omega
  by_cases h3 : j < t.length
  ·rw [g1,g j h3] at hij
   rw [g1] at h2
   exact absurd (hij ▸ yV h3) (he h2)
  ·omega
theorem UK {P : Int} {t : List Ent} {e : Ent} (h : zI P t e = false) : lK e P = true /\ (e.1 = 2 -> e∉t):=by
 unfold zI at h
 simp only [Bool.or_eq_false_iff,Bool.not_eq_false'] at h
 refine ⟨h.1,fun h2 hm=>?_⟩
 have:=h.2
 simp [h2,hm] at this
theorem L1 {C : Nat} {P : Int} : ∀{l t t' : List Ent},t.length <= C -> (∀e∈t,lK e P = true) -> Uniq t -> yF C P t l = some t' ->
  t'.length = min C (t.length + l.length) /\ (∀e∈t',lK e P = true) /\ Uniq t':=by
 intro l
 induction l with
 | nil=>
  intro t t' h1 h2 h3 h
  rw [yF] at h
  obtain rfl:=Option.some.inj h
  exact ⟨by simp only [List.length_nil]; omega,h2,h3⟩
 | cons e l ih=>
  intro t t' h1 h2 h3 h
  rw [yF] at h
  by_cases hc : t.length = C
  ·rw [zt hc] at h
   by_cases he : e = (0,0)
   ·rw [zt he] at h
    obtain ⟨a,b,c⟩:=ih h1 h2 h3 h
    exact ⟨by simp only [List.length_cons]; omega,b,c⟩
   ·rw [zq he] at h; cases h
  ·rw [zq hc] at h
   cases hb : zI P t e
   ·rw [hb,zq (by decide)] at h
    obtain ⟨b1,b2⟩:=UK hb
    obtain ⟨a,b,c⟩:=ih (t:=t++[e]) (by simp only [List.length_append,List.length_cons,List.length_nil]; omega) (fun x hx=>by
     rcases List.mem_append.1 hx with h | h
     ·exact h2 x h
     ·rw [List.mem_singleton.1 h]; exact b1) (UJ h3 b2) h
    exact ⟨by simp only [List.length_append,List.length_cons,List.length_nil] at a ⊢; omega,b,c⟩
   ·rw [hb,zt rfl] at h; cases h
theorem SU {C : Nat} {P : Int} : ∀{l : List ByteArray} {t T : List Ent},t.length <= C -> (∀e∈t,lK e P = true) -> Uniq t -> yA C P t l = (T,0) ->
  T.length = min C (t.length + 8 * l.length) /\ (∀e∈T,lK e P = true) /\ Uniq T:=by
 intro l
 induction l with
 | nil=>
  intro t T h1 h2 h3 h
  rw [yA] at h
  obtain ⟨rfl,-⟩:=Prod.mk.inj h
  exact ⟨by simp only [List.length_nil]; omega,h2,h3⟩
 | cons s l ih=>
  intro t T h1 h2 h3 h
  rw [yA] at h
  split at h
  ·cases (Prod.mk.inj h).2
  ·split at h
   ·cases (Prod.mk.inj h).2
   ·rename_i t' ht
    obtain ⟨a,b,c⟩:=L1 h1 h2 h3 ht
    obtain ⟨a',b',c'⟩:=ih (by omega) b c h
    rw [Ap] at a
    exact ⟨by simp only [List.length_cons]; omega,b',c'⟩
theorem KC {c p b : Int} {rows : List ByteArray} {T : List Ent} (h : za c p b rows = (T,0)) : (T.length : Int) = c /\ (∀e∈T,lK e p = true) /\ Uniq T:=by
 unfold za at h
 split at h
 ·cases (Prod.mk.inj h).2
 ·rename_i hb
  unfold lH at hb
  split at h
  ·cases (Prod.mk.inj h).2
  ·rename_i hr
   obtain ⟨a,b',c'⟩:=SU (t:=[]) (by simp) (fun e he=>by cases he) (fun i j hi=>by simp at hi) h
   have hr' : rows.length = lt c.toNat:=by omega
   rw [hr'] at a
   simp only [List.length_nil] at a
   unfold lt at a
   exact ⟨by omega,b',c'⟩
theorem Vp {d : DevM} (hd : d.Ok) (h : (zB d).1 = 0) : (zB d).2.Ok:=by
 unfold zB DD at h ⊢
 split at h
 ·rename_i h1; exact absurd h h1
 ·rename_i h1
  rw [zq h1]
  split at h
  ·cases h
  ·rename_i h2
   rw [zq h2]
   have hg:=I4 (s:=d.seen 0) (by simpa using h1)
   obtain ⟨a,b,c⟩:=KC (T:=(za (oh (d.seen 0)).1.1 (oh (d.seen 0)).1.2.1 (oh (d.seen 0)).1.2.2 (oy d (oh (d.seen 0)).1.1.toNat)).1) (Prod.ext rfl h)
   exact ⟨hd,hg,a,b,c,List.nodup_nil,(fun x hx=>by cases hx),(fun x hx=>by cases hx),by unfold zC at h2; simp only [Kb]; omega⟩
theorem DevM.write_cases (d : DevM) (a : Int) (s : ByteArray) :
  ((d.write a s).1 = 0 /\ (d.write a s).2.pend = d.pend++[(a,s)] /\ (d.write a s).2.fl = d.fl) \/ ((d.write a s).1≠0 /\ (d.write a s).2.pend = d.pend /\ (d.write a s).2.fl = d.fl):=by
 unfold DevM.write
 split
 ·exact .inr ⟨by simp,rfl,rfl⟩
 ·split
  ·exact .inr ⟨by simp,rfl,rfl⟩
  ·exact .inl ⟨rfl,rfl,rfl⟩
theorem DevM.puts_cases : ∀(l : List ByteArray) (d : DevM) (a : Int),(d.puts a l).2.fl = d.fl /\ ∃q,(d.puts a l).2.pend = d.pend++q /\ (∀x∈q,a <= x.1 /\ x.1 < a + l.length) /\
  (∃j,j <= l.length /\ q = (List.range j).map (fun (i : Nat)=>(a + (i : Int),l.getD i ByteArray.empty)) /\ ((d.puts a l).1 = 0 -> j = l.length)):=by
 intro l
 induction l with
 | nil=>intro d a; exact ⟨rfl,[],by simp [DevM.puts],by simp,0,by simp,rfl,fun _=>rfl⟩
 | cons s l ih=>
  intro d a
  rw [DevM.puts]
  rcases DevM.write_cases d a s with ⟨h1,h2,h3⟩ | ⟨h1,h2,h3⟩
  ·rw [zq (by simpa using h1)]
   obtain ⟨i1,q,i2,i3,j,j1,j2,j3⟩:=ih (d.write a s).2 (a + 1)
   refine ⟨i1.trans h3,(a,s)::q,by rw [i2,h2]; simp,fun x hx=>?_,j + 1,by simpa using j1,?_,fun h=>by simpa using j3 h⟩
   ·simp only [List.length_cons]
    rcases List.mem_cons.1 hx with rfl | hx
    ·dsimp only; omega
    ·have:=i3 x hx; omega
   ·rw [List.range_succ_eq_map,List.map_cons,List.map_map,j2]
    simp only [List.getD_cons_zero,Function.comp_def,List.getD_cons_succ]
    congr 1
    ·simp
    ·exact List.map_congr_left fun i _=>by simp; omega
  ·rw [zt h1]
   exact ⟨h3,[],by rw [h2]; simp,by simp,0,by simp,rfl,fun h=>absurd h h1⟩
theorem FR {p : List (Int×ByteArray)} {a : Int} : ∀{s : ByteArray},p.foldl (fun s x=>if x.1 = a then x.2 else s) s = s \/ (a,p.foldl (fun s x=>if x.1 = a then x.2 else s) s)∈p:=by
 induction p with
 | nil=>intro s; exact .inl rfl
 | cons x p ih=>
  intro s
  rw [List.foldl_cons]
  rcases ih (s:=if x.1 = a then x.2 else s) with h | h
  ·rw [h]
   by_cases hx : x.1 = a
   ·rw [zt hx]; exact .inr (by rw [<- hx]; simp)
   ·rw [zq hx]; exact .inl rfl
  ·exact .inr (List.mem_cons_of_mem _ h)
theorem Cy {p : List (Int×ByteArray)} : ∀{f : List ByteArray} {i : Nat},(∀x∈p,0 <= x.1) -> i < f.length ->
  (p.foldl BC f).getD i ByteArray.empty = p.foldl (fun s x=>if x.1 = (i : Int) then x.2 else s) (f.getD i ByteArray.empty):=by
 induction p with
 | nil=>intro f i _ _; rfl
 | cons x p ih=>
  intro f i hx hi
  rw [List.foldl_cons,List.foldl_cons,ih (fun y hy=>hx y (by simp [hy])) (by simpa [BC] using hi)]
  congr 1
  have h0:=hx x (by simp)
  unfold BC
  by_cases h : x.1 = (i : Int)
  ·rw [zt h,show x.1.toNat = i by omega,List.getD_eq_getElem?_getD,List.getElem?_set_self hi]
   rfl
  ·rw [zq h,List.getD_eq_getElem?_getD,List.getElem?_set_ne (by omega),List.getD_eq_getElem?_getD]
theorem y9 {d : DevM} {a : Int} (h : ∀x∈d.pend,x.1≠a) : d.seen a = d.fl.getD a.toNat ByteArray.empty:=by
 unfold DevM.seen
 generalize d.fl.getD a.toNat ByteArray.empty = s
 generalize d.pend = p at h
 induction p with
 | nil=>rfl
 | cons x p ih=>rw [List.foldl_cons,zq (h x (by simp))]; exact ih fun y hy=>h y (by simp [hy])
theorem Dl {d d' : DevM} {q : List (Int×ByteArray)} (hf : d'.fl = d.fl) (hp : d'.pend = d.pend++q) (a : Int) : d'.seen a = q.foldl (fun s x=>if x.1 = a then x.2 else s) (d.seen a):=by
 unfold DevM.seen
 rw [hf,hp,List.foldl_append]
theorem AM {d d' : DevM} {q : List (Int×ByteArray)} (hf : d'.fl = d.fl) (hp : d'.pend = d.pend++q) {a : Int} (h : ∀x∈q,x.1≠a) : d'.seen a = d.seen a:=by
 rw [Dl hf hp]
 generalize d.seen a = s
 clear hp
 induction q with
 | nil=>rfl
 | cons x q ih=>rw [List.foldl_cons,zq (h x (by simp))]; exact ih fun y hy=>h y (by simp [hy])
theorem Cs {d : DevM} (hd : d.Ok) {i : Nat} (hi : i < d.fl.length) : d.flush.fl.getD i ByteArray.empty = d.seen (i : Int):=by
 unfold DevM.flush
 dsimp only
 rw [Cy (fun x hx=>(hd.pend x hx).1) hi]
 rfl
theorem C8 {d : DevM} (hd : d.Ok) {i : Nat} (hi : i < d.fl.length) : d.flush.seen (i : Int) = d.seen (i : Int):=by
 rw [y9 (d:=d.flush) (fun x hx=>by cases hx),zn,Cs hd hi]
def Sub (P : Int) (u t : List Ent) : Prop:=t.length = u.length /\ ∀k,k < u.length -> lK (ent t k) P = true /\ ((ent t k).1 = 2 -> ent t k = ent u k)
theorem Sub.ents {P : Int} {u t : List Ent} (h : Sub P u t) : ∀e∈t,lK e P = true:=fun e he=>by
 obtain ⟨k,hk,rfl⟩:=List.getElem_of_mem he
 rw [<- El hk]
 exact (h.2 k (by rw [<- h.1]; exact hk)).1
theorem Sub.uniq {P : Int} {u t : List Ent} (h : Sub P u t) (hu : Uniq u) : Uniq t:=fun i j hi hj h2 hij=>by
 have hi' : i < u.length:=by rw [<- h.1]; exact hi
 have hj' : j < u.length:=by rw [<- h.1]; exact hj
 have e1:=(h.2 i hi').2 h2
 have e2:=(h.2 j hj').2 (hij ▸ h2)
 exact hu i j hi' hj' (e1 ▸ h2) (by rw [<- e1,<- e2,hij])
theorem Sub.self {P : Int} {t : List Ent} (h : ∀e∈t,lK e P = true) : Sub P t t:=⟨rfl,fun k hk=>⟨h _ (yV hk),fun _=>rfl⟩⟩
theorem Sub.mono {P : Int} {u u' t : List Ent} (h : Sub P u t) (hl : u'.length = u.length) (hu : ∀k,k < u.length -> (ent t k).1 = 2 -> ent u' k = ent u k) : Sub P u' t:=
 ⟨h.1.trans hl.symm,fun k hk=>⟨(h.2 k (by omega)).1,fun h2=>((h.2 k (by omega)).2 h2).trans (hu k (by omega) h2).symm⟩⟩
structure Safe (m : ImgM) (u : List Ent) : Prop where
 ulen : u.length = m.t.length
 uok : ∀e∈u,lK e m.p = true
 uuniq : Uniq u
 hd : m.d.fl.getD 0 ByteArray.empty = lQ m.c m.p m.b
 nohd : ∀x∈m.d.pend,x.1≠0
 rows : ∀r : Nat,r < lt m.t.length -> ∀s,(s = m.d.fl.getD (1 + r) ByteArray.empty \/ (1 + (r : Int),s)∈m.d.pend) -> ∃t',Sub m.p u t' /\ s = lN t' r
 cur : Sub m.p u m.t
 see : ∀r : Nat,r < lt m.t.length -> m.d.seen (1 + (r : Int)) = lN m.t r
theorem Safe.open {m : ImgM} {u : List Ent} (hm : m.Ok) (h : Safe m u) : zB m.d = (0,{ m with held:=[] }):=by
 have h0:=y9 h.nohd
 exact KK hm.head hm.t hm.ents hm.one (h0.trans h.hd) h.see (by have:=hm.need; unfold zC; omega)
theorem Sp {C : Nat} {t : List Ent} {f : Nat -> List Ent} (ht : t = (List.range C).map fun (k : Nat)=>ent (f (k / 8)) k) {r : Nat} (hf : (f r).length = C) : oq t r = oq (f r) r:=by
 subst ht
 unfold oq
 refine List.map_congr_left fun k hk=>?_
 have hk8:=List.mem_range.1 hk
 by_cases h : 8 * r + k < C
 ·have e : (8 * r + k) / 8 = r:=by omega
  simp [h,e,ent]
 ·simp [show C <= 8 * r + k by omega,hf]
theorem yi {C k : Nat} (h : k < C) : k / 8 < lt C:=by unfold lt; omega
theorem Safe.crash {m : ImgM} {u : List Ent} (hm : m.Ok) (h : Safe m u) (keep : List Bool) : ∃T,zB (m.d.crash keep) = (0,⟨m.d.crash keep,m.c,m.p,m.b,T,[]⟩) /\ Sub m.p u T /\
  (⟨m.d.crash keep,m.c,m.p,m.b,T,[]⟩ : ImgM).Ok /\ Safe ⟨m.d.crash keep,m.c,m.p,m.b,T,[]⟩ T:=by
 have hneed:=hm.need
 have hlen : (m.d.crash keep).fl.length = m.d.fl.length:=by simp only [DevM.crash,lP]
 have hseen : ∀a : Nat,a < m.d.fl.length -> (m.d.crash keep).seen (a : Int) = (m.d.crash keep).fl.getD a ByteArray.empty:=fun a ha=>by
  rw [y9 (d:=m.d.crash keep) (fun x hx=>by cases hx),zn]
 have hfl : ∀a : Nat,a < m.d.fl.length -> (m.d.crash keep).fl.getD a ByteArray.empty = m.d.fl.getD a ByteArray.empty \/ ((a : Int),(m.d.crash keep).fl.getD a ByteArray.empty)∈m.d.pend:=fun a ha=>by
  have e : (m.d.crash keep).fl.getD a ByteArray.empty = (yD m.d.pend keep).foldl (fun s x=>if x.1 = (a : Int) then x.2 else s) (m.d.fl.getD a ByteArray.empty):=
   Cy (fun x hx=>(hm.d.pend x (Az hx)).1) ha
  rw [e]
  rcases FR (p:=yD m.d.pend keep) (a:=(a : Int)) (s:=m.d.fl.getD a ByteArray.empty) with h | h
  ·exact .inl h
  ·exact .inr (Az h)
 have ht:=hm.t
 obtain ⟨C,hC,q1,q2,q3,q4,q5,q6,-⟩:=hm.nat
 have hcn : m.c.toNat = m.t.length:=by omega
 have h0 : (m.d.crash keep).fl.getD 0 ByteArray.empty = lQ m.c m.p m.b:=by
  rcases hfl 0 (by omega) with h' | h'
  ·rw [h']; exact h.hd
  ·exact absurd rfl (h.nohd _ h')
 have hrow : ∀r,r < lt m.t.length -> ∃t',Sub m.p u t' /\ (m.d.crash keep).fl.getD (1 + r) ByteArray.empty = lN t' r:=fun r hr=>by
  refine h.rows r hr _ ?_
  rcases hfl (1 + r) (by rw [hcn] at hneed; omega) with h' | h'
  ·exact .inl h'
  ·exact .inr (by simpa using h')
 obtain ⟨f,hf⟩:=Deep.choose_lt hrow
 obtain ⟨T,hT⟩ : ∃T,T = (List.range m.t.length).map fun (k : Nat)=>ent (f (k / 8)) k:=⟨_,rfl⟩
 have hTl : T.length = m.t.length:=by rw [hT]; simp
 have hTe : ∀k,k < m.t.length -> ent T k = ent (f (k / 8)) k:=fun k hk=>by rw [hT]; simp [ent,hk]
 have hsub : Sub m.p u T:=⟨hTl.trans h.ulen.symm,fun k hk=>by
  have hk' : k < m.t.length:=by rw [<- h.ulen]; exact hk
  rw [hTe k hk']
  exact (hf (k / 8) (yi hk')).1.2 k hk⟩
 have hrb : ∀r,r < lt m.t.length -> (m.d.crash keep).fl.getD (1 + r) ByteArray.empty = lN T r:=fun r hr=>by
  rw [(hf r hr).2]
  unfold lN
  rw [Sp hT ((hf r hr).1.1.trans h.ulen)]
 have hsr : ∀r : Nat,r < lt T.length -> (m.d.crash keep).seen (1 + (r : Int)) = lN T r:=fun r hr=>by
  rw [hTl] at hr
  have:=hseen (1 + r) (by rw [hcn] at hneed; omega)
  rw [show (1 + (r : Int)) = ((1 + r : Nat) : Int) by omega,this,hrb r hr]
 refine ⟨T,KK hm.head (by omega) hsub.ents (hsub.uniq h.uuniq) ((hseen 0 (by omega)).trans h0) hsr (by unfold zC; omega),hsub,
  ⟨DevM.crash_ok hm.d keep,hm.head,by dsimp only; omega,hsub.ents,hsub.uniq h.uuniq,List.nodup_nil,(fun x hx=>by cases hx),(fun x hx=>by cases hx),by dsimp only; omega⟩,
  ⟨rfl,hsub.ents,hsub.uniq h.uuniq,h0,(fun x hx=>by cases hx),fun r hr s hs=>?_,Sub.self hsub.ents,hsr⟩⟩
 rcases hs with hs | hs
 ·refine ⟨T,Sub.self hsub.ents,hs.trans (hrb r ?_)⟩
  dsimp only at hr
  rw [hTl] at hr
  exact hr
 ·cases hs
theorem Safe.data {m : ImgM} {u : List Ent} (h : Safe m u) {d' : DevM} {q : List (Int×ByteArray)} (hf : d'.fl = m.d.fl) (hp : d'.pend = m.d.pend++q) (hq : ∀x∈q,1 + (lt m.t.length : Int) <= x.1) : Safe { m with d:=d' } u:=
 ⟨h.ulen,h.uok,h.uuniq,by dsimp only; rw [hf]; exact h.hd,fun x hx=>by
   dsimp only at hx
   rw [hp] at hx
   rcases List.mem_append.1 hx with h' | h'
   ·exact h.nohd x h'
   ·have:=hq x h'; omega,
  fun r hr s hs=>by
   dsimp only at hs hr
   rw [hf,hp] at hs
   refine h.rows r hr s (hs.imp id fun h'=>?_)
   rcases List.mem_append.1 h' with h'' | h''
   ·exact h''
   ·have:=hq _ h''; dsimp only at this; omega,
  h.cur,fun r hr=>by
   dsimp only at hr ⊢
   rw [AM hf hp fun x hx=>by have:=hq x hx; omega]
   exact h.see r hr⟩
theorem Safe.uni {m : ImgM} {u u' : List Ent} (h : Safe m u) (hl : u'.length = u.length) (ho : ∀e∈u',lK e m.p = true) (hu' : Uniq u') (hu : ∀k,k < u.length -> (ent u k).1 = 2 -> ent u' k = ent u k) : Safe m u':=
 have key : ∀t,Sub m.p u t -> Sub m.p u' t:=fun t ht=>ht.mono hl fun k hk h2=>hu k hk ((ht.2 k hk).2 h2 ▸ h2)
 ⟨hl.trans h.ulen,ho,hu',h.hd,h.nohd,fun r hr s hs=>let ⟨t',a,b⟩:=h.rows r hr s hs; ⟨t',key _ a,b⟩,key _ h.cur,h.see⟩
theorem Safe.flush {m : ImgM} {u : List Ent} (hm : m.Ok) (h : Safe m u) : Safe m.flush m.t:=by
 have hneed:=hm.need
 have ht:=hm.t
 obtain ⟨C,hC,q1,q2,q3,q4,q5,q6,-⟩:=hm.nat
 have hcn : m.c.toNat = m.t.length:=by omega
 rw [hcn] at hneed
 refine ⟨rfl,hm.ents,hm.one,?_,(fun x hx=>by cases hx),fun r hr s hs=>?_,Sub.self hm.ents,fun r hr=>?_⟩
 ·have:=Cs hm.d (i:=0) (by omega)
  show m.d.flush.fl.getD 0 ByteArray.empty = lQ m.c m.p m.b
  rw [this]
  exact (y9 h.nohd).trans h.hd
 ·have hr' : r < lt m.t.length:=hr
  refine ⟨m.t,Sub.self hm.ents,?_⟩
  rcases hs with hs | hs
  ·rw [hs]
   show m.d.flush.fl.getD (1 + r) ByteArray.empty = _
   rw [Cs hm.d (i:=1 + r) (by omega),show ((1 + r : Nat) : Int) = 1 + (r : Int) by omega]
   exact h.see r hr'
  ·cases hs
 ·have hr' : r < lt m.t.length:=hr
  show m.d.flush.seen (1 + (r : Int)) = _
  have:=C8 hm.d (i:=1 + r) (by omega)
  rw [show ((1 + r : Nat) : Int) = 1 + (r : Int) by omega] at this
  rw [this]
  exact h.see r hr'
theorem Bb {t : List Ent} {k j : Nat} {e : Ent} (hk : k < t.length) : ent (t.set k e) j = if j = k then e else ent t j:=by
 unfold ent
 by_cases h : j = k
 ·subst h; rw [zt rfl,List.getD_eq_getElem?_getD,List.getElem?_set_self hk]; rfl
 ·rw [zq h,List.getD_eq_getElem?_getD,List.getElem?_set_ne (by omega),List.getD_eq_getElem?_getD]
theorem PT {t : List Ent} {k : Nat} {e : Ent} (hk : k < t.length) {r : Nat} (hr : r≠k / 8) : oq (t.set k e) r = oq t r:=by
 unfold oq
 refine List.map_congr_left fun j hj=>?_
 have:=List.mem_range.1 hj
 have h:=Bb (t:=t) (e:=e) (j:=8 * r + j) hk
 rw [zq (by omega)] at h
 exact h
theorem Dr {m : ImgM} (hm : m.Ok) {k : Nat} (hk : k < m.t.length) {e : Ent} (he : lK e m.p = true) :
  m.setE k e = if (m.d.write (1 + ((k / 8 : Nat) : Int)) (lN (m.t.set k e) (k / 8))).1≠0 then ((m.d.write (1 + ((k / 8 : Nat) : Int)) (lN (m.t.set k e) (k / 8))).1,{ m with d:=(m.d.write (1 + ((k / 8 : Nat) : Int)) (lN (m.t.set k e) (k / 8))).2 })
  else (0,{ m with d:=(m.d.write (1 + ((k / 8 : Nat) : Int)) (lN (m.t.set k e) (k / 8))).2,t:=m.t.set k e,held:=if (ent m.t k).1 = 2 then m.held++[(ent m.t k).2] else m.held }):=by
 obtain ⟨C,hC,q1,q2,q3,q4,q5,q6,-⟩:=hm.nat
 have hr : oe (m.t.set k e) ((k / 8 : Nat) : Int) = (lN (m.t.set k e) (k / 8),0):=Jo q6 (by simp; omega) (fun x hx=>by
  rcases List.mem_or_eq_of_mem_set hx with h | h
  ·exact hm.ents x h
  ·rw [h]; exact he) (by rw [List.length_set]; exact yi hk)
 unfold ImgM.setE
 rw [hr]
theorem Safe.setE {m : ImgM} {u : List Ent} (hm : m.Ok) (h : Safe m u) {k : Nat} (hk : k < m.t.length) {e : Ent} (he : lK e m.p = true) (hu : e.1 = 2 -> e = ent u k) : Safe (m.setE k e).2 u:=by
 rw [Dr hm hk he]
 have hr8:=yi hk
 have hset : Sub m.p u (m.t.set k e):=⟨by rw [List.length_set]; exact h.ulen.symm,fun j hj=>by
  rw [Bb hk]
  by_cases hjk : j = k
  ·subst hjk; rw [zt rfl]; exact ⟨he,hu⟩
  ·rw [zq hjk]; exact h.cur.2 j hj⟩
 rcases DevM.write_cases m.d (1 + ((k / 8 : Nat) : Int)) (lN (m.t.set k e) (k / 8)) with ⟨h1,h2,h3⟩ | ⟨h1,h2,h3⟩
 ·rw [zq (by simpa using h1)]
  generalize (m.d.write (1 + ((k / 8 : Nat) : Int)) (lN (m.t.set k e) (k / 8))).2 = d' at *
  have hl : (m.t.set k e).length = m.t.length:=List.length_set
  refine ⟨by rw [hl]; exact h.ulen,h.uok,h.uuniq,by dsimp only; rw [h3]; exact h.hd,fun x hx=>?_,fun r hr s hs=>?_,hset,fun r hr=>?_⟩
  ·dsimp only at hx
   rw [h2] at hx
   rcases List.mem_append.1 hx with h' | h'
   ·exact h.nohd x h'
   ·rw [List.mem_singleton.1 h']; dsimp only; omega
  ·dsimp only at hr hs ⊢
   rw [hl] at hr
   rw [h2,h3] at hs
   rcases hs with hs | hs
   ·exact h.rows r hr s (.inl hs)
   ·rcases List.mem_append.1 hs with h' | h'
    ·exact h.rows r hr s (.inr h')
    ·have e2:=List.mem_singleton.1 h'
     simp only [Prod.mk.injEq] at e2
     obtain rfl : r = k / 8:=by omega
     exact ⟨_,hset,e2.2⟩
  ·dsimp only at hr ⊢
   rw [hl] at hr
   rw [Dl h3 h2]
   simp only [List.foldl_cons,List.foldl_nil]
   by_cases hrk : r = k / 8
   ·subst hrk; rw [zt rfl]
   ·rw [zq (by omega),h.see r hr]
    unfold lN
    rw [PT hk hrk]
 ·rw [zt h1]
  exact h.data (q:=[]) h3 (by rw [h2]; simp) (fun x hx=>by cases hx)
theorem NE {t : List Ent} (h : Uniq t) {k : Nat} (hk : k < t.length) {e : Ent} (he : e.1 = 2 -> e∉t) : Uniq (t.set k e):=by
 intro i j hi hj h2 hij
 rw [List.length_set] at hi hj
 rw [Bb hk] at h2 hij
 rw [Bb hk] at hij
 by_cases hi' : i = k
 ·by_cases hj' : j = k
  ·rw [hi',hj']
  ·rw [zt hi'] at h2 hij
   rw [zq hj'] at hij
   exact absurd (hij ▸ yV hj) (he h2)
 ·rw [zq hi'] at h2 hij
  by_cases hj' : j = k
  ·rw [zt hj'] at hij
   exact absurd (hij ▸ yV hi) (he (hij ▸ h2))
  ·rw [zq hj'] at hij
   exact h i j hi hj h2 hij
theorem Uj {m : ImgM} (hm : m.Ok) {d : DevM} (hd : d.Ok) (hl : d.fl.length = m.d.fl.length) : ({ m with d:=d } : ImgM).Ok:=
 ⟨hd,hm.head,hm.t,hm.ents,hm.one,hm.nodup,hm.range,hm.apart,by have:=hm.need; dsimp only; omega⟩
theorem ImgM.Ok.setE {m : ImgM} (hm : m.Ok) (hw : m.d.writes < 1000000) (hp : m.d.pend.length < 1000000) {k : Nat} (hk : k < m.t.length) {e : Ent} (he : lK e m.p = true) (h2 : e.1 = 2 -> e∉m.t /\ e.2∉m.held) : (m.setE k e).2.Ok:=by
 rw [Dr hm hk he]
 have hok:=DevM.write_ok hm.d (1 + ((k / 8 : Nat) : Int)) (lN (m.t.set k e) (k / 8)) hp hw
 obtain ⟨l1,-,-⟩:=yJ m.d (1 + ((k / 8 : Nat) : Int)) (lN (m.t.set k e) (k / 8))
 split
 ·exact Uj hm hok l1
 ·generalize (m.d.write (1 + ((k / 8 : Nat) : Int)) (lN (m.t.set k e) (k / 8))).2 = d' at *
  have hmem : ∀x,((2,x) : Ent)∈m.t.set k e -> ((2,x) : Ent) = e \/ ∃j,j < m.t.length /\ j≠k /\ ent m.t j = (2,x):=fun x hx=>by
   obtain ⟨j,hj,hje⟩:=List.getElem_of_mem hx
   have hj':=hj
   rw [List.length_set] at hj'
   rw [<- El hj,Bb hk] at hje
   by_cases hjk : j = k
   ·rw [zt hjk] at hje; exact .inl hje.symm
   ·rw [zq hjk] at hje; exact .inr ⟨j,hj',hjk,hje⟩
  have hap : ∀x∈m.held,((2,x) : Ent)∉m.t.set k e:=fun x hx hc=>by
   rcases hmem x hc with h | ⟨j,hj,_,hje⟩
   ·exact (h2 (by rw [<- h])).2 (by rw [<- h]; exact hx)
   ·exact hm.apart x hx (hje ▸ yV hj)
  refine ⟨hok,hm.head,by dsimp only; rw [List.length_set]; exact hm.t,fun x hx=>?_,NE hm.one hk fun h=>(h2 h).1,?_,?_,?_,by have:=hm.need; dsimp only; omega⟩
  ·rcases List.mem_or_eq_of_mem_set hx with h | h
   ·exact hm.ents x h
   ·rw [h]; exact he
  ·dsimp only
   split
   ·rename_i hk2
    refine List.nodup_append.2 ⟨hm.nodup,by simp,fun a ha b hb=>?_⟩
    rw [List.mem_singleton.1 hb]
    intro hab
    refine hm.apart a ha ?_
    rw [hab]
    have:=yV hk
    rwa [show ent m.t k = (2,(ent m.t k).2) from Prod.ext hk2 rfl] at this
   ·exact hm.nodup
  ·dsimp only
   split
   ·rename_i hk2
    intro x hx
    rcases List.mem_append.1 hx with h | h
    ·exact hm.range x h
    ·rw [List.mem_singleton.1 h]; exact zE hm hk hk2
   ·exact hm.range
  ·dsimp only
   split
   ·rename_i hk2
    intro x hx
    rcases List.mem_append.1 hx with h | h
    ·exact hap x h
    ·rw [List.mem_singleton.1 h]
     intro hc
     rcases hmem _ hc with h' | ⟨j,hj,hjk,hje⟩
     ·exact (h2 (by rw [<- h'])).1 (by rw [<- h']; have:=yV hk; rwa [show ent m.t k = (2,(ent m.t k).2) from Prod.ext hk2 rfl] at this)
     ·refine hjk (hm.one j k hj hk (by rw [hje]) ?_)
      rw [hje]
      exact (Prod.ext hk2 rfl : ent m.t k = (2,(ent m.t k).2)).symm
   ·exact hap
structure Step (n : Nat) (m m' : ImgM) : Prop where
 ok : m'.Ok
 safe : ∀u,Safe m u -> ∃u',Safe m' u'
 c : m'.c = m.c
 p : m'.p = m.p
 len : m'.d.fl.length = m.d.fl.length
 pend : m'.d.pend.length <= m.d.pend.length + n
 wr : m'.d.writes <= m.d.writes + n
theorem Step.refl {m : ImgM} (hm : m.Ok) (n : Nat) : Step n m m:=⟨hm,fun u h=>⟨u,h⟩,rfl,rfl,rfl,by omega,by omega⟩
theorem Step.trans {a b : Nat} {m m' m'' : ImgM} (h : Step a m m') (k : Step b m' m'') : Step (a + b) m m'':=
 ⟨k.ok,fun u hu=>let ⟨u',hu'⟩:=h.safe u hu; k.safe u' hu',k.c.trans h.c,k.p.trans h.p,k.len.trans h.len,by have:=h.pend; have:=k.pend; omega,by have:=h.wr; have:=k.wr; omega⟩
theorem Step.mono {a b : Nat} {m m' : ImgM} (h : Step a m m') (hab : a <= b) : Step b m m':=
 ⟨h.ok,h.safe,h.c,h.p,h.len,by have:=h.pend; omega,by have:=h.wr; omega⟩
theorem Bu {m : ImgM} (hm : m.Ok) : m.c.toNat = m.t.length:=by
 have:=hm.t
 omega
theorem Mx {m : ImgM} (hm : m.Ok) (hw : m.d.writes < 1000000) (hp : m.d.pend.length < 1000000) {k : Nat} (hk : k < m.t.length) {e : Ent} (he : lK e m.p = true) (h2 : e.1 = 2 -> e∉m.t /\ e.2∉m.held)
  (hu : ∀u,Safe m u -> ∃u',Safe m u' /\ (e.1 = 2 -> e = ent u' k)) : Step 1 m (m.setE k e).2:=by
 refine ⟨hm.setE hw hp hk he h2,fun u h=>?_,?_,?_,?_,?_,?_⟩
 ·obtain ⟨u',h',hu'⟩:=hu u h
  exact ⟨u',h'.setE hm hk he hu'⟩
 all_goals
  rw [Dr hm hk he]
  obtain ⟨l1,l2,l3⟩:=yJ m.d (1 + ((k / 8 : Nat) : Int)) (lN (m.t.set k e) (k / 8))
  split
  ·first | rfl | exact l1 | exact l2 | exact l3
  ·first | rfl | exact l1 | exact l2 | exact l3
theorem JR {m : ImgM} (hm : m.Ok) (hw : m.d.writes < 1000000) (hp : m.d.pend.length < 1000000) (k : Int) : Step 1 m (m.clear k).2:=by
 unfold ImgM.clear
 split
 ·rename_i ht
  obtain ⟨k0,-,hkl⟩:=oW hm ht
  split
  ·exact Step.refl hm 1
  ·exact Mx hm hw hp hkl rfl (fun h=>by cases h) fun u h=>⟨u,h,fun h=>by cases h⟩
 ·exact Step.refl hm 1
theorem Ir {m : ImgM} (hm : m.Ok) {d' : DevM} {q : List (Int×ByteArray)} {n : Nat} (hd : d'.Ok) (hf : d'.fl = m.d.fl) (hp : d'.pend = m.d.pend++q) (hq : ∀x∈q,1 + (lt m.t.length : Int) <= x.1) (hn : q.length <= n) (hw : d'.writes <= m.d.writes + n) :
  Step n m { m with d:=d' }:=
 ⟨Uj hm hd (by rw [hf]),fun u h=>⟨u,h.data hf hp hq⟩,rfl,rfl,by dsimp only; rw [hf],by dsimp only; rw [hp,List.length_append]; omega,hw⟩
theorem CJ {m : ImgM} (hm : m.Ok) (hw : m.d.writes < 999000) (hp : m.d.pend.length < 999000) {a : Int} (ha : 1 + (lt m.t.length : Int) <= a) {l : List ByteArray} {n : Nat} (hl : l.length <= n) (hn : n <= 900) : Step n m { m with d:=(m.d.puts a l).2 }:=by
 obtain ⟨o1,o2,o3,o4⟩:=Em (l:=l) (a:=a) hm.d (by omega) (by omega)
 obtain ⟨h1,q,h2,h3,j,j1,j2,-⟩:=DevM.puts_cases l m.d a
 exact Ir hm o1 h1 h2 (fun x hx=>by have:=(h3 x hx).1; omega) (by rw [j2,List.length_map,List.length_range]; omega) (by omega)
theorem Aw {m : ImgM} (hm : m.Ok) {y : Int} (h0 : 0 <= y) : 1 + (lt m.t.length : Int) <= m.first y:=by
 unfold ImgM.first
 rw [Bu hm]
 omega
theorem Qb {m : ImgM} (hm : m.Ok) (hw : m.d.writes < 999000) (hp : m.d.pend.length < 999000) (k fr : Int) (s : ByteArray) : Step 4 m (m.wr k fr s).2:=by
 unfold ImgM.wr
 split
 ·exact Step.refl hm 4
 ·rename_i hb
  split
  ·exact Step.refl hm 4
  ·rename_i hk
   unfold ImgM.wrBad at hb
   have ht : m.there k = true:=by
    cases h : m.there k
    ·exact absurd (.inl h) hb
    ·rfl
   have hb' : 0 <= fr /\ (s.size : Int) <= 16 * (4 - fr):=by
    refine ⟨?_,?_⟩
    ·exact Int.not_lt.1 fun h=>hb (.inr (.inl h))
    ·exact Int.not_lt.1 fun h=>hb (.inr (.inr (.inr (.inr h))))
   obtain ⟨k0,-,hkl⟩:=oW hm ht
   have hk2 : (ent m.t k.toNat).1 = 2:=Decidable.byContradiction hk
   obtain ⟨r0,r1⟩:=zE hm hkl hk2
   have:=Aw hm r0
   refine CJ hm hw hp (by omega) ?_ (by omega)
   unfold lB
   rw [List.length_map,List.length_range]
   omega
theorem zv {m : ImgM} (hm : m.Ok) : Step 0 m m.flush:=
 ⟨JT (d:=m.d) hm hm.d rfl,fun u h=>⟨_,h.flush hm⟩,rfl,rfl,by simp only [ImgM.flush,DevM.flush,lP],by simp [ImgM.flush,DevM.flush],by simp [ImgM.flush,DevM.flush]⟩
theorem FQ {m : ImgM} {p : Int} (h : m.openB p = true) : ((2,p) : Ent)∉m.t /\ p∉m.held:=by
 unfold ImgM.openB at h
 simpa using h
theorem Mj {m : ImgM} (hm : m.Ok) (hw : m.d.writes < 999000) (hp : m.d.pend.length < 999000) (k : Int) (s : ByteArray) : Step 5 m (m.fill k s).2:=by
 unfold ImgM.fill
 split
 ·exact Step.refl hm 5
 ·rename_i h1
  split
  ·exact Step.refl hm 5
  ·rename_i h2
   split
   ·exact Step.refl hm 5
   ·rename_i h3
    have ht : m.there k = true:=by
     cases h : m.there k
     ·exact absurd (.inl h) h1
     ·rfl
    obtain ⟨k0,-,hkl⟩:=oW hm ht
    obtain ⟨C,hC,q1,q2,q3,q4,q5,q6,-⟩:=hm.nat
    obtain ⟨P,hP⟩:=ze q5
    rcases Bx m hP with h | ⟨q,hq,hqP,ho,-⟩
    ·exact absurd (by rw [h]; decide) h3
    ·rw [hq]
     obtain ⟨n1,n2⟩:=FQ ho
     unfold ImgM.fillAt
     have hf:=Aw hm (y:=(q : Int)) (by omega)
     have s1:=CJ (n:=4) hm hw hp hf (l:=lB s 4) (by simp [lB]) (by omega)
     split
     ·exact s1.mono (by omega)
     ·have s2:=zv s1.ok
      have h12:=s1.trans s2
      have w12:=h12.wr
      have p12:=h12.pend
      have he : lK (2,(q : Int)) m.p = true:=by unfold lK; rw [zt rfl]; simp; omega
      refine h12.trans (b:=1) (Mx (k:=k.toNat) (e:=(2,(q : Int))) h12.ok (by omega) (by omega) hkl he (fun _=>⟨n1,fun h=>by cases h⟩) fun u h=>?_)
      refine ⟨m.t.set k.toNat (2,(q : Int)),?_,fun _=>by rw [Bb hkl,zt rfl]⟩
      have hsf : Safe ({ m with d:=(m.d.puts (m.first (q : Int)) (lB s 4)).2 } : ImgM).flush m.t:=by
       refine ⟨rfl,hm.ents,hm.one,h.hd,h.nohd,fun r hr s hs=>?_,Sub.self hm.ents,h.see⟩
       rcases hs with hs | hs
       ·refine ⟨m.t,Sub.self hm.ents,hs.trans ?_⟩
        have e:=h.see r hr
        rw [y9 (fun x hx=>by cases hx),show (1 + (r : Int)).toNat = 1 + r by omega] at e
        exact e
       ·cases hs
      refine hsf.uni (by rw [List.length_set]) (fun x hx=>?_) (NE hm.one hkl fun _=>n1) fun j hj hj2=>?_
      ·rcases List.mem_or_eq_of_mem_set hx with h | h
       ·exact hm.ents x h
       ·rw [h]; exact he
      ·rw [Bb hkl]
       split
       ·rename_i hjk
        subst hjk
        exact absurd hj2 h2
       ·rfl
theorem UX {m : ImgM} (hm : m.Ok) {n : Int} (h0 : 0 <= n) (h1 : n <= 9223372036854775807) : Step 0 m { m with d:={ m.d with fail:=n } }:=
 Ir (q:=[]) hm ⟨hm.d.n,hm.d.fl,hm.d.p,hm.d.pend,⟨by dsimp only; omega,h1⟩,hm.d.writes⟩ rfl (by simp) (fun x hx=>by cases hx) (by simp) (by simp)
theorem J7 {d : DevM} (hd : d.Ok) (hp : d.pend = []) (hl : 0 < d.fl.length) {s : ByteArray} (hw : d.writes < 1000000) (h : (d.write 0 s).1 = 0) :
  (d.write 0 s).2.flush.Ok /\ (d.write 0 s).2.flush.pend = [] /\ (d.write 0 s).2.flush.fl.length = d.fl.length /\ (d.write 0 s).2.flush.fl.getD 0 ByteArray.empty = s /\
  (∀i : Nat,0 < i -> i < d.fl.length -> (d.write 0 s).2.flush.fl.getD i ByteArray.empty = d.fl.getD i ByteArray.empty) /\ (d.write 0 s).2.flush.writes <= d.writes + 1:=by
 have ok:=DevM.write_ok hd 0 s (by rw [hp]; decide) hw
 obtain ⟨-,-,l3⟩:=yJ d 0 s
 rcases DevM.write_cases d 0 s with ⟨h1,h2,h3⟩ | ⟨h1,h2,h3⟩
 ·generalize (d.write 0 s).2 = d' at *
  rw [hp] at h2
  refine ⟨DevM.flush_ok ok,rfl,by simp only [DevM.flush,lP,h3],?_,fun i h0 hi=>?_,l3⟩
  ·rw [Cs ok (by rw [h3]; exact hl)]
   unfold DevM.seen
   rw [h2]
   simp
  ·rw [Cs ok (by rw [h3]; exact hi)]
   unfold DevM.seen
   rw [h2,h3]
   simp only [List.nil_append,List.foldl_cons,List.foldl_nil]
   rw [zq (by omega)]
   simp
 ·exact absurd h h1
theorem EP {m : ImgM} (hm : m.Ok) (hw : m.d.writes < 999000) (k : Int) : Step 1 m (m.link k).2:=by
 unfold ImgM.link
 split
 ·exact Step.refl hm 1
 ·rename_i hb
  have s0:=zv hm
  have hw0 : m.d.flush.writes = m.d.writes:=rfl
  have hneed:=s0.ok.need
  obtain ⟨l1,l2,l3⟩:=yJ m.d.flush 0 (lQ m.c m.p k)
  have okw:=DevM.write_ok (DevM.flush_ok hm.d) 0 (lQ m.c m.p k) (by simp [DevM.flush]) (by omega)
  have q5 : 0 <= m.p:=by
   obtain ⟨C,hC,q1,q2,q3,q4,q5,q6,-⟩:=hm.nat
   exact q5
  split
  ·rename_i h1
   rcases DevM.write_cases m.d.flush 0 (lQ m.c m.p k) with ⟨e1,-,-⟩ | ⟨-,e2,e3⟩
   ·exact absurd e1 h1
   ·exact (s0.trans (b:=1) (Ir (m:=m.flush) (q:=[]) s0.ok okw e3 (by rw [List.append_nil]; exact e2) (fun x hx=>by cases hx) (by simp) (by dsimp only [ImgM.flush]; omega))).mono (by omega)
  ·rename_i h1
   have hl0 : 0 < m.d.flush.fl.length:=by
    have : 1 + (lt m.c.toNat : Int) + 4 * m.p <= m.d.flush.fl.length:=hneed
    omega
   obtain ⟨f1,f2,f3,f4,f5,f6⟩:=J7 (s:=lQ m.c m.p k) (DevM.flush_ok hm.d) rfl hl0 (by omega) (Decidable.byContradiction h1)
   generalize (m.d.flush.write 0 (lQ m.c m.p k)).2.flush = d' at *
   have hsl : ∀u,Safe m u -> Safe ({ m.flush with d:=d',b:=k } : ImgM) m.t:=fun u h=>by
    have hf:=h.flush hm
    have hrow : ∀r : Nat,r < lt m.t.length -> d'.fl.getD (1 + r) ByteArray.empty = lN m.t r:=fun r hr=>by
     have hr' : 1 + r < m.d.flush.fl.length:=by
      have h' : 1 + (lt m.c.toNat : Int) + 4 * m.p <= m.d.flush.fl.length:=hneed
      rw [Bu hm] at h'
      omega
     rw [f5 (1 + r) (by omega) hr']
     have e : m.d.flush.seen (1 + (r : Int)) = lN m.t r:=hf.see r hr
     rw [y9 (d:=m.d.flush) (fun x hx=>by cases hx),show (1 + (r : Int)).toNat = 1 + r by omega] at e
     exact e
    refine ⟨rfl,hm.ents,hm.one,f4,fun x hx=>?_,fun r hr s hs=>?_,Sub.self hm.ents,fun r hr=>?_⟩
    ·dsimp only at hx
     rw [f2] at hx
     cases hx
    ·dsimp only at hs
     rw [f2] at hs
     rcases hs with hs | hs
     ·exact ⟨m.t,Sub.self hm.ents,hs.trans (hrow r hr)⟩
     ·cases hs
    ·dsimp only
     rw [y9 (d:=d') (fun x hx=>by rw [f2] at hx; cases hx),show (1 + (r : Int)).toNat = 1 + r by omega]
     exact hrow r hr
   exact ⟨⟨f1,hb,hm.t,hm.ents,hm.one,List.nodup_nil,(fun x hx=>by cases hx),(fun x hx=>by cases hx),by have h' : 1 + (lt m.c.toNat : Int) + 4 * m.p <= m.d.flush.fl.length:=hneed; dsimp only [ImgM.flush]; omega⟩,
    fun u h=>⟨_,hsl u h⟩,rfl,rfl,by dsimp only; rw [f3]; exact s0.len,by dsimp only; rw [f2]; simp,by dsimp only; omega⟩
theorem FT {f : Nat -> ByteArray} {a : Int} : ∀{j r : Nat} {s : ByteArray},r < j ->
  ((List.range j).map fun (i : Nat)=>(a + (i : Int),f i)).foldl (fun s x=>if x.1 = a + (r : Int) then x.2 else s) s = f r:=by
 intro j
 induction j with
 | zero=>intro r s h; omega
 | succ j ih=>
  intro r s h
  rw [List.range_succ,List.map_append,List.foldl_append]
  simp only [List.map_cons,List.map_nil,List.foldl_cons,List.foldl_nil]
  by_cases hr : r = j
  ·subst hr; rw [zt rfl]
  ·rw [zq (by omega)]; exact ih (by omega)
theorem EJ {l : List ByteArray} {d : DevM} {a : Int} (h : (d.puts a l).1 = 0) {r : Nat} (hr : r < l.length) : (d.puts a l).2.seen (a + (r : Int)) = l.getD r ByteArray.empty:=by
 obtain ⟨h1,q,h2,-,j,-,j2,j3⟩:=DevM.puts_cases l d a
 obtain rfl:=j3 h
 rw [Dl h1 h2,j2]
 exact FT (f:=fun i=>l.getD i ByteArray.empty) hr
theorem CA (c p : Int) : ∀e∈lG c,lK e p = true:=fun e he=>by
 unfold lG at he
 rw [(List.mem_replicate.1 he).2]
 rfl
theorem LG (c : Int) : Uniq (lG c):=fun i j hi hj h2 _=>by
 have h0 : ent (lG c) i = (0,0):=(List.mem_replicate.1 (show ent (lG c) i∈List.replicate c.toNat (0,0) from yV hi)).2
 rw [h0] at h2
 cases h2
theorem AI {d : DevM} (hd : d.Ok) (hp : d.pend.length < 999000) (hw : d.writes < 999000) {c p b : Int} :
  (oE d c p b).2.d.Ok /\ (oE d c p b).2.d.fl.length = d.fl.length /\ (oE d c p b).2.d.pend.length <= d.pend.length + 4 /\ (oE d c p b).2.d.writes <= d.writes + 5 /\
  ((oE d c p b).1 = 0 -> (oE d c p b).2.Ok /\ Safe (oE d c p b).2 (lG c) /\ (oE d c p b).2.d.pend = [] /\ ¬lH c p b):=by
 unfold oE
 split
 ·exact ⟨hd,rfl,by dsimp only [oC]; omega,by dsimp only [oC]; omega,fun h=>by cases h⟩
 ·rename_i hf
  have hb : ¬lH c p b:=fun h=>hf (.inl h)
  have hn : zC c p <= d.fl.length:=Int.not_lt.1 fun h=>hf (.inr h)
  have hbb:=hb
  unfold lH at hbb
  have hzl : (lG c).length = c.toNat:=by simp [lG]
  have hrn : lt c.toNat <= 4:=by unfold lt; omega
  have hrl : (oI (lG c)).length = lt c.toNat:=by simp [oI,hzl]
  have hn2 : 1 + (lt c.toNat : Int) + 4 * p <= d.fl.length:=hn
  obtain ⟨o1,o2,o3,o4⟩:=Em (l:=oI (lG c)) (a:=1) hd (by omega) (by omega)
  split
  ·exact ⟨o1,o2,by dsimp only [oC]; omega,by dsimp only [oC]; omega,fun h=>absurd h (by assumption)⟩
  ·rename_i h1
   have h1':=Decidable.byContradiction h1
   have hsr : ∀r : Nat,r < lt c.toNat -> (d.puts 1 (oI (lG c))).2.seen (1 + (r : Int)) = lN (lG c) r:=fun r hr=>by
    rw [EJ h1' (by omega)]
    have:=Jo (P:=40) (by omega) (t:=lG c) (by omega) (CA c 40) (r:=r) (by rw [hzl]; exact hr)
    simp [oI,hzl,hr,this]
   generalize (d.puts 1 (oI (lG c))).2 = d1 at *
   have okf:=DevM.flush_ok o1
   have hl1 : d1.flush.fl.length = d1.fl.length:=by simp only [DevM.flush,lP]
   have hw1 : d1.flush.writes = d1.writes:=rfl
   split
   ·rename_i h2
    obtain ⟨l1,l2,l3⟩:=yJ d1.flush 0 (lQ c p b)
    have okw:=DevM.write_ok okf 0 (lQ c p b) (by simp [DevM.flush]) (by omega)
    have hp0 : d1.flush.pend.length = 0:=rfl
    exact ⟨okw,by dsimp only [oC]; omega,by dsimp only [oC]; omega,by dsimp only [oC]; omega,fun h=>absurd h h2⟩
   ·rename_i h2
    obtain ⟨f1,f2,f3,f4,f5,f6⟩:=J7 (s:=lQ c p b) okf rfl (by omega) (by omega) (Decidable.byContradiction h2)
    generalize (d1.flush.write 0 (lQ c p b)).2.flush = d' at *
    have hrow : ∀r : Nat,r < lt c.toNat -> d'.fl.getD (1 + r) ByteArray.empty = lN (lG c) r:=fun r hr=>by
     rw [f5 (1 + r) (by omega) (by omega),Cs o1 (by omega),show ((1 + r : Nat) : Int) = 1 + (r : Int) by omega]
     exact hsr r hr
    refine ⟨f1,by dsimp only [oC]; omega,by dsimp only [oC]; rw [f2]; simp,by dsimp only [oC]; omega,fun _=>⟨?_,?_,f2,hb⟩⟩
    ·exact ⟨f1,hb,by dsimp only [oC]; rw [hzl]; omega,CA c p,LG c,List.nodup_nil,(fun x hx=>by cases hx),(fun x hx=>by cases hx),by dsimp only [oC]; omega⟩
    ·refine ⟨rfl,CA c p,LG c,f4,fun x hx=>?_,fun r hr s hs=>?_,Sub.self (CA c p),fun r hr=>?_⟩
     ·dsimp only [oC] at hx
      rw [f2] at hx
      cases hx
     ·dsimp only [oC] at hs hr
      rw [f2] at hs
      rw [hzl] at hr
      rcases hs with hs | hs
      ·exact ⟨lG c,Sub.self (CA c p),hs.trans (hrow r hr)⟩
      ·cases hs
     ·dsimp only [oC] at hr ⊢
      rw [hzl] at hr
      rw [y9 (d:=d') (fun x hx=>by rw [f2] at hx; cases hx),show (1 + (r : Int)).toNat = 1 + r by omega]
      exact hrow r hr
theorem Sx {s : ByteArray} {n k : Nat} (h : s.size = 16 * n) (hk : k < n) : (lw s k).size = 16:=by
 unfold lw
 rw [ByteArray.size_extract]
 omega
theorem Cf {s : ByteArray} {n : Nat} (h : s.size = 16 * n) : ∀x∈lB s n,x.size = 16:=fun x hx=>by
 unfold lB at hx
 obtain ⟨k,hk,rfl⟩:=List.mem_map.1 hx
 exact Sx h (List.mem_range.1 hk)
theorem yq (s : ByteArray) (n : Nat) : (lB s n).length = n:=by simp [lB]
theorem E8 {s : ByteArray} {n k : Nat} (h : k < n) : (lB s n).getD k ByteArray.empty = lw s k:=by simp [lB,h]
theorem D3 {d : DevM} (hf : d.fail < 0) {a : Int} (a0 : 0 <= a) (a1 : a < d.fl.length) {s : ByteArray} (hs : s.size = 16) : (d.write a s).1 = 0 /\ (d.write a s).2.fail < 0:=by
 have hb : ¬(d.bad a s = true):=by
  unfold DevM.bad
  simp only [Bool.or_eq_true,decide_eq_true_eq]
  omega
 unfold DevM.write
 rw [zq hb,zq (by omega)]
 refine ⟨rfl,?_⟩
 dsimp only
 rw [zq (by omega)]
 exact hf
theorem Gx : ∀{l : List ByteArray} {d : DevM} {a : Int},d.fail < 0 -> 0 <= a -> a + l.length <= d.fl.length -> (∀x∈l,x.size = 16) -> (d.puts a l).1 = 0 /\ (d.puts a l).2.fail < 0:=by
 intro l
 induction l with
 | nil=>intro d a hf _ _ _; exact ⟨rfl,hf⟩
 | cons s l ih=>
  intro d a hf a0 a1 hs
  simp only [List.length_cons] at a1
  obtain ⟨h1,h2⟩:=D3 hf a0 (a:=a) (by omega) (hs s (by simp))
  obtain ⟨l1,-,-⟩:=yJ d a s
  rw [DevM.puts,zq (by simpa using h1)]
  exact ih h2 (by omega) (by omega) fun x hx=>hs x (by simp [hx])
theorem Uq {m : ImgM} (hm : m.Ok) (hf : m.d.fail < 0) {k : Nat} (hk : k < m.t.length) {e : Ent} (he : lK e m.p = true) :
  ∃d',d'.fl = m.d.fl /\ d'.pend = m.d.pend++[(1 + ((k / 8 : Nat) : Int),lN (m.t.set k e) (k / 8))] /\ d'.fail < 0 /\
   m.setE k e = (0,{ m with d:=d',t:=m.t.set k e,held:=if (ent m.t k).1 = 2 then m.held++[(ent m.t k).2] else m.held }):=by
 have hneed:=hm.need
 rw [Bu hm] at hneed
 have hr:=yi hk
 obtain ⟨C,hC,q1,q2,q3,q4,q5,q6,-⟩:=hm.nat
 obtain ⟨h1,h2⟩:=D3 hf (a:=1 + ((k / 8 : Nat) : Int)) (by omega) (by omega) (Ci (m.t.set k e) (k / 8))
 rw [Dr hm hk he]
 rcases DevM.write_cases m.d (1 + ((k / 8 : Nat) : Int)) (lN (m.t.set k e) (k / 8)) with ⟨e1,e2,e3⟩ | ⟨e1,-,-⟩
 ·exact ⟨_,e3,e2,h2,by rw [zq (by simpa using e1)]⟩
 ·exact absurd h1 e1
theorem UU {m : ImgM} {k : Nat} {q : Int} (ht : m.there (k : Int) = true) (h : ent m.t k = (2,q)) : m.read (k : Int) = (cat (m.secs q 4),0):=by
 have hk : m.kind (k : Int) = 2:=by unfold ImgM.kind; rw [zn,h]
 unfold ImgM.read
 rw [zt ht,zq (by rw [hk]; decide),zq (by rw [hk]; decide),zn,h]
def dash : ByteArray:=⟨#[45]⟩
def cont (d : DevM) (a : Int) (e : Ent) (j : Nat) : ByteArray:=if e.1 = 0 then dash else if e.1 = 1 then zs 16 else d.seen (a + 4 * e.2 + (j : Int))
def ImgM.base (m : ImgM) : Int:=1 + (lt m.c.toNat : Int)
theorem zD (m : ImgM) (y : Int) : m.first y = m.base + 4 * y:=rfl
def ImgM.shown (m : ImgM) (k : Nat) : ByteArray:=cont m.d m.base (ent m.t (k / 4)) (k % 4)
theorem OG {n a b : Nat} (h : a <= b) (hb : b <= n) : (zs n).extract a b = zs (b - a):=by
 apply Go.WideShapes.bytes_inj
 simp only [ByteArray.data_extract,Array.toList_extract,zs,List.extract]
 rw [List.drop_replicate,List.take_replicate]
 congr 1
 omega
theorem IY {l : List ByteArray} (hl : ∀x∈l,x.size = 16) {j : Nat} (hj : j < l.length) : (cat l).extract (16 * j) (16 * j + 16) = l.getD j ByteArray.empty:=by
 apply Go.WideShapes.bytes_inj
 simp only [ByteArray.data_extract,Array.toList_extract,List.extract,cat]
 rw [show 16 * j + 16 - 16 * j = 16 by omega]
 induction l generalizing j with
 | nil=>simp at hj
 | cons x l ih=>
  have hx : x.data.toList.length = 16:=hl x (by simp)
  have e : catL (x::l) = x.data.toList++catL l:=by simp [catL]
  rw [e]
  cases j with
  | zero=>
   simp only [Nat.mul_zero,List.drop_zero,List.getD_cons_zero]
   rw [List.take_append_of_le_length (by omega),List.take_of_length_le (by omega)]
  | succ j=>
   have h:=ih (fun y hy=>hl y (by simp [hy])) (j:=j) (by simpa using hj)
   have e2 : 16 * (j + 1) = x.data.toList.length + 16 * j:=by rw [hx]; omega
   rw [List.getD_cons_succ,<- h,e2,List.drop_append,List.drop_of_length_le (by rw [hx]; omega),Nat.add_sub_cancel_left,List.nil_append]
theorem NA {l : List ByteArray} (hl : ∀x∈l,x.size = 16) : (cat l).size = 16 * l.length:=by
 have:=Dy hl
 have e : (cat l).size = (catL l).length:=by simp [cat,ByteArray.size]
 omega
theorem SM {m : ImgM} (hm : m.Ok) {y : Int} (h0 : 0 <= y) (h1 : y < m.p) : ∀x∈m.secs y 4,x.size = 16:=fun x hx=>by
 have hf:=AU hm h0 h1
 have hg:=Aw hm h0
 unfold ImgM.secs at hx
 obtain ⟨j,hj,rfl⟩:=List.mem_map.1 hx
 have:=List.mem_range.1 hj
 exact BJ hm.d (by omega) (by omega)
theorem KZ {m : ImgM} (hm : m.Ok) {k : Nat} (hk : k < 4 * m.t.length) :
  ((m.read ((k / 4 : Nat) : Int)).2≠0 /\ m.shown k = dash) \/
  ((m.read ((k / 4 : Nat) : Int)).2 = 0 /\ (m.read ((k / 4 : Nat) : Int)).1.size = 64 /\ (m.read ((k / 4 : Nat) : Int)).1.extract (16 * (k % 4)) (16 * (k % 4) + 16) = m.shown k):=by
 have hkl : k / 4 < m.t.length:=by omega
 have ht:=hm.t
 have hth : m.there ((k / 4 : Nat) : Int) = true:=by unfold ImgM.there; simp; omega
 have hkd : m.kind ((k / 4 : Nat) : Int) = (ent m.t (k / 4)).1:=rfl
 rcases D5 hm hkl with h | h | h
 ·left
  have e : m.read ((k / 4 : Nat) : Int) = (ByteArray.empty,4):=by unfold ImgM.read; rw [zt hth,zt h]
  rw [e]
  refine ⟨by simp,?_⟩
  unfold ImgM.shown cont
  rw [zt (hkd ▸ h)]
 ·right
  have e : m.read ((k / 4 : Nat) : Int) = (zs 64,0):=by unfold ImgM.read; rw [zt hth,zq (by rw [h]; decide),zt h]
  rw [e]
  refine ⟨rfl,AG 64,?_⟩
  unfold ImgM.shown cont
  rw [hkd] at h
  rw [zq (by omega),zt h]
  dsimp only
  rw [OG (by omega) (by omega),show 16 * (k % 4) + 16 - 16 * (k % 4) = 16 by omega]
 ·right
  rw [hkd] at h
  have e:=UU (m:=m) (k:=k / 4) (q:=(ent m.t (k / 4)).2) hth (Prod.ext h rfl)
  obtain ⟨r0,r1⟩:=zE hm hkl h
  have hs:=SM hm r0 r1
  rw [e]
  refine ⟨rfl,by dsimp only; rw [NA hs]; simp [ImgM.secs],?_⟩
  dsimp only
  rw [IY hs (by simp [ImgM.secs]; omega)]
  unfold ImgM.shown cont
  rw [zq (by omega),zq (by omega)]
  have : k % 4 < 4:=by omega
  simp [ImgM.secs,this,zD]
def poss (d : DevM) (a : Int) (x : ByteArray) : Prop:=x = d.fl.getD a.toNat ByteArray.empty \/ (a,x)∈d.pend
theorem ET (d : DevM) (a : Int) : poss d a (d.seen a):=by
 unfold DevM.seen
 rcases FR (p:=d.pend) (a:=a) (s:=d.fl.getD a.toNat ByteArray.empty) with h | h
 ·exact .inl h
 ·exact .inr h
theorem D9 {d : DevM} (hd : d.Ok) (keep : List Bool) {a : Nat} (ha : a < d.fl.length) : poss d (a : Int) ((d.crash keep).seen (a : Int)):=by
 rw [y9 (d:=d.crash keep) (fun x hx=>by cases hx),zn]
 have e : (d.crash keep).fl.getD a ByteArray.empty = (yD d.pend keep).foldl (fun s x=>if x.1 = (a : Int) then x.2 else s) (d.fl.getD a ByteArray.empty):=
  Cy (fun x hx=>(hd.pend x (Az hx)).1) ha
 rw [e]
 rcases FR (p:=yD d.pend keep) (a:=(a : Int)) (s:=d.fl.getD a ByteArray.empty) with h | h
 ·exact .inl (by rw [h,zn])
 ·exact .inr (Az h)
theorem AZ {d d' : DevM} {q : List (Int×ByteArray)} (hf : d'.fl = d.fl) (hp : d'.pend = d.pend++q) {a : Int} {x : ByteArray} (h : poss d' a x) : poss d a x \/ (a,x)∈q:=by
 unfold poss at h
 rw [hf,hp] at h
 rcases h with h | h
 ·exact .inl (.inl h)
 ·rcases List.mem_append.1 h with h | h
  ·exact .inl (.inr h)
  ·exact .inr h
theorem Ks {d : DevM} (hd : d.Ok) {a : Int} (a0 : 0 <= a) (a1 : a < d.fl.length) {x : ByteArray} (h : poss d.flush a x) : x = d.seen a:=by
 rcases h with h | h
 ·obtain ⟨n,rfl⟩:=ze a0
  rw [h,zn,Cs hd (by omega)]
 ·cases h
def verE (s : ByteArray) (i : Nat) : Ent:=ent (yG s) (i % 8)
theorem Df {P : Int} (hP : P <= 40) {t : List Ent} (hv : ∀e∈t,lK e P = true) (i : Nat) : verE (lN t (i / 8)) i = ent t i:=by
 unfold verE
 rw [show yG (lN t (i / 8)) = oq t (i / 8) from LL (yS t _) (DZ hP hv _)]
 unfold ent
 rw [DG _ _ _ (by omega),show 8 * (i / 8) + i % 8 = i by omega]
structure Cov (m : ImgM) (may : Nat -> List ByteArray) : Prop where
 held : ∀i,i < m.t.length -> ∀s,poss m.d (1 + ((i / 8 : Nat) : Int)) s -> (verE s i).1 = 2 -> ent m.t i = verE s i \/ (verE s i).2∈m.held
 abs : ∀k,k < 4 * m.t.length -> ∀s,poss m.d (1 + ((k / 4 / 8 : Nat) : Int)) s -> (verE s (k / 4)).1 = 0 -> dash∈may k
 zero : ∀k,k < 4 * m.t.length -> ∀s,poss m.d (1 + ((k / 4 / 8 : Nat) : Int)) s -> (verE s (k / 4)).1 = 1 -> zs 16∈may k
 data : ∀k,k < 4 * m.t.length -> ∀s,poss m.d (1 + ((k / 4 / 8 : Nat) : Int)) s -> (verE s (k / 4)).1 = 2 -> ∀x,poss m.d (m.base + 4 * (verE s (k / 4)).2 + ((k % 4 : Nat) : Int)) x -> x∈may k
theorem Cov.mono {m : ImgM} {may may' : Nat -> List ByteArray} (h : Cov m may) (hm : ∀k x,x∈may k -> x∈may' k) : Cov m may':=
 ⟨h.held,fun k hk s hs e=>hm k _ (h.abs k hk s hs e),fun k hk s hs e=>hm k _ (h.zero k hk s hs e),fun k hk s hs e x hx=>hm k _ (h.data k hk s hs e x hx)⟩
theorem IH {m : ImgM} {u : List Ent} (hm : m.Ok) (hs : Safe m u) {i : Nat} (hi : i < m.t.length) {s : ByteArray} (h : poss m.d (1 + ((i / 8 : Nat) : Int)) s) : lK (verE s i) m.p = true /\ ((verE s i).1 = 2 -> verE s i = ent u i):=by
 obtain ⟨C,hC,q1,q2,q3,q4,q5,q6,-⟩:=hm.nat
 obtain ⟨t',h1,h2⟩:=hs.rows (i / 8) (yi hi) s (by
  rcases h with h | h
  ·left; rw [h]; congr 1
  ·exact .inr h)
 rw [h2,Df q6 h1.ents]
 exact h1.2 i (by rw [hs.ulen]; exact hi)
theorem CG {m : ImgM} {u : List Ent} (hm : m.Ok) (hs : Safe m u) {i : Nat} (hi : i < m.t.length) : poss m.d (1 + ((i / 8 : Nat) : Int)) (m.d.seen (1 + ((i / 8 : Nat) : Int))) /\ verE (m.d.seen (1 + ((i / 8 : Nat) : Int))) i = ent m.t i:=by
 obtain ⟨C,hC,q1,q2,q3,q4,q5,q6,-⟩:=hm.nat
 refine ⟨ET _ _,?_⟩
 rw [hs.see (i / 8) (yi hi),Df q6 hm.ents]
theorem Cov.now {m : ImgM} {u : List Ent} {may : Nat -> List ByteArray} (hm : m.Ok) (hs : Safe m u) (h : Cov m may) {k : Nat} (hk : k < 4 * m.t.length) : m.shown k∈may k:=by
 have hi : k / 4 < m.t.length:=by omega
 obtain ⟨p1,p2⟩:=CG hm hs hi
 unfold ImgM.shown cont
 rcases D5 hm hi with h0 | h0 | h0
 all_goals rw [show m.kind ((k / 4 : Nat) : Int) = (ent m.t (k / 4)).1 from rfl] at h0
 ·rw [zt h0]; exact h.abs k hk _ p1 (by rw [p2]; exact h0)
 ·rw [zq (by omega),zt h0]; exact h.zero k hk _ p1 (by rw [p2]; exact h0)
 ·rw [zq (by omega),zq (by omega)]
  exact h.data k hk _ p1 (by rw [p2]; exact h0) _ (by rw [p2]; exact ET _ _)
theorem UW {m : ImgM} {u : List Ent} (hm : m.Ok) (hs : Safe m u) (hp : m.d.pend = []) : Cov m fun k=>[m.shown k]:=by
 have key : ∀i,i < m.t.length -> ∀s,poss m.d (1 + ((i / 8 : Nat) : Int)) s -> verE s i = ent m.t i:=fun i hi s h=>by
  obtain ⟨-,p2⟩:=CG hm hs hi
  rw [<- p2]
  rcases h with h | h
  ·rw [h,y9 (fun x hx=>by rw [hp] at hx; cases hx)]
  ·rw [hp] at h; cases h
 refine ⟨fun i hi s h _=>.inl (key i hi s h).symm,fun k hk s h e=>?_,fun k hk s h e=>?_,fun k hk s h e x hx=>?_⟩
 all_goals
  rw [key (k / 4) (by omega) s h] at e
  rw [List.mem_singleton]
  unfold ImgM.shown cont
 ·rw [zt e]
 ·rw [zq (by omega),zt e]
 ·rw [zq (by omega),zq (by omega)]
  rw [key (k / 4) (by omega) s h] at hx
  rcases hx with hx | hx
  ·rw [hx,y9 (fun x hx=>by rw [hp] at hx; cases hx)]
  ·rw [hp] at hx; cases hx
theorem Cov.crash {m : ImgM} {u : List Ent} {may : Nat -> List ByteArray} (hm : m.Ok) (hs : Safe m u) (h : Cov m may) (keep : List Bool) {T : List Ent} (hT : Sub m.p u T)
  (hs' : Safe ⟨m.d.crash keep,m.c,m.p,m.b,T,[]⟩ T) {k : Nat} (hk : k < 4 * m.t.length) : (⟨m.d.crash keep,m.c,m.p,m.b,T,[]⟩ : ImgM).shown k∈may k:=by
 obtain ⟨C,hC,q1,q2,q3,q4,q5,q6,-⟩:=hm.nat
 have hTl : T.length = m.t.length:=hT.1.trans hs.ulen
 have hi : k / 4 < m.t.length:=by omega
 have hneed:=hm.need
 rw [Bu hm] at hneed
 have hr:=yi hi
 have hse:=hs'.see (k / 4 / 8) (by dsimp only; rw [hTl]; exact hr)
 dsimp only at hse
 have hpo : poss m.d (1 + ((k / 4 / 8 : Nat) : Int)) (lN T (k / 4 / 8)):=by
  rw [<- hse,show (1 + ((k / 4 / 8 : Nat) : Int)) = ((1 + k / 4 / 8 : Nat) : Int) by omega]
  exact D9 hm.d keep (by omega)
 have hv : verE (lN T (k / 4 / 8)) (k / 4) = ent T (k / 4):=Df q6 hT.ents _
 have hok:=hT.ents _ (yV (t:=T) (k:=k / 4) (by omega))
 have hrg:=zm hok
 unfold ImgM.shown cont
 dsimp only
 by_cases h0 : (ent T (k / 4)).1 = 0
 ·rw [zt h0]; exact h.abs k hk _ hpo (by rw [hv]; exact h0)
 ·by_cases h1 : (ent T (k / 4)).1 = 1
  ·rw [zq h0,zt h1]; exact h.zero k hk _ hpo (by rw [hv]; exact h1)
  ·have h2 : (ent T (k / 4)).1 = 2:=by omega
   rw [zq h0,zq h1]
   refine h.data k hk _ hpo (by rw [hv]; exact h2) _ ?_
   rw [hv]
   have hp2 : (ent T (k / 4)).2 < m.p:=by
    unfold lK at hok
    rw [zt h2] at hok
    simp at hok
    exact hok.2
   have hb : m.base = 1 + (lt m.t.length : Int):=by unfold ImgM.base; rw [Bu hm]
   show poss m.d (m.base + 4 * (ent T (k / 4)).2 + ((k % 4 : Nat) : Int)) ((m.d.crash keep).seen (m.base + 4 * (ent T (k / 4)).2 + ((k % 4 : Nat) : Int)))
   obtain ⟨a,ha⟩:=ze (show 0 <= m.base + 4 * (ent T (k / 4)).2 + ((k % 4 : Nat) : Int) by omega)
   rw [ha]
   exact D9 hm.d keep (by omega)
def more (may : Nat -> List ByteArray) (m : ImgM) : Nat -> List ByteArray:=fun j=>may j++[m.shown j]
theorem CC {m : ImgM} (hm : m.Ok) : m.base = 1 + (lt m.t.length : Int):=by unfold ImgM.base; rw [Bu hm]
theorem Cov.same {m : ImgM} {may : Nat -> List ByteArray} (h : Cov m may) : Cov m (more may m):=h.mono fun _ _ hx=>List.mem_append_left _ hx
theorem Cov.wr {m : ImgM} {u : List Ent} {may : Nat -> List ByteArray} (hm : m.Ok) (hs : Safe m u) (hf : m.d.fail < 0) (h : Cov m may) (k fr : Int) (s : ByteArray) :
  Cov (m.wr k fr s).2 (more may (m.wr k fr s).2) /\ (m.wr k fr s).2.d.fail < 0:=by
 unfold ImgM.wr
 split
 ·exact ⟨h.same,hf⟩
 ·rename_i hb
  split
  ·exact ⟨h.same,hf⟩
  ·rename_i hk
   unfold ImgM.wrBad at hb
   have ht : m.there k = true:=by
    cases h : m.there k
    ·exact absurd (.inl h) hb
    ·rfl
   have b1 : 0 <= fr:=Int.not_lt.1 fun h=>hb (.inr (.inl h))
   have b2 : s.size % 16 = 0:=Decidable.byContradiction fun h=>hb (.inr (.inr (.inr (.inl h))))
   have b3 : (s.size : Int) <= 16 * (4 - fr):=Int.not_lt.1 fun h=>hb (.inr (.inr (.inr (.inr h))))
   obtain ⟨k0,-,hkl⟩:=oW hm ht
   have hk2 : (ent m.t k.toNat).1 = 2:=Decidable.byContradiction hk
   obtain ⟨r0,r1⟩:=zE hm hkl hk2
   have hfi:=AU hm r0 r1
   have hfg:=Aw hm r0
   have hbase:=CC hm
   have hn : s.size = 16 * (s.size / 16):=by omega
   obtain ⟨p1,p2⟩:=Gx (l:=lB s (s.size / 16)) hf (a:=m.first (ent m.t k.toNat).2 + fr) (by omega) (by rw [yq]; omega) (Cf hn)
   obtain ⟨h1,q,h2,h3,j,j1,j2,j3⟩:=DevM.puts_cases (lB s (s.size / 16)) m.d (m.first (ent m.t k.toNat).2 + fr)
   have hps:=fun (i : Nat) (hi : i < (lB s (s.size / 16)).length)=>EJ (d:=m.d) (a:=m.first (ent m.t k.toNat).2 + fr) p1 hi
   obtain rfl:=j3 p1
   refine ⟨?_,p2⟩
   generalize (m.d.puts (m.first (ent m.t k.toNat).2 + fr) (lB s (s.size / 16))).2 = d' at *
   have hver : ∀i,i < m.t.length -> ∀s,poss d' (1 + ((i / 8 : Nat) : Int)) s -> poss m.d (1 + ((i / 8 : Nat) : Int)) s:=fun i hi s hp=>by
    rcases AZ h1 h2 hp with h' | h'
    ·exact h'
    ·have:=(h3 _ h').1
     have:=yi hi
     dsimp only at *
     omega
   refine ⟨fun i hi s hp e=>h.held i hi s (hver i hi s hp) e,fun k' hk' s hp e=>List.mem_append_left _ (h.abs k' hk' s (hver _ (by dsimp only at hk'; omega) s hp) e),fun k' hk' s hp e=>List.mem_append_left _ (h.zero k' hk' s (hver _ (by dsimp only at hk'; omega) s hp) e),fun k' hk' s' hp e x hx=>?_⟩
   dsimp only at hk' hp hx
   have hv':=hver (k' / 4) (by omega) s' hp
   rcases AZ h1 h2 hx with h' | h'
   ·exact List.mem_append_left _ (h.data k' hk' s' hv' e x h')
   ·refine List.mem_append_right _ (List.mem_singleton.2 ?_)
    obtain ⟨e1,e2⟩:=IH hm hs (by omega) hv'
    have he:=e2 e
    rw [j2] at h'
    obtain ⟨i,hi,hie⟩:=List.mem_map.1 h'
    have hi':=List.mem_range.1 hi
    have hil : i < s.size / 16:=by rw [yq] at hi'; exact hi'
    simp only [Prod.mk.injEq] at hie
    obtain ⟨a1,a2⟩:=hie
    have hpl : (verE s' (k' / 4)).2 = (ent m.t k.toNat).2 /\ k' % 4 = fr.toNat + i:=by
     rw [zD] at a1
     have : m.base + 4 * (verE s' (k' / 4)).2 + ((k' % 4 : Nat) : Int) = m.base + 4 * (ent m.t k.toNat).2 + fr + (i : Int):=a1.symm
     omega
    obtain ⟨c1,c2⟩:=hpl
    have hcu:=(hs.cur.2 k.toNat (by rw [hs.ulen]; exact hkl)).2 hk2
    have hck : k' / 4 = k.toNat:=by
     refine hs.uuniq (k' / 4) k.toNat (by rw [hs.ulen]; omega) (by rw [hs.ulen]; exact hkl) (by rw [<- he]; exact e) ?_
     rw [<- he,<- hcu]
     exact Prod.ext (by rw [e,hk2]) c1
    have hse:=hps i hi'
    unfold ImgM.shown cont
    dsimp only
    rw [hck,zq (by omega),zq (by omega),<- a2,<- hse]
    congr 1
    rw [zD]
    show _ = m.base + 4 * (ent m.t k.toNat).2 + ((k' % 4 : Nat) : Int)
    omega
theorem Cov.setE {m : ImgM} {u : List Ent} {may : Nat -> List ByteArray} (hm : m.Ok) (hs : Safe m u) (hf : m.d.fail < 0) (h : Cov m may) {k : Nat} (hk : k < m.t.length) {e : Ent} (he : lK e m.p = true)
  (h2 : e.1 = 2 -> ∀j : Nat,j < 4 -> ∀x,poss m.d (m.base + 4 * e.2 + (j : Int)) x -> x = m.d.seen (m.base + 4 * e.2 + (j : Int))) : Cov (m.setE k e).2 (more may (m.setE k e).2) /\ (m.setE k e).2.d.fail < 0:=by
 obtain ⟨C,hC,q1,q2,q3,q4,q5,q6,-⟩:=hm.nat
 obtain ⟨d',e1,e2,e3,e4⟩:=Uq hm hf hk he
 rw [e4]
 refine ⟨?_,e3⟩
 have hbase:=CC hm
 have hr8:=yi hk
 have hset : ∀x∈m.t.set k e,lK x m.p = true:=fun x hx=>by
  rcases List.mem_or_eq_of_mem_set hx with h | h
  ·exact hm.ents x h
  ·rw [h]; exact he
 have hl : (m.t.set k e).length = m.t.length:=List.length_set
 have hver : ∀i,i < m.t.length -> ∀s,poss d' (1 + ((i / 8 : Nat) : Int)) s -> poss m.d (1 + ((i / 8 : Nat) : Int)) s \/ verE s i = ent (m.t.set k e) i:=fun i hi s hp=>by
  rcases AZ e1 e2 hp with h' | h'
  ·exact .inl h'
  ·right
   have h'':=List.mem_singleton.1 h'
   simp only [Prod.mk.injEq] at h''
   rw [h''.2,show k / 8 = i / 8 by omega]
   exact Df q6 hset i
 have hdat : ∀(y : Int) (j : Nat) (x : ByteArray),0 <= y -> poss d' (m.base + 4 * y + (j : Int)) x -> poss m.d (m.base + 4 * y + (j : Int)) x:=fun y j x y0 hp=>by
  rcases AZ e1 e2 hp with h' | h'
  ·exact h'
  ·have h'':=List.mem_singleton.1 h'
   simp only [Prod.mk.injEq] at h''
   omega
 have hsee : ∀(y : Int) (j : Nat),0 <= y -> d'.seen (m.base + 4 * y + (j : Int)) = m.d.seen (m.base + 4 * y + (j : Int)):=fun y j y0=>
  AM e1 e2 fun x hx=>by rw [List.mem_singleton.1 hx]; dsimp only; omega
 have hents:=fun j=>Bb (t:=m.t) (e:=e) (j:=j) hk
 refine ⟨fun i hi s hp e'=>?_,fun k' hk' s hp e'=>?_,fun k' hk' s hp e'=>?_,fun k' hk' s hp e' x hx=>?_⟩
 ·dsimp only at hi hp ⊢
  rw [hl] at hi
  rcases hver i hi s hp with h' | h'
  ·rcases h.held i hi s h' e' with h'' | h''
   ·by_cases hik : i = k
    ·right
     subst hik
     rw [<- h''] at e' ⊢
     rw [zt e']
     simp
    ·left
     rw [hents,zq hik]
     exact h''
   ·right
    split
    ·exact List.mem_append_left _ h''
    ·exact h''
  ·exact .inl h'.symm
 ·dsimp only at hk' hp
  rw [hl] at hk'
  rcases hver (k' / 4) (by omega) s hp with h' | h'
  ·exact List.mem_append_left _ (h.abs k' hk' s h' e')
  ·refine List.mem_append_right _ (List.mem_singleton.2 ?_)
   unfold ImgM.shown cont
   dsimp only
   rw [<- h',zt e']
 ·dsimp only at hk' hp
  rw [hl] at hk'
  rcases hver (k' / 4) (by omega) s hp with h' | h'
  ·exact List.mem_append_left _ (h.zero k' hk' s h' e')
  ·refine List.mem_append_right _ (List.mem_singleton.2 ?_)
   unfold ImgM.shown cont
   dsimp only
   rw [<- h',zq (by omega),zt e']
 ·dsimp only at hk' hp hx
  rw [hl] at hk'
  change poss d' (m.base + 4 * (verE s (k' / 4)).2 + ((k' % 4 : Nat) : Int)) x at hx
  rcases hver (k' / 4) (by omega) s hp with h' | h'
  ·obtain ⟨o1,-⟩:=IH hm hs (by omega) h'
   have:=zm o1
   exact List.mem_append_left _ (h.data k' hk' s h' e' x (hdat _ _ _ (by omega) hx))
  ·have hok:=hset _ (yV (t:=m.t.set k e) (k:=k' / 4) (by rw [hl]; omega))
   rw [<- h'] at hok
   have hrg:=zm hok
   have hx':=hdat _ _ _ (by omega) hx
   by_cases hik : k' / 4 = k
   ·have hve : verE s (k' / 4) = e:=by rw [h',hents,zt hik]
    refine List.mem_append_right _ (List.mem_singleton.2 ?_)
    unfold ImgM.shown cont
    dsimp only
    rw [<- h',zq (by omega),zq (by omega)]
    show x = d'.seen (m.base + 4 * (verE s (k' / 4)).2 + ((k' % 4 : Nat) : Int))
    rw [hsee _ _ (by omega)]
    rw [hve] at e' hx' ⊢
    exact h2 e' (k' % 4) (by omega) x hx'
   ·have hve : verE s (k' / 4) = ent m.t (k' / 4):=by rw [h',hents,zq hik]
    obtain ⟨c1,c2⟩:=CG hm hs (i:=k' / 4) (by omega)
    rw [hve] at e' hx'
    exact List.mem_append_left _ (h.data k' hk' _ c1 (by rw [c2]; exact e') x (by rw [c2]; exact hx'))
theorem Cov.clear {m : ImgM} {u : List Ent} {may : Nat -> List ByteArray} (hm : m.Ok) (hs : Safe m u) (hf : m.d.fail < 0) (h : Cov m may) (k : Int) : Cov (m.clear k).2 (more may (m.clear k).2) /\ (m.clear k).2.d.fail < 0:=by
 unfold ImgM.clear
 split
 ·rename_i ht
  obtain ⟨k0,-,hkl⟩:=oW hm ht
  split
  ·exact ⟨h.same,hf⟩
  ·exact h.setE hm hs hf hkl rfl fun h=>by cases h
 ·exact ⟨h.same,hf⟩
theorem Cov.flushed {m : ImgM} {u : List Ent} (hm : m.Ok) (hs : Safe m u) : Cov m.flush fun j=>[m.flush.shown j]:=
 UW (zv hm).ok (hs.flush hm) rfl
theorem Cov.fill {m : ImgM} {u : List Ent} {may : Nat -> List ByteArray} (hm : m.Ok) (hs : Safe m u) (hf : m.d.fail < 0) (hw : m.d.writes < 999000) (hp : m.d.pend.length < 999000) (h : Cov m may) (k : Int) (s : ByteArray) :
  Cov (m.fill k s).2 (more may (m.fill k s).2) /\ (m.fill k s).2.d.fail < 0:=by
 unfold ImgM.fill
 split
 ·exact ⟨h.same,hf⟩
 ·rename_i hb
  split
  ·exact ⟨h.same,hf⟩
  ·rename_i hkd
   split
   ·exact ⟨h.same,hf⟩
   ·rename_i hfr
    have ht : m.there k = true:=by
     cases h : m.there k
     ·exact absurd (.inl h) hb
     ·rfl
    have hsz : s.size = 64:=Decidable.byContradiction fun h=>hb (.inr h)
    obtain ⟨k0,-,hkl⟩:=oW hm ht
    obtain ⟨C,hC,q1,q2,q3,q4,q5,q6,-⟩:=hm.nat
    obtain ⟨P,hP⟩:=ze q5
    rcases Bx m hP with hq | ⟨q,hq,hqP,ho,-⟩
    ·exact absurd (by rw [hq]; decide) hfr
    ·obtain ⟨n1,n2⟩:=FQ ho
     rw [hq]
     have hfi:=AU hm (y:=(q : Int)) (by omega) (by omega)
     have hfg:=Aw hm (y:=(q : Int)) (by omega)
     have hbase:=CC hm
     obtain ⟨p1,p2⟩:=Gx (l:=lB s 4) hf (a:=m.first (q : Int)) (by omega) (by rw [yq]; omega) (Cf (n:=4) (by omega))
     have s1:=CJ (n:=4) hm hw hp hfg (l:=lB s 4) (by rw [yq]; omega) (by omega)
     have s2:=zv s1.ok
     obtain ⟨g1,qq,g2,g3,-⟩:=DevM.puts_cases (lB s 4) m.d (m.first (q : Int))
     rw [yq] at g3
     have he : lK (2,(q : Int)) m.p = true:=by unfold lK; rw [zt rfl]; simp; omega
     obtain ⟨u2,hs2⟩:=(s1.trans s2).safe u hs
     have hl1:=s1.len
     unfold ImgM.fillAt
     rw [zq (by simpa using p1)]
     dsimp only at hl1
     have okd:=s1.ok.d
     dsimp only at okd
     have hneed:=hm.need
     rw [Bu hm] at hneed
     have hcov : Cov ({ m with d:=(m.d.puts (m.first (q : Int)) (lB s 4)).2 } : ImgM).flush may:=by
      have hs1 : ∀a : Int,(∀i : Int,0 <= i -> i < 4 -> a≠m.first (q : Int) + i) -> (m.d.puts (m.first (q : Int)) (lB s 4)).2.seen a = m.d.seen a:=fun a ha=>
       AM g1 g2 fun x hx hxa=>by
        have:=g3 x hx
        exact ha (x.1 - m.first (q : Int)) (by omega) (by omega) (by omega)
      have hvr : ∀i,i < m.t.length -> ∀s',poss (m.d.puts (m.first (q : Int)) (lB s 4)).2.flush (1 + ((i / 8 : Nat) : Int)) s' -> verE s' i = ent m.t i:=fun i hi s' hp'=>by
       have hr:=yi hi
       have hx:=Ks okd (by omega) (by rw [hl1]; omega) hp'
       rw [hs1 _ (fun i _ _=>by omega)] at hx
       rw [hx]
       exact (CG hm hs hi).2
      refine ⟨fun i hi s' hp' _=>.inl (hvr i hi s' hp').symm,fun k' hk' s' hp' e=>?_,fun k' hk' s' hp' e=>?_,fun k' hk' s' hp' e x hx=>?_⟩
      all_goals
       have hk4 : k' / 4 < m.t.length:=by have : k' < 4 * m.t.length:=hk'; omega
       obtain ⟨c1,c2⟩:=CG hm hs hk4
       rw [hvr _ hk4 s' hp'] at e
      ·exact h.abs k' hk' _ c1 (by rw [c2]; exact e)
      ·exact h.zero k' hk' _ c1 (by rw [c2]; exact e)
      ·rw [hvr _ hk4 s' hp'] at hx
       obtain ⟨r0,r1⟩:=zE hm hk4 e
       refine h.data k' hk' _ c1 (by rw [c2]; exact e) x ?_
       rw [c2]
       have hne : (ent m.t (k' / 4)).2≠(q : Int):=fun hc=>n1 (by
        have:=yV hk4
        rwa [show ent m.t (k' / 4) = (2,(q : Int)) from Prod.ext e hc] at this)
       have hx2:=Ks okd (a:=m.base + 4 * (ent m.t (k' / 4)).2 + ((k' % 4 : Nat) : Int)) (by omega) (by rw [hl1]; omega) hx
       rw [hs1 _ (fun i i0 i1=>by rw [zD]; omega)] at hx2
       rw [hx2]
       exact ET _ _
     exact hcov.setE s2.ok hs2 (by exact p2) (k:=k.toNat) hkl he fun _ j hj x hx=>by
      rcases hx with hx | hx
      ·rw [hx,y9 (fun x hx=>by cases hx)]
      ·cases hx
end Go.Proofs.YtbpblokfiajpjabGreatDoor
