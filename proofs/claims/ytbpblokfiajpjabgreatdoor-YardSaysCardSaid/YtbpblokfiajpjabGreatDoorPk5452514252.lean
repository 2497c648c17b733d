/- Lemmas on which YardSays stands: the texts Image20 ImgP2 ImgP3 ImgP4 Image21 ImgP5 Ints Chain1 Chain2 Chain3 Chain4. No conditions. -/
import Derived.Test.YtbpblokfiajpjabGreatDoorPk2632875294
set_option linter.all false
set_option maxRecDepth 1000000
set_option maxHeartbeats 32000000
namespace Go.Proofs.YtbpblokfiajpjabGreatDoor
open Go.RowKit Go.SL Go.Crc
attribute [local go_sem ↓] Go.wp_at_zero Go.wp_at_succ
theorem Vb (bd : Nat) (d : DevM) (hd : d.Ok) (hn1 : 0 < d.fl.length) (R : List SL.HP) (w : World) (H : own w (lm bd d::R)) :
  Calls Tryz.prog 95 #[.pointer (some ⟨bd,0,none⟩)] w (MZ bd (Aj d) R w):=by
 have hE : Aj d = C6 d (o7 (d.seen 0)):=rfl
 generalize Aj d = S at *
 have hs0:=AP hd (a:=0) (by omega) (by omega)
 have hsn:=Fk bd d hd 0 R w H
 rw [zq (by omega)] at hsn
 have hgd:=fun h=>FN (s:=d.seen 0) h
 have hnn:=Ep (d.seen 0)
 have HHD:=zh (fun (R : List SL.HP) (w : World) (H : own w R)=>Nc (d.seen 0) (by omega) R w H)
 have HSN:=zh hsn
 have HGD:=zh hgd
 clear hsn hgd hs0
 generalize d.seen 0 = s0 at *
 generalize o7 s0 = hh at *
 obtain ⟨⟨c,p,b⟩,f⟩:=hh
 have HE:=zh hE
 clear hE
 dsimp only at hnn HGD HHD
 unfold lM at HHD
 have hn:=hd.n
 go_enter Tryz.func95,Tryz.ntmps95
 go_wp2_with fail
 refine HSN.out.mono ?_
 rintro e w1 ⟨rfl,rfl⟩
 go_wp2_with fail
 refine (HHD.out _ w H).mono ?_
 rintro e w2 ⟨rfl,hx2,h2⟩
 go_upto_region 5 with (fail)
 have h3:=li h2 (.cells #[.int .i64 c,.int .i64 p,.int .i64 b] 103)
 have hx3:=hx2.alloc (.cells #[.int .i64 c,.int .i64 p,.int .i64 b] 103)
 generalize w2.heap.size = gh at *
 generalize w2.alloc (.cells #[.int .i64 c,.int .i64 p,.int .i64 b] 103) = w3 at *
 clear h2 hx2 HHD HSN
 by_cases hf : f = 0
 ·subst hf
  have hgood:=HGD.out rfl
  have hE2:=HE.out
  unfold C6 at hE2
  rw [zq (by simp)] at hE2
  dsimp only at hE2
  have hbb:=hgood
  unfold lF at hbb
  obtain ⟨C,rfl⟩:=ze (show 0 <= c by omega)
  have c1 : 1 <= C:=by omega
  have c2 : C <= 32:=by omega
  rw [zn] at hE2
  have hND : yz (C : Int) p = 1 + (ls C : Int) + 4 * p:=by unfold yz; rw [zn]
  have hp0 : 0 <= p:=by omega
  have hr1 : 1 <= ls C:=by unfold ls; omega
  have hr4 : ls C <= 4:=by unfold ls; omega
  have HFT:=zh (fun (R : List SL.HP) (w : World) (H : own w (lm bd d::R))=>Nf bd d hd (C : Int) p b R w H)
  unfold lM at HFT
  have HE2:=zh hE2
  have HGG:=zh hgood
  clear hE2 hgood HGD hbb HE
  obtain ⟨c0,f0⟩:=ld 0 h3 rfl
  rw [oa]
  by_cases hl : (d.fl.length : Int) < yz (C : Int) p
  ·have hS : S = (1,MK d):=by rw [HE2.out,zt hl]
   have HS:=zh hS
   have hq : fitF d (C : Int) p b = 1:=zt (.inr hl)
   rw [hq,show errV 1 = .iface 128 (.int .i64 1) from rfl] at HFT
   clear hl hS hq hND
   go_wp2_with fail
   refine (HFT.out _ w3 (lu 1 h3 rfl)).mono ?_
   rintro e w4 ⟨rfl,hx4,h4⟩
   go_wp2_with fail
   go_ret2
   rw [HS.out]
   exact .inl ⟨by simp,rfl,hx3.trans hx4,lh 1 h4 rfl⟩
  ·have hS : S = K3 d (C : Int) p b (zU (C : Int) p b (ov d C)):=by rw [HE2.out,zq hl]
   have hge : 1 + (ls C : Int) + 4 * p <= d.fl.length:=by omega
   have hq : fitF d (C : Int) p b = 0:=zq (fun h=>h.elim HGG.out hl)
   rw [hq,oa] at HFT
   have HS:=zh hS
   have hrl : (ls C : Int) < d.fl.length:=by omega
   have HSZ:=zh (Ic hd hrl)
   have hTN:=DI (C : Int) p b (ov d C)
   have HTK:=zh (fun (q : Nat) (h : q < ls C)=>G2 d (C:=C) h)
   have HRL:=zh (It d C)
   have HRW:=zh (AT C (by omega))
   have HSN:=zh (fun (q : Nat) (hq : q < ls C) (R : List SL.HP) (w : World) (H : own w (lm bd d::R))=>(by
    have h:=Fk bd d hd (1 + (q : Int)) R w H
    rw [zq (by omega)] at h
    exact h : Calls Tryz.prog 96 #[.pointer (some ⟨bd,0,none⟩),.int .i64 (1 + (q : Int))] w fun e w'=>e = .returned (.tuple #[.string (d.seen (1 + (q : Int))),.nilIface]) /\ w = w'))
   clear hl hS hrl hq hND
   go_wp2_with fail
   refine (HFT.out _ w3 (lu 1 h3 rfl)).mono ?_
   rintro e w4 ⟨rfl,hx4,h4⟩
   have hx6:=hx3.trans hx4
   clear c0 f0
   obtain ⟨c0,f0⟩:=ld 1 h4 rfl
   have h7:=lv 9 1 h4
   go_wp2_with fail
   refine (HRW.out w4).mono ?_
   rintro e w' ⟨rfl,rfl⟩
   go_wp2_with fail
   clear c0 f0 HFT
   go_loopw [7,37] (Ps (lm bd d::pts gh (.cells #[.int .i64 (C : Int),.int .i64 p,.int .i64 b] 103 (0,0))::R) d C w) (fun _ i _=>ls C - (intOf i).toNat)
   case atStart=>exact ⟨0,by omega,rfl,hx6,h7⟩
   case round=>
    obtain ⟨q,hq,rfl,hxr,hown⟩:=hrel
    clear h7 h4 h3 hx3 hx4 hx6
    obtain ⟨cg,fg⟩:=ld 2 hown rfl
    by_cases hlt : q < ls C
    ·have hE:=HTK.out q hlt
     have HT2:=zh hE
     have e1 : IntKind.i64.wrap (1 + (q : Int)) = 1 + (q : Int):=zi _ (by omega)
     have hqN : (q : Int) < (ls C : Int):=by omega
     have HQ:=zh (HSN.out q hlt)
     clear hE
     generalize d.seen (1 + (q : Int)) = sq at *
     have hml : q + 1 <= maxLen:=by simp only [maxLen]; omega
     go_wp2_with fail
     refine (HQ.out _ wr (lu 1 hown rfl)).mono ?_
     rintro e w' ⟨rfl,rfl⟩
     have ha2:=li hown (.cells #[.string sq] 9)
     go_wp2_with (first | (at_builtin; refine lD rfl _ _ 51 rfl 1 9 Tryz.underlying51 AO rfl (by decide) rfl ha2 rfl (some ⟨wr.heap.size,0,none⟩) 1 1 [.string sq] rfl rfl (ot wr [.string sq] _) (fun h=>by cases h) (Ni sq) hml (by omega) ?_))
     intro v' w6 h6' hx6
     have hx7:=(hxr.alloc (.cells #[.string sq] 9)).trans hx6
     have h7:=le h6'
     clear ha2 hown hxr hx6 h6'
     go_wp2_with fail
     go_roundw
     case rel=>exact ⟨q + 1,by omega,by go_num,hx7,by rw [HT2.out,Fq]; exact h7⟩
     case measure=>simp [intOf]; omega
    ·have hqe : q = ls C:=by omega
     subst hqe
     have htk : (ov d C).take (ls C) = ov d C:=List.take_of_length_le (by rw [HRL.out]; exact Nat.le_refl _)
     rw [htk] at hown
     obtain ⟨ao,g,cap,rfl,r1,r2,r3,-,-,-,-⟩:=lk 0 hown rfl
     obtain rfl:=r3 (by omega)
     have hr : (ov d C).length <= 1000:=by rw [HRL.out]; omega
     have HSR:=zh (fun w' (L : List SL.HP) (H : own w' (L++(row 9 1 (.slice (some ⟨g,0,none⟩) (ls C) cap) (ls C) (strCells (ov d C))::lm bd d::pts gh (.cells #[.int .i64 (C : Int),.int .i64 p,.int .i64 b] 103 (0,0))::R)))=>(by
      have h:=NN (L.length + 0) (l:=ov d C) (rest:=[]) H (Ec (l:=L) rfl) (by simp [strCells]) (fun s hs=>by have:=HSZ.out s hs; omega)
      rw [HRL.out] at h
      exact h : B6 w' (.slice (some ⟨g,0,none⟩) (ls C) cap) (ov d C)))
     have HS2:=HS.out
     generalize hT : zU (C : Int) p b (ov d C) = TF at *
     obtain ⟨T,F⟩:=TF
     have HTB:=zh (fun w' (H : own w' (row 9 1 (.slice (some ⟨g,0,none⟩) (ls C) cap) (ls C) (strCells (ov d C))::lm bd d::pts gh (.cells #[.int .i64 (C : Int),.int .i64 p,.int .i64 b] 103 (0,0))::R))=>MB (C : Int) p b (.slice (some ⟨g,0,none⟩) (ls C) cap) (ov d C) T F hT hr _ w' HSR.out H)
     have HS3:=zh HS2
     unfold lM at HTB
     dsimp only at hTN
     clear hT HS2 HS HTK HSN htk r3 hr HSR hq hlt
     by_cases hF : F = 0
     ·subst hF
      rw [oa] at HTB
      have hmm:=run_makeMap (P:=Tryz.prog) 216
      go_wp2_with fail
      refine (HTB.out wr hown).mono ?_
      rintro e w6 ⟨vt,rfl,hx6',h6⟩
      obtain ⟨at_,gt,capt,rfl,-,-,-,-,-,-,-⟩:=lk 0 h6 rfl
      have hx7:=hxr.trans hx6'
      clear cg fg hown hxr hx6'
      obtain ⟨cg,fg⟩:=ld 3 h6 rfl
      have h7:=Ip h6
      have h8:=li h7 (.cells #[.pointer (some ⟨bd,0,none⟩),.int .i64 (C : Int),.int .i64 p,.int .i64 b,.slice at_ T.length capt,.map (some w6.heap.size)] 218)
      rw [show (w6.alloc (.map #[] 0)).heap.size = w6.heap.size + 1 by simp] at h8
      go_wp2_with fail
      go_ret2
      rw [HS3.out]
      have h9:=ye (m:=⟨d,(C : Int),p,b,T,[]⟩) (lr [_,_] (lu 1 h8 rfl |> fun h=>lu 1 h rfl |> fun h=>lr [_] (lu 0 h rfl)))
      exact .inr ⟨rfl,_,_,rfl,(hx7.alloc _).alloc _,lh 2 (lh 1 h9 rfl) rfl⟩
     ·have hpF : 0 < F:=by omega
      have HPE:=zh (lx hpF)
      rw [lx hpF] at HTB
      have HF:=zh hF
      clear hF
      go_wp2_with fail
      refine (HTB.out wr hown).mono ?_
      rintro e w6 ⟨vt,rfl,hx6',h6⟩
      go_wp2_with fail
      go_ret2
      rw [HS3.out]
      exact .inl ⟨HF.out,by dsimp only [K3]; rw [HPE.out]; rfl,hxr.trans hx6',lh 1 (lh 1 (lh 1 (lu 2 h6 rfl) rfl) rfl) rfl⟩
 ·have hpos : 0 < f:=by omega
  have hE2:=HE.out
  unfold C6 at hE2
  rw [zt (by simpa using hf)] at hE2
  have HS:=zh hE2
  have HPE:=zh (lx hpos)
  rw [lx hpos]
  have HF:=zh hf
  clear hE2 HE hf HGD
  go_wp2_with fail
  go_ret2
  rw [HS.out]
  exact .inl ⟨HF.out,by dsimp only; rw [HPE.out]; rfl,hx3,lh 1 (lu 1 h3 rfl) rfl⟩
end Go.Proofs.YtbpblokfiajpjabGreatDoor
namespace Go.Proofs.YtbpblokfiajpjabGreatDoor
open Go.RowKit Go.SL Go.Crc
theorem DevM.write_cases (d : DevM) (a : Int) (s : ByteArray) :
  ((d.write a s).1 = 0 /\ (d.write a s).2.pend = d.pend++[(a,s)] /\ (d.write a s).2.fl = d.fl) \/ ((d.write a s).1≠0 /\ (d.write a s).2.pend = d.pend /\ (d.write a s).2.fl = d.fl):=by
 unfold DevM.write
 split
 ·exact .inr ⟨by simp,rfl,rfl⟩
 ·split
  ·exact .inr ⟨by simp,rfl,rfl⟩
  ·exact .inl ⟨rfl,rfl,rfl⟩
theorem DevM.puts_cases : ∀(l : List ByteArray) (d : DevM) (a : Int),(d.puts a l).2.fl = d.fl /\ ∃q,(d.puts a l).2.pend = d.pend++q /\ (∀x∈q,a <= x.1 /\ x.1 < a + l.length) /\
  (∃j,j <= l.length /\ q = (List.range j).map (fun (i : Nat)=>(a + (i : Int),l.getD i ByteArray.empty)) /\ ((d.puts a l).1 = 0 -> j = l.length)):=by
 intro l
 induction l with
 | nil=>intro d a; exact ⟨rfl,[],by simp [DevM.puts],by simp,0,by simp,rfl,fun _=>rfl⟩
 | cons s l ih=>
  intro d a
  rw [DevM.puts]
  rcases DevM.write_cases d a s with ⟨h1,h2,h3⟩ | ⟨h1,h2,h3⟩
  ·rw [zq (by simpa using h1)]
   obtain ⟨i1,q,i2,i3,j,j1,j2,j3⟩:=ih (d.write a s).2 (a + 1)
   refine ⟨i1.trans h3,(a,s)::q,by rw [i2,h2]; simp,fun x hx=>?_,j + 1,by simpa using j1,?_,fun h=>by simpa using j3 h⟩
   ·simp only [List.length_cons]
    rcases List.mem_cons.1 hx with rfl | hx
    ·dsimp only; omega
    ·have:=i3 x hx; omega
   ·rw [List.range_succ_eq_map,List.map_cons,List.map_map,j2]
    simp only [List.getD_cons_zero,Function.comp_def,List.getD_cons_succ]
    congr 1
    ·simp
    ·exact List.map_congr_left fun i _=>by simp; omega
  ·rw [zt h1]
   exact ⟨h3,[],by rw [h2]; simp,by simp,0,by simp,rfl,fun h=>absurd h h1⟩
theorem JU {p : List (Int×ByteArray)} : ∀{f : List ByteArray} {i : Nat},(∀x∈p,0 <= x.1) -> i < f.length ->
  (p.foldl Af f).getD i ByteArray.empty = p.foldl (fun s x=>if x.1 = (i : Int) then x.2 else s) (f.getD i ByteArray.empty):=by
 induction p with
 | nil=>intro f i _ _; rfl
 | cons x p ih=>
  intro f i hx hi
  rw [List.foldl_cons,List.foldl_cons,ih (fun y hy=>hx y (by simp [hy])) (by simpa [Af] using hi)]
  congr 1
  have h0:=hx x (by simp)
  unfold Af
  by_cases h : x.1 = (i : Int)
  ·rw [zt h,show x.1.toNat = i by omega,List.getD_eq_getElem?_getD,List.getElem?_set_self hi]
   rfl
  ·rw [zq h,List.getD_eq_getElem?_getD,List.getElem?_set_ne (by omega),List.getD_eq_getElem?_getD]
theorem C1 {d : DevM} {a : Int} (h : ∀x∈d.pend,x.1≠a) : d.seen a = d.fl.getD a.toNat ByteArray.empty:=by
 unfold DevM.seen
 generalize d.fl.getD a.toNat ByteArray.empty = s
 generalize d.pend = p at h
 induction p with
 | nil=>rfl
 | cons x p ih=>rw [List.foldl_cons,zq (h x (by simp))]; exact ih fun y hy=>h y (by simp [hy])
theorem JW {d d' : DevM} {q : List (Int×ByteArray)} (hf : d'.fl = d.fl) (hp : d'.pend = d.pend++q) (a : Int) : d'.seen a = q.foldl (fun s x=>if x.1 = a then x.2 else s) (d.seen a):=by
 unfold DevM.seen
 rw [hf,hp,List.foldl_append]
theorem SO {d d' : DevM} {q : List (Int×ByteArray)} (hf : d'.fl = d.fl) (hp : d'.pend = d.pend++q) {a : Int} (h : ∀x∈q,x.1≠a) : d'.seen a = d.seen a:=by
 rw [JW hf hp]
 generalize d.seen a = s
 clear hp
 induction q with
 | nil=>rfl
 | cons x q ih=>rw [List.foldl_cons,zq (h x (by simp))]; exact ih fun y hy=>h y (by simp [hy])
theorem DD {d : DevM} (hd : d.Ok) {i : Nat} (hi : i < d.fl.length) : d.flush.fl.getD i ByteArray.empty = d.seen (i : Int):=by
 unfold DevM.flush
 dsimp only
 rw [JU (fun x hx=>(hd.pend x hx).1) hi]
 rfl
theorem PZ {d : DevM} (hd : d.Ok) {i : Nat} (hi : i < d.fl.length) : d.flush.seen (i : Int) = d.seen (i : Int):=by
 rw [C1 (d:=d.flush) (fun x hx=>by cases hx),zn,DD hd hi]
def Sub (P : Int) (u t : List Ent) : Prop:=t.length = u.length /\ ∀k,k < u.length -> lW (ent t k) P = true /\ ((ent t k).1 = 2 -> ent t k = ent u k)
theorem Sub.self {P : Int} {t : List Ent} (h : ∀e∈t,lW e P = true) : Sub P t t:=⟨rfl,fun k hk=>⟨h _ (Bx hk),fun _=>rfl⟩⟩
theorem Sub.mono {P : Int} {u u' t : List Ent} (h : Sub P u t) (hl : u'.length = u.length) (hu : ∀k,k < u.length -> (ent t k).1 = 2 -> ent u' k = ent u k) : Sub P u' t:=
 ⟨h.1.trans hl.symm,fun k hk=>⟨(h.2 k (by omega)).1,fun h2=>((h.2 k (by omega)).2 h2).trans (hu k (by omega) h2).symm⟩⟩
structure Safe (m : ImgM) (u : List Ent) : Prop where
 ulen : u.length = m.t.length
 uok : ∀e∈u,lW e m.p = true
 uuniq : Uniq u
 hd : m.d.fl.getD 0 ByteArray.empty = lN m.c m.p m.b
 nohd : ∀x∈m.d.pend,x.1≠0
 rows : ∀r : Nat,r < ls m.t.length -> ∀s,(s = m.d.fl.getD (1 + r) ByteArray.empty \/ (1 + (r : Int),s)∈m.d.pend) -> ∃t',Sub m.p u t' /\ s = ym t' r
 cur : Sub m.p u m.t
 see : ∀r : Nat,r < ls m.t.length -> m.d.seen (1 + (r : Int)) = ym m.t r
theorem Jp {C k : Nat} (h : k < C) : k / 8 < ls C:=by unfold ls; omega
theorem Safe.data {m : ImgM} {u : List Ent} (h : Safe m u) {d' : DevM} {q : List (Int×ByteArray)} (hf : d'.fl = m.d.fl) (hp : d'.pend = m.d.pend++q) (hq : ∀x∈q,1 + (ls m.t.length : Int) <= x.1) : Safe { m with d:=d' } u:=
 ⟨h.ulen,h.uok,h.uuniq,by dsimp only; rw [hf]; exact h.hd,fun x hx=>by
   dsimp only at hx
   rw [hp] at hx
   rcases List.mem_append.1 hx with h' | h'
   ·exact h.nohd x h'
   ·have:=hq x h'; omega,
  fun r hr s hs=>by
   dsimp only at hs hr
   rw [hf,hp] at hs
   refine h.rows r hr s (hs.imp id fun h'=>?_)
   rcases List.mem_append.1 h' with h'' | h''
   ·exact h''
   ·have:=hq _ h''; dsimp only at this; omega,
  h.cur,fun r hr=>by
   dsimp only at hr ⊢
   rw [SO hf hp fun x hx=>by have:=hq x hx; omega]
   exact h.see r hr⟩
theorem Safe.uni {m : ImgM} {u u' : List Ent} (h : Safe m u) (hl : u'.length = u.length) (ho : ∀e∈u',lW e m.p = true) (hu' : Uniq u') (hu : ∀k,k < u.length -> (ent u k).1 = 2 -> ent u' k = ent u k) : Safe m u':=
 have key : ∀t,Sub m.p u t -> Sub m.p u' t:=fun t ht=>ht.mono hl fun k hk h2=>hu k hk ((ht.2 k hk).2 h2 ▸ h2)
 ⟨hl.trans h.ulen,ho,hu',h.hd,h.nohd,fun r hr s hs=>let ⟨t',a,b⟩:=h.rows r hr s hs; ⟨t',key _ a,b⟩,key _ h.cur,h.see⟩
theorem Safe.flush {m : ImgM} {u : List Ent} (hm : m.Ok) (h : Safe m u) : Safe m.flush m.t:=by
 have hneed:=hm.need
 have ht:=hm.t
 obtain ⟨C,hC,q1,q2,q3,q4,q5,q6,-⟩:=hm.nat
 have hcn : m.c.toNat = m.t.length:=by omega
 rw [hcn] at hneed
 refine ⟨rfl,hm.ents,hm.one,?_,(fun x hx=>by cases hx),fun r hr s hs=>?_,Sub.self hm.ents,fun r hr=>?_⟩
 ·have:=DD hm.d (i:=0) (by omega)
  show m.d.flush.fl.getD 0 ByteArray.empty = lN m.c m.p m.b
  rw [this]
  exact (C1 h.nohd).trans h.hd
 ·have hr' : r < ls m.t.length:=hr
  refine ⟨m.t,Sub.self hm.ents,?_⟩
  rcases hs with hs | hs
  ·rw [hs]
   show m.d.flush.fl.getD (1 + r) ByteArray.empty = _
   rw [DD hm.d (i:=1 + r) (by omega),show ((1 + r : Nat) : Int) = 1 + (r : Int) by omega]
   exact h.see r hr'
  ·cases hs
 ·have hr' : r < ls m.t.length:=hr
  show m.d.flush.seen (1 + (r : Int)) = _
  have:=PZ hm.d (i:=1 + r) (by omega)
  rw [show ((1 + r : Nat) : Int) = 1 + (r : Int) by omega] at this
  rw [this]
  exact h.see r hr'
theorem Dx {t : List Ent} {k j : Nat} {e : Ent} (hk : k < t.length) : ent (t.set k e) j = if j = k then e else ent t j:=by
 unfold ent
 by_cases h : j = k
 ·subst h; rw [zt rfl,List.getD_eq_getElem?_getD,List.getElem?_set_self hk]; rfl
 ·rw [zq h,List.getD_eq_getElem?_getD,List.getElem?_set_ne (by omega),List.getD_eq_getElem?_getD]
theorem OQ {t : List Ent} {k : Nat} {e : Ent} (hk : k < t.length) {r : Nat} (hr : r≠k / 8) : oX (t.set k e) r = oX t r:=by
 unfold oX
 refine List.map_congr_left fun j hj=>?_
 have:=List.mem_range.1 hj
 have h:=Dx (t:=t) (e:=e) (j:=8 * r + j) hk
 rw [zq (by omega)] at h
 exact h
theorem Lj {m : ImgM} (hm : m.Ok) {k : Nat} (hk : k < m.t.length) {e : Ent} (he : lW e m.p = true) :
  m.setE k e = if (m.d.write (1 + ((k / 8 : Nat) : Int)) (ym (m.t.set k e) (k / 8))).1≠0 then ((m.d.write (1 + ((k / 8 : Nat) : Int)) (ym (m.t.set k e) (k / 8))).1,{ m with d:=(m.d.write (1 + ((k / 8 : Nat) : Int)) (ym (m.t.set k e) (k / 8))).2 })
  else (0,{ m with d:=(m.d.write (1 + ((k / 8 : Nat) : Int)) (ym (m.t.set k e) (k / 8))).2,t:=m.t.set k e,held:=if (ent m.t k).1 = 2 then m.held++[(ent m.t k).2] else m.held }):=by
 obtain ⟨C,hC,q1,q2,q3,q4,q5,q6,-⟩:=hm.nat
 have hr : lU (m.t.set k e) ((k / 8 : Nat) : Int) = (ym (m.t.set k e) (k / 8),0):=JM q6 (by simp; omega) (fun x hx=>by
  rcases List.mem_or_eq_of_mem_set hx with h | h
  ·exact hm.ents x h
  ·rw [h]; exact he) (by rw [List.length_set]; exact Jp hk)
 unfold ImgM.setE
 rw [hr]
theorem Safe.setE {m : ImgM} {u : List Ent} (hm : m.Ok) (h : Safe m u) {k : Nat} (hk : k < m.t.length) {e : Ent} (he : lW e m.p = true) (hu : e.1 = 2 -> e = ent u k) : Safe (m.setE k e).2 u:=by
 rw [Lj hm hk he]
 have hr8:=Jp hk
 have hset : Sub m.p u (m.t.set k e):=⟨by rw [List.length_set]; exact h.ulen.symm,fun j hj=>by
  rw [Dx hk]
  by_cases hjk : j = k
  ·subst hjk; rw [zt rfl]; exact ⟨he,hu⟩
  ·rw [zq hjk]; exact h.cur.2 j hj⟩
 rcases DevM.write_cases m.d (1 + ((k / 8 : Nat) : Int)) (ym (m.t.set k e) (k / 8)) with ⟨h1,h2,h3⟩ | ⟨h1,h2,h3⟩
 ·rw [zq (by simpa using h1)]
  generalize (m.d.write (1 + ((k / 8 : Nat) : Int)) (ym (m.t.set k e) (k / 8))).2 = d' at *
  have hl : (m.t.set k e).length = m.t.length:=List.length_set
  refine ⟨by rw [hl]; exact h.ulen,h.uok,h.uuniq,by dsimp only; rw [h3]; exact h.hd,fun x hx=>?_,fun r hr s hs=>?_,hset,fun r hr=>?_⟩
  ·dsimp only at hx
   rw [h2] at hx
   rcases List.mem_append.1 hx with h' | h'
   ·exact h.nohd x h'
   ·rw [List.mem_singleton.1 h']; dsimp only; omega
  ·dsimp only at hr hs ⊢
   rw [hl] at hr
   rw [h2,h3] at hs
   rcases hs with hs | hs
   ·exact h.rows r hr s (.inl hs)
   ·rcases List.mem_append.1 hs with h' | h'
    ·exact h.rows r hr s (.inr h')
    ·have e2:=List.mem_singleton.1 h'
     simp only [Prod.mk.injEq] at e2
     obtain rfl : r = k / 8:=by omega
     exact ⟨_,hset,e2.2⟩
  ·dsimp only at hr ⊢
   rw [hl] at hr
   rw [JW h3 h2]
   simp only [List.foldl_cons,List.foldl_nil]
   by_cases hrk : r = k / 8
   ·subst hrk; rw [zt rfl]
   ·rw [zq (by omega),h.see r hr]
    unfold ym
    rw [OQ hk hrk]
 ·rw [zt h1]
  exact h.data (q:=[]) h3 (by rw [h2]; simp) (fun x hx=>by cases hx)
theorem Og {t : List Ent} (h : Uniq t) {k : Nat} (hk : k < t.length) {e : Ent} (he : e.1 = 2 -> e∉t) : Uniq (t.set k e):=by
 intro i j hi hj h2 hij
 rw [List.length_set] at hi hj
 rw [Dx hk] at h2 hij
 rw [Dx hk] at hij
 by_cases hi' : i = k
 ·by_cases hj' : j = k
  ·rw [hi',hj']
  ·rw [zt hi'] at h2 hij
   rw [zq hj'] at hij
   exact absurd (hij ▸ Bx hj) (he h2)
 ·rw [zq hi'] at h2 hij
  by_cases hj' : j = k
  ·rw [zt hj'] at hij
   exact absurd (hij ▸ Bx hi) (he (hij ▸ h2))
  ·rw [zq hj'] at hij
   exact h i j hi hj h2 hij
theorem Tp {m : ImgM} (hm : m.Ok) {d : DevM} (hd : d.Ok) (hl : d.fl.length = m.d.fl.length) : ({ m with d:=d } : ImgM).Ok:=
 ⟨hd,hm.head,hm.t,hm.ents,hm.one,hm.nodup,hm.range,hm.apart,by have:=hm.need; dsimp only; omega⟩
theorem ImgM.Ok.setE {m : ImgM} (hm : m.Ok) (hw : m.d.writes < 1000000) (hp : m.d.pend.length < 1000000) {k : Nat} (hk : k < m.t.length) {e : Ent} (he : lW e m.p = true) (h2 : e.1 = 2 -> e∉m.t /\ e.2∉m.held) : (m.setE k e).2.Ok:=by
 rw [Lj hm hk he]
 have hok:=DevM.write_ok hm.d (1 + ((k / 8 : Nat) : Int)) (ym (m.t.set k e) (k / 8)) hp hw
 obtain ⟨l1,-,-⟩:=yE m.d (1 + ((k / 8 : Nat) : Int)) (ym (m.t.set k e) (k / 8))
 split
 ·exact Tp hm hok l1
 ·generalize (m.d.write (1 + ((k / 8 : Nat) : Int)) (ym (m.t.set k e) (k / 8))).2 = d' at *
  have hmem : ∀x,((2,x) : Ent)∈m.t.set k e -> ((2,x) : Ent) = e \/ ∃j,j < m.t.length /\ j≠k /\ ent m.t j = (2,x):=fun x hx=>by
   obtain ⟨j,hj,hje⟩:=List.getElem_of_mem hx
   have hj':=hj
   rw [List.length_set] at hj'
   rw [<- PP hj,Dx hk] at hje
   by_cases hjk : j = k
   ·rw [zt hjk] at hje; exact .inl hje.symm
   ·rw [zq hjk] at hje; exact .inr ⟨j,hj',hjk,hje⟩
  have hap : ∀x∈m.held,((2,x) : Ent)∉m.t.set k e:=fun x hx hc=>by
   rcases hmem x hc with h | ⟨j,hj,_,hje⟩
   ·exact (h2 (by rw [<- h])).2 (by rw [<- h]; exact hx)
   ·exact hm.apart x hx (hje ▸ Bx hj)
  refine ⟨hok,hm.head,by dsimp only; rw [List.length_set]; exact hm.t,fun x hx=>?_,Og hm.one hk fun h=>(h2 h).1,?_,?_,?_,by have:=hm.need; dsimp only; omega⟩
  ·rcases List.mem_or_eq_of_mem_set hx with h | h
   ·exact hm.ents x h
   ·rw [h]; exact he
  ·dsimp only
   split
   ·rename_i hk2
    refine List.nodup_append.2 ⟨hm.nodup,by simp,fun a ha b hb=>?_⟩
    rw [List.mem_singleton.1 hb]
    intro hab
    refine hm.apart a ha ?_
    rw [hab]
    have:=Bx hk
    rwa [show ent m.t k = (2,(ent m.t k).2) from Prod.ext hk2 rfl] at this
   ·exact hm.nodup
  ·dsimp only
   split
   ·rename_i hk2
    intro x hx
    rcases List.mem_append.1 hx with h | h
    ·exact hm.range x h
    ·rw [List.mem_singleton.1 h]; exact BN hm hk hk2
   ·exact hm.range
  ·dsimp only
   split
   ·rename_i hk2
    intro x hx
    rcases List.mem_append.1 hx with h | h
    ·exact hap x h
    ·rw [List.mem_singleton.1 h]
     intro hc
     rcases hmem _ hc with h' | ⟨j,hj,hjk,hje⟩
     ·exact (h2 (by rw [<- h'])).1 (by rw [<- h']; have:=Bx hk; rwa [show ent m.t k = (2,(ent m.t k).2) from Prod.ext hk2 rfl] at this)
     ·refine hjk (hm.one j k hj hk (by rw [hje]) ?_)
      rw [hje]
      exact (Prod.ext hk2 rfl : ent m.t k = (2,(ent m.t k).2)).symm
   ·exact hap
structure Step (n : Nat) (m m' : ImgM) : Prop where
 ok : m'.Ok
 safe : ∀u,Safe m u -> ∃u',Safe m' u'
 c : m'.c = m.c
 p : m'.p = m.p
 len : m'.d.fl.length = m.d.fl.length
 pend : m'.d.pend.length <= m.d.pend.length + n
 wr : m'.d.writes <= m.d.writes + n
theorem Step.refl {m : ImgM} (hm : m.Ok) (n : Nat) : Step n m m:=⟨hm,fun u h=>⟨u,h⟩,rfl,rfl,rfl,by omega,by omega⟩
theorem Step.trans {a b : Nat} {m m' m'' : ImgM} (h : Step a m m') (k : Step b m' m'') : Step (a + b) m m'':=
 ⟨k.ok,fun u hu=>let ⟨u',hu'⟩:=h.safe u hu; k.safe u' hu',k.c.trans h.c,k.p.trans h.p,k.len.trans h.len,by have:=h.pend; have:=k.pend; omega,by have:=h.wr; have:=k.wr; omega⟩
theorem Step.mono {a b : Nat} {m m' : ImgM} (h : Step a m m') (hab : a <= b) : Step b m m':=
 ⟨h.ok,h.safe,h.c,h.p,h.len,by have:=h.pend; omega,by have:=h.wr; omega⟩
theorem L6 {m : ImgM} (hm : m.Ok) : m.held.length <= 40:=by
 have h:=Qm hm
 obtain ⟨C,hC,q1,q2,q3,q4,q5,q6,-⟩:=hm.nat
 omega
theorem PK {m : ImgM} (hm : m.Ok) : m.c.toNat = m.t.length:=by
 have:=hm.t
 omega
theorem Mn {m : ImgM} (hm : m.Ok) (hw : m.d.writes < 1000000) (hp : m.d.pend.length < 1000000) {k : Nat} (hk : k < m.t.length) {e : Ent} (he : lW e m.p = true) (h2 : e.1 = 2 -> e∉m.t /\ e.2∉m.held)
  (hu : ∀u,Safe m u -> ∃u',Safe m u' /\ (e.1 = 2 -> e = ent u' k)) : Step 1 m (m.setE k e).2:=by
 refine ⟨hm.setE hw hp hk he h2,fun u h=>?_,?_,?_,?_,?_,?_⟩
 ·obtain ⟨u',h',hu'⟩:=hu u h
  exact ⟨u',h'.setE hm hk he hu'⟩
 all_goals
  rw [Lj hm hk he]
  obtain ⟨l1,l2,l3⟩:=yE m.d (1 + ((k / 8 : Nat) : Int)) (ym (m.t.set k e) (k / 8))
  split
  ·first | rfl | exact l1 | exact l2 | exact l3
  ·first | rfl | exact l1 | exact l2 | exact l3
theorem Ki {m : ImgM} (hm : m.Ok) (hw : m.d.writes < 1000000) (hp : m.d.pend.length < 1000000) (k : Int) : Step 1 m (m.clear k).2:=by
 unfold ImgM.clear
 split
 ·rename_i ht
  obtain ⟨k0,-,hkl⟩:=o6 hm ht
  split
  ·exact Step.refl hm 1
  ·exact Mn hm hw hp hkl rfl (fun h=>by cases h) fun u h=>⟨u,h,fun h=>by cases h⟩
 ·exact Step.refl hm 1
theorem LW {m : ImgM} (hm : m.Ok) {d' : DevM} {q : List (Int×ByteArray)} {n : Nat} (hd : d'.Ok) (hf : d'.fl = m.d.fl) (hp : d'.pend = m.d.pend++q) (hq : ∀x∈q,1 + (ls m.t.length : Int) <= x.1) (hn : q.length <= n) (hw : d'.writes <= m.d.writes + n) :
  Step n m { m with d:=d' }:=
 ⟨Tp hm hd (by rw [hf]),fun u h=>⟨u,h.data hf hp hq⟩,rfl,rfl,by dsimp only; rw [hf],by dsimp only; rw [hp,List.length_append]; omega,hw⟩
theorem LR {m : ImgM} (hm : m.Ok) (hw : m.d.writes < 999000) (hp : m.d.pend.length < 999000) {a : Int} (ha : 1 + (ls m.t.length : Int) <= a) {l : List ByteArray} {n : Nat} (hl : l.length <= n) (hn : n <= 900) : Step n m { m with d:=(m.d.puts a l).2 }:=by
 obtain ⟨o1,o2,o3,o4⟩:=CZ (l:=l) (a:=a) hm.d (by omega) (by omega)
 obtain ⟨h1,q,h2,h3,j,j1,j2,-⟩:=DevM.puts_cases l m.d a
 exact LW hm o1 h1 h2 (fun x hx=>by have:=(h3 x hx).1; omega) (by rw [j2,List.length_map,List.length_range]; omega) (by omega)
theorem Ng {m : ImgM} (hm : m.Ok) {y : Int} (h0 : 0 <= y) : 1 + (ls m.t.length : Int) <= m.first y:=by
 unfold ImgM.first
 rw [PK hm]
 omega
theorem Pp {m : ImgM} (hm : m.Ok) (hw : m.d.writes < 999000) (hp : m.d.pend.length < 999000) (k fr : Int) (s : ByteArray) : Step 4 m (m.wr k fr s).2:=by
 unfold ImgM.wr
 split
 ·exact Step.refl hm 4
 ·rename_i hb
  split
  ·exact Step.refl hm 4
  ·rename_i hk
   unfold ImgM.wrBad at hb
   have ht : m.there k = true:=by
    cases h : m.there k
    ·exact absurd (.inl h) hb
    ·rfl
   have hb' : 0 <= fr /\ (s.size : Int) <= 16 * (4 - fr):=by
    refine ⟨?_,?_⟩
    ·exact Int.not_lt.1 fun h=>hb (.inr (.inl h))
    ·exact Int.not_lt.1 fun h=>hb (.inr (.inr (.inr (.inr h))))
   obtain ⟨k0,-,hkl⟩:=o6 hm ht
   have hk2 : (ent m.t k.toNat).1 = 2:=Decidable.byContradiction hk
   obtain ⟨r0,r1⟩:=BN hm hkl hk2
   have:=Ng hm r0
   refine LR hm hw hp (by omega) ?_ (by omega)
   unfold lO
   rw [List.length_map,List.length_range]
   omega
theorem Df {m : ImgM} (hm : m.Ok) : Step 0 m m.flush:=
 ⟨GC (d:=m.d) hm hm.d rfl,fun u h=>⟨_,h.flush hm⟩,rfl,rfl,by simp only [ImgM.flush,DevM.flush,lK],by simp [ImgM.flush,DevM.flush],by simp [ImgM.flush,DevM.flush]⟩
theorem UG {m : ImgM} {p : Int} (h : m.openB p = true) : ((2,p) : Ent)∉m.t /\ p∉m.held:=by
 unfold ImgM.openB at h
 simpa using h
theorem Me {m : ImgM} (hm : m.Ok) (hw : m.d.writes < 999000) (hp : m.d.pend.length < 999000) (k : Int) (s : ByteArray) : Step 5 m (m.fill k s).2:=by
 unfold ImgM.fill
 split
 ·exact Step.refl hm 5
 ·rename_i h1
  split
  ·exact Step.refl hm 5
  ·rename_i h2
   split
   ·exact Step.refl hm 5
   ·rename_i h3
    have ht : m.there k = true:=by
     cases h : m.there k
     ·exact absurd (.inl h) h1
     ·rfl
    obtain ⟨k0,-,hkl⟩:=o6 hm ht
    obtain ⟨C,hC,q1,q2,q3,q4,q5,q6,-⟩:=hm.nat
    obtain ⟨P,hP⟩:=ze q5
    rcases Jw m hP with h | ⟨q,hq,hqP,ho,-⟩
    ·exact absurd (by rw [h]; decide) h3
    ·rw [hq]
     obtain ⟨n1,n2⟩:=UG ho
     unfold ImgM.fillAt
     have hf:=Ng hm (y:=(q : Int)) (by omega)
     have s1:=LR (n:=4) hm hw hp hf (l:=lO s 4) (by simp [lO]) (by omega)
     split
     ·exact s1.mono (by omega)
     ·have s2:=Df s1.ok
      have h12:=s1.trans s2
      have w12:=h12.wr
      have p12:=h12.pend
      have he : lW (2,(q : Int)) m.p = true:=by unfold lW; rw [zt rfl]; simp; omega
      refine h12.trans (b:=1) (Mn (k:=k.toNat) (e:=(2,(q : Int))) h12.ok (by omega) (by omega) hkl he (fun _=>⟨n1,fun h=>by cases h⟩) fun u h=>?_)
      refine ⟨m.t.set k.toNat (2,(q : Int)),?_,fun _=>by rw [Dx hkl,zt rfl]⟩
      have hsf : Safe ({ m with d:=(m.d.puts (m.first (q : Int)) (lO s 4)).2 } : ImgM).flush m.t:=by
       refine ⟨rfl,hm.ents,hm.one,h.hd,h.nohd,fun r hr s hs=>?_,Sub.self hm.ents,h.see⟩
       rcases hs with hs | hs
       ·refine ⟨m.t,Sub.self hm.ents,hs.trans ?_⟩
        have e:=h.see r hr
        rw [C1 (fun x hx=>by cases hx),show (1 + (r : Int)).toNat = 1 + r by omega] at e
        exact e
       ·cases hs
      refine hsf.uni (by rw [List.length_set]) (fun x hx=>?_) (Og hm.one hkl fun _=>n1) fun j hj hj2=>?_
      ·rcases List.mem_or_eq_of_mem_set hx with h | h
       ·exact hm.ents x h
       ·rw [h]; exact he
      ·rw [Dx hkl]
       split
       ·rename_i hjk
        subst hjk
        exact absurd hj2 h2
       ·rfl
theorem KA {d : DevM} (hd : d.Ok) (hp : d.pend = []) (hl : 0 < d.fl.length) {s : ByteArray} (hw : d.writes < 1000000) (h : (d.write 0 s).1 = 0) :
  (d.write 0 s).2.flush.Ok /\ (d.write 0 s).2.flush.pend = [] /\ (d.write 0 s).2.flush.fl.length = d.fl.length /\ (d.write 0 s).2.flush.fl.getD 0 ByteArray.empty = s /\
  (∀i : Nat,0 < i -> i < d.fl.length -> (d.write 0 s).2.flush.fl.getD i ByteArray.empty = d.fl.getD i ByteArray.empty) /\ (d.write 0 s).2.flush.writes <= d.writes + 1:=by
 have ok:=DevM.write_ok hd 0 s (by rw [hp]; decide) hw
 obtain ⟨-,-,l3⟩:=yE d 0 s
 rcases DevM.write_cases d 0 s with ⟨h1,h2,h3⟩ | ⟨h1,h2,h3⟩
 ·generalize (d.write 0 s).2 = d' at *
  rw [hp] at h2
  refine ⟨DevM.flush_ok ok,rfl,by simp only [DevM.flush,lK,h3],?_,fun i h0 hi=>?_,l3⟩
  ·rw [DD ok (by rw [h3]; exact hl)]
   unfold DevM.seen
   rw [h2]
   simp
  ·rw [DD ok (by rw [h3]; exact hi)]
   unfold DevM.seen
   rw [h2,h3]
   simp only [List.nil_append,List.foldl_cons,List.foldl_nil]
   rw [zq (by omega)]
   simp
 ·exact absurd h h1
theorem SC {m : ImgM} (hm : m.Ok) (hw : m.d.writes < 999000) (k : Int) : Step 1 m (m.link k).2:=by
 unfold ImgM.link
 split
 ·exact Step.refl hm 1
 ·rename_i hb
  have s0:=Df hm
  have hw0 : m.d.flush.writes = m.d.writes:=rfl
  have hneed:=s0.ok.need
  obtain ⟨l1,l2,l3⟩:=yE m.d.flush 0 (lN m.c m.p k)
  have okw:=DevM.write_ok (DevM.flush_ok hm.d) 0 (lN m.c m.p k) (by simp [DevM.flush]) (by omega)
  have q5 : 0 <= m.p:=by
   obtain ⟨C,hC,q1,q2,q3,q4,q5,q6,-⟩:=hm.nat
   exact q5
  split
  ·rename_i h1
   rcases DevM.write_cases m.d.flush 0 (lN m.c m.p k) with ⟨e1,-,-⟩ | ⟨-,e2,e3⟩
   ·exact absurd e1 h1
   ·exact (s0.trans (b:=1) (LW (m:=m.flush) (q:=[]) s0.ok okw e3 (by rw [List.append_nil]; exact e2) (fun x hx=>by cases hx) (by simp) (by dsimp only [ImgM.flush]; omega))).mono (by omega)
  ·rename_i h1
   have hl0 : 0 < m.d.flush.fl.length:=by
    have : 1 + (ls m.c.toNat : Int) + 4 * m.p <= m.d.flush.fl.length:=hneed
    omega
   obtain ⟨f1,f2,f3,f4,f5,f6⟩:=KA (s:=lN m.c m.p k) (DevM.flush_ok hm.d) rfl hl0 (by omega) (Decidable.byContradiction h1)
   generalize (m.d.flush.write 0 (lN m.c m.p k)).2.flush = d' at *
   have hsl : ∀u,Safe m u -> Safe ({ m.flush with d:=d',b:=k } : ImgM) m.t:=fun u h=>by
    have hf:=h.flush hm
    have hrow : ∀r : Nat,r < ls m.t.length -> d'.fl.getD (1 + r) ByteArray.empty = ym m.t r:=fun r hr=>by
     have hr' : 1 + r < m.d.flush.fl.length:=by
      have h' : 1 + (ls m.c.toNat : Int) + 4 * m.p <= m.d.flush.fl.length:=hneed
      rw [PK hm] at h'
      omega
     rw [f5 (1 + r) (by omega) hr']
     have e : m.d.flush.seen (1 + (r : Int)) = ym m.t r:=hf.see r hr
     rw [C1 (d:=m.d.flush) (fun x hx=>by cases hx),show (1 + (r : Int)).toNat = 1 + r by omega] at e
     exact e
    refine ⟨rfl,hm.ents,hm.one,f4,fun x hx=>?_,fun r hr s hs=>?_,Sub.self hm.ents,fun r hr=>?_⟩
    ·dsimp only at hx
     rw [f2] at hx
     cases hx
    ·dsimp only at hs
     rw [f2] at hs
     rcases hs with hs | hs
     ·exact ⟨m.t,Sub.self hm.ents,hs.trans (hrow r hr)⟩
     ·cases hs
    ·dsimp only
     rw [C1 (d:=d') (fun x hx=>by rw [f2] at hx; cases hx),show (1 + (r : Int)).toNat = 1 + r by omega]
     exact hrow r hr
   exact ⟨⟨f1,hb,hm.t,hm.ents,hm.one,List.nodup_nil,(fun x hx=>by cases hx),(fun x hx=>by cases hx),by have h' : 1 + (ls m.c.toNat : Int) + 4 * m.p <= m.d.flush.fl.length:=hneed; dsimp only [ImgM.flush]; omega⟩,
    fun u h=>⟨_,hsl u h⟩,rfl,rfl,by dsimp only; rw [f3]; exact s0.len,by dsimp only; rw [f2]; simp,by dsimp only; omega⟩
theorem Sf {f : Nat -> ByteArray} {a : Int} : ∀{j r : Nat} {s : ByteArray},r < j ->
  ((List.range j).map fun (i : Nat)=>(a + (i : Int),f i)).foldl (fun s x=>if x.1 = a + (r : Int) then x.2 else s) s = f r:=by
 intro j
 induction j with
 | zero=>intro r s h; omega
 | succ j ih=>
  intro r s h
  rw [List.range_succ,List.map_append,List.foldl_append]
  simp only [List.map_cons,List.map_nil,List.foldl_cons,List.foldl_nil]
  by_cases hr : r = j
  ·subst hr; rw [zt rfl]
  ·rw [zq (by omega)]; exact ih (by omega)
theorem TI {l : List ByteArray} {d : DevM} {a : Int} (h : (d.puts a l).1 = 0) {r : Nat} (hr : r < l.length) : (d.puts a l).2.seen (a + (r : Int)) = l.getD r ByteArray.empty:=by
 obtain ⟨h1,q,h2,-,j,-,j2,j3⟩:=DevM.puts_cases l d a
 obtain rfl:=j3 h
 rw [JW h1 h2,j2]
 exact Sf (f:=fun i=>l.getD i ByteArray.empty) hr
theorem CU (c p : Int) : ∀e∈lC c,lW e p = true:=fun e he=>by
 unfold lC at he
 rw [(List.mem_replicate.1 he).2]
 rfl
theorem LI (c : Int) : Uniq (lC c):=fun i j hi hj h2 _=>by
 have h0 : ent (lC c) i = (0,0):=(List.mem_replicate.1 (show ent (lC c) i∈List.replicate c.toNat (0,0) from Bx hi)).2
 rw [h0] at h2
 cases h2
theorem GO {d : DevM} (hd : d.Ok) (hp : d.pend.length < 999000) (hw : d.writes < 999000) {c p b : Int} :
  (oD d c p b).2.d.Ok /\ (oD d c p b).2.d.fl.length = d.fl.length /\ (oD d c p b).2.d.pend.length <= d.pend.length + 4 /\ (oD d c p b).2.d.writes <= d.writes + 5 /\
  ((oD d c p b).1 = 0 -> (oD d c p b).2.Ok /\ Safe (oD d c p b).2 (lC c) /\ (oD d c p b).2.d.pend = [] /\ ¬lF c p b):=by
 unfold oD
 split
 ·exact ⟨hd,rfl,by dsimp only [ow]; omega,by dsimp only [ow]; omega,fun h=>by cases h⟩
 ·rename_i hf
  have hb : ¬lF c p b:=fun h=>hf (.inl h)
  have hn : yz c p <= d.fl.length:=Int.not_lt.1 fun h=>hf (.inr h)
  have hbb:=hb
  unfold lF at hbb
  have hzl : (lC c).length = c.toNat:=by simp [lC]
  have hrn : ls c.toNat <= 4:=by unfold ls; omega
  have hrl : (oh (lC c)).length = ls c.toNat:=by simp [oh,hzl]
  have hn2 : 1 + (ls c.toNat : Int) + 4 * p <= d.fl.length:=hn
  obtain ⟨o1,o2,o3,o4⟩:=CZ (l:=oh (lC c)) (a:=1) hd (by omega) (by omega)
  split
  ·exact ⟨o1,o2,by dsimp only [ow]; omega,by dsimp only [ow]; omega,fun h=>absurd h (by assumption)⟩
  ·rename_i h1
   have h1':=Decidable.byContradiction h1
   have hsr : ∀r : Nat,r < ls c.toNat -> (d.puts 1 (oh (lC c))).2.seen (1 + (r : Int)) = ym (lC c) r:=fun r hr=>by
    rw [TI h1' (by omega)]
    have:=JM (P:=40) (by omega) (t:=lC c) (by omega) (CU c 40) (r:=r) (by rw [hzl]; exact hr)
    simp [oh,hzl,hr,this]
   generalize (d.puts 1 (oh (lC c))).2 = d1 at *
   have okf:=DevM.flush_ok o1
   have hl1 : d1.flush.fl.length = d1.fl.length:=by simp only [DevM.flush,lK]
   have hw1 : d1.flush.writes = d1.writes:=rfl
   split
   ·rename_i h2
    obtain ⟨l1,l2,l3⟩:=yE d1.flush 0 (lN c p b)
    have okw:=DevM.write_ok okf 0 (lN c p b) (by simp [DevM.flush]) (by omega)
    have hp0 : d1.flush.pend.length = 0:=rfl
    exact ⟨okw,by dsimp only [ow]; omega,by dsimp only [ow]; omega,by dsimp only [ow]; omega,fun h=>absurd h h2⟩
   ·rename_i h2
    obtain ⟨f1,f2,f3,f4,f5,f6⟩:=KA (s:=lN c p b) okf rfl (by omega) (by omega) (Decidable.byContradiction h2)
    generalize (d1.flush.write 0 (lN c p b)).2.flush = d' at *
    have hrow : ∀r : Nat,r < ls c.toNat -> d'.fl.getD (1 + r) ByteArray.empty = ym (lC c) r:=fun r hr=>by
     rw [f5 (1 + r) (by omega) (by omega),DD o1 (by omega),show ((1 + r : Nat) : Int) = 1 + (r : Int) by omega]
     exact hsr r hr
    refine ⟨f1,by dsimp only [ow]; omega,by dsimp only [ow]; rw [f2]; simp,by dsimp only [ow]; omega,fun _=>⟨?_,?_,f2,hb⟩⟩
    ·exact ⟨f1,hb,by dsimp only [ow]; rw [hzl]; omega,CU c p,LI c,List.nodup_nil,(fun x hx=>by cases hx),(fun x hx=>by cases hx),by dsimp only [ow]; omega⟩
    ·refine ⟨rfl,CU c p,LI c,f4,fun x hx=>?_,fun r hr s hs=>?_,Sub.self (CU c p),fun r hr=>?_⟩
     ·dsimp only [ow] at hx
      rw [f2] at hx
      cases hx
     ·dsimp only [ow] at hs hr
      rw [f2] at hs
      rw [hzl] at hr
      rcases hs with hs | hs
      ·exact ⟨lC c,Sub.self (CU c p),hs.trans (hrow r hr)⟩
      ·cases hs
     ·dsimp only [ow] at hr ⊢
      rw [hzl] at hr
      rw [C1 (d:=d') (fun x hx=>by rw [f2] at hx; cases hx),show (1 + (r : Int)).toNat = 1 + r by omega]
      exact hrow r hr
end Go.Proofs.YtbpblokfiajpjabGreatDoor
namespace Go.Proofs.YtbpblokfiajpjabGreatDoor
open Go.RowKit Go.SL Go.Crc
attribute [local go_sem ↓] Go.wp_at_zero Go.wp_at_succ
theorem Eo {fn : Func} {p : Tmp} {ty : TypeId} (h : fn.results = #[.cell p ty]) (tmps : Array Value) (P : Program) (w : World) :
  (results fn tmps).run P w = ((asAddr (tmps.getD p undef)).run P w).andThen fun a w₁=>(loadVar ty a).run P w₁:=by
 simp only [results,h]
 simp [Sem.run_bind,Result.andThen]
theorem MG {fn : Func} {t : Tmp} (h : fn.results = #[.cell t 103]) (tmps : Array Value) (w : World) (g : Nat) (c p b : Int) (hg : tmps.getD t undef = .pointer (some ⟨g,0,none⟩))
  (h0 : w.cell? ⟨g,0,none⟩ = some (.int .i64 c)) (h1 : w.cell? ⟨g,1,none⟩ = some (.int .i64 p)) (h2 : w.cell? ⟨g,2,none⟩ = some (.int .i64 b)) :
  (results fn tmps).run Tryz.prog w = .ok (lM c p b) w:=by
 rw [Eo h,hg]
 unfold lM
 go_simp
theorem Oz (b bd bh : Nat) (m : ImgM) (R : List SL.HP) (w : World) (H : own w (lP b bd bh m::R)) :
  Calls Tryz.prog 71 #[.pointer (some ⟨b,0,none⟩)] w fun e w'=>e = .returned (lM m.c m.p m.b) /\ Ext w w' /\ own w' (lP b bd bh m::R):=by
 obtain ⟨v,h⟩:=yF H
 have ha:=li h (.cells #[.int .i64 0,.int .i64 0,.int .i64 0] 103)
 have hxa:=(zR w).alloc (.cells #[.int .i64 0,.int .i64 0,.int .i64 0] 103)
 go_enter Tryz.func71,Tryz.ntmps71
 go_upto_region 1 with (fail)
 generalize w.heap.size = g at *
 generalize w.alloc (.cells #[.int .i64 0,.int .i64 0,.int .i64 0] 103) = w1 at *
 obtain ⟨cc,ff⟩:=ld 1 ha rfl
 obtain ⟨cg,fg⟩:=ld 0 ha rfl
 go_wp2_with fail
 have h5:=lg (i:=2) (v:=.int .i64 m.b) 0 (lg (i:=1) (v:=.int .i64 m.p) 0 (lg (i:=0) (v:=.int .i64 m.c) 0 ha rfl) rfl) rfl
 obtain ⟨c3,-⟩:=ld 0 h5 rfl
 refine bodyPost_ret (MG rfl _ _ g m.c m.p m.b rfl (c3 0) (c3 1) (c3 2)) rfl ?_
 exact ⟨rfl,((hxa.setCell _ _).setCell _ _).setCell _ _,ye (le h5)⟩
theorem OJ (m : ImgM) (k : Int) : 0 <= (m.read k).2:=by
 unfold ImgM.read
 split
 ·split
  ·decide
  ·split <;> simp
 ·simp
end Go.Proofs.YtbpblokfiajpjabGreatDoor
namespace Go.Proofs.YtbpblokfiajpjabGreatDoor
open Go.RowKit Go.SL Go.Crc
theorem Ge {d : DevM} (hf : d.fail < 0) {a : Int} (a0 : 0 <= a) (a1 : a < d.fl.length) {s : ByteArray} (hs : s.size = 16) : (d.write a s).1 = 0 /\ (d.write a s).2.fail < 0:=by
 have hb : ¬(d.bad a s = true):=by
  unfold DevM.bad
  simp only [Bool.or_eq_true,decide_eq_true_eq]
  omega
 unfold DevM.write
 rw [zq hb,zq (by omega)]
 refine ⟨rfl,?_⟩
 dsimp only
 rw [zq (by omega)]
 exact hf
theorem SD : ∀{l : List ByteArray} {d : DevM} {a : Int},d.fail < 0 -> 0 <= a -> a + l.length <= d.fl.length -> (∀x∈l,x.size = 16) -> (d.puts a l).1 = 0 /\ (d.puts a l).2.fail < 0:=by
 intro l
 induction l with
 | nil=>intro d a hf _ _ _; exact ⟨rfl,hf⟩
 | cons s l ih=>
  intro d a hf a0 a1 hs
  simp only [List.length_cons] at a1
  obtain ⟨h1,h2⟩:=Ge hf a0 (a:=a) (by omega) (hs s (by simp))
  obtain ⟨l1,-,-⟩:=yE d a s
  rw [DevM.puts,zq (by simpa using h1)]
  exact ih h2 (by omega) (by omega) fun x hx=>hs x (by simp [hx])
end Go.Proofs.YtbpblokfiajpjabGreatDoor
namespace Go.Proofs.YtbpblokfiajpjabGreatDoor
open Go.RowKit Go.SL
def lS (w : World) (v : Value) (l : List Int) : Prop:=SlAt v l.length (fun b off i=>w.cell? ⟨b,off + i,none⟩ = some (.int .i64 (l.getD i 0)))
theorem lS.form {w : World} {v : Value} {l : List Int} (h : lS w v l) : ∃ao b off cap,v = .slice ao l.length cap /\ l.length <= cap /\ cap <= 9223372036854775807 /\ (0 < l.length -> ao = some ⟨b,off,none⟩) /\
  ∀i,i < l.length -> w.cell? ⟨b,off + i,none⟩ = some (.int .i64 (l.getD i 0)):=by
 obtain ⟨ao,b,off,cap,hv,h1,h2,h3,h4⟩:=h
 exact ⟨ao,b,off,cap,hv,h1,h2,h3,h4⟩
theorem C4 (w : World) (a b : Nat) : (w.drewN a).drewN b = w.drewN (a + b):=by simp [World.drewN,Nat.add_assoc]
theorem Ku (va vb : Value) (la lb : List Int) (w : World) (ha : lS w va la) (hb : lS w vb lb) :
  Calls Tryz.prog 55 #[va,vb] w fun e w'=>e = .returned (.bool (decide (la = lb))) /\ ∃n,w' = w.drewN n:=by
 obtain ⟨aoa,ba,offa,capa,rfl,a1,a2,a3,a4⟩:=ha.form
 obtain ⟨aob,bb,offb,capb,rfl,b1,b2,b3,b4⟩:=hb.form
 by_cases hl : la.length = lb.length
 ·go_enter Tryz.func55,Tryz.ntmps55
  have hl2 : ((la.length : Int) != (lb.length : Int)) = false:=by rw [hl]; simp
  have HL:=zh hl
  clear hl
  go_wp2_with fail
  go_loopw [5] (fun i wr=>∃k : Nat,k <= la.length /\ i = .int .i64 k /\ (∀j,j < k -> la.getD j 0 = lb.getD j 0) /\ ∃n,wr = w.drewN n) (fun i _=>la.length - (intOf i).toNat)
  case atStart=>exact ⟨0,by omega,rfl,fun j hj=>absurd hj (by omega),0,rfl⟩
  case round=>
   obtain ⟨k,hk,rfl,hj,nd,rfl⟩:=hrel
   have HJ:=zh hj
   clear hj
   by_cases hlt : k < la.length
   ·obtain rfl:=a3 (by omega)
    have hlt2 : k < lb.length:=by rw [<- HL.out]; exact hlt
    obtain rfl:=b3 (by omega)
    have c1:=a4 k hlt
    have c2:=b4 k hlt2
    clear a3 a4 b3 b4 ha hb
    generalize hxa : la.getD k 0 = xa at *
    generalize hxb : lb.getD k 0 = xb at *
    have HXA:=zh hxa
    have HXB:=zh hxb
    clear hxa hxb
    have ha5 : (k : Int) < (la.length : Int):=by omega
    have hb5 : (k : Int) < (lb.length : Int):=by omega
    by_cases hx : xa = xb
    ·have HX:=zh hx
     have ht : (xa != xb) = false:=by rw [hx]; simp
     clear hx
     go_wp2_with fail
     go_quiet (fail)
     go_wp2_with fail
     go_roundw
     case rel=>exact ⟨k + 1,by omega,by go_num,(fun j hj=>by
      by_cases e : j = k
      ·subst e; rw [HXA.out,HXB.out,HX.out]
      ·exact HJ.out j (by omega)),nd + nq,by first | rfl | exact C4 _ _ _⟩
     case measure=>simp [intOf]; omega
    ·have ht : (xa != xb) = true:=by rw [bne_iff_ne]; exact hx
     have HX:=zh hx
     clear hx
     go_wp2_with fail
     go_quiet (fail)
     go_wp2_with fail
     go_ret
     refine ⟨yi ?_,nd + nq,by first | rfl | exact C4 _ _ _⟩
     symm
     apply zf
     intro e
     exact HX.out (by rw [<- HXA.out,<- HXB.out,e])
   ·obtain rfl : k = la.length:=by omega
    go_wp2_with fail
    go_ret
    refine ⟨yi ?_,_,rfl⟩
    symm
    apply zg
    apply List.ext_getElem HL.out
    intro i h1 h2
    have:=HJ.out i h1
    simpa [h1,h2] using this
 ·have hl2 : ((la.length : Int) != (lb.length : Int)) = true:=by rw [bne_iff_ne]; omega
  go_enter Tryz.func55,Tryz.ntmps55
  have HL:=zh hl
  clear hl
  go_wp2_with fail
  go_ret
  refine ⟨yi ?_,0,rfl⟩
  symm
  apply zf
  intro e
  exact HL.out (by rw [e])
end Go.Proofs.YtbpblokfiajpjabGreatDoor
namespace Go.Proofs.YtbpblokfiajpjabGreatDoor
open Go.RowKit Go.SL Go.Crc
attribute [local go_sem ↓] Go.wp_at_zero Go.wp_at_succ
abbrev ShM:=Nat -> Option ImgM
def put (F : ShM) (k : Nat) (m : ImgM) : ShM:=fun j=>if j = k then some m else F j
theorem EY {F : ShM} {k : Nat} {m : ImgM} (h : F k = some m) : put F k m = F:=funext fun j=>by unfold put; split <;> simp_all
theorem zK (F : ShM) (k : Nat) (m : ImgM) : put F k m k = some m:=zt rfl
theorem AX (F : ShM) {k j : Nat} (m : ImgM) (h : j≠k) : put F k m j = F j:=zq h
def yB (A : Nat -> Nat×Nat×Nat) (F : ShM) (k : Nat) : Value:=match F k with
 | none=>.pointer none
 | some _=>.pointer (some ⟨(A k).1,0,none⟩)
def oJ (A : Nat -> Nat×Nat×Nat) (F : ShM) (k : Nat) : HP:=match F k with
 | none=>emp
 | some m=>star [lP (A k).1 (A k).2.1 (A k).2.2 m,lm (A k).2.1 m.d]
def yj (A : Nat -> Nat×Nat×Nat) (F : ShM) : Array Value:=#[yB A F 0,yB A F 1,yB A F 2,yB A F 3,yB A F 4]
def shL (b : Nat) (A : Nat -> Nat×Nat×Nat) (F : ShM) : List SL.HP:=[pts b (.cells (yj A F) 111 (0,0)),oJ A F 0,oJ A F 1,oJ A F 2,oJ A F 3,oJ A F 4]
theorem Lb {b : Nat} {A : Nat -> Nat×Nat×Nat} {F : ShM} {R : List SL.HP} {k : Nat} (hk : k < 5) : (shL b A F++R)[1 + k]? = some (oJ A F k):=by
 rcases k with _ | _ | _ | _ | _ | k
 ·rfl
 ·rfl
 ·rfl
 ·rfl
 ·rfl
 ·omega
theorem Tx {A : Nat -> Nat×Nat×Nat} {F : ShM} {k : Nat} {m m' : ImgM} (h : F k = some m) (j : Nat) : yB A (put F k m') j = yB A F j:=by
 unfold yB put
 by_cases e : j = k
 ·subst e; rw [zt rfl,h]
 ·rw [zq e]
theorem V9 {b : Nat} {A : Nat -> Nat×Nat×Nat} {F : ShM} {R : List SL.HP} {k : Nat} (hk : k < 5) {m m' : ImgM} (h : F k = some m) :
  (shL b A F++R).set (1 + k) (star [lP (A k).1 (A k).2.1 (A k).2.2 m',lm (A k).2.1 m'.d]) = shL b A (put F k m')++R:=by
 have hc : yj A (put F k m') = yj A F:=by unfold yj; simp only [Tx h]
 have hs : ∀j,j≠k -> oJ A (put F k m') j = oJ A F j:=fun j hj=>by unfold oJ; rw [AX F m' hj]
 have hk' : oJ A (put F k m') k = star [lP (A k).1 (A k).2.1 (A k).2.2 m',lm (A k).2.1 m'.d]:=by unfold oJ; rw [zK]
 rcases k with _ | _ | _ | _ | _ | k
 case succ.succ.succ.succ.succ=>omega
 all_goals
  unfold shL
  rw [hc,<- hk']
  simp [hs]
theorem A1 {b : Nat} {A : Nat -> Nat×Nat×Nat} {F : ShM} {R : List SL.HP} {w : World} {k : Nat} (hk : k < 5) {m : ImgM} (h : F k = some m) (H : own w (shL b A F++R)) :
  own w (lP (A k).1 (A k).2.1 (A k).2.2 m::lm (A k).2.1 m.d::(shL b A F++R).eraseIdx (1 + k)):=by
 have h1:=lu (1 + k) H (Lb hk)
 have hs : oJ A F k = star [lP (A k).1 (A k).2.1 (A k).2.2 m,lm (A k).2.1 m.d]:=by unfold oJ; rw [h]
 rw [hs] at h1
 exact DF h1
theorem D8 {b : Nat} {A : Nat -> Nat×Nat×Nat} {F : ShM} {R : List SL.HP} {w w0 : World} {k : Nat} (hk : k < 5) {m m' : ImgM} (h : F k = some m) (H0 : own w0 (shL b A F++R))
  (H : own w (lP (A k).1 (A k).2.1 (A k).2.2 m'::lm (A k).2.1 m'.d::(shL b A F++R).eraseIdx (1 + k))) : own w (shL b A (put F k m')++R):=by
 have h1:=yK [lP (A k).1 (A k).2.1 (A k).2.2 m',lm (A k).2.1 m'.d] H
 have h2:=oo H0 (1 + k) (Lb hk) h1
 rwa [V9 hk h] at h2
theorem oA {b : Nat} {A : Nat -> Nat×Nat×Nat} {F : ShM} {R : List SL.HP} {w : World} (H : own w (shL b A F++R)) {k : Nat} (hk : k < 5) : w.cell? ⟨b,k,none⟩ = some (yB A F k):=by
 rw [(ld (l:=shL b A F++R) (b:=b) (arr:=yj A F) (T:=111) 0 H rfl).1]
 rcases k with _ | _ | _ | _ | _ | k
 ·rfl
 ·rfl
 ·rfl
 ·rfl
 ·rfl
 ·omega
theorem od {A : Nat -> Nat×Nat×Nat} {F : ShM} {k : Nat} {m : ImgM} (h : F k = some m) : yB A F k = .pointer (some ⟨(A k).1,0,none⟩):=by unfold yB; rw [h]
theorem Dl {A : Nat -> Nat×Nat×Nat} {F : ShM} {k : Nat} (h : F k = none) : yB A F k = .pointer none:=by unfold yB; rw [h]
def o5 (A : Nat -> Nat×Nat) (F : ShM) (k : Nat) : Value:=match F k with
 | none=>.pointer none
 | some _=>.pointer (some ⟨(A k).1,0,none⟩)
def ox (A : Nat -> Nat×Nat) (F : ShM) (k : Nat) : HP:=match F k with
 | none=>emp
 | some m=>star [lX (A k).1 (A k).2 m,ln (A k).2 m.d]
def oI (A : Nat -> Nat×Nat) (F : ShM) : Array Value:=#[o5 A F 0,o5 A F 1,o5 A F 2,o5 A F 3,o5 A F 4]
def rshL (b : Nat) (A : Nat -> Nat×Nat) (F : ShM) : List SL.HP:=[pts b (.cells (oI A F) 114 (0,0)),ox A F 0,ox A F 1,ox A F 2,ox A F 3,ox A F 4]
theorem Kb {b : Nat} {A : Nat -> Nat×Nat} {F : ShM} {R : List SL.HP} {k : Nat} (hk : k < 5) : (rshL b A F++R)[1 + k]? = some (ox A F k):=by
 rcases k with _ | _ | _ | _ | _ | k
 ·rfl
 ·rfl
 ·rfl
 ·rfl
 ·rfl
 ·omega
theorem PY {A : Nat -> Nat×Nat} {F : ShM} {k : Nat} {m m' : ImgM} (h : F k = some m) (j : Nat) : o5 A (put F k m') j = o5 A F j:=by
 unfold o5 put
 by_cases e : j = k
 ·subst e; rw [zt rfl,h]
 ·rw [zq e]
theorem UT {b : Nat} {A : Nat -> Nat×Nat} {F : ShM} {R : List SL.HP} {k : Nat} (hk : k < 5) {m m' : ImgM} (h : F k = some m) :
  (rshL b A F++R).set (1 + k) (star [lX (A k).1 (A k).2 m',ln (A k).2 m'.d]) = rshL b A (put F k m')++R:=by
 have hc : oI A (put F k m') = oI A F:=by unfold oI; simp only [PY h]
 have hs : ∀j,j≠k -> ox A (put F k m') j = ox A F j:=fun j hj=>by unfold ox; rw [AX F m' hj]
 have hk' : ox A (put F k m') k = star [lX (A k).1 (A k).2 m',ln (A k).2 m'.d]:=by unfold ox; rw [zK]
 rcases k with _ | _ | _ | _ | _ | k
 case succ.succ.succ.succ.succ=>omega
 all_goals
  unfold rshL
  rw [hc,<- hk']
  simp [hs]
theorem AZ {b : Nat} {A : Nat -> Nat×Nat} {F : ShM} {R : List SL.HP} {w : World} {k : Nat} (hk : k < 5) {m : ImgM} (h : F k = some m) (H : own w (rshL b A F++R)) :
  own w (lX (A k).1 (A k).2 m::ln (A k).2 m.d::(rshL b A F++R).eraseIdx (1 + k)):=by
 have h1:=lu (1 + k) H (Kb hk)
 have hs : ox A F k = star [lX (A k).1 (A k).2 m,ln (A k).2 m.d]:=by unfold ox; rw [h]
 rw [hs] at h1
 exact DF h1
theorem Ds {b : Nat} {A : Nat -> Nat×Nat} {F : ShM} {R : List SL.HP} {w w0 : World} {k : Nat} (hk : k < 5) {m m' : ImgM} (h : F k = some m) (H0 : own w0 (rshL b A F++R))
  (H : own w (lX (A k).1 (A k).2 m'::ln (A k).2 m'.d::(rshL b A F++R).eraseIdx (1 + k))) : own w (rshL b A (put F k m')++R):=by
 have h1:=yK [lX (A k).1 (A k).2 m',ln (A k).2 m'.d] H
 have h2:=oo H0 (1 + k) (Kb hk) h1
 rwa [UT hk h] at h2
theorem yo {b : Nat} {A : Nat -> Nat×Nat} {F : ShM} {R : List SL.HP} {w : World} (H : own w (rshL b A F++R)) {k : Nat} (hk : k < 5) : w.cell? ⟨b,k,none⟩ = some (o5 A F k):=by
 rw [(ld (l:=rshL b A F++R) (b:=b) (arr:=oI A F) (T:=114) 0 H rfl).1]
 rcases k with _ | _ | _ | _ | _ | k
 ·rfl
 ·rfl
 ·rfl
 ·rfl
 ·rfl
 ·omega
theorem oT {A : Nat -> Nat×Nat} {F : ShM} {k : Nat} {m : ImgM} (h : F k = some m) : o5 A F k = .pointer (some ⟨(A k).1,0,none⟩):=by unfold o5; rw [h]
theorem CD {A : Nat -> Nat×Nat} {F : ShM} {k : Nat} (h : F k = none) : o5 A F k = .pointer none:=by unfold o5; rw [h]
theorem A7 {b : Nat} {A : Nat -> Nat×Nat} {F : ShM} {R : List SL.HP} {w : World} {k : Nat} (hk : k < 5) {m : ImgM} (h : F k = some m) (H : own w (rshL b A F++R)) :
  ∃vt vh,w.cell? ⟨(A k).1,0,none⟩ = some (.pointer (some ⟨(A k).2,0,none⟩)) /\ w.cell? ⟨(A k).1,1,none⟩ = some (.int .i64 m.c) /\ w.cell? ⟨(A k).1,2,none⟩ = some (.int .i64 m.p) /\ w.cell? ⟨(A k).1,3,none⟩ = some (.int .i64 m.b) /\ w.cell? ⟨(A k).1,4,none⟩ = some vt /\ w.cell? ⟨(A k).1,5,none⟩ = some vh /\ Ba w vt m.t:=by
 obtain ⟨vt,vh,h1⟩:=yP (AZ hk h H)
 have c:=(ld 0 h1 rfl).1
 exact ⟨vt,vh,c 0,c 1,c 2,c 3,c 4,c 5,EL 1 h1 rfl⟩
structure ShOk (F : ShM) : Prop where
 ok : ∀k m,k < 5 -> F k = some m -> m.Ok
 wr : ∀k m,k < 5 -> F k = some m -> m.d.writes < 900000
 pend : ∀k m,k < 5 -> F k = some m -> m.d.pend.length < 900000
def clus (F : ShM) (root : Int) : Int:=match F root.toNat with
 | some m=>m.c
 | none=>0
def oW (F : ShM) (root : Int) : Nat -> List Int -> Int -> List Int×Int
 | 0,l,_=>(l,0)
 | n + 1,l,at_=>if at_ = -1 then (l,0) else if at_ < 0 \/ 5 <= at_ then ([],4) else match F at_.toNat with
  | none=>([],4)
  | some m=>if l.length = 5 then ([],10) else if m.c≠clus F root then ([],2) else oW F root n (l++[at_]) m.b
def lt (F : ShM) (root : Int) : List Int×Int:=oW F root 6 [] root
def ly (F : ShM) (x : Int) : Prop:=0 <= x /\ x < 5 /\ ∃m,F x.toNat = some m
theorem MW {F : ShM} {root : Int} : ∀{n : Nat} {l : List Int} {at_ : Int},(∀x∈l,ly F x) -> ∀x∈(oW F root n l at_).1,ly F x:=by
 intro n
 induction n with
 | zero=>intro l at_ h; exact h
 | succ n ih=>
  intro l at_ h
  rw [oW]
  split
  ·exact h
  ·split
   ·intro x hx; cases hx
   ·rename_i h1
    split
    ·intro x hx; cases hx
    ·rename_i m hm
     split
     ·intro x hx; cases hx
     ·split
      ·intro x hx; cases hx
      ·refine ih fun x hx=>?_
       rcases List.mem_append.1 hx with hx | hx
       ·exact h x hx
       ·rw [List.mem_singleton.1 hx]; exact ⟨by omega,by omega,m,hm⟩
theorem Ak (F : ShM) (root : Int) : ∀x∈(lt F root).1,ly F x:=MW fun x hx=>by cases hx
theorem zv {F : ShM} {root : Int} : ∀{n : Nat} {l : List Int} {at_ : Int},0 <= (oW F root n l at_).2:=by
 intro n
 induction n with
 | zero=>intro l at_; simp [oW]
 | succ n ih=>
  intro l at_
  rw [oW]
  split
  ·simp
  ·split
   ·simp
   ·split
    ·simp
    ·split
     ·simp
     ·split
      ·simp
      ·exact ih
theorem KB {F : ShM} {root : Int} : ∀{n : Nat} {l : List Int} {at_ : Int},l.length <= 5 -> (oW F root n l at_).1.length <= 5:=by
 intro n
 induction n with
 | zero=>intro l at_ h; exact h
 | succ n ih=>
  intro l at_ h
  rw [oW]
  split
  ·exact h
  ·split
   ·simp
   ·split
    ·simp
    ·split
     ·simp
     ·split
      ·simp
      ·exact ih (by simp; omega)
def lo (l : List Int) : List Value:=l.map (Value.int .i64)
theorem O4 {l : List Int} {i : Nat} (h : i < l.length) : (lo l)[i]? = some (.int .i64 (l.getD i 0)):=by simp [lo,h]
theorem l9 {w : World} {L : List HP} (k : Nat) {v : Value} {l : List Int} (H : own w L) (hk : L[k]? = some (row 3 1 v l.length (lo l))) : lS w v l:=by
 obtain ⟨ao,g,cap,rfl,h1,h2,h3,-,-,h6,-⟩:=lk k H hk
 refine ⟨ao,g,0,cap,rfl,h1,by simp only [maxLen] at h2; omega,h3,fun i hi=>?_⟩
 dsimp only
 rw [Nat.zero_add]
 exact h6 _ _ (O4 hi)
def Kg : Value -> Nat
 | .slice _ n _=>n
 | _=>0
def zO (val : Int -> Value) (res : List Int×Int) (L : List SL.HP) (w : World) (e : Ending) (w' : World) : Prop:=
 ∃v,e = .returned (.tuple #[v,val res.2]) /\ Ext w w' /\ own w' (row 3 1 v res.1.length (lo res.1)::L)
def PL (F : ShM) (root : Int) (res : List Int×Int) (L : List SL.HP) (w0 : World) (v i : Value) (wr : World) : Prop:=
 ∃(n : Nat) (l : List Int) (at_ : Int),n + l.length = 6 /\ l.length <= 5 /\ i = .int .i64 at_ /\ ((l = [] /\ at_ = root) \/ (ly F root /\ -1 <= at_ /\ at_ <= 4)) /\ oW F root n l at_ = res /\ Ext w0 wr /\ own wr (row 3 1 v l.length (lo l)::L)
theorem Bc {b : Nat} {A : Nat -> Nat×Nat×Nat} {F : ShM} {k : Nat} (hk : k < 5) {m : ImgM} (h : F k = some m) (R : List SL.HP) (w : World) (H : own w (shL b A F++R)) :
  Calls Tryz.prog 71 #[.pointer (some ⟨(A k).1,0,none⟩)] w fun e w'=>e = .returned (lM m.c m.p m.b) /\ Ext w w' /\ own w' (shL b A F++R):=
 (Oz _ _ _ m _ w (A1 hk h H)).mono fun e w' ⟨h1,h2,h3⟩=>⟨h1,h2,by have:=D8 hk h H h3; rwa [EY h] at this⟩
theorem FR (l m : List Int) : lo (l++m) = lo l++lo m:=by simp [lo]
theorem yr {F : ShM} {r : Nat} {m : ImgM} (h : F r = some m) : clus F (r : Int) = m.c:=by unfold clus; rw [zn,h]
theorem DB (c p b : Int) (w : World) : (Instr.field 103 (.agg #[.int .i64 c,.int .i64 p,.int .i64 b]) 0).run Tryz.prog w = .ok (.int .i64 c) w:=by kernel_rfl
theorem Ld (c p b : Int) (w : World) : (Instr.field 103 (.agg #[.int .i64 c,.int .i64 p,.int .i64 b]) 2).run Tryz.prog w = .ok (.int .i64 b) w:=by kernel_rfl
theorem CP (b : Nat) (A : Nat -> Nat×Nat×Nat) (F : ShM) (hF : ShOk F) (root : Int) (R : List SL.HP) (w : World) (H : own w (shL b A F++R)) :
  Calls Tryz.prog 69 #[.pointer (some ⟨b,0,none⟩),.int .i64 root] w (zO errV (lt F root) (shL b A F++R) w):=by
 generalize hres : lt F root = res
 have HRES:=zh hres
 clear hres
 go_enter Tryz.func69,Tryz.ntmps69
 go_wp2_with fail
 go_loopw [6,7] (PL F root res (shL b A F++R) w) (fun v _ _=>6 - Kg v)
 case atStart=>exact ⟨6,[],root,rfl,by simp,rfl,.inl ⟨rfl,rfl⟩,HRES.out,zR _,lv _ _ H⟩
 case round=>
  obtain ⟨n,l,at_,hn,hl,rfl,hor,hgo,hxr,hown⟩:=hrel
  obtain ⟨n,rfl⟩ : ∃k,n = k + 1:=⟨n - 1,by omega⟩
  rw [oW] at hgo
  have hsh : own wr (shL b A F++R):=le hown
  by_cases h1 : at_ = -1
  ·rw [zt h1] at hgo
   subst h1
   subst hgo
   go_wp2_with fail
   go_ret2
   exact ⟨_,rfl,hxr,hown⟩
  ·rw [zq h1] at hgo
   by_cases h2 : at_ < 0 \/ 5 <= at_
   ·rw [zt h2] at hgo
    subst hgo
    have t1 : (at_ != -1) = true:=bne_iff_ne.2 h1
    by_cases h3 : at_ < 0
    ·clear h1 h2
     go_wp2_with fail
     go_ret2
     exact ⟨_,rfl,hxr,lv _ _ hsh⟩
    ·have h4 : 5 <= at_:=by omega
     clear h1 h2
     go_wp2_with fail
     go_ret2
     exact ⟨_,rfl,hxr,lv _ _ hsh⟩
   ·rw [zq h2] at hgo
    obtain ⟨k,rfl⟩:=ze (show 0 <= at_ by omega)
    have hk : k < 5:=by omega
    have i1 : (0 : Int) <= (k : Int):=by omega
    have i2 : (k : Int) < 5:=by omega
    have t1 : ((k : Int) != -1) = true:=bne_iff_ne.2 h1
    rw [zn] at hgo
    have cell:=oA hsh hk
    clear h1 h2
    cases hFk : F k with
    | none=>
     rw [hFk] at hgo
     rw [Dl hFk] at cell
     have hgo' : res = ([],4):=hgo.symm
     subst hgo'
     clear hgo
     go_wp2_with fail
     go_ret2
     exact ⟨_,rfl,hxr,lv _ _ hsh⟩
    | some m=>
     rw [hFk] at hgo
     dsimp only at hgo
     rw [od hFk] at cell
     obtain ⟨ao,g,cap,rfl,r1,r2,r3,-,-,-,-⟩:=lk 0 hown rfl
     by_cases h5 : l.length = 5
     ·rw [zt h5] at hgo
      have hgo' : res = ([],10):=hgo.symm
      subst hgo'
      have t5 : ((l.length : Int) == 5) = true:=by simp [h5]
      have H5:=zh h5
      clear hgo h5
      go_wp2_with fail
      go_ret2
      exact ⟨_,rfl,hxr,lv _ _ hsh⟩
     ·rw [zq h5] at hgo
      have t5 : ((l.length : Int) == 5) = false:=by
       rw [zb]; omega
      have hroot : ly F root:=by
       rcases hor with ⟨-,h⟩ | ⟨h,-⟩
       ·rw [<- h]; exact ⟨by omega,by omega,m,by rw [zn]; exact hFk⟩
       ·exact h
      have HFILE:=zh hroot
      obtain ⟨q1,q2,mr,hmr⟩:=hroot
      obtain ⟨r,rfl⟩:=ze q1
      rw [zn] at hmr
      have hr : r < 5:=by omega
      have cellr:=oA hsh hr
      rw [od hmr] at cellr
      rw [yr hmr] at hgo
      have HGO:=zh hgo
      have HFK:=zh hFk
      have HMR:=zh hmr
      have HH1:=zh (fun (R' : List SL.HP) (w : World) (H : own w (shL b A F++R'))=>Bc hk hFk R' w H)
      have HH2:=zh (fun (R' : List SL.HP) (w : World) (H : own w (shL b A F++R'))=>Bc hr hmr R' w H)
      unfold lM at HH1 HH2
      obtain ⟨C,-,-,-,-,-,-,-,b1,b2⟩:=(hF.ok k m hk hFk).nat
      have hl4 : l.length <= 4:=by omega
      clear hor hgo hFk hmr h5 hl r3
      have f1:=DB m.c m.p m.b
      have f2:=DB mr.c mr.p mr.b
      have f3:=Ld m.c m.p m.b
      by_cases hcc : m.c = mr.c
      ·have t6 : (m.c != mr.c) = false:=by simp [hcc]
       have HGO2:=HGO.out
       rw [zq (by simpa using hcc)] at HGO2
       have HGO3:=zh HGO2
       clear hcc HGO2 HGO
       go_upto_region 8 with (fail)
       clear cell cellr
       have hz : own wr.drew (shL b A F++(row 3 1 (.slice ao l.length cap) l.length (lo l)::R)):=lj (lr (shL b A F) hown)
       have hxz:=hxr.drew
       clear hown hxr hsh
       go_region_held3 (fun w'=>w'.cell? ⟨b,k,none⟩ = some (.pointer (some ⟨(A k).1,0,none⟩)) /\ w'.cell? ⟨b,r,none⟩ = some (.pointer (some ⟨(A r).1,0,none⟩))) (exact ⟨by rw [oA hz hk,od HFK.out],by rw [oA hz hr,od HMR.out]⟩) (first | (go_at_call 71; refine (HH1.out _ _ hz).mono ?_; rintro e w5 ⟨rfl,hx5,hz'⟩; have hxz:=hxz.trans hx5; have hz:=hz') | (go_at_call 71; refine (HH2.out _ _ hz).mono ?_; rintro e w6 ⟨rfl,hx6,hz'⟩; have hxz:=hxz.trans hx6; have hz:=hz'))
       all_goals
        have hz2 : own _ (row 3 1 (.slice ao l.length cap) l.length (lo l)::(shL b A F++R)):=lu 6 hz rfl
        have hm5 : l.length + 1 <= maxLen:=by simp only [maxLen]; omega
        have ha2:=li hz2 (.cells #[.int .i64 (k : Int)] 3)
        go_wp2_with (first | (at_builtin; refine lD rfl _ _ 95 rfl 1 3 Tryz.underlying95 Cb rfl (by decide) rfl ha2 rfl (some ⟨_,0,none⟩) 1 1 [.int .i64 (k : Int)] rfl rfl (ot _ [.int .i64 (k : Int)] _) (fun h=>by cases h) (FQ _) hm5 (by omega) ?_))
        intro v' w7 h7' hx7
        obtain ⟨ao',g',cap',rfl,-,-,-,-,-,-,-⟩:=lk 1 h7' rfl
        have h7 : own w7 (shL b A F++(row 3 1 (.slice ao' (l.length + 1) cap') (l.length + 1) (lo l++[.int .i64 (k : Int)])::R)):=lr (shL b A F) (le h7')
        have hx8:=(hxz.alloc (.cells #[.int .i64 (k : Int)] 3)).trans hx7
        have cell:=oA h7 hk
        rw [od HFK.out] at cell
        clear hz hxz hz2 ha2 h7' hx7
        go_wp2_with fail
        refine (HH1.out _ w7 h7).mono ?_
        rintro e w8 ⟨rfl,hx9,h8⟩
        clear cell
        go_wp2_with fail
        go_roundw
        case rel=>exact ⟨n,l++[(k : Int)],m.b,by simp; omega,by simp; omega,rfl,.inr ⟨HFILE.out,by omega,by omega⟩,HGO3.out,hx8.trans hx9,by rw [FR,List.length_append]; exact lu 6 h8 rfl⟩
        case measure=>simp [Kg]; omega
      ·have t6 : (m.c != mr.c) = true:=by simpa using hcc
       have hgo' : res = ([],2):=by have:=HGO.out; rw [zt (by simpa using hcc)] at this; exact this.symm
       clear HGO hcc
       subst hgo'
       go_upto_region 8 with (fail)
       clear cell cellr
       have hz : own wr.drew (shL b A F++(row 3 1 (.slice ao l.length cap) l.length (lo l)::R)):=lj (lr (shL b A F) hown)
       have hxz:=hxr.drew
       clear hown hxr hsh
       go_region_held3 (fun w'=>w'.cell? ⟨b,k,none⟩ = some (.pointer (some ⟨(A k).1,0,none⟩)) /\ w'.cell? ⟨b,r,none⟩ = some (.pointer (some ⟨(A r).1,0,none⟩))) (exact ⟨by rw [oA hz hk,od HFK.out],by rw [oA hz hr,od HMR.out]⟩) (first | (go_at_call 71; refine (HH1.out _ _ hz).mono ?_; rintro e w5 ⟨rfl,hx5,hz'⟩; have hxz:=hxz.trans hx5; have hz:=hz') | (go_at_call 71; refine (HH2.out _ _ hz).mono ?_; rintro e w6 ⟨rfl,hx6,hz'⟩; have hxz:=hxz.trans hx6; have hz:=hz'))
       all_goals
        go_wp2_with fail
        go_ret2
        exact ⟨_,rfl,hxz,lv _ _ (lh 6 hz rfl)⟩
theorem Ea (b : Nat) (A : Nat -> Nat×Nat) (F : ShM) (hF : ShOk F) (root : Int) (R : List SL.HP) (w : World) (H : own w (rshL b A F++R)) :
  Calls Tryz.prog 77 #[.pointer (some ⟨b,0,none⟩),.int .i64 root] w (zO (Value.int .i64) (lt F root) (rshL b A F++R) w):=by
 generalize hres : lt F root = res
 have HRES:=zh hres
 clear hres
 go_enter Tryz.func77,Tryz.ntmps77
 go_wp2_with fail
 go_loopw [6,7] (PL F root res (rshL b A F++R) w) (fun v _ _=>6 - Kg v)
 case atStart=>exact ⟨6,[],root,rfl,by simp,rfl,.inl ⟨rfl,rfl⟩,HRES.out,zR _,lv _ _ H⟩
 case round=>
  obtain ⟨n,l,at_,hn,hl,rfl,hor,hgo,hxr,hown⟩:=hrel
  obtain ⟨n,rfl⟩ : ∃k,n = k + 1:=⟨n - 1,by omega⟩
  rw [oW] at hgo
  have hsh : own wr (rshL b A F++R):=le hown
  by_cases h1 : at_ = -1
  ·rw [zt h1] at hgo
   subst h1
   subst hgo
   go_wp2_with fail
   go_ret2
   exact ⟨_,rfl,hxr,hown⟩
  ·rw [zq h1] at hgo
   by_cases h2 : at_ < 0 \/ 5 <= at_
   ·rw [zt h2] at hgo
    subst hgo
    have t1 : (at_ != -1) = true:=bne_iff_ne.2 h1
    by_cases h3 : at_ < 0
    ·clear h1 h2
     go_wp2_with fail
     go_ret2
     exact ⟨_,rfl,hxr,lv _ _ hsh⟩
    ·have h4 : 5 <= at_:=by omega
     clear h1 h2
     go_wp2_with fail
     go_ret2
     exact ⟨_,rfl,hxr,lv _ _ hsh⟩
   ·rw [zq h2] at hgo
    obtain ⟨k,rfl⟩:=ze (show 0 <= at_ by omega)
    have hk : k < 5:=by omega
    have i1 : (0 : Int) <= (k : Int):=by omega
    have i2 : (k : Int) < 5:=by omega
    have t1 : ((k : Int) != -1) = true:=bne_iff_ne.2 h1
    rw [zn] at hgo
    have cell:=yo hsh hk
    clear h1 h2
    cases hFk : F k with
    | none=>
     rw [hFk] at hgo
     rw [CD hFk] at cell
     have hgo' : res = ([],4):=hgo.symm
     subst hgo'
     clear hgo
     go_wp2_with fail
     go_ret2
     exact ⟨_,rfl,hxr,lv _ _ hsh⟩
    | some m=>
     rw [hFk] at hgo
     dsimp only at hgo
     rw [oT hFk] at cell
     obtain ⟨ao,g,cap,rfl,r1,r2,r3,-,-,-,-⟩:=lk 0 hown rfl
     by_cases h5 : l.length = 5
     ·rw [zt h5] at hgo
      have hgo' : res = ([],10):=hgo.symm
      subst hgo'
      have t5 : ((l.length : Int) == 5) = true:=by simp [h5]
      have H5:=zh h5
      clear hgo h5
      go_wp2_with fail
      go_ret2
      exact ⟨_,rfl,hxr,lv _ _ hsh⟩
     ·rw [zq h5] at hgo
      have t5 : ((l.length : Int) == 5) = false:=by
       rw [zb]; omega
      have hroot : ly F root:=by
       rcases hor with ⟨-,h⟩ | ⟨h,-⟩
       ·rw [<- h]; exact ⟨by omega,by omega,m,by rw [zn]; exact hFk⟩
       ·exact h
      have HFILE:=zh hroot
      obtain ⟨q1,q2,mr,hmr⟩:=hroot
      obtain ⟨r,rfl⟩:=ze q1
      rw [zn] at hmr
      have hr : r < 5:=by omega
      have j1 : (0 : Int) <= (r : Int):=by omega
      have j2 : (r : Int) < 5:=by omega
      have cellr:=yo hsh hr
      rw [oT hmr] at cellr
      rw [yr hmr] at hgo
      obtain ⟨vt1,vh1,-,x1,-,x3,-,-,-⟩:=A7 hk hFk hsh
      obtain ⟨vt2,vh2,-,y1,-,-,-,-,-⟩:=A7 hr hmr hsh
      have HGO:=zh hgo
      have HFK:=zh hFk
      obtain ⟨C,-,-,-,-,-,-,-,b1,b2⟩:=(hF.ok k m hk hFk).nat
      have hl4 : l.length <= 4:=by omega
      clear hor hgo hmr h5 hl r3 hFk
      by_cases hcc : m.c = mr.c
      ·have t6 : (m.c != mr.c) = false:=by simp [hcc]
       have HGO2:=HGO.out
       rw [zq (by simpa using hcc)] at HGO2
       have HGO3:=zh HGO2
       clear hcc HGO HGO2
       go_upto_region 8 with (fail)
       go_quiet (fail)
       have hz2:=ll nq hown
       have hxz:=hxr.drewN nq
       clear hown hxr hsh cell cellr x1 x3 y1
       generalize wr.drewN nq = w2 at *
       have hm5 : l.length + 1 <= maxLen:=by simp only [maxLen]; omega
       have ha2:=li hz2 (.cells #[.int .i64 (k : Int)] 3)
       go_wp2_with (first | (at_builtin; refine lD rfl _ _ 95 rfl 1 3 Tryz.underlying95 Cb rfl (by decide) rfl ha2 rfl (some ⟨_,0,none⟩) 1 1 [.int .i64 (k : Int)] rfl rfl (ot _ [.int .i64 (k : Int)] _) (fun h=>by cases h) (FQ _) hm5 (by omega) ?_))
       intro v' w7 h7' hx7
       obtain ⟨ao',g',cap',rfl,-,-,-,-,-,-,-⟩:=lk 1 h7' rfl
       have h7 : own w7 (rshL b A F++(row 3 1 (.slice ao' (l.length + 1) cap') (l.length + 1) (lo l++[.int .i64 (k : Int)])::R)):=lr (rshL b A F) (le h7')
       have hx8:=(hxz.alloc (.cells #[.int .i64 (k : Int)] 3)).trans hx7
       have cell:=yo h7 hk
       rw [oT HFK.out] at cell
       obtain ⟨vt1,vh1,-,-,-,x3,-,-,-⟩:=A7 hk HFK.out h7
       clear hz2 hxz ha2 h7' hx7
       go_wp2_with fail
       go_roundw
       case rel=>exact ⟨n,l++[(k : Int)],m.b,by simp; omega,by simp; omega,rfl,.inr ⟨HFILE.out,by omega,by omega⟩,HGO3.out,hx8,by rw [FR,List.length_append]; exact lu 6 h7 rfl⟩
       case measure=>simp [Kg]; omega
      ·have t6 : (m.c != mr.c) = true:=by simpa using hcc
       have hgo' : res = ([],2):=by have:=HGO.out; rw [zt (by simpa using hcc)] at this; exact this.symm
       clear HGO hcc
       subst hgo'
       go_upto_region 8 with (fail)
       go_quiet (fail)
       go_wp2_with fail
       go_ret2
       exact ⟨_,rfl,hxr.drewN nq,lv _ _ (ll nq hsh)⟩
def hasC (F : ShM) (x c : Int) : Bool:=match F x.toNat with
 | some m=>m.there c && decide (m.kind c≠0)
 | none=>false
def zV (F : ShM) (c : Int) : Nat -> List Int -> Int
 | _,[]=>-1
 | i,x::l=>if hasC F x c = true then (i : Int) else zV F c (i + 1) l
def yw (F : ShM) (l : List Int) (c : Int) : Int:=zV F c 0 l
theorem G8 {F : ShM} {c : Int} : ∀{l : List Int} {i : Nat},zV F c i l = -1 \/ ((i : Int) <= zV F c i l /\ zV F c i l < (i : Int) + l.length):=by
 intro l
 induction l with
 | nil=>intro i; exact .inl rfl
 | cons x l ih=>
  intro i
  rw [zV]
  split
  ·right; simp only [List.length_cons]; omega
  ·rcases ih (i:=i + 1) with h | h
   ·exact .inl h
   ·right; simp only [List.length_cons]; omega
theorem EM (F : ShM) (l : List Int) (c : Int) : yw F l c = -1 \/ (0 <= yw F l c /\ yw F l c < l.length):=by
 have:=G8 (F:=F) (c:=c) (l:=l) (i:=0)
 unfold yw
 omega
theorem Lq {F : ShM} {k : Nat} {m : ImgM} (h : F k = some m) (c : Int) : hasC F (k : Int) c = (m.there c && decide (m.kind c≠0)):=by unfold hasC; rw [zn,h]
theorem lT {F : ShM} {x : Int} (h : ly F x) : ∃(k : Nat) (m : ImgM),x = k /\ k < 5 /\ F k = some m:=by
 obtain ⟨h0,h1,m,hm⟩:=h
 exact ⟨x.toNat,m,by omega,by omega,hm⟩
theorem QX {m : ImgM} (hm : m.Ok) {c : Int} (ht : m.there c = true) : 0 <= m.kind c /\ m.kind c <= 2:=by
 obtain ⟨k0,-,hkl⟩:=o6 hm ht
 have:=DQ (hm.ents _ (Bx hkl))
 unfold ImgM.kind
 omega
theorem LF (b : Nat) (A : Nat -> Nat×Nat×Nat) (F : ShM) (hF : ShOk F) (v : Value) (l : List Int) (hl : ∀x∈l,ly F x) (hl5 : l.length <= 5) (c : Int) (R : List SL.HP) (w : World) (hv : lS w v l) (H : own w (shL b A F++R)) :
  Calls Tryz.prog 152 #[.pointer (some ⟨b,0,none⟩),v,.int .i64 c] w fun e w'=>e = .returned (.int .i64 (yw F l c)) /\ w = w':=by
 obtain ⟨ao,lb,off,cap,rfl,hlc,hcap,hao,hat⟩:=hv.form
 generalize hres : yw F l c = res
 unfold yw at hres
 have HRES:=zh hres
 have HAO:=zh hao
 have HAT:=zh hat
 have HL:=zh hl
 have HOW:=zh H
 clear hres hao hat hl hv
 go_enter Tryz.func152,Tryz.ntmps152
 go_wp2_with fail
 go_loop [13] (fun i=>∃q : Nat,q <= l.length /\ i = .int .i64 q /\ zV F c q (l.drop q) = res) (fun i=>l.length - (intOf i).toNat)
 case atStart=>exact ⟨0,Nat.zero_le _,rfl,HRES.out⟩
 case round=>
  obtain ⟨q,hq,rfl,hgo⟩:=hrel
  by_cases hlt : q < l.length
  ·obtain rfl:=HAO.out (by omega)
   have c1:=HAT.out q hlt
   rw [zY 0 hlt,zV] at hgo
   obtain ⟨k,m,hxk,hk,hFk⟩:=lT (HL.out (l.getD q 0) (by simp [hlt]))
   rw [hxk] at c1 hgo
   rw [Lq hFk] at hgo
   have cell:=oA HOW.out hk
   rw [od hFk] at cell
   have i1 : (0 : Int) <= (k : Int):=by omega
   have i2 : (k : Int) < 5:=by omega
   have hm:=hF.ok k m hk hFk
   have hki:=Gg (A k).1 (A k).2.1 (A k).2.2 m hm c _ w (A1 hk hFk HOW.out)
   have HGO:=zh hgo
   clear hgo hxk
   cases ht : m.there c
   ·rw [ht,zq (by decide),show errV 1 = .iface 128 (.int .i64 1) from rfl] at hki
    have HK:=zh hki
    have HT:=zh ht
    clear hki ht hm hFk
    go_wp2_with fail
    refine HK.out.mono ?_
    rintro e w' ⟨rfl,rfl⟩
    go_wp2_with fail
    go_round
    case rel=>exact ⟨q + 1,by omega,by go_num,by have:=HGO.out; rw [HT.out] at this; simpa using this⟩
    case measure=>simp [intOf]; omega
   ·rw [ht,zt rfl] at hki
    have HK:=zh hki
    have HT:=zh ht
    clear hki ht hm hFk
    by_cases hz : m.kind c = 0
    ·rw [hz] at HK
     have HZ:=zh hz
     clear hz
     go_wp2_with fail
     refine HK.out.mono ?_
     rintro e w' ⟨rfl,rfl⟩
     go_wp2_with fail
     go_round
     case rel=>exact ⟨q + 1,by omega,by go_num,by have:=HGO.out; rw [HT.out,HZ.out] at this; simpa using this⟩
     case measure=>simp [intOf]; omega
    ·have t0 : (m.kind c != 0) = true:=bne_iff_ne.2 hz
     have HZ:=zh hz
     clear hz
     go_wp2_with fail
     refine HK.out.mono ?_
     rintro e w' ⟨rfl,rfl⟩
     go_wp2_with fail
     go_ret
     have:=HGO.out
     rw [HT.out,zt (by simpa using HZ.out)] at this
     exact ⟨A4 this,rfl⟩
  ·obtain rfl : l.length = q:=by omega
   rw [List.drop_of_length_le (Nat.le_refl _)] at hgo
   have hgo' : res = -1:=hgo.symm
   subst hgo'
   clear hgo
   go_wp2_with fail
   go_ret
   exact ⟨rfl,rfl⟩
theorem KQ (b : Nat) (A : Nat -> Nat×Nat) (F : ShM) (hF : ShOk F) (v : Value) (l : List Int) (hl : ∀x∈l,ly F x) (hl5 : l.length <= 5) (c : Int) (R : List SL.HP) (w : World) (hv : lS w v l) (H : own w (rshL b A F++R)) :
  Calls Tryz.prog 178 #[.pointer (some ⟨b,0,none⟩),v,.int .i64 c] w fun e w'=>e = .returned (.int .i64 (yw F l c)) /\ ∃n,w' = w.drewN n:=by
 obtain ⟨ao,lb,off,cap,rfl,hlc,hcap,hao,hat⟩:=hv.form
 generalize hres : yw F l c = res
 unfold yw at hres
 have HRES:=zh hres
 have HAO:=zh hao
 have HAT:=zh hat
 have HL:=zh hl
 have HOW:=zh H
 clear hres hao hat hl hv
 go_enter Tryz.func178,Tryz.ntmps178
 go_wp2_with fail
 go_loopw [7] (fun i wr=>∃q : Nat,q <= l.length /\ i = .int .i64 q /\ zV F c q (l.drop q) = res /\ ∃n,wr = w.drewN n) (fun i _=>l.length - (intOf i).toNat)
 case atStart=>exact ⟨0,Nat.zero_le _,rfl,HRES.out,0,rfl⟩
 case round=>
  obtain ⟨q,hq,rfl,hgo,nd,hwr⟩:=hrel
  have hown : own wr (rshL b A F++R):=by rw [hwr]; exact ll nd HOW.out
  by_cases hlt : q < l.length
  ·obtain rfl:=HAO.out (by omega)
   have c1 : wr.cell? ⟨lb,off + q,none⟩ = some (.int .i64 (l.getD q 0)):=by rw [hwr]; exact HAT.out q hlt
   rw [zY 0 hlt,zV] at hgo
   obtain ⟨k,m,hxk,hk,hFk⟩:=lT (HL.out (l.getD q 0) (by simp [hlt]))
   rw [hxk] at c1 hgo
   rw [Lq hFk] at hgo
   have cell:=yo hown hk
   rw [oT hFk] at cell
   obtain ⟨vt,vh,-,-,-,-,x4,-,x6⟩:=A7 hk hFk hown
   have i1 : (0 : Int) <= (k : Int):=by omega
   have i2 : (k : Int) < 5:=by omega
   have j1 : (0 : Int) <= (q : Int):=by omega
   have j2 : (q : Int) < (l.length : Int):=by omega
   have hm:=hF.ok k m hk hFk
   have hth:=fun (w' : World) (H : own w' (rshL b A F++R))=>BL (A k).1 (A k).2 m c _ w' (AZ hk hFk H)
   have HGO:=zh hgo
   have HW:=zh hwr
   clear hgo hxk hwr
   cases ht : m.there c
   ·rw [ht] at hth
    have HTH:=zh hth
    have HT:=zh ht
    clear hth ht hm hFk x4 x6
    go_upto_region 4 with (fail)
    go_quiet ((go_at_call 168; exact Calls.quiet_of_same ((HTH.out _ (by first | exact hown | exact lj hown | exact ll _ hown)).mono fun e w' h=>⟨h.1,h.2.symm⟩)))
    generalize nq = n1 at *
    go_wp2_with fail
    go_quiet (fail)
    go_wp2_with fail
    go_roundw
    case rel=>exact ⟨q + 1,by omega,by go_num,by have:=HGO.out; rw [HT.out] at this; simpa using this,nd + (n1 + nq),by rw [HW.out]; simp [C4,Nat.add_assoc]⟩
    case measure=>simp [intOf]; omega
   ·rw [ht] at hth
    have hkr:=QX hm ht
    obtain ⟨k0,-,hkl⟩:=o6 hm ht
    obtain ⟨cn,rfl⟩:=ze k0
    rw [zn] at hkl
    obtain ⟨eo,eb,eoff,ecap,rfl,e1,e2,e3⟩:=x6.form
    obtain rfl:=e3 (by omega)
    have y1 : wr.cell? ⟨eb,eoff + cn * 2,none⟩ = some (.int .i64 (m.kind (cn : Int))):=(x6.cells hkl).1
    have l1 : (cn : Int) < (m.t.length : Int):=by omega
    have l2 : (0 : Int) <= (cn : Int):=by omega
    have HTH:=zh hth
    have HT:=zh ht
    clear hth ht hm hFk x6 e3 k0
    by_cases hz : m.kind (cn : Int) = 0
    ·have d0 : decide (0 < m.kind (cn : Int)) = false:=zf (by omega)
     have HZ:=zh hz
     rw [hz] at y1
     clear hz hkr d0
     go_upto_region 4 with (fail)
     go_quiet ((go_at_call 168; exact Calls.quiet_of_same ((HTH.out _ (by first | exact hown | exact lj hown | exact ll _ hown)).mono fun e w' h=>⟨h.1,h.2.symm⟩)))
     generalize nq = n1 at *
     go_wp2_with fail
     go_quiet (fail)
     go_wp2_with fail
     go_roundw
     case rel=>exact ⟨q + 1,by omega,by go_num,by have:=HGO.out; rw [HT.out,HZ.out] at this; simpa using this,nd + (n1 + nq),by rw [HW.out]; simp [C4,Nat.add_assoc]⟩
     case measure=>simp [intOf]; omega
    ·have hp : 0 < m.kind (cn : Int):=by omega
     have HZ:=zh hz
     clear hz
     generalize m.kind (cn : Int) = kd at *
     go_upto_region 4 with (fail)
     go_quiet ((go_at_call 168; exact Calls.quiet_of_same ((HTH.out _ (by first | exact hown | exact lj hown | exact ll _ hown)).mono fun e w' h=>⟨h.1,h.2.symm⟩)))
     generalize nq = n1 at *
     go_wp2_with fail
     go_quiet (fail)
     go_wp2_with fail
     go_ret
     have:=HGO.out
     rw [HT.out,zt (by simpa using HZ.out)] at this
     exact ⟨A4 this,nd + (n1 + nq),by rw [HW.out]; simp [C4,Nat.add_assoc]⟩
  ·obtain rfl : l.length = q:=by omega
   rw [List.drop_of_length_le (Nat.le_refl _)] at hgo
   have hgo' : res = -1:=hgo.symm
   subst hgo'
   have HWR:=zh hwr
   clear hgo hwr
   go_wp2_with fail
   go_ret
   exact ⟨rfl,nd,HWR.out⟩
def IX (F : ShM) (x c : Int) : ByteArray×Int:=match F x.toNat with
 | some m=>m.read c
 | none=>(ByteArray.empty,4)
def EK (F : ShM) (x c : Int) : Bool:=match F x.toNat with
 | some m=>m.there c
 | none=>false
def K1 (F : ShM) (l : List Int) (c i : Int) : ByteArray×Int:=if i < 0 then (zs 64,0) else IX F (l.getD i.toNat 0) c
def oG (F : ShM) (l : List Int) (c : Int) : ByteArray×Int:=
 if l.length = 0 then (ByteArray.empty,4) else if EK F (l.getD 0 0) c = false then (ByteArray.empty,1) else K1 F l c (yw F l c)
theorem Gs (F : ShM) (l : List Int) (c : Int) : 0 <= (oG F l c).2:=by
 unfold oG
 split
 ·simp
 ·split
  ·simp
  ·unfold K1
   split
   ·simp
   ·unfold IX
    split
    ·exact OJ _ _
    ·simp
theorem oq {w : World} {lb off n cap : Nat} {l : List Int} (h : lS w (.slice (some ⟨lb,off,none⟩) n cap) l) {i : Nat} (hi : i < l.length) : w.cell? ⟨lb,off + i,none⟩ = some (.int .i64 (l.getD i 0)):=by
 obtain ⟨ao,lb',off',cap',hv,h1,h2,h3,h4⟩:=h.form
 simp only [Value.slice.injEq] at hv
 have h5:=h3 (by omega)
 rw [<- hv.1] at h5
 simp only [Option.some.injEq,Addr.mk.injEq,and_true] at h5
 obtain ⟨rfl,rfl⟩:=h5
 exact h4 i hi
theorem Ca {F : ShM} {k : Nat} {m : ImgM} (h : F k = some m) (c : Int) : EK F (k : Int) c = m.there c:=by unfold EK; rw [zn,h]
theorem GQ {F : ShM} {k : Nat} {m : ImgM} (h : F k = some m) (c : Int) : IX F (k : Int) c = m.read c:=by unfold IX; rw [zn,h]
theorem SW {b : Nat} {A : Nat -> Nat×Nat×Nat} {F : ShM} {k : Nat} (hk : k < 5) {m : ImgM} (h : F k = some m) (hm : m.Ok) (c : Int) (R : List SL.HP) (w : World) (H : own w (shL b A F++R)) :
  Calls Tryz.prog 153 #[.pointer (some ⟨(A k).1,0,none⟩),.int .i64 c] w fun e w'=>e = .returned (.tuple #[.string (m.read c).1,errV (m.read c).2]) /\ Ext w w' /\ own w' (shL b A F++R):=
 (U7 _ _ _ m hm c _ w (A1 hk h H)).mono fun e w' ⟨h1,h2,h3⟩=>⟨h1,h2,by have:=D8 hk h H h3; rwa [EY h] at this⟩
theorem Ql {b : Nat} {A : Nat -> Nat×Nat} {F : ShM} {k : Nat} (hk : k < 5) {m : ImgM} (h : F k = some m) (hm : m.Ok) (c : Int) (R : List SL.HP) (w : World) (H : own w (rshL b A F++R)) :
  Calls Tryz.prog 192 #[.pointer (some ⟨(A k).1,0,none⟩),.int .i64 c] w fun e w'=>e = .returned (.tuple #[.string (m.read c).1,.int .i64 (m.read c).2]) /\ Ext w w' /\ own w' (rshL b A F++R):=
 (Tw _ _ m hm c _ w (AZ hk h H)).mono fun e w' ⟨h1,h2,h3⟩=>⟨h1,h2,by have:=Ds hk h H h3; rwa [EY h] at this⟩
theorem N2 : zs 64 = ⟨#[0,0,0,0,0,0,0,0,0,0,0,0,0,0,0,0,0,0,0,0,0,0,0,0,0,0,0,0,0,0,0,0,0,0,0,0,0,0,0,0,0,0,0,0,0,0,0,0,0,0,0,0,0,0,0,0,0,0,0,0,0,0,0,0]⟩:=rfl
theorem GI (b : Nat) (A : Nat -> Nat×Nat×Nat) (F : ShM) (hF : ShOk F) (v : Value) (l : List Int) (hl : ∀x∈l,ly F x) (hl5 : l.length <= 5) (c : Int) (R : List SL.HP) (w : World) (hv : ∀w' L,own w' (L++R) -> lS w' v l) (H : own w (shL b A F++R)) :
  Calls Tryz.prog 59 #[.pointer (some ⟨b,0,none⟩),v,.int .i64 c] w fun e w'=>e = .returned (.tuple #[.string (oG F l c).1,errV (oG F l c).2]) /\ Ext w w' /\ own w' (shL b A F++R):=by
 have hv0:=hv w _ H
 obtain ⟨ao,lb,off,cap,rfl,hlc,hcap,hao,-⟩:=hv0.form
 generalize hres : oG F l c = res
 unfold oG at hres
 have HV:=zh hv
 by_cases h0 : l.length = 0
 ·rw [zt h0] at hres
  subst hres
  have t0 : ((l.length : Int) == 0) = true:=by simp [h0]
  have H0:=zh h0
  clear h0 hv hv0 hao
  go_enter Tryz.func59,Tryz.ntmps59
  go_wp2_with fail
  go_ret2
  exact ⟨rfl,zR _,H⟩
 ·rw [zq h0] at hres
  have t0 : ((l.length : Int) == 0) = false:=by rw [zb]; omega
  obtain rfl:=hao (by omega)
  have hpos : 0 < l.length:=by omega
  have c0 : w.cell? ⟨lb,off,none⟩ = some (.int .i64 (l.getD 0 0)):=oq hv0 hpos
  obtain ⟨k,m,hxk,hk,hFk⟩:=lT (hl (l.getD 0 0) (by simp [hpos]))
  rw [hxk] at c0 hres
  rw [Ca hFk] at hres
  have cell:=oA H hk
  rw [od hFk] at cell
  have i1 : (0 : Int) <= (k : Int):=by omega
  have i2 : (k : Int) < 5:=by omega
  have j2 : (0 : Int) < (l.length : Int):=by omega
  have hm:=hF.ok k m hk hFk
  have hki:=fun (w' : World) (H : own w' (shL b A F++R))=>Gg (A k).1 (A k).2.1 (A k).2.2 m hm c _ w' (A1 hk hFk H)
  have HRES:=zh hres
  have HFO:=zh (fun (w' : World) (H : own w' (shL b A F++R))=>LF b A F hF _ l hl hl5 c R w' (hv w' _ H) H)
  have HL:=zh hl
  clear hres hxk h0 hv hv0 hl hao
  cases ht : m.there c
  ·rw [ht,zq (by decide),show errV 1 = .iface 128 (.int .i64 1) from rfl] at hki
   have hr2:=HRES.out
   rw [ht,zt rfl] at hr2
   have HR2:=zh hr2
   have HK:=zh hki
   clear hki ht hm hFk hr2
   go_enter Tryz.func59,Tryz.ntmps59
   go_upto_region 3 with (fail)
   go_quiet ((go_at_call 151; exact Calls.quiet_of_same ((HK.out _ (by first | exact H | exact lj H | exact ll _ H)).mono fun e w' h=>⟨h.1,h.2.symm⟩)))
   go_wp2_with fail
   go_ret2
   rw [<- HR2.out]
   exact ⟨rfl,(zR w).drewN _,ll _ H⟩
  ·rw [ht,zt rfl] at hki
   have hr2:=HRES.out
   rw [ht,zq (by decide)] at hr2
   have HR2:=zh hr2
   have HK:=zh hki
   have hfr:=EM F l c
   clear hki ht hm hFk hr2
   generalize yw F l c = fi at *
   unfold K1 at HR2
   by_cases hneg : fi < 0
   ·have hr3:=HR2.out
    rw [zt hneg] at hr3
    have HR3:=zh hr3
    have d0 : decide (fi < 0) = true:=zg hneg
    clear hr3 hneg hfr
    go_enter Tryz.func59,Tryz.ntmps59
    go_upto_region 3 with (fail)
    go_quiet ((go_at_call 151; exact Calls.quiet_of_same ((HK.out _ (by first | exact H | exact lj H | exact ll _ H)).mono fun e w' h=>⟨h.1,h.2.symm⟩)))
    generalize nq = n1 at *
    go_wp2_with fail
    refine (HFO.out _ (ll n1 H)).mono ?_
    rintro e w' ⟨rfl,rfl⟩
    go_wp2_with fail
    go_ret2
    rw [<- HR3.out]
    exact ⟨rfl,(zR w).drewN _,ll _ H⟩
   ·have hr3:=HR2.out
    rw [zq hneg] at hr3
    have hfi : 0 <= fi /\ fi < l.length:=by omega
    obtain ⟨i,rfl⟩:=ze hfi.1
    have hil : i < l.length:=by omega
    rw [zn] at hr3
    obtain ⟨k2,m2,hxk2,hk2,hFk2⟩:=lT (HL.out (l.getD i 0) (by simp [hil]))
    rw [hxk2,GQ hFk2] at hr3
    have HR3:=zh hr3
    have HX2:=zh hxk2
    have HSR:=zh (fun (w : World) (H : own w (shL b A F++R))=>SW hk2 hFk2 (hF.ok k2 m2 hk2 hFk2) c R w H)
    have HF2:=zh hFk2
    have u1 : (0 : Int) <= (k2 : Int):=by omega
    have u2 : (k2 : Int) < 5:=by omega
    have u3 : (i : Int) < (l.length : Int):=by omega
    have u4 : (0 : Int) <= (i : Int):=by omega
    clear hr3 hneg hfr hfi hxk2 hFk2
    go_enter Tryz.func59,Tryz.ntmps59
    go_upto_region 3 with (fail)
    go_quiet ((go_at_call 151; exact Calls.quiet_of_same ((HK.out _ (by first | exact H | exact lj H | exact ll _ H)).mono fun e w' h=>⟨h.1,h.2.symm⟩)))
    generalize nq = n1 at *
    have hd:=ll n1 H
    have hxd:=(zR w).drewN n1
    generalize w.drewN n1 = w1 at *
    clear c0 cell
    go_wp2_with fail
    refine (HFO.out _ hd).mono ?_
    rintro e w' ⟨rfl,rfl⟩
    go_upto_region 9 with (fail)
    have hz:=lj hd
    have hxz:=hxd.drew
    go_region_held3 (fun w'=>w'.cell? ⟨lb,off + i,none⟩ = some (.int .i64 (k2 : Int)) /\ w'.cell? ⟨b,k2,none⟩ = some (.pointer (some ⟨(A k2).1,0,none⟩))) (exact ⟨by rw [<- HX2.out]; exact oq (HV.out _ _ hz) hil,by rw [oA hz hk2,od HF2.out]⟩) ((go_at_call 153; refine (HSR.out _ hz).mono ?_; rintro e w5 ⟨rfl,hx5,hz'⟩; have hxz:=hxz.trans hx5; have hz:=hz'))
    go_wp2_with fail
    go_ret2
    rw [<- HR3.out]
    exact ⟨rfl,hxz,hz⟩
theorem FD (b : Nat) (A : Nat -> Nat×Nat) (F : ShM) (hF : ShOk F) (v : Value) (l : List Int) (hl : ∀x∈l,ly F x) (hl5 : l.length <= 5) (c : Int) (R : List SL.HP) (w : World) (hv : ∀w' L,own w' (L++R) -> lS w' v l) (H : own w (rshL b A F++R)) :
  Calls Tryz.prog 181 #[.pointer (some ⟨b,0,none⟩),v,.int .i64 c] w fun e w'=>e = .returned (.tuple #[.string (oG F l c).1,.int .i64 (oG F l c).2]) /\ Ext w w' /\ own w' (rshL b A F++R):=by
 have hv0:=hv w _ H
 obtain ⟨ao,lb,off,cap,rfl,hlc,hcap,hao,-⟩:=hv0.form
 generalize hres : oG F l c = res
 unfold oG at hres
 have HV:=zh hv
 by_cases h0 : l.length = 0
 ·rw [zt h0] at hres
  subst hres
  have t0 : ((l.length : Int) == 0) = true:=by simp [h0]
  have H0:=zh h0
  clear h0 hv hv0 hao
  go_enter Tryz.func181,Tryz.ntmps181
  go_wp2_with fail
  go_ret2
  exact ⟨rfl,zR _,H⟩
 ·rw [zq h0] at hres
  have t0 : ((l.length : Int) == 0) = false:=by rw [zb]; omega
  obtain rfl:=hao (by omega)
  have hpos : 0 < l.length:=by omega
  have c0 : w.cell? ⟨lb,off,none⟩ = some (.int .i64 (l.getD 0 0)):=oq hv0 hpos
  obtain ⟨k,m,hxk,hk,hFk⟩:=lT (hl (l.getD 0 0) (by simp [hpos]))
  rw [hxk] at c0 hres
  rw [Ca hFk] at hres
  have cell:=yo H hk
  rw [oT hFk] at cell
  have i1 : (0 : Int) <= (k : Int):=by omega
  have i2 : (k : Int) < 5:=by omega
  have j2 : (0 : Int) < (l.length : Int):=by omega
  have hm:=hF.ok k m hk hFk
  have hki:=fun (w' : World) (H : own w' (rshL b A F++R))=>BL (A k).1 (A k).2 m c _ w' (AZ hk hFk H)
  have HRES:=zh hres
  have HFO:=zh (fun (w' : World) (H : own w' (rshL b A F++R))=>KQ b A F hF _ l hl hl5 c R w' (hv w' _ H) H)
  have HL:=zh hl
  clear hres hxk h0 hv hv0 hl hao
  cases ht : m.there c
  ·rw [ht] at hki
   have hr2:=HRES.out
   rw [ht,zt rfl] at hr2
   have HR2:=zh hr2
   have HK:=zh hki
   clear hki ht hm hFk hr2
   go_enter Tryz.func181,Tryz.ntmps181
   go_upto_region 3 with (fail)
   go_quiet ((go_at_call 168; exact Calls.quiet_of_same ((HK.out _ (by first | exact H | exact lj H | exact ll _ H)).mono fun e w' h=>⟨h.1,h.2.symm⟩)))
   go_wp2_with fail
   go_ret2
   rw [<- HR2.out]
   exact ⟨rfl,(zR w).drewN _,ll _ H⟩
  ·rw [ht] at hki
   have hr2:=HRES.out
   rw [ht,zq (by decide)] at hr2
   have HR2:=zh hr2
   have HK:=zh hki
   have hfr:=EM F l c
   clear hki ht hm hFk hr2
   generalize yw F l c = fi at *
   unfold K1 at HR2
   by_cases hneg : fi < 0
   ·have hr3:=HR2.out
    rw [zt hneg] at hr3
    have HR3:=zh hr3
    have d0 : decide (fi < 0) = true:=zg hneg
    clear hr3 hneg hfr
    go_enter Tryz.func181,Tryz.ntmps181
    go_upto_region 3 with (fail)
    go_quiet ((go_at_call 168; exact Calls.quiet_of_same ((HK.out _ (by first | exact H | exact lj H | exact ll _ H)).mono fun e w' h=>⟨h.1,h.2.symm⟩)))
    generalize nq = n1 at *
    go_wp2_with fail
    refine (HFO.out _ (ll n1 H)).mono ?_
    rintro e w' ⟨rfl,n2,rfl⟩
    go_wp2_with fail
    refine (Bm 64 (by decide) _ _ (ll (n1 + n2) H)).mono ?_
    rintro e w5 ⟨rfl,hx5,h5⟩
    go_wp2_with fail
    go_ret2
    rw [<- HR3.out]
    exact ⟨rfl,((zR w).drewN _).trans hx5,h5⟩
   ·have hr3:=HR2.out
    rw [zq hneg] at hr3
    have hfi : 0 <= fi /\ fi < l.length:=by omega
    obtain ⟨i,rfl⟩:=ze hfi.1
    have hil : i < l.length:=by omega
    rw [zn] at hr3
    obtain ⟨k2,m2,hxk2,hk2,hFk2⟩:=lT (HL.out (l.getD i 0) (by simp [hil]))
    rw [hxk2,GQ hFk2] at hr3
    have HR3:=zh hr3
    have HX2:=zh hxk2
    have HSR:=zh (fun (w : World) (H : own w (rshL b A F++R))=>Ql hk2 hFk2 (hF.ok k2 m2 hk2 hFk2) c R w H)
    have HF2:=zh hFk2
    have u1 : (0 : Int) <= (k2 : Int):=by omega
    have u2 : (k2 : Int) < 5:=by omega
    have u3 : (i : Int) < (l.length : Int):=by omega
    have u4 : (0 : Int) <= (i : Int):=by omega
    clear hr3 hneg hfr hfi hxk2 hFk2
    go_enter Tryz.func181,Tryz.ntmps181
    go_upto_region 3 with (fail)
    go_quiet ((go_at_call 168; exact Calls.quiet_of_same ((HK.out _ (by first | exact H | exact lj H | exact ll _ H)).mono fun e w' h=>⟨h.1,h.2.symm⟩)))
    generalize nq = n1 at *
    have hd:=ll n1 H
    have hxd:=(zR w).drewN n1
    generalize w.drewN n1 = w1 at *
    clear c0 cell
    go_wp2_with fail
    refine (HFO.out _ hd).mono ?_
    rintro e w' ⟨rfl,n2,rfl⟩
    have hd2:=ll n2 hd
    have hxd2:=hxd.drewN n2
    generalize w1.drewN n2 = w2 at *
    go_upto_region 9 with (fail)
    have hz:=lj hd2
    have hxz:=hxd2.drew
    go_region_held3 (fun w'=>w'.cell? ⟨lb,off + i,none⟩ = some (.int .i64 (k2 : Int)) /\ w'.cell? ⟨b,k2,none⟩ = some (.pointer (some ⟨(A k2).1,0,none⟩))) (exact ⟨by rw [<- HX2.out]; exact oq (HV.out _ _ hz) hil,by rw [yo hz hk2,oT HF2.out]⟩) ((go_at_call 192; refine (HSR.out _ hz).mono ?_; rintro e w5 ⟨rfl,hx5,hz'⟩; have hxz:=hxz.trans hx5; have hz:=hz'))
    go_wp2_with fail
    go_ret2
    rw [<- HR3.out]
    exact ⟨rfl,hxz,hz⟩
end Go.Proofs.YtbpblokfiajpjabGreatDoor
