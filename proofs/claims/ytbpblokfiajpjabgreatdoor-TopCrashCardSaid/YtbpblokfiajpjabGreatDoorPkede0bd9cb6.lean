/- Lemmas on which TopAlone and TopCrash stands: the texts Guest3 Guest4 Guest5 Alone1 Alone2 Alone3. No conditions. -/
import Derived.Test.YtbpblokfiajpjabGreatDoorPk0624c5dae5
set_option linter.all false
set_option maxRecDepth 1000000
set_option maxHeartbeats 32000000
namespace Go.Proofs.YtbpblokfiajpjabGreatDoor
open Go.RowKit Go.SL Go.Crc
attribute [local go_sem ↓] Go.wp_at_zero Go.wp_at_succ
def o8 (f : Nat -> List ByteArray) (l : List (List ByteArray)) : Nat -> List (List ByteArray)
 | 0=>l
 | q + 1=>(o8 f l q).set q (f q)
theorem BM (f : Nat -> List ByteArray) (l : List (List ByteArray)) : ∀q,(o8 f l q).length = l.length:=by
 intro q
 induction q with
 | zero=>rfl
 | succ q ih=>rw [o8,List.length_set]; exact ih
theorem Js {f : Nat -> List ByteArray} {l : List (List ByteArray)} : ∀{q : Nat},q <= l.length -> ∀i,lsAt (o8 f l q) i = if i < q then f i else lsAt l i:=by
 intro q
 induction q with
 | zero=>intro _ i; rw [zq (by omega)]; rfl
 | succ q ih=>
  intro h i
  rw [o8,Gb (by rw [BM]; omega),ih (by omega)]
  by_cases e : i = q
  ·subst e; rw [zt rfl,zt (by omega)]
  ·rw [zq e]
   by_cases h2 : i < q
   ·rw [zt h2,zt (by omega)]
   ·rw [zq h2,zq (by omega)]
theorem UE {l m : List (List ByteArray)} (hl : l.length = m.length) (h : ∀i,i < l.length -> lsAt l i = lsAt m i) : l = m:=by
 apply List.ext_getElem hl
 intro i h1 h2
 have:=h i h1
 unfold lsAt at this
 rw [List.getD_eq_getElem?_getD,List.getD_eq_getElem?_getD,List.getElem?_eq_getElem h1,List.getElem?_eq_getElem h2] at this
 exact this
theorem GP {f : Nat -> List ByteArray} {l m : List (List ByteArray)} (hl : m.length = l.length) (h : ∀i,i < l.length -> f i = lsAt m i) : o8 f l l.length = m:=by
 refine UE (by rw [BM,hl]) fun i hi=>?_
 rw [BM] at hi
 rw [Js (Nat.le_refl _),zt hi,h i hi]
theorem Wl (gb : Nat) (vn vc : Value) (nv0 cv0 : Nat -> Value) (g : lO) (s : ByteArray) (hs : M1 g.now s) (hn : g.now.length <= 1000) {B : Nat} (hB : LsOk g B) (hB2 : B <= 100000) (R : List SL.HP) (w : World) (H : own w (gL gb vn vc nv0 cv0 g++R)) :
  Calls Tryz.prog 44 #[.pointer (some ⟨gb,0,none⟩),.string s] w fun e w'=>∃nv,e = .returned (.bool true) /\ Ext w w' /\ own w' (gL gb vn vc nv cv0 (sawM g s)++R):=by
 obtain ⟨hs1,hs2⟩:=hs
 have HSEC:=zh (fun k (hk : k < g.now.length) (w : World)=>FI s k (by omega) (by omega) w)
 have HL:=zh (fun k=>BM (fun i=>[lw s i]) g.now k)
 have HAT:=zh (fun k (hk : k <= g.now.length) i=>Js (f:=fun i=>[lw s i]) hk i)
 have HB:=zh hB
 have HS2:=zh hs2
 have HE:=zh (show sawM g s = { g with now:=o8 (fun i=>[lw s i]) g.now g.now.length } by
  unfold sawM
  rw [GP (m:=(List.range g.now.length).map fun i=>[lw s i]) (by simp)]
  intro i hi
  unfold lsAt
  rw [List.getD_eq_getElem?_getD,List.getElem?_map,List.getElem?_range hi]
  rfl)
 have hz16 : (s.size : Int) = 16 * (g.now.length : Int):=by omega
 obtain ⟨ao0,a0,cap0,hv0,-,-,h30,-,-,-,-⟩:=lm 1 H rfl
 have hc0:=(Ax H).1
 clear hB hs1 hs2
 generalize hgn : g.now.length = n at *
 have HGN:=zh hgn
 clear hgn
 rw [hv0] at hc0
 go_enter Tryz.func44,Tryz.ntmps44
 go_wp2_with fail
 go_loopw [5] (fun kv wr=>∃(k : Nat) (nv : Nat -> Value),k <= n /\ kv = .int .i64 k /\ Ext w wr /\ own wr (gL gb vn vc nv cv0 { g with now:=o8 (fun i=>[lw s i]) g.now k }++R)) (fun kv _=>n - (intOf kv).toNat)
 case atStart=>exact ⟨0,nv0,by omega,rfl,zR w,H⟩
 case round=>
  clear H hc0
  obtain ⟨k,nv,hk,rfl,hxr,hown⟩:=hrel
  obtain ⟨c0,-,-,-⟩:=Ax hown
  rw [hv0] at c0
  by_cases hlt : k < n
  ·have hsec:=HSEC.out k hlt wr
   have hlen:=HL.out k
   have hki : k < (o8 (fun i=>[lw s i]) g.now k).length:=by omega
   obtain rfl:=h30 (by omega)
   have e0 : lsAt (o8 (fun i=>[lw s i]) g.now k) k = lsAt g.now k:=by rw [HAT.out k hk k,zq (by omega)]
   have HHAS:=zh (WL (gb:=gb) (vn:=vn) (vc:=vc) (cn:=nv) (rn:=nv) (cc:=cv0) (rc:=cv0) (g:={ g with now:=o8 (fun i=>[lw s i]) g.now k }) (R:=R) (w:=wr) (i:=k) hki (by show (lsAt (o8 _ _ _) k).length <= _; rw [e0]; have:=(HB.out k (by rw [HGN.out]; exact hlt)).2.1; omega) (lw s k) (by show _∈lsAt (o8 _ _ _) k; rw [e0]; exact HS2.out k hlt) hown)
   have HNX : Hid (o8 (fun i=>[lw s i]) g.now (k + 1) = (o8 (fun i=>[lw s i]) g.now k).set k [lw s k]):=zh rfl
   have HLL:=zh hlen
   clear hlen e0
   generalize o8 (fun i=>[lw s i]) g.now k = nk at *
   generalize lw s k = t at *
   have s2:=(AO (g:={ g with now:=nk }) hv0 HLL.out hlt hown).1
   have p1 : (0 : Int) <= (k : Int):=by omega
   have p3 : (k : Int) < (n : Int):=by omega
   have h2:=Dt t hown
   have hx2:=hxr.alloc (.cells #[.string t] 9)
   obtain ⟨c1,f1⟩:=AO (g:={ g with now:=nk }) hv0 HLL.out hlt (lg h2)
   have h3:=Dx (g:={ g with now:=nk.set k [t] }) hv0 (by dsimp only; rw [List.length_set]; exact HLL.out) hlt (.slice (some ⟨wr.heap.size,0,none⟩) 1 1) (Fb hki (.slice (some ⟨wr.heap.size,0,none⟩) 1 1) [t] h2)
   have hx3:=hx2.setCell ⟨a0,k,none⟩ (.slice (some ⟨wr.heap.size,0,none⟩) 1 1)
   clear hown hxr h2 hx2 hki
   go_wp2_with fail
   refine hsec.mono ?_
   rintro e w1 ⟨rfl,rfl⟩
   go_wp2_with fail
   refine HHAS.out.mono ?_
   rintro e w1 ⟨rfl,rfl⟩
   go_wp2_with fail
   go_roundw
   case rel=>exact ⟨k + 1,_,by omega,by go_num,hx3,by rw [HNX.out]; exact h3⟩
   case measure=>simp [intOf]; omega
  ·obtain rfl : k = n:=by omega
   go_wp2_with fail
   go_ret
   exact ⟨nv,rfl,hxr,by rw [HE.out]; exact hown⟩
theorem Nh {w : World} {L : List SL.HP} {v : Value} {n : Nat} {xs : List Value} (H : own w (row 9 1 v n xs::L)) : own w (rowo 9 1 v n xs::L):=JW 0 H rfl
theorem Pu (gb : Nat) (vn vc : Value) (nv cv0 : Nat -> Value) (g : lO) (hc : g.cr.length = g.now.length) (hn : g.now.length <= 1000) {B : Nat} (hB : LsOk g B) (hB2 : B <= 100000) (R : List SL.HP) (w : World) (H : own w (gL gb vn vc nv cv0 g++R)) :
  Calls Tryz.prog 141 #[.pointer (some ⟨gb,0,none⟩)] w fun e w'=>∃cv,e = .returned (.tuple #[]) /\ Ext w w' /\ own w' (gL gb vn vc nv cv (Cp g)++R):=by
 have HL:=zh (fun k=>BM (lsAt g.now) g.cr k)
 have HB:=zh hB
 have HE:=zh (show Cp g = { g with cr:=o8 (lsAt g.now) g.cr g.now.length } by
  unfold Cp
  rw [<- hc,GP (m:=g.now) hc.symm fun i _=>rfl])
 obtain ⟨ao0,a0,cap0,hv0,-,-,h30,-,-,-,-⟩:=lm 1 H rfl
 obtain ⟨ao1,a1,cap1,hv1,-,-,h31,-,-,-,-⟩:=lm 2 H rfl
 clear hB
 rw [hc] at hv1 h31 HL
 generalize hgn : g.now.length = n at *
 have HGN:=zh hgn
 have HC:=zh hc
 clear hgn hc
 go_enter Tryz.func141,Tryz.ntmps141
 go_wp2_with fail
 go_loopw [2] (fun kv wr=>∃(k : Nat) (cv : Nat -> Value),k <= n /\ kv = .int .i64 k /\ Ext w wr /\ own wr (gL gb vn vc nv cv { g with cr:=o8 (lsAt g.now) g.cr k }++R)) (fun kv _=>n - (intOf kv).toNat)
 case atStart=>exact ⟨0,cv0,by omega,rfl,zR w,H⟩
 case round=>
  clear H
  obtain ⟨k,cv,hk,rfl,hxr,hown⟩:=hrel
  obtain ⟨c0,d0,-,-⟩:=Ax hown
  rw [hv0] at c0
  rw [hv1] at d0
  by_cases hlt : k < n
  ·have hlen:=HL.out k
   obtain rfl:=h30 (by omega)
   obtain rfl:=h31 (by omega)
   obtain ⟨ln1,ln2,-,-⟩:=HB.out k (by rw [HGN.out]; exact hlt)
   have HNX : Hid (o8 (lsAt g.now) g.cr (k + 1) = (o8 (lsAt g.now) g.cr k).set k (lsAt g.now k)):=zh rfl
   have HLL:=zh hlen
   clear hlen
   generalize hck : o8 (lsAt g.now) g.cr k = ck at *
   clear hck
   have hk2 : k < ck.length:=by rw [HLL.out]; exact hlt
   have s2:=(AO (g:={ g with cr:=ck }) hv0 HGN.out hlt hown).1
   obtain ⟨ao9,g9,o9,cp9,hv9,q1,q2,q3,q4,-⟩:=Bt _ hown (JZ (g:={ g with cr:=ck }) (i:=k) (by rw [HGN.out]; exact hlt))
   obtain rfl:=q3 ln1
   rw [hv9] at s2
   have p1 : (0 : Int) <= (k : Int):=by omega
   have p3 : (k : Int) < (n : Int):=by omega
   have e2 : IntKind.i64.wrap (k : Int) = (k : Int):=zi _ (by omega)
   have H5:=zh (lF 9 1 (ln hown))
   have HX5:=zh hxr.drew
   have HV0:=zh hv0
   have HV1:=zh hv1
   have HV9:=zh hv9
   have HQ4:=zh q4
   have hml : 0 + (lsAt g.now k).length <= maxLen:=by simp only [maxLen]; omega
   have hby : (0 + (lsAt g.now k).length) * 16 <= 140737488355328:=by omega
   have HS:=zh (fun (wx : World) (cc' rc' : Nat -> Value) (g' : List (List ByteArray)) (h : own wx (gP gb vn vc nv nv cc' rc' { g with cr:=g' }++R))=>show wx.cell? ⟨gb,0,none⟩ = some (.slice (some ⟨a0,0,none⟩) n cap0) /\ wx.cell? ⟨gb,1,none⟩ = some (.slice (some ⟨a1,0,none⟩) n cap1) /\ wx.cell? ⟨a0,k,none⟩ = some (.slice (some ⟨g9,o9,none⟩) (lsAt g.now k).length cp9) from
    ⟨((Ax h).1).trans (congrArg some HV0.out),((Ax h).2.1).trans (congrArg some HV1.out),((AO (g:={ g with cr:=g' }) HV0.out HGN.out hlt h).1).trans (congrArg some HV9.out)⟩)
   clear hv0 hv1 hv9 q1 q2 q3 q4 hown hxr
   go_upto_region 3 with (fail)
   refine wp_region_held_drew (S:=fun w'=>w'.cell? ⟨gb,0,none⟩ = some (.slice (some ⟨a0,0,none⟩) n cap0) /\ w'.cell? ⟨gb,1,none⟩ = some (.slice (some ⟨a1,0,none⟩) n cap1) /\ w'.cell? ⟨a0,k,none⟩ = some (.slice (some ⟨g9,o9,none⟩) (lsAt g.now k).length cp9)) (by kernel_rfl) ⟨c0,d0,s2⟩ (fun hHeld=>?_)
   refine tk 0 ?_
   refine tk 1 ?_
   refine tk 2 ?_
   refine tk 3 ?_
   refine tk 4 ?_
   refine tk 5 ?_
   refine tk 6 ?_
   refine tk 7 ?_
   refine tk 8 ?_
   refine tk 9 ?_
   refine tk 10 ?_
   refine tk 11 ?_
   try simp only [Act.put,tA,tB,tC,tD,tE,tF]
   clear c0 d0 s2
   refine rd 12 rfl fun K hK=>?_
   have h5:=H5.out
   refine Af (by rfl) _ _ 206 (by rfl) 0 9 Tryz.underlying206 AX rfl (by decide) (by rfl) h5 rfl (some ⟨g9,o9,none⟩) (lsAt g.now k).length cp9 (strCells (lsAt g.now k)) (by rfl) (by simp [strCells]) (fun ad had j u hu=>by cases had; rw [add_none]; exact HQ4.out j u hu) (fun h=>by cases h) (fun u hu=>by simp only [strCells,List.mem_map] at hu; obtain ⟨s,-,rfl⟩:=hu; rfl) hml hby ?_
   intro v6 w6 h6 hx6
   replace hx6:=HX5.out.trans hx6
   obtain ⟨aoz,gz,cpz,hz,-⟩:=lm 0 h6 rfl
   rw [Nat.zero_add] at hz
   subst hz
   replace h6 : own w6 (rowo 9 1 (.slice aoz (lsAt g.now k).length cpz) (lsAt g.now k).length (strCells (lsAt g.now k))::(gP gb vn vc nv nv cv cv { g with cr:=ck }++R)):=by
    rw [Nat.zero_add,List.nil_append] at h6
    exact Nh h6
   have h7:=Ke (g:={ g with cr:=ck }) hk2 (.slice aoz (lsAt g.now k).length cpz) (lsAt g.now k) h6
   refine hK.out _ _ (HS.out _ _ _ _ h7) (fun _=>?_)
   clear hK K h5 h6
   try simp only [Act.put,tA,tB,tC,tD,tE,tF]
   refine tk 13 ?_
   try simp only [Act.put,tA,tB,tC,tD,tE,tF]
   refine rd 14 rfl fun K hK=>?_
   obtain ⟨s4,f4⟩:=Dp (g:={ g with cr:=ck.set k (lsAt g.now k) }) HV1.out (by dsimp only; rw [List.length_set]; exact HLL.out) hlt h7
   have h8:=F9 (g:={ g with cr:=ck.set k (lsAt g.now k) }) HV1.out (by dsimp only; rw [List.length_set]; exact HLL.out) hlt (.slice aoz (lsAt g.now k).length cpz) h7
   have hx8:=hx6.setCell ⟨a1,k,none⟩ (.slice aoz (lsAt g.now k).length cpz)
   go_simp
   refine hK.out _ _ (HS.out _ _ _ _ h8) (fun _=>?_)
   clear hK K s4 f4 h7 hx6
   try simp only [Act.put,tA,tB,tC,tD,tE,tF]
   refine wpAnyH_done (by kernel_rfl) ?_ _
   generalize w6.setCell ⟨a1,k,none⟩ (.slice aoz (lsAt g.now k).length cpz) = w8 at *
   go_wp2_with fail
   go_roundw
   case rel=>exact ⟨k + 1,_,by omega,by go_num,hx8,by rw [HNX.out]; exact h8⟩
   case measure=>simp [intOf]; omega
  ·obtain rfl : k = n:=by omega
   go_wp2_with fail
   go_end0
   exact ⟨cv,rfl,hxr,by rw [HE.out]; exact hown⟩
theorem J3 {n : Nat} (vs : Nat -> Value) {l : List (List ByteArray)} (hl : l.length = n) (v : Value) (x : List ByteArray) : yo (n + 1) (upd vs n v) (lsAt (l++[x])) = yo n vs (lsAt l)++[rowo 9 1 v x.length (strCells x)]:=by
 rw [<- S6]
 unfold yo
 refine List.map_congr_left fun k hk=>?_
 have hk:=List.mem_range.1 hk
 have e : lsAt (l++[x]) k = upd (lsAt l) n x k:=by
  unfold lsAt
  by_cases h : k = n
  ·subst h
   rw [BR,List.getD_eq_getElem?_getD,List.getElem?_append_right (by omega),hl,Nat.sub_self]
   rfl
  ·rw [AK _ _ h,List.getD_eq_getElem?_getD,List.getElem?_append_left (by omega),List.getD_eq_getElem?_getD]
 rw [e]
theorem Pm {gb : Nat} {vn' vc : Value} {nv cv : Nat -> Value} {g : lO} {R : List SL.HP} {w : World} {s : Value} {x : List ByteArray} {n : Nat} (hn : g.now.length = n)
  (H : own w (rowo 9 1 s x.length (strCells x)::([pts gb (.cells #[vn',vc] 204 (0,0)),row 206 1 vn' (n + 1) (oR n nv++[s]),row 206 1 vc g.cr.length (oR g.cr.length cv)]++(yo n nv (lsAt g.now)++(yo g.cr.length cv (lsAt g.cr)++R))))) :
  own w (gL gb vn' vc (upd nv n s) cv { g with now:=g.now++[x] }++R):=by
 subst hn
 rw [AY]
 dsimp only
 rw [List.length_append,List.length_singleton,IW,J3 nv rfl]
 have h1:=lC ([pts gb (.cells #[vn',vc] 204 (0,0)),row 206 1 vn' (g.now.length + 1) (oR g.now.length nv++[s]),row 206 1 vc g.cr.length (oR g.cr.length cv)]++yo g.now.length nv (lsAt g.now)) (R:=yo g.cr.length cv (lsAt g.cr)++R) (by simp only [zp]; exact H)
 simp only [zp] at h1 ⊢
 exact h1
theorem Q7 {gb : Nat} {vn vc' : Value} {nv cv : Nat -> Value} {g : lO} {R : List SL.HP} {w : World} {s : Value} {x : List ByteArray} {n : Nat} (hn : g.cr.length = n)
  (H : own w (rowo 9 1 s x.length (strCells x)::([pts gb (.cells #[vn,vc'] 204 (0,0)),row 206 1 vn g.now.length (oR g.now.length nv),row 206 1 vc' (n + 1) (oR n cv++[s])]++(yo g.now.length nv (lsAt g.now)++(yo n cv (lsAt g.cr)++R))))) :
  own w (gL gb vn vc' nv (upd cv n s) { g with cr:=g.cr++[x] }++R):=by
 subst hn
 rw [AY]
 dsimp only
 rw [List.length_append,List.length_singleton,IW,J3 cv rfl]
 have h1:=lC ([pts gb (.cells #[vn,vc'] 204 (0,0)),row 206 1 vn g.now.length (oR g.now.length nv),row 206 1 vc' (g.cr.length + 1) (oR g.cr.length cv++[s])]++(yo g.now.length nv (lsAt g.now)++yo g.cr.length cv (lsAt g.cr))) (R:=R) (by simp only [zp]; exact H)
 simp only [zp] at h1 ⊢
 exact h1
theorem Mk (v : Value) (h : v.oneCell' = true) : ∀u∈[v],u.oneCell' = true:=fun u hu=>by rw [List.mem_singleton.1 hu]; exact h
theorem LC (n : Nat) (hn : n <= 1000) (R : List SL.HP) (w : World) (H : own w R) :
  Calls Tryz.prog 52 #[.int .i64 n] w fun e w'=>∃gb vn vc nv cv,e = .returned (.pointer (some ⟨gb,0,none⟩)) /\ Ext w w' /\ own w' (gL gb vn vc nv cv (yY n)++R):=by
 have HF:=zh (fun q=>show yY (q + 1) = { now:=(yY q).now++[[zs 16]],cr:=(yY q).cr++[[zs 16]] } by unfold yY; rw [List.replicate_succ'])
 have HL:=zh (fun q=>show (yY q).now.length = q /\ (yY q).cr.length = q from ⟨List.length_replicate,List.length_replicate⟩)
 have h1:=lh (lF 206 1 (lF 206 1 H)) (.cells #[.slice none 0 0,.slice none 0 0] 204)
 have hx1:=(zR w).alloc (.cells #[.slice none 0 0,.slice none 0 0] 204)
 have h2 : own (w.alloc (.cells #[.slice none 0 0,.slice none 0 0] 204)) (gL w.heap.size (.slice none 0 0) (.slice none 0 0) (fun _=>undef) (fun _=>undef) (yY 0)++R):=h1
 clear h1 H
 go_enter Tryz.func52,Tryz.ntmps52
 go_upto_region 2 with (fail)
 generalize w.alloc (.cells #[.slice none 0 0,.slice none 0 0] 204) = w1 at *
 generalize w.heap.size = gb at *
 go_wp2_with fail
 go_loopw [4] (fun kv wr=>∃(k : Nat) (vn vc : Value) (nv cv : Nat -> Value),k <= n /\ kv = .int .i64 k /\ Ext w wr /\ own wr (gL gb vn vc nv cv (yY k)++R)) (fun kv _=>n - (intOf kv).toNat)
 case atStart=>exact ⟨0,_,_,_,_,by omega,rfl,hx1,h2⟩
 case round=>
  clear h2 hx1
  obtain ⟨k,vn,vc,nv,cv,hk,rfl,hxr,hown⟩:=hrel
  by_cases hlt : k < n
  ·have hml : k + 1 <= maxLen:=by simp only [maxLen]; omega
   obtain ⟨ln1,ln2⟩:=HL.out k
   have HNX:=HF.out k
   generalize yY k = gk at *
   have HLN:=zh ln1
   have HLC:=zh ln2
   have HNX:=zh HNX
   have hyy:=ln hown
   rw [AY,ln1,ln2] at hyy
   obtain ⟨c,f⟩:=ld 0 hyy rfl
   have c0:=c 0
   clear ln1 ln2 c
   go_upto_region 5 with (fail)
   go_region_law (first | (refine Af (by rfl) _ _ 202 (by rfl) 3 206 Tryz.underlying202 Ku rfl (by decide) (by rfl) h4 rfl (some ⟨w2.heap.size + 1,0,none⟩) 1 1 [.slice (some ⟨w2.heap.size,0,none⟩) 1 1] (by rfl) rfl hnews (fun h=>by cases h) (Mk _ rfl) hml (by omega) ?_; intro v5 w5 h5 hx5; obtain ⟨a5,g5,c5,rfl,s1,s2,s3,-,-,-,-⟩:=lm 3 h5 rfl; obtain ⟨cc,ff⟩:=ld 2 h5 rfl) | (go_simp; go_at_call 92; refine (Fd 16 (by decide) _ _ hyy).mono ?_; rintro e w2 ⟨rfl,hx2,h2⟩; have d0:=(ld 0 h2 rfl).1 0; have h3:=Dt (zs 16) h2; have d1:=(ld 1 h3 rfl).1 0; have h4:=lh h3 (.cells #[.slice (some ⟨w2.heap.size,0,none⟩) 1 1] 206); have hnews:=yl (w2.alloc (.cells #[.string (zs 16)] 9)) [.slice (some ⟨w2.heap.size,0,none⟩) 1 1] 206; have es : (w2.alloc (.cells #[.string (zs 16)] 9)).heap.size = w2.heap.size + 1:=World.size_alloc _ _; simp only [es] at h4 hnews; have d2:=(ld 2 h4 rfl).1 0))
   all_goals
    obtain rfl:=s3 (by omega)
    have h6:=li 0 (lp 2 (i:=0) (v:=.slice (some ⟨g5,0,none⟩) (k + 1) c5) h5 rfl) rfl
    have hx6:=((((hxr.drew.trans hx2).alloc (.cells #[.string (zs 16)] 9)).alloc (.cells #[.slice (some ⟨w2.heap.size,0,none⟩) 1 1] 206)).trans hx5).setCell ⟨gb,0,none⟩ (.slice (some ⟨g5,0,none⟩) (k + 1) c5)
    have h7 : own (w5.setCell ⟨gb,0,none⟩ (.slice (some ⟨g5,0,none⟩) (k + 1) c5)) (gL gb (.slice (some ⟨g5,0,none⟩) (k + 1) c5) vc (upd nv k (.slice (some ⟨w2.heap.size,0,none⟩) 1 1)) cv { gk with now:=gk.now++[[zs 16]] }++R):=Pm HLN.out (by rw [HLC.out]; exact h6)
    clear hown hyy h2 h3 h4 h5 h6 hx2 hx5 hxr hnews c0 d0 d1 d2 cc ff f es
    generalize w5.setCell ⟨gb,0,none⟩ (.slice (some ⟨g5,0,none⟩) (k + 1) c5) = w6 at *
    generalize upd nv k (.slice (some ⟨w2.heap.size,0,none⟩) 1 1) = nv6 at *
    generalize (Value.slice (some ⟨g5,0,none⟩) (k + 1) c5) = vn6 at *
    have HLN6 : Hid ((gk.now++[[zs 16]]).length = k + 1):=zh (by rw [List.length_append,HLN.out]; rfl)
    generalize gk.now++[[zs 16]] = now6 at *
    have hyy:=ln h7
    rw [AY,show ({ gk with now:=now6 } : lO).now.length = k + 1 from HLN6.out,show ({ gk with now:=now6 } : lO).cr.length = k from HLC.out] at hyy
    obtain ⟨c,f⟩:=ld 0 hyy rfl
    have c0:=c 1
    clear c s1 s2 s3
    go_upto_region 6 with (fail)
    go_region_law (first | (refine Af (by rfl) _ _ 202 (by rfl) 4 206 Tryz.underlying202 Ku rfl (by decide) (by rfl) h4 rfl (some ⟨w2.heap.size + 1,0,none⟩) 1 1 [.slice (some ⟨w2.heap.size,0,none⟩) 1 1] (by rfl) rfl hnews (fun h=>by cases h) (Mk _ rfl) hml (by omega) ?_; intro v5 w5 h5 hx5; obtain ⟨a5,g5,c5,rfl,s1,s2,s3,-,-,-,-⟩:=lm 4 h5 rfl; obtain ⟨cc,ff⟩:=ld 2 h5 rfl) | (go_simp; go_at_call 92; refine (Fd 16 (by decide) _ _ hyy).mono ?_; rintro e w2 ⟨rfl,hx2,h2⟩; have d0:=(ld 0 h2 rfl).1 1; have h3:=Dt (zs 16) h2; have d1:=(ld 1 h3 rfl).1 1; have h4:=lh h3 (.cells #[.slice (some ⟨w2.heap.size,0,none⟩) 1 1] 206); have hnews:=yl (w2.alloc (.cells #[.string (zs 16)] 9)) [.slice (some ⟨w2.heap.size,0,none⟩) 1 1] 206; have es : (w2.alloc (.cells #[.string (zs 16)] 9)).heap.size = w2.heap.size + 1:=World.size_alloc _ _; simp only [es] at h4 hnews; have d2:=(ld 2 h4 rfl).1 1))
    all_goals
     obtain rfl:=s3 (by omega)
     have h8:=li 0 (lp 2 (i:=1) (v:=.slice (some ⟨g5,0,none⟩) (k + 1) c5) h5 rfl) rfl
     have hx8:=((((hx6.drew.trans hx2).alloc (.cells #[.string (zs 16)] 9)).alloc (.cells #[.slice (some ⟨w2.heap.size,0,none⟩) 1 1] 206)).trans hx5).setCell ⟨gb,1,none⟩ (.slice (some ⟨g5,0,none⟩) (k + 1) c5)
     have h9 : own (w5.setCell ⟨gb,1,none⟩ (.slice (some ⟨g5,0,none⟩) (k + 1) c5)) (gL gb vn6 (.slice (some ⟨g5,0,none⟩) (k + 1) c5) nv6 (upd cv k (.slice (some ⟨w2.heap.size,0,none⟩) 1 1)) { now:=now6,cr:=gk.cr++[[zs 16]] }++R):=Q7 (g:={ gk with now:=now6 }) HLC.out (by rw [show ({ gk with now:=now6 } : lO).now.length = k + 1 from HLN6.out]; exact h8)
     clear hyy h2 h3 h4 h5 h8 hx2 hx5 hx6 hnews c0 d0 d1 d2 cc ff f es h7
     go_wp2_with fail
     go_roundw
     case rel=>exact ⟨k + 1,_,_,_,_,by omega,by go_num,hx8,by rw [HNX.out]; exact h9⟩
     case measure=>simp [intOf]; omega
  ·obtain rfl : k = n:=by omega
   go_wp2_with fail
   go_ret
   exact ⟨gb,vn,vc,nv,cv,rfl,hxr,hown⟩
def C9 (Y : YA) (m : le) (R : List SL.HP) (w : World) (e : Ending) (w' : World) : Prop:=∃Y' : YA,Y'.y = Y.y /\ e = .returned (.tuple #[]) /\ Ext w w' /\ own w' (yL Y' m R)
def EI (Y : YA) (gb : Nat) (vn vc : Value) (m : le) (g : lO) (R : List SL.HP) (w : World) (e : Ending) (w' : World) : Prop:=∃(Y' : YA) (nv cv : Nat -> Value),Y'.y = Y.y /\ e = .returned (.tuple #[]) /\ Ext w w' /\ own w' (yL Y' m (gL gb vn vc nv cv g++R))
theorem C9.g {Y : YA} {gb : Nat} {vn vc : Value} {nv cv : Nat -> Value} {m : le} {g : lO} {R : List SL.HP} {w w' : World} {e : Ending} (h : C9 Y m (gL gb vn vc nv cv g++R) w e w') : EI Y gb vn vc m g R w e w':=by
 obtain ⟨Y',hy,he,hx,h⟩:=h
 exact ⟨Y',nv,cv,hy,he,hx,h⟩
theorem yg_g {Y : YA} {m : le} {L R : List SL.HP} {w : World} {P : SL.HP} (H : own w (yL Y m (P::(L++R)))) : own w (L++yL Y m (P::R)):=by
 have h:=lu (shL Y.bs Y.A m.F++(yT Y m++[P])) L (R:=R) (by simpa only [zp,List.cons_append,List.nil_append] using H)
 simpa only [zp,List.cons_append,List.nil_append] using h
theorem yg_y {Y : YA} {m : le} {L R : List SL.HP} {w : World} {P : SL.HP} (H : own w (L++yL Y m (P::R))) : own w (yL Y m (P::(L++R))):=by
 have h:=lu L (shL Y.bs Y.A m.F++(yT Y m++[P])) (R:=R) (by simpa only [zp,List.cons_append,List.nil_append] using H)
 simpa only [zp,List.cons_append,List.nil_append] using h
theorem Mq (Y : YA) (m : le) (N : Nat) (hm : ly N m) (hN : N + 2000 < 890000) (x : Act) (v gv : Value) (R : List SL.HP) (w : World) (H : own w (yL Y m R)) (k0 : ¬(x.kind.toList == [119,114,105,116,101]) = true) (k1 : ¬(x.kind.toList == [119,105,112,101]) = true) (k2 : ¬(x.kind.toList == [102,108,117,115,104]) = true) (k3 : (x.kind.toList == [98,108,97,110,107]) = true) :
  Calls Tryz.prog 41 #[.pointer (some ⟨Y.y,0,none⟩),gv,.agg #[.string x.kind,.int .i64 x.A,.int .i64 x.B,.int .i64 x.C,.int .i64 x.D,.string x.S,v]] w (C9 Y (lZ m x.A (-1)).2 R w):=by
 have h0:=oD (lh H (.cells #[.string x.kind,.int .i64 x.A,.int .i64 x.B,.int .i64 x.C,.int .i64 x.D,.string x.S,v] 45))
 have hxa:=(zR w).alloc (.cells #[.string x.kind,.int .i64 x.A,.int .i64 x.B,.int .i64 x.C,.int .i64 x.D,.string x.S,v] 45)
 have HP:=zh (fun (R' : List SL.HP) w' h=>SK N Y m hm.ok (by omega) x.A R' w' h)
 unfold zL at HP
 generalize lZ m x.A (-1) = S at *
 obtain ⟨f,m2⟩:=S
 dsimp only at HP ⊢
 clear H hm hN
 go_enter Tryz.func41,Tryz.ntmps41
 go_upto_region 1 with (fail)
 generalize w.heap.size = ba at *
 generalize w.alloc (.cells #[.string x.kind,.int .i64 x.A,.int .i64 x.B,.int .i64 x.C,.int .i64 x.D,.string x.S,v] 45) = wa at *
 have c0:=(ld 15 h0 rfl).1 0
 have c1:=(ld 15 h0 rfl).1 1
 go_wp2_with fail
 refine (HP.out _ _ h0).mono ?_
 rintro e w4 ⟨Y',hy,rfl,hx4,h4⟩
 go_wp2_with fail
 go_end0
 exact ⟨Y',hy,rfl,hxa.trans hx4,li 15 h4 rfl⟩
theorem Oj (Y : YA) (m : le) (N : Nat) (hm : ly N m) (hN : N + 2000 < 890000) (x : Act) (v gv : Value) (R : List SL.HP) (w : World) (H : own w (yL Y m R)) (k0 : ¬(x.kind.toList == [119,114,105,116,101]) = true) (k1 : ¬(x.kind.toList == [119,105,112,101]) = true) (k2 : ¬(x.kind.toList == [102,108,117,115,104]) = true) (k3 : ¬(x.kind.toList == [98,108,97,110,107]) = true) (k4 : (x.kind.toList == [115,110,97,112]) = true) :
  Calls Tryz.prog 41 #[.pointer (some ⟨Y.y,0,none⟩),gv,.agg #[.string x.kind,.int .i64 x.A,.int .i64 x.B,.int .i64 x.C,.int .i64 x.D,.string x.S,v]] w (C9 Y (AC m x.A).2 R w):=by
 have h0:=oD (lh H (.cells #[.string x.kind,.int .i64 x.A,.int .i64 x.B,.int .i64 x.C,.int .i64 x.D,.string x.S,v] 45))
 have hxa:=(zR w).alloc (.cells #[.string x.kind,.int .i64 x.A,.int .i64 x.B,.int .i64 x.C,.int .i64 x.D,.string x.S,v] 45)
 have HP:=zh (fun (R' : List SL.HP) w' h=>Vj N Y m hm.ok (by omega) x.A R' w' h)
 unfold zL at HP
 generalize AC m x.A = S at *
 obtain ⟨f,m2⟩:=S
 dsimp only at HP ⊢
 clear H hm hN
 go_enter Tryz.func41,Tryz.ntmps41
 go_upto_region 1 with (fail)
 generalize w.heap.size = ba at *
 generalize w.alloc (.cells #[.string x.kind,.int .i64 x.A,.int .i64 x.B,.int .i64 x.C,.int .i64 x.D,.string x.S,v] 45) = wa at *
 have c0:=(ld 15 h0 rfl).1 0
 have c1:=(ld 15 h0 rfl).1 1
 go_wp2_with fail
 refine (HP.out _ _ h0).mono ?_
 rintro e w4 ⟨Y',hy,rfl,hx4,h4⟩
 go_wp2_with fail
 go_end0
 exact ⟨Y',hy,rfl,hxa.trans hx4,li 15 h4 rfl⟩
theorem ME (Y : YA) (m : le) (N : Nat) (hm : ly N m) (hN : N + 2000 < 890000) (x : Act) (v gv : Value) (R : List SL.HP) (w : World) (H : own w (yL Y m R)) (k0 : ¬(x.kind.toList == [119,114,105,116,101]) = true) (k1 : ¬(x.kind.toList == [119,105,112,101]) = true) (k2 : ¬(x.kind.toList == [102,108,117,115,104]) = true) (k3 : ¬(x.kind.toList == [98,108,97,110,107]) = true) (k4 : ¬(x.kind.toList == [115,110,97,112]) = true) (k5 : (x.kind.toList == [115,116,97,114,116]) = true) :
  Calls Tryz.prog 41 #[.pointer (some ⟨Y.y,0,none⟩),gv,.agg #[.string x.kind,.int .i64 x.A,.int .i64 x.B,.int .i64 x.C,.int .i64 x.D,.string x.S,v]] w (C9 Y (zP m x.A x.B x.C x.D).2 R w):=by
 have h0:=oD (lh H (.cells #[.string x.kind,.int .i64 x.A,.int .i64 x.B,.int .i64 x.C,.int .i64 x.D,.string x.S,v] 45))
 have hxa:=(zR w).alloc (.cells #[.string x.kind,.int .i64 x.A,.int .i64 x.B,.int .i64 x.C,.int .i64 x.D,.string x.S,v] 45)
 have HP:=zh (fun (R' : List SL.HP) w' h=>Sw N Y m hm.ok (by omega) x.A x.B x.C x.D R' w' h)
 unfold zL at HP
 generalize zP m x.A x.B x.C x.D = S at *
 obtain ⟨f,m2⟩:=S
 dsimp only at HP ⊢
 clear H hm hN
 go_enter Tryz.func41,Tryz.ntmps41
 go_upto_region 1 with (fail)
 generalize w.heap.size = ba at *
 generalize w.alloc (.cells #[.string x.kind,.int .i64 x.A,.int .i64 x.B,.int .i64 x.C,.int .i64 x.D,.string x.S,v] 45) = wa at *
 have c0:=(ld 15 h0 rfl).1 0
 have c1:=(ld 15 h0 rfl).1 1
 have c2:=(ld 15 h0 rfl).1 2
 have c3:=(ld 15 h0 rfl).1 3
 have c4:=(ld 15 h0 rfl).1 4
 go_wp2_with fail
 refine (HP.out _ _ h0).mono ?_
 rintro e w4 ⟨Y',hy,rfl,hx4,h4⟩
 go_wp2_with fail
 go_end0
 exact ⟨Y',hy,rfl,hxa.trans hx4,li 15 h4 rfl⟩
theorem Lz (Y : YA) (m : le) (N : Nat) (hm : ly N m) (hN : N + 2000 < 890000) (x : Act) (v gv : Value) (R : List SL.HP) (w : World) (H : own w (yL Y m R)) (k0 : ¬(x.kind.toList == [119,114,105,116,101]) = true) (k1 : ¬(x.kind.toList == [119,105,112,101]) = true) (k2 : ¬(x.kind.toList == [102,108,117,115,104]) = true) (k3 : ¬(x.kind.toList == [98,108,97,110,107]) = true) (k4 : ¬(x.kind.toList == [115,110,97,112]) = true) (k5 : ¬(x.kind.toList == [115,116,97,114,116]) = true) (k6 : (x.kind.toList == [112,105,118,111,116]) = true) :
  Calls Tryz.prog 41 #[.pointer (some ⟨Y.y,0,none⟩),gv,.agg #[.string x.kind,.int .i64 x.A,.int .i64 x.B,.int .i64 x.C,.int .i64 x.D,.string x.S,v]] w (C9 Y (zV m).2 R w):=by
 have h0:=oD (lh H (.cells #[.string x.kind,.int .i64 x.A,.int .i64 x.B,.int .i64 x.C,.int .i64 x.D,.string x.S,v] 45))
 have hxa:=(zR w).alloc (.cells #[.string x.kind,.int .i64 x.A,.int .i64 x.B,.int .i64 x.C,.int .i64 x.D,.string x.S,v] 45)
 have HP:=zh (fun (R' : List SL.HP) w' h=>Ti N Y m hm.ok (by omega) R' w' h)
 unfold zL at HP
 generalize zV m = S at *
 obtain ⟨f,m2⟩:=S
 dsimp only at HP ⊢
 clear H hm hN
 go_enter Tryz.func41,Tryz.ntmps41
 go_upto_region 1 with (fail)
 generalize w.heap.size = ba at *
 generalize w.alloc (.cells #[.string x.kind,.int .i64 x.A,.int .i64 x.B,.int .i64 x.C,.int .i64 x.D,.string x.S,v] 45) = wa at *
 have c0:=(ld 15 h0 rfl).1 0
 go_wp2_with fail
 refine (HP.out _ _ h0).mono ?_
 rintro e w4 ⟨Y',hy,rfl,hx4,h4⟩
 go_wp2_with fail
 go_end0
 exact ⟨Y',hy,rfl,hxa.trans hx4,li 15 h4 rfl⟩
theorem J9 (Y : YA) (m : le) (N : Nat) (hm : ly N m) (hN : N + 2000 < 890000) (x : Act) (v gv : Value) (R : List SL.HP) (w : World) (H : own w (yL Y m R)) (k0 : ¬(x.kind.toList == [119,114,105,116,101]) = true) (k1 : ¬(x.kind.toList == [119,105,112,101]) = true) (k2 : ¬(x.kind.toList == [102,108,117,115,104]) = true) (k3 : ¬(x.kind.toList == [98,108,97,110,107]) = true) (k4 : ¬(x.kind.toList == [115,110,97,112]) = true) (k5 : ¬(x.kind.toList == [115,116,97,114,116]) = true) (k6 : ¬(x.kind.toList == [112,105,118,111,116]) = true) (k7 : (x.kind.toList == [99,97,110,99,101,108]) = true) :
  Calls Tryz.prog 41 #[.pointer (some ⟨Y.y,0,none⟩),gv,.agg #[.string x.kind,.int .i64 x.A,.int .i64 x.B,.int .i64 x.C,.int .i64 x.D,.string x.S,v]] w (C9 Y (zc m).2 R w):=by
 have h0:=oD (lh H (.cells #[.string x.kind,.int .i64 x.A,.int .i64 x.B,.int .i64 x.C,.int .i64 x.D,.string x.S,v] 45))
 have hxa:=(zR w).alloc (.cells #[.string x.kind,.int .i64 x.A,.int .i64 x.B,.int .i64 x.C,.int .i64 x.D,.string x.S,v] 45)
 have HP:=zh (fun (R' : List SL.HP) w' h=>PA N Y m hm.ok (by omega) R' w' h)
 unfold zL at HP
 generalize zc m = S at *
 obtain ⟨f,m2⟩:=S
 dsimp only at HP ⊢
 clear H hm hN
 go_enter Tryz.func41,Tryz.ntmps41
 go_upto_region 1 with (fail)
 generalize w.heap.size = ba at *
 generalize w.alloc (.cells #[.string x.kind,.int .i64 x.A,.int .i64 x.B,.int .i64 x.C,.int .i64 x.D,.string x.S,v] 45) = wa at *
 have c0:=(ld 15 h0 rfl).1 0
 go_wp2_with fail
 refine (HP.out _ _ h0).mono ?_
 rintro e w4 ⟨Y',hy,rfl,hx4,h4⟩
 go_wp2_with fail
 go_end0
 exact ⟨Y',hy,rfl,hxa.trans hx4,li 15 h4 rfl⟩
theorem LO (Y : YA) (m : le) (N : Nat) (hm : ly N m) (hN : N + 2000 < 890000) (x : Act) (v gv : Value) (R : List SL.HP) (w : World) (H : own w (yL Y m R)) (k0 : ¬(x.kind.toList == [119,114,105,116,101]) = true) (k1 : ¬(x.kind.toList == [119,105,112,101]) = true) (k2 : ¬(x.kind.toList == [102,108,117,115,104]) = true) (k3 : ¬(x.kind.toList == [98,108,97,110,107]) = true) (k4 : ¬(x.kind.toList == [115,110,97,112]) = true) (k5 : ¬(x.kind.toList == [115,116,97,114,116]) = true) (k6 : ¬(x.kind.toList == [112,105,118,111,116]) = true) (k7 : ¬(x.kind.toList == [99,97,110,99,101,108]) = true) (k8 : (x.kind.toList == [112,97,117,115,101]) = true) :
  Calls Tryz.prog 41 #[.pointer (some ⟨Y.y,0,none⟩),gv,.agg #[.string x.kind,.int .i64 x.A,.int .i64 x.B,.int .i64 x.C,.int .i64 x.D,.string x.S,v]] w (C9 Y (zk m (decide (0 < x.A))).2 R w):=by
 have h0:=oD (lh H (.cells #[.string x.kind,.int .i64 x.A,.int .i64 x.B,.int .i64 x.C,.int .i64 x.D,.string x.S,v] 45))
 have hxa:=(zR w).alloc (.cells #[.string x.kind,.int .i64 x.A,.int .i64 x.B,.int .i64 x.C,.int .i64 x.D,.string x.S,v] 45)
 have HP:=zh (fun (R' : List SL.HP) w' h=>S7 Y m hm.ok.jok (decide (0 < x.A)) R' w' h)
 unfold zL at HP
 generalize zk m (decide (0 < x.A)) = S at *
 obtain ⟨f,m2⟩:=S
 dsimp only at HP ⊢
 clear H hm hN
 go_enter Tryz.func41,Tryz.ntmps41
 go_upto_region 1 with (fail)
 generalize w.heap.size = ba at *
 generalize w.alloc (.cells #[.string x.kind,.int .i64 x.A,.int .i64 x.B,.int .i64 x.C,.int .i64 x.D,.string x.S,v] 45) = wa at *
 have c0:=(ld 15 h0 rfl).1 0
 have c1:=(ld 15 h0 rfl).1 1
 go_wp2_with fail
 refine (HP.out _ _ h0).mono ?_
 rintro e w4 ⟨Y',hy,rfl,hx4,h4⟩
 go_wp2_with fail
 go_end0
 exact ⟨Y',hy,rfl,hxa.trans hx4,li 15 h4 rfl⟩
theorem Og (Y : YA) (m : le) (N : Nat) (hm : ly N m) (hN : N + 2000 < 890000) (x : Act) (v gv : Value) (R : List SL.HP) (w : World) (H : own w (yL Y m R)) (k0 : ¬(x.kind.toList == [119,114,105,116,101]) = true) (k1 : ¬(x.kind.toList == [119,105,112,101]) = true) (k2 : ¬(x.kind.toList == [102,108,117,115,104]) = true) (k3 : ¬(x.kind.toList == [98,108,97,110,107]) = true) (k4 : ¬(x.kind.toList == [115,110,97,112]) = true) (k5 : ¬(x.kind.toList == [115,116,97,114,116]) = true) (k6 : ¬(x.kind.toList == [112,105,118,111,116]) = true) (k7 : ¬(x.kind.toList == [99,97,110,99,101,108]) = true) (k8 : ¬(x.kind.toList == [112,97,117,115,101]) = true) (k9 : (x.kind.toList == [116,105,99,107]) = true) :
  Calls Tryz.prog 41 #[.pointer (some ⟨Y.y,0,none⟩),gv,.agg #[.string x.kind,.int .i64 x.A,.int .i64 x.B,.int .i64 x.C,.int .i64 x.D,.string x.S,v]] w (C9 Y (zQ m x.A).2 R w):=by
 have h0:=oD (lh H (.cells #[.string x.kind,.int .i64 x.A,.int .i64 x.B,.int .i64 x.C,.int .i64 x.D,.string x.S,v] 45))
 have hxa:=(zR w).alloc (.cells #[.string x.kind,.int .i64 x.A,.int .i64 x.B,.int .i64 x.C,.int .i64 x.D,.string x.S,v] 45)
 have HP:=zh (fun (R' : List SL.HP) w' h=>Ud Y m hm.ok.jok x.A R' w' h)
 unfold zL at HP
 generalize zQ m x.A = S at *
 obtain ⟨f,m2⟩:=S
 dsimp only at HP ⊢
 clear H hm hN
 go_enter Tryz.func41,Tryz.ntmps41
 go_upto_region 1 with (fail)
 generalize w.heap.size = ba at *
 generalize w.alloc (.cells #[.string x.kind,.int .i64 x.A,.int .i64 x.B,.int .i64 x.C,.int .i64 x.D,.string x.S,v] 45) = wa at *
 have c0:=(ld 15 h0 rfl).1 0
 have c1:=(ld 15 h0 rfl).1 1
 go_wp2_with fail
 refine (HP.out _ _ h0).mono ?_
 rintro e w4 ⟨Y',hy,rfl,hx4,h4⟩
 go_wp2_with fail
 go_end0
 exact ⟨Y',hy,rfl,hxa.trans hx4,li 15 h4 rfl⟩
theorem NP (Y : YA) (m : le) (N : Nat) (hm : ly N m) (hN : N + 2000 < 890000) (x : Act) (v gv : Value) (R : List SL.HP) (w : World) (H : own w (yL Y m R)) (k0 : ¬(x.kind.toList == [119,114,105,116,101]) = true) (k1 : ¬(x.kind.toList == [119,105,112,101]) = true) (k2 : ¬(x.kind.toList == [102,108,117,115,104]) = true) (k3 : ¬(x.kind.toList == [98,108,97,110,107]) = true) (k4 : ¬(x.kind.toList == [115,110,97,112]) = true) (k5 : ¬(x.kind.toList == [115,116,97,114,116]) = true) (k6 : ¬(x.kind.toList == [112,105,118,111,116]) = true) (k7 : ¬(x.kind.toList == [99,97,110,99,101,108]) = true) (k8 : ¬(x.kind.toList == [112,97,117,115,101]) = true) (k9 : ¬(x.kind.toList == [116,105,99,107]) = true) (k10 : (x.kind.toList == [102,97,105,108]) = true) :
  Calls Tryz.prog 41 #[.pointer (some ⟨Y.y,0,none⟩),gv,.agg #[.string x.kind,.int .i64 x.A,.int .i64 x.B,.int .i64 x.C,.int .i64 x.D,.string x.S,v]] w (C9 Y (armM m x.A x.B).2 R w):=by
 have h0:=oD (lh H (.cells #[.string x.kind,.int .i64 x.A,.int .i64 x.B,.int .i64 x.C,.int .i64 x.D,.string x.S,v] 45))
 have hxa:=(zR w).alloc (.cells #[.string x.kind,.int .i64 x.A,.int .i64 x.B,.int .i64 x.C,.int .i64 x.D,.string x.S,v] 45)
 have HP:=zh (fun (R' : List SL.HP) w' h=>UY Y m x.A x.B R' w' h)
 unfold zL at HP
 generalize armM m x.A x.B = S at *
 obtain ⟨f,m2⟩:=S
 dsimp only at HP ⊢
 clear H hm hN
 go_enter Tryz.func41,Tryz.ntmps41
 go_upto_region 1 with (fail)
 generalize w.heap.size = ba at *
 generalize w.alloc (.cells #[.string x.kind,.int .i64 x.A,.int .i64 x.B,.int .i64 x.C,.int .i64 x.D,.string x.S,v] 45) = wa at *
 have c0:=(ld 15 h0 rfl).1 0
 have c1:=(ld 15 h0 rfl).1 1
 have c2:=(ld 15 h0 rfl).1 2
 go_wp2_with fail
 refine (HP.out _ _ h0).mono ?_
 rintro e w4 ⟨Y',hy,rfl,hx4,h4⟩
 go_wp2_with fail
 go_end0
 exact ⟨Y',hy,rfl,hxa.trans hx4,li 15 h4 rfl⟩
theorem Nk (Y : YA) (m : le) (N : Nat) (hm : ly N m) (hN : N + 2000 < 890000) (x : Act) (v gv : Value) (R : List SL.HP) (hT : ∀w' L,own w' (L++R) -> A0 w') (w : World) (H : own w (yL Y m R)) (k0 : ¬(x.kind.toList == [119,114,105,116,101]) = true) (k1 : ¬(x.kind.toList == [119,105,112,101]) = true) (k2 : ¬(x.kind.toList == [102,108,117,115,104]) = true) (k3 : ¬(x.kind.toList == [98,108,97,110,107]) = true) (k4 : ¬(x.kind.toList == [115,110,97,112]) = true) (k5 : ¬(x.kind.toList == [115,116,97,114,116]) = true) (k6 : ¬(x.kind.toList == [112,105,118,111,116]) = true) (k7 : ¬(x.kind.toList == [99,97,110,99,101,108]) = true) (k8 : ¬(x.kind.toList == [112,97,117,115,101]) = true) (k9 : ¬(x.kind.toList == [116,105,99,107]) = true) (k10 : ¬(x.kind.toList == [102,97,105,108]) = true) :
  Calls Tryz.prog 41 #[.pointer (some ⟨Y.y,0,none⟩),gv,.agg #[.string x.kind,.int .i64 x.A,.int .i64 x.B,.int .i64 x.C,.int .i64 x.D,.string x.S,v]] w (C9 Y (zU m).2 R w):=by
 have h0:=oD (lh H (.cells #[.string x.kind,.int .i64 x.A,.int .i64 x.B,.int .i64 x.C,.int .i64 x.D,.string x.S,v] 45))
 have hxa:=(zR w).alloc (.cells #[.string x.kind,.int .i64 x.A,.int .i64 x.B,.int .i64 x.C,.int .i64 x.D,.string x.S,v] 45)
 have HP:=zh (fun (P : SL.HP) w' h=>TX N Y m hm.ok (by omega) (hm.linkOk (by omega)) ([P]++R) (EN hT [P]) w' h)
 unfold TY at HP
 generalize zU m = S at *
 obtain ⟨⟨did,f⟩,m2⟩:=S
 dsimp only at HP ⊢
 clear hT
 clear H hm hN
 go_enter Tryz.func41,Tryz.ntmps41
 go_upto_region 1 with (fail)
 generalize w.heap.size = ba at *
 generalize w.alloc (.cells #[.string x.kind,.int .i64 x.A,.int .i64 x.B,.int .i64 x.C,.int .i64 x.D,.string x.S,v] 45) = wa at *
 have c0:=(ld 15 h0 rfl).1 0
 go_wp2_with fail
 refine (HP.out _ _ h0).mono ?_
 rintro e w4 ⟨Y',hy,rfl,hx4,h4⟩
 go_wp2_with fail
 go_end0
 exact ⟨Y',hy,rfl,hxa.trans hx4,li 15 h4 rfl⟩
theorem Mt (Y : YA) (m : le) (N : Nat) (hm : ly N m) (hN : N + 2000 < 890000) (x : Act) (v gv : Value) (R : List SL.HP) (gb : Nat) (vn vc : Value) (nv cv : Nat -> Value) (g : lO) (hgv : gv = .pointer (some ⟨gb,0,none⟩)) (hc : g.cr.length = g.now.length) (hn : g.now.length <= 1000) (B : Nat) (hB : LsOk g B) (hB2 : B <= 100000) (w : World) (H : own w (yL Y m (gL gb vn vc nv cv g++R))) (k0 : ¬(x.kind.toList == [119,114,105,116,101]) = true) (k1 : ¬(x.kind.toList == [119,105,112,101]) = true) (k2 : (x.kind.toList == [102,108,117,115,104]) = true) :
  Calls Tryz.prog 41 #[.pointer (some ⟨Y.y,0,none⟩),gv,.agg #[.string x.kind,.int .i64 x.A,.int .i64 x.B,.int .i64 x.C,.int .i64 x.D,.string x.S,v]] w (EI Y gb vn vc (AD m) (Cp g) R w):=by
 have h0:=oD (lh H (.cells #[.string x.kind,.int .i64 x.A,.int .i64 x.B,.int .i64 x.C,.int .i64 x.D,.string x.S,v] 45))
 have hxa:=(zR w).alloc (.cells #[.string x.kind,.int .i64 x.A,.int .i64 x.B,.int .i64 x.C,.int .i64 x.D,.string x.S,v] 45)
 subst hgv
 have HP:=zh (fun (R' : List SL.HP) w' h=>Q9 N Y m hm.ok (by omega) R' w' h)
 have HG:=zh (fun (R' : List SL.HP) w' h=>Pu gb vn vc nv cv g hc hn hB hB2 R' w' h)
 generalize AD m = m2 at *
 generalize Cp g = g2 at *
 clear hc hn hB hB2
 clear H hm hN
 go_enter Tryz.func41,Tryz.ntmps41
 go_upto_region 1 with (fail)
 generalize w.heap.size = ba at *
 generalize w.alloc (.cells #[.string x.kind,.int .i64 x.A,.int .i64 x.B,.int .i64 x.C,.int .i64 x.D,.string x.S,v] 45) = wa at *
 have c0:=(ld 15 h0 rfl).1 0
 go_wp2_with fail
 refine (HP.out _ _ h0).mono ?_
 rintro e w4 ⟨rfl,hx4,h4⟩
 go_wp2_with fail
 refine (HG.out _ _ (yg_g h4)).mono ?_
 rintro e w5 ⟨cv5,rfl,hx5,h5⟩
 go_wp2_with fail
 go_end0
 exact ⟨Y,nv,cv5,rfl,rfl,(hxa.trans hx4).trans hx5,li 15 (yg_y h5) rfl⟩
theorem LU (Y : YA) (m : le) (N : Nat) (hm : ly N m) (hN : N + 2000 < 890000) (x : Act) (v gv : Value) (R : List SL.HP) (gb : Nat) (vn vc : Value) (nv cv : Nat -> Value) (g : lO) (hgv : gv = .pointer (some ⟨gb,0,none⟩)) (hc : g.cr.length = g.now.length) (hn : g.now.length <= 1000) (B : Nat) (hB : LsOk g B) (hB2 : B <= 100000) (hA : yb x.A) (hS : x.S.size <= 700) (hwr : (ot m x.A x.S).1≠1 -> 0 <= x.A /\ x.A + ((x.S.size / 16 : Nat) : Int) <= (g.now.length : Int) /\ x.S.size % 16 = 0) (hcd : 0 <= (ot m x.A x.S).1) (w : World) (H : own w (yL Y m (gL gb vn vc nv cv g++R))) (k0 : (x.kind.toList == [119,114,105,116,101]) = true) :
  Calls Tryz.prog 41 #[.pointer (some ⟨Y.y,0,none⟩),gv,.agg #[.string x.kind,.int .i64 x.A,.int .i64 x.B,.int .i64 x.C,.int .i64 x.D,.string x.S,v]] w (EI Y gb vn vc (ot m x.A x.S).2 (if (ot m x.A x.S).1 = 1 then g else Al g x.A.toNat x.S (decide ((ot m x.A x.S).1 = 0))) R w):=by
 have h0:=oD (lh H (.cells #[.string x.kind,.int .i64 x.A,.int .i64 x.B,.int .i64 x.C,.int .i64 x.D,.string x.S,v] 45))
 have hxa:=(zR w).alloc (.cells #[.string x.kind,.int .i64 x.A,.int .i64 x.B,.int .i64 x.C,.int .i64 x.D,.string x.S,v] 45)
 subst hgv
 have HP:=zh (fun (R' : List SL.HP) w' h=>Xi N Y m hm.ok (by omega) x.A hA x.S (by omega) R' w' h)
 have HG:=(fun (h1 : (ot m x.A x.S).1≠1)=>fun (R' : List SL.HP) w' h=>by have h2:=LJ gb vn vc nv cv g x.A.toNat x.S (decide ((ot m x.A x.S).1 = 0)) (hwr h1).2.2 (by omega) (by have:=hwr h1; omega) hc hn hB hB2 R' w' h; rw [Int.toNat_of_nonneg (hwr h1).1] at h2; exact h2)
 unfold zL at HP
 generalize ot m x.A x.S = S at *
 obtain ⟨f,m2⟩:=S
 dsimp only at HP HG hcd ⊢
 clear hc hn hB hB2 hwr hA hS hm hN
 generalize hg2 : (if f = 1 then g else Al g x.A.toNat x.S (decide (f = 0))) = g2
 have HIS:=zh (fun w=>UM f 1 w hcd)
 by_cases h1 : f = 1
 ·rw [zt h1] at hg2
  have HG2:=zh hg2
  subst h1
  rw [lv (by decide)] at HIS HP
  rw [zg rfl] at HIS
  clear hcd HG hg2
  clear H
  go_enter Tryz.func41,Tryz.ntmps41
  go_upto_region 1 with (fail)
  generalize w.heap.size = ba at *
  generalize w.alloc (.cells #[.string x.kind,.int .i64 x.A,.int .i64 x.B,.int .i64 x.C,.int .i64 x.D,.string x.S,v] 45) = wa at *
  have c0:=(ld 15 h0 rfl).1 0
  have c1:=(ld 15 h0 rfl).1 1
  have c5:=(ld 15 h0 rfl).1 5
  go_wp2_with fail
  refine (HP.out _ _ h0).mono ?_
  rintro e w4 ⟨Y',hy,rfl,hx4,h4⟩
  have h5:=yg_g h4
  clear h0
  go_wp2_with fail
  refine (HIS.out _).mono ?_
  rintro e w5 ⟨rfl,rfl⟩
  go_wp2_with fail
  go_end0
  exact ⟨Y',nv,cv,hy,rfl,hxa.trans hx4,by rw [<- HG2.out]; exact li 15 h4 rfl⟩
 rw [zq h1] at hg2
 rw [zf h1] at HIS
 have HG:=HG h1
 rw [hg2] at HG
 have HGW:=zh HG
 clear HG
 by_cases hf : f = 0
 ·subst hf
  rw [lS] at HIS HP
  rw [zg rfl] at HGW
  clear hcd hg2 h1
  clear H
  go_enter Tryz.func41,Tryz.ntmps41
  go_upto_region 1 with (fail)
  generalize w.heap.size = ba at *
  generalize w.alloc (.cells #[.string x.kind,.int .i64 x.A,.int .i64 x.B,.int .i64 x.C,.int .i64 x.D,.string x.S,v] 45) = wa at *
  have c0:=(ld 15 h0 rfl).1 0
  have c1:=(ld 15 h0 rfl).1 1
  have c5:=(ld 15 h0 rfl).1 5
  go_wp2_with fail
  refine (HP.out _ _ h0).mono ?_
  rintro e w4 ⟨Y',hy,rfl,hx4,h4⟩
  have h5:=yg_g h4
  clear h0
  go_wp2_with fail
  refine (HIS.out _).mono ?_
  rintro e w5 ⟨rfl,rfl⟩
  go_upto_region 6 with (fail)
  have h6:=ln h5
  refine wp_region_held_drew (S:=fun w'=>w'.cell? ⟨ba,1,none⟩ = some (.int .i64 x.A) /\ w'.cell? ⟨ba,5,none⟩ = some (.string x.S)) (by kernel_rfl) ⟨(ld 15 (ln h4) rfl).1 1,(ld 15 (ln h4) rfl).1 5⟩ (fun hHeld=>?_)
  refine tk 0 ?_
  refine tk 1 ?_
  refine tk 2 ?_
  refine tk 3 ?_
  refine tk 4 ?_
  refine tk 5 ?_
  refine tk 6 ?_
  try simp only [Act.put,tA,tB,tC,tD,tE,tF]
  refine rd 7 rfl fun K hK=>?_
  go_simp
  go_at_call 140
  refine (HGW.out _ _ h6).mono ?_
  rintro e w7 ⟨nv7,cv7,rfl,hx7,h7⟩
  have h8:=yg_y h7
  refine hK.out _ _ ⟨(ld 15 h8 rfl).1 1,(ld 15 h8 rfl).1 5⟩ (fun _=>?_)
  clear hK K h6
  try simp only [Act.put,tA,tB,tC,tD,tE,tF]
  refine wpAnyH_done (by kernel_rfl) ?_ _
  go_wp2_with fail
  go_end0
  exact ⟨Y',nv7,cv7,hy,rfl,(hxa.trans hx4).drew.trans hx7,li 15 h8 rfl⟩
 ·have hp : 0 < f:=by omega
  rw [lv hp] at HIS HP
  rw [zf hf] at HGW
  clear hcd hg2 h1 hp hf
  clear H
  go_enter Tryz.func41,Tryz.ntmps41
  go_upto_region 1 with (fail)
  generalize w.heap.size = ba at *
  generalize w.alloc (.cells #[.string x.kind,.int .i64 x.A,.int .i64 x.B,.int .i64 x.C,.int .i64 x.D,.string x.S,v] 45) = wa at *
  have c0:=(ld 15 h0 rfl).1 0
  have c1:=(ld 15 h0 rfl).1 1
  have c5:=(ld 15 h0 rfl).1 5
  go_wp2_with fail
  refine (HP.out _ _ h0).mono ?_
  rintro e w4 ⟨Y',hy,rfl,hx4,h4⟩
  have h5:=yg_g h4
  clear h0
  go_wp2_with fail
  refine (HIS.out _).mono ?_
  rintro e w5 ⟨rfl,rfl⟩
  go_upto_region 6 with (fail)
  have h6:=ln h5
  refine wp_region_held_drew (S:=fun w'=>w'.cell? ⟨ba,1,none⟩ = some (.int .i64 x.A) /\ w'.cell? ⟨ba,5,none⟩ = some (.string x.S)) (by kernel_rfl) ⟨(ld 15 (ln h4) rfl).1 1,(ld 15 (ln h4) rfl).1 5⟩ (fun hHeld=>?_)
  refine tk 0 ?_
  refine tk 1 ?_
  refine tk 2 ?_
  refine tk 3 ?_
  refine tk 4 ?_
  refine tk 5 ?_
  refine tk 6 ?_
  try simp only [Act.put,tA,tB,tC,tD,tE,tF]
  refine rd 7 rfl fun K hK=>?_
  go_simp
  go_at_call 140
  refine (HGW.out _ _ h6).mono ?_
  rintro e w7 ⟨nv7,cv7,rfl,hx7,h7⟩
  have h8:=yg_y h7
  refine hK.out _ _ ⟨(ld 15 h8 rfl).1 1,(ld 15 h8 rfl).1 5⟩ (fun _=>?_)
  clear hK K h6
  try simp only [Act.put,tA,tB,tC,tD,tE,tF]
  refine wpAnyH_done (by kernel_rfl) ?_ _
  go_wp2_with fail
  go_end0
  exact ⟨Y',nv7,cv7,hy,rfl,(hxa.trans hx4).drew.trans hx7,li 15 h8 rfl⟩
theorem Nc (Y : YA) (m : le) (N : Nat) (hm : ly N m) (hN : N + 2000 < 890000) (x : Act) (v gv : Value) (R : List SL.HP) (gb : Nat) (vn vc : Value) (nv cv : Nat -> Value) (g : lO) (hgv : gv = .pointer (some ⟨gb,0,none⟩)) (hc : g.cr.length = g.now.length) (hn : g.now.length <= 1000) (B : Nat) (hB : LsOk g B) (hB2 : B <= 100000) (hA : yb x.A) (hBi : yb x.B) (hwr : (ow m x.A x.B).1≠1 -> 0 <= x.A /\ x.A + ((x.B.toNat : Nat) : Int) <= (g.now.length : Int) /\ 0 <= x.B /\ x.B <= 200) (hcd : 0 <= (ow m x.A x.B).1) (w : World) (H : own w (yL Y m (gL gb vn vc nv cv g++R))) (k0 : ¬(x.kind.toList == [119,114,105,116,101]) = true) (k1 : (x.kind.toList == [119,105,112,101]) = true) :
  Calls Tryz.prog 41 #[.pointer (some ⟨Y.y,0,none⟩),gv,.agg #[.string x.kind,.int .i64 x.A,.int .i64 x.B,.int .i64 x.C,.int .i64 x.D,.string x.S,v]] w (EI Y gb vn vc (ow m x.A x.B).2 (if (ow m x.A x.B).1 = 1 then g else Al g x.A.toNat (zs (16 * x.B.toNat)) (decide ((ow m x.A x.B).1 = 0))) R w):=by
 have h0:=oD (lh H (.cells #[.string x.kind,.int .i64 x.A,.int .i64 x.B,.int .i64 x.C,.int .i64 x.D,.string x.S,v] 45))
 have hxa:=(zR w).alloc (.cells #[.string x.kind,.int .i64 x.A,.int .i64 x.B,.int .i64 x.C,.int .i64 x.D,.string x.S,v] 45)
 subst hgv
 have HP:=zh (fun (R' : List SL.HP) w' h=>TJ N Y m hm.ok (by omega) x.A x.B hA hBi R' w' h)
 have HG:=(fun (h1 : (ow m x.A x.B).1≠1)=>fun (R' : List SL.HP) w' h=>by have h2:=LJ gb vn vc nv cv g x.A.toNat (zs (16 * x.B.toNat)) (decide ((ow m x.A x.B).1 = 0)) (by rw [AG]; omega) (by rw [AG]; have:=hwr h1; omega) (by rw [AG]; have:=hwr h1; omega) hc hn hB hB2 R' w' h; rw [Int.toNat_of_nonneg (hwr h1).1] at h2; exact h2)
 have HNO:=(fun (h1 : (ow m x.A x.B).1≠1)=>zh (fun (R' : List SL.HP) w' h=>by have h2:=Fd (16 * x.B.toNat) (by have:=hwr h1; omega) R' w' h; rw [show ((16 * x.B.toNat : Nat) : Int) = 16 * x.B from by have:=hwr h1; omega] at h2; exact h2))
 have e1:=(fun (h1 : (ow m x.A x.B).1≠1)=>show IntKind.i64.wrap (16 * x.B) = 16 * x.B by have:=hwr h1; exact zi _ (by omega))
 have m1:=fun (h1 : (ow m x.A x.B).1≠1)=>(hwr h1).2.2
 unfold zL at HP
 generalize ow m x.A x.B = S at *
 obtain ⟨f,m2⟩:=S
 dsimp only at HP HG hcd HNO e1 m1 ⊢
 clear hc hn hB hB2 hwr hA hBi hm hN
 generalize hg2 : (if f = 1 then g else Al g x.A.toNat (zs (16 * x.B.toNat)) (decide (f = 0))) = g2
 have HIS:=zh (fun w=>UM f 1 w hcd)
 by_cases h1 : f = 1
 ·rw [zt h1] at hg2
  have HG2:=zh hg2
  subst h1
  rw [lv (by decide)] at HIS HP
  rw [zg rfl] at HIS
  clear hcd HG hg2 HNO e1 m1
  clear H
  go_enter Tryz.func41,Tryz.ntmps41
  go_upto_region 1 with (fail)
  generalize w.heap.size = ba at *
  generalize w.alloc (.cells #[.string x.kind,.int .i64 x.A,.int .i64 x.B,.int .i64 x.C,.int .i64 x.D,.string x.S,v] 45) = wa at *
  have c0:=(ld 15 h0 rfl).1 0
  have c1:=(ld 15 h0 rfl).1 1
  have c2:=(ld 15 h0 rfl).1 2
  go_wp2_with fail
  refine (HP.out _ _ h0).mono ?_
  rintro e w4 ⟨Y',hy,rfl,hx4,h4⟩
  have h5:=yg_g h4
  clear h0
  go_wp2_with fail
  refine (HIS.out _).mono ?_
  rintro e w5 ⟨rfl,rfl⟩
  go_wp2_with fail
  go_end0
  exact ⟨Y',nv,cv,hy,rfl,hxa.trans hx4,by rw [<- HG2.out]; exact li 15 h4 rfl⟩
 rw [zq h1] at hg2
 rw [zf h1] at HIS
 have HG:=HG h1
 have HNW:=HNO h1
 have ew:=e1 h1
 have mw:=m1 h1
 clear HNO e1 m1
 rw [hg2] at HG
 have HGW:=zh HG
 clear HG
 by_cases hf : f = 0
 ·subst hf
  rw [lS] at HIS HP
  rw [zg rfl] at HGW
  clear hcd hg2 h1
  clear H
  go_enter Tryz.func41,Tryz.ntmps41
  go_upto_region 1 with (fail)
  generalize w.heap.size = ba at *
  generalize w.alloc (.cells #[.string x.kind,.int .i64 x.A,.int .i64 x.B,.int .i64 x.C,.int .i64 x.D,.string x.S,v] 45) = wa at *
  have c0:=(ld 15 h0 rfl).1 0
  have c1:=(ld 15 h0 rfl).1 1
  have c2:=(ld 15 h0 rfl).1 2
  go_wp2_with fail
  refine (HP.out _ _ h0).mono ?_
  rintro e w4 ⟨Y',hy,rfl,hx4,h4⟩
  have h5:=yg_g h4
  clear h0
  go_wp2_with fail
  refine (HIS.out _).mono ?_
  rintro e w5 ⟨rfl,rfl⟩
  go_upto_region 10 with (fail)
  have h6:=ln h5
  refine wp_region_held_drew (S:=fun w'=>w'.cell? ⟨ba,1,none⟩ = some (.int .i64 x.A) /\ w'.cell? ⟨ba,2,none⟩ = some (.int .i64 x.B)) (by kernel_rfl) ⟨(ld 15 (ln h4) rfl).1 1,(ld 15 (ln h4) rfl).1 2⟩ (fun hHeld=>?_)
  refine tk 0 ?_
  refine tk 1 ?_
  refine tk 2 ?_
  refine tk 3 ?_
  refine tk 4 ?_
  refine tk 5 ?_
  try simp only [Act.put,tA,tB,tC,tD,tE,tF]
  refine tk 7 ?_
  refine tk 8 ?_
  try simp only [Act.put,tA,tB,tC,tD,tE,tF]
  refine rd 6 rfl fun K hK=>?_
  go_simp
  go_at_call 92
  refine (HNW.out _ _ h6).mono ?_
  rintro e w6 ⟨rfl,hx6,h6'⟩
  refine hK.out _ _ ⟨(ld 15 (yg_y h6') rfl).1 1,(ld 15 (yg_y h6') rfl).1 2⟩ (fun _=>?_)
  clear hK K h6
  try simp only [Act.put,tA,tB,tC,tD,tE,tF]
  refine rd 9 rfl fun K hK=>?_
  go_simp
  go_at_call 140
  refine (HGW.out _ _ h6').mono ?_
  rintro e w7 ⟨nv7,cv7,rfl,hx7,h7⟩
  have h8:=yg_y h7
  refine hK.out _ _ ⟨(ld 15 h8 rfl).1 1,(ld 15 h8 rfl).1 2⟩ (fun _=>?_)
  clear hK K h6'
  try simp only [Act.put,tA,tB,tC,tD,tE,tF]
  refine wpAnyH_done (by kernel_rfl) ?_ _
  go_wp2_with fail
  go_end0
  exact ⟨Y',nv7,cv7,hy,rfl,((hxa.trans hx4).drew.trans hx6).trans hx7,li 15 h8 rfl⟩
 ·have hp : 0 < f:=by omega
  rw [lv hp] at HIS HP
  rw [zf hf] at HGW
  clear hcd hg2 h1 hp hf
  clear H
  go_enter Tryz.func41,Tryz.ntmps41
  go_upto_region 1 with (fail)
  generalize w.heap.size = ba at *
  generalize w.alloc (.cells #[.string x.kind,.int .i64 x.A,.int .i64 x.B,.int .i64 x.C,.int .i64 x.D,.string x.S,v] 45) = wa at *
  have c0:=(ld 15 h0 rfl).1 0
  have c1:=(ld 15 h0 rfl).1 1
  have c2:=(ld 15 h0 rfl).1 2
  go_wp2_with fail
  refine (HP.out _ _ h0).mono ?_
  rintro e w4 ⟨Y',hy,rfl,hx4,h4⟩
  have h5:=yg_g h4
  clear h0
  go_wp2_with fail
  refine (HIS.out _).mono ?_
  rintro e w5 ⟨rfl,rfl⟩
  go_upto_region 10 with (fail)
  have h6:=ln h5
  refine wp_region_held_drew (S:=fun w'=>w'.cell? ⟨ba,1,none⟩ = some (.int .i64 x.A) /\ w'.cell? ⟨ba,2,none⟩ = some (.int .i64 x.B)) (by kernel_rfl) ⟨(ld 15 (ln h4) rfl).1 1,(ld 15 (ln h4) rfl).1 2⟩ (fun hHeld=>?_)
  refine tk 0 ?_
  refine tk 1 ?_
  refine tk 2 ?_
  refine tk 3 ?_
  refine tk 4 ?_
  refine tk 5 ?_
  try simp only [Act.put,tA,tB,tC,tD,tE,tF]
  refine tk 7 ?_
  refine tk 8 ?_
  try simp only [Act.put,tA,tB,tC,tD,tE,tF]
  refine rd 6 rfl fun K hK=>?_
  go_simp
  go_at_call 92
  refine (HNW.out _ _ h6).mono ?_
  rintro e w6 ⟨rfl,hx6,h6'⟩
  refine hK.out _ _ ⟨(ld 15 (yg_y h6') rfl).1 1,(ld 15 (yg_y h6') rfl).1 2⟩ (fun _=>?_)
  clear hK K h6
  try simp only [Act.put,tA,tB,tC,tD,tE,tF]
  refine rd 9 rfl fun K hK=>?_
  go_simp
  go_at_call 140
  refine (HGW.out _ _ h6').mono ?_
  rintro e w7 ⟨nv7,cv7,rfl,hx7,h7⟩
  have h8:=yg_y h7
  refine hK.out _ _ ⟨(ld 15 h8 rfl).1 1,(ld 15 h8 rfl).1 2⟩ (fun _=>?_)
  clear hK K h6'
  try simp only [Act.put,tA,tB,tC,tD,tE,tF]
  refine wpAnyH_done (by kernel_rfl) ?_ _
  go_wp2_with fail
  go_end0
  exact ⟨Y',nv7,cv7,hy,rfl,((hxa.trans hx4).drew.trans hx6).trans hx7,li 15 h8 rfl⟩
theorem LsOk.mono {g : lO} {B B' : Nat} (h : LsOk g B) (hb : B <= B') : LsOk g B':=fun i hi=>by
 obtain ⟨a,b,c,d⟩:=h i hi
 exact ⟨a,by omega,c,by omega⟩
theorem UI {C : Int} {m : le} {g : lO} {B N : Nat} (h : GI C m g) (hg : ly N m) (hN : N + 2000 < 890000) (hB : LsOk g B) (x : Act) (hS : x.S.size <= 700) : LsOk (didG m g x) (B + 1):=by
 have hn:=h.n
 have hc:=h.cr
 unfold didG
 by_cases k0 : (x.kind.toList == [119,114,105,116,101]) = true
 ·rw [zt k0]
  by_cases h1 : (ot m x.A x.S).1 = 1
  ·rw [zt h1]; exact hB.mono (by omega)
  ·rw [zq h1]
   have hr:=(Cc h.t hg.ok (by omega) x.A x.S (by omega)).1.rng h1
   exact Ez (by omega) (by omega) hB
 rw [zq k0]
 by_cases k1 : (x.kind.toList == [119,105,112,101]) = true
 ·rw [zt k1]
  by_cases h1 : (ow m x.A x.B).1 = 1
  ·rw [zt h1]; exact hB.mono (by omega)
  ·rw [zq h1]
   by_cases hb : x.B <= 200
   ·have hr:=(C4 h.t hg.ok (by omega) x.A x.B hb).1.rng h1
    unfold Al
    rw [show (zs (16 * x.B.toNat)).size / 16 = x.B.toNat by rw [AG]; omega]
    exact Ez (by omega) (by omega) hB
   ·exact absurd (by rw [Bg hg.ok (by omega) hb]) h1
 rw [zq k1]
 by_cases k2 : (x.kind.toList == [102,108,117,115,104]) = true
 ·rw [zt k2]
  intro i hi
  obtain ⟨a,b,-,-⟩:=hB i hi
  show 0 < (lsAt g.now i).length /\ (lsAt g.now i).length <= B + 1 /\ 0 < (lsAt g.now i).length /\ (lsAt g.now i).length <= B + 1
  exact ⟨a,by omega,a,by omega⟩
 rw [zq k2]
 exact hB.mono (by omega)
theorem I3 (n : Nat) : LsOk (yY n) 1:=by
 intro i hi
 have hi' : i < n:=by simpa [yY] using hi
 have e : lsAt (List.replicate n [zs 16]) i = [zs 16]:=by
  unfold lsAt
  rw [List.getD_eq_getElem?_getD,List.getElem?_replicate_of_lt hi']
  rfl
 show 0 < (lsAt (List.replicate n [zs 16]) i).length /\ (lsAt (List.replicate n [zs 16]) i).length <= 1 /\ 0 < (lsAt (List.replicate n [zs 16]) i).length /\ (lsAt (List.replicate n [zs 16]) i).length <= 1
 rw [e]
 exact ⟨Nat.one_pos,Nat.le_refl _,Nat.one_pos,Nat.le_refl _⟩
theorem yg_0 {Y : YA} {m : le} {L R : List SL.HP} {w : World} (H : own w (L++yL Y m R)) : own w (yL Y m (L++R)):=by
 have h:=lu L (shL Y.bs Y.A m.F++yT Y m) (R:=R) (by simpa only [zp,List.cons_append,List.nil_append] using H)
 simpa only [zp,List.cons_append,List.nil_append] using h
theorem WM {C : Int} {N : Nat} (Y : YA) (m : le) (hg : ly N m) (hN : N + 2000 < 890000) (x : Act) (hA : yb x.A) (hB : yb x.B) (hS : x.S.size <= 700) (v : Value) (gb : Nat) (vn vc : Value) (nv cv : Nat -> Value) (g : lO) (h : GI C m g) (hn : g.now.length <= 1000) (B : Nat) (hl : LsOk g B) (hB2 : B <= 100000) (R : List SL.HP) (hT : ∀w' L,own w' (L++R) -> A0 w') (w : World) (H : own w (yL Y m (gL gb vn vc nv cv g++R))) :
  Calls Tryz.prog 41 #[.pointer (some ⟨Y.y,0,none⟩),.pointer (some ⟨gb,0,none⟩),.agg #[.string x.kind,.int .i64 x.A,.int .i64 x.B,.int .i64 x.C,.int .i64 x.D,.string x.S,v]] w (EI Y gb vn vc (didY m x) (didG m g x) R w):=by
 have hcn:=h.n
 unfold didY didG
 by_cases k0 : (x.kind.toList == [119,114,105,116,101]) = true
 ·rw [zt k0,zt k0]
  have W:=Cc h.t hg.ok (by omega) x.A x.S (by omega)
  exact LU Y m N hg hN x v _ R gb vn vc nv cv g rfl h.cr hn B hl hB2 hA hS (fun h1=>⟨(W.1.rng h1).1,by have:=(W.1.rng h1).2; omega,W.2 h1⟩) (Ih _ _ _) w H k0
 rw [zq k0,zq k0]
 by_cases k1 : (x.kind.toList == [119,105,112,101]) = true
 ·rw [zt k1,zt k1]
  refine Nc Y m N hg hN x v _ R gb vn vc nv cv g rfl h.cr hn B hl hB2 hA hB (fun h1=>?_) (Ji _ _ _) w H k0 k1
  by_cases hb : x.B <= 200
  ·have W:=C4 h.t hg.ok (by omega) x.A x.B hb
   exact ⟨(W.1.rng h1).1,by have:=(W.1.rng h1).2; omega,W.2 h1,hb⟩
  ·exact absurd (by rw [Bg hg.ok (by omega) hb]) h1
 rw [zq k1,zq k1]
 by_cases k2 : (x.kind.toList == [102,108,117,115,104]) = true
 ·rw [zt k2,zt k2]
  exact Mt Y m N hg hN x v _ R gb vn vc nv cv g rfl h.cr hn B hl hB2 w H k0 k1 k2
 rw [zq k2,zq k2]
 by_cases k3 : (x.kind.toList == [98,108,97,110,107]) = true
 ·rw [zt k3]
  exact (Mq Y m N hg hN x v _ _ w H k0 k1 k2 k3).mono fun _ _ h=>h.g
 rw [zq k3]
 by_cases k4 : (x.kind.toList == [115,110,97,112]) = true
 ·rw [zt k4]
  exact (Oj Y m N hg hN x v _ _ w H k0 k1 k2 k3 k4).mono fun _ _ h=>h.g
 rw [zq k4]
 by_cases k5 : (x.kind.toList == [115,116,97,114,116]) = true
 ·rw [zt k5]
  exact (ME Y m N hg hN x v _ _ w H k0 k1 k2 k3 k4 k5).mono fun _ _ h=>h.g
 rw [zq k5]
 by_cases k6 : (x.kind.toList == [112,105,118,111,116]) = true
 ·rw [zt k6]
  exact (Lz Y m N hg hN x v _ _ w H k0 k1 k2 k3 k4 k5 k6).mono fun _ _ h=>h.g
 rw [zq k6]
 by_cases k7 : (x.kind.toList == [99,97,110,99,101,108]) = true
 ·rw [zt k7]
  exact (J9 Y m N hg hN x v _ _ w H k0 k1 k2 k3 k4 k5 k6 k7).mono fun _ _ h=>h.g
 rw [zq k7]
 by_cases k8 : (x.kind.toList == [112,97,117,115,101]) = true
 ·rw [zt k8]
  exact (LO Y m N hg hN x v _ _ w H k0 k1 k2 k3 k4 k5 k6 k7 k8).mono fun _ _ h=>h.g
 rw [zq k8]
 by_cases k9 : (x.kind.toList == [116,105,99,107]) = true
 ·rw [zt k9]
  exact (Og Y m N hg hN x v _ _ w H k0 k1 k2 k3 k4 k5 k6 k7 k8 k9).mono fun _ _ h=>h.g
 rw [zq k9]
 by_cases k10 : (x.kind.toList == [102,97,105,108]) = true
 ·rw [zt k10]
  exact (NP Y m N hg hN x v _ _ w H k0 k1 k2 k3 k4 k5 k6 k7 k8 k9 k10).mono fun _ _ h=>h.g
 rw [zq k10]
 exact (Nk Y m N hg hN x v _ _ (EN hT (gL gb vn vc nv cv g)) w H k0 k1 k2 k3 k4 k5 k6 k7 k8 k9 k10).mono fun _ _ h=>h.g
theorem Qc (c p : Int) (h : ¬(1 <= c /\ c <= 32 /\ 0 <= p /\ p <= 40)) (w : World) :
  Calls Tryz.prog 40 #[.int .i64 c,.int .i64 p] w fun e w'=>e = .returned (.tuple #[.pointer none,.pointer none,.bool false]) /\ w = w':=by
 have hd : decide (c < 1) = true \/ (decide (c < 1) = false /\ decide (32 < c) = true) \/ (decide (c < 1) = false /\ decide (32 < c) = false /\ decide (p < 0) = true) \/ (decide (c < 1) = false /\ decide (32 < c) = false /\ decide (p < 0) = false /\ decide (40 < p) = true):=by
  simp only [decide_eq_true_eq,decide_eq_false_iff_not]
  omega
 clear h
 rcases hd with d0 | ⟨d0,d1⟩ | ⟨d0,d1,d2⟩ | ⟨d0,d1,d2,d3⟩
 all_goals
  go_enter Tryz.func40,Tryz.ntmps40
  go_wp2_with fail
  go_ret3
  exact ⟨rfl,rfl⟩
theorem N4 (c p : Int) (h : 1 <= c /\ c <= 32 /\ 0 <= p /\ p <= 40) (R : List SL.HP) (w : World) (H : own w R) :
  Calls Tryz.prog 40 #[.int .i64 c,.int .i64 p] w fun e w'=>∃(Y : YA) (gb : Nat) (vn vc : Value) (nv cv : Nat -> Value),e = .returned (.tuple #[.pointer (some ⟨Y.y,0,none⟩),.pointer (some ⟨gb,0,none⟩),.bool true]) /\ Ext w w' /\ own w' (yL Y (yx c p) (gL gb vn vc nv cv (yY (4 * c.toNat))++R)):=by
 obtain ⟨h1,h2,h3,h4⟩:=h
 have hb : ¬lH c p (-1):=by unfold lH; omega
 have HN:=zh (fun R w H=>VS c p hb R w H)
 have HF:=zh (fun R w H=>by have h2:=LC (4 * c.toNat) (by omega) R w H; rw [show ((4 * c.toNat : Nat) : Int) = 4 * c from by omega] at h2; exact h2)
 have e1 : IntKind.i64.wrap (4 * c) = 4 * c:=zi _ (by omega)
 have d0 : decide (c < 1) = false:=zf (by omega)
 have d1 : decide (32 < c) = false:=zf (by omega)
 have d2 : decide (p < 0) = false:=zf (by omega)
 have d3 : decide (40 < p) = false:=zf (by omega)
 generalize yx c p = m0 at *
 clear hb
 go_enter Tryz.func40,Tryz.ntmps40
 go_wp2_with fail
 refine (HN.out _ _ H).mono ?_
 rintro e w2 ⟨Y,rfl,hx2,hw2⟩
 go_wp2_with fail
 refine (HF.out _ _ hw2).mono ?_
 rintro e w3 ⟨gb,vn,vc,nv,cv,rfl,hx3,hw3⟩
 go_wp2_with fail
 go_ret3
 exact ⟨Y,gb,vn,vc,nv,cv,rfl,hx2.trans hx3,yg_0 hw3⟩
theorem PL {f x : Int} : ∀{l : List Int} {i a : Nat},zG f i (l++[x]) a = if x = f then i + l.length else zG f i l a:=by
 intro l
 induction l with
 | nil=>intro i a; rw [List.nil_append,zG,zG]; rfl
 | cons y l ih=>intro i a; rw [List.cons_append,zG,ih,zG,List.length_cons]; split <;> first | omega | rfl
theorem U6 {f : Int} : ∀{l : List Int} {i a : Nat},zG f i l a <= max a (i + l.length):=by
 intro l
 induction l with
 | nil=>intro i a; rw [zG]; omega
 | cons y l ih=>
  intro i a
  rw [zG,List.length_cons]
  have:=ih (i:=i + 1) (a:=if y = f then i else a)
  split at this <;> rename_i h <;> simp only [h,if_true,if_false] <;> omega
def EK (b o c n : Nat) : Option Addr:=if c = n then some ⟨b,o,none⟩ else (some ⟨b,o,none⟩ : Option Addr).map (·.add (n * 1))
theorem JQ {b o c n : Nat} (h : n < c) : EK b o c n = some ⟨b,o + n,none⟩:=by
 unfold EK
 rw [zq (by omega)]
 show some (Addr.add ⟨b,o,none⟩ (n * 1)) = _
 rw [add_none,Nat.mul_one]
theorem Uh {w : World} {ab aoff acap : Nat} {la : List Int} {n : Nat} (hc : ∀i,i < la.length -> w.cell? ⟨ab,aoff + i,none⟩ = some (.int .i64 (la.getD i 0))) (h1 : la.length <= acap) (h2 : acap <= 9223372036854775807) (hn : n <= la.length) :
  lW w (.slice (EK ab aoff acap n) (la.length - n) (acap - n)) (la.drop n):=by
 have hl : (la.drop n).length = la.length - n:=List.length_drop
 refine ⟨_,ab,aoff + n,acap - n,by rw [hl],by omega,by omega,fun h=>JQ (by omega),fun i hi=>?_⟩
 dsimp only
 rw [show aoff + n + i = aoff + (n + i) by omega,hc _ (by omega),List.getD_eq_getElem?_getD,List.getD_eq_getElem?_getD,List.getElem?_drop]
theorem Tw (va vb : Value) (la lb : List Int) (kind file st left : Int) (R : List SL.HP) (w : World) (H : own w R) (ha : ∀w' L,own w' (L++R) -> lW w' va la) (hb : ∀w' L,own w' (L++R) -> lW w' vb lb) (h5 : la.length <= 5) (h1 : 0 < la.length) (hb5 : lb.length <= 5) :
  Calls Tryz.prog 53 #[va,vb,.agg #[.int .i64 kind,.int .i64 file,.int .i64 st,.int .i64 left]] w fun e w'=>e = .returned (.bool (A9 la lb kind file)) /\ Ext w w' /\ own w' R:=by
 have h0:=lh H (.cells #[.int .i64 kind,.int .i64 file,.int .i64 st,.int .i64 left] 47)
 have hx0:=(zR w).alloc (.cells #[.int .i64 kind,.int .i64 file,.int .i64 st,.int .i64 left] 47)
 obtain ⟨ao,ab,aoff,acap,rfl,a1,a2,a3,-⟩:=(ha w [] H).form
 obtain ⟨bo,bb,boff,bcap,rfl,b1,b2,b3,-⟩:=(hb w [] H).form
 obtain rfl:=a3 h1
 have HA:=zh (fun (w' : World) L (h : own w' (L++R)) (i : Nat) (hi : i < la.length)=>show w'.cell? ⟨ab,aoff + i,none⟩ = some (.int .i64 (la.getD i 0)) from by
  obtain ⟨x1,x2,x3,x4,e,-,-,y3,y4⟩:=(ha w' L h).form
  cases y3 h1
  cases e
  exact y4 i hi)
 have HB:=zh hb
 have HAI:=zh ha
 clear ha hb H
 by_cases hk : kind = 1
 ·have HE : Hid (A9 la lb kind file = decide (lb = [file])):=zh (by unfold A9; rw [zt hk])
  subst hk
  by_cases hl : lb.length = 1
  ·obtain ⟨x,rfl⟩:=List.length_eq_one_iff.1 hl
   obtain rfl:=b3 (by simp)
   have hc:=fun (w' : World) L (h : own w' (L++R))=>show w'.cell? ⟨bb,boff,none⟩ = some (.int .i64 x) from by
    obtain ⟨x1,x2,x3,x4,e,-,-,y3,y4⟩:=(HB.out w' L h).form
    cases y3 (by simp)
    cases e
    exact y4 0 (by simp)
   have HX : Hid (decide ([x] = [file]) = (x == file)):=zh (by rw [Bool.eq_iff_iff]; simp)
   rw [HX.out] at HE
   clear hl HA HB HAI
   go_enter Tryz.func53,Tryz.ntmps53
   go_upto_region 1 with (fail)
   generalize w.heap.size = ba at *
   generalize w.alloc (.cells #[.int .i64 1,.int .i64 file,.int .i64 st,.int .i64 left] 47) = wa at *
   have c0:=(ld 0 h0 rfl).1 0
   have c1:=(ld 0 h0 rfl).1 1
   have cx:=hc wa [pts ba (.cells #[.int .i64 1,.int .i64 file,.int .i64 st,.int .i64 left] 47 (0,0))] h0
   clear hc
   go_upto_region 2 with (fail)
   have cxd : wa.drew.cell? ⟨bb,boff,none⟩ = some (.int .i64 x):=cx
   go_quiet (fail)
   go_wp2_with fail
   go_ret
   exact ⟨by rw [HE.out]; rfl,hx0.drewN _,lI _ (lg h0)⟩
  ·have hd : ((lb.length : Int) == 1) = false:=by rw [zb]; omega
   have HX : Hid (decide (lb = [file]) = false):=zh (zf fun e=>hl (by rw [e]; rfl))
   rw [HX.out] at HE
   clear hl HA HB HAI
   go_enter Tryz.func53,Tryz.ntmps53
   go_upto_region 1 with (fail)
   generalize w.heap.size = ba at *
   generalize w.alloc (.cells #[.int .i64 1,.int .i64 file,.int .i64 st,.int .i64 left] 47) = wa at *
   have c0:=(ld 0 h0 rfl).1 0
   go_upto_region 2 with (fail)
   go_quiet (fail)
   go_wp2_with fail
   go_ret
   exact ⟨by rw [HE.out]; rfl,hx0.drewN _,lI _ (lg h0)⟩
 ·have k1 : (kind == 1) = false:=by rw [zb]; exact hk
  have HE : Hid (A9 la lb kind file = if kind = 3 then decide (lb = la.drop (atM la file)) else decide (lb = la.take 1++la.drop (atM la file))):=zh (by unfold A9; rw [zq hk])
  clear hk
  go_enter Tryz.func53,Tryz.ntmps53
  go_upto_region 1 with (fail)
  generalize w.heap.size = ba at *
  generalize w.alloc (.cells #[.int .i64 kind,.int .i64 file,.int .i64 st,.int .i64 left] 47) = wa at *
  have c0:=(ld 0 h0 rfl).1 0
  go_wp2_with fail
  clear c0
  go_loopw [8,7] (fun kv av wr=>∃(q : Nat),q <= la.length /\ kv = .int .i64 q /\ av = .int .i64 (zG file 0 (la.take q) la.length : Nat) /\ Ext w wr /\ own wr (pts ba (.cells #[.int .i64 kind,.int .i64 file,.int .i64 st,.int .i64 left] 47 (0,0))::R)) (fun kv _ _=>la.length - (intOf kv).toNat)
  case atStart=>exact ⟨0,by omega,rfl,rfl,hx0,h0⟩
  case round=>
   clear h0 hx0
   obtain ⟨q,hq,rfl,rfl,hxr,hown⟩:=hrel
   by_cases hlt : q < la.length
   ·have HNX:=zh (yU (0 : Int) hlt)
    have hcd:=HA.out wr.drew [pts ba (.cells #[.int .i64 kind,.int .i64 file,.int .i64 st,.int .i64 left] 47 (0,0))] (ln hown) q hlt
    have hc:=HA.out wr [pts ba (.cells #[.int .i64 kind,.int .i64 file,.int .i64 st,.int .i64 left] 47 (0,0))] hown q hlt
    have c1:=(ld 0 hown rfl).1 1
    have HSN:=zh (PL (f:=file) (x:=la.getD q 0) (l:=la.take q) (i:=0) (a:=la.length))
    have HTL:=zh (show (la.take q).length = q by rw [List.length_take]; omega)
    generalize la.getD q 0 = x at *
    generalize zG file 0 (la.take q) la.length = aq at *
    by_cases hxf : x = file
    ·have b0 : (x == file) = true:=by rw [beq_iff_eq]; exact hxf
     have HXF:=zh hxf
     clear hxf
     go_upto_region 7 with (fail)
     go_quiet (fail)
     go_wp2_with fail
     go_roundw
     case rel=>exact ⟨q + 1,by omega,by go_num,by rw [HNX.out,HSN.out,zt HXF.out,HTL.out,Nat.zero_add],hxr.drewN _,lI _ hown⟩
     case measure=>simp [intOf]; omega
    ·have b0 : (x == file) = false:=by rw [zb]; exact hxf
     have HXF:=zh hxf
     clear hxf
     go_upto_region 7 with (fail)
     go_quiet (fail)
     go_wp2_with fail
     go_roundw
     case rel=>exact ⟨q + 1,by omega,by go_num,by rw [HNX.out,HSN.out,zq HXF.out],hxr.drewN _,lI _ hown⟩
     case measure=>simp [intOf]; omega
   ·obtain rfl : q = la.length:=by omega
    have hat : zG file 0 (la.take la.length) la.length = atM la file:=by rw [List.take_length]; rfl
    rw [hat]
    have hle : atM la file <= la.length:=by have:=U6 (f:=file) (l:=la) (i:=0) (a:=la.length); unfold atM; omega
    generalize atM la file = at_ at *
    clear hat
    have c0:=(ld 0 hown rfl).1 0
    have hsl : ∀wx,(Instr.slice 95 (.slice (some ⟨ab,aoff,none⟩) la.length acap) (some (.int .i64 (at_ : Int))) none none).run Tryz.prog wx = .ok (.slice (EK ab aoff acap at_) (la.length - at_) (acap - at_)) wx:=fun wx=>by
     rw [run_slice_l (P:=Tryz.prog) (w:=wx) (t:=95) (a:=some ⟨ab,aoff,none⟩) (len:=la.length) (cap:=acap) (ht:=Tryz.underlying95) (kl:=.i64) (l:=(at_ : Int)) (h0:=by omega) (h1:=by omega),zn]
     rfl
    have HDR:=zh (fun (w' : World) L (h : own w' (L++R))=>Uh (w:=w') (ab:=ab) (aoff:=aoff) (acap:=acap) (la:=la) (n:=at_) (fun i hi=>HA.out w' L h i hi) a1 a2 hle)
    have HDL:=zh (show (la.drop at_).length = la.length - at_ from List.length_drop)
    by_cases hk3 : kind = 3
    ·have b3 : (kind == 3) = true:=by rw [beq_iff_eq]; exact hk3
     rw [zt hk3] at HE
     clear hk3
     have HSM:=zh (fun (w' : World) L (h : own w' (L++R))=>AL _ _ lb (la.drop at_) w' (HB.out w' L h) (HDR.out w' L h))
     generalize la.length - at_ = dl at *
     generalize acap - at_ = dc at *
     generalize EK ab aoff acap at_ = da at *
     go_wp2_with fail
     refine (HSM.out wr [pts ba (.cells #[.int .i64 kind,.int .i64 file,.int .i64 st,.int .i64 left] 47 (0,0))] hown).mono ?_
     rintro e w' ⟨rfl,nz,rfl⟩
     go_wp2_with fail
     go_ret
     exact ⟨by rw [HE.out]; rfl,hxr.drewN _,lI _ (lg hown)⟩
    ·have b3 : (kind == 3) = false:=by rw [zb]; exact hk3
     rw [zq hk3] at HE
     clear hk3
     have hy:=ln hown
     have cz:=HA.out wr.drew [pts ba (.cells #[.int .i64 kind,.int .i64 file,.int .i64 st,.int .i64 left] 47 (0,0))] hy 0 h1
     rw [Nat.add_zero] at cz
     have HSM:=zh (fun (v : Value) (w' : World) L (h : own w' (L++R)) (hv : lW w' v (la.take 1++la.drop at_))=>AL _ v lb _ w' (HB.out w' L h) hv)
     have HCZ:=zh (fun (w' : World) L (h : own w' (L++R))=>show w'.cell? ⟨ab,aoff,none⟩ = some (.int .i64 (la.getD 0 0)) by have:=HA.out w' L h 0 h1; rwa [Nat.add_zero] at this)
     have HAT:=zh (fun (w' : World) L (h : own w' (L++R)) (ad : Addr) (had : EK ab aoff acap at_ = some ad) (j : Nat) (u : Value) (hu : (lq (la.drop at_))[j]? = some u)=>show w'.cell? (ad.add j) = some u from by
      have hj : j < (la.drop at_).length:=by
       have:=(zS.1 hu).1
       rwa [lq,List.length_map] at this
      rw [HDL.out] at hj
      rw [JQ (by omega)] at had
      cases had
      rw [add_none,show aoff + at_ + j = aoff + (at_ + j) by omega,HA.out w' L h _ (by omega),<- hu,lq,List.getElem?_map,List.getElem?_drop,List.getD_eq_getElem?_getD,List.getElem?_eq_getElem (by omega)]
      rfl)
     have HNL:=zh (show (lq (la.drop at_)).length = (la.length - at_) * 1 by rw [lq,List.length_map,HDL.out,Nat.mul_one])
     have HT1:=zh (show lq (la.take 1++la.drop at_) = [.int .i64 (la.getD 0 0)]++lq (la.drop at_) by
      obtain ⟨x,l',rfl⟩:=List.exists_cons_of_length_pos h1
      rfl)
     have HT2:=zh (show (la.take 1++la.drop at_).length = 1 + (la.length - at_) by rw [List.length_append,HDL.out,List.length_take]; omega)
     have hml : 1 + (la.length - at_) <= maxLen:=by simp only [maxLen]; omega
     have hby : (1 + (la.length - at_)) * 8 <= 140737488355328:=by omega
     have HDN:=zh (fun (h : EK ab aoff acap at_ = none)=>show la.length - at_ = 0 by
      refine Decidable.byContradiction fun hn=>?_
      rw [JQ (by omega)] at h
      cases h)
     generalize la.getD 0 0 = x0 at *
     generalize la.length - at_ = dl at *
     generalize acap - at_ = dc at *
     generalize EK ab aoff acap at_ = da at *
     go_upto_region 11 with (fail)
     refine wp_region_held_drew (S:=fun w'=>w'.cell? ⟨ab,aoff,none⟩ = some (.int .i64 x0)) (by kernel_rfl) cz (fun hHeld=>?_)
     refine tk 0 ?_
     refine tk 1 ?_
     refine tk 2 ?_
     refine tk 3 ?_
     try simp only [Act.put,tA,tB,tC,tD,tE,tF]
     refine tk 5 ?_
     refine tk 6 ?_
     refine tk 7 ?_
     try simp only [Act.put,tA,tB,tC,tD,tE,tF]
     have h4:=zr 0 (g:=wr.drew.heap.size) (cap:=1) (n:=1) (sz:=1) (xs:=[.int .i64 x0]) (lh hy (.cells #[.int .i64 x0] 3)) rfl (Nat.le_refl _) (by simp only [maxLen]; omega) rfl rfl
     have hx4:=hxr.drew.alloc (.cells #[.int .i64 x0] 3)
     refine rd 4 rfl fun K hK=>?_
     go_simp
     refine hK.out _ _ (HCZ.out _ [_,_] h4) (fun _=>?_)
     clear hK K
     try simp only [Act.put,tA,tB,tC,tD,tE,tF]
     refine rd 8 rfl fun K hK=>?_
     refine Af (by rfl) _ _ 95 (by rfl) 0 3 Tryz.underlying95 F7 rfl (by decide) (by rfl) h4 rfl da dl dc (lq (la.drop at_)) (by rfl) HNL.out (fun ad had j u hu=>HAT.out _ [_,_] h4 ad had j u hu) HDN.out (fun u hu=>by simp only [lq,List.mem_map] at hu; obtain ⟨s,-,rfl⟩:=hu; rfl) hml hby ?_
     intro v6 w6 h6 hx6
     replace h6 : own w6 (row 3 1 v6 (la.take 1++la.drop at_).length (lq (la.take 1++la.drop at_))::(pts ba (.cells #[.int .i64 kind,.int .i64 file,.int .i64 st,.int .i64 left] 47 (0,0))::R)):=by
      rw [HT2.out,HT1.out]
      exact h6
     have hv:=oz 0 h6 rfl
     refine hK.out _ _ (HCZ.out _ [_,_] h6) (fun _=>?_)
     clear hK K h4
     try simp only [Act.put,tA,tB,tC,tD,tE,tF]
     refine rd 9 rfl fun K hK=>?_
     go_simp
     go_at_call 55
     refine (HSM.out v6 w6 [_,_] h6 hv).mono ?_
     rintro e w' ⟨rfl,nz,rfl⟩
     refine hK.out _ _ (HCZ.out _ [_,_] (lI nz h6)) (fun _=>?_)
     clear hK K
     try simp only [Act.put,tA,tB,tC,tD,tE,tF]
     refine tk 10 ?_
     try simp only [Act.put,tA,tB,tC,tD,tE,tF]
     refine wpAnyH_done (by kernel_rfl) ?_ _
     go_wp2_with fail
     go_ret
     exact ⟨by rw [HE.out]; rfl,(hx4.trans hx6).drewN _,lI _ (lg (lg h6))⟩
theorem Do {w : World} (C Z : List SL.HP) {E : List SL.HP} (H : own w (C++(Z++E))) : own w (C++E):=Aq Z (lu C Z H)
theorem SC {B : Nat -> Nat} {D D' : Nat -> DevM} : ∀{q : Nat},(∀k,k < q -> D k = D' k) -> devL B D q = devL B D' q:=by
 intro q
 induction q with
 | zero=>intro _; rfl
 | succ q ih=>intro h; rw [devL,devL,h q (by omega),ih fun k hk=>h k (by omega)]
theorem Vn {B : Nat -> Nat} {k b n : Nat} : (ptrs B n).set k (.pointer (some ⟨b,0,none⟩)) = ptrs (stN B k b) n:=by
 apply List.ext_getElem?
 intro j
 rw [List.getElem?_set]
 unfold ptrs stN
 by_cases hj : j < n
 ·by_cases e : k = j
  ·subst e; simp [hj]
  ·have : ¬j = k:=fun h=>e h.symm
   simp [hj,e,this]
 ·have : (List.map (fun k=>Value.pointer (some ⟨B k,0,none⟩)) (List.range n)).length <= j:=by simp; omega
  simp [hj]
  omega
def upto (m : le) (q k : Nat) : DevM:=if k < q then oA m k else devOf m k
theorem Tz {m : le} {q : Nat} (h : (q : Int)∈m.list) : upto m (q + 1) = upto m q:=by
 funext k
 unfold upto
 by_cases e : k = q
 ·subst e
  rw [zt (by omega),zq (by omega)]
  unfold oA
  rw [zt h]
 ·by_cases h2 : k < q
  ·rw [zt (by omega),zt h2]
  ·rw [zq (by omega),zq h2]
theorem Wi {m : le} {q : Nat} (h : ¬(q : Int)∈m.list) : upto m (q + 1) = setD (upto m q) q (od 1):=by
 funext k
 unfold upto setD
 by_cases e : k = q
 ·subst e
  rw [zt (by omega),zt rfl]
  unfold oA
  rw [zq h]
 ·rw [zq e]
  dsimp only
  by_cases h2 : k < q
  ·rw [zt (by omega),zt h2]
  ·rw [zq (by omega),zq h2]
theorem Vx {B : Nat -> Nat} {D : Nat -> DevM} {k b : Nat} {d : DevM} {X : List SL.HP} (hk : k < 5) : (devL B D 5++X).set (4 - k) (lj b d) = devL (stN B k b) (setD D k d) 5++X:=by
 have h : k = 0 \/ k = 1 \/ k = 2 \/ k = 3 \/ k = 4:=by omega
 rcases h with rfl | rfl | rfl | rfl | rfl
 all_goals rfl
theorem TA {Y : YA} {m : le} {A : List SL.HP} {R : List SL.HP} {B : Nat -> Nat} {D : Nat -> DevM} {k b : Nat} {d : DevM} {w : World} (hk : k < 5) (H : own w (lj b d::(A++(devL B D 5++R)))) : own w (A++(devL (stN B k b) (setD D k d) 5++R)):=by
 have h1 : (A++(devL B D 5++R))[A.length + (4 - k)]? = some (lj (B k) (D k)):=by
  rw [List.getElem?_append_right (by omega),show A.length + (4 - k) - A.length = 4 - k by omega]
  exact Qq B D R hk
 have h2:=JG h1 H
 rw [List.set_append_right _ _ (by omega),show A.length + (4 - k) - A.length = 4 - k by omega,Vx hk] at h2
 exact h2
theorem Sg {Y : YA} {m : le} {P Q S : SL.HP} {V R : List SL.HP} {w : World} (H : own w (yL Y m (P::Q::S::(V++R)))) : own w (V++(Q::(S::yL Y m (P::R)))):=by
 have h1:=lu (shL Y.bs Y.A m.F++(yT Y m++[P])) [Q,S] (R:=V++R) (by simpa only [zp,List.cons_append,List.nil_append] using H)
 have h2:=lu ([Q,S]++(shL Y.bs Y.A m.F++(yT Y m++[P]))) V (R:=R) (by simpa only [zp,List.cons_append,List.nil_append] using h1)
 simpa only [zp,List.cons_append,List.nil_append] using h2
theorem T7 {Y Yx : YA} {m mx : le} {P Q S : SL.HP} {V R : List SL.HP} {w : World} (H : own w (yL Yx mx (V++(Q::(S::yL Y m (P::R)))))) : own w (yL Yx mx (yL Y m R)):=by
 have h1:=Do (shL Yx.bs Yx.A mx.F++yT Yx mx) (V++[Q,S]) (E:=yL Y m (P::R)) (by simpa only [zp,List.cons_append,List.nil_append] using H)
 have h2:=Do (shL Yx.bs Yx.A mx.F++(yT Yx mx++(shL Y.bs Y.A m.F++yT Y m))) [P] (E:=R) (by simpa only [zp,List.cons_append,List.nil_append] using h1)
 simpa only [zp] using h2
theorem UV (N : Nat) (Y : YA) (m : le) (hg : ly N m) (hN : N < 900000) (hl : YLen m) (hs : SA m) (R : List SL.HP) (w : World) (H : own w (yL Y m R)) :
  Calls Tryz.prog 54 #[.pointer (some ⟨Y.y,0,none⟩)] w fun e w'=>∃Yx : YA,e = .returned (.tuple #[.pointer (some ⟨Yx.y,0,none⟩),.bool true]) /\ Ext w w' /\ own w' (yL Yx (yj (oA m) m.top).2 (yL Y m R)):=by
 have hm:=hg.ok
 have HDV:=zh (Uz N Y m hm R w H)
 have HCH:=zh (fun R' w' h=>FL Y m hm.list5 R' w' h)
 have HNW:=zh (fun R' w' h=>Fh 1 R' w' rfl h)
 have HOP:=zh (fun (B : Nat -> Nat) (bt : Nat) (v : Value) R' (hv : ∀w' L,own w' (L++R') -> KM w' v B) w' h=>Mo N B (oA m) (fun k hk=>Ib hm hk) (fun k hk=>by
  unfold oA
  split
  ·exact hl.dev hm hk
  ·show 0 < (List.replicate 1 BD).length
   decide) hN bt m.top hm.tp.1 (by have:=hm.tp.2.2.2; omega) v R' hv w' h)
 obtain ⟨ho1,-,-,-⟩:=D6 hm hs
 generalize yj (oA m) m.top = S at *
 obtain ⟨oc,ox⟩:=S
 dsimp only at ho1
 subst ho1
 have hl5 : m.list.length <= 5:=hm.list5
 unfold Jm at HOP
 dsimp only at HOP ⊢
 clear hg hN hl hs H hm
 go_enter Tryz.func54,Tryz.ntmps54
 go_wp2_with fail
 refine HDV.out.mono ?_
 rintro e w1 ⟨v,B,bt,rfl,hx1,h1⟩
 clear HDV
 go_wp2_with fail
 refine (HCH.out _ _ h1).mono ?_
 rintro e w2 ⟨vc,rfl,hx2,h2⟩
 clear h1 HCH
 have hx2:=hx1.trans hx2
 clear hx1
 obtain ⟨vo,vg,vcap,rfl,-,-,v3,-,-,-,-⟩:=lm 17 h2 rfl
 obtain rfl:=v3 (by decide)
 obtain ⟨lo,lb,lf,lcap,rfl,-,-,l3,-⟩:=(oz 15 h2 rfl).form
 clear v3
 have HLC:=zh (fun (w' : World) (X : List SL.HP) (h : own w' (yL Y m (row 3 1 (.slice lo m.list.length lcap) m.list.length (lq m.list)::X))) (i : Nat) (hi : i < m.list.length)=>show w'.cell? ⟨lb,lf + i,none⟩ = some (.int .i64 (m.list.getD i 0)) from by
  obtain ⟨x1,x2,x3,x4,e,-,-,y3,y4⟩:=(oz 15 h rfl).form
  have z:=y3 (by omega)
  have z2:=l3 (by omega)
  subst z z2
  cases e
  exact y4 i hi)
 have HL3:=zh l3
 clear l3
 go_wp2_with fail
 go_loopw [7] (fun kv wr=>∃(q : Nat) (B' : Nat -> Nat),q <= 5 /\ kv = .int .i64 q /\ Ext w wr /\ own wr (yL Y m (row 3 1 (.slice lo m.list.length lcap) m.list.length (lq m.list)::lj bt m.top::row 53 1 (.slice (some ⟨vg,0,none⟩) 5 vcap) 5 (ptrs B' 5)::(devL B' (upto m q) 5++R)))) (fun kv _=>5 - (intOf kv).toNat)
 case atStart=>exact ⟨0,B,by omega,rfl,hx2,h2⟩
 case round=>
  clear h2 hx2
  obtain ⟨q,B',hq,rfl,hxr,hown⟩:=hrel
  by_cases hlt : q < 5
  ·have p1 : (q : Int) < 5:=by omega
   have p2 : (0 : Int) <= (q : Int):=by omega
   have HC:=zh (HLC.out wr _ hown)
   go_wp2_with fail
   go_loopw [9,8] (fun kv av wz=>∃(k : Nat),k <= m.list.length /\ kv = .int .i64 k /\ av = .bool (decide ((q : Int)∈m.list.take k)) /\ wz = wr) (fun kv _ _=>m.list.length - (intOf kv).toNat)
   case atStart=>exact ⟨0,by omega,rfl,by simp,rfl⟩
   case round=>
    obtain ⟨k,hk,rfl,rfl,rfl⟩:=hrel
    by_cases hkl : k < m.list.length
    ·obtain rfl:=HL3.out (by omega)
     have hc:=HC.out k hkl
     have HNX:=zh (yU (0 : Int) hkl)
     generalize m.list.getD k 0 = x at *
     have HMM:=zh (show decide ((q : Int)∈m.list.take k++[x]) = (decide ((q : Int)∈m.list.take k) || (x == (q : Int))) by
      rw [Bool.eq_iff_iff]
      simp only [decide_eq_true_eq,Bool.or_eq_true,beq_iff_eq,List.mem_append,List.mem_singleton]
      constructor
      ·rintro (h | h)
       ·exact .inl h
       ·exact .inr h.symm
      ·rintro (h | h)
       ·exact .inl h
       ·exact .inr h.symm)
     generalize decide ((q : Int)∈m.list.take k) = b at *
     cases b
     all_goals
      go_wp2_with fail
      go_roundw
      case rel=>exact ⟨k + 1,by omega,by go_num,by rw [HNX.out,HMM.out]; rfl,by first | rfl | trivial⟩
      case measure=>simp [intOf]; omega
    ·obtain rfl : k = m.list.length:=by omega
     rw [List.take_length]
     by_cases hin : (q : Int)∈m.list
     ·have HIN:=zh hin
      rw [zg hin]
      clear hin
      go_wp2_with fail
      go_roundw
      case rel=>exact ⟨q + 1,B',by omega,by go_num,hxr,by rw [Tz HIN.out]; exact hown⟩
      case measure=>simp [intOf]; omega
     ·have HIN:=zh hin
      rw [zf hin]
      clear hin
      go_wp2_with fail
      refine (HNW.out _ _ hown).mono ?_
      rintro e w5 ⟨b,rfl,hx5,h5⟩
      have h6:=z8 18 q (.pointer (some ⟨b,0,none⟩)) h5 rfl (by omega)
      obtain ⟨hc1,hf1⟩:=oa 18 h5 rfl
      have cq:=hc1 q (.pointer (some ⟨B' q,0,none⟩)) (by simp [ptrs,hlt])
      have fq:=hf1 q
      have h7 : own (w5.setCell ⟨vg,q,none⟩ (.pointer (some ⟨b,0,none⟩))) (lj b (od 1)::yL Y m (row 3 1 (.slice lo m.list.length lcap) m.list.length (lq m.list)::lj bt m.top::row 53 1 (.slice (some ⟨vg,0,none⟩) 5 vcap) 5 (ptrs (stN B' q b) 5)::(devL B' (upto m q) 5++R))):=by
       rw [<- Vn]
       exact h6
      have h8:=TA (Y:=Y) (m:=m) (A:=shL Y.bs Y.A m.F++(yT Y m++[row 3 1 (.slice lo m.list.length lcap) m.list.length (lq m.list),lj bt m.top,row 53 1 (.slice (some ⟨vg,0,none⟩) 5 vcap) 5 (ptrs (stN B' q b) 5)])) hlt (by simpa only [zp,List.cons_append,List.nil_append] using h7)
      rw [<- Wi HIN.out] at h8
      simp only [zp,List.cons_append,List.nil_append] at h8
      have hx8:=(hxr.trans hx5).setCell ⟨vg,q,none⟩ (.pointer (some ⟨b,0,none⟩))
      clear h5 h6 h7 hc1 hf1 hown
      go_wp2_with fail
      go_roundw
      case rel=>exact ⟨q + 1,stN B' q b,by omega,by go_num,hx8,h8⟩
      case measure=>simp [intOf]; omega
  ·obtain rfl : q = 5:=by omega
   have hdl : devL B' (upto m 5) 5 = devL B' (oA m) 5:=SC fun k hk=>by unfold upto; rw [zt hk]
   rw [hdl] at hown
   have h9:=Sg hown
   have HPA:=zh (fun (w' : World) (L : List SL.HP) (h : own w' (L++(row 53 1 (.slice (some ⟨vg,0,none⟩) 5 vcap) 5 (ptrs B' 5)::yL Y m (row 3 1 (.slice lo m.list.length lcap) m.list.length (lq m.list)::R))))=>show KM w' (.slice (some ⟨vg,0,none⟩) 5 vcap) B' from ⟨vg,0,vcap,rfl,fun k hk=>by
    have:=(oa (k:=L.length) h (by rw [List.getElem?_append_right (Nat.le_refl _),Nat.sub_self]; rfl)).1 k (.pointer (some ⟨B' k,0,none⟩)) (by simp [ptrs,hk])
    rw [Nat.zero_add]
    exact this⟩)
   have HOX:=zh (HOP.out B' bt _ _ HPA.out wr h9)
   clear hown hdl h9 HPA HOP
   go_wp2_with fail
   refine HOX.out.mono ?_
   rintro e w6 (⟨hno,-⟩ | ⟨-,Yx,rfl,hx6,h6⟩)
   ·exact absurd rfl hno
   ·go_wp2_with fail
    go_ret2
    exact ⟨Yx,rfl,hxr.trans hx6,T7 h6⟩
theorem VX {C : Int} {N : Nat} (Y : YA) (m : le) (hg : ly N m) (hN : N + 2000 < 890000) (x : Act) (hA : yb x.A) (hB : yb x.B) (hS : x.S.size <= 700) (v : Value) (gb : Nat) (vn vc : Value) (nv cv : Nat -> Value) (g : lO) (ht : YT C m) (hcn : (g.now.length : Int) = 4 * C) (hcr : g.cr.length = g.now.length) (hn : g.now.length <= 1000) (B : Nat) (hl : LsOk g B) (hB2 : B <= 100000) (R : List SL.HP) (hT : ∀w' L,own w' (L++R) -> A0 w') (w : World) (H : own w (yL Y m (gL gb vn vc nv cv g++R))) :
  Calls Tryz.prog 41 #[.pointer (some ⟨Y.y,0,none⟩),.pointer (some ⟨gb,0,none⟩),.agg #[.string x.kind,.int .i64 x.A,.int .i64 x.B,.int .i64 x.C,.int .i64 x.D,.string x.S,v]] w (EI Y gb vn vc (didY m x) (didG m g x) R w):=by
 unfold didY didG
 by_cases k0 : (x.kind.toList == [119,114,105,116,101]) = true
 ·rw [zt k0,zt k0]
  have W:=Cc ht hg.ok (by omega) x.A x.S (by omega)
  exact LU Y m N hg hN x v _ R gb vn vc nv cv g rfl hcr hn B hl hB2 hA hS (fun h1=>⟨(W.1.rng h1).1,by have:=(W.1.rng h1).2; omega,W.2 h1⟩) (Ih _ _ _) w H k0
 rw [zq k0,zq k0]
 by_cases k1 : (x.kind.toList == [119,105,112,101]) = true
 ·rw [zt k1,zt k1]
  refine Nc Y m N hg hN x v _ R gb vn vc nv cv g rfl hcr hn B hl hB2 hA hB (fun h1=>?_) (Ji _ _ _) w H k0 k1
  by_cases hb : x.B <= 200
  ·have W:=C4 ht hg.ok (by omega) x.A x.B hb
   exact ⟨(W.1.rng h1).1,by have:=(W.1.rng h1).2; omega,W.2 h1,hb⟩
  ·exact absurd (by rw [Bg hg.ok (by omega) hb]) h1
 rw [zq k1,zq k1]
 by_cases k2 : (x.kind.toList == [102,108,117,115,104]) = true
 ·rw [zt k2,zt k2]
  exact Mt Y m N hg hN x v _ R gb vn vc nv cv g rfl hcr hn B hl hB2 w H k0 k1 k2
 rw [zq k2,zq k2]
 by_cases k3 : (x.kind.toList == [98,108,97,110,107]) = true
 ·rw [zt k3]
  exact (Mq Y m N hg hN x v _ _ w H k0 k1 k2 k3).mono fun _ _ h=>h.g
 rw [zq k3]
 by_cases k4 : (x.kind.toList == [115,110,97,112]) = true
 ·rw [zt k4]
  exact (Oj Y m N hg hN x v _ _ w H k0 k1 k2 k3 k4).mono fun _ _ h=>h.g
 rw [zq k4]
 by_cases k5 : (x.kind.toList == [115,116,97,114,116]) = true
 ·rw [zt k5]
  exact (ME Y m N hg hN x v _ _ w H k0 k1 k2 k3 k4 k5).mono fun _ _ h=>h.g
 rw [zq k5]
 by_cases k6 : (x.kind.toList == [112,105,118,111,116]) = true
 ·rw [zt k6]
  exact (Lz Y m N hg hN x v _ _ w H k0 k1 k2 k3 k4 k5 k6).mono fun _ _ h=>h.g
 rw [zq k6]
 by_cases k7 : (x.kind.toList == [99,97,110,99,101,108]) = true
 ·rw [zt k7]
  exact (J9 Y m N hg hN x v _ _ w H k0 k1 k2 k3 k4 k5 k6 k7).mono fun _ _ h=>h.g
 rw [zq k7]
 by_cases k8 : (x.kind.toList == [112,97,117,115,101]) = true
 ·rw [zt k8]
  exact (LO Y m N hg hN x v _ _ w H k0 k1 k2 k3 k4 k5 k6 k7 k8).mono fun _ _ h=>h.g
 rw [zq k8]
 by_cases k9 : (x.kind.toList == [116,105,99,107]) = true
 ·rw [zt k9]
  exact (Og Y m N hg hN x v _ _ w H k0 k1 k2 k3 k4 k5 k6 k7 k8 k9).mono fun _ _ h=>h.g
 rw [zq k9]
 by_cases k10 : (x.kind.toList == [102,97,105,108]) = true
 ·rw [zt k10]
  exact (NP Y m N hg hN x v _ _ w H k0 k1 k2 k3 k4 k5 k6 k7 k8 k9 k10).mono fun _ _ h=>h.g
 rw [zq k10]
 exact (Nk Y m N hg hN x v _ _ (EN hT (gL gb vn vc nv cv g)) w H k0 k1 k2 k3 k4 k5 k6 k7 k8 k9 k10).mono fun _ _ h=>h.g
theorem XG {C : Int} {N : Nat} {m : le} (h : YT C m) (hg : ly N m) (hN : N + 2000 < 900000) (x : Act) (hS : x.S.size <= 700) : YT C (didY m x):=by
 unfold didY
 by_cases k0 : (x.kind.toList == [119,114,105,116,101]) = true
 ·rw [zt k0]
  exact (Cc h hg.ok (by omega) x.A x.S (by omega)).1.t
 rw [zq k0]
 by_cases k1 : (x.kind.toList == [119,105,112,101]) = true
 ·rw [zt k1]
  by_cases hn : x.B <= 200
  ·exact (C4 h hg.ok (by omega) x.A x.B hn).1.t
  ·rw [Bg hg.ok (by omega) hn]; exact h
 rw [zq k1]
 by_cases k2 : (x.kind.toList == [102,108,117,115,104]) = true
 ·rw [zt k2]
  exact (Gp h hg.ok).t
 rw [zq k2]
 by_cases k3 : (x.kind.toList == [98,108,97,110,107]) = true
 ·rw [zt k3]
  exact (Er h hg.ok _ _).t
 rw [zq k3]
 by_cases k4 : (x.kind.toList == [115,110,97,112]) = true
 ·rw [zt k4]
  exact (I0 h hg _).t
 rw [zq k4]
 by_cases k5 : (x.kind.toList == [115,116,97,114,116]) = true
 ·rw [zt k5]
  exact (Gz h hg.ok _ _ _ _).t
 rw [zq k5]
 by_cases k6 : (x.kind.toList == [112,105,118,111,116]) = true
 ·rw [zt k6]
  exact (Ia h hg (by omega)).t
 rw [zq k6]
 by_cases k7 : (x.kind.toList == [99,97,110,99,101,108]) = true
 ·rw [zt k7]
  exact (Gl h hg.ok).t
 rw [zq k7]
 by_cases k8 : (x.kind.toList == [112,97,117,115,101]) = true
 ·rw [zt k8]
  exact (Gt h _).t
 rw [zq k8]
 by_cases k9 : (x.kind.toList == [116,105,99,107]) = true
 ·rw [zt k9]
  exact (GV h _).t
 rw [zq k9]
 by_cases k10 : (x.kind.toList == [102,97,105,108]) = true
 ·rw [zt k10]
  exact (Kg h hg.ok _ _).t
 rw [zq k10]
 exact (GN h hg (by omega)).t
theorem LQ (m : le) : ∃k f s n : Int,Ey m = .agg #[.int .i64 k,.int .i64 f,.int .i64 s,.int .i64 n] /\ (s≠4 -> NoC m) /\ (s = 4 -> ∃j,m.job = some j /\ j.st = 4 /\ j.kind = k /\ j.file = f):=by
 unfold Ey
 cases hj : m.job with
 | none=>exact ⟨0,-1,0,0,rfl,(fun _ j e=>by rw [hj] at e; cases e),(fun e=>by cases e)⟩
 | some j=>exact ⟨j.kind,j.file,j.st,(cnt j.x : Nat),rfl,(fun h j' e=>by rw [hj] at e; cases e; exact h),(fun e=>⟨j,rfl,e,rfl,rfl⟩)⟩
end Go.Proofs.YtbpblokfiajpjabGreatDoor
