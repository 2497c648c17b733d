/- Lemmas on which YardSays stands: the texts Image18 Chain18 Jobs5 Jobs6. No conditions. -/
import Derived.Test.YtbpblokfiajpjabGreatDoorPk305830295c
set_option linter.all false
set_option maxRecDepth 1000000
set_option maxHeartbeats 32000000
namespace Go.Proofs.YtbpblokfiajpjabGreatDoor
open Go.RowKit Go.SL Go.Crc
attribute [local go_sem ↓] Go.wp_at_zero Go.wp_at_succ
theorem Jb (bd : Nat) (d : DevM) (hd : d.Ok) (hp : d.pend.length < 999000) (hw : d.writes < 999000) (c p b : Int) (R : List SL.HP) (w : World) (H : own w (ln bd d::R)) :
  Calls Tryz.prog 63 #[.pointer (some ⟨bd,0,none⟩),lM c p b] w (Mk bd (oD d c p b) R w):=by
 have hE : oD d c p b = if BS d c p b then (1,ow d c p b)
  else if (d.puts 1 (oh (lC c))).1≠0 then ((d.puts 1 (oh (lC c))).1,ow (d.puts 1 (oh (lC c))).2 c p b)
  else if ((d.puts 1 (oh (lC c))).2.flush.write 0 (lN c p b)).1≠0 then (((d.puts 1 (oh (lC c))).2.flush.write 0 (lN c p b)).1,ow ((d.puts 1 (oh (lC c))).2.flush.write 0 (lN c p b)).2 c p b)
  else (0,ow ((d.puts 1 (oh (lC c))).2.flush.write 0 (lN c p b)).2.flush c p b):=rfl
 generalize oD d c p b = S at *
 have HE:=zh hE
 clear hE
 have ha:=li H (.cells #[.int .i64 c,.int .i64 p,.int .i64 b] 103)
 have hxa:=(zR w).alloc (.cells #[.int .i64 c,.int .i64 p,.int .i64 b] 103)
 obtain ⟨vf,va,vw,h⟩:=AL (lu 1 ha rfl)
 obtain ⟨af,gf,cf,rfl,-,-,-,-,-,-,-⟩:=lk 1 h rfl
 have hn:=hd.n
 have hfh:=fun (R : List SL.HP) (w : World) (H : own w R)=>zy c p b R w H
 by_cases hb : lF c p b
 ·have hS : S = (1,ow d c p b):=by rw [HE.out,zt (show BS d c p b from .inl hb)]
  rw [show yu c p b = 1 from zt hb] at hfh
  have HFH:=zh hfh
  have HS:=zh hS
  clear hb hS hfh
  unfold lM at HFH
  unfold lM
  go_enter Tryz.func63,Tryz.ntmps63
  go_upto_region 1 with (fail)
  generalize w.heap.size = gh at *
  generalize w.alloc (.cells #[.int .i64 c,.int .i64 p,.int .i64 b] 103) = w1 at *
  have hd1:=lj h
  clear h
  refine wp_region_held_drew (S:=fun w'=>w'.cell? ⟨gh,0,none⟩ = some (.int .i64 c) /\ w'.cell? ⟨gh,1,none⟩ = some (.int .i64 p) /\ w'.cell? ⟨gh,2,none⟩ = some (.int .i64 b) /\ w'.cell? ⟨bd,0,none⟩ = some (.slice af d.fl.length cf)) (by kernel_rfl) ⟨(ld 4 hd1 rfl).1 0,(ld 4 hd1 rfl).1 1,(ld 4 hd1 rfl).1 2,(ld 0 hd1 rfl).1 0⟩ (fun hHeld=>?_)
  refine tk 0 ?_
  try simp only [Act.put,tA,tB,tC,tD,tE,tF]
  refine rd 1 rfl fun K hK=>?_
  go_simp
  go_at_call 129
  refine (HFH.out _ _ hd1).mono ?_
  rintro e w2 ⟨rfl,hx2,h2⟩
  go_simp
  refine hK.out _ _ ⟨(ld 4 h2 rfl).1 0,(ld 4 h2 rfl).1 1,(ld 4 h2 rfl).1 2,(ld 0 h2 rfl).1 0⟩ (fun _=>?_)
  clear hK K
  try simp only [Act.put,tA,tB,tC,tD,tE,tF]
  refine tk 2 ?_
  refine tk 3 ?_
  try simp only [Act.put,tA,tB,tC,tD,tE,tF]
  refine sk 4 ?_
  refine sk 5 ?_
  refine sk 6 ?_
  refine sk 7 ?_
  refine sk 8 ?_
  refine sk 9 ?_
  refine sk 10 ?_
  refine sk 11 ?_
  try simp only [Act.put,tA,tB,tC,tD,tE,tF]
  refine rd 12 rfl fun K hK=>?_
  go_simp
  refine hK.out _ _ (by assumption) (fun _=>?_)
  clear hK K
  try simp only [Act.put,tA,tB,tC,tD,tE,tF]
  refine wpAnyH_done (by kernel_rfl) ?_ _
  have h3:=yA h2
  have hx3:=hxa.drew.trans hx2
  clear hd1 h2
  go_wp2_with fail
  go_ret2
  rw [HS.out]
  exact .inl ⟨by simp,rfl,hx3,lh 1 h3 rfl⟩
 ·rw [show yu c p b = 0 from zq hb] at hfh
  have HFH:=zh hfh
  have HND:=zh (fun (R : List SL.HP) (w : World) (H : own w R)=>Ie c p b hb R w H)
  have HB:=zh hb
  have hfb : BS d c p b↔(d.fl.length : Int) < yz c p:=⟨fun h=>h.elim (fun h=>absurd h hb) id,.inr⟩
  have HFB:=zh hfb
  clear hb hfh hfb
  generalize yz c p = nd at *
  by_cases hl : (d.fl.length : Int) < nd
  ·have d0 : decide ((d.fl.length : Int) < nd) = true:=zg hl
   have HL:=zh hl
   clear hl
   unfold lM at HFH HND
   unfold lM
   go_enter Tryz.func63,Tryz.ntmps63
   go_upto_region 1 with (fail)
   generalize w.heap.size = gh at *
   generalize w.alloc (.cells #[.int .i64 c,.int .i64 p,.int .i64 b] 103) = w1 at *
   have hd1:=lj h
   clear h
   refine wp_region_held_drew (S:=fun w'=>w'.cell? ⟨gh,0,none⟩ = some (.int .i64 c) /\ w'.cell? ⟨gh,1,none⟩ = some (.int .i64 p) /\ w'.cell? ⟨gh,2,none⟩ = some (.int .i64 b) /\ w'.cell? ⟨bd,0,none⟩ = some (.slice af d.fl.length cf)) (by kernel_rfl) ⟨(ld 4 hd1 rfl).1 0,(ld 4 hd1 rfl).1 1,(ld 4 hd1 rfl).1 2,(ld 0 hd1 rfl).1 0⟩ (fun hHeld=>?_)
   refine tk 0 ?_
   try simp only [Act.put,tA,tB,tC,tD,tE,tF]
   refine rd 1 rfl fun K hK=>?_
   go_simp
   go_at_call 129
   refine (HFH.out _ _ hd1).mono ?_
   rintro e w2 ⟨rfl,hx2,h2⟩
   go_simp
   refine hK.out _ _ ⟨(ld 4 h2 rfl).1 0,(ld 4 h2 rfl).1 1,(ld 4 h2 rfl).1 2,(ld 0 h2 rfl).1 0⟩ (fun _=>?_)
   clear hK K
   try simp only [Act.put,tA,tB,tC,tD,tE,tF]
   refine tk 2 ?_
   refine tk 3 ?_
   refine tk 4 ?_
   try simp only [Act.put,tA,tB,tC,tD,tE,tF]
   refine tk 6 ?_
   refine tk 7 ?_
   refine tk 8 ?_
   refine tk 9 ?_
   refine tk 10 ?_
   try simp only [Act.put,tA,tB,tC,tD,tE,tF]
   refine rd 5 rfl fun K hK=>?_
   go_simp
   go_at_call 130
   refine (HND.out _ _ h2).mono ?_
   rintro e w3 ⟨rfl,hx3,h3⟩
   go_simp
   refine hK.out _ _ ⟨(ld 4 h3 rfl).1 0,(ld 4 h3 rfl).1 1,(ld 4 h3 rfl).1 2,(ld 0 h3 rfl).1 0⟩ (fun _=>?_)
   clear hK K
   try simp only [Act.put,tA,tB,tC,tD,tE,tF]
   refine rd 11 rfl fun K hK=>?_
   go_simp
   refine hK.out _ _ (by assumption) (fun _=>?_)
   clear hK K
   try simp only [Act.put,tA,tB,tC,tD,tE,tF]
   refine rd 12 rfl fun K hK=>?_
   go_simp
   refine hK.out _ _ (by assumption) (fun _=>?_)
   clear hK K
   try simp only [Act.put,tA,tB,tC,tD,tE,tF]
   refine wpAnyH_done (by kernel_rfl) ?_ _
   have h4:=yA h3
   have hx4:=(hxa.drew.trans hx2).trans hx3
   clear hd1 h2 h3
   go_wp2_with fail
   go_ret2
   rw [HE.out,zt (HFB.out.2 HL.out)]
   exact .inl ⟨by simp,rfl,hx4,lh 1 h4 rfl⟩
  ·have d0 : decide ((d.fl.length : Int) < nd) = false:=zf hl
   have HL:=zh hl
   clear hl
   unfold lM at HFH HND
   unfold lM
   go_enter Tryz.func63,Tryz.ntmps63
   go_upto_region 1 with (fail)
   generalize w.heap.size = gh at *
   generalize w.alloc (.cells #[.int .i64 c,.int .i64 p,.int .i64 b] 103) = w1 at *
   have hd1:=lj h
   clear h
   refine wp_region_held_drew (S:=fun w'=>w'.cell? ⟨gh,0,none⟩ = some (.int .i64 c) /\ w'.cell? ⟨gh,1,none⟩ = some (.int .i64 p) /\ w'.cell? ⟨gh,2,none⟩ = some (.int .i64 b) /\ w'.cell? ⟨bd,0,none⟩ = some (.slice af d.fl.length cf)) (by kernel_rfl) ⟨(ld 4 hd1 rfl).1 0,(ld 4 hd1 rfl).1 1,(ld 4 hd1 rfl).1 2,(ld 0 hd1 rfl).1 0⟩ (fun hHeld=>?_)
   refine tk 0 ?_
   try simp only [Act.put,tA,tB,tC,tD,tE,tF]
   refine rd 1 rfl fun K hK=>?_
   go_simp
   go_at_call 129
   refine (HFH.out _ _ hd1).mono ?_
   rintro e w2 ⟨rfl,hx2,h2⟩
   go_simp
   refine hK.out _ _ ⟨(ld 4 h2 rfl).1 0,(ld 4 h2 rfl).1 1,(ld 4 h2 rfl).1 2,(ld 0 h2 rfl).1 0⟩ (fun _=>?_)
   clear hK K
   try simp only [Act.put,tA,tB,tC,tD,tE,tF]
   refine tk 2 ?_
   refine tk 3 ?_
   refine tk 4 ?_
   try simp only [Act.put,tA,tB,tC,tD,tE,tF]
   refine tk 6 ?_
   refine tk 7 ?_
   refine tk 8 ?_
   refine tk 9 ?_
   refine tk 10 ?_
   try simp only [Act.put,tA,tB,tC,tD,tE,tF]
   refine rd 5 rfl fun K hK=>?_
   go_simp
   go_at_call 130
   refine (HND.out _ _ h2).mono ?_
   rintro e w3 ⟨rfl,hx3,h3⟩
   go_simp
   refine hK.out _ _ ⟨(ld 4 h3 rfl).1 0,(ld 4 h3 rfl).1 1,(ld 4 h3 rfl).1 2,(ld 0 h3 rfl).1 0⟩ (fun _=>?_)
   clear hK K
   try simp only [Act.put,tA,tB,tC,tD,tE,tF]
   refine rd 11 rfl fun K hK=>?_
   go_simp
   refine hK.out _ _ (by assumption) (fun _=>?_)
   clear hK K
   try simp only [Act.put,tA,tB,tC,tD,tE,tF]
   refine rd 12 rfl fun K hK=>?_
   go_simp
   refine hK.out _ _ (by assumption) (fun _=>?_)
   clear hK K
   try simp only [Act.put,tA,tB,tC,tD,tE,tF]
   refine wpAnyH_done (by kernel_rfl) ?_ _
   have h4:=yA h3
   have hx4:=(hxa.drew.trans hx2).trans hx3
   clear hd1 h2 h3
   go_upto_region 4 with (fail)
   have hhb:=HB.out
   unfold lF at hhb
   obtain ⟨C,rfl⟩:=ze (show 0 <= c by omega)
   have c2 : C <= 32:=by omega
   clear hhb
   have h5:=li h4 (.cells #[.pointer (some ⟨bd,0,none⟩),.int .i64 C,.int .i64 p,.int .i64 b,.slice none 0 0,.slice none 0 0] 152)
   have hx5:=hx4.alloc (.cells #[.pointer (some ⟨bd,0,none⟩),.int .i64 C,.int .i64 p,.int .i64 b,.slice none 0 0,.slice none 0 0] 152)
   generalize w3.heap.size = bi at *
   generalize w3.alloc (.cells #[.pointer (some ⟨bd,0,none⟩),.int .i64 C,.int .i64 p,.int .i64 b,.slice none 0 0,.slice none 0 0] 152) = w5 at *
   have h6:=lv 221 2 h5
   clear h5 h4 hx4
   go_wp2_with fail
   go_loopw [7] (fun i wr=>∃(q : Nat) (v : Value),q <= C /\ i = .int .i64 q /\ Ext w wr /\ own wr (row 221 2 v q (lG (List.replicate q (0,0)))::pts bi (.cells #[.pointer (some ⟨bd,0,none⟩),.int .i64 C,.int .i64 p,.int .i64 b,v,.slice none 0 0] 152 (0,0))::ln bd d::pts gh (.cells #[.int .i64 C,.int .i64 p,.int .i64 b] 103 (0,0))::R)) (fun i _=>C - (intOf i).toNat)
   case atStart=>exact ⟨0,_,by omega,rfl,hx5,h6⟩
   case round=>
    obtain ⟨q,v,hq,rfl,hxr,hown⟩:=hrel
    by_cases hlt : q < C
    ·obtain ⟨cc,ff⟩:=ld 1 hown rfl
     obtain ⟨cg,fg⟩:=ld 3 hown rfl
     have hqC : (q : Int) < (C : Int):=by omega
     have hml : q + 1 <= maxLen:=by simp only [maxLen]; omega
     have e1 : IntKind.i64.wrap ((q : Int) + 1) = (q : Int) + 1:=zi _ (by omega)
     have ha2:=li hown (.cells #[.int .i64 0,.int .i64 0] 221)
     have one0 : ∀u∈[Value.int .i64 0,Value.int .i64 0],u.oneCell' = true:=fun u hu=>by simp at hu; subst hu; rfl
     go_wp2_with (first | (at_builtin; refine lD rfl _ _ 150 rfl 1 221 Tryz.underlying150 BJ rfl (by decide) rfl ha2 rfl (some ⟨wr.heap.size,0,none⟩) 1 1 [.int .i64 0,.int .i64 0] rfl rfl (ot wr [.int .i64 0,.int .i64 0] _) (fun h=>by cases h) one0 hml (by omega) ?_))
     intro v' w6 h6' hx6
     have hx7:=(hxr.alloc (.cells #[.int .i64 0,.int .i64 0] 221)).trans hx6
     clear cc ff cg fg ha2 hown hxr hx6
     obtain ⟨cc,ff⟩:=ld 2 h6' rfl
     obtain ⟨ao',g',cap',rfl,-,-,-,-,-,-,-⟩:=lk 1 h6' rfl
     have h7:=lg (i:=4) (v:=.slice ao' (q + 1) cap') 2 h6' rfl
     have hx8:=hx7.setCell ⟨bi,4,none⟩ (.slice ao' (q + 1) cap')
     go_wp2_with fail
     go_roundw
     case rel=>
      refine ⟨q + 1,.slice ao' (q + 1) cap',by omega,by go_num,hx8,?_⟩
      have h8:=le h7
      have e9 : lG (List.replicate (q + 1) ((0,0) : Ent)) = lG (List.replicate q (0,0))++[.int .i64 0,.int .i64 0]:=by
       rw [List.replicate_succ',lG,List.flatMap_append]; rfl
      rw [e9]
      exact h8
     case measure=>simp [intOf]; omega
    ·obtain rfl : C = q:=by omega
     have h7 : own wr (lX bi bd (ow d C p b)::ln bd d::pts gh (.cells #[.int .i64 C,.int .i64 p,.int .i64 b] 103 (0,0))::R):=by
      have h1:=lr [_,_] (lv 3 1 (lu 1 hown rfl))
      exact yW (m:=ow d C p b) (by
       show own _ (pts bi _::row 221 2 v (List.replicate C ((0,0) : Ent)).length _::row 3 1 _ 0 []::_)
       rw [List.length_replicate]
       exact h1)
     have hx7:=hxr
     clear hown hxr hq hlt
     have hlz : (lC (C : Int)).length = C:=by simp [lC]
     have hrn : ls C <= 4:=by unfold ls; omega
     have hll : (oh (lC (C : Int))).length = ls C:=by simp [oh,hlz]
     have HGET:=zh (fun (k : Nat) (h : k < ls C)=>IT (c:=(C : Int)) (k:=k) (by rw [hlz]; exact h))
     have HEND:=zh (show (oh (lC (C : Int))).drop (ls C) = [] from List.drop_of_length_le (by omega))
     have HOK:=zh (fun (k : Nat) (h : k < ls C)=>CA (t:=lC (C : Int)) (r:=k) (by rw [hlz]; omega) (by rw [hlz]; exact h) (GW C))
     have HRW:=zh (Bf C (by omega))
     have hpo:=CZ (l:=oh (lC (C : Int))) (d:=d) (a:=1) hd (by omega) (by omega)
     have hpn:=AM (l:=oh (lC (C : Int))) (d:=d) (a:=1)
     rw [hll] at hpo
     have hE3:=HE.out
     rw [zq (fun h=>by have h1:=HFB.out.1 h; have h2:=HL.out; omega)] at hE3
     have HLZ:=zh hlz
     generalize hrl : oh (lC (C : Int)) = RL at *
     generalize hres : d.puts 1 RL = res at *
     have HRES:=zh hres
     have HE4:=zh hE3
     generalize hN : ls C = N at *
     obtain ⟨o1,o2,o3,o4⟩:=hpo
     clear hE3 hlz HE hres hrl HL HFB HND HFH d0
     obtain ⟨c0,f0⟩:=ld 2 h7 rfl
     go_wp2_with fail
     clear c0 f0
     go_loopw [8] (Lh (fun dk=>lX bi bd (ow d C p b)::ln bd dk::pts gh (.cells #[.int .i64 C,.int .i64 p,.int .i64 b] 103 (0,0))::R) d 1 RL res w) (fun i _=>N - (intOf i).toNat)
     case atStart=>exact ⟨0,d,by omega,rfl,by simpa using HRES.out,hd,by omega,by simp,hx7,h7⟩
     case round=>
      obtain ⟨k,dk,hk,rfl,hput,okd,hpk,hwk,hxr,hown⟩:=hrel
      rw [hll] at hk
      obtain ⟨cg,fg⟩:=ld 2 (by exact hown) rfl
      by_cases hlt : k < N
      ·rw [HGET.out k hlt] at hput
       obtain ⟨z,hz⟩ : ∃z,lU (lC (C : Int)) (k : Int) = (z,0):=⟨_,Prod.ext rfl (HOK.out k hlt)⟩
       have hsz:=GN (HOK.out k hlt)
       rw [hz] at hput hsz
       dsimp only at hput hsz
       have HZ:=zh hz
       have HPUT:=zh hput
       clear hput hz
       have e1 : IntKind.i64.wrap ((k : Int) + 1) = (k : Int) + 1:=zi _ (by omega)
       have e2 : IntKind.i64.wrap (1 + (k : Int)) = 1 + (k : Int):=zi _ (by omega)
       have hkN : (k : Int) < (N : Int):=by omega
       have HW:=zh (fun (R : List SL.HP) (w : World) (H : own w (ln bd dk::R))=>Ct bd dk okd (1 + (k : Int)) z (by omega) (by omega) (by omega) R w H)
       have hcode:=ol dk (1 + (k : Int)) z
       obtain ⟨l1,l2,l3⟩:=yE dk (1 + (k : Int)) z
       have okw:=DevM.write_ok okd (1 + (k : Int)) z (by omega) (by omega)
       have hstep : dk.puts (1 + (k : Int)) (z::RL.drop (k + 1)) = if (dk.write (1 + (k : Int)) z).1≠0 then dk.write (1 + (k : Int)) z else (dk.write (1 + (k : Int)) z).2.puts (1 + (k : Int) + 1) (RL.drop (k + 1)):=rfl
       rw [HPUT.out] at hstep
       have HSTP:=zh hstep
       clear hstep l1
       generalize dk.write (1 + (k : Int)) z = r at *
       clear HGET HOK
       obtain ⟨vt,vh,h⟩:=yP hown
       obtain ⟨cc,ff⟩:=ld 0 h rfl
       go_wp2_with fail
       refine (HRW.out wr).mono ?_
       rintro e w' ⟨rfl,rfl⟩
       go_wp2_with fail
       refine (K6 vt (lC (C : Int)) (k : Int) (by have:=HLZ.out; omega) _ wr (fun w' L H=>EL (L.length + 1) (l:=lC (C : Int)) H (Ec (l:=L) rfl)) h).mono ?_
       rw [HZ.out]
       rintro e w4 ⟨rfl,hx4,h4⟩
       clear cc ff cg fg
       go_wp2_with fail
       refine (HW.out _ w4 (lu 3 h4 rfl)).mono ?_
       rintro e w5 ⟨rfl,hx5',h5'⟩
       have h5:=yW (m:=ow d C p b) (oo h4 3 rfl h5')
       have hx5:=(hxr.trans hx4).trans hx5'
       clear hx5' hx4 hown hxr h h4 h5'
       by_cases hz : r.1 = 0
       ·have HZ0:=zh hz
        have t0 : decide (0 < r.1) = false:=zf (by omega)
        clear hz
        go_wp2_with fail
        go_roundw
        case rel=>exact ⟨k + 1,r.2,by rw [hll]; omega,by go_num,by have:=HSTP.out; rw [zq (by simpa using HZ0.out)] at this; rw [this]; congr 1 <;> omega,okw,by omega,by omega,hx5,h5⟩
        case measure=>simp [intOf]; omega
       ·have hfin : res = r:=by have:=HSTP.out; rw [zt hz] at this; exact this
        have hS2 : S = (r.1,ow r.2 C p b):=by rw [HE4.out,hfin,zt hz]
        have HF:=zh hS2
        have t0 : decide (0 < r.1) = true:=zg (by omega)
        have hpz : 0 < r.1:=by omega
        clear hz hfin hS2
        go_wp2_with fail
        go_ret2
        rw [HF.out]
        exact .inl ⟨by dsimp only; omega,rfl,hx5,lh 1 (lh 0 h5 rfl) rfl⟩
      ·obtain rfl : N = k:=by omega
       rw [HEND.out,DevM.puts] at hput
       have hr0 : res.1 = 0:=by rw [<- hput]
       have hr2 : res.2 = dk:=by rw [<- hput]
       have hS2:=HE4.out
       rw [zq (by simpa using hr0),hr2] at hS2
       have HF:=zh hS2
       clear hput hlt hS2 hr0 hr2
       have HFL:=zh (fun (R : List SL.HP) (w : World) (H : own w (ln bd dk::R))=>Ew bd dk okd R w H)
       have okf:=DevM.flush_ok okd
       have hpl : dk.flush.pend.length = 0:=rfl
       have hwl : dk.flush.writes = dk.writes:=rfl
       have hhs : (lN C p b).size = 16:=Bi (by simp)
       have HWR:=zh (fun (R : List SL.HP) (w : World) (H : own w (ln bd dk.flush::R))=>Ct bd dk.flush okf 0 (lN C p b) (by omega) (by omega) (by omega) R w H)
       have hcode:=ol dk.flush 0 (lN C p b)
       have okw:=DevM.write_ok okf 0 (lN C p b) (by omega) (by omega)
       generalize dk.flush = df at *
       have HHD:=zh (fun (R : List SL.HP) (w : World) (H : own w R)=>Dr C p b HB.out R w H)
       unfold lM at HHD
       generalize lN C p b = hs at *
       generalize df.write 0 hs = r at *
       clear HGET HOK
       go_wp2_with fail
       refine (HRW.out wr).mono ?_
       rintro e w' ⟨rfl,rfl⟩
       go_wp2_with fail
       refine (HFL.out _ wr (lu 1 hown rfl)).mono ?_
       rintro e w5 ⟨rfl,hx5,h5'⟩
       have h5:=oo hown 1 rfl h5'
       clear cg fg
       obtain ⟨cc,ff⟩:=ld 2 h5 rfl
       go_wp2_with fail
       refine (HHD.out _ w5 h5).mono ?_
       rintro e w6 ⟨rfl,hx6,h6⟩
       clear cc ff
       go_wp2_with fail
       refine (HWR.out _ w6 (lu 1 h6 rfl)).mono ?_
       rintro e w7 ⟨rfl,hx7',h7'⟩
       have h7:=oo h6 1 rfl h7'
       have hx7f:=((hxr.trans hx5).trans hx6).trans hx7'
       by_cases hz : r.1 = 0
       ·have hS2:=HF.out
        rw [zq (by simpa using hz)] at hS2
        have HS2:=zh hS2
        have t0 : decide (0 < r.1) = false:=zf (by omega)
        have HFL2:=zh (fun (R : List SL.HP) (w : World) (H : own w (ln bd r.2::R))=>Ew bd r.2 okw R w H)
        clear hz hS2
        go_wp2_with fail
        refine (HFL2.out _ w7 (lu 1 h7 rfl)).mono ?_
        rintro e w8 ⟨rfl,hx8,h8'⟩
        have h8:=oo h7 1 rfl h8'
        go_wp2_with fail
        go_ret2
        rw [HS2.out]
        exact .inr ⟨rfl,bi,rfl,hx7f.trans hx8,lh 2 h8 rfl⟩
       ·have hS2:=HF.out
        rw [zt hz] at hS2
        have HS2:=zh hS2
        have t0 : decide (0 < r.1) = true:=zg (by omega)
        clear hz hS2
        go_wp2_with fail
        go_ret2
        rw [HS2.out]
        exact .inl ⟨by dsimp only; have:=of_decide_eq_true t0; omega,rfl,hx7f,lh 1 (lh 0 h7 rfl) rfl⟩
theorem lp {w : World} (l m : List SL.HP) {R : List SL.HP} (H : own w (l++(m++R))) : own w (m++(l++R)):=zc (fun _=>IH (List.perm_append_comm_assoc l m R)) H
theorem JQ {w : World} {l m : List SL.HP} (p : l.Perm m) (H : own w l) : own w m:=zc (fun _=>IH p) H
theorem EQ (d : DevM) (c p b : Int) : 0 <= (oD d c p b).1:=by
 unfold oD
 split
 ·simp
 ·split
  ·exact AM
  ·split
   ·exact ol _ _ _
   ·simp
theorem Le {n x : Nat} (hn : n <= 64) (hx : x < 2 ^ 64) (fr : Int) : (AG n x fr).1 <= 127:=by
 unfold AG
 split
 ·exact Nat.zero_le _
 ·rename_i h0
  split
  ·rename_i h
   have hd : x / 2 ^ fr.toNat < 2 ^ 64:=Nat.lt_of_le_of_lt (Nat.div_le_self _ _) hx
   obtain ⟨-,-,-,-,-,-,hk⟩:=GH _ h.2.2 hd
   have:=h.2.1
   dsimp only
   omega
  ·obtain ⟨-,-,-,-,-,-,hk⟩:=GH _ h0 hx
   dsimp only
   omega
def oy (j : JobM) : Nat×Bool:=AG j.n j.x (j.at_ : Nat)
def jdid (j : JobM) : JobM:=zu { j with level:=j.level - 4,x:=(og j.n j.x ((oy j).1 : Nat) false).2,at_:=(oy j).1 + 1 }
def lZ (F : ShM) (j : JobM) : (Bool×Int)×ShM×JobM:=
 if j.st≠1 /\ j.st≠3 then ((false,9),F,j) else if (oy j).2 = false \/ j.level < 4 then ((false,0),F,j)
 else if (Am F j ((oy j).1 : Nat)).1≠0 then ((false,(Am F j ((oy j).1 : Nat)).1),(Am F j ((oy j).1 : Nat)).2,{ j with level:=j.level - 4,st:=5 })
 else ((true,0),(Am F j ((oy j).1 : Nat)).2,jdid j)
theorem VV {j : JobM} (h : j.Ok) (h4 : ¬j.level < 4) : (jdid j).Ok:=by
 unfold jdid
 have:=h.level
 exact JR { h with x:=F5 h.n h.x _ false,level:=(by dsimp only; omega),at_:=(by have:=Le h.n h.x64 (j.at_ : Nat); dsimp only [oy]; omega) }
theorem J8 {F : ShM} {j : JobM} (h : j.Ok) : (lZ F j).2.2.Ok:=by
 unfold lZ
 have:=h.level
 split
 ·exact h
 ·split
  ·exact h
  ·rename_i h4
   have h4 : ¬j.level < 4:=fun e=>h4 (.inr e)
   split
   ·exact { h with level:=(by dsimp only; omega),st:=(by dsimp only; omega) }
   ·exact VV h h4
theorem Ez {F : ShM} (hF : ShOk F) {j : JobM} (hj : j.Ok) (h : JobS F j) : lL 5 F (lZ F j).2.1:=by
 unfold lZ
 split
 ·exact lL.refl hF 5
 ·split
  ·exact lL.refl hF 5
  ·split <;> exact Jj hF hj h _
theorem Gj (F : ShM) (j : JobM) : 0 <= (lZ F j).1.2:=by
 unfold lZ
 split
 ·simp
 ·split
  ·simp
  ·split
   ·exact Je F j _
   ·simp
theorem SA (bs : Nat) (A : Nat -> Nat×Nat×Nat) (F : ShM) (hF : ShOk F) (bj bt bb : Nat) (v : Value) (j : JobM) (hj : j.Ok) (hS : JobS F j) (R : List SL.HP) (w : World)
  (hv : ∀w' L,own w' (L++R) -> lS w' v j.list) (hT : ∀w' L,own w' (L++R) -> yR w') (H : own w (shL bs A F++(jobL bs bj bt bb v j++R))) :
  Calls Tryz.prog 58 #[.pointer (some ⟨bj,0,none⟩)] w fun e w'=>e = .returned (.tuple #[.bool (lZ F j).1.1,errV (lZ F j).1.2]) /\ Ext w w' /\ own w' (shL bs A (lZ F j).2.1++(jobL bs bj bt bb v (lZ F j).2.2++R)):=by
 unfold lZ
 by_cases hst : j.st≠1 /\ j.st≠3
 ·rw [zt hst]
  have d1 : (j.st != 1) = true:=bne_iff_ne.2 hst.1
  have d3 : (j.st != 3) = true:=bne_iff_ne.2 hst.2
  have c7:=(ld 6 H rfl).1 7
  clear hst
  go_enter Tryz.func58,Tryz.ntmps58
  go_wp2_with fail
  go_ret2
  exact ⟨rfl,zR _,H⟩
 ·rw [zq hst]
  have hst' : j.st = 1 \/ j.st = 3:=by omega
  have hNX : ∀w',own w' (shL bs A F++(jobL bs bj bt bb v j++R)) -> Calls Tryz.prog 148 #[.pointer (some ⟨bt,0,none⟩),.int .i64 (j.at_ : Nat)] w' fun e w''=>e = .returned (.tuple #[.int .i64 ((oy j).1 : Nat),.bool (oy j).2]) /\ w' = w'':=fun w' h=>
   Tk bt j.n j.x hj.n hj.x64 (j.at_ : Nat) 7 w' (hT w' (shL bs A F++jobL bs bj bt bb v j) (by rwa [zp])) h rfl
  have HNX:=zh hNX
  have hle : (oy j).1 <= 127:=Le hj.n hj.x64 _
  have HOW:=zh H
  have c5:=(ld 6 H rfl).1 5
  have c6:=(ld 6 H rfl).1 6
  by_cases hsm : (oy j).2 = false
  ·rw [zt (.inl hsm)]
   rw [hsm] at HNX
   generalize (oy j).1 = cn at *
   rcases hst' with h1 | h1
   all_goals
    have c7 : w.cell? ⟨bj,7,none⟩ = some (.int .i64 j.st):=(ld 6 H rfl).1 7
    rw [h1] at c7
    clear hst hNX hsm
    go_enter Tryz.func58,Tryz.ntmps58
    go_upto_region 3 with (fail)
    go_quiet ((go_at_call 148; exact Calls.quiet_of_same ((HNX.out _ (by first | exact HOW.out | exact lj HOW.out | exact ll _ HOW.out)).mono fun e w' h=>⟨h.1,h.2.symm⟩)))
    have h2:=ll nq H
    have hx2:=(zR w).drewN nq
    clear H HNX c5 c6 c7
    generalize w.drewN nq = w2 at *
    go_wp2_with fail
    go_ret2
    exact ⟨rfl,hx2,h2⟩
  ·have hsm' : (oy j).2 = true:=by simpa using hsm
   rw [hsm'] at HNX
   by_cases h4 : j.level < 4
   ·rw [zt (.inr h4)]
    have hTK : ∀w',own w' (shL bs A F++(jobL bs bj bt bb v j++R)) -> Calls Tryz.prog 149 #[.pointer (some ⟨bb,0,none⟩),.int .i64 4] w' fun e w''=>e = .returned (.bool false) /\ Ext w' w'' /\ own w'' (shL bs A F++(jobL bs bj bt bb v j++R)):=fun w' h=>by
     have:=PO (b:=bb) (r:=j.rate) (u:=j.burst) (l:=j.level) (n:=4) (L:=shL bs A F++(jobL bs bj bt bb v j++R)) 8 w' (by have:=hj.level; have:=hj.burst; omega) h rfl
     rw [show Gk j.level 4 = j.level from zq (by omega),show decide ((0 : Int) <= 4 /\ 4 <= j.level) = false from zf (by omega)] at this
     exact this
    have HTK:=zh hTK
    generalize (oy j).1 = cn at *
    rcases hst' with h1 | h1
    all_goals
     have c7 : w.cell? ⟨bj,7,none⟩ = some (.int .i64 j.st):=(ld 6 H rfl).1 7
     rw [h1] at c7
     clear hst hNX hsm hsm' hTK h4
     go_enter Tryz.func58,Tryz.ntmps58
     go_upto_region 3 with (fail)
     go_quiet ((go_at_call 148; exact Calls.quiet_of_same ((HNX.out _ (by first | exact HOW.out | exact lj HOW.out | exact ll _ HOW.out)).mono fun e w' h=>⟨h.1,h.2.symm⟩)))
     have h2:=ll nq H
     have hx2:=(zR w).drewN nq
     clear H HNX c5 c6 c7
     generalize w.drewN nq = w2 at *
     have c8:=(ld 6 h2 rfl).1 8
     go_wp2_with fail
     refine (HTK.out _ h2).mono ?_
     rintro e w3 ⟨rfl,hx3,h3⟩
     go_wp2_with fail
     go_ret2
     exact ⟨rfl,hx2.trans hx3,h3⟩
   ·rw [zq (by rintro (h | h); exact hsm h; exact h4 h)]
    have hTK : ∀w',own w' (shL bs A F++(jobL bs bj bt bb v j++R)) -> Calls Tryz.prog 149 #[.pointer (some ⟨bb,0,none⟩),.int .i64 4] w' fun e w''=>e = .returned (.bool true) /\ Ext w' w'' /\ own w'' (shL bs A F++(jobL bs bj bt bb v { j with level:=j.level - 4 }++R)):=fun w' h=>by
     have:=PO (b:=bb) (r:=j.rate) (u:=j.burst) (l:=j.level) (n:=4) (L:=shL bs A F++(jobL bs bj bt bb v j++R)) 8 w' (by have:=hj.level; have:=hj.burst; omega) h rfl
     rw [show Gk j.level 4 = j.level - 4 from zt (by omega),show decide ((0 : Int) <= 4 /\ 4 <= j.level) = true from zg (by omega)] at this
     exact this
    have HTK:=zh hTK
    have hj1 : ({ j with level:=j.level - 4 } : JobM).Ok:={ hj with level:=by have:=hj.level; dsimp only; omega }
    have HMV:=zh (fun w' h=>SQ bs A F hF bj bt bb v { j with level:=j.level - 4 } hj1 ⟨hS.list,hS.file⟩ ((oy j).1 : Nat) R w' hv h)
    rw [show Am F { j with level:=j.level - 4 } ((oy j).1 : Nat) = Am F j ((oy j).1 : Nat) from rfl] at HMV
    have hmc:=Je F j ((oy j).1 : Nat)
    have hms:=Jj hF hj hS ((oy j).1 : Nat)
    unfold jdid
    generalize Am F j ((oy j).1 : Nat) = mv at *
    obtain ⟨mc,F'⟩:=mv
    dsimp only at *
    by_cases hm : mc = 0
    ·subst hm
     rw [zq (by decide)]
     rw [show errV 0 = .nilIface from rfl] at HMV
     generalize (oy j).1 = cn at *
     have hjp : ∀b,({ j with level:=j.level - 4,x:=(og j.n j.x (cn : Nat) false).2,at_:=b } : JobM).x < 2 ^ j.n:=fun b=>F5 hj.n hj.x _ false
     have HPT:=zh (fun (L : List SL.HP) w' h hk=>Du (l:=L) bt j.n j.x hj.n hj.x (cn : Nat) false 7 w' h hk)
     have HTN:=zh (fun w' h=>B7 bs bj bt bb v { j with level:=j.level - 4,x:=(og j.n j.x (cn : Nat) false).2,at_:=cn + 1 } { hj1 with x:=hjp 0,at_:=(by dsimp only; omega) } (shL bs A F'++R) w' h)
     generalize (og j.n j.x (cn : Nat) false).1 = pb at *
     generalize (og j.n j.x (cn : Nat) false).2 = px at *
     have w9 : (cn : Int) <= 127:=by omega
     rcases hst' with h1 | h1
     all_goals
      have c7 : w.cell? ⟨bj,7,none⟩ = some (.int .i64 j.st):=(ld 6 H rfl).1 7
      rw [h1] at c7
      clear hst hNX hsm hsm' hTK h4 hjp
      go_enter Tryz.func58,Tryz.ntmps58
      go_upto_region 3 with (fail)
      go_quiet ((go_at_call 148; exact Calls.quiet_of_same ((HNX.out _ (by first | exact HOW.out | exact lj HOW.out | exact ll _ HOW.out)).mono fun e w' h=>⟨h.1,h.2.symm⟩)))
      have h2:=ll nq H
      have hx2:=(zR w).drewN nq
      clear H HNX c5 c6 c7
      generalize w.drewN nq = w2 at *
      have c8:=(ld 6 h2 rfl).1 8
      go_wp2_with fail
      refine (HTK.out _ h2).mono ?_
      rintro e w3 ⟨rfl,hx3,h3⟩
      go_wp2_with fail
      refine (HMV.out _ h3).mono ?_
      rintro e w4 ⟨rfl,hx4,h4⟩
      have c5:=(ld 6 h4 rfl).1 5
      go_wp2_with fail
      refine (HPT.out _ _ h4 rfl).mono ?_
      rintro e w5 ⟨rfl,hx5,h5'⟩
      have h5 : own w5 (shL bs A F'++(jobL bs bj bt bb v { j with level:=j.level - 4,x:=px }++R)):=h5'
      have c6:=(ld 6 h5 rfl).1 6
      have f6:=(ld 6 h5 rfl).2 6
      have h6 : own (w5.setCell ⟨bj,6,none⟩ (.int .i64 ((cn : Int) + 1))) (shL bs A F'++(jobL bs bj bt bb v { j with level:=j.level - 4,x:=px,at_:=cn + 1 }++R)):=lg (i:=6) (v:=.int .i64 ((cn : Int) + 1)) 6 h5 rfl
      go_wp2_with fail
      refine (HTN.out _ (lp (shL bs A F') (jobL bs bj bt bb v _) h6)).mono ?_
      rintro e w7 ⟨rfl,hx7,h7⟩
      go_wp2_with fail
      go_ret2
      exact ⟨rfl,(((((hx2.trans hx3).trans hx4).trans hx5).setCell _ _).trans hx7),lp (jobL bs bj bt bb v _) (shL bs A F') h7⟩
    ·rw [zt hm]
     have hp : 0 < mc:=by omega
     rw [lx hp] at HMV ⊢
     generalize (oy j).1 = cn at *
     rcases hst' with h1 | h1
     all_goals
      have c7 : w.cell? ⟨bj,7,none⟩ = some (.int .i64 j.st):=(ld 6 H rfl).1 7
      rw [h1] at c7
      clear hst hNX hsm hsm' hTK h4 hm
      go_enter Tryz.func58,Tryz.ntmps58
      go_upto_region 3 with (fail)
      go_quiet ((go_at_call 148; exact Calls.quiet_of_same ((HNX.out _ (by first | exact HOW.out | exact lj HOW.out | exact ll _ HOW.out)).mono fun e w' h=>⟨h.1,h.2.symm⟩)))
      have h2:=ll nq H
      have hx2:=(zR w).drewN nq
      clear H HNX c5 c6 c7
      generalize w.drewN nq = w2 at *
      have c8:=(ld 6 h2 rfl).1 8
      go_wp2_with fail
      refine (HTK.out _ h2).mono ?_
      rintro e w3 ⟨rfl,hx3,h3⟩
      go_wp2_with fail
      refine (HMV.out _ h3).mono ?_
      rintro e w4 ⟨rfl,hx4,h4⟩
      have c7:=(ld 6 h4 rfl).1 7
      have f7:=(ld 6 h4 rfl).2 7
      have h6 : own (w4.setCell ⟨bj,7,none⟩ (.int .i64 5)) (shL bs A F'++(jobL bs bj bt bb v { j with level:=j.level - 4,st:=5 }++R)):=lg (i:=7) (v:=.int .i64 5) 6 h4 rfl
      go_wp2_with fail
      go_ret2
      exact ⟨rfl,((hx2.trans hx3).trans hx4).setCell _ _,h6⟩
section
variable {b : Nat} {F : ShM} {k : Nat} {m : ImgM}
theorem Uo {A : Nat -> Nat×Nat×Nat} (hk : k < 5) (h : F k = some m) (hF : ShOk F) (c : Int) (R : List SL.HP) (w : World) (H : own w (shL b A F++R)) :
  Calls Tryz.prog 186 #[.pointer (some ⟨(A k).1,0,none⟩),.int .i64 c] w fun e w'=>e = .returned (errV (m.link c).1) /\ Ext w w' /\ own w' (shL b A (put F k (m.link c).2)++R):=
 (U0 _ _ _ m (hF.ok k m hk h) (by have:=hF.wr k m hk h; omega) c _ w (A1 hk h H)).mono fun e w' ⟨h1,h2,h3⟩=>⟨h1,h2,D8 hk h H h3⟩
theorem QE {A : Nat -> Nat×Nat} (hk : k < 5) (h : F k = some m) (hF : ShOk F) (c : Int) (R : List SL.HP) (w : World) (H : own w (rshL b A F++R)) :
  Calls Tryz.prog 187 #[.pointer (some ⟨(A k).1,0,none⟩),.int .i64 c] w fun e w'=>e = .returned (.int .i64 (m.link c).1) /\ Ext w w' /\ own w' (rshL b A (put F k (m.link c).2)++R):=
 (Ti _ _ m (hF.ok k m hk h) (by have:=hF.wr k m hk h; omega) c _ w (AZ hk h H)).mono fun e w' ⟨h1,h2,h3⟩=>⟨h1,h2,Ds hk h H h3⟩
theorem Kd {A : Nat -> Nat×Nat×Nat} (hk : k < 5) (h : F k = some m) (hF : ShOk F) (R : List SL.HP) (w : World) (H : own w (shL b A F++R)) :
  Calls Tryz.prog 172 #[.pointer (some ⟨(A k).1,0,none⟩)] w fun e w'=>e = .returned (.tuple #[]) /\ Ext w w' /\ own w' (shL b A (put F k m.flush)++R):=
 (Dg _ _ _ m (hF.ok k m hk h).d _ w (A1 hk h H)).mono fun e w' ⟨h1,h2,h3⟩=>⟨h1,h2,D8 (m':=m.flush) hk h H h3⟩
theorem Jm {A : Nat -> Nat×Nat} (hk : k < 5) (h : F k = some m) (hF : ShOk F) (R : List SL.HP) (w : World) (H : own w (rshL b A F++R)) :
  Calls Tryz.prog 176 #[.pointer (some ⟨(A k).1,0,none⟩)] w fun e w'=>e = .returned (.tuple #[]) /\ Ext w w' /\ own w' (rshL b A (put F k m.flush)++R):=
 (CK _ _ m (hF.ok k m hk h).d _ w (AZ hk h H)).mono fun e w' ⟨h1,h2,h3⟩=>⟨h1,h2,Ds (m':=m.flush) hk h H h3⟩
end
theorem J7 {F : ShM} {k : Nat} {m' : ImgM} {x : Int} (h : ly F x) : ly (put F k m') x:=by
 obtain ⟨h0,h1,m,hm⟩:=h
 refine ⟨h0,h1,?_⟩
 by_cases e : x.toNat = k
 ·exact ⟨m',by rw [e]; exact zK F k m'⟩
 ·exact ⟨m,by rw [AX F m' e]; exact hm⟩
theorem I6 {N n : Nat} {F : ShM} {k : Nat} {m m' : ImgM} (h : ShW N F) (hk : k < 5) (hm : F k = some m) (s : Step n m m') : ShW (N + n) (put F k m'):=by
 have key : ∀q mq,q < 5 -> put F k m' q = some mq -> (q≠k /\ F q = some mq) \/ (q = k /\ mq = m'):=fun q mq _ hq=>by
  by_cases e : q = k
  ·subst e; rw [zK] at hq; exact .inr ⟨rfl,(Option.some.inj hq).symm⟩
  ·rw [AX F m' e] at hq; exact .inl ⟨e,hq⟩
 refine ⟨fun q mq hq h'=>?_,fun q mq hq h'=>?_,fun q mq hq h'=>?_⟩
 ·rcases key q mq hq h' with ⟨-,h2⟩ | ⟨-,rfl⟩
  ·exact h.ok q mq hq h2
  ·exact s.ok
 ·rcases key q mq hq h' with ⟨-,h2⟩ | ⟨-,rfl⟩
  ·have:=h.wr q mq hq h2; omega
  ·have:=h.wr k m hk hm; have:=s.wr; omega
 ·rcases key q mq hq h' with ⟨-,h2⟩ | ⟨-,rfl⟩
  ·have:=h.pend q mq hq h2; omega
  ·have:=h.pend k m hk hm; have:=s.pend; omega
def AV (F : ShM) (k : Nat) : ShM:=match F k with
 | some m=>put F k m.flush
 | none=>F
def yh (F : ShM) : List Int -> ShM
 | []=>F
 | x::l=>yh (AV F x.toNat) l
theorem O9 {F : ShM} {k : Nat} {x : Int} (h : ly F x) : ly (AV F k) x:=by
 unfold AV
 split
 ·exact J7 h
 ·exact h
theorem GP {N : Nat} {F : ShM} (h : ShW N F) {k : Nat} (hk : k < 5) : ShW N (AV F k):=by
 unfold AV
 split
 ·rename_i m hm; exact I6 h hk hm (Df (h.ok k m hk hm))
 ·exact h
theorem IL {N : Nat} {l : List Int} : ∀{F : ShM},ShW N F -> (∀x∈l,ly F x) -> ShW N (yh F l):=by
 induction l with
 | nil=>intro F h _; exact h
 | cons x l ih=>
  intro F h hl
  have hx:=hl x List.mem_cons_self
  exact ih (GP h (by have:=hx.1; have:=hx.2.1; omega)) (fun y hy=>O9 (hl y (List.mem_cons_of_mem _ hy)))
def Bs (F : ShM) (k : Nat) (c : Int) : Int×ShM:=match F k with
 | some m=>((m.link c).1,put F k (m.link c).2)
 | none=>(0,F)
theorem Uc {N : Nat} {F : ShM} (h : ShW N F) (hN : N < 900000) {k : Nat} (hk : k < 5) (c : Int) : ShW (N + 1) (Bs F k c).2:=by
 unfold Bs
 split
 ·rename_i m hm; exact I6 h hk hm (SC (h.ok k m hk hm) (by have:=h.wr k m hk hm; omega) c)
 ·exact h.mono (by omega)
theorem GB (F : ShM) (k : Nat) (c : Int) : 0 <= (Bs F k c).1:=by
 unfold Bs
 split
 ·exact Pi _ _
 ·simp
def lA (F : ShM) (j : JobM) : Int×ShM×JobM:=
 if j.st≠3 then (9,F,j)
 else if j.kind = 2 then (if (Bs F (j.list.getD 0 0).toNat j.file).1≠0 then ((Bs F (j.list.getD 0 0).toNat j.file).1,(Bs F (j.list.getD 0 0).toNat j.file).2,{ j with st:=5 }) else (0,(Bs F (j.list.getD 0 0).toNat j.file).2,j))
 else if (lt F j.file).2≠0 then ((lt F j.file).2,F,j) else (0,yh F (lt F j.file).1,j)
theorem Ss {F : ShM} {j : JobM} (h : j.Ok) : (lA F j).2.2.Ok:=by
 unfold lA
 split
 ·exact h
 ·split
  ·split
   ·exact { h with st:=by simp }
   ·exact h
  ·split <;> exact h
theorem BW {N : Nat} {F : ShM} (hW : ShW N F) (hN : N < 900000) {j : JobM} (hj : j.Ok) (hS : JobS F j) : ShW (N + 1) (lA F j).2.1:=by
 have h0:=hS.list _ (mem0 hj.pos)
 have hk : (j.list.getD 0 0).toNat < 5:=by have:=h0.1; have:=h0.2.1; omega
 unfold lA
 split
 ·exact hW.mono (by omega)
 ·split
  ·split <;> exact Uc hW hN hk _
  ·split
   ·exact hW.mono (by omega)
   ·exact (IL hW (Ak F j.file)).mono (by omega)
theorem Bu (F : ShM) (j : JobM) : 0 <= (lA F j).1:=by
 unfold lA
 split
 ·simp
 ·split
  ·split
   ·exact GB _ _ _
   ·simp
  ·split
   ·exact zv
   ·simp
theorem JI (bs : Nat) (A : Nat -> Nat×Nat×Nat) (F : ShM) (N : Nat) (hW : ShW N F) (hN : N < 900000) (bj bt bb : Nat) (v : Value) (j : JobM) (hj : j.Ok) (hS : JobS F j) (R : List SL.HP) (w : World)
  (hv : ∀w' L,own w' (L++R) -> lS w' v j.list) (H : own w (shL bs A F++(jobL bs bj bt bb v j++R))) :
  Calls Tryz.prog 85 #[.pointer (some ⟨bj,0,none⟩)] w fun e w'=>e = .returned (errV (lA F j).1) /\ Ext w w' /\ own w' (shL bs A (lA F j).2.1++(jobL bs bj bt bb v (lA F j).2.2++R)):=by
 have hF : ShOk F:=hW.sh hN
 have c7:=(ld 6 H rfl).1 7
 unfold lA
 by_cases h3 : j.st = 3
 ·rw [zq (fun h=>h h3)]
  have d7 : w.cell? ⟨bj,7,none⟩ = some (.int .i64 3):=by rw [<- h3]; exact c7
  clear c7 h3
  by_cases h2 : j.kind = 2
  ·rw [zt h2]
   have c1 : w.cell? ⟨bj,1,none⟩ = some (.int .i64 2):=by rw [<- h2]; exact (ld 6 H rfl).1 1
   have hvw:=yO hv (jobL bs bj bt bb v j)
   obtain ⟨ao,lb,off,cap,rfl,hlc,hcap,hao,-⟩:=(hvw w _ H).form
   obtain rfl:=hao (by have:=hj.pos; omega)
   have hpos : 0 < j.list.length:=by have:=hj.pos; omega
   have l0 : (0 : Int) < (j.list.length : Int):=by omega
   obtain ⟨k,m,hxk,hk,hFk⟩:=lT (hS.list _ (mem0 hj.pos))
   have c0:=(ld 6 H rfl).1 0
   have c2:=(ld 6 H rfl).1 2
   have c3:=(ld 6 H rfl).1 3
   have c9 : w.cell? ⟨lb,off,none⟩ = some (.int .i64 (k : Int)):=by rw [<- hxk]; exact oq (hvw _ _ H) hpos
   have g1:=oA H hk
   rw [od hFk] at g1
   have i1 : (0 : Int) <= (k : Int):=by omega
   have i2 : (k : Int) < 5:=by omega
   have HL:=zh (fun w' h=>Uo (b:=bs) (A:=A) hk hFk hF j.file (jobL bs bj bt bb (.slice (some ⟨lb,off,none⟩) j.list.length cap) j++R) w' h)
   have hc:=GB F k j.file
   rw [hxk,zn]
   rw [show Bs F k j.file = ((m.link j.file).1,put F k (m.link j.file).2) by unfold Bs; rw [hFk]] at hc ⊢
   dsimp only at hc ⊢
   generalize put F k (m.link j.file).2 = F' at *
   generalize (m.link j.file).1 = lc at *
   clear hv hvw hao hlc hxk h2 hFk
   by_cases hlz : lc = 0
   ·subst hlz
    rw [zq (by decide)]
    rw [show errV 0 = .nilIface from rfl] at HL
    go_enter Tryz.func85,Tryz.ntmps85
    go_upto_region 4 with (fail)
    go_still_tail 17,(by kernel_rfl)
    change wpList _ _ _ _ _ w.drew
    go_wp2_with fail
    refine (HL.out _ (lj H)).mono ?_
    rintro e w2 ⟨rfl,hx2,h2'⟩
    go_wp2_with fail
    go_ret
    exact ⟨rfl,(zR w).drew.trans hx2,h2'⟩
   ·have hp : 0 < lc:=by omega
    rw [zt hlz]
    rw [lx hp] at HL ⊢
    clear hlz
    go_enter Tryz.func85,Tryz.ntmps85
    go_upto_region 4 with (fail)
    go_still_tail 17,(by kernel_rfl)
    change wpList _ _ _ _ _ w.drew
    go_wp2_with fail
    refine (HL.out _ (lj H)).mono ?_
    rintro e w2 ⟨rfl,hx2,h2'⟩
    clear c0 c1 c2 c3 c9 g1 d7
    have c7:=(ld 6 h2' rfl).1 7
    have f7:=(ld 6 h2' rfl).2 7
    have h6 : own (w2.setCell ⟨bj,7,none⟩ (.int .i64 5)) (shL bs A F'++(jobL bs bj bt bb (.slice (some ⟨lb,off,none⟩) j.list.length cap) { j with st:=5 }++R)):=lg (i:=7) (v:=.int .i64 5) 6 h2' rfl
    go_wp2_with fail
    go_ret
    exact ⟨rfl,((zR w).drew.trans hx2).setCell _ _,h6⟩
  ·rw [zq h2]
   have d2 : (j.kind == 2) = false:=by rw [zb]; exact h2
   have c1:=(ld 6 H rfl).1 1
   have hwk:=fun w' h=>CP bs A F hF j.file (jobL bs bj bt bb v j++R) w' h
   have hfl:=Ak F j.file
   have hwc : 0 <= (lt F j.file).2:=zv
   have HWK:=zh hwk
   unfold zO at HWK
   generalize lt F j.file = S at *
   obtain ⟨l,wc⟩:=S
   dsimp only at hfl hwc HWK ⊢
   have HFL:=zh hfl
   have HSW:=zh hW
   have HN:=zh hN
   clear hwk h2 hfl hF hW hN hv
   by_cases hz : wc = 0
   ·subst hz
    rw [zq (by decide)]
    rw [show errV 0 = .nilIface from rfl] at HWK
    generalize hres : yh F l = res
    have HRES:=zh hres
    clear hres
    go_enter Tryz.func85,Tryz.ntmps85
    go_upto_region 9 with (fail)
    have hd:=lj H
    have hxd:=(zR w).drew
    go_region_held3 (fun w'=>w'.cell? ⟨bj,0,none⟩ = some (.pointer (some ⟨bs,0,none⟩)) /\ w'.cell? ⟨bj,2,none⟩ = some (.int .i64 j.file)) (first | exact ⟨(ld 6 hd rfl).1 0,(ld 6 hd rfl).1 2⟩ | exact ⟨(ld 7 h4 rfl).1 0,(ld 7 h4 rfl).1 2⟩) ((go_at_call 69; refine (HWK.out _ hd).mono ?_; rintro e w4 ⟨vl,rfl,hx4,h4⟩))
    have hx5:=hxd.trans hx4
    clear hd hxd hx4 c1 d7 d2 H
    have hil:=l9 0 h4 rfl
    obtain ⟨ao,lb,off,cap,rfl,hlc,hcap,hao,-⟩:=hil.form
    have HAO:=zh hao
    clear hao hil
    go_wp2_with fail
    go_loopw [60] (fun i wr=>∃(q : Nat) (F' : ShM),q <= l.length /\ i = .int .i64 q /\ yh F' (l.drop q) = res /\ ShW N F' /\ (∀x∈l,ly F' x) /\ Ext w wr /\ own wr (row 3 1 (.slice ao l.length cap) l.length (lo l)::(shL bs A F'++(jobL bs bj bt bb v j++R)))) (fun i _=>l.length - (intOf i).toNat)
    case atStart=>exact ⟨0,F,Nat.zero_le _,rfl,HRES.out,HSW.out,HFL.out,hx5,h4⟩
    case round=>
     obtain ⟨q,F',hq,rfl,hgo,hW',hl',hxr,hown⟩:=hrel
     by_cases hlt : q < l.length
     ·obtain rfl:=HAO.out (by omega)
      have g0:=oq (l9 0 hown rfl) hlt
      rw [zY 0 hlt] at hgo
      obtain ⟨k,m,hxk,hk,hFk⟩:=lT (hl' (l.getD q 0) (by simp [hlt]))
      rw [hxk] at g0
      have hgo' : yh (put F' k m.flush) (l.drop (q + 1)) = res:=by
       rw [<- hgo]
       show _ = yh (AV F' (l.getD q 0).toNat) _
       rw [hxk,zn]
       unfold AV
       rw [hFk]
      have c0:=(ld 7 hown rfl).1 0
      have hsh:=le hown
      have g1:=oA hsh hk
      rw [od hFk] at g1
      have i1 : (0 : Int) <= (k : Int):=by omega
      have i2 : (k : Int) < 5:=by omega
      have j1 : (0 : Int) <= (q : Int):=by omega
      have j2 : (q : Int) < (l.length : Int):=by omega
      have HFU:=zh (Kd (b:=bs) (A:=A) hk hFk (hW'.sh HN.out) (jobL bs bj bt bb v j++(row 3 1 (.slice (some ⟨lb,off,none⟩) l.length cap) l.length (lo l)::R)) wr)
      have HW2:=zh (I6 hW' hk hFk (Df (hW'.ok k m hk hFk)))
      have HL2:=zh (fun x hx=>J7 (k:=k) (m':=m.flush) (hl' x hx))
      have HGO:=zh hgo'
      have HOW:=zh hown
      clear hgo hgo' hxk hW' hl' hsh hown
      go_wp2_with fail
      refine (HFU.out (by have:=lr (shL bs A F'++jobL bs bj bt bb v j) (by simpa [zp] using HOW.out); simpa [zp] using this)).mono ?_
      rintro e w6 ⟨rfl,hx6,h6⟩
      go_wp2_with fail
      go_roundw
      case rel=>exact ⟨q + 1,_,by omega,by go_num,HGO.out,HW2.out,HL2.out,hxr.trans hx6,lu 9 h6 rfl⟩
      case measure=>simp [intOf]; omega
     ·obtain rfl : l.length = q:=by omega
      rw [List.drop_of_length_le (Nat.le_refl _)] at hgo
      have hgo' : res = F':=hgo.symm
      subst hgo'
      go_wp2_with fail
      go_ret
      exact ⟨rfl,hxr,le hown⟩
   ·have hp : 0 < wc:=by omega
    rw [zt hz]
    rw [lx hp] at HWK ⊢
    clear hz
    go_enter Tryz.func85,Tryz.ntmps85
    go_upto_region 9 with (fail)
    have hd:=lj H
    have hxd:=(zR w).drew
    go_region_held3 (fun w'=>w'.cell? ⟨bj,0,none⟩ = some (.pointer (some ⟨bs,0,none⟩)) /\ w'.cell? ⟨bj,2,none⟩ = some (.int .i64 j.file)) (first | exact ⟨(ld 6 hd rfl).1 0,(ld 6 hd rfl).1 2⟩ | exact ⟨(ld 7 h4 rfl).1 0,(ld 7 h4 rfl).1 2⟩) ((go_at_call 69; refine (HWK.out _ hd).mono ?_; rintro e w4 ⟨vl,rfl,hx4,h4⟩))
    go_wp2_with fail
    go_ret
    exact ⟨rfl,hxd.trans hx4,le h4⟩
 ·rw [zt h3]
  have d3 : (j.st != 3) = true:=bne_iff_ne.2 h3
  clear h3
  go_enter Tryz.func85,Tryz.ntmps85
  go_wp2_with fail
  go_ret
  exact ⟨rfl,zR _,H⟩
end Go.Proofs.YtbpblokfiajpjabGreatDoor
