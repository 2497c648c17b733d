/- Lemmas on which YardSays stands: the texts Image13 Image14 Image15 Image16 Image17 ImgP1 Image19. No conditions. -/
import Derived.Test.YtbpblokfiajpjabGreatDoorPk661daa6fc2
set_option linter.all false
set_option maxRecDepth 1000000
set_option maxHeartbeats 32000000
namespace Go.Proofs.YtbpblokfiajpjabGreatDoor
open Go.RowKit Go.SL Go.Crc
attribute [local go_sem ↓] Go.wp_at_zero Go.wp_at_succ
theorem CZ {l : List ByteArray} : ∀{d : DevM} {a : Int},d.Ok -> d.pend.length + l.length <= 1000000 -> d.writes + l.length <= 1000000 ->
  (d.puts a l).2.Ok /\ (d.puts a l).2.fl.length = d.fl.length /\ (d.puts a l).2.pend.length <= d.pend.length + l.length /\ (d.puts a l).2.writes <= d.writes + l.length:=by
 induction l with
 | nil=>intro d a h _ _; exact ⟨h,rfl,by simp [DevM.puts],by simp [DevM.puts]⟩
 | cons s l ih=>
  intro d a h hp hw
  simp only [List.length_cons] at hp hw ⊢
  have hok:=DevM.write_ok h a s (by omega) (by omega)
  obtain ⟨l1,l2,l3⟩:=yE d a s
  rw [DevM.puts]
  split
  ·exact ⟨hok,l1,by omega,by omega⟩
  ·obtain ⟨i1,i2,i3,i4⟩:=ih (a:=a + 1) hok (by omega) (by omega)
   exact ⟨i1,by omega,by omega,by omega⟩
theorem AM {l : List ByteArray} : ∀{d : DevM} {a : Int},0 <= (d.puts a l).1:=by
 induction l with
 | nil=>intro d a; simp [DevM.puts]
 | cons s l ih=>
  intro d a
  rw [DevM.puts]
  split
  ·exact ol _ _ _
  ·exact ih
theorem GC {m : ImgM} (hm : m.Ok) {d : DevM} (hd : d.Ok) (hl : d.fl.length = m.d.fl.length) : ({ m with d:=d } : ImgM).flush.Ok:=
 ⟨DevM.flush_ok hd,hm.head,hm.t,hm.ents,hm.one,List.nodup_nil,(fun x hx=>by cases hx),(fun x hx=>by cases hx),by
  have:=hm.need
  simp only [ImgM.flush,DevM.flush,lK]
  omega⟩
def ImgM.fillAt (m : ImgM) (k : Nat) (s : ByteArray) (p : Int) : Int×ImgM:=
 if (m.d.puts (m.first p) (lO s 4)).1≠0 then ((m.d.puts (m.first p) (lO s 4)).1,{ m with d:=(m.d.puts (m.first p) (lO s 4)).2 })
 else ({ m with d:=(m.d.puts (m.first p) (lO s 4)).2 } : ImgM).flush.setE k (2,p)
def ImgM.fill (m : ImgM) (k : Int) (s : ByteArray) : Int×ImgM:=
 if m.there k = false \/ s.size≠64 then (1,m) else if m.kind k = 2 then (5,m) else if m.freeP < 0 then (6,m) else m.fillAt k.toNat s m.freeP
theorem Jw (m : ImgM) {P : Nat} (hP : m.p = P) : m.freeP = -1 \/ ∃q : Nat,m.freeP = q /\ q < P /\ m.openB q = true /\ ∀j : Nat,j < q -> m.openB j = false:=by
 unfold ImgM.freeP
 rw [hP,zn]
 cases h : (List.range P).find? fun (q : Nat)=>m.openB q with
 | none=>exact .inl rfl
 | some q=>
  rw [List.find?_range_eq_some] at h
  exact .inr ⟨q,rfl,by simpa using h.2.1,h.1,fun j hj=>by simpa using h.2.2 j hj⟩
theorem UX (b bd bh : Nat) (m : ImgM) (hm : m.Ok) (hp : m.d.pend.length < 999000) (hw : m.d.writes < 999000) (k : Int) (s : ByteArray) (hs : s.size <= 9223372036854775807) (R : List SL.HP) (w : World) (H : own w (lP b bd bh m::lm bd m.d::R)) :
  Calls Tryz.prog 67 #[.pointer (some ⟨b,0,none⟩),.int .i64 k,.string s] w fun e w'=>e = .returned (errV (m.fill k s).1) /\ Ext w w' /\ own w' (lP b bd bh (m.fill k s).2::lm bd (m.fill k s).2.d::R):=by
 have hth:=D3 b bd bh m k _ w H
 cases ht : m.there k
 ·have e : m.fill k s = (1,m):=by unfold ImgM.fill; rw [zt (.inl ht)]
  rw [e]
  rw [ht] at hth
  have HT:=zh hth
  clear hth e ht
  go_enter Tryz.func67,Tryz.ntmps67
  go_wp2_with fail
  refine HT.out.mono ?_
  rintro e w' ⟨rfl,rfl⟩
  go_wp2_with fail
  go_ret
  exact ⟨rfl,zR _,H⟩
 ·rw [ht] at hth
  by_cases h64 : s.size = 64
  ·obtain ⟨k0,-,hkl⟩:=o6 hm ht
   obtain ⟨n,rfl⟩:=ze k0
   rw [zn] at hkl
   have HT:=zh hth
   obtain ⟨C,hC,q1,q2,q3,q4,q5,q6,-⟩:=hm.nat
   obtain ⟨P,hP⟩:=ze q5
   have ts : ((s.size : Int) != 64) = false:=by simp [h64]
   obtain ⟨v,h⟩:=yF H
   obtain ⟨ao,g,cap,rfl,r1,r2,r3,-,-,r6,-⟩:=lk 1 h rfl
   obtain rfl:=r3 (by omega)
   have x1 : w.cell? ⟨g,n * 2,none⟩ = some (.int .i64 (m.kind n)):=r6 _ _ (lE hkl).1
   obtain ⟨c,f⟩:=ld 0 h rfl
   have i1 : (0 : Int) <= (n : Int):=by omega
   have i2 : (n : Int) < (m.t.length : Int):=by omega
   have hS64:=zh h64
   by_cases h1 : m.kind n = 2
   ·have e : m.fill n s = (5,m):=by unfold ImgM.fill; rw [zq (by rw [ht,h64]; simp),zt h1]
    rw [e]
    rw [h1] at x1
    clear hth e ht r3 r6 h1 h64 hC q1 q2 q3 q4 q5 q6 hP
    go_enter Tryz.func67,Tryz.ntmps67
    go_wp2_with fail
    refine HT.out.mono ?_
    rintro e w' ⟨rfl,rfl⟩
    go_wp2_with fail
    go_ret
    exact ⟨rfl,zR _,H⟩
   ·have e : m.fill n s = if m.freeP < 0 then (6,m) else m.fillAt n s m.freeP:=by unfold ImgM.fill; rw [zq (by rw [ht,h64]; simp),zq h1,zn]
    have t1 : (m.kind n == 2) = false:=zb.2 h1
    generalize m.fill n s = S at *
    have HE:=zh e
    have hs64 : s.size <= 64:=by omega
    have lt32 : m.t.length <= 32:=by omega
    have hrange : ∀q : Nat,q < P -> lW (2,(q : Int)) m.p = true:=fun q hq=>by
     unfold lW
     rw [zt rfl,hP]
     simp only [Bool.and_eq_true,decide_eq_true_eq]
     omega
    have HRG:=zh hrange
    have HP:=zh hP
    have p40 : P <= 40:=by omega
    have HFI:=zh (fun (q : Nat) (hq : q < P)=>DG hm (y:=(q : Int)) (by omega) (by omega))
    clear hth e ht r3 r6 h1 h64 hC q1 q2 q3 q4 hrange
    generalize m.kind n = kd at *
    have HFR:=zh (ST b bd bh m hm _ w H)
    rcases Jw m hP with hf | ⟨q,hf,hq,-,-⟩
    ·have hS : S = (6,m):=by rw [HE.out,zt (by omega)]
     have HS:=zh hS
     rw [hf] at HFR
     clear hS hf q5 q6 hP
     go_enter Tryz.func67,Tryz.ntmps67
     go_wp2_with fail
     refine HT.out.mono ?_
     rintro e w' ⟨rfl,rfl⟩
     go_wp2_with fail
     refine HFR.out.mono ?_
     rintro e w2 ⟨rfl,hx2,h2⟩
     go_wp2_with fail
     go_ret
     rw [HS.out]
     exact ⟨rfl,hx2,h2⟩
    ·have hS : S = m.fillAt n s q:=by rw [HE.out,zq (by omega),hf]
     have HS:=zh hS
     rw [hf] at HFR
     have hok:=HRG.out q hq
     obtain ⟨F0,F1⟩:=HFI.out q hq
     have HF1:=zh (fun (R : List SL.HP) (w : World) (H : own w (lP b bd bh m::R))=>Io b bd bh m hm (q : Int) (by omega) (by omega) R w H)
     have hfa : m.fillAt n s q = if (m.d.puts (m.first q) (lO s 4)).1≠0 then ((m.d.puts (m.first q) (lO s 4)).1,{ m with d:=(m.d.puts (m.first q) (lO s 4)).2 }) else ({ m with d:=(m.d.puts (m.first q) (lO s 4)).2 } : ImgM).flush.setE n (2,(q : Int)):=rfl
     rw [hfa] at hS
     obtain ⟨P1,P2,P3,P4⟩:=CZ (l:=lO s 4) (a:=m.first q) hm.d (by simp [lO]; omega) (by simp [lO]; omega)
     have hnn:=AM (l:=lO s 4) (d:=m.d) (a:=m.first q)
     have hcl : (lO s 4).length = 4:=by simp [lO]
     generalize m.first q = F at *
     generalize hres : m.d.puts F (lO s 4) = res at *
     have HRES:=zh hres
     have hd:=hm.d
     have HSS:=zh hS
     have hokm:=GC hm P1 P2
     have hfl:=fun (R : List SL.HP) (w : World) (H : own w (lP b bd bh m::lm bd res.2::R))=>Dg b bd bh { m with d:=res.2 } P1 R w H
     have HFL:=zh hfl
     have HST:=zh (fun (R : List SL.HP) (w : World) (H : own w (lP b bd bh ({ m with d:=res.2 } : ImgM).flush::lm bd res.2.flush::R))=>PG b bd bh ({ m with d:=res.2 } : ImgM).flush hokm (show res.2.flush.writes < 1000000 by simp only [DevM.flush]; omega) (show res.2.flush.pend.length < 1000000 by simp [DevM.flush]) n hkl 2 (q : Int) hok R w H)
     generalize ({ m with d:=res.2 } : ImgM).flush.setE n (2,(q : Int)) = S2 at *
     clear hf hS HS hfa hcl hres hok q5 q6 hP hfl
     have i3 : (0 : Int) <= (q : Int):=by omega
     go_enter Tryz.func67,Tryz.ntmps67
     go_wp2_with fail
     refine HT.out.mono ?_
     rintro e w' ⟨rfl,rfl⟩
     go_wp2_with fail
     refine HFR.out.mono ?_
     rintro e w2 ⟨rfl,hx2,h2⟩
     clear c f x1 h
     go_wp2_with fail
     go_loopw [35] (NH (fun dk=>lP b bd bh m::lm bd dk::R) m.d F s 4 res w) (fun i _=>4 - (intOf i).toNat)
     case atStart=>exact ⟨0,m.d,by omega,rfl,by simpa using HRES.out,hd,by omega,by simp,hx2,h2⟩
     case round=>
      clear h2 hx2
      obtain ⟨j,dk,hj,rfl,hput,okd,hpk,hwk,hxr,hown⟩:=hrel
      by_cases hlt : j < 4
      ·rw [EG s hlt] at hput
       have HPUT:=zh hput
       clear hput
       have b1 : (0 : Int) <= (j : Int) * 16:=by omega
       have b2 : (j : Int) * 16 <= ((j : Int) + 1) * 16:=by omega
       have b3 : ((j : Int) + 1) * 16 <= (s.size : Int):=by have:=hS64.out; omega
       have hsl : ∀wx : World,(Instr.slice 9 (.string s) (some (.int .i64 ((j : Int) * 16))) (some (.int .i64 (((j : Int) + 1) * 16))) none).run Tryz.prog wx = .ok (.string (oH s j)) wx:=fun wx=>by
        have:=run_slice_string (P:=Tryz.prog) wx 9 s .i64 .i64 ((j : Int) * 16) (((j : Int) + 1) * 16) Tryz.underlying9 b1 b2 b3
        rw [this,oH,show ((j : Int) * 16).toNat = j * 16 from by omega,show (((j : Int) + 1) * 16).toNat = (j + 1) * 16 from by omega]
       have hcs : (oH s j).size = 16:=by unfold oH; rw [ByteArray.size_extract]; have:=hS64.out; omega
       have e1 : IntKind.i64.wrap ((j : Int) * 16) = (j : Int) * 16:=zi _ (by omega)
       have e2 : IntKind.i64.wrap ((j : Int) + 1) = (j : Int) + 1:=zi _ (by omega)
       have e2' : IntKind.i64.wrap (((j : Int) + 1) * 16) = ((j : Int) + 1) * 16:=zi _ (by omega)
       have e4 : IntKind.i64.wrap (F + (j : Int)) = F + (j : Int):=zi _ (by omega)
       have hcode:=ol dk (F + (j : Int)) (oH s j)
       obtain ⟨l1,l2,l3⟩:=yE dk (F + (j : Int)) (oH s j)
       have okw:=DevM.write_ok okd (F + (j : Int)) (oH s j) (by omega) (by omega)
       have HW:=zh (fun (R : List SL.HP) (w : World) (H : own w (lm bd dk::R))=>Ci bd dk okd (F + (j : Int)) (oH s j) (by omega) (by omega) (by omega) R w H)
       have hstep : dk.puts (F + (j : Int)) (oH s j::(lO s 4).drop (j + 1)) = if (dk.write (F + (j : Int)) (oH s j)).1≠0 then dk.write (F + (j : Int)) (oH s j) else (dk.write (F + (j : Int)) (oH s j)).2.puts (F + (j : Int) + 1) ((lO s 4).drop (j + 1)):=rfl
       rw [HPUT.out] at hstep
       have HSTP:=zh hstep
       clear hstep l1
       generalize dk.write (F + (j : Int)) (oH s j) = r at *
       generalize oH s j = ck at *
       obtain ⟨v,h⟩:=yF hown
       have hd1:=lj h
       go_upto_region 11 with (fail)
       go_region_held3 (fun w'=>w'.cell? ⟨b,0,none⟩ = some (.pointer (some ⟨bd,0,none⟩))) (first | exact (ld 0 hd1 rfl).1 0 | exact (ld 0 h4 rfl).1 0) (first | (go_at_call 171; refine (HF1.out _ _ (ye hd1)).mono ?_; rintro e w' ⟨rfl,rfl⟩) | (go_at_call 160; refine (HW.out _ _ (lu 3 hd1 rfl)).mono ?_; rintro e w4 ⟨rfl,hx4,h4'⟩; have h4:=oo hd1 3 rfl h4'))
       have h5 : own w4 (lP b bd bh m::lm bd r.2::R):=ye h4
       have hx5:=hxr.drew.trans hx4
       clear e1 e2 e2' e4 hsl h4 h4' hd1 h
       by_cases hz : r.1 = 0
       ·have HZ:=zh hz
        rw [hz,oa]
        clear hz
        go_wp2_with fail
        go_roundw
        case rel=>exact ⟨j + 1,r.2,by omega,by go_num,by have:=HSTP.out; rw [zq (by simpa using HZ.out)] at this; rw [this]; congr 1; omega,okw,by omega,by omega,hx5,h5⟩
        case measure=>simp [intOf]; omega
       ·have hfin : res = r:=by have:=HSTP.out; rw [zt hz] at this; exact this
        have hS2 : S = (r.1,{ m with d:=r.2 }):=by rw [HSS.out,hfin,zt hz]
        have HF:=zh hS2
        have hpz : 0 < r.1:=by omega
        have HPE:=zh (lx hpz)
        rw [lx hpz]
        clear hz hfin hS2
        go_wp2_with fail
        go_ret
        rw [HF.out]
        exact ⟨by rw [HPE.out]; rfl,hx5,h5⟩
      ·have hje : j = 4:=by omega
       subst hje
       rw [FJ,DevM.puts] at hput
       have hr0 : res.1 = 0:=by rw [<- hput]
       have hr2 : res.2 = dk:=by rw [<- hput]
       have hS2 : S = S2:=by rw [HSS.out,zq (by simpa using hr0)]
       have HF:=zh hS2
       rw [<- hr2] at hown
       clear hput hlt hS2 hr0 hr2
       go_wp2_with fail
       refine (HFL.out _ wr hown).mono ?_
       rintro e w5 ⟨rfl,hx5,h5⟩
       go_wp2_with fail
       refine (HST.out _ w5 h5).mono ?_
       rintro e w6 ⟨rfl,hx6,h6⟩
       go_wp2_with fail
       go_ret
       rw [HF.out]
       exact ⟨rfl,(hxr.trans hx5).trans hx6,h6⟩
  ·have e : m.fill k s = (1,m):=by unfold ImgM.fill; rw [zt (.inr h64)]
   rw [e]
   have ts : ((s.size : Int) != 64) = true:=by rw [bne_iff_ne]; omega
   clear h64
   have HT:=zh hth
   clear hth e ht
   go_enter Tryz.func67,Tryz.ntmps67
   go_wp2_with fail
   refine HT.out.mono ?_
   rintro e w' ⟨rfl,rfl⟩
   go_wp2_with fail
   go_ret
   exact ⟨rfl,zR _,H⟩
theorem T2 (b bd : Nat) (m : ImgM) (hm : m.Ok) (hp : m.d.pend.length < 999000) (hw : m.d.writes < 999000) (hh : m.held.length <= 1000000) (k : Int) (s : ByteArray) (hs : s.size <= 9223372036854775807) (R : List SL.HP) (w : World) (H : own w (lX b bd m::ln bd m.d::R)) :
  Calls Tryz.prog 68 #[.pointer (some ⟨b,0,none⟩),.int .i64 k,.string s] w fun e w'=>e = .returned (.int .i64 (m.fill k s).1) /\ Ext w w' /\ own w' (lX b bd (m.fill k s).2::ln bd (m.fill k s).2.d::R):=by
 have hth:=BL b bd m k _ w H
 cases ht : m.there k
 ·have e : m.fill k s = (1,m):=by unfold ImgM.fill; rw [zt (.inl ht)]
  rw [e]
  rw [ht] at hth
  have HT:=zh hth
  clear hth e ht
  go_enter Tryz.func68,Tryz.ntmps68
  go_wp2_with fail
  refine HT.out.mono ?_
  rintro e w' ⟨rfl,rfl⟩
  go_wp2_with fail
  go_ret
  exact ⟨rfl,zR _,H⟩
 ·rw [ht] at hth
  by_cases h64 : s.size = 64
  ·obtain ⟨k0,-,hkl⟩:=o6 hm ht
   obtain ⟨n,rfl⟩:=ze k0
   rw [zn] at hkl
   have HT:=zh hth
   obtain ⟨C,hC,q1,q2,q3,q4,q5,q6,-⟩:=hm.nat
   obtain ⟨P,hP⟩:=ze q5
   have ts : ((s.size : Int) != 64) = false:=by simp [h64]
   obtain ⟨vt,vh,h⟩:=yP H
   obtain ⟨ao,g,cap,rfl,r1,r2,r3,-,-,r6,-⟩:=lk 1 h rfl
   obtain rfl:=r3 (by omega)
   have x1 : w.cell? ⟨g,n * 2,none⟩ = some (.int .i64 (m.kind n)):=r6 _ _ (lE hkl).1
   obtain ⟨c,f⟩:=ld 0 h rfl
   have i1 : (0 : Int) <= (n : Int):=by omega
   have i2 : (n : Int) < (m.t.length : Int):=by omega
   have hS64:=zh h64
   by_cases h1 : m.kind n = 2
   ·have e : m.fill n s = (5,m):=by unfold ImgM.fill; rw [zq (by rw [ht,h64]; simp),zt h1]
    rw [e]
    rw [h1] at x1
    clear hth e ht r3 r6 h1 h64 hC q1 q2 q3 q4 q5 q6 hP
    go_enter Tryz.func68,Tryz.ntmps68
    go_wp2_with fail
    refine HT.out.mono ?_
    rintro e w' ⟨rfl,rfl⟩
    go_wp2_with fail
    go_ret
    exact ⟨rfl,zR _,H⟩
   ·have e : m.fill n s = if m.freeP < 0 then (6,m) else m.fillAt n s m.freeP:=by unfold ImgM.fill; rw [zq (by rw [ht,h64]; simp),zq h1,zn]
    have t1 : (m.kind n == 2) = false:=zb.2 h1
    generalize m.fill n s = S at *
    have HE:=zh e
    have hs64 : s.size <= 64:=by omega
    have lt32 : m.t.length <= 32:=by omega
    have hrange : ∀q : Nat,q < P -> lW (2,(q : Int)) m.p = true:=fun q hq=>by
     unfold lW
     rw [zt rfl,hP]
     simp only [Bool.and_eq_true,decide_eq_true_eq]
     omega
    have HRG:=zh hrange
    have HP:=zh hP
    have p40 : P <= 40:=by omega
    have HFI:=zh (fun (q : Nat) (hq : q < P)=>DG hm (y:=(q : Int)) (by omega) (by omega))
    clear hth e ht r3 r6 h1 h64 hC q1 q2 q3 q4 hrange
    generalize m.kind n = kd at *
    have HOP:=zh (fun p=>Tq b bd m (by omega) hh p _ w H)
    rw [hP] at c
    have hsome:=fun (q : Nat)=>@Kh m P q hP
    have hnone:=Kz hP
    have HSO:=zh hsome
    have HNO:=zh hnone
    clear hsome hnone q5 q6 hP
    go_enter Tryz.func68,Tryz.ntmps68
    go_wp2_with fail
    refine HT.out.mono ?_
    rintro e w' ⟨rfl,rfl⟩
    go_wp2_with fail
    go_loop [7] (fun i=>∃q : Nat,q <= P /\ i = .int .i64 q /\ ∀j : Nat,j < q -> m.openB j = false) (fun i=>P - (intOf i).toNat)
    case atStart=>exact ⟨0,by omega,rfl,fun j h=>absurd h (by omega)⟩
    case round=>
     obtain ⟨q,hq,rfl,hj⟩:=hrel
     have HJ:=zh hj
     clear hj
     by_cases hlt : q < P
     ·go_wp2_with fail
      refine (HOP.out q).mono ?_
      rintro e w' ⟨rfl,rfl⟩
      cases ho : m.openB q
      ·have HO:=zh ho
       clear ho
       go_wp2_with fail
       go_round
       case rel=>exact ⟨q + 1,by omega,by go_num,fun j h=>by
        by_cases e : j = q
        ·subst e; exact HO.out
        ·exact HJ.out j (by omega)⟩
       case measure=>simp [intOf]; omega
      ·have hf:=HSO.out q hlt ho HJ.out
       have hS : S = m.fillAt n s q:=by rw [HE.out,zq (by omega),hf]
       have hok:=HRG.out q hlt
       obtain ⟨F0,F1⟩:=HFI.out q hlt
       have HF1:=zh (GD b bd m hm (q : Int) (by omega) (by omega) _ w H)
       have hfa : m.fillAt n s q = if (m.d.puts (m.first q) (lO s 4)).1≠0 then ((m.d.puts (m.first q) (lO s 4)).1,{ m with d:=(m.d.puts (m.first q) (lO s 4)).2 }) else ({ m with d:=(m.d.puts (m.first q) (lO s 4)).2 } : ImgM).flush.setE n (2,(q : Int)):=rfl
       rw [hfa] at hS
       obtain ⟨P1,P2,P3,P4⟩:=CZ (l:=lO s 4) (a:=m.first q) hm.d (by simp [lO]; omega) (by simp [lO]; omega)
       have hnn:=AM (l:=lO s 4) (d:=m.d) (a:=m.first q)
       have hcl : (lO s 4).length = 4:=by simp [lO]
       have HSEC:=zh (IS b bd m m.d hm.d hp hw (m.first q) (by omega) (by omega) s 4 (by have:=hS64.out; omega) (by omega) R w H)
       generalize m.first q = F at *
       generalize m.d.puts F (lO s 4) = res at *
       have HSS:=zh hS
       have hokm:=GC hm P1 P2
       have hfl:=fun (R : List SL.HP) (w : World) (H : own w (lX b bd m::ln bd res.2::R))=>CK b bd { m with d:=res.2 } P1 R w H
       have HFL:=zh hfl
       have HST:=zh (fun (R : List SL.HP) (w : World) (H : own w (lX b bd ({ m with d:=res.2 } : ImgM).flush::ln bd res.2.flush::R))=>N5 b bd ({ m with d:=res.2 } : ImgM).flush hokm (show res.2.flush.writes < 1000000 by simp only [DevM.flush]; omega) (show res.2.flush.pend.length < 1000000 by simp [DevM.flush]) (by simp [ImgM.flush]) n hkl 2 (q : Int) hok R w H)
       generalize ({ m with d:=res.2 } : ImgM).flush.setE n (2,(q : Int)) = S2 at *
       have tq : (q == P) = false:=zb.2 (by omega)
       have tq2 : ((q : Int) == (P : Int)) = false:=zb.2 (by omega)
       clear hf hS hfa hcl hok hfl ho
       go_wp2_with fail
       refine HF1.out.mono ?_
       rintro e w' ⟨rfl,rfl⟩
       go_wp2_with fail
       refine HSEC.out.mono ?_
       rintro e w2 ⟨rfl,hx2,h2⟩
       clear c f x1 h
       by_cases hz : res.1 = 0
       ·have hS2 : S = S2:=by rw [HSS.out,zq (by simpa using hz)]
        have HF:=zh hS2
        have d0 : decide (0 < res.1) = false:=zf (by omega)
        clear hz hS2
        go_wp2_with fail
        refine (HFL.out _ w2 h2).mono ?_
        rintro e w5 ⟨rfl,hx5,h5⟩
        go_wp2_with fail
        refine (HST.out _ w5 h5).mono ?_
        rintro e w6 ⟨rfl,hx6,h6⟩
        go_wp2_with fail
        go_ret
        rw [HF.out]
        exact ⟨rfl,(hx2.trans hx5).trans hx6,h6⟩
       ·have hS2 : S = (res.1,{ m with d:=res.2 }):=by rw [HSS.out,zt hz]
        have HF:=zh hS2
        have d0 : decide (0 < res.1) = true:=zg (by omega)
        clear hz hS2
        go_wp2_with fail
        go_ret
        rw [HF.out]
        exact ⟨rfl,hx2,h2⟩
     ·have hqe : q = P:=by omega
      subst hqe
      have hf:=HNO.out HJ.out
      have hS : S = (6,m):=by rw [HE.out,zt (by omega)]
      have HS:=zh hS
      clear hf hS hlt
      go_wp2_with fail
      go_ret
      rw [HS.out]
      exact ⟨rfl,zR _,H⟩
  ·have e : m.fill k s = (1,m):=by unfold ImgM.fill; rw [zt (.inr h64)]
   rw [e]
   have ts : ((s.size : Int) != 64) = true:=by rw [bne_iff_ne]; omega
   clear h64
   have HT:=zh hth
   clear hth e ht
   go_enter Tryz.func68,Tryz.ntmps68
   go_wp2_with fail
   refine HT.out.mono ?_
   rintro e w' ⟨rfl,rfl⟩
   go_wp2_with fail
   go_ret
   exact ⟨rfl,zR _,H⟩
def ImgM.link (m : ImgM) (k : Int) : Int×ImgM:=
 if lF m.c m.p k then (1,m)
 else if (m.d.flush.write 0 (lN m.c m.p k)).1≠0 then ((m.d.flush.write 0 (lN m.c m.p k)).1,{ m.flush with d:=(m.d.flush.write 0 (lN m.c m.p k)).2 })
 else (0,{ m.flush with d:=(m.d.flush.write 0 (lN m.c m.p k)).2.flush,b:=k })
theorem U0 (b bd bh : Nat) (m : ImgM) (hm : m.Ok) (hw : m.d.writes < 999000) (k : Int) (R : List SL.HP) (w : World) (H : own w (lP b bd bh m::lm bd m.d::R)) :
  Calls Tryz.prog 186 #[.pointer (some ⟨b,0,none⟩),.int .i64 k] w fun e w'=>e = .returned (errV (m.link k).1) /\ Ext w w' /\ own w' (lP b bd bh (m.link k).2::lm bd (m.link k).2.d::R):=by
 obtain ⟨v,h⟩:=yF H
 obtain ⟨c,f⟩:=ld 0 h rfl
 have e : m.link k = if lF m.c m.p k then (1,m) else if (m.d.flush.write 0 (lN m.c m.p k)).1≠0 then ((m.d.flush.write 0 (lN m.c m.p k)).1,{ m.flush with d:=(m.d.flush.write 0 (lN m.c m.p k)).2 })
  else (0,{ m.flush with d:=(m.d.flush.write 0 (lN m.c m.p k)).2.flush,b:=k }):=rfl
 generalize m.link k = S at *
 have HE:=zh e
 clear e
 go_enter Tryz.func186,Tryz.ntmps186
 go_upto_region 2 with (fail)
 have ha:=li H (.cells #[.int .i64 m.c,.int .i64 m.p,.int .i64 m.b] 103)
 have hxa:=(zR w).alloc (.cells #[.int .i64 m.c,.int .i64 m.p,.int .i64 m.b] 103)
 clear c f h
 generalize w.heap.size = gh at *
 generalize w.alloc (.cells #[.int .i64 m.c,.int .i64 m.p,.int .i64 m.b] 103) = w1 at *
 obtain ⟨c,f⟩:=ld 0 ha rfl
 go_upto_region 3 with (fail)
 have h1:=lg (i:=2) (v:=.int .i64 k) 0 ha rfl
 have hx1:=hxa.setCell ⟨gh,2,none⟩ (.int .i64 k)
 clear c f ha hxa
 generalize w1.setCell ⟨gh,2,none⟩ (.int .i64 k) = w2 at *
 replace h1 : own w2 (pts gh (.cells #[.int .i64 m.c,.int .i64 m.p,.int .i64 k] 103 (0,0))::lP b bd bh m::lm bd m.d::R):=h1
 obtain ⟨c,f⟩:=ld 0 h1 rfl
 have hsz : (lN m.c m.p k).size = 16:=Bi (xs:=[83,89,m.c,m.p,k + 1]) (by simp)
 by_cases hb : lF m.c m.p k
 ·have hS : S = (1,m):=by rw [HE.out,zt hb]
  have HS:=zh hS
  have hq:=Fl m.c m.p k _ w2 h1
  rw [show yu m.c m.p k = 1 from zt hb,zq (by decide)] at hq
  have HQ:=zh hq
  unfold lM at HQ
  clear hq hb hS
  go_wp2_with fail
  refine HQ.out.mono ?_
  rintro e w3 ⟨rfl,hx3,h3⟩
  rw [show errV 1 = .iface 128 (.int .i64 1) from rfl]
  go_wp2_with fail
  go_ret
  rw [HS.out]
  exact ⟨rfl,hx1.trans hx3,le h3⟩
 ·have hE2 : S = if (m.d.flush.write 0 (lN m.c m.p k)).1≠0 then ((m.d.flush.write 0 (lN m.c m.p k)).1,{ m.flush with d:=(m.d.flush.write 0 (lN m.c m.p k)).2 })
   else (0,{ m.flush with d:=(m.d.flush.write 0 (lN m.c m.p k)).2.flush,b:=k }):=by rw [HE.out,zq hb]
  have HE2:=zh hE2
  have okf:=DevM.flush_ok hm.d
  have fw : m.d.flush.writes = m.d.writes:=rfl
  have fp : m.d.flush.pend.length = 0:=rfl
  have okw:=DevM.write_ok okf 0 (lN m.c m.p k) (by omega) (by omega)
  have hnn:=ol m.d.flush 0 (lN m.c m.p k)
  have HF:=zh (fun (R : List SL.HP) (w : World) (H : own w (lP b bd bh m::lm bd m.d::R))=>Dg b bd bh m hm.d R w H)
  have hq:=Fl m.c m.p k _ w2 h1
  rw [show yu m.c m.p k = 0 from zq hb,zt rfl,oa] at hq
  have HW:=zh (fun (R : List SL.HP) (w : World) (H : own w (lm bd m.d.flush::R))=>Ci bd m.d.flush okf 0 (lN m.c m.p k) (by omega) (by omega) (by omega) R w H)
  have HQ:=zh hq
  unfold lM at HQ
  clear hq hb hE2 fw fp
  generalize m.d.flush.write 0 (lN m.c m.p k) = r at *
  have HF2:=zh (fun (R : List SL.HP) (w : World) (H : own w (lP b bd bh m.flush::lm bd r.2::R))=>Dg b bd bh { m.flush with d:=r.2 } okw R w H)
  generalize lN m.c m.p k = hs at *
  go_wp2_with fail
  refine HQ.out.mono ?_
  rintro e w3 ⟨rfl,hx3,h3⟩
  replace hx3:=hx1.trans hx3
  clear c f h1 hx1
  go_wp2_with fail
  refine (HF.out _ w3 (lr [_,_] h3)).mono ?_
  rintro e w4 ⟨rfl,hx4,h4⟩
  replace hx4:=hx3.trans hx4
  clear h3 hx3
  obtain ⟨v,h5⟩:=yF h4
  clear h4
  obtain ⟨c,f⟩:=ld 0 h5 rfl
  go_wp2_with fail
  refine (HW.out _ w4 (lu 3 h5 rfl)).mono ?_
  rintro e w5 ⟨rfl,hx5,h6'⟩
  have h6:=oo h5 3 rfl h6'
  replace hx5:=hx4.trans hx5
  clear c f h5 h6' hx4
  by_cases hz : r.1 = 0
  ·have hS : S = (0,{ m.flush with d:=r.2.flush,b:=k }):=by rw [HE2.out,zq (by simpa using hz)]
   have HS:=zh hS
   rw [hz,oa]
   clear hz hS
   have h7 : own w5 (lP b bd bh m.flush::lm bd r.2::pts gh (.cells #[.int .i64 m.c,.int .i64 m.p,.int .i64 k] 103 (0,0))::R):=ye h6
   clear h6
   go_wp2_with fail
   refine (HF2.out _ w5 h7).mono ?_
   rintro e w8 ⟨rfl,hx8,h8⟩
   replace hx8:=hx5.trans hx8
   obtain ⟨v2,h9⟩:=yF h8
   clear h7 h8 hx5
   obtain ⟨c,f⟩:=ld 0 h9 rfl
   obtain ⟨c4,f4⟩:=ld 4 h9 rfl
   go_wp2_with fail
   go_ret
   rw [HS.out]
   have h10:=lg (i:=3) (v:=.int .i64 k) 0 (lg (i:=2) (v:=.int .i64 m.p) 0 (lg (i:=1) (v:=.int .i64 m.c) 0 h9 rfl) rfl) rfl
   refine ⟨rfl,((hx8.setCell _ _).setCell _ _).setCell _ _,?_⟩
   have h11:=ye (m:={ m.flush with d:=r.2.flush,b:=k }) h10
   exact lh 2 h11 rfl
  ·have hS : S = (r.1,{ m.flush with d:=r.2 }):=by rw [HE2.out,zt hz]
   have HS:=zh hS
   have hpz : 0 < r.1:=by omega
   have HPE:=zh (lx hpz)
   rw [lx hpz]
   clear hz hS
   go_wp2_with fail
   go_ret
   rw [HS.out]
   have h11:=ye (m:={ m.flush with d:=r.2 }) h6
   exact ⟨by rw [HPE.out]; rfl,hx5,lh 2 h11 rfl⟩
theorem Ti (b bd : Nat) (m : ImgM) (hm : m.Ok) (hw : m.d.writes < 999000) (k : Int) (R : List SL.HP) (w : World) (H : own w (lX b bd m::ln bd m.d::R)) :
  Calls Tryz.prog 187 #[.pointer (some ⟨b,0,none⟩),.int .i64 k] w fun e w'=>e = .returned (.int .i64 (m.link k).1) /\ Ext w w' /\ own w' (lX b bd (m.link k).2::ln bd (m.link k).2.d::R):=by
 obtain ⟨vt,vh,h⟩:=yP H
 obtain ⟨c,f⟩:=ld 0 h rfl
 have e : m.link k = if lF m.c m.p k then (1,m) else if (m.d.flush.write 0 (lN m.c m.p k)).1≠0 then ((m.d.flush.write 0 (lN m.c m.p k)).1,{ m.flush with d:=(m.d.flush.write 0 (lN m.c m.p k)).2 })
  else (0,{ m.flush with d:=(m.d.flush.write 0 (lN m.c m.p k)).2.flush,b:=k }):=rfl
 generalize m.link k = S at *
 have HE:=zh e
 clear e
 go_enter Tryz.func187,Tryz.ntmps187
 go_upto_region 2 with (fail)
 have ha:=li H (.cells #[.int .i64 m.c,.int .i64 m.p,.int .i64 m.b] 103)
 have hxa:=(zR w).alloc (.cells #[.int .i64 m.c,.int .i64 m.p,.int .i64 m.b] 103)
 clear c f h
 generalize w.heap.size = gh at *
 generalize w.alloc (.cells #[.int .i64 m.c,.int .i64 m.p,.int .i64 m.b] 103) = w1 at *
 obtain ⟨c,f⟩:=ld 0 ha rfl
 go_upto_region 3 with (fail)
 have h1:=lg (i:=2) (v:=.int .i64 k) 0 ha rfl
 have hx1:=hxa.setCell ⟨gh,2,none⟩ (.int .i64 k)
 clear c f ha hxa
 generalize w1.setCell ⟨gh,2,none⟩ (.int .i64 k) = w2 at *
 replace h1 : own w2 (pts gh (.cells #[.int .i64 m.c,.int .i64 m.p,.int .i64 k] 103 (0,0))::lX b bd m::ln bd m.d::R):=h1
 obtain ⟨c,f⟩:=ld 0 h1 rfl
 have hsz : (lN m.c m.p k).size = 16:=Bi (xs:=[83,89,m.c,m.p,k + 1]) (by simp)
 by_cases hb : lF m.c m.p k
 ·have hS : S = (1,m):=by rw [HE.out,zt hb]
  have HS:=zh hS
  have hq:=zy m.c m.p k _ w2 h1
  rw [show yu m.c m.p k = 1 from zt hb] at hq
  have HQ:=zh hq
  unfold lM at HQ
  clear hq hb hS
  go_wp2_with fail
  refine HQ.out.mono ?_
  rintro e w3 ⟨rfl,hx3,h3⟩
  skip
  go_wp2_with fail
  go_ret
  rw [HS.out]
  exact ⟨rfl,hx1.trans hx3,le h3⟩
 ·have hE2 : S = if (m.d.flush.write 0 (lN m.c m.p k)).1≠0 then ((m.d.flush.write 0 (lN m.c m.p k)).1,{ m.flush with d:=(m.d.flush.write 0 (lN m.c m.p k)).2 })
   else (0,{ m.flush with d:=(m.d.flush.write 0 (lN m.c m.p k)).2.flush,b:=k }):=by rw [HE.out,zq hb]
  have HE2:=zh hE2
  have okf:=DevM.flush_ok hm.d
  have fw : m.d.flush.writes = m.d.writes:=rfl
  have fp : m.d.flush.pend.length = 0:=rfl
  have okw:=DevM.write_ok okf 0 (lN m.c m.p k) (by omega) (by omega)
  have hnn:=ol m.d.flush 0 (lN m.c m.p k)
  have HF:=zh (fun (R : List SL.HP) (w : World) (H : own w (lX b bd m::ln bd m.d::R))=>CK b bd m hm.d R w H)
  have hq:=zy m.c m.p k _ w2 h1
  rw [show yu m.c m.p k = 0 from zq hb] at hq
  have HW:=zh (fun (R : List SL.HP) (w : World) (H : own w (ln bd m.d.flush::R))=>Ct bd m.d.flush okf 0 (lN m.c m.p k) (by omega) (by omega) (by omega) R w H)
  have HSC:=zh (fun (R : List SL.HP) (w : World) (H : own w R)=>Dr m.c m.p k hb R w H)
  unfold lM at HSC
  have HQ:=zh hq
  unfold lM at HQ
  clear hq hb hE2 fw fp
  generalize m.d.flush.write 0 (lN m.c m.p k) = r at *
  have HF2:=zh (fun (R : List SL.HP) (w : World) (H : own w (lX b bd m.flush::ln bd r.2::R))=>CK b bd { m.flush with d:=r.2 } okw R w H)
  generalize lN m.c m.p k = hs at *
  go_wp2_with fail
  refine HQ.out.mono ?_
  rintro e w3 ⟨rfl,hx3,h3⟩
  replace hx3:=hx1.trans hx3
  clear c f h1 hx1
  go_wp2_with fail
  refine (HF.out _ w3 (lr [_,_] h3)).mono ?_
  rintro e w4 ⟨rfl,hx4,h4⟩
  replace hx4:=hx3.trans hx4
  clear h3 hx3
  obtain ⟨vt,vh,h5⟩:=yP h4
  clear h4
  have hd1:=lj h5
  go_upto_region 7 with (fail)
  go_region_held3 (fun w'=>w'.cell? ⟨b,0,none⟩ = some (.pointer (some ⟨bd,0,none⟩)) /\ w'.cell? ⟨gh,0,none⟩ = some (.int .i64 m.c) /\ w'.cell? ⟨gh,1,none⟩ = some (.int .i64 m.p) /\ w'.cell? ⟨gh,2,none⟩ = some (.int .i64 k)) (first | exact ⟨(ld 0 hd1 rfl).1 0,(ld 4 hd1 rfl).1 0,(ld 4 hd1 rfl).1 1,(ld 4 hd1 rfl).1 2⟩ | exact ⟨(ld 0 h7 rfl).1 0,(ld 4 h7 rfl).1 0,(ld 4 h7 rfl).1 1,(ld 4 h7 rfl).1 2⟩ | exact ⟨(ld 0 h6 rfl).1 0,(ld 4 h6 rfl).1 0,(ld 4 h6 rfl).1 1,(ld 4 h6 rfl).1 2⟩) (first | (go_at_call 165; refine (HSC.out _ _ hd1).mono ?_; rintro e w7 ⟨rfl,hx7,h7⟩) | (go_at_call 163; refine (HW.out _ _ (lu 3 h7 rfl)).mono ?_; rintro e w5 ⟨rfl,hx5',h6'⟩; have h6:=oo h7 3 rfl h6'))
  have hx5:=(hx4.drew.trans hx7).trans hx5'
  clear hd1 h7 h6' h5 hx4
  by_cases hz : r.1 = 0
  ·have hS : S = (0,{ m.flush with d:=r.2.flush,b:=k }):=by rw [HE2.out,zq (by simpa using hz)]
   have HS:=zh hS
   have d0 : decide (0 < r.1) = false:=zf (by omega)
   clear hz hS
   have h7 : own w5 (lX b bd m.flush::ln bd r.2::pts gh (.cells #[.int .i64 m.c,.int .i64 m.p,.int .i64 k] 103 (0,0))::R):=yW h6
   clear h6
   go_wp2_with fail
   refine (HF2.out _ w5 h7).mono ?_
   rintro e w8 ⟨rfl,hx8,h8⟩
   replace hx8:=hx5.trans hx8
   obtain ⟨vt2,vh2,h9⟩:=yP h8
   clear h7 h8 hx5
   obtain ⟨c,f⟩:=ld 0 h9 rfl
   obtain ⟨c4,f4⟩:=ld 4 h9 rfl
   go_wp2_with fail
   go_ret
   rw [HS.out]
   have h10:=lg (i:=3) (v:=.int .i64 k) 0 (lg (i:=2) (v:=.int .i64 m.p) 0 (lg (i:=1) (v:=.int .i64 m.c) 0 h9 rfl) rfl) rfl
   refine ⟨rfl,((hx8.setCell _ _).setCell _ _).setCell _ _,?_⟩
   have h11:=yW (m:={ m.flush with d:=r.2.flush,b:=k }) h10
   exact lh 2 h11 rfl
  ·have hS : S = (r.1,{ m.flush with d:=r.2 }):=by rw [HE2.out,zt hz]
   have HS:=zh hS
   have hpz : 0 < r.1:=by omega
   have d0 : decide (0 < r.1) = true:=zg hpz
   skip
   clear hz hS
   go_wp2_with fail
   go_ret
   rw [HS.out]
   have h11:=yW (m:={ m.flush with d:=r.2 }) h6
   exact ⟨rfl,hx5,lh 2 h11 rfl⟩
theorem Qe {p : List (Int×ByteArray)} {a : Int} : ∀{s : ByteArray},s.size = 16 -> (∀x∈p,x.2.size = 16) -> (p.foldl (fun s x=>if x.1 = a then x.2 else s) s).size = 16:=by
 induction p with
 | nil=>intro s h _; exact h
 | cons x p ih=>
  intro s h hp
  rw [List.foldl_cons]
  refine ih ?_ fun y hy=>hp y (by simp [hy])
  split
  ·exact hp x (by simp)
  ·exact h
theorem AP {m : DevM} (hm : m.Ok) {a : Int} (h0 : 0 <= a) (h1 : a < m.fl.length) : (m.seen a).size = 16:=by
 unfold DevM.seen
 refine Qe (hm.fl _ ?_) fun x hx=>(hm.pend x hx).2.2
 simp [show a.toNat < m.fl.length by omega]
def ImgM.secs (m : ImgM) (y : Int) (q : Nat) : List ByteArray:=(List.range q).map fun (j : Nat)=>m.d.seen (m.first y + (j : Int))
def ImgM.read (m : ImgM) (k : Int) : ByteArray×Int:=
 if m.there k = true then (if m.kind k = 0 then (ByteArray.empty,4) else if m.kind k = 1 then (zs 64,0) else (cat (m.secs (ent m.t k.toNat).2 4),0)) else (ByteArray.empty,1)
theorem Mo (m : ImgM) (y : Int) (q : Nat) : cat (m.secs y (q + 1)) = cat (m.secs y q)++m.d.seen (m.first y + (q : Int)):=by
 unfold ImgM.secs
 rw [List.range_succ,List.map_append]
 apply Go.WideShapes.bytes_inj
 simp [cat,catL]
theorem Gm {m : ImgM} (hm : m.Ok) {k : Nat} (hk : k < m.t.length) : m.kind k = 0 \/ m.kind k = 1 \/ m.kind k = 2:=by
 have h:=DQ (hm.ents (ent m.t k) (by unfold ent; simp [hk]))
 have e : m.kind k = (ent m.t k).1:=rfl
 rw [e]
 omega
theorem J5 {m : ImgM} (hm : m.Ok) {y : Int} (h0 : 0 <= y) (h1 : y < m.p) : m.first y + 4 <= m.d.fl.length:=by
 have:=hm.need
 unfold ImgM.first
 omega
theorem U7 (b bd bh : Nat) (m : ImgM) (hm : m.Ok) (k : Int) (R : List SL.HP) (w : World) (H : own w (lP b bd bh m::lm bd m.d::R)) :
  Calls Tryz.prog 153 #[.pointer (some ⟨b,0,none⟩),.int .i64 k] w fun e w'=>e = .returned (.tuple #[.string (m.read k).1,errV (m.read k).2]) /\ Ext w w' /\ own w' (lP b bd bh m::lm bd m.d::R):=by
 have hth:=D3 b bd bh m k _ w H
 cases ht : m.there k
 ·have e : m.read k = (ByteArray.empty,1):=by unfold ImgM.read; rw [ht,zq (by decide)]
  rw [e]
  rw [ht] at hth
  have HT:=zh hth
  clear hth e ht
  go_enter Tryz.func153,Tryz.ntmps153
  go_wp2_with fail
  refine HT.out.mono ?_
  rintro e w' ⟨rfl,rfl⟩
  go_wp2_with fail
  go_ret2
  exact ⟨rfl,zR _,H⟩
 ·rw [ht] at hth
  obtain ⟨k0,-,hkl⟩:=o6 hm ht
  obtain ⟨n,rfl⟩:=ze k0
  rw [zn] at hkl
  have HT:=zh hth
  obtain ⟨v,h⟩:=yF H
  obtain ⟨ao,g,cap,rfl,r1,r2,r3,-,-,r6,-⟩:=lk 1 h rfl
  obtain rfl:=r3 (by omega)
  have x1 : w.cell? ⟨g,n * 2,none⟩ = some (.int .i64 (m.kind n)):=r6 _ _ (lE hkl).1
  obtain ⟨c,f⟩:=ld 0 h rfl
  have i1 : (0 : Int) <= (n : Int):=by omega
  have i2 : (n : Int) < (m.t.length : Int):=by omega
  rcases Gm hm hkl with h0 | h0 | h0
  ·have e : m.read n = (ByteArray.empty,4):=by unfold ImgM.read; rw [ht,zt rfl,zt h0]
   rw [e]
   rw [h0] at x1
   clear hth e ht r3 r6 h0
   go_enter Tryz.func153,Tryz.ntmps153
   go_wp2_with fail
   refine HT.out.mono ?_
   rintro e w' ⟨rfl,rfl⟩
   go_wp2_with fail
   go_ret2
   exact ⟨rfl,zR _,H⟩
  ·have e : m.read n = (zs 64,0):=by unfold ImgM.read; rw [ht,zt rfl,zq (by omega),zt h0]
   rw [e]
   rw [h0] at x1
   clear hth e ht r3 r6 h0
   go_enter Tryz.func153,Tryz.ntmps153
   go_wp2_with fail
   refine HT.out.mono ?_
   rintro e w' ⟨rfl,rfl⟩
   go_wp2_with fail
   refine (Pr 64 (by omega) w).mono ?_
   rintro e w2 ⟨rfl,hb2⟩
   go_wp2_with fail
   go_ret2
   exact ⟨rfl,Fu hb2,Fw H hb2⟩
  ·have e : m.read n = (cat (m.secs (ent m.t n).2 4),0):=by unfold ImgM.read; rw [ht,zt rfl,zq (by omega),zq (by omega),zn]
   rw [e]
   rw [h0] at x1
   obtain ⟨y0,y1⟩:=BN hm hkl h0
   have hin:=J5 hm y0 y1
   obtain ⟨C,hC,q1,q2,q3,q4,q5,q6,-⟩:=hm.nat
   obtain ⟨F0,F1⟩:=DG hm y0 (by omega)
   have HGET : Hid ((lG m.t)[n * 2 + 1]? = some (.int .i64 (ent m.t n).2)):=zh (lE (l:=m.t) hkl).2
   have HSEC:=zh (Mo m (ent m.t n).2)
   have HSZ:=zh (fun (q : Nat) (hq : q <= 4)=>show (cat (m.secs (ent m.t n).2 q)).size = q * 16 from by
    have:=B0 (l:=m.secs (ent m.t n).2 q) (k:=16) fun s hs=>by
     simp only [ImgM.secs,List.mem_map,List.mem_range] at hs
     obtain ⟨j,hj,rfl⟩:=hs
     exact AP hm.d (by omega) (by omega)
    simp [ImgM.secs] at this
    simpa [cat,ByteArray.size,ImgM.secs] using this)
   have HSS:=zh (fun (q : Nat) (hq : q < 4)=>AP hm.d (a:=m.first (ent m.t n).2 + (q : Int)) (by omega) (by omega))
   have hd:=hm.d
   have hl2 : m.d.fl.length <= 200:=hd.n
   have HFI:=zh (fun (R : List SL.HP) (w : World) (H : own w (lP b bd bh m::R))=>Io b bd bh m hm (ent m.t n).2 y0 (by omega) R w H)
   have hc0 : cat (m.secs (ent m.t n).2 0) = ⟨#[]⟩:=rfl
   have HC0:=zh hc0
   generalize hcq : (fun q=>cat (m.secs (ent m.t n).2 q)) = CQ at *
   have hcq' : ∀q,cat (m.secs (ent m.t n).2 q) = CQ q:=fun q=>by rw [<- hcq]
   simp only [hcq'] at HSEC HSZ HC0 ⊢
   clear hcq hcq' hc0
   generalize (ent m.t n).2 = y at *
   generalize m.first y = F at *
   clear hth e ht r3 r6 h0 hC q1 q2 q3 q4 q5 q6
   go_enter Tryz.func153,Tryz.ntmps153
   go_wp2_with fail
   refine HT.out.mono ?_
   rintro e w' ⟨rfl,rfl⟩
   go_wp2_with fail
   go_loopw [6,29] (fun s i wr=>∃q : Nat,q <= 4 /\ i = .int .i64 q /\ s = .string (CQ q) /\ Ext w wr /\ own wr (lP b bd bh m::lm bd m.d::R)) (fun _ i _=>4 - (intOf i).toNat)
   case atStart=>exact ⟨0,by omega,rfl,by rw [HC0.out],zR _,H⟩
   case round=>
    clear c f x1 h
    obtain ⟨q,hq,rfl,rfl,hxr,hown⟩:=hrel
    by_cases hlt : q < 4
    ·have hz:=HSZ.out q (by omega)
     have hss:=HSS.out q hlt
     have hsec:=HSEC.out q
     have e4 : IntKind.i64.wrap (F + (q : Int)) = F + (q : Int):=zi _ (by omega)
     have hg0 : 0 <= F + (q : Int):=by omega
     have hg1 : F + (q : Int) < m.d.fl.length:=by omega
     obtain ⟨v,h⟩:=yF hown
     obtain ⟨ao2,g2,cap2,rfl,-,-,t3,-,-,t6,-⟩:=lk 1 h rfl
     obtain rfl:=t3 (by omega)
     clear t3 t6
     have hd1:=lj h
     have HSEQ:=zh hsec
     clear hsec
     have HRD:=zh (fun (R : List SL.HP) (w : World) (H : own w (lm bd m.d::R))=>Fk bd m.d hd (F + (q : Int)) R w H)
     rw [zq (show ¬(F + (q : Int) < 0 \/ (m.d.fl.length : Int) <= F + (q : Int)) by omega)] at HRD
     generalize m.d.seen (F + (q : Int)) = sq at *
     generalize CQ q = cq at *
     go_upto_region 12 with (fail)
     go_region_held3 (fun w'=>w'.cell? ⟨b,0,none⟩ = some (.pointer (some ⟨bd,0,none⟩)) /\ w'.cell? ⟨b,4,none⟩ = some (.slice (some ⟨g2,0,none⟩) m.t.length cap2) /\ w'.cell? ⟨g2,n * 2 + 1,none⟩ = some (.int .i64 y)) (exact ⟨(ld 0 hd1 rfl).1 0,(ld 0 hd1 rfl).1 4,(lH 1 hd1 rfl).1 _ _ HGET.out⟩) (first | (go_at_call 171; refine (HFI.out _ _ (ye hd1)).mono ?_; rintro e w' ⟨rfl,rfl⟩) | (go_at_call 96; refine (HRD.out _ _ (lu 3 hd1 rfl)).mono ?_; rintro e w' ⟨rfl,rfl⟩))
     have h5 : own _ (lP b bd bh m::lm bd m.d::R):=ye hd1
     have hx5:=hxr.drew
     clear e4 hd1 h
     go_wp2_with fail
     go_roundw
     case rel=>exact ⟨q + 1,by omega,by go_num,by rw [HSEQ.out],hx5,h5⟩
     case measure=>simp [intOf]; omega
    ·have hqe : q = 4:=by omega
     subst hqe
     go_wp2_with fail
     go_ret2
     exact ⟨rfl,hxr,hown⟩
theorem Tw (b bd : Nat) (m : ImgM) (hm : m.Ok) (k : Int) (R : List SL.HP) (w : World) (H : own w (lX b bd m::ln bd m.d::R)) :
  Calls Tryz.prog 192 #[.pointer (some ⟨b,0,none⟩),.int .i64 k] w fun e w'=>e = .returned (.tuple #[.string (m.read k).1,.int .i64 (m.read k).2]) /\ Ext w w' /\ own w' (lX b bd m::ln bd m.d::R):=by
 have hth:=BL b bd m k _ w H
 cases ht : m.there k
 ·have e : m.read k = (ByteArray.empty,1):=by unfold ImgM.read; rw [ht,zq (by decide)]
  rw [e]
  rw [ht] at hth
  have HT:=zh hth
  clear hth e ht
  go_enter Tryz.func192,Tryz.ntmps192
  go_wp2_with fail
  refine HT.out.mono ?_
  rintro e w' ⟨rfl,rfl⟩
  go_wp2_with fail
  go_ret2
  exact ⟨rfl,zR _,H⟩
 ·rw [ht] at hth
  obtain ⟨k0,-,hkl⟩:=o6 hm ht
  obtain ⟨n,rfl⟩:=ze k0
  rw [zn] at hkl
  have HT:=zh hth
  obtain ⟨vt,vh,h⟩:=yP H
  obtain ⟨ao,g,cap,rfl,r1,r2,r3,-,-,r6,-⟩:=lk 1 h rfl
  obtain rfl:=r3 (by omega)
  have x1 : w.cell? ⟨g,n * 2,none⟩ = some (.int .i64 (m.kind n)):=r6 _ _ (lE hkl).1
  obtain ⟨c,f⟩:=ld 0 h rfl
  have i1 : (0 : Int) <= (n : Int):=by omega
  have i2 : (n : Int) < (m.t.length : Int):=by omega
  rcases Gm hm hkl with h0 | h0 | h0
  ·have e : m.read n = (ByteArray.empty,4):=by unfold ImgM.read; rw [ht,zt rfl,zt h0]
   rw [e]
   rw [h0] at x1
   clear hth e ht r3 r6 h0
   go_enter Tryz.func192,Tryz.ntmps192
   go_wp2_with fail
   refine HT.out.mono ?_
   rintro e w' ⟨rfl,rfl⟩
   go_wp2_with fail
   go_ret2
   exact ⟨rfl,zR _,H⟩
  ·have e : m.read n = (zs 64,0):=by unfold ImgM.read; rw [ht,zt rfl,zq (by omega),zt h0]
   rw [e]
   rw [h0] at x1
   clear hth e ht r3 r6 h0
   go_enter Tryz.func192,Tryz.ntmps192
   go_wp2_with fail
   refine HT.out.mono ?_
   rintro e w' ⟨rfl,rfl⟩
   go_wp2_with fail
   refine (Bm 64 (by omega) _ w H).mono ?_
   rintro e w2 ⟨rfl,hx2,h2⟩
   go_wp2_with fail
   go_ret2
   exact ⟨rfl,hx2,h2⟩
  ·have e : m.read n = (cat (m.secs (ent m.t n).2 4),0):=by unfold ImgM.read; rw [ht,zt rfl,zq (by omega),zq (by omega),zn]
   rw [e]
   rw [h0] at x1
   obtain ⟨y0,y1⟩:=BN hm hkl h0
   have hin:=J5 hm y0 y1
   obtain ⟨C,hC,q1,q2,q3,q4,q5,q6,-⟩:=hm.nat
   obtain ⟨F0,F1⟩:=DG hm y0 (by omega)
   have HGET : Hid ((lG m.t)[n * 2 + 1]? = some (.int .i64 (ent m.t n).2)):=zh (lE (l:=m.t) hkl).2
   have HSEC:=zh (Mo m (ent m.t n).2)
   have HSZ:=zh (fun (q : Nat) (hq : q <= 4)=>show (cat (m.secs (ent m.t n).2 q)).size = q * 16 from by
    have:=B0 (l:=m.secs (ent m.t n).2 q) (k:=16) fun s hs=>by
     simp only [ImgM.secs,List.mem_map,List.mem_range] at hs
     obtain ⟨j,hj,rfl⟩:=hs
     exact AP hm.d (by omega) (by omega)
    simp [ImgM.secs] at this
    simpa [cat,ByteArray.size,ImgM.secs] using this)
   have HSS:=zh (fun (q : Nat) (hq : q < 4)=>AP hm.d (a:=m.first (ent m.t n).2 + (q : Int)) (by omega) (by omega))
   have hd:=hm.d
   have hl2 : m.d.fl.length <= 200:=hd.n
   have HFI:=zh (fun (R : List SL.HP) (w : World) (H : own w (lX b bd m::R))=>GD b bd m hm (ent m.t n).2 y0 (by omega) R w H)
   have hc0 : cat (m.secs (ent m.t n).2 0) = ⟨#[]⟩:=rfl
   have HC0:=zh hc0
   generalize hcq : (fun q=>cat (m.secs (ent m.t n).2 q)) = CQ at *
   have hcq' : ∀q,cat (m.secs (ent m.t n).2 q) = CQ q:=fun q=>by rw [<- hcq]
   simp only [hcq'] at HSEC HSZ HC0 ⊢
   clear hcq hcq' hc0
   generalize (ent m.t n).2 = y at *
   generalize m.first y = F at *
   clear hth e ht r3 r6 h0 hC q1 q2 q3 q4 q5 q6
   go_enter Tryz.func192,Tryz.ntmps192
   go_wp2_with fail
   refine HT.out.mono ?_
   rintro e w' ⟨rfl,rfl⟩
   go_wp2_with fail
   go_loopw [6,7] (fun s i wr=>∃q : Nat,q <= 4 /\ i = .int .i64 q /\ s = .string (CQ q) /\ Ext w wr /\ own wr (lX b bd m::ln bd m.d::R)) (fun _ i _=>4 - (intOf i).toNat)
   case atStart=>exact ⟨0,by omega,rfl,by rw [HC0.out],zR _,H⟩
   case round=>
    clear c f x1 h
    obtain ⟨q,hq,rfl,rfl,hxr,hown⟩:=hrel
    by_cases hlt : q < 4
    ·have hz:=HSZ.out q (by omega)
     have hss:=HSS.out q hlt
     have hsec:=HSEC.out q
     have e4 : IntKind.i64.wrap (F + (q : Int)) = F + (q : Int):=zi _ (by omega)
     have hg0 : 0 <= F + (q : Int):=by omega
     have hg1 : F + (q : Int) < m.d.fl.length:=by omega
     obtain ⟨vt,vh,h⟩:=yP hown
     obtain ⟨ao2,g2,cap2,rfl,-,-,t3,-,-,t6,-⟩:=lk 1 h rfl
     obtain rfl:=t3 (by omega)
     clear t3 t6
     have y0:=(ld 0 h rfl).1 0
     have y4:=(ld 0 h rfl).1 4
     have y5:=(lH 1 h rfl).1 _ _ HGET.out
     have HOW:=zh h
     have HSEQ:=zh hsec
     clear hsec
     have HRD:=zh (fun (R : List SL.HP) (w : World) (H : own w (ln bd m.d::R))=>Eh bd m.d hd (F + (q : Int)) hg0 hg1 R w H)
     generalize m.d.seen (F + (q : Int)) = sq at *
     generalize CQ q = cq at *
     go_upto_region 12 with (fail)
     go_quiet ((first | (go_at_call 175; exact Calls.quiet_of_same ((HFI.out _ _ (yW (by first | exact HOW.out | exact lj HOW.out | exact ll _ HOW.out))).mono fun e w' h=>⟨h.1,h.2.symm⟩)) | (go_at_call 101; exact Calls.quiet_of_same ((HRD.out _ _ (lu 3 (by first | exact HOW.out | exact lj HOW.out | exact ll _ HOW.out) rfl)).mono fun e w' h=>⟨h.1,h.2.symm⟩))))
     have h5 : own _ (lX b bd m::ln bd m.d::R):=yW (ll nq HOW.out)
     have hx5:=hxr.drewN nq
     clear e4 h y0 y4 y5
     go_wp2_with fail
     go_roundw
     case rel=>exact ⟨q + 1,by omega,by go_num,by rw [HSEQ.out],hx5,h5⟩
     case measure=>simp [intOf]; omega
    ·have hqe : q = 4:=by omega
     subst hqe
     go_wp2_with fail
     go_ret2
     exact ⟨rfl,hxr,hown⟩
def BS (d : DevM) (c p b : Int) : Prop:=lF c p b \/ (d.fl.length : Int) < yz c p
instance (d : DevM) (c p b : Int) : Decidable (BS d c p b):=by unfold BS; infer_instance
def fitF (d : DevM) (c p b : Int) : Int:=if BS d c p b then 1 else 0
theorem Nf (bd : Nat) (d : DevM) (hd : d.Ok) (c p b : Int) (R : List SL.HP) (w : World) (H : own w (lm bd d::R)) :
  Calls Tryz.prog 155 #[.pointer (some ⟨bd,0,none⟩),lM c p b] w fun e w'=>e = .returned (errV (fitF d c p b)) /\ Ext w w' /\ own w' (lm bd d::R):=by
 have ha:=li H (.cells #[.int .i64 c,.int .i64 p,.int .i64 b] 103)
 have hxa:=(zR w).alloc (.cells #[.int .i64 c,.int .i64 p,.int .i64 b] 103)
 obtain ⟨F,hF⟩ : ∃F,F = fitF d c p b:=⟨_,rfl⟩
 rw [<- hF]
 have HF:=zh hF
 clear hF
 have hq:=Ay c p b _ _ ha
 by_cases hb : lF c p b
 ·have hS : F = 1:=by rw [HF.out,fitF,zt (.inl hb)]
  rw [show yu c p b = 1 from zt hb] at hq
  have HQ:=zh hq
  have HS:=zh hS
  unfold lM at HQ
  unfold lM
  clear hq hb hS
  go_enter Tryz.func155,Tryz.ntmps155
  go_upto_region 1 with (fail)
  obtain ⟨cc,ff⟩:=ld 0 ha rfl
  generalize w.heap.size = g at *
  generalize w.alloc (.cells #[.int .i64 c,.int .i64 p,.int .i64 b] 103) = w1 at *
  go_wp2_with fail
  refine HQ.out.mono ?_
  rintro e w2 ⟨rfl,hx2,h2⟩
  rw [show errV 1 = .iface 128 (.int .i64 1) from rfl]
  go_wp2_with fail
  go_ret
  rw [HS.out]
  exact ⟨rfl,hxa.trans hx2,le h2⟩
 ·rw [show yu c p b = 0 from zq hb,oa] at hq
  have HQ:=zh hq
  have HN:=zh (fun (R : List SL.HP) (w : World) (H : own w R)=>N0 c p b hb R w H)
  have hE : F = if (d.fl.length : Int) < yz c p then 1 else 0:=by
   rw [HF.out]
   unfold fitF
   by_cases h : (d.fl.length : Int) < yz c p
   ·rw [zt (show BS d c p b from .inr h),zt h]
   ·rw [zq (show ¬BS d c p b from fun h'=>h'.elim hb h),zq h]
  have HE:=zh hE
  unfold lM at HQ HN
  unfold lM
  clear hq hb hE
  generalize yz c p = nd at *
  go_enter Tryz.func155,Tryz.ntmps155
  go_upto_region 1 with (fail)
  obtain ⟨cc,ff⟩:=ld 0 ha rfl
  generalize w.heap.size = g at *
  generalize w.alloc (.cells #[.int .i64 c,.int .i64 p,.int .i64 b] 103) = w1 at *
  go_wp2_with fail
  refine HQ.out.mono ?_
  rintro e w2 ⟨rfl,hx2,h2⟩
  clear cc ff
  obtain ⟨cc,ff⟩:=ld 0 h2 rfl
  go_wp2_with fail
  refine (HN.out _ w2 h2).mono ?_
  rintro e w3 ⟨rfl,hx3,h3⟩
  go_wp2_with fail
  refine (J0 bd d _ w3 (lu 1 h3 rfl)).mono ?_
  rintro e w4 ⟨rfl,rfl⟩
  have hx4:=(hxa.trans hx2).trans hx3
  by_cases h : (d.fl.length : Int) < nd
  ·have hS : F = 1:=by rw [HE.out,zt h]
   have HS:=zh hS
   have d0 : decide ((d.fl.length : Int) < nd) = true:=zg h
   clear h hS
   go_wp2_with fail
   go_ret
   rw [HS.out]
   exact ⟨rfl,hx4,le h3⟩
  ·have hS : F = 0:=by rw [HE.out,zq h]
   have HS:=zh hS
   have d0 : decide ((d.fl.length : Int) < nd) = false:=zf h
   clear h hS
   go_wp2_with fail
   go_ret
   rw [HS.out]
   exact ⟨rfl,hx4,le h3⟩
def lC (c : Int) : List Ent:=List.replicate c.toNat (0,0)
def oh (t : List Ent) : List ByteArray:=(List.range (ls t.length)).map fun (k : Nat)=>(lU t k).1
def ow (d : DevM) (c p b : Int) : ImgM:=⟨d,c,p,b,lC c,[]⟩
def oD (d : DevM) (c p b : Int) : Int×ImgM:=
 if BS d c p b then (1,ow d c p b)
 else if (d.puts 1 (oh (lC c))).1≠0 then ((d.puts 1 (oh (lC c))).1,ow (d.puts 1 (oh (lC c))).2 c p b)
 else if ((d.puts 1 (oh (lC c))).2.flush.write 0 (lN c p b)).1≠0 then (((d.puts 1 (oh (lC c))).2.flush.write 0 (lN c p b)).1,ow ((d.puts 1 (oh (lC c))).2.flush.write 0 (lN c p b)).2 c p b)
 else (0,ow ((d.puts 1 (oh (lC c))).2.flush.write 0 (lN c p b)).2.flush c p b)
def MZ (bd : Nat) (S : Int×ImgM) (R : List SL.HP) (w : World) (e : Ending) (w' : World) : Prop:=
 (S.1≠0 /\ e = .returned (.tuple #[.pointer none,errV S.1]) /\ Ext w w' /\ own w' (lm bd S.2.d::R)) \/
 (S.1 = 0 /\ ∃bi bh,e = .returned (.tuple #[.pointer (some ⟨bi,0,none⟩),.nilIface]) /\ Ext w w' /\ own w' (lP bi bd bh S.2::lm bd S.2.d::R))
theorem G4 (n : Nat) : (madeCells #[.int .i64 0,.int .i64 0] (n * 2)).toList = lG (List.replicate n (0,0)):=by
 induction n with
 | zero=>simp [madeCells,lG]
 | succ n ih=>
  rw [List.replicate_succ',Bb,<- ih]
  unfold madeCells
  rw [show (n + 1) * 2 = n * 2 + 1 + 1 by omega]
  simp [Array.range_succ,lG,Nat.add_mod]
def Lh (L : DevM -> List HP) (d : DevM) (at_ : Int) (l : List ByteArray) (res : Int×DevM) (w0 : World) (i : Value) (wr : World) : Prop:=
 ∃(k : Nat) (dk : DevM),k <= l.length /\ i = .int .i64 k /\ dk.puts (at_ + k) (l.drop k) = res /\ dk.Ok /\ dk.pend.length <= d.pend.length + k /\ dk.writes <= d.writes + k /\ Ext w0 wr /\ own wr (L dk)
theorem Nj {w : World} {L : List HP} (C : Nat) (hC : C <= 1000) (H : own w L) :
  own (w.alloc (.cells (madeCells #[.int .i64 0,.int .i64 0] (C * 2)) 221)) (row 221 2 (.slice (some ⟨w.heap.size,0,none⟩) C C) C (lG (List.replicate C (0,0)))::L):=
 yD 0 (n:=C) (cap:=C) (sz:=2) (xs:=lG (List.replicate C (0,0))) (li H (.cells (madeCells #[.int .i64 0,.int .i64 0] (C * 2)) 221)) rfl (Nat.le_refl _) (by simp only [maxLen]; omega) (size_madeCells _ _) (by
  rw [G4]
  exact List.take_of_length_le (by rw [EN]; simp))
theorem Ts {w : World} {L : List HP} (d : DevM) (bd C : Nat) (hC : C <= 1000) (p b : Int) (H : own w L) :
  own (((w.alloc (.cells (madeCells #[.int .i64 0,.int .i64 0] (C * 2)) 221)).alloc (.map #[] 0)).alloc (.cells #[.pointer (some ⟨bd,0,none⟩),.int .i64 (C : Int),.int .i64 p,.int .i64 b,.slice (some ⟨w.heap.size,0,none⟩) C C,.map (some (w.heap.size + 1))] 218)) (lP (w.heap.size + 1 + 1) bd (w.heap.size + 1) (ow d C p b)::L):=by
 have h1:=Nj C hC H
 have h2:=Ip h1
 have h3:=li h2 (.cells #[.pointer (some ⟨bd,0,none⟩),.int .i64 (C : Int),.int .i64 p,.int .i64 b,.slice (some ⟨w.heap.size,0,none⟩) C C,.map (some (w.heap.size + 1))] 218)
 have e1 : (w.alloc (.cells (madeCells #[.int .i64 0,.int .i64 0] (C * 2)) 221)).heap.size = w.heap.size + 1:=by simp
 have e2 : ((w.alloc (.cells (madeCells #[.int .i64 0,.int .i64 0] (C * 2)) 221)).alloc (.map #[] 0)).heap.size = w.heap.size + 1 + 1:=by simp
 rw [e1,e2] at h3
 have h4:=lr [_] (lu 2 h3 rfl)
 exact ye (m:=ow d C p b) (by
  show own _ (pts (w.heap.size + 1 + 1) _::row 221 2 _ (List.replicate C ((0,0) : Ent)).length _::AE (w.heap.size + 1) []::L)
  rw [List.length_replicate]
  exact h4)
theorem SS {w : World} {L : List HP} (d : DevM) (bd C : Nat) (hC : C <= 1000) (p b : Int) (H : own w L) :
  own (((w.alloc (.map #[] 0)).alloc (.cells (madeCells #[.int .i64 0,.int .i64 0] (C * 2)) 221)).alloc (.cells #[.pointer (some ⟨bd,0,none⟩),.int .i64 (C : Int),.int .i64 p,.int .i64 b,.slice (some ⟨w.heap.size + 1,0,none⟩) C C,.map (some w.heap.size)] 218)) (lP (w.heap.size + 1 + 1) bd w.heap.size (ow d C p b)::L):=by
 have h1:=Ip H
 have h2:=Nj C hC h1
 have h3:=li h2 (.cells #[.pointer (some ⟨bd,0,none⟩),.int .i64 (C : Int),.int .i64 p,.int .i64 b,.slice (some ⟨w.heap.size + 1,0,none⟩) C C,.map (some w.heap.size)] 218)
 have e1 : (w.alloc (.map #[] 0)).heap.size = w.heap.size + 1:=by simp
 have e2 : ((w.alloc (.map #[] 0)).alloc (.cells (madeCells #[.int .i64 0,.int .i64 0] (C * 2)) 221)).heap.size = w.heap.size + 1 + 1:=by simp
 rw [e1,e2] at h3
 exact ye (m:=ow d C p b) (by
  show own _ (pts (w.heap.size + 1 + 1) _::row 221 2 _ (List.replicate C ((0,0) : Ent)).length _::AE w.heap.size []::L)
  rw [List.length_replicate]
  exact h3)
theorem IT {c : Int} {k : Nat} (h : k < ls (lC c).length) : (oh (lC c)).drop k = (lU (lC c) k).1::(oh (lC c)).drop (k + 1):=by
 rw [List.drop_eq_getElem_cons (by simp [oh]; exact h)]
 simp [oh]
theorem GW (C : Nat) : ∀e∈lC (C : Int),lW e 40 = true:=fun e he=>by
 unfold lC at he
 rw [(List.mem_replicate.1 he).2]; rfl
theorem K7 (bd : Nat) (d : DevM) (hd : d.Ok) (hp : d.pend.length < 999000) (hw : d.writes < 999000) (c p b : Int) (R : List SL.HP) (w : World) (H : own w (lm bd d::R)) :
  Calls Tryz.prog 62 #[.pointer (some ⟨bd,0,none⟩),lM c p b] w (MZ bd (oD d c p b) R w):=by
 have hE : oD d c p b = if BS d c p b then (1,ow d c p b)
  else if (d.puts 1 (oh (lC c))).1≠0 then ((d.puts 1 (oh (lC c))).1,ow (d.puts 1 (oh (lC c))).2 c p b)
  else if ((d.puts 1 (oh (lC c))).2.flush.write 0 (lN c p b)).1≠0 then (((d.puts 1 (oh (lC c))).2.flush.write 0 (lN c p b)).1,ow ((d.puts 1 (oh (lC c))).2.flush.write 0 (lN c p b)).2 c p b)
  else (0,ow ((d.puts 1 (oh (lC c))).2.flush.write 0 (lN c p b)).2.flush c p b):=rfl
 generalize oD d c p b = S at *
 have HE:=zh hE
 clear hE
 have ha:=li H (.cells #[.int .i64 c,.int .i64 p,.int .i64 b] 103)
 have hxa:=(zR w).alloc (.cells #[.int .i64 c,.int .i64 p,.int .i64 b] 103)
 have HFT:=zh (fun (R : List SL.HP) (w : World) (H : own w (lm bd d::R))=>Nf bd d hd c p b R w H)
 unfold lM at HFT
 unfold lM
 go_enter Tryz.func62,Tryz.ntmps62
 go_upto_region 1 with (fail)
 obtain ⟨cc,ff⟩:=ld 0 ha rfl
 generalize w.heap.size = gh at *
 generalize w.alloc (.cells #[.int .i64 c,.int .i64 p,.int .i64 b] 103) = w1 at *
 go_wp2_with fail
 refine (HFT.out _ w1 (lu 1 ha rfl)).mono ?_
 rintro e w2 ⟨rfl,hx2,h2⟩
 replace hx2:=hxa.trans hx2
 clear cc ff ha hxa
 by_cases hb : BS d c p b
 ·have hS : S = (1,ow d c p b):=by rw [HE.out,zt hb]
  have HS:=zh hS
  rw [show fitF d c p b = 1 from zt hb,show errV 1 = .iface 128 (.int .i64 1) from rfl]
  clear hb hS
  go_wp2_with fail
  go_ret2
  rw [HS.out]
  exact .inl ⟨by simp,rfl,hx2,lh 1 h2 rfl⟩
 ·rw [show fitF d c p b = 0 from zq hb,oa]
  have hhb : ¬lF c p b:=fun h=>hb (.inl h)
  have hh:=hhb
  unfold lF at hh
  obtain ⟨C,rfl⟩:=ze (show 0 <= c by omega)
  have c1 : 1 <= C:=by omega
  have c2 : C <= 32:=by omega
  have hE2:=HE.out
  rw [zq hb] at hE2
  have hzt : lC (C : Int) = List.replicate C (0,0):=rfl
  have hz : (madeCells #[.int .i64 0,.int .i64 0] (C * 2)).toList = lG (List.replicate C (0,0)):=G4 C
  have hlen : (List.replicate C ((0,0) : Ent)).length = C:=by simp
  have hmk : ∀wx : World,(Instr.makeSlice 150 (.int .i64 (C : Int)) (.int .i64 (C : Int))).run Tryz.prog wx = .ok (.slice (some ⟨wx.heap.size,0,none⟩) C C) (wx.alloc (.cells (madeCells #[.int .i64 0,.int .i64 0] (C * 2)) 221)):=fun wx=>by
   obtain ⟨i,hi,hzz,hs1,hs2⟩:=info_parts BJ
   have:=run_makeSlice (P:=Tryz.prog) wx 150 221 i _ Tryz.underlying150 hi hzz .i64 .i64 (C : Int) (C : Int) (by omega) (by omega) (by rw [hs1,zn]; omega) (by rw [hs2]; omega) (by omega)
   rw [hs1,zn] at this
   exact this
  have hmm:=run_makeMap (P:=Tryz.prog) 216
  have hd1:=lj h2
  have HB:=zh hhb
  have HE2:=zh hE2
  have HZ:=zh hz
  clear hb hhb hh hE2 hz hzt hlen
  obtain ⟨cc,ff⟩:=ld 1 h2 rfl
  go_upto_region 4 with (fail)
  go_region_held3 (fun w'=>w'.cell? ⟨gh,0,none⟩ = some (.int .i64 (C : Int)) /\ w'.cell? ⟨gh,1,none⟩ = some (.int .i64 p) /\ w'.cell? ⟨gh,2,none⟩ = some (.int .i64 b)) (first | exact ⟨(ld 1 hd1 rfl).1 0,(ld 1 hd1 rfl).1 1,(ld 1 hd1 rfl).1 2⟩ | exact ⟨(ld 2 (li hd1 _) rfl).1 0,(ld 2 (li hd1 _) rfl).1 1,(ld 2 (li hd1 _) rfl).1 2⟩ | exact ⟨(ld 3 (li (li hd1 _) _) rfl).1 0,(ld 3 (li (li hd1 _) _) rfl).1 1,(ld 3 (li (li hd1 _) _) rfl).1 2⟩ | exact ⟨(ld 4 (li (li (li hd1 _) _) _) rfl).1 0,(ld 4 (li (li (li hd1 _) _) _) rfl).1 1,(ld 4 (li (li (li hd1 _) _) _) rfl).1 2⟩) (fail)
  ·
   have h4:=lj (Ts d bd C (by omega) p b h2)
   have hx4:=(((hx2.alloc (.cells (madeCells #[.int .i64 0,.int .i64 0] (C * 2)) 221)).alloc (.map #[] 0)).alloc (.cells #[.pointer (some ⟨bd,0,none⟩),.int .i64 (C : Int),.int .i64 p,.int .i64 b,.slice (some ⟨w2.heap.size,0,none⟩) C C,.map (some (w2.heap.size + 1))] 218)).drew
   generalize (((w2.alloc (.cells (madeCells #[.int .i64 0,.int .i64 0] (C * 2)) 221)).alloc (.map #[] 0)).alloc (.cells #[.pointer (some ⟨bd,0,none⟩),.int .i64 (C : Int),.int .i64 p,.int .i64 b,.slice (some ⟨w2.heap.size,0,none⟩) C C,.map (some (w2.heap.size + 1))] 218)).drew = w4 at h4 hx4 ⊢
   generalize w2.heap.size + 1 + 1 = bi at *
   generalize w2.heap.size + 1 = bh at *
   obtain ⟨cc,ff⟩:=ld 2 h4 rfl
   have hlz : (lC (C : Int)).length = C:=by simp [lC]
   have hrz : ls (lC (C : Int)).length = ls C:=by rw [hlz]
   have hrn : ls C <= 4:=by unfold ls; omega
   have hll : (oh (lC (C : Int))).length = ls C:=by simp [oh,hlz]
   have HGET:=zh (fun (k : Nat) (h : k < ls C)=>IT (c:=(C : Int)) (k:=k) (by rw [hlz]; exact h))
   have HEND:=zh (show (oh (lC (C : Int))).drop (ls C) = [] from List.drop_of_length_le (by omega))
   have HOK:=zh (fun (k : Nat) (h : k < ls C)=>CA (t:=lC (C : Int)) (r:=k) (by rw [hlz]; omega) (by rw [hlz]; exact h) (GW C))
   have HRW:=zh (AT C (by omega))
   have hpo:=CZ (l:=oh (lC (C : Int))) (d:=d) (a:=1) hd (by omega) (by omega)
   have hpn:=AM (l:=oh (lC (C : Int))) (d:=d) (a:=1)
   rw [hll] at hpo
   have HIR:=zh (fun (dk : DevM) (okd : dk.Ok) (hw : dk.writes < 1000000) (hp : dk.pend.length < 1000000) (k : Nat) (hk : k < ls C) (R : List SL.HP) (w : World) (H : own w (lP bi bd bh (ow d C p b)::lm bd dk::R))=>
    Gc bi bd bh (ow dk C p b) okd (show (lC (C : Int)).length <= 1000 by rw [hlz]; omega) hw hp k (by omega) (HOK.out k hk) R w H)
   have HE3:=HE2.out
   generalize hrl : oh (lC (C : Int)) = RL at *
   generalize hres : d.puts 1 RL = res at *
   have HRES:=zh hres
   have HE4:=zh HE3
   generalize hN : ls C = N at *
   obtain ⟨o1,o2,o3,o4⟩:=hpo
   clear HE3 hlz hrz HE2 HE hd1 hmk hmm hres hrl HZ
   go_wp2_with fail
   refine (HRW.out w4).mono ?_
   rintro e w' ⟨rfl,rfl⟩
   go_wp2_with fail
   go_loopw [27] (Lh (fun dk=>lP bi bd bh (ow d C p b)::lm bd dk::pts gh (.cells #[.int .i64 C,.int .i64 p,.int .i64 b] 103 (0,0))::R) d 1 RL res w) (fun i _=>N - (intOf i).toNat)
   case atStart=>exact ⟨0,d,by omega,rfl,by simpa using HRES.out,hd,by omega,by simp,hx4,h4⟩
   case round=>
    clear cc ff
    obtain ⟨k,dk,hk,rfl,hput,okd,hpk,hwk,hxr,hown⟩:=hrel
    rw [hll] at hk
    by_cases hlt : k < N
    ·rw [HGET.out k hlt] at hput
     have HPUT:=zh hput
     clear hput
     have e1 : IntKind.i64.wrap ((k : Int) + 1) = (k : Int) + 1:=zi _ (by omega)
     have hkN : (k : Int) < (N : Int):=by omega
     have HW:=zh (HIR.out dk okd (by omega) (by omega) k hlt)
     have hcode:=ol dk (1 + (k : Int)) (lU (lC (C : Int)) k).1
     obtain ⟨l1,l2,l3⟩:=yE dk (1 + (k : Int)) (lU (lC (C : Int)) k).1
     have okw:=DevM.write_ok okd (1 + (k : Int)) (lU (lC (C : Int)) k).1 (by omega) (by omega)
     have hstep : dk.puts (1 + (k : Int)) ((lU (lC (C : Int)) k).1::RL.drop (k + 1)) = if (dk.write (1 + (k : Int)) (lU (lC (C : Int)) k).1).1≠0 then dk.write (1 + (k : Int)) (lU (lC (C : Int)) k).1 else (dk.write (1 + (k : Int)) (lU (lC (C : Int)) k).1).2.puts (1 + (k : Int) + 1) (RL.drop (k + 1)):=rfl
     rw [HPUT.out] at hstep
     have HSTP:=zh hstep
     clear hstep l1
     change Hid (∀(R : List SL.HP) (w : World),own w (lP bi bd bh (ow d C p b)::lm bd dk::R) -> Calls Tryz.prog 157 #[.pointer (some ⟨bi,0,none⟩),.int .i64 k] w fun e w'=>e = .returned (errV (dk.write (1 + (k : Int)) (lU (lC (C : Int)) k).1).1) /\ Ext w w' /\ own w' (lP bi bd bh (ow d C p b)::lm bd (dk.write (1 + (k : Int)) (lU (lC (C : Int)) k).1).2::R)) at HW
     generalize dk.write (1 + (k : Int)) (lU (lC (C : Int)) k).1 = r at *
     clear HIR HGET HOK
     go_wp2_with fail
     refine (HW.out _ wr hown).mono ?_
     rintro e w5 ⟨rfl,hx5',h5⟩
     have hx5:=hxr.trans hx5'
     clear hx5' hown hxr
     by_cases hz : r.1 = 0
     ·have HZ:=zh hz
      rw [hz,oa]
      clear hz
      go_wp2_with fail
      go_roundw
      case rel=>exact ⟨k + 1,r.2,by rw [hll]; omega,by go_num,by have:=HSTP.out; rw [zq (by simpa using HZ.out)] at this; rw [this]; congr 1 <;> omega,okw,by omega,by omega,hx5,h5⟩
      case measure=>simp [intOf]; omega
     ·have hfin : res = r:=by have:=HSTP.out; rw [zt hz] at this; exact this
      have hS2 : S = (r.1,ow r.2 C p b):=by rw [HE4.out,hfin,zt hz]
      have HF:=zh hS2
      have hpz : 0 < r.1:=by omega
      have HPE:=zh (lx hpz)
      rw [lx hpz]
      clear hz hfin hS2
      go_wp2_with fail
      go_ret2
      rw [HF.out]
      exact .inl ⟨by dsimp only; omega,by dsimp only; rw [HPE.out]; rfl,hx5,lh 1 (lh 0 h5 rfl) rfl⟩
    ·have hke : k = N:=by omega
     subst hke
     rw [HEND.out,DevM.puts] at hput
     have hr0 : res.1 = 0:=by rw [<- hput]
     have hr2 : res.2 = dk:=by rw [<- hput]
     have hS2:=HE4.out
     rw [zq (by simpa using hr0),hr2] at hS2
     have HF:=zh hS2
     clear hput hlt hS2 hr0 hr2
     have HFL:=zh (fun (R : List SL.HP) (w : World) (H : own w (lm bd dk::R))=>CT bd dk okd R w H)
     have okf:=DevM.flush_ok okd
     have hpl : dk.flush.pend.length = 0:=rfl
     have hwl : dk.flush.writes = dk.writes:=rfl
     have hhs : (lN C p b).size = 16:=Bi (by simp)
     have HWR:=zh (fun (R : List SL.HP) (w : World) (H : own w (lm bd dk.flush::R))=>Ci bd dk.flush okf 0 (lN C p b) (by omega) (by omega) (by omega) R w H)
     have hcode:=ol dk.flush 0 (lN C p b)
     have okw:=DevM.write_ok okf 0 (lN C p b) (by omega) (by omega)
     generalize dk.flush = df at *
     have HHD:=zh (fun (R : List SL.HP) (w : World) (H : own w R)=>Fl C p b R w H)
     rw [show yu C p b = 0 from zq HB.out,zt rfl,oa] at HHD
     unfold lM at HHD
     generalize lN C p b = hs at *
     generalize df.write 0 hs = r at *
     clear HIR HGET HOK
     go_wp2_with fail
     refine (HFL.out _ wr (lu 1 hown rfl)).mono ?_
     rintro e w5 ⟨rfl,hx5,h5'⟩
     have h5:=oo hown 1 rfl h5'
     obtain ⟨cc,ff⟩:=ld 2 h5 rfl
     go_wp2_with fail
     refine (HHD.out _ w5 h5).mono ?_
     rintro e w6 ⟨rfl,hx6,h6⟩
     clear cc ff
     go_wp2_with fail
     refine (HWR.out _ w6 (lu 1 h6 rfl)).mono ?_
     rintro e w7 ⟨rfl,hx7,h7'⟩
     have h7:=oo h6 1 rfl h7'
     have hx7f:=((hxr.trans hx5).trans hx6).trans hx7
     by_cases hz : r.1 = 0
     ·have hS2:=HF.out
      rw [zq (by simpa using hz)] at hS2
      have HS2:=zh hS2
      have HFL2:=zh (fun (R : List SL.HP) (w : World) (H : own w (lm bd r.2::R))=>CT bd r.2 okw R w H)
      rw [hz,oa]
      clear hz hS2
      go_wp2_with fail
      refine (HFL2.out _ w7 (lu 1 h7 rfl)).mono ?_
      rintro e w8 ⟨rfl,hx8,h8'⟩
      have h8:=oo h7 1 rfl h8'
      go_wp2_with fail
      go_ret2
      rw [HS2.out]
      exact .inr ⟨rfl,bi,bh,rfl,hx7f.trans hx8,lh 2 h8 rfl⟩
     ·have hS2:=HF.out
      rw [zt hz] at hS2
      have HS2:=zh hS2
      have hpz : 0 < r.1:=by omega
      have HPE:=zh (lx hpz)
      rw [lx hpz]
      clear hz hS2
      go_wp2_with fail
      go_ret2
      rw [HS2.out]
      exact .inl ⟨by dsimp only; omega,by dsimp only; rw [HPE.out]; rfl,hx7f,lh 1 (lh 0 h7 rfl) rfl⟩
  ·
   have h4:=lj (SS d bd C (by omega) p b h2)
   have hx4:=(((hx2.alloc (.map #[] 0)).alloc (.cells (madeCells #[.int .i64 0,.int .i64 0] (C * 2)) 221)).alloc (.cells #[.pointer (some ⟨bd,0,none⟩),.int .i64 (C : Int),.int .i64 p,.int .i64 b,.slice (some ⟨w2.heap.size + 1,0,none⟩) C C,.map (some w2.heap.size)] 218)).drew
   generalize (((w2.alloc (.map #[] 0)).alloc (.cells (madeCells #[.int .i64 0,.int .i64 0] (C * 2)) 221)).alloc (.cells #[.pointer (some ⟨bd,0,none⟩),.int .i64 (C : Int),.int .i64 p,.int .i64 b,.slice (some ⟨w2.heap.size + 1,0,none⟩) C C,.map (some w2.heap.size)] 218)).drew = w4 at h4 hx4 ⊢
   generalize w2.heap.size + 1 + 1 = bi at *
   generalize w2.heap.size = bh at *
   obtain ⟨cc,ff⟩:=ld 2 h4 rfl
   have hlz : (lC (C : Int)).length = C:=by simp [lC]
   have hrz : ls (lC (C : Int)).length = ls C:=by rw [hlz]
   have hrn : ls C <= 4:=by unfold ls; omega
   have hll : (oh (lC (C : Int))).length = ls C:=by simp [oh,hlz]
   have HGET:=zh (fun (k : Nat) (h : k < ls C)=>IT (c:=(C : Int)) (k:=k) (by rw [hlz]; exact h))
   have HEND:=zh (show (oh (lC (C : Int))).drop (ls C) = [] from List.drop_of_length_le (by omega))
   have HOK:=zh (fun (k : Nat) (h : k < ls C)=>CA (t:=lC (C : Int)) (r:=k) (by rw [hlz]; omega) (by rw [hlz]; exact h) (GW C))
   have HRW:=zh (AT C (by omega))
   have hpo:=CZ (l:=oh (lC (C : Int))) (d:=d) (a:=1) hd (by omega) (by omega)
   have hpn:=AM (l:=oh (lC (C : Int))) (d:=d) (a:=1)
   rw [hll] at hpo
   have HIR:=zh (fun (dk : DevM) (okd : dk.Ok) (hw : dk.writes < 1000000) (hp : dk.pend.length < 1000000) (k : Nat) (hk : k < ls C) (R : List SL.HP) (w : World) (H : own w (lP bi bd bh (ow d C p b)::lm bd dk::R))=>
    Gc bi bd bh (ow dk C p b) okd (show (lC (C : Int)).length <= 1000 by rw [hlz]; omega) hw hp k (by omega) (HOK.out k hk) R w H)
   have HE3:=HE2.out
   generalize hrl : oh (lC (C : Int)) = RL at *
   generalize hres : d.puts 1 RL = res at *
   have HRES:=zh hres
   have HE4:=zh HE3
   generalize hN : ls C = N at *
   obtain ⟨o1,o2,o3,o4⟩:=hpo
   clear HE3 hlz hrz HE2 HE hd1 hmk hmm hres hrl HZ
   go_wp2_with fail
   refine (HRW.out w4).mono ?_
   rintro e w' ⟨rfl,rfl⟩
   go_wp2_with fail
   go_loopw [27] (Lh (fun dk=>lP bi bd bh (ow d C p b)::lm bd dk::pts gh (.cells #[.int .i64 C,.int .i64 p,.int .i64 b] 103 (0,0))::R) d 1 RL res w) (fun i _=>N - (intOf i).toNat)
   case atStart=>exact ⟨0,d,by omega,rfl,by simpa using HRES.out,hd,by omega,by simp,hx4,h4⟩
   case round=>
    clear cc ff
    obtain ⟨k,dk,hk,rfl,hput,okd,hpk,hwk,hxr,hown⟩:=hrel
    rw [hll] at hk
    by_cases hlt : k < N
    ·rw [HGET.out k hlt] at hput
     have HPUT:=zh hput
     clear hput
     have e1 : IntKind.i64.wrap ((k : Int) + 1) = (k : Int) + 1:=zi _ (by omega)
     have hkN : (k : Int) < (N : Int):=by omega
     have HW:=zh (HIR.out dk okd (by omega) (by omega) k hlt)
     have hcode:=ol dk (1 + (k : Int)) (lU (lC (C : Int)) k).1
     obtain ⟨l1,l2,l3⟩:=yE dk (1 + (k : Int)) (lU (lC (C : Int)) k).1
     have okw:=DevM.write_ok okd (1 + (k : Int)) (lU (lC (C : Int)) k).1 (by omega) (by omega)
     have hstep : dk.puts (1 + (k : Int)) ((lU (lC (C : Int)) k).1::RL.drop (k + 1)) = if (dk.write (1 + (k : Int)) (lU (lC (C : Int)) k).1).1≠0 then dk.write (1 + (k : Int)) (lU (lC (C : Int)) k).1 else (dk.write (1 + (k : Int)) (lU (lC (C : Int)) k).1).2.puts (1 + (k : Int) + 1) (RL.drop (k + 1)):=rfl
     rw [HPUT.out] at hstep
     have HSTP:=zh hstep
     clear hstep l1
     change Hid (∀(R : List SL.HP) (w : World),own w (lP bi bd bh (ow d C p b)::lm bd dk::R) -> Calls Tryz.prog 157 #[.pointer (some ⟨bi,0,none⟩),.int .i64 k] w fun e w'=>e = .returned (errV (dk.write (1 + (k : Int)) (lU (lC (C : Int)) k).1).1) /\ Ext w w' /\ own w' (lP bi bd bh (ow d C p b)::lm bd (dk.write (1 + (k : Int)) (lU (lC (C : Int)) k).1).2::R)) at HW
     generalize dk.write (1 + (k : Int)) (lU (lC (C : Int)) k).1 = r at *
     clear HIR HGET HOK
     go_wp2_with fail
     refine (HW.out _ wr hown).mono ?_
     rintro e w5 ⟨rfl,hx5',h5⟩
     have hx5:=hxr.trans hx5'
     clear hx5' hown hxr
     by_cases hz : r.1 = 0
     ·have HZ:=zh hz
      rw [hz,oa]
      clear hz
      go_wp2_with fail
      go_roundw
      case rel=>exact ⟨k + 1,r.2,by rw [hll]; omega,by go_num,by have:=HSTP.out; rw [zq (by simpa using HZ.out)] at this; rw [this]; congr 1 <;> omega,okw,by omega,by omega,hx5,h5⟩
      case measure=>simp [intOf]; omega
     ·have hfin : res = r:=by have:=HSTP.out; rw [zt hz] at this; exact this
      have hS2 : S = (r.1,ow r.2 C p b):=by rw [HE4.out,hfin,zt hz]
      have HF:=zh hS2
      have hpz : 0 < r.1:=by omega
      have HPE:=zh (lx hpz)
      rw [lx hpz]
      clear hz hfin hS2
      go_wp2_with fail
      go_ret2
      rw [HF.out]
      exact .inl ⟨by dsimp only; omega,by dsimp only; rw [HPE.out]; rfl,hx5,lh 1 (lh 0 h5 rfl) rfl⟩
    ·have hke : k = N:=by omega
     subst hke
     rw [HEND.out,DevM.puts] at hput
     have hr0 : res.1 = 0:=by rw [<- hput]
     have hr2 : res.2 = dk:=by rw [<- hput]
     have hS2:=HE4.out
     rw [zq (by simpa using hr0),hr2] at hS2
     have HF:=zh hS2
     clear hput hlt hS2 hr0 hr2
     have HFL:=zh (fun (R : List SL.HP) (w : World) (H : own w (lm bd dk::R))=>CT bd dk okd R w H)
     have okf:=DevM.flush_ok okd
     have hpl : dk.flush.pend.length = 0:=rfl
     have hwl : dk.flush.writes = dk.writes:=rfl
     have hhs : (lN C p b).size = 16:=Bi (by simp)
     have HWR:=zh (fun (R : List SL.HP) (w : World) (H : own w (lm bd dk.flush::R))=>Ci bd dk.flush okf 0 (lN C p b) (by omega) (by omega) (by omega) R w H)
     have hcode:=ol dk.flush 0 (lN C p b)
     have okw:=DevM.write_ok okf 0 (lN C p b) (by omega) (by omega)
     generalize dk.flush = df at *
     have HHD:=zh (fun (R : List SL.HP) (w : World) (H : own w R)=>Fl C p b R w H)
     rw [show yu C p b = 0 from zq HB.out,zt rfl,oa] at HHD
     unfold lM at HHD
     generalize lN C p b = hs at *
     generalize df.write 0 hs = r at *
     clear HIR HGET HOK
     go_wp2_with fail
     refine (HFL.out _ wr (lu 1 hown rfl)).mono ?_
     rintro e w5 ⟨rfl,hx5,h5'⟩
     have h5:=oo hown 1 rfl h5'
     obtain ⟨cc,ff⟩:=ld 2 h5 rfl
     go_wp2_with fail
     refine (HHD.out _ w5 h5).mono ?_
     rintro e w6 ⟨rfl,hx6,h6⟩
     clear cc ff
     go_wp2_with fail
     refine (HWR.out _ w6 (lu 1 h6 rfl)).mono ?_
     rintro e w7 ⟨rfl,hx7,h7'⟩
     have h7:=oo h6 1 rfl h7'
     have hx7f:=((hxr.trans hx5).trans hx6).trans hx7
     by_cases hz : r.1 = 0
     ·have hS2:=HF.out
      rw [zq (by simpa using hz)] at hS2
      have HS2:=zh hS2
      have HFL2:=zh (fun (R : List SL.HP) (w : World) (H : own w (lm bd r.2::R))=>CT bd r.2 okw R w H)
      rw [hz,oa]
      clear hz hS2
      go_wp2_with fail
      refine (HFL2.out _ w7 (lu 1 h7 rfl)).mono ?_
      rintro e w8 ⟨rfl,hx8,h8'⟩
      have h8:=oo h7 1 rfl h8'
      go_wp2_with fail
      go_ret2
      rw [HS2.out]
      exact .inr ⟨rfl,bi,bh,rfl,hx7f.trans hx8,lh 2 h8 rfl⟩
     ·have hS2:=HF.out
      rw [zt hz] at hS2
      have HS2:=zh hS2
      have hpz : 0 < r.1:=by omega
      have HPE:=zh (lx hpz)
      rw [lx hpz]
      clear hz hS2
      go_wp2_with fail
      go_ret2
      rw [HS2.out]
      exact .inl ⟨by dsimp only; omega,by dsimp only; rw [HPE.out]; rfl,hx7f,lh 1 (lh 0 h7 rfl) rfl⟩
end Go.Proofs.YtbpblokfiajpjabGreatDoor
namespace Go.Proofs.YtbpblokfiajpjabGreatDoor
open Go.RowKit Go.SL Go.Crc
def ov (d : DevM) (C : Nat) : List ByteArray:=(List.range (ls C)).map fun (k : Nat)=>d.seen (1 + (k : Int))
def MK (d : DevM) : ImgM:=⟨d,0,0,0,[],[]⟩
def K3 (d : DevM) (c p b : Int) (T : List Ent×Int) : Int×ImgM:=(T.2,⟨d,c,p,b,T.1,[]⟩)
def C6 (d : DevM) (h : (Int×Int×Int)×Int) : Int×ImgM:=
 if h.2≠0 then (h.2,MK d) else if (d.fl.length : Int) < yz h.1.1 h.1.2.1 then (1,MK d)
 else K3 d h.1.1 h.1.2.1 h.1.2.2 (zU h.1.1 h.1.2.1 h.1.2.2 (ov d h.1.1.toNat))
def Aj (d : DevM) : Int×ImgM:=C6 d (o7 (d.seen 0))
theorem VD (d : DevM) (h : (Int×Int×Int)×Int) : (C6 d h).2.d = d:=by
 unfold C6; split
 ·rfl
 ·split <;> rfl
theorem IV (d : DevM) : (Aj d).2.d = d:=VD d _
theorem FN {s : ByteArray} (h : (o7 s).2 = 0) : ¬lF (o7 s).1.1 (o7 s).1.2.1 (o7 s).1.2.2:=by
 unfold o7 at h ⊢
 by_cases h1 : zA s≠0
 ·rw [zt h1] at h; exact absurd h h1
 ·rw [zq h1] at h ⊢
  by_cases h2 : zo s
  ·rw [zt h2] at h; cases h
  ·rw [zq h2]
   exact fun hb=>h2 (.inl hb)
theorem G2 (d : DevM) {C q : Nat} (h : q < ls C) : (ov d C).take (q + 1) = (ov d C).take q++[d.seen (1 + (q : Int))]:=by
 rw [List.take_add_one]
 simp [ov,h]
theorem It (d : DevM) (C : Nat) : (ov d C).length = ls C:=by simp [ov]
theorem Ic {d : DevM} (hd : d.Ok) {C : Nat} (h : (ls C : Int) < d.fl.length) : ∀s∈ov d C,s.size = 16:=fun s hs=>by
 simp only [ov,List.mem_map,List.mem_range] at hs
 obtain ⟨k,hk,rfl⟩:=hs
 exact AP hd (by omega) (by omega)
theorem PP {t : List Ent} {k : Nat} (h : k < t.length) : ent t k = t[k]:=by simp [ent,h]
theorem Bx {t : List Ent} {k : Nat} (h : k < t.length) : ent t k∈t:=by rw [PP h]; exact List.getElem_mem h
theorem V8 {t : List Ent} {k : Nat} (h : t.length <= k) : ent t k = (0,0):=by simp [ent,h]
def Uniq (t : List Ent) : Prop:=∀i j : Nat,i < t.length -> j < t.length -> (ent t i).1 = 2 -> ent t i = ent t j -> i = j
def ym (t : List Ent) (r : Nat) : ByteArray:=strOfNums (Ap (oX t r))
theorem MA (t : List Ent) (r : Nat) : (ym t r).size = 16:=by
 unfold ym
 rw [strOfNums_size,DT,Bk]
theorem Mv {P : Int} (hP : P <= 40) {t : List Ent} (hv : ∀e∈t,lW e P = true) (r : Nat) : ∀e∈oX t r,lW e 40 = true:=by
 intro e he
 simp only [oX,List.mem_map,List.mem_range] at he
 obtain ⟨k,hk,rfl⟩:=he
 by_cases h : 8 * r + k < t.length
 ·exact Dh (hv _ (Bx h)) hP
 ·rw [show t.getD (8 * r + k) (0,0) = (0,0) from V8 (by omega)]
  rfl
theorem JM {P : Int} (hP : P <= 40) {t : List Ent} (hl : t.length <= 32) (hv : ∀e∈t,lW e P = true) {r : Nat} (hr : r < ls t.length) : lU t (r : Int) = (ym t r,0):=by
 refine Gw (by unfold zF; omega) fun k hk=>Mv hP hv r _ ?_
 simp only [oX,List.mem_map,List.mem_range]
 exact ⟨k,hk,rfl⟩
theorem SR {t : List Ent} {e : Ent} (h : Uniq t) (he : e.1 = 2 -> e∉t) : Uniq (t++[e]):=by
 intro i j hi hj h2 hij
 simp only [List.length_append,List.length_cons,List.length_nil] at hi hj
 have g : ∀k,k < t.length -> ent (t++[e]) k = ent t k:=fun k hk=>by unfold ent; rw [List.getD_eq_getElem?_getD,List.getD_eq_getElem?_getD,List.getElem?_append_left hk]
 have g1 : ent (t++[e]) t.length = e:=by unfold ent; simp
 by_cases h1 : i < t.length
 ·by_cases h3 : j < t.length
  ·rw [g i h1] at h2 hij
   rw [g j h3] at hij
   exact h i j h1 h3 h2 hij
  ·obtain rfl : j = t.length:=by omega
   rw [g1,g i h1] at hij
   rw [g i h1] at h2
   exact absurd (hij ▸ Bx h1) (he (hij ▸ h2))
 ·obtain rfl : i = t.length:=by omega
  by_cases h3 : j < t.length
  ·rw [g1,g j h3] at hij
   rw [g1] at h2
   exact absurd (hij ▸ Bx h3) (he h2)
  ·omega
theorem Tb {P : Int} {t : List Ent} {e : Ent} (h : zx P t e = false) : lW e P = true /\ (e.1 = 2 -> e∉t):=by
 unfold zx at h
 simp only [Bool.or_eq_false_iff,Bool.not_eq_false'] at h
 refine ⟨h.1,fun h2 hm=>?_⟩
 have:=h.2
 simp [h2,hm] at this
theorem SM {C : Nat} {P : Int} : ∀{l t t' : List Ent},t.length <= C -> (∀e∈t,lW e P = true) -> Uniq t -> yQ C P t l = some t' ->
  t'.length = min C (t.length + l.length) /\ (∀e∈t',lW e P = true) /\ Uniq t':=by
 intro l
 induction l with
 | nil=>
  intro t t' h1 h2 h3 h
  rw [yQ] at h
  obtain rfl:=Option.some.inj h
  exact ⟨by simp only [List.length_nil]; omega,h2,h3⟩
 | cons e l ih=>
  intro t t' h1 h2 h3 h
  rw [yQ] at h
  by_cases hc : t.length = C
  ·rw [zt hc] at h
   by_cases he : e = (0,0)
   ·rw [zt he] at h
    obtain ⟨a,b,c⟩:=ih h1 h2 h3 h
    exact ⟨by simp only [List.length_cons]; omega,b,c⟩
   ·rw [zq he] at h; cases h
  ·rw [zq hc] at h
   cases hb : zx P t e
   ·rw [hb,zq (by decide)] at h
    obtain ⟨b1,b2⟩:=Tb hb
    obtain ⟨a,b,c⟩:=ih (t:=t++[e]) (by simp only [List.length_append,List.length_cons,List.length_nil]; omega) (fun x hx=>by
     rcases List.mem_append.1 hx with h | h
     ·exact h2 x h
     ·rw [List.mem_singleton.1 h]; exact b1) (SR h3 b2) h
    exact ⟨by simp only [List.length_append,List.length_cons,List.length_nil] at a ⊢; omega,b,c⟩
   ·rw [hb,zt rfl] at h; cases h
theorem Qn {C : Nat} {P : Int} : ∀{l : List ByteArray} {t T : List Ent},t.length <= C -> (∀e∈t,lW e P = true) -> Uniq t -> yJ C P t l = (T,0) ->
  T.length = min C (t.length + 8 * l.length) /\ (∀e∈T,lW e P = true) /\ Uniq T:=by
 intro l
 induction l with
 | nil=>
  intro t T h1 h2 h3 h
  rw [yJ] at h
  obtain ⟨rfl,-⟩:=Prod.mk.inj h
  exact ⟨by simp only [List.length_nil]; omega,h2,h3⟩
 | cons s l ih=>
  intro t T h1 h2 h3 h
  rw [yJ] at h
  split at h
  ·cases (Prod.mk.inj h).2
  ·split at h
   ·cases (Prod.mk.inj h).2
   ·rename_i t' ht
    obtain ⟨a,b,c⟩:=SM h1 h2 h3 ht
    obtain ⟨a',b',c'⟩:=ih (by omega) b c h
    rw [IB] at a
    exact ⟨by simp only [List.length_cons]; omega,b',c'⟩
theorem Su {c p b : Int} {rows : List ByteArray} {T : List Ent} (h : zU c p b rows = (T,0)) : (T.length : Int) = c /\ (∀e∈T,lW e p = true) /\ Uniq T:=by
 unfold zU at h
 split at h
 ·cases (Prod.mk.inj h).2
 ·rename_i hb
  unfold lF at hb
  split at h
  ·cases (Prod.mk.inj h).2
  ·rename_i hr
   obtain ⟨a,b',c'⟩:=Qn (t:=[]) (by simp) (fun e he=>by cases he) (fun i j hi=>by simp at hi) h
   have hr' : rows.length = ls c.toNat:=by omega
   rw [hr'] at a
   simp only [List.length_nil] at a
   unfold ls at a
   exact ⟨by omega,b',c'⟩
theorem Vj {d : DevM} (hd : d.Ok) (h : (Aj d).1 = 0) : (Aj d).2.Ok:=by
 unfold Aj C6 at h ⊢
 split at h
 ·rename_i h1; exact absurd h h1
 ·rename_i h1
  rw [zq h1]
  split at h
  ·cases h
  ·rename_i h2
   rw [zq h2]
   have hg:=FN (s:=d.seen 0) (by simpa using h1)
   obtain ⟨a,b,c⟩:=Su (T:=(zU (o7 (d.seen 0)).1.1 (o7 (d.seen 0)).1.2.1 (o7 (d.seen 0)).1.2.2 (ov d (o7 (d.seen 0)).1.1.toNat)).1) (Prod.ext rfl h)
   exact ⟨hd,hg,a,b,c,List.nodup_nil,(fun x hx=>by cases hx),(fun x hx=>by cases hx),by unfold yz at h2; simp only [K3]; omega⟩
def Mk (bd : Nat) (S : Int×ImgM) (R : List SL.HP) (w : World) (e : Ending) (w' : World) : Prop:=
 (S.1≠0 /\ e = .returned (.tuple #[.pointer none,.int .i64 S.1]) /\ Ext w w' /\ own w' (ln bd S.2.d::R)) \/
 (S.1 = 0 /\ ∃bi,e = .returned (.tuple #[.pointer (some ⟨bi,0,none⟩),.int .i64 0]) /\ Ext w w' /\ own w' (lX bi bd S.2::ln bd S.2.d::R))
end Go.Proofs.YtbpblokfiajpjabGreatDoor
namespace Go.Proofs.YtbpblokfiajpjabGreatDoor
open Go.RowKit Go.SL Go.Crc
attribute [local go_sem ↓] Go.wp_at_zero Go.wp_at_succ
theorem Fq (l m : List ByteArray) : strCells (l++m) = strCells l++strCells m:=by simp [strCells]
def Ps (L : List SL.HP) (d : DevM) (C : Nat) (w0 : World) (v i : Value) (wr : World) : Prop:=
 ∃q : Nat,q <= ls C /\ i = .int .i64 q /\ Ext w0 wr /\ own wr (row 9 1 v q (strCells ((ov d C).take q))::L)
theorem Ni (s : ByteArray) : ∀u∈[Value.string s],u.oneCell' = true:=fun u hu=>by simp at hu; subst hu; rfl
theorem QS (bd : Nat) (d : DevM) (hd : d.Ok) (hn1 : 0 < d.fl.length) (R : List SL.HP) (w : World) (H : own w (ln bd d::R)) :
  Calls Tryz.prog 99 #[.pointer (some ⟨bd,0,none⟩)] w (Mk bd (Aj d) R w):=by
 have hE : Aj d = C6 d (o7 (d.seen 0)):=rfl
 generalize Aj d = S at *
 have hs0:=AP hd (a:=0) (by omega) (by omega)
 have hsn:=fun (R : List SL.HP) (w : World) (H : own w (ln bd d::R))=>Eh bd d hd 0 (by omega) (by omega) R w H
 have hgd:=fun h=>FN (s:=d.seen 0) h
 have hnn:=Ep (d.seen 0)
 have HHD:=zh (fun (R : List SL.HP) (w : World) (H : own w R)=>QT (d.seen 0) (by omega) R w H)
 have HSN:=zh hsn
 have HGD:=zh hgd
 clear hsn hgd hs0
 generalize d.seen 0 = s0 at *
 generalize o7 s0 = hh at *
 obtain ⟨⟨c,p,b⟩,f⟩:=hh
 have HE:=zh hE
 clear hE
 dsimp only at hnn HGD HHD
 unfold lM at HHD
 have hn:=hd.n
 go_enter Tryz.func99,Tryz.ntmps99
 go_wp2_with fail
 refine (HSN.out _ w H).mono ?_
 rintro e w1 ⟨rfl,rfl⟩
 go_wp2_with fail
 refine (HHD.out _ w H).mono ?_
 rintro e w2 ⟨rfl,hx2,h2⟩
 go_upto_region 2 with (fail)
 have h3:=li h2 (.cells #[.int .i64 c,.int .i64 p,.int .i64 b] 103)
 have hx3:=hx2.alloc (.cells #[.int .i64 c,.int .i64 p,.int .i64 b] 103)
 generalize w2.heap.size = gh at *
 generalize w2.alloc (.cells #[.int .i64 c,.int .i64 p,.int .i64 b] 103) = w3 at *
 clear h2 hx2 HHD HSN
 by_cases hf : f = 0
 ·subst hf
  have hgood:=HGD.out rfl
  have hE2:=HE.out
  unfold C6 at hE2
  rw [zq (by simp)] at hE2
  dsimp only at hE2
  have hbb:=hgood
  unfold lF at hbb
  obtain ⟨C,rfl⟩:=ze (show 0 <= c by omega)
  have c1 : 1 <= C:=by omega
  have c2 : C <= 32:=by omega
  rw [zn] at hE2
  have hND : yz (C : Int) p = 1 + (ls C : Int) + 4 * p:=by unfold yz; rw [zn]
  have hp0 : 0 <= p:=by omega
  have hr1 : 1 <= ls C:=by unfold ls; omega
  have hr4 : ls C <= 4:=by unfold ls; omega
  have HND:=zh (fun (R : List SL.HP) (w : World) (H : own w R)=>Ie (C : Int) p b hgood R w H)
  unfold lM at HND
  have HE2:=zh hE2
  have HNE:=zh hND
  clear hE2 hgood HGD hbb hND HE
  generalize hnd : yz (C : Int) p = nd at *
  have HNDE:=zh hnd
  clear hnd
  obtain ⟨vf,va,vw,h4⟩:=AL (lu 1 h3 rfl)
  obtain ⟨af,gf,cf,rfl,-,-,-,-,-,-,-⟩:=lk 1 h4 rfl
  by_cases hl : (d.fl.length : Int) < nd
  ·have hS : S = (1,MK d):=by rw [HE2.out,zt hl]
   have d0 : decide ((d.fl.length : Int) < nd) = true:=zg hl
   have HS:=zh hS
   clear hl hS
   go_upto_region 4 with (fail)
   have hd1:=lj h4
   go_region_held3 (fun w'=>w'.cell? ⟨gh,0,none⟩ = some (.int .i64 (C : Int)) /\ w'.cell? ⟨gh,1,none⟩ = some (.int .i64 p) /\ w'.cell? ⟨gh,2,none⟩ = some (.int .i64 b) /\ w'.cell? ⟨bd,0,none⟩ = some (.slice af d.fl.length cf)) (first | exact ⟨(ld 4 hd1 rfl).1 0,(ld 4 hd1 rfl).1 1,(ld 4 hd1 rfl).1 2,(ld 0 hd1 rfl).1 0⟩ | exact ⟨(ld 4 h5 rfl).1 0,(ld 4 h5 rfl).1 1,(ld 4 h5 rfl).1 2,(ld 0 h5 rfl).1 0⟩) ((go_at_call 130; refine (HND.out _ _ hd1).mono ?_; rintro e w5 ⟨rfl,hx5,h5⟩))
   have h6:=yA h5
   have hx6:=hx3.drew.trans hx5
   clear hd1 h4 h3 hx3 h5 hx5
   go_wp2_with fail
   go_ret2
   rw [HS.out]
   exact .inl ⟨by simp,rfl,hx6,lh 1 h6 rfl⟩
  ·have hS : S = K3 d (C : Int) p b (zU (C : Int) p b (ov d C)):=by rw [HE2.out,zq hl]
   have hge : 1 + (ls C : Int) + 4 * p <= d.fl.length:=by have:=HNE.out; omega
   have d0 : decide ((d.fl.length : Int) < nd) = false:=zf hl
   have HS:=zh hS
   have hrl : (ls C : Int) < d.fl.length:=by omega
   have HSZ:=zh (Ic hd hrl)
   have hTN:=DI (C : Int) p b (ov d C)
   have HTK:=zh (fun (q : Nat) (h : q < ls C)=>G2 d (C:=C) h)
   have HRL:=zh (It d C)
   have HRW:=zh (Bf C (by omega))
   have HSN:=zh (fun (q : Nat) (hq : q < ls C) (R : List SL.HP) (w : World) (H : own w (ln bd d::R))=>Eh bd d hd (1 + (q : Int)) (by omega) (by omega) R w H)
   clear hl hS hrl
   go_upto_region 4 with (fail)
   have hd1:=lj h4
   go_region_held3 (fun w'=>w'.cell? ⟨gh,0,none⟩ = some (.int .i64 (C : Int)) /\ w'.cell? ⟨gh,1,none⟩ = some (.int .i64 p) /\ w'.cell? ⟨gh,2,none⟩ = some (.int .i64 b) /\ w'.cell? ⟨bd,0,none⟩ = some (.slice af d.fl.length cf)) (first | exact ⟨(ld 4 hd1 rfl).1 0,(ld 4 hd1 rfl).1 1,(ld 4 hd1 rfl).1 2,(ld 0 hd1 rfl).1 0⟩ | exact ⟨(ld 4 h5 rfl).1 0,(ld 4 h5 rfl).1 1,(ld 4 h5 rfl).1 2,(ld 0 h5 rfl).1 0⟩) ((go_at_call 130; refine (HND.out _ _ hd1).mono ?_; rintro e w5 ⟨rfl,hx5,h5⟩))
   have h6:=yA h5
   have hx6:=hx3.drew.trans hx5
   clear hd1 h4 h3 hx3 h5 hx5
   obtain ⟨c0,f0⟩:=ld 1 h6 rfl
   have h7:=lv 9 1 h6
   go_wp2_with fail
   clear c0 f0
   go_loopw [6,7] (Ps (ln bd d::pts gh (.cells #[.int .i64 (C : Int),.int .i64 p,.int .i64 b] 103 (0,0))::R) d C w) (fun _ i _=>ls C - (intOf i).toNat)
   case atStart=>exact ⟨0,by omega,rfl,hx6,h7⟩
   case round=>
    obtain ⟨q,hq,rfl,hxr,hown⟩:=hrel
    clear h7 h6 hx6
    obtain ⟨cg,fg⟩:=ld 2 hown rfl
    by_cases hlt : q < ls C
    ·have hE:=HTK.out q hlt
     have HT2:=zh hE
     have e1 : IntKind.i64.wrap (1 + (q : Int)) = 1 + (q : Int):=zi _ (by omega)
     have hqN : (q : Int) < (ls C : Int):=by omega
     have HQ:=zh (HSN.out q hlt)
     clear hE
     generalize d.seen (1 + (q : Int)) = sq at *
     have hml : q + 1 <= maxLen:=by simp only [maxLen]; omega
     go_wp2_with fail
     refine (HRW.out wr).mono ?_
     rintro e w' ⟨rfl,rfl⟩
     go_wp2_with fail
     refine (HQ.out _ wr (lu 1 hown rfl)).mono ?_
     rintro e w' ⟨rfl,rfl⟩
     have ha2:=li hown (.cells #[.string sq] 9)
     go_wp2_with (first | (at_builtin; refine lD rfl _ _ 51 rfl 1 9 Tryz.underlying51 AO rfl (by decide) rfl ha2 rfl (some ⟨wr.heap.size,0,none⟩) 1 1 [.string sq] rfl rfl (ot wr [.string sq] _) (fun h=>by cases h) (Ni sq) hml (by omega) ?_))
     intro v' w6 h6' hx6
     have hx7:=(hxr.alloc (.cells #[.string sq] 9)).trans hx6
     have h7:=le h6'
     clear ha2 hown hxr hx6 h6'
     go_wp2_with fail
     go_roundw
     case rel=>exact ⟨q + 1,by omega,by go_num,hx7,by rw [HT2.out,Fq]; exact h7⟩
     case measure=>simp [intOf]; omega
    ·have hqe : q = ls C:=by omega
     subst hqe
     have htk : (ov d C).take (ls C) = ov d C:=List.take_of_length_le (by rw [HRL.out]; exact Nat.le_refl _)
     rw [htk] at hown
     obtain ⟨ao,g,cap,rfl,r1,r2,r3,-,-,-,-⟩:=lk 0 hown rfl
     obtain rfl:=r3 (by omega)
     have hr : (ov d C).length <= 1000:=by rw [HRL.out]; omega
     have HSR:=zh (fun w' (L : List SL.HP) (H : own w' (L++(row 9 1 (.slice (some ⟨g,0,none⟩) (ls C) cap) (ls C) (strCells (ov d C))::ln bd d::pts gh (.cells #[.int .i64 (C : Int),.int .i64 p,.int .i64 b] 103 (0,0))::R)))=>(by
      have h:=NN (L.length + 0) (l:=ov d C) (rest:=[]) H (Ec (l:=L) rfl) (by simp [strCells]) (fun s hs=>by have:=HSZ.out s hs; omega)
      rw [HRL.out] at h
      exact h : B6 w' (.slice (some ⟨g,0,none⟩) (ls C) cap) (ov d C)))
     have HS2:=HS.out
     generalize hT : zU (C : Int) p b (ov d C) = TF at *
     obtain ⟨T,F⟩:=TF
     have HTB:=zh (fun w' (H : own w' (row 9 1 (.slice (some ⟨g,0,none⟩) (ls C) cap) (ls C) (strCells (ov d C))::ln bd d::pts gh (.cells #[.int .i64 (C : Int),.int .i64 p,.int .i64 b] 103 (0,0))::R))=>O1 (C : Int) p b (.slice (some ⟨g,0,none⟩) (ls C) cap) (ov d C) T F hT hr _ w' HSR.out H)
     have HS3:=zh HS2
     unfold lM at HTB
     dsimp only at hTN
     clear hT HS2 HS HTK HSN htk r3 hr HSR hq hlt
     go_wp2_with fail
     refine (HRW.out wr).mono ?_
     rintro e w' ⟨rfl,rfl⟩
     go_wp2_with fail
     refine (HTB.out wr hown).mono ?_
     rintro e w6 ⟨vt,rfl,hx6',h6⟩
     obtain ⟨at_,gt,capt,rfl,-,-,-,-,-,-,-⟩:=lk 0 h6 rfl
     have hx7:=hxr.trans hx6'
     clear cg fg hown hxr hx6'
     obtain ⟨cg,fg⟩:=ld 3 h6 rfl
     by_cases hF : F = 0
     ·subst hF
      have h7:=li h6 (.cells #[.pointer (some ⟨bd,0,none⟩),.int .i64 (C : Int),.int .i64 p,.int .i64 b,.slice at_ T.length capt,.slice none 0 0] 152)
      go_wp2_with fail
      go_ret2
      rw [HS3.out]
      have h8:=yW (m:=⟨d,(C : Int),p,b,T,[]⟩) (lr [_,_] (lv 3 1 h7))
      exact .inr ⟨rfl,_,rfl,hx7.alloc _,lh 2 (lh 1 h8 rfl) rfl⟩
     ·have d1 : decide (0 < F) = true:=zg (by omega)
      have HF:=zh hF
      clear hF
      go_wp2_with fail
      go_ret2
      rw [HS3.out]
      exact .inl ⟨HF.out,rfl,hx7,lh 1 (lh 1 (lh 1 (lu 2 h6 rfl) rfl) rfl) rfl⟩
 ·have hpos : 0 < f:=by omega
  have hE2:=HE.out
  unfold C6 at hE2
  rw [zt (by simpa using hf)] at hE2
  have HS:=zh hE2
  have d0 : decide (0 < f) = true:=zg hpos
  clear hE2 HE hf HGD
  go_wp2_with fail
  go_ret2
  rw [HS.out]
  exact .inl ⟨by dsimp only; omega,rfl,hx3,lh 1 (lu 1 h3 rfl) rfl⟩
end Go.Proofs.YtbpblokfiajpjabGreatDoor
