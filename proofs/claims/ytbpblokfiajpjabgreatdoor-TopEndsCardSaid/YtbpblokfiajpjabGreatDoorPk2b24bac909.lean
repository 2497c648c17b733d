/- Lemmas on which TopEnds stands: the texts Image13 Image14 Image15 Image16 ImgP1 ImgP2 ImgP3 ImgP4 ImgP5 ImgP6 ImgP7. No conditions. -/
import Derived.Test.YtbpblokfiajpjabGreatDoorPk675a14c6cf
set_option linter.all false
set_option maxRecDepth 1000000
set_option maxHeartbeats 32000000
namespace Go.Proofs.YtbpblokfiajpjabGreatDoor
open Go.RowKit Go.SL Go.Crc
attribute [local go_sem ↓] Go.wp_at_zero Go.wp_at_succ
theorem Cl {l : List ByteArray} : ∀{d : DevM} {a : Int},d.Ok -> d.pend.length + l.length <= 1000000 -> d.writes + l.length <= 1000000 ->
  (d.puts a l).2.Ok /\ (d.puts a l).2.fl.length = d.fl.length /\ (d.puts a l).2.pend.length <= d.pend.length + l.length /\ (d.puts a l).2.writes <= d.writes + l.length:=by
 induction l with
 | nil=>intro d a h _ _; exact ⟨h,rfl,by simp [DevM.puts],by simp [DevM.puts]⟩
 | cons s l ih=>
  intro d a h hp hw
  simp only [List.length_cons] at hp hw ⊢
  have hok:=DevM.write_ok h a s (by omega) (by omega)
  obtain ⟨l1,l2,l3⟩:=oU d a s
  rw [DevM.puts]
  split
  ·exact ⟨hok,l1,by omega,by omega⟩
  ·obtain ⟨i1,i2,i3,i4⟩:=ih (a:=a + 1) hok (by omega) (by omega)
   exact ⟨i1,by omega,by omega,by omega⟩
theorem z8 {l : List ByteArray} : ∀{d : DevM} {a : Int},0 <= (d.puts a l).1:=by
 induction l with
 | nil=>intro d a; simp [DevM.puts]
 | cons s l ih=>
  intro d a
  rw [DevM.puts]
  split
  ·exact ow _ _ _
  ·exact ih
theorem GU {m : ImgM} (hm : m.Ok) {d : DevM} (hd : d.Ok) (hl : d.fl.length = m.d.fl.length) : ({ m with d:=d } : ImgM).flush.Ok:=
 ⟨DevM.flush_ok hd,hm.head,hm.t,hm.ents,hm.one,List.nodup_nil,(fun x hx=>by cases hx),(fun x hx=>by cases hx),by
  have:=hm.need
  simp only [ImgM.flush,DevM.flush,ob]
  omega⟩
def ImgM.fillAt (m : ImgM) (k : Nat) (s : ByteArray) (p : Int) : Int×ImgM:=
 if (m.d.puts (m.first p) (lv s 4)).1≠0 then ((m.d.puts (m.first p) (lv s 4)).1,{ m with d:=(m.d.puts (m.first p) (lv s 4)).2 })
 else ({ m with d:=(m.d.puts (m.first p) (lv s 4)).2 } : ImgM).flush.setE k (2,p)
def ImgM.fill (m : ImgM) (k : Int) (s : ByteArray) : Int×ImgM:=
 if m.there k = false \/ s.size≠64 then (1,m) else if m.kind k = 2 then (5,m) else if m.freeP < 0 then (6,m) else m.fillAt k.toNat s m.freeP
theorem AL (m : ImgM) {P : Nat} (hP : m.p = P) : m.freeP = -1 \/ ∃q : Nat,m.freeP = q /\ q < P /\ m.openB q = true /\ ∀j : Nat,j < q -> m.openB j = false:=by
 unfold ImgM.freeP
 rw [hP,zn]
 cases h : (List.range P).find? fun (q : Nat)=>m.openB q with
 | none=>exact .inl rfl
 | some q=>
  rw [List.find?_range_eq_some] at h
  exact .inr ⟨q,rfl,by simpa using h.2.1,h.1,fun j hj=>by simpa using h.2.2 j hj⟩
theorem Pn (b bd bh : Nat) (m : ImgM) (hm : m.Ok) (hp : m.d.pend.length < 999000) (hw : m.d.writes < 999000) (k : Int) (s : ByteArray) (hs : s.size <= 9223372036854775807) (R : List SL.HP) (w : World) (H : own w (lE b bd bh m::lt bd m.d::R)) :
  Calls Tryz.prog 67 #[.pointer (some ⟨b,0,none⟩),.int .i64 k,.string s] w fun e w'=>e = .returned (errV (m.fill k s).1) /\ Ext w w' /\ own w' (lE b bd bh (m.fill k s).2::lt bd (m.fill k s).2.d::R):=by
 have hth:=BV b bd bh m k _ w H
 cases ht : m.there k
 ·have e : m.fill k s = (1,m):=by unfold ImgM.fill; rw [zt (.inl ht)]
  rw [e]
  rw [ht] at hth
  have HT:=zh hth
  clear hth e ht
  go_enter Tryz.func67,Tryz.ntmps67
  go_wp2_with fail
  refine HT.out.mono ?_
  rintro e w' ⟨rfl,rfl⟩
  go_wp2_with fail
  go_ret
  exact ⟨rfl,zR _,H⟩
 ·rw [ht] at hth
  by_cases h64 : s.size = 64
  ·obtain ⟨k0,-,hkl⟩:=oN hm ht
   obtain ⟨n,rfl⟩:=ze k0
   rw [zn] at hkl
   have HT:=zh hth
   obtain ⟨C,hC,q1,q2,q3,q4,q5,q6,-⟩:=hm.nat
   obtain ⟨P,hP⟩:=ze q5
   have ts : ((s.size : Int) != 64) = false:=by simp [h64]
   obtain ⟨v,h⟩:=oR H
   obtain ⟨ao,g,cap,rfl,r1,r2,r3,-,-,r6,-⟩:=ll 1 h rfl
   obtain rfl:=r3 (by omega)
   have x1 : w.cell? ⟨g,n * 2,none⟩ = some (.int .i64 (m.kind n)):=r6 _ _ (lY hkl).1
   obtain ⟨c,f⟩:=la 0 h rfl
   have i1 : (0 : Int) <= (n : Int):=by omega
   have i2 : (n : Int) < (m.t.length : Int):=by omega
   have hS64:=zh h64
   by_cases h1 : m.kind n = 2
   ·have e : m.fill n s = (5,m):=by unfold ImgM.fill; rw [zq (by rw [ht,h64]; simp),zt h1]
    rw [e]
    rw [h1] at x1
    clear hth e ht r3 r6 h1 h64 hC q1 q2 q3 q4 q5 q6 hP
    go_enter Tryz.func67,Tryz.ntmps67
    go_wp2_with fail
    refine HT.out.mono ?_
    rintro e w' ⟨rfl,rfl⟩
    go_wp2_with fail
    go_ret
    exact ⟨rfl,zR _,H⟩
   ·have e : m.fill n s = if m.freeP < 0 then (6,m) else m.fillAt n s m.freeP:=by unfold ImgM.fill; rw [zq (by rw [ht,h64]; simp),zq h1,zn]
    have t1 : (m.kind n == 2) = false:=zb.2 h1
    generalize m.fill n s = S at *
    have HE:=zh e
    have hs64 : s.size <= 64:=by omega
    have lt32 : m.t.length <= 32:=by omega
    have hrange : ∀q : Nat,q < P -> lR (2,(q : Int)) m.p = true:=fun q hq=>by
     unfold lR
     rw [zt rfl,hP]
     simp only [Bool.and_eq_true,decide_eq_true_eq]
     omega
    have HRG:=zh hrange
    have HP:=zh hP
    have p40 : P <= 40:=by omega
    have HFI:=zh (fun (q : Nat) (hq : q < P)=>FW hm (y:=(q : Int)) (by omega) (by omega))
    clear hth e ht r3 r6 h1 h64 hC q1 q2 q3 q4 hrange
    generalize m.kind n = kd at *
    have HFR:=zh (Np b bd bh m hm _ w H)
    rcases AL m hP with hf | ⟨q,hf,hq,-,-⟩
    ·have hS : S = (6,m):=by rw [HE.out,zt (by omega)]
     have HS:=zh hS
     rw [hf] at HFR
     clear hS hf q5 q6 hP
     go_enter Tryz.func67,Tryz.ntmps67
     go_wp2_with fail
     refine HT.out.mono ?_
     rintro e w' ⟨rfl,rfl⟩
     go_wp2_with fail
     refine HFR.out.mono ?_
     rintro e w2 ⟨rfl,hx2,h2⟩
     go_wp2_with fail
     go_ret
     rw [HS.out]
     exact ⟨rfl,hx2,h2⟩
    ·have hS : S = m.fillAt n s q:=by rw [HE.out,zq (by omega),hf]
     have HS:=zh hS
     rw [hf] at HFR
     have hok:=HRG.out q hq
     obtain ⟨F0,F1⟩:=HFI.out q hq
     have HF1:=zh (fun (R : List SL.HP) (w : World) (H : own w (lE b bd bh m::R))=>Eo b bd bh m hm (q : Int) (by omega) (by omega) R w H)
     have hfa : m.fillAt n s q = if (m.d.puts (m.first q) (lv s 4)).1≠0 then ((m.d.puts (m.first q) (lv s 4)).1,{ m with d:=(m.d.puts (m.first q) (lv s 4)).2 }) else ({ m with d:=(m.d.puts (m.first q) (lv s 4)).2 } : ImgM).flush.setE n (2,(q : Int)):=rfl
     rw [hfa] at hS
     obtain ⟨P1,P2,P3,P4⟩:=Cl (l:=lv s 4) (a:=m.first q) hm.d (by simp [lv]; omega) (by simp [lv]; omega)
     have hnn:=z8 (l:=lv s 4) (d:=m.d) (a:=m.first q)
     have hcl : (lv s 4).length = 4:=by simp [lv]
     generalize m.first q = F at *
     generalize hres : m.d.puts F (lv s 4) = res at *
     have HRES:=zh hres
     have hd:=hm.d
     have HSS:=zh hS
     have hokm:=GU hm P1 P2
     have hfl:=fun (R : List SL.HP) (w : World) (H : own w (lE b bd bh m::lt bd res.2::R))=>Bf b bd bh { m with d:=res.2 } P1 R w H
     have HFL:=zh hfl
     have HST:=zh (fun (R : List SL.HP) (w : World) (H : own w (lE b bd bh ({ m with d:=res.2 } : ImgM).flush::lt bd res.2.flush::R))=>LJ b bd bh ({ m with d:=res.2 } : ImgM).flush hokm (show res.2.flush.writes < 1000000 by simp only [DevM.flush]; omega) (show res.2.flush.pend.length < 1000000 by simp [DevM.flush]) n hkl 2 (q : Int) hok R w H)
     generalize ({ m with d:=res.2 } : ImgM).flush.setE n (2,(q : Int)) = S2 at *
     clear hf hS HS hfa hcl hres hok q5 q6 hP hfl
     have i3 : (0 : Int) <= (q : Int):=by omega
     go_enter Tryz.func67,Tryz.ntmps67
     go_wp2_with fail
     refine HT.out.mono ?_
     rintro e w' ⟨rfl,rfl⟩
     go_wp2_with fail
     refine HFR.out.mono ?_
     rintro e w2 ⟨rfl,hx2,h2⟩
     clear c f x1 h
     go_wp2_with fail
     go_loopw [35] (OR (fun dk=>lE b bd bh m::lt bd dk::R) m.d F s 4 res w) (fun i _=>4 - (intOf i).toNat)
     case atStart=>exact ⟨0,m.d,by omega,rfl,by simpa using HRES.out,hd,by omega,by simp,hx2,h2⟩
     case round=>
      clear h2 hx2
      obtain ⟨j,dk,hj,rfl,hput,okd,hpk,hwk,hxr,hown⟩:=hrel
      by_cases hlt : j < 4
      ·rw [Ec s hlt] at hput
       have HPUT:=zh hput
       clear hput
       have b1 : (0 : Int) <= (j : Int) * 16:=by omega
       have b2 : (j : Int) * 16 <= ((j : Int) + 1) * 16:=by omega
       have b3 : ((j : Int) + 1) * 16 <= (s.size : Int):=by have:=hS64.out; omega
       have hsl : ∀wx : World,(Instr.slice 9 (.string s) (some (.int .i64 ((j : Int) * 16))) (some (.int .i64 (((j : Int) + 1) * 16))) none).run Tryz.prog wx = .ok (.string (lz s j)) wx:=fun wx=>by
        have:=run_slice_string (P:=Tryz.prog) wx 9 s .i64 .i64 ((j : Int) * 16) (((j : Int) + 1) * 16) Tryz.underlying9 b1 b2 b3
        rw [this,lz,show ((j : Int) * 16).toNat = j * 16 from by omega,show (((j : Int) + 1) * 16).toNat = (j + 1) * 16 from by omega]
       have hcs : (lz s j).size = 16:=by unfold lz; rw [ByteArray.size_extract]; have:=hS64.out; omega
       have e1 : IntKind.i64.wrap ((j : Int) * 16) = (j : Int) * 16:=zi _ (by omega)
       have e2 : IntKind.i64.wrap ((j : Int) + 1) = (j : Int) + 1:=zi _ (by omega)
       have e2' : IntKind.i64.wrap (((j : Int) + 1) * 16) = ((j : Int) + 1) * 16:=zi _ (by omega)
       have e4 : IntKind.i64.wrap (F + (j : Int)) = F + (j : Int):=zi _ (by omega)
       have hcode:=ow dk (F + (j : Int)) (lz s j)
       obtain ⟨l1,l2,l3⟩:=oU dk (F + (j : Int)) (lz s j)
       have okw:=DevM.write_ok okd (F + (j : Int)) (lz s j) (by omega) (by omega)
       have HW:=zh (fun (R : List SL.HP) (w : World) (H : own w (lt bd dk::R))=>Au bd dk okd (F + (j : Int)) (lz s j) (by omega) (by omega) (by omega) R w H)
       have hstep : dk.puts (F + (j : Int)) (lz s j::(lv s 4).drop (j + 1)) = if (dk.write (F + (j : Int)) (lz s j)).1≠0 then dk.write (F + (j : Int)) (lz s j) else (dk.write (F + (j : Int)) (lz s j)).2.puts (F + (j : Int) + 1) ((lv s 4).drop (j + 1)):=rfl
       rw [HPUT.out] at hstep
       have HSTP:=zh hstep
       clear hstep l1
       generalize dk.write (F + (j : Int)) (lz s j) = r at *
       generalize lz s j = ck at *
       obtain ⟨v,h⟩:=oR hown
       have hd1:=lj h
       go_upto_region 11 with (fail)
       go_region_held3 (fun w'=>w'.cell? ⟨b,0,none⟩ = some (.pointer (some ⟨bd,0,none⟩))) (first | exact (la 0 hd1 rfl).1 0 | exact (la 0 h4 rfl).1 0) (first | (go_at_call 171; refine (HF1.out _ _ (oJ hd1)).mono ?_; rintro e w' ⟨rfl,rfl⟩) | (go_at_call 160; refine (HW.out _ _ (lG 3 hd1 rfl)).mono ?_; rintro e w4 ⟨rfl,hx4,h4'⟩; have h4:=ot hd1 3 rfl h4'))
       have h5 : own w4 (lE b bd bh m::lt bd r.2::R):=oJ h4
       have hx5:=hxr.drew.trans hx4
       clear e1 e2 e2' e4 hsl h4 h4' hd1 h
       by_cases hz : r.1 = 0
       ·have HZ:=zh hz
        rw [hz,lL]
        clear hz
        go_wp2_with fail
        go_roundw
        case rel=>exact ⟨j + 1,r.2,by omega,by go_num,by have:=HSTP.out; rw [zq (by simpa using HZ.out)] at this; rw [this]; congr 1; omega,okw,by omega,by omega,hx5,h5⟩
        case measure=>simp [intOf]; omega
       ·have hfin : res = r:=by have:=HSTP.out; rw [zt hz] at this; exact this
        have hS2 : S = (r.1,{ m with d:=r.2 }):=by rw [HSS.out,hfin,zt hz]
        have HF:=zh hS2
        have hpz : 0 < r.1:=by omega
        have HPE:=zh (lu hpz)
        rw [lu hpz]
        clear hz hfin hS2
        go_wp2_with fail
        go_ret
        rw [HF.out]
        exact ⟨by rw [HPE.out]; rfl,hx5,h5⟩
      ·have hje : j = 4:=by omega
       subst hje
       rw [FG,DevM.puts] at hput
       have hr0 : res.1 = 0:=by rw [<- hput]
       have hr2 : res.2 = dk:=by rw [<- hput]
       have hS2 : S = S2:=by rw [HSS.out,zq (by simpa using hr0)]
       have HF:=zh hS2
       rw [<- hr2] at hown
       clear hput hlt hS2 hr0 hr2
       go_wp2_with fail
       refine (HFL.out _ wr hown).mono ?_
       rintro e w5 ⟨rfl,hx5,h5⟩
       go_wp2_with fail
       refine (HST.out _ w5 h5).mono ?_
       rintro e w6 ⟨rfl,hx6,h6⟩
       go_wp2_with fail
       go_ret
       rw [HF.out]
       exact ⟨rfl,(hxr.trans hx5).trans hx6,h6⟩
  ·have e : m.fill k s = (1,m):=by unfold ImgM.fill; rw [zt (.inr h64)]
   rw [e]
   have ts : ((s.size : Int) != 64) = true:=by rw [bne_iff_ne]; omega
   clear h64
   have HT:=zh hth
   clear hth e ht
   go_enter Tryz.func67,Tryz.ntmps67
   go_wp2_with fail
   refine HT.out.mono ?_
   rintro e w' ⟨rfl,rfl⟩
   go_wp2_with fail
   go_ret
   exact ⟨rfl,zR _,H⟩
def ImgM.link (m : ImgM) (k : Int) : Int×ImgM:=
 if lH m.c m.p k then (1,m)
 else if (m.d.flush.write 0 (lM m.c m.p k)).1≠0 then ((m.d.flush.write 0 (lM m.c m.p k)).1,{ m.flush with d:=(m.d.flush.write 0 (lM m.c m.p k)).2 })
 else (0,{ m.flush with d:=(m.d.flush.write 0 (lM m.c m.p k)).2.flush,b:=k })
theorem PD (b bd bh : Nat) (m : ImgM) (hm : m.Ok) (hw : m.d.writes < 999000) (k : Int) (R : List SL.HP) (w : World) (H : own w (lE b bd bh m::lt bd m.d::R)) :
  Calls Tryz.prog 186 #[.pointer (some ⟨b,0,none⟩),.int .i64 k] w fun e w'=>e = .returned (errV (m.link k).1) /\ Ext w w' /\ own w' (lE b bd bh (m.link k).2::lt bd (m.link k).2.d::R):=by
 obtain ⟨v,h⟩:=oR H
 obtain ⟨c,f⟩:=la 0 h rfl
 have e : m.link k = if lH m.c m.p k then (1,m) else if (m.d.flush.write 0 (lM m.c m.p k)).1≠0 then ((m.d.flush.write 0 (lM m.c m.p k)).1,{ m.flush with d:=(m.d.flush.write 0 (lM m.c m.p k)).2 })
  else (0,{ m.flush with d:=(m.d.flush.write 0 (lM m.c m.p k)).2.flush,b:=k }):=rfl
 generalize m.link k = S at *
 have HE:=zh e
 clear e
 go_enter Tryz.func186,Tryz.ntmps186
 go_upto_region 2 with (fail)
 have ha:=lf H (.cells #[.int .i64 m.c,.int .i64 m.p,.int .i64 m.b] 103)
 have hxa:=(zR w).alloc (.cells #[.int .i64 m.c,.int .i64 m.p,.int .i64 m.b] 103)
 clear c f h
 generalize w.heap.size = gh at *
 generalize w.alloc (.cells #[.int .i64 m.c,.int .i64 m.p,.int .i64 m.b] 103) = w1 at *
 obtain ⟨c,f⟩:=la 0 ha rfl
 go_upto_region 3 with (fail)
 have h1:=ln (i:=2) (v:=.int .i64 k) 0 ha rfl
 have hx1:=hxa.setCell ⟨gh,2,none⟩ (.int .i64 k)
 clear c f ha hxa
 generalize w1.setCell ⟨gh,2,none⟩ (.int .i64 k) = w2 at *
 replace h1 : own w2 (pts gh (.cells #[.int .i64 m.c,.int .i64 m.p,.int .i64 k] 103 (0,0))::lE b bd bh m::lt bd m.d::R):=h1
 obtain ⟨c,f⟩:=la 0 h1 rfl
 have hsz : (lM m.c m.p k).size = 16:=zv (xs:=[83,89,m.c,m.p,k + 1]) (by simp)
 by_cases hb : lH m.c m.p k
 ·have hS : S = (1,m):=by rw [HE.out,zt hb]
  have HS:=zh hS
  have hq:=DA m.c m.p k _ w2 h1
  rw [show Ai m.c m.p k = 1 from zt hb,zq (by decide)] at hq
  have HQ:=zh hq
  unfold oF at HQ
  clear hq hb hS
  go_wp2_with fail
  refine HQ.out.mono ?_
  rintro e w3 ⟨rfl,hx3,h3⟩
  rw [show errV 1 = .iface 128 (.int .i64 1) from rfl]
  go_wp2_with fail
  go_ret
  rw [HS.out]
  exact ⟨rfl,hx1.trans hx3,lg h3⟩
 ·have hE2 : S = if (m.d.flush.write 0 (lM m.c m.p k)).1≠0 then ((m.d.flush.write 0 (lM m.c m.p k)).1,{ m.flush with d:=(m.d.flush.write 0 (lM m.c m.p k)).2 })
   else (0,{ m.flush with d:=(m.d.flush.write 0 (lM m.c m.p k)).2.flush,b:=k }):=by rw [HE.out,zq hb]
  have HE2:=zh hE2
  have okf:=DevM.flush_ok hm.d
  have fw : m.d.flush.writes = m.d.writes:=rfl
  have fp : m.d.flush.pend.length = 0:=rfl
  have okw:=DevM.write_ok okf 0 (lM m.c m.p k) (by omega) (by omega)
  have hnn:=ow m.d.flush 0 (lM m.c m.p k)
  have HF:=zh (fun (R : List SL.HP) (w : World) (H : own w (lE b bd bh m::lt bd m.d::R))=>Bf b bd bh m hm.d R w H)
  have hq:=DA m.c m.p k _ w2 h1
  rw [show Ai m.c m.p k = 0 from zq hb,zt rfl,lL] at hq
  have HW:=zh (fun (R : List SL.HP) (w : World) (H : own w (lt bd m.d.flush::R))=>Au bd m.d.flush okf 0 (lM m.c m.p k) (by omega) (by omega) (by omega) R w H)
  have HQ:=zh hq
  unfold oF at HQ
  clear hq hb hE2 fw fp
  generalize m.d.flush.write 0 (lM m.c m.p k) = r at *
  have HF2:=zh (fun (R : List SL.HP) (w : World) (H : own w (lE b bd bh m.flush::lt bd r.2::R))=>Bf b bd bh { m.flush with d:=r.2 } okw R w H)
  generalize lM m.c m.p k = hs at *
  go_wp2_with fail
  refine HQ.out.mono ?_
  rintro e w3 ⟨rfl,hx3,h3⟩
  replace hx3:=hx1.trans hx3
  clear c f h1 hx1
  go_wp2_with fail
  refine (HF.out _ w3 (lD [_,_] h3)).mono ?_
  rintro e w4 ⟨rfl,hx4,h4⟩
  replace hx4:=hx3.trans hx4
  clear h3 hx3
  obtain ⟨v,h5⟩:=oR h4
  clear h4
  obtain ⟨c,f⟩:=la 0 h5 rfl
  go_wp2_with fail
  refine (HW.out _ w4 (lG 3 h5 rfl)).mono ?_
  rintro e w5 ⟨rfl,hx5,h6'⟩
  have h6:=ot h5 3 rfl h6'
  replace hx5:=hx4.trans hx5
  clear c f h5 h6' hx4
  by_cases hz : r.1 = 0
  ·have hS : S = (0,{ m.flush with d:=r.2.flush,b:=k }):=by rw [HE2.out,zq (by simpa using hz)]
   have HS:=zh hS
   rw [hz,lL]
   clear hz hS
   have h7 : own w5 (lE b bd bh m.flush::lt bd r.2::pts gh (.cells #[.int .i64 m.c,.int .i64 m.p,.int .i64 k] 103 (0,0))::R):=oJ h6
   clear h6
   go_wp2_with fail
   refine (HF2.out _ w5 h7).mono ?_
   rintro e w8 ⟨rfl,hx8,h8⟩
   replace hx8:=hx5.trans hx8
   obtain ⟨v2,h9⟩:=oR h8
   clear h7 h8 hx5
   obtain ⟨c,f⟩:=la 0 h9 rfl
   obtain ⟨c4,f4⟩:=la 4 h9 rfl
   go_wp2_with fail
   go_ret
   rw [HS.out]
   have h10:=ln (i:=3) (v:=.int .i64 k) 0 (ln (i:=2) (v:=.int .i64 m.p) 0 (ln (i:=1) (v:=.int .i64 m.c) 0 h9 rfl) rfl) rfl
   refine ⟨rfl,((hx8.setCell _ _).setCell _ _).setCell _ _,?_⟩
   have h11:=oJ (m:={ m.flush with d:=r.2.flush,b:=k }) h10
   exact le 2 h11 rfl
  ·have hS : S = (r.1,{ m.flush with d:=r.2 }):=by rw [HE2.out,zt hz]
   have HS:=zh hS
   have hpz : 0 < r.1:=by omega
   have HPE:=zh (lu hpz)
   rw [lu hpz]
   clear hz hS
   go_wp2_with fail
   go_ret
   rw [HS.out]
   have h11:=oJ (m:={ m.flush with d:=r.2 }) h6
   exact ⟨by rw [HPE.out]; rfl,hx5,le 2 h11 rfl⟩
theorem L4 {p : List (Int×ByteArray)} {a : Int} : ∀{s : ByteArray},s.size = 16 -> (∀x∈p,x.2.size = 16) -> (p.foldl (fun s x=>if x.1 = a then x.2 else s) s).size = 16:=by
 induction p with
 | nil=>intro s h _; exact h
 | cons x p ih=>
  intro s h hp
  rw [List.foldl_cons]
  refine ih ?_ fun y hy=>hp y (by simp [hy])
  split
  ·exact hp x (by simp)
  ·exact h
theorem CI {m : DevM} (hm : m.Ok) {a : Int} (h0 : 0 <= a) (h1 : a < m.fl.length) : (m.seen a).size = 16:=by
 unfold DevM.seen
 refine L4 (hm.fl _ ?_) fun x hx=>(hm.pend x hx).2.2
 simp [show a.toNat < m.fl.length by omega]
def ImgM.secs (m : ImgM) (y : Int) (q : Nat) : List ByteArray:=(List.range q).map fun (j : Nat)=>m.d.seen (m.first y + (j : Int))
def ImgM.read (m : ImgM) (k : Int) : ByteArray×Int:=
 if m.there k = true then (if m.kind k = 0 then (ByteArray.empty,4) else if m.kind k = 1 then (zs 64,0) else (cat (m.secs (ent m.t k.toNat).2 4),0)) else (ByteArray.empty,1)
theorem Ox (m : ImgM) (y : Int) (q : Nat) : cat (m.secs y (q + 1)) = cat (m.secs y q)++m.d.seen (m.first y + (q : Int)):=by
 unfold ImgM.secs
 rw [List.range_succ,List.map_append]
 apply Go.WideShapes.bytes_inj
 simp [cat,catL]
theorem B9 {m : ImgM} (hm : m.Ok) {k : Nat} (hk : k < m.t.length) : m.kind k = 0 \/ m.kind k = 1 \/ m.kind k = 2:=by
 have h:=Ad (hm.ents (ent m.t k) (by unfold ent; simp [hk]))
 have e : m.kind k = (ent m.t k).1:=rfl
 rw [e]
 omega
theorem zT {m : ImgM} (hm : m.Ok) {y : Int} (h0 : 0 <= y) (h1 : y < m.p) : m.first y + 4 <= m.d.fl.length:=by
 have:=hm.need
 unfold ImgM.first
 omega
theorem O3 (b bd bh : Nat) (m : ImgM) (hm : m.Ok) (k : Int) (R : List SL.HP) (w : World) (H : own w (lE b bd bh m::lt bd m.d::R)) :
  Calls Tryz.prog 153 #[.pointer (some ⟨b,0,none⟩),.int .i64 k] w fun e w'=>e = .returned (.tuple #[.string (m.read k).1,errV (m.read k).2]) /\ Ext w w' /\ own w' (lE b bd bh m::lt bd m.d::R):=by
 have hth:=BV b bd bh m k _ w H
 cases ht : m.there k
 ·have e : m.read k = (ByteArray.empty,1):=by unfold ImgM.read; rw [ht,zq (by decide)]
  rw [e]
  rw [ht] at hth
  have HT:=zh hth
  clear hth e ht
  go_enter Tryz.func153,Tryz.ntmps153
  go_wp2_with fail
  refine HT.out.mono ?_
  rintro e w' ⟨rfl,rfl⟩
  go_wp2_with fail
  go_ret2
  exact ⟨rfl,zR _,H⟩
 ·rw [ht] at hth
  obtain ⟨k0,-,hkl⟩:=oN hm ht
  obtain ⟨n,rfl⟩:=ze k0
  rw [zn] at hkl
  have HT:=zh hth
  obtain ⟨v,h⟩:=oR H
  obtain ⟨ao,g,cap,rfl,r1,r2,r3,-,-,r6,-⟩:=ll 1 h rfl
  obtain rfl:=r3 (by omega)
  have x1 : w.cell? ⟨g,n * 2,none⟩ = some (.int .i64 (m.kind n)):=r6 _ _ (lY hkl).1
  obtain ⟨c,f⟩:=la 0 h rfl
  have i1 : (0 : Int) <= (n : Int):=by omega
  have i2 : (n : Int) < (m.t.length : Int):=by omega
  rcases B9 hm hkl with h0 | h0 | h0
  ·have e : m.read n = (ByteArray.empty,4):=by unfold ImgM.read; rw [ht,zt rfl,zt h0]
   rw [e]
   rw [h0] at x1
   clear hth e ht r3 r6 h0
   go_enter Tryz.func153,Tryz.ntmps153
   go_wp2_with fail
   refine HT.out.mono ?_
   rintro e w' ⟨rfl,rfl⟩
   go_wp2_with fail
   go_ret2
   exact ⟨rfl,zR _,H⟩
  ·have e : m.read n = (zs 64,0):=by unfold ImgM.read; rw [ht,zt rfl,zq (by omega),zt h0]
   rw [e]
   rw [h0] at x1
   clear hth e ht r3 r6 h0
   go_enter Tryz.func153,Tryz.ntmps153
   go_wp2_with fail
   refine HT.out.mono ?_
   rintro e w' ⟨rfl,rfl⟩
   go_wp2_with fail
   refine (LO 64 (by omega) w).mono ?_
   rintro e w2 ⟨rfl,hb2⟩
   go_wp2_with fail
   go_ret2
   exact ⟨rfl,Ey hb2,D7 H hb2⟩
  ·have e : m.read n = (cat (m.secs (ent m.t n).2 4),0):=by unfold ImgM.read; rw [ht,zt rfl,zq (by omega),zq (by omega),zn]
   rw [e]
   rw [h0] at x1
   obtain ⟨y0,y1⟩:=yI hm hkl h0
   have hin:=zT hm y0 y1
   obtain ⟨C,hC,q1,q2,q3,q4,q5,q6,-⟩:=hm.nat
   obtain ⟨F0,F1⟩:=FW hm y0 (by omega)
   have HGET : Hid ((lP m.t)[n * 2 + 1]? = some (.int .i64 (ent m.t n).2)):=zh (lY (l:=m.t) hkl).2
   have HSEC:=zh (Ox m (ent m.t n).2)
   have HSZ:=zh (fun (q : Nat) (hq : q <= 4)=>show (cat (m.secs (ent m.t n).2 q)).size = q * 16 from by
    have:=BL (l:=m.secs (ent m.t n).2 q) (k:=16) fun s hs=>by
     simp only [ImgM.secs,List.mem_map,List.mem_range] at hs
     obtain ⟨j,hj,rfl⟩:=hs
     exact CI hm.d (by omega) (by omega)
    simp [ImgM.secs] at this
    simpa [cat,ByteArray.size,ImgM.secs] using this)
   have HSS:=zh (fun (q : Nat) (hq : q < 4)=>CI hm.d (a:=m.first (ent m.t n).2 + (q : Int)) (by omega) (by omega))
   have hd:=hm.d
   have hl2 : m.d.fl.length <= 200:=hd.n
   have HFI:=zh (fun (R : List SL.HP) (w : World) (H : own w (lE b bd bh m::R))=>Eo b bd bh m hm (ent m.t n).2 y0 (by omega) R w H)
   have hc0 : cat (m.secs (ent m.t n).2 0) = ⟨#[]⟩:=rfl
   have HC0:=zh hc0
   generalize hcq : (fun q=>cat (m.secs (ent m.t n).2 q)) = CQ at *
   have hcq' : ∀q,cat (m.secs (ent m.t n).2 q) = CQ q:=fun q=>by rw [<- hcq]
   simp only [hcq'] at HSEC HSZ HC0 ⊢
   clear hcq hcq' hc0
   generalize (ent m.t n).2 = y at *
   generalize m.first y = F at *
   clear hth e ht r3 r6 h0 hC q1 q2 q3 q4 q5 q6
   go_enter Tryz.func153,Tryz.ntmps153
   go_wp2_with fail
   refine HT.out.mono ?_
   rintro e w' ⟨rfl,rfl⟩
   go_wp2_with fail
   go_loopw [6,29] (fun s i wr=>∃q : Nat,q <= 4 /\ i = .int .i64 q /\ s = .string (CQ q) /\ Ext w wr /\ own wr (lE b bd bh m::lt bd m.d::R)) (fun _ i _=>4 - (intOf i).toNat)
   case atStart=>exact ⟨0,by omega,rfl,by rw [HC0.out],zR _,H⟩
   case round=>
    clear c f x1 h
    obtain ⟨q,hq,rfl,rfl,hxr,hown⟩:=hrel
    by_cases hlt : q < 4
    ·have hz:=HSZ.out q (by omega)
     have hss:=HSS.out q hlt
     have hsec:=HSEC.out q
     have e4 : IntKind.i64.wrap (F + (q : Int)) = F + (q : Int):=zi _ (by omega)
     have hg0 : 0 <= F + (q : Int):=by omega
     have hg1 : F + (q : Int) < m.d.fl.length:=by omega
     obtain ⟨v,h⟩:=oR hown
     obtain ⟨ao2,g2,cap2,rfl,-,-,t3,-,-,t6,-⟩:=ll 1 h rfl
     obtain rfl:=t3 (by omega)
     clear t3 t6
     have hd1:=lj h
     have HSEQ:=zh hsec
     clear hsec
     have HRD:=zh (fun (R : List SL.HP) (w : World) (H : own w (lt bd m.d::R))=>Pe bd m.d hd (F + (q : Int)) R w H)
     rw [zq (show ¬(F + (q : Int) < 0 \/ (m.d.fl.length : Int) <= F + (q : Int)) by omega)] at HRD
     generalize m.d.seen (F + (q : Int)) = sq at *
     generalize CQ q = cq at *
     go_upto_region 12 with (fail)
     go_region_held3 (fun w'=>w'.cell? ⟨b,0,none⟩ = some (.pointer (some ⟨bd,0,none⟩)) /\ w'.cell? ⟨b,4,none⟩ = some (.slice (some ⟨g2,0,none⟩) m.t.length cap2) /\ w'.cell? ⟨g2,n * 2 + 1,none⟩ = some (.int .i64 y)) (exact ⟨(la 0 hd1 rfl).1 0,(la 0 hd1 rfl).1 4,(l8 1 hd1 rfl).1 _ _ HGET.out⟩) (first | (go_at_call 171; refine (HFI.out _ _ (oJ hd1)).mono ?_; rintro e w' ⟨rfl,rfl⟩) | (go_at_call 96; refine (HRD.out _ _ (lG 3 hd1 rfl)).mono ?_; rintro e w' ⟨rfl,rfl⟩))
     have h5 : own _ (lE b bd bh m::lt bd m.d::R):=oJ hd1
     have hx5:=hxr.drew
     clear e4 hd1 h
     go_wp2_with fail
     go_roundw
     case rel=>exact ⟨q + 1,by omega,by go_num,by rw [HSEQ.out],hx5,h5⟩
     case measure=>simp [intOf]; omega
    ·have hqe : q = 4:=by omega
     subst hqe
     go_wp2_with fail
     go_ret2
     exact ⟨rfl,hxr,hown⟩
def Bl (d : DevM) (c p b : Int) : Prop:=lH c p b \/ (d.fl.length : Int) < zL c p
instance (d : DevM) (c p b : Int) : Decidable (Bl d c p b):=by unfold Bl; infer_instance
def fitF (d : DevM) (c p b : Int) : Int:=if Bl d c p b then 1 else 0
theorem OY (bd : Nat) (d : DevM) (hd : d.Ok) (c p b : Int) (R : List SL.HP) (w : World) (H : own w (lt bd d::R)) :
  Calls Tryz.prog 155 #[.pointer (some ⟨bd,0,none⟩),oF c p b] w fun e w'=>e = .returned (errV (fitF d c p b)) /\ Ext w w' /\ own w' (lt bd d::R):=by
 have ha:=lf H (.cells #[.int .i64 c,.int .i64 p,.int .i64 b] 103)
 have hxa:=(zR w).alloc (.cells #[.int .i64 c,.int .i64 p,.int .i64 b] 103)
 obtain ⟨F,hF⟩ : ∃F,F = fitF d c p b:=⟨_,rfl⟩
 rw [<- hF]
 have HF:=zh hF
 clear hF
 have hq:=AQ c p b _ _ ha
 by_cases hb : lH c p b
 ·have hS : F = 1:=by rw [HF.out,fitF,zt (.inl hb)]
  rw [show Ai c p b = 1 from zt hb] at hq
  have HQ:=zh hq
  have HS:=zh hS
  unfold oF at HQ
  unfold oF
  clear hq hb hS
  go_enter Tryz.func155,Tryz.ntmps155
  go_upto_region 1 with (fail)
  obtain ⟨cc,ff⟩:=la 0 ha rfl
  generalize w.heap.size = g at *
  generalize w.alloc (.cells #[.int .i64 c,.int .i64 p,.int .i64 b] 103) = w1 at *
  go_wp2_with fail
  refine HQ.out.mono ?_
  rintro e w2 ⟨rfl,hx2,h2⟩
  rw [show errV 1 = .iface 128 (.int .i64 1) from rfl]
  go_wp2_with fail
  go_ret
  rw [HS.out]
  exact ⟨rfl,hxa.trans hx2,lg h2⟩
 ·rw [show Ai c p b = 0 from zq hb,lL] at hq
  have HQ:=zh hq
  have HN:=zh (fun (R : List SL.HP) (w : World) (H : own w R)=>Kt c p b hb R w H)
  have hE : F = if (d.fl.length : Int) < zL c p then 1 else 0:=by
   rw [HF.out]
   unfold fitF
   by_cases h : (d.fl.length : Int) < zL c p
   ·rw [zt (show Bl d c p b from .inr h),zt h]
   ·rw [zq (show ¬Bl d c p b from fun h'=>h'.elim hb h),zq h]
  have HE:=zh hE
  unfold oF at HQ HN
  unfold oF
  clear hq hb hE
  generalize zL c p = nd at *
  go_enter Tryz.func155,Tryz.ntmps155
  go_upto_region 1 with (fail)
  obtain ⟨cc,ff⟩:=la 0 ha rfl
  generalize w.heap.size = g at *
  generalize w.alloc (.cells #[.int .i64 c,.int .i64 p,.int .i64 b] 103) = w1 at *
  go_wp2_with fail
  refine HQ.out.mono ?_
  rintro e w2 ⟨rfl,hx2,h2⟩
  clear cc ff
  obtain ⟨cc,ff⟩:=la 0 h2 rfl
  go_wp2_with fail
  refine (HN.out _ w2 h2).mono ?_
  rintro e w3 ⟨rfl,hx3,h3⟩
  go_wp2_with fail
  refine (JZ bd d _ w3 (lG 1 h3 rfl)).mono ?_
  rintro e w4 ⟨rfl,rfl⟩
  have hx4:=(hxa.trans hx2).trans hx3
  by_cases h : (d.fl.length : Int) < nd
  ·have hS : F = 1:=by rw [HE.out,zt h]
   have HS:=zh hS
   have d0 : decide ((d.fl.length : Int) < nd) = true:=zg h
   clear h hS
   go_wp2_with fail
   go_ret
   rw [HS.out]
   exact ⟨rfl,hx4,lg h3⟩
  ·have hS : F = 0:=by rw [HE.out,zq h]
   have HS:=zh hS
   have d0 : decide ((d.fl.length : Int) < nd) = false:=zf h
   clear h hS
   go_wp2_with fail
   go_ret
   rw [HS.out]
   exact ⟨rfl,hx4,lg h3⟩
def ly (c : Int) : List Ent:=List.replicate c.toNat (0,0)
def l4 (t : List Ent) : List ByteArray:=(List.range (lA t.length)).map fun (k : Nat)=>(lS t k).1
def l5 (d : DevM) (c p b : Int) : ImgM:=⟨d,c,p,b,ly c,[]⟩
def oa (d : DevM) (c p b : Int) : Int×ImgM:=
 if Bl d c p b then (1,l5 d c p b)
 else if (d.puts 1 (l4 (ly c))).1≠0 then ((d.puts 1 (l4 (ly c))).1,l5 (d.puts 1 (l4 (ly c))).2 c p b)
 else if ((d.puts 1 (l4 (ly c))).2.flush.write 0 (lM c p b)).1≠0 then (((d.puts 1 (l4 (ly c))).2.flush.write 0 (lM c p b)).1,l5 ((d.puts 1 (l4 (ly c))).2.flush.write 0 (lM c p b)).2 c p b)
 else (0,l5 ((d.puts 1 (l4 (ly c))).2.flush.write 0 (lM c p b)).2.flush c p b)
def O8 (bd : Nat) (S : Int×ImgM) (R : List SL.HP) (w : World) (e : Ending) (w' : World) : Prop:=
 (S.1≠0 /\ e = .returned (.tuple #[.pointer none,errV S.1]) /\ Ext w w' /\ own w' (lt bd S.2.d::R)) \/
 (S.1 = 0 /\ ∃bi bh,e = .returned (.tuple #[.pointer (some ⟨bi,0,none⟩),.nilIface]) /\ Ext w w' /\ own w' (lE bi bd bh S.2::lt bd S.2.d::R))
theorem DY (n : Nat) : (madeCells #[.int .i64 0,.int .i64 0] (n * 2)).toList = lP (List.replicate n (0,0)):=by
 induction n with
 | zero=>simp [madeCells,lP]
 | succ n ih=>
  rw [List.replicate_succ',Ij,<- ih]
  unfold madeCells
  rw [show (n + 1) * 2 = n * 2 + 1 + 1 by omega]
  simp [Array.range_succ,lP,Nat.add_mod]
end Go.Proofs.YtbpblokfiajpjabGreatDoor
namespace Go.Proofs.YtbpblokfiajpjabGreatDoor
open Go.RowKit Go.SL Go.Crc
theorem L0 {xs : List Int} {i : Nat} {x : Int} (hx : xs[i]? = some x) (h0 : 0 <= x) (h1 : x <= 255) : bt (strOfNums xs) i = x:=by
 have e : (strOfNums xs).data.toList[i]? = some (UInt8.ofNat x.toNat):=by
  simp only [strOfNums,List.getElem?_map,hx]
  rfl
 unfold bt
 rw [List.getD_eq_getElem?_getD,e]
 simp
 omega
theorem KS {l : List Ent} : ∀{k : Nat},k < l.length -> (yx l)[2 * k]? = some (ent l k).1 /\ (yx l)[2 * k + 1]? = some (ent l k).2:=by
 induction l with
 | nil=>intro k h; simp at h
 | cons x l ih=>
  intro k h
  cases k with
  | zero=>simp [yx,ent]
  | succ k=>
   have:=ih (k:=k) (by simpa using h)
   have e2 : 2 * (k + 1) = 2 * k + 2:=by omega
   simp only [yx,List.flatMap_cons,e2,ent] at this ⊢
   simpa using this
theorem Fb {t : List Ent} {k : Nat} (h : k < t.length) : ent t k = t[k]:=by simp [ent,h]
theorem zj {t : List Ent} {k : Nat} (h : k < t.length) : ent t k∈t:=by rw [Fb h]; exact List.getElem_mem h
theorem EV {t : List Ent} {k : Nat} (h : t.length <= k) : ent t k = (0,0):=by simp [ent,h]
theorem Oe {l : List Ent} (hl : l.length = 8) (hv : ∀e∈l,lR e 40 = true) : Gg (strOfNums (yx l)) = l:=by
 apply List.ext_getElem
 ·simp [Gg,hl]
 ·intro i h1 h2
  have hm:=Ad (hv l[i] (List.getElem_mem h2))
  obtain ⟨g1,g2⟩:=KS (l:=l) (k:=i) h2
  rw [Fb h2] at g1 g2
  simp only [Gg,List.getElem_map,List.getElem_range,sEnt]
  rw [L0 g1 (by omega) (by omega),L0 g2 (by omega) (by omega)]
def Uniq (t : List Ent) : Prop:=∀i j : Nat,i < t.length -> j < t.length -> (ent t i).1 = 2 -> ent t i = ent t j -> i = j
def oc (t : List Ent) (r : Nat) : ByteArray:=strOfNums (yx (oK t r))
theorem B3 (t : List Ent) (r : Nat) : (oc t r).size = 16:=by
 unfold oc
 rw [strOfNums_size,C1,zZ]
theorem DV {P : Int} (hP : P <= 40) {t : List Ent} (hv : ∀e∈t,lR e P = true) (r : Nat) : ∀e∈oK t r,lR e 40 = true:=by
 intro e he
 simp only [oK,List.mem_map,List.mem_range] at he
 obtain ⟨k,hk,rfl⟩:=he
 by_cases h : 8 * r + k < t.length
 ·exact DB (hv _ (zj h)) hP
 ·rw [show t.getD (8 * r + k) (0,0) = (0,0) from EV (by omega)]
  rfl
theorem FX {P : Int} (hP : P <= 40) {t : List Ent} (hl : t.length <= 32) (hv : ∀e∈t,lR e P = true) {r : Nat} (hr : r < lA t.length) : lS t (r : Int) = (oc t r,0):=by
 refine F4 (by unfold zy; omega) fun k hk=>DV hP hv r _ ?_
 simp only [oK,List.mem_map,List.mem_range]
 exact ⟨k,hk,rfl⟩
theorem DevM.write_cases (d : DevM) (a : Int) (s : ByteArray) :
  ((d.write a s).1 = 0 /\ (d.write a s).2.pend = d.pend++[(a,s)] /\ (d.write a s).2.fl = d.fl) \/ ((d.write a s).1≠0 /\ (d.write a s).2.pend = d.pend /\ (d.write a s).2.fl = d.fl):=by
 unfold DevM.write
 split
 ·exact .inr ⟨by simp,rfl,rfl⟩
 ·split
  ·exact .inr ⟨by simp,rfl,rfl⟩
  ·exact .inl ⟨rfl,rfl,rfl⟩
theorem DevM.puts_cases : ∀(l : List ByteArray) (d : DevM) (a : Int),(d.puts a l).2.fl = d.fl /\ ∃q,(d.puts a l).2.pend = d.pend++q /\ (∀x∈q,a <= x.1 /\ x.1 < a + l.length) /\
  (∃j,j <= l.length /\ q = (List.range j).map (fun (i : Nat)=>(a + (i : Int),l.getD i ByteArray.empty)) /\ ((d.puts a l).1 = 0 -> j = l.length)):=by
 intro l
 induction l with
 | nil=>intro d a; exact ⟨rfl,[],by simp [DevM.puts],by simp,0,by simp,rfl,fun _=>rfl⟩
 | cons s l ih=>
  intro d a
  rw [DevM.puts]
  rcases DevM.write_cases d a s with ⟨h1,h2,h3⟩ | ⟨h1,h2,h3⟩
  ·rw [zq (by simpa using h1)]
   obtain ⟨i1,q,i2,i3,j,j1,j2,j3⟩:=ih (d.write a s).2 (a + 1)
   refine ⟨i1.trans h3,(a,s)::q,by rw [i2,h2]; simp,fun x hx=>?_,j + 1,by simpa using j1,?_,fun h=>by simpa using j3 h⟩
   ·simp only [List.length_cons]
    rcases List.mem_cons.1 hx with rfl | hx
    ·dsimp only; omega
    ·have:=i3 x hx; omega
   ·rw [List.range_succ_eq_map,List.map_cons,List.map_map,j2]
    simp only [List.getD_cons_zero,Function.comp_def,List.getD_cons_succ]
    congr 1
    ·simp
    ·exact List.map_congr_left fun i _=>by simp; omega
  ·rw [zt h1]
   exact ⟨h3,[],by rw [h2]; simp,by simp,0,by simp,rfl,fun h=>absurd h h1⟩
theorem MG {p : List (Int×ByteArray)} {a : Int} : ∀{s : ByteArray},p.foldl (fun s x=>if x.1 = a then x.2 else s) s = s \/ (a,p.foldl (fun s x=>if x.1 = a then x.2 else s) s)∈p:=by
 induction p with
 | nil=>intro s; exact .inl rfl
 | cons x p ih=>
  intro s
  rw [List.foldl_cons]
  rcases ih (s:=if x.1 = a then x.2 else s) with h | h
  ·rw [h]
   by_cases hx : x.1 = a
   ·rw [zt hx]; exact .inr (by rw [<- hx]; simp)
   ·rw [zq hx]; exact .inl rfl
  ·exact .inr (List.mem_cons_of_mem _ h)
theorem F8 {p : List (Int×ByteArray)} : ∀{f : List ByteArray} {i : Nat},(∀x∈p,0 <= x.1) -> i < f.length ->
  (p.foldl BG f).getD i ByteArray.empty = p.foldl (fun s x=>if x.1 = (i : Int) then x.2 else s) (f.getD i ByteArray.empty):=by
 induction p with
 | nil=>intro f i _ _; rfl
 | cons x p ih=>
  intro f i hx hi
  rw [List.foldl_cons,List.foldl_cons,ih (fun y hy=>hx y (by simp [hy])) (by simpa [BG] using hi)]
  congr 1
  have h0:=hx x (by simp)
  unfold BG
  by_cases h : x.1 = (i : Int)
  ·rw [zt h,show x.1.toNat = i by omega,List.getD_eq_getElem?_getD,List.getElem?_set_self hi]
   rfl
  ·rw [zq h,List.getD_eq_getElem?_getD,List.getElem?_set_ne (by omega),List.getD_eq_getElem?_getD]
theorem zu {d : DevM} {a : Int} (h : ∀x∈d.pend,x.1≠a) : d.seen a = d.fl.getD a.toNat ByteArray.empty:=by
 unfold DevM.seen
 generalize d.fl.getD a.toNat ByteArray.empty = s
 generalize d.pend = p at h
 induction p with
 | nil=>rfl
 | cons x p ih=>rw [List.foldl_cons,zq (h x (by simp))]; exact ih fun y hy=>h y (by simp [hy])
theorem Dx {d d' : DevM} {q : List (Int×ByteArray)} (hf : d'.fl = d.fl) (hp : d'.pend = d.pend++q) (a : Int) : d'.seen a = q.foldl (fun s x=>if x.1 = a then x.2 else s) (d.seen a):=by
 unfold DevM.seen
 rw [hf,hp,List.foldl_append]
theorem zJ {d d' : DevM} {q : List (Int×ByteArray)} (hf : d'.fl = d.fl) (hp : d'.pend = d.pend++q) {a : Int} (h : ∀x∈q,x.1≠a) : d'.seen a = d.seen a:=by
 rw [Dx hf hp]
 generalize d.seen a = s
 clear hp
 induction q with
 | nil=>rfl
 | cons x q ih=>rw [List.foldl_cons,zq (h x (by simp))]; exact ih fun y hy=>h y (by simp [hy])
theorem AY {d : DevM} (hd : d.Ok) {i : Nat} (hi : i < d.fl.length) : d.flush.fl.getD i ByteArray.empty = d.seen (i : Int):=by
 unfold DevM.flush
 dsimp only
 rw [F8 (fun x hx=>(hd.pend x hx).1) hi]
 rfl
theorem B8 {d : DevM} (hd : d.Ok) {i : Nat} (hi : i < d.fl.length) : d.flush.seen (i : Int) = d.seen (i : Int):=by
 rw [zu (d:=d.flush) (fun x hx=>by cases hx),zn,AY hd hi]
def Sub (P : Int) (u t : List Ent) : Prop:=t.length = u.length /\ ∀k,k < u.length -> lR (ent t k) P = true /\ ((ent t k).1 = 2 -> ent t k = ent u k)
theorem Sub.ents {P : Int} {u t : List Ent} (h : Sub P u t) : ∀e∈t,lR e P = true:=fun e he=>by
 obtain ⟨k,hk,rfl⟩:=List.getElem_of_mem he
 rw [<- Fb hk]
 exact (h.2 k (by rw [<- h.1]; exact hk)).1
theorem Sub.self {P : Int} {t : List Ent} (h : ∀e∈t,lR e P = true) : Sub P t t:=⟨rfl,fun k hk=>⟨h _ (zj hk),fun _=>rfl⟩⟩
theorem Sub.mono {P : Int} {u u' t : List Ent} (h : Sub P u t) (hl : u'.length = u.length) (hu : ∀k,k < u.length -> (ent t k).1 = 2 -> ent u' k = ent u k) : Sub P u' t:=
 ⟨h.1.trans hl.symm,fun k hk=>⟨(h.2 k (by omega)).1,fun h2=>((h.2 k (by omega)).2 h2).trans (hu k (by omega) h2).symm⟩⟩
structure Safe (m : ImgM) (u : List Ent) : Prop where
 ulen : u.length = m.t.length
 uok : ∀e∈u,lR e m.p = true
 uuniq : Uniq u
 hd : m.d.fl.getD 0 ByteArray.empty = lM m.c m.p m.b
 nohd : ∀x∈m.d.pend,x.1≠0
 rows : ∀r : Nat,r < lA m.t.length -> ∀s,(s = m.d.fl.getD (1 + r) ByteArray.empty \/ (1 + (r : Int),s)∈m.d.pend) -> ∃t',Sub m.p u t' /\ s = oc t' r
 cur : Sub m.p u m.t
 see : ∀r : Nat,r < lA m.t.length -> m.d.seen (1 + (r : Int)) = oc m.t r
theorem yr {C k : Nat} (h : k < C) : k / 8 < lA C:=by unfold lA; omega
theorem Safe.data {m : ImgM} {u : List Ent} (h : Safe m u) {d' : DevM} {q : List (Int×ByteArray)} (hf : d'.fl = m.d.fl) (hp : d'.pend = m.d.pend++q) (hq : ∀x∈q,1 + (lA m.t.length : Int) <= x.1) : Safe { m with d:=d' } u:=
 ⟨h.ulen,h.uok,h.uuniq,by dsimp only; rw [hf]; exact h.hd,fun x hx=>by
   dsimp only at hx
   rw [hp] at hx
   rcases List.mem_append.1 hx with h' | h'
   ·exact h.nohd x h'
   ·have:=hq x h'; omega,
  fun r hr s hs=>by
   dsimp only at hs hr
   rw [hf,hp] at hs
   refine h.rows r hr s (hs.imp id fun h'=>?_)
   rcases List.mem_append.1 h' with h'' | h''
   ·exact h''
   ·have:=hq _ h''; dsimp only at this; omega,
  h.cur,fun r hr=>by
   dsimp only at hr ⊢
   rw [zJ hf hp fun x hx=>by have:=hq x hx; omega]
   exact h.see r hr⟩
theorem Safe.uni {m : ImgM} {u u' : List Ent} (h : Safe m u) (hl : u'.length = u.length) (ho : ∀e∈u',lR e m.p = true) (hu' : Uniq u') (hu : ∀k,k < u.length -> (ent u k).1 = 2 -> ent u' k = ent u k) : Safe m u':=
 have key : ∀t,Sub m.p u t -> Sub m.p u' t:=fun t ht=>ht.mono hl fun k hk h2=>hu k hk ((ht.2 k hk).2 h2 ▸ h2)
 ⟨hl.trans h.ulen,ho,hu',h.hd,h.nohd,fun r hr s hs=>let ⟨t',a,b⟩:=h.rows r hr s hs; ⟨t',key _ a,b⟩,key _ h.cur,h.see⟩
theorem Safe.flush {m : ImgM} {u : List Ent} (hm : m.Ok) (h : Safe m u) : Safe m.flush m.t:=by
 have hneed:=hm.need
 have ht:=hm.t
 obtain ⟨C,hC,q1,q2,q3,q4,q5,q6,-⟩:=hm.nat
 have hcn : m.c.toNat = m.t.length:=by omega
 rw [hcn] at hneed
 refine ⟨rfl,hm.ents,hm.one,?_,(fun x hx=>by cases hx),fun r hr s hs=>?_,Sub.self hm.ents,fun r hr=>?_⟩
 ·have:=AY hm.d (i:=0) (by omega)
  show m.d.flush.fl.getD 0 ByteArray.empty = lM m.c m.p m.b
  rw [this]
  exact (zu h.nohd).trans h.hd
 ·have hr' : r < lA m.t.length:=hr
  refine ⟨m.t,Sub.self hm.ents,?_⟩
  rcases hs with hs | hs
  ·rw [hs]
   show m.d.flush.fl.getD (1 + r) ByteArray.empty = _
   rw [AY hm.d (i:=1 + r) (by omega),show ((1 + r : Nat) : Int) = 1 + (r : Int) by omega]
   exact h.see r hr'
  ·cases hs
 ·have hr' : r < lA m.t.length:=hr
  show m.d.flush.seen (1 + (r : Int)) = _
  have:=B8 hm.d (i:=1 + r) (by omega)
  rw [show ((1 + r : Nat) : Int) = 1 + (r : Int) by omega] at this
  rw [this]
  exact h.see r hr'
theorem Ab {t : List Ent} {k j : Nat} {e : Ent} (hk : k < t.length) : ent (t.set k e) j = if j = k then e else ent t j:=by
 unfold ent
 by_cases h : j = k
 ·subst h; rw [zt rfl,List.getD_eq_getElem?_getD,List.getElem?_set_self hk]; rfl
 ·rw [zq h,List.getD_eq_getElem?_getD,List.getElem?_set_ne (by omega),List.getD_eq_getElem?_getD]
theorem KV {t : List Ent} {k : Nat} {e : Ent} (hk : k < t.length) {r : Nat} (hr : r≠k / 8) : oK (t.set k e) r = oK t r:=by
 unfold oK
 refine List.map_congr_left fun j hj=>?_
 have:=List.mem_range.1 hj
 have h:=Ab (t:=t) (e:=e) (j:=8 * r + j) hk
 rw [zq (by omega)] at h
 exact h
theorem Ck {m : ImgM} (hm : m.Ok) {k : Nat} (hk : k < m.t.length) {e : Ent} (he : lR e m.p = true) :
  m.setE k e = if (m.d.write (1 + ((k / 8 : Nat) : Int)) (oc (m.t.set k e) (k / 8))).1≠0 then ((m.d.write (1 + ((k / 8 : Nat) : Int)) (oc (m.t.set k e) (k / 8))).1,{ m with d:=(m.d.write (1 + ((k / 8 : Nat) : Int)) (oc (m.t.set k e) (k / 8))).2 })
  else (0,{ m with d:=(m.d.write (1 + ((k / 8 : Nat) : Int)) (oc (m.t.set k e) (k / 8))).2,t:=m.t.set k e,held:=if (ent m.t k).1 = 2 then m.held++[(ent m.t k).2] else m.held }):=by
 obtain ⟨C,hC,q1,q2,q3,q4,q5,q6,-⟩:=hm.nat
 have hr : lS (m.t.set k e) ((k / 8 : Nat) : Int) = (oc (m.t.set k e) (k / 8),0):=FX q6 (by simp; omega) (fun x hx=>by
  rcases List.mem_or_eq_of_mem_set hx with h | h
  ·exact hm.ents x h
  ·rw [h]; exact he) (by rw [List.length_set]; exact yr hk)
 unfold ImgM.setE
 rw [hr]
theorem Safe.setE {m : ImgM} {u : List Ent} (hm : m.Ok) (h : Safe m u) {k : Nat} (hk : k < m.t.length) {e : Ent} (he : lR e m.p = true) (hu : e.1 = 2 -> e = ent u k) : Safe (m.setE k e).2 u:=by
 rw [Ck hm hk he]
 have hr8:=yr hk
 have hset : Sub m.p u (m.t.set k e):=⟨by rw [List.length_set]; exact h.ulen.symm,fun j hj=>by
  rw [Ab hk]
  by_cases hjk : j = k
  ·subst hjk; rw [zt rfl]; exact ⟨he,hu⟩
  ·rw [zq hjk]; exact h.cur.2 j hj⟩
 rcases DevM.write_cases m.d (1 + ((k / 8 : Nat) : Int)) (oc (m.t.set k e) (k / 8)) with ⟨h1,h2,h3⟩ | ⟨h1,h2,h3⟩
 ·rw [zq (by simpa using h1)]
  generalize (m.d.write (1 + ((k / 8 : Nat) : Int)) (oc (m.t.set k e) (k / 8))).2 = d' at *
  have hl : (m.t.set k e).length = m.t.length:=List.length_set
  refine ⟨by rw [hl]; exact h.ulen,h.uok,h.uuniq,by dsimp only; rw [h3]; exact h.hd,fun x hx=>?_,fun r hr s hs=>?_,hset,fun r hr=>?_⟩
  ·dsimp only at hx
   rw [h2] at hx
   rcases List.mem_append.1 hx with h' | h'
   ·exact h.nohd x h'
   ·rw [List.mem_singleton.1 h']; dsimp only; omega
  ·dsimp only at hr hs ⊢
   rw [hl] at hr
   rw [h2,h3] at hs
   rcases hs with hs | hs
   ·exact h.rows r hr s (.inl hs)
   ·rcases List.mem_append.1 hs with h' | h'
    ·exact h.rows r hr s (.inr h')
    ·have e2:=List.mem_singleton.1 h'
     simp only [Prod.mk.injEq] at e2
     obtain rfl : r = k / 8:=by omega
     exact ⟨_,hset,e2.2⟩
  ·dsimp only at hr ⊢
   rw [hl] at hr
   rw [Dx h3 h2]
   simp only [List.foldl_cons,List.foldl_nil]
   by_cases hrk : r = k / 8
   ·subst hrk; rw [zt rfl]
   ·rw [zq (by omega),h.see r hr]
    unfold oc
    rw [KV hk hrk]
 ·rw [zt h1]
  exact h.data (q:=[]) h3 (by rw [h2]; simp) (fun x hx=>by cases hx)
theorem Kx {t : List Ent} (h : Uniq t) {k : Nat} (hk : k < t.length) {e : Ent} (he : e.1 = 2 -> e∉t) : Uniq (t.set k e):=by
 intro i j hi hj h2 hij
 rw [List.length_set] at hi hj
 rw [Ab hk] at h2 hij
 rw [Ab hk] at hij
 by_cases hi' : i = k
 ·by_cases hj' : j = k
  ·rw [hi',hj']
  ·rw [zt hi'] at h2 hij
   rw [zq hj'] at hij
   exact absurd (hij ▸ zj hj) (he h2)
 ·rw [zq hi'] at h2 hij
  by_cases hj' : j = k
  ·rw [zt hj'] at hij
   exact absurd (hij ▸ zj hi) (he (hij ▸ h2))
  ·rw [zq hj'] at hij
   exact h i j hi hj h2 hij
theorem OI {m : ImgM} (hm : m.Ok) {d : DevM} (hd : d.Ok) (hl : d.fl.length = m.d.fl.length) : ({ m with d:=d } : ImgM).Ok:=
 ⟨hd,hm.head,hm.t,hm.ents,hm.one,hm.nodup,hm.range,hm.apart,by have:=hm.need; dsimp only; omega⟩
theorem ImgM.Ok.setE {m : ImgM} (hm : m.Ok) (hw : m.d.writes < 1000000) (hp : m.d.pend.length < 1000000) {k : Nat} (hk : k < m.t.length) {e : Ent} (he : lR e m.p = true) (h2 : e.1 = 2 -> e∉m.t /\ e.2∉m.held) : (m.setE k e).2.Ok:=by
 rw [Ck hm hk he]
 have hok:=DevM.write_ok hm.d (1 + ((k / 8 : Nat) : Int)) (oc (m.t.set k e) (k / 8)) hp hw
 obtain ⟨l1,-,-⟩:=oU m.d (1 + ((k / 8 : Nat) : Int)) (oc (m.t.set k e) (k / 8))
 split
 ·exact OI hm hok l1
 ·generalize (m.d.write (1 + ((k / 8 : Nat) : Int)) (oc (m.t.set k e) (k / 8))).2 = d' at *
  have hmem : ∀x,((2,x) : Ent)∈m.t.set k e -> ((2,x) : Ent) = e \/ ∃j,j < m.t.length /\ j≠k /\ ent m.t j = (2,x):=fun x hx=>by
   obtain ⟨j,hj,hje⟩:=List.getElem_of_mem hx
   have hj':=hj
   rw [List.length_set] at hj'
   rw [<- Fb hj,Ab hk] at hje
   by_cases hjk : j = k
   ·rw [zt hjk] at hje; exact .inl hje.symm
   ·rw [zq hjk] at hje; exact .inr ⟨j,hj',hjk,hje⟩
  have hap : ∀x∈m.held,((2,x) : Ent)∉m.t.set k e:=fun x hx hc=>by
   rcases hmem x hc with h | ⟨j,hj,_,hje⟩
   ·exact (h2 (by rw [<- h])).2 (by rw [<- h]; exact hx)
   ·exact hm.apart x hx (hje ▸ zj hj)
  refine ⟨hok,hm.head,by dsimp only; rw [List.length_set]; exact hm.t,fun x hx=>?_,Kx hm.one hk fun h=>(h2 h).1,?_,?_,?_,by have:=hm.need; dsimp only; omega⟩
  ·rcases List.mem_or_eq_of_mem_set hx with h | h
   ·exact hm.ents x h
   ·rw [h]; exact he
  ·dsimp only
   split
   ·rename_i hk2
    refine List.nodup_append.2 ⟨hm.nodup,by simp,fun a ha b hb=>?_⟩
    rw [List.mem_singleton.1 hb]
    intro hab
    refine hm.apart a ha ?_
    rw [hab]
    have:=zj hk
    rwa [show ent m.t k = (2,(ent m.t k).2) from Prod.ext hk2 rfl] at this
   ·exact hm.nodup
  ·dsimp only
   split
   ·rename_i hk2
    intro x hx
    rcases List.mem_append.1 hx with h | h
    ·exact hm.range x h
    ·rw [List.mem_singleton.1 h]; exact yI hm hk hk2
   ·exact hm.range
  ·dsimp only
   split
   ·rename_i hk2
    intro x hx
    rcases List.mem_append.1 hx with h | h
    ·exact hap x h
    ·rw [List.mem_singleton.1 h]
     intro hc
     rcases hmem _ hc with h' | ⟨j,hj,hjk,hje⟩
     ·exact (h2 (by rw [<- h'])).1 (by rw [<- h']; have:=zj hk; rwa [show ent m.t k = (2,(ent m.t k).2) from Prod.ext hk2 rfl] at this)
     ·refine hjk (hm.one j k hj hk (by rw [hje]) ?_)
      rw [hje]
      exact (Prod.ext hk2 rfl : ent m.t k = (2,(ent m.t k).2)).symm
   ·exact hap
structure Step (n : Nat) (m m' : ImgM) : Prop where
 ok : m'.Ok
 safe : ∀u,Safe m u -> ∃u',Safe m' u'
 c : m'.c = m.c
 p : m'.p = m.p
 len : m'.d.fl.length = m.d.fl.length
 pend : m'.d.pend.length <= m.d.pend.length + n
 wr : m'.d.writes <= m.d.writes + n
theorem Step.refl {m : ImgM} (hm : m.Ok) (n : Nat) : Step n m m:=⟨hm,fun u h=>⟨u,h⟩,rfl,rfl,rfl,by omega,by omega⟩
theorem Step.trans {a b : Nat} {m m' m'' : ImgM} (h : Step a m m') (k : Step b m' m'') : Step (a + b) m m'':=
 ⟨k.ok,fun u hu=>let ⟨u',hu'⟩:=h.safe u hu; k.safe u' hu',k.c.trans h.c,k.p.trans h.p,k.len.trans h.len,by have:=h.pend; have:=k.pend; omega,by have:=h.wr; have:=k.wr; omega⟩
theorem Step.mono {a b : Nat} {m m' : ImgM} (h : Step a m m') (hab : a <= b) : Step b m m':=
 ⟨h.ok,h.safe,h.c,h.p,h.len,by have:=h.pend; omega,by have:=h.wr; omega⟩
theorem Cm {m : ImgM} (hm : m.Ok) : m.c.toNat = m.t.length:=by
 have:=hm.t
 omega
theorem IH {m : ImgM} (hm : m.Ok) (hw : m.d.writes < 1000000) (hp : m.d.pend.length < 1000000) {k : Nat} (hk : k < m.t.length) {e : Ent} (he : lR e m.p = true) (h2 : e.1 = 2 -> e∉m.t /\ e.2∉m.held)
  (hu : ∀u,Safe m u -> ∃u',Safe m u' /\ (e.1 = 2 -> e = ent u' k)) : Step 1 m (m.setE k e).2:=by
 refine ⟨hm.setE hw hp hk he h2,fun u h=>?_,?_,?_,?_,?_,?_⟩
 ·obtain ⟨u',h',hu'⟩:=hu u h
  exact ⟨u',h'.setE hm hk he hu'⟩
 all_goals
  rw [Ck hm hk he]
  obtain ⟨l1,l2,l3⟩:=oU m.d (1 + ((k / 8 : Nat) : Int)) (oc (m.t.set k e) (k / 8))
  split
  ·first | rfl | exact l1 | exact l2 | exact l3
  ·first | rfl | exact l1 | exact l2 | exact l3
theorem Ia {m : ImgM} (hm : m.Ok) (hw : m.d.writes < 1000000) (hp : m.d.pend.length < 1000000) (k : Int) : Step 1 m (m.clear k).2:=by
 unfold ImgM.clear
 split
 ·rename_i ht
  obtain ⟨k0,-,hkl⟩:=oN hm ht
  split
  ·exact Step.refl hm 1
  ·exact IH hm hw hp hkl rfl (fun h=>by cases h) fun u h=>⟨u,h,fun h=>by cases h⟩
 ·exact Step.refl hm 1
theorem IU {m : ImgM} (hm : m.Ok) {d' : DevM} {q : List (Int×ByteArray)} {n : Nat} (hd : d'.Ok) (hf : d'.fl = m.d.fl) (hp : d'.pend = m.d.pend++q) (hq : ∀x∈q,1 + (lA m.t.length : Int) <= x.1) (hn : q.length <= n) (hw : d'.writes <= m.d.writes + n) :
  Step n m { m with d:=d' }:=
 ⟨OI hm hd (by rw [hf]),fun u h=>⟨u,h.data hf hp hq⟩,rfl,rfl,by dsimp only; rw [hf],by dsimp only; rw [hp,List.length_append]; omega,hw⟩
theorem BQ {m : ImgM} (hm : m.Ok) (hw : m.d.writes < 999000) (hp : m.d.pend.length < 999000) {a : Int} (ha : 1 + (lA m.t.length : Int) <= a) {l : List ByteArray} {n : Nat} (hl : l.length <= n) (hn : n <= 900) : Step n m { m with d:=(m.d.puts a l).2 }:=by
 obtain ⟨o1,o2,o3,o4⟩:=Cl (l:=l) (a:=a) hm.d (by omega) (by omega)
 obtain ⟨h1,q,h2,h3,j,j1,j2,-⟩:=DevM.puts_cases l m.d a
 exact IU hm o1 h1 h2 (fun x hx=>by have:=(h3 x hx).1; omega) (by rw [j2,List.length_map,List.length_range]; omega) (by omega)
theorem zP {m : ImgM} (hm : m.Ok) {y : Int} (h0 : 0 <= y) : 1 + (lA m.t.length : Int) <= m.first y:=by
 unfold ImgM.first
 rw [Cm hm]
 omega
theorem LG {m : ImgM} (hm : m.Ok) (hw : m.d.writes < 999000) (hp : m.d.pend.length < 999000) (k fr : Int) (s : ByteArray) : Step 4 m (m.wr k fr s).2:=by
 unfold ImgM.wr
 split
 ·exact Step.refl hm 4
 ·rename_i hb
  split
  ·exact Step.refl hm 4
  ·rename_i hk
   unfold ImgM.wrBad at hb
   have ht : m.there k = true:=by
    cases h : m.there k
    ·exact absurd (.inl h) hb
    ·rfl
   have hb' : 0 <= fr /\ (s.size : Int) <= 16 * (4 - fr):=by
    refine ⟨?_,?_⟩
    ·exact Int.not_lt.1 fun h=>hb (.inr (.inl h))
    ·exact Int.not_lt.1 fun h=>hb (.inr (.inr (.inr (.inr h))))
   obtain ⟨k0,-,hkl⟩:=oN hm ht
   have hk2 : (ent m.t k.toNat).1 = 2:=Decidable.byContradiction hk
   obtain ⟨r0,r1⟩:=yI hm hkl hk2
   have:=zP hm r0
   refine BQ hm hw hp (by omega) ?_ (by omega)
   unfold lv
   rw [List.length_map,List.length_range]
   omega
theorem yZ {m : ImgM} (hm : m.Ok) : Step 0 m m.flush:=
 ⟨GU (d:=m.d) hm hm.d rfl,fun u h=>⟨_,h.flush hm⟩,rfl,rfl,by simp only [ImgM.flush,DevM.flush,ob],by simp [ImgM.flush,DevM.flush],by simp [ImgM.flush,DevM.flush]⟩
theorem FS {m : ImgM} {p : Int} (h : m.openB p = true) : ((2,p) : Ent)∉m.t /\ p∉m.held:=by
 unfold ImgM.openB at h
 simpa using h
theorem Jc {m : ImgM} (hm : m.Ok) (hw : m.d.writes < 999000) (hp : m.d.pend.length < 999000) (k : Int) (s : ByteArray) : Step 5 m (m.fill k s).2:=by
 unfold ImgM.fill
 split
 ·exact Step.refl hm 5
 ·rename_i h1
  split
  ·exact Step.refl hm 5
  ·rename_i h2
   split
   ·exact Step.refl hm 5
   ·rename_i h3
    have ht : m.there k = true:=by
     cases h : m.there k
     ·exact absurd (.inl h) h1
     ·rfl
    obtain ⟨k0,-,hkl⟩:=oN hm ht
    obtain ⟨C,hC,q1,q2,q3,q4,q5,q6,-⟩:=hm.nat
    obtain ⟨P,hP⟩:=ze q5
    rcases AL m hP with h | ⟨q,hq,hqP,ho,-⟩
    ·exact absurd (by rw [h]; decide) h3
    ·rw [hq]
     obtain ⟨n1,n2⟩:=FS ho
     unfold ImgM.fillAt
     have hf:=zP hm (y:=(q : Int)) (by omega)
     have s1:=BQ (n:=4) hm hw hp hf (l:=lv s 4) (by simp [lv]) (by omega)
     split
     ·exact s1.mono (by omega)
     ·have s2:=yZ s1.ok
      have h12:=s1.trans s2
      have w12:=h12.wr
      have p12:=h12.pend
      have he : lR (2,(q : Int)) m.p = true:=by unfold lR; rw [zt rfl]; simp; omega
      refine h12.trans (b:=1) (IH (k:=k.toNat) (e:=(2,(q : Int))) h12.ok (by omega) (by omega) hkl he (fun _=>⟨n1,fun h=>by cases h⟩) fun u h=>?_)
      refine ⟨m.t.set k.toNat (2,(q : Int)),?_,fun _=>by rw [Ab hkl,zt rfl]⟩
      have hsf : Safe ({ m with d:=(m.d.puts (m.first (q : Int)) (lv s 4)).2 } : ImgM).flush m.t:=by
       refine ⟨rfl,hm.ents,hm.one,h.hd,h.nohd,fun r hr s hs=>?_,Sub.self hm.ents,h.see⟩
       rcases hs with hs | hs
       ·refine ⟨m.t,Sub.self hm.ents,hs.trans ?_⟩
        have e:=h.see r hr
        rw [zu (fun x hx=>by cases hx),show (1 + (r : Int)).toNat = 1 + r by omega] at e
        exact e
       ·cases hs
      refine hsf.uni (by rw [List.length_set]) (fun x hx=>?_) (Kx hm.one hkl fun _=>n1) fun j hj hj2=>?_
      ·rcases List.mem_or_eq_of_mem_set hx with h | h
       ·exact hm.ents x h
       ·rw [h]; exact he
      ·rw [Ab hkl]
       split
       ·rename_i hjk
        subst hjk
        exact absurd hj2 h2
       ·rfl
theorem GS {d : DevM} (hd : d.Ok) (hp : d.pend = []) (hl : 0 < d.fl.length) {s : ByteArray} (hw : d.writes < 1000000) (h : (d.write 0 s).1 = 0) :
  (d.write 0 s).2.flush.Ok /\ (d.write 0 s).2.flush.pend = [] /\ (d.write 0 s).2.flush.fl.length = d.fl.length /\ (d.write 0 s).2.flush.fl.getD 0 ByteArray.empty = s /\
  (∀i : Nat,0 < i -> i < d.fl.length -> (d.write 0 s).2.flush.fl.getD i ByteArray.empty = d.fl.getD i ByteArray.empty) /\ (d.write 0 s).2.flush.writes <= d.writes + 1:=by
 have ok:=DevM.write_ok hd 0 s (by rw [hp]; decide) hw
 obtain ⟨-,-,l3⟩:=oU d 0 s
 rcases DevM.write_cases d 0 s with ⟨h1,h2,h3⟩ | ⟨h1,h2,h3⟩
 ·generalize (d.write 0 s).2 = d' at *
  rw [hp] at h2
  refine ⟨DevM.flush_ok ok,rfl,by simp only [DevM.flush,ob,h3],?_,fun i h0 hi=>?_,l3⟩
  ·rw [AY ok (by rw [h3]; exact hl)]
   unfold DevM.seen
   rw [h2]
   simp
  ·rw [AY ok (by rw [h3]; exact hi)]
   unfold DevM.seen
   rw [h2,h3]
   simp only [List.nil_append,List.foldl_cons,List.foldl_nil]
   rw [zq (by omega)]
   simp
 ·exact absurd h h1
theorem Nd {m : ImgM} (hm : m.Ok) (hw : m.d.writes < 999000) (k : Int) : Step 1 m (m.link k).2:=by
 unfold ImgM.link
 split
 ·exact Step.refl hm 1
 ·rename_i hb
  have s0:=yZ hm
  have hw0 : m.d.flush.writes = m.d.writes:=rfl
  have hneed:=s0.ok.need
  obtain ⟨l1,l2,l3⟩:=oU m.d.flush 0 (lM m.c m.p k)
  have okw:=DevM.write_ok (DevM.flush_ok hm.d) 0 (lM m.c m.p k) (by simp [DevM.flush]) (by omega)
  have q5 : 0 <= m.p:=by
   obtain ⟨C,hC,q1,q2,q3,q4,q5,q6,-⟩:=hm.nat
   exact q5
  split
  ·rename_i h1
   rcases DevM.write_cases m.d.flush 0 (lM m.c m.p k) with ⟨e1,-,-⟩ | ⟨-,e2,e3⟩
   ·exact absurd e1 h1
   ·exact (s0.trans (b:=1) (IU (m:=m.flush) (q:=[]) s0.ok okw e3 (by rw [List.append_nil]; exact e2) (fun x hx=>by cases hx) (by simp) (by dsimp only [ImgM.flush]; omega))).mono (by omega)
  ·rename_i h1
   have hl0 : 0 < m.d.flush.fl.length:=by
    have : 1 + (lA m.c.toNat : Int) + 4 * m.p <= m.d.flush.fl.length:=hneed
    omega
   obtain ⟨f1,f2,f3,f4,f5,f6⟩:=GS (s:=lM m.c m.p k) (DevM.flush_ok hm.d) rfl hl0 (by omega) (Decidable.byContradiction h1)
   generalize (m.d.flush.write 0 (lM m.c m.p k)).2.flush = d' at *
   have hsl : ∀u,Safe m u -> Safe ({ m.flush with d:=d',b:=k } : ImgM) m.t:=fun u h=>by
    have hf:=h.flush hm
    have hrow : ∀r : Nat,r < lA m.t.length -> d'.fl.getD (1 + r) ByteArray.empty = oc m.t r:=fun r hr=>by
     have hr' : 1 + r < m.d.flush.fl.length:=by
      have h' : 1 + (lA m.c.toNat : Int) + 4 * m.p <= m.d.flush.fl.length:=hneed
      rw [Cm hm] at h'
      omega
     rw [f5 (1 + r) (by omega) hr']
     have e : m.d.flush.seen (1 + (r : Int)) = oc m.t r:=hf.see r hr
     rw [zu (d:=m.d.flush) (fun x hx=>by cases hx),show (1 + (r : Int)).toNat = 1 + r by omega] at e
     exact e
    refine ⟨rfl,hm.ents,hm.one,f4,fun x hx=>?_,fun r hr s hs=>?_,Sub.self hm.ents,fun r hr=>?_⟩
    ·dsimp only at hx
     rw [f2] at hx
     cases hx
    ·dsimp only at hs
     rw [f2] at hs
     rcases hs with hs | hs
     ·exact ⟨m.t,Sub.self hm.ents,hs.trans (hrow r hr)⟩
     ·cases hs
    ·dsimp only
     rw [zu (d:=d') (fun x hx=>by rw [f2] at hx; cases hx),show (1 + (r : Int)).toNat = 1 + r by omega]
     exact hrow r hr
   exact ⟨⟨f1,hb,hm.t,hm.ents,hm.one,List.nodup_nil,(fun x hx=>by cases hx),(fun x hx=>by cases hx),by have h' : 1 + (lA m.c.toNat : Int) + 4 * m.p <= m.d.flush.fl.length:=hneed; dsimp only [ImgM.flush]; omega⟩,
    fun u h=>⟨_,hsl u h⟩,rfl,rfl,by dsimp only; rw [f3]; exact s0.len,by dsimp only; rw [f2]; simp,by dsimp only; omega⟩
theorem GW {f : Nat -> ByteArray} {a : Int} : ∀{j r : Nat} {s : ByteArray},r < j ->
  ((List.range j).map fun (i : Nat)=>(a + (i : Int),f i)).foldl (fun s x=>if x.1 = a + (r : Int) then x.2 else s) s = f r:=by
 intro j
 induction j with
 | zero=>intro r s h; omega
 | succ j ih=>
  intro r s h
  rw [List.range_succ,List.map_append,List.foldl_append]
  simp only [List.map_cons,List.map_nil,List.foldl_cons,List.foldl_nil]
  by_cases hr : r = j
  ·subst hr; rw [zt rfl]
  ·rw [zq (by omega)]; exact ih (by omega)
theorem CG {l : List ByteArray} {d : DevM} {a : Int} (h : (d.puts a l).1 = 0) {r : Nat} (hr : r < l.length) : (d.puts a l).2.seen (a + (r : Int)) = l.getD r ByteArray.empty:=by
 obtain ⟨h1,q,h2,-,j,-,j2,j3⟩:=DevM.puts_cases l d a
 obtain rfl:=j3 h
 rw [Dx h1 h2,j2]
 exact GW (f:=fun i=>l.getD i ByteArray.empty) hr
theorem A4 (c p : Int) : ∀e∈ly c,lR e p = true:=fun e he=>by
 unfold ly at he
 rw [(List.mem_replicate.1 he).2]
 rfl
theorem I4 (c : Int) : Uniq (ly c):=fun i j hi hj h2 _=>by
 have h0 : ent (ly c) i = (0,0):=(List.mem_replicate.1 (show ent (ly c) i∈List.replicate c.toNat (0,0) from zj hi)).2
 rw [h0] at h2
 cases h2
theorem Ih {d : DevM} (hd : d.Ok) (hp : d.pend.length < 999000) (hw : d.writes < 999000) {c p b : Int} :
  (oa d c p b).2.d.Ok /\ (oa d c p b).2.d.fl.length = d.fl.length /\ (oa d c p b).2.d.pend.length <= d.pend.length + 4 /\ (oa d c p b).2.d.writes <= d.writes + 5 /\
  ((oa d c p b).1 = 0 -> (oa d c p b).2.Ok /\ Safe (oa d c p b).2 (ly c) /\ (oa d c p b).2.d.pend = [] /\ ¬lH c p b):=by
 unfold oa
 split
 ·exact ⟨hd,rfl,by dsimp only [l5]; omega,by dsimp only [l5]; omega,fun h=>by cases h⟩
 ·rename_i hf
  have hb : ¬lH c p b:=fun h=>hf (.inl h)
  have hn : zL c p <= d.fl.length:=Int.not_lt.1 fun h=>hf (.inr h)
  have hbb:=hb
  unfold lH at hbb
  have hzl : (ly c).length = c.toNat:=by simp [ly]
  have hrn : lA c.toNat <= 4:=by unfold lA; omega
  have hrl : (l4 (ly c)).length = lA c.toNat:=by simp [l4,hzl]
  have hn2 : 1 + (lA c.toNat : Int) + 4 * p <= d.fl.length:=hn
  obtain ⟨o1,o2,o3,o4⟩:=Cl (l:=l4 (ly c)) (a:=1) hd (by omega) (by omega)
  split
  ·exact ⟨o1,o2,by dsimp only [l5]; omega,by dsimp only [l5]; omega,fun h=>absurd h (by assumption)⟩
  ·rename_i h1
   have h1':=Decidable.byContradiction h1
   have hsr : ∀r : Nat,r < lA c.toNat -> (d.puts 1 (l4 (ly c))).2.seen (1 + (r : Int)) = oc (ly c) r:=fun r hr=>by
    rw [CG h1' (by omega)]
    have:=FX (P:=40) (by omega) (t:=ly c) (by omega) (A4 c 40) (r:=r) (by rw [hzl]; exact hr)
    simp [l4,hzl,hr,this]
   generalize (d.puts 1 (l4 (ly c))).2 = d1 at *
   have okf:=DevM.flush_ok o1
   have hl1 : d1.flush.fl.length = d1.fl.length:=by simp only [DevM.flush,ob]
   have hw1 : d1.flush.writes = d1.writes:=rfl
   split
   ·rename_i h2
    obtain ⟨l1,l2,l3⟩:=oU d1.flush 0 (lM c p b)
    have okw:=DevM.write_ok okf 0 (lM c p b) (by simp [DevM.flush]) (by omega)
    have hp0 : d1.flush.pend.length = 0:=rfl
    exact ⟨okw,by dsimp only [l5]; omega,by dsimp only [l5]; omega,by dsimp only [l5]; omega,fun h=>absurd h h2⟩
   ·rename_i h2
    obtain ⟨f1,f2,f3,f4,f5,f6⟩:=GS (s:=lM c p b) okf rfl (by omega) (by omega) (Decidable.byContradiction h2)
    generalize (d1.flush.write 0 (lM c p b)).2.flush = d' at *
    have hrow : ∀r : Nat,r < lA c.toNat -> d'.fl.getD (1 + r) ByteArray.empty = oc (ly c) r:=fun r hr=>by
     rw [f5 (1 + r) (by omega) (by omega),AY o1 (by omega),show ((1 + r : Nat) : Int) = 1 + (r : Int) by omega]
     exact hsr r hr
    refine ⟨f1,by dsimp only [l5]; omega,by dsimp only [l5]; rw [f2]; simp,by dsimp only [l5]; omega,fun _=>⟨?_,?_,f2,hb⟩⟩
    ·exact ⟨f1,hb,by dsimp only [l5]; rw [hzl]; omega,A4 c p,I4 c,List.nodup_nil,(fun x hx=>by cases hx),(fun x hx=>by cases hx),by dsimp only [l5]; omega⟩
    ·refine ⟨rfl,A4 c p,I4 c,f4,fun x hx=>?_,fun r hr s hs=>?_,Sub.self (A4 c p),fun r hr=>?_⟩
     ·dsimp only [l5] at hx
      rw [f2] at hx
      cases hx
     ·dsimp only [l5] at hs hr
      rw [f2] at hs
      rw [hzl] at hr
      rcases hs with hs | hs
      ·exact ⟨ly c,Sub.self (A4 c p),hs.trans (hrow r hr)⟩
      ·cases hs
     ·dsimp only [l5] at hr ⊢
      rw [hzl] at hr
      rw [zu (d:=d') (fun x hx=>by rw [f2] at hx; cases hx),show (1 + (r : Int)).toNat = 1 + r by omega]
      exact hrow r hr
theorem Mo {s : ByteArray} {n k : Nat} (h : s.size = 16 * n) (hk : k < n) : (lz s k).size = 16:=by
 unfold lz
 rw [ByteArray.size_extract]
 omega
theorem AP {s : ByteArray} {n : Nat} (h : s.size = 16 * n) : ∀x∈lv s n,x.size = 16:=fun x hx=>by
 unfold lv at hx
 obtain ⟨k,hk,rfl⟩:=List.mem_map.1 hx
 exact Mo h (List.mem_range.1 hk)
theorem oZ (s : ByteArray) (n : Nat) : (lv s n).length = n:=by simp [lv]
theorem CW {s : ByteArray} {n k : Nat} (h : k < n) : (lv s n).getD k ByteArray.empty = lz s k:=by simp [lv,h]
theorem Ce {d : DevM} (hf : d.fail < 0) {a : Int} (a0 : 0 <= a) (a1 : a < d.fl.length) {s : ByteArray} (hs : s.size = 16) : (d.write a s).1 = 0 /\ (d.write a s).2.fail < 0:=by
 have hb : ¬(d.bad a s = true):=by
  unfold DevM.bad
  simp only [Bool.or_eq_true,decide_eq_true_eq]
  omega
 unfold DevM.write
 rw [zq hb,zq (by omega)]
 refine ⟨rfl,?_⟩
 dsimp only
 rw [zq (by omega)]
 exact hf
theorem Em : ∀{l : List ByteArray} {d : DevM} {a : Int},d.fail < 0 -> 0 <= a -> a + l.length <= d.fl.length -> (∀x∈l,x.size = 16) -> (d.puts a l).1 = 0 /\ (d.puts a l).2.fail < 0:=by
 intro l
 induction l with
 | nil=>intro d a hf _ _ _; exact ⟨rfl,hf⟩
 | cons s l ih=>
  intro d a hf a0 a1 hs
  simp only [List.length_cons] at a1
  obtain ⟨h1,h2⟩:=Ce hf a0 (a:=a) (by omega) (hs s (by simp))
  obtain ⟨l1,-,-⟩:=oU d a s
  rw [DevM.puts,zq (by simpa using h1)]
  exact ih h2 (by omega) (by omega) fun x hx=>hs x (by simp [hx])
theorem Nh {m : ImgM} (hm : m.Ok) (hf : m.d.fail < 0) {k : Nat} (hk : k < m.t.length) {e : Ent} (he : lR e m.p = true) :
  ∃d',d'.fl = m.d.fl /\ d'.pend = m.d.pend++[(1 + ((k / 8 : Nat) : Int),oc (m.t.set k e) (k / 8))] /\ d'.fail < 0 /\
   m.setE k e = (0,{ m with d:=d',t:=m.t.set k e,held:=if (ent m.t k).1 = 2 then m.held++[(ent m.t k).2] else m.held }):=by
 have hneed:=hm.need
 rw [Cm hm] at hneed
 have hr:=yr hk
 obtain ⟨C,hC,q1,q2,q3,q4,q5,q6,-⟩:=hm.nat
 obtain ⟨h1,h2⟩:=Ce hf (a:=1 + ((k / 8 : Nat) : Int)) (by omega) (by omega) (B3 (m.t.set k e) (k / 8))
 rw [Ck hm hk he]
 rcases DevM.write_cases m.d (1 + ((k / 8 : Nat) : Int)) (oc (m.t.set k e) (k / 8)) with ⟨e1,e2,e3⟩ | ⟨e1,-,-⟩
 ·exact ⟨_,e3,e2,h2,by rw [zq (by simpa using e1)]⟩
 ·exact absurd h1 e1
theorem Ny {m : ImgM} {k : Nat} {q : Int} (ht : m.there (k : Int) = true) (h : ent m.t k = (2,q)) : m.read (k : Int) = (cat (m.secs q 4),0):=by
 have hk : m.kind (k : Int) = 2:=by unfold ImgM.kind; rw [zn,h]
 unfold ImgM.read
 rw [zt ht,zq (by rw [hk]; decide),zq (by rw [hk]; decide),zn,h]
def dash : ByteArray:=⟨#[45]⟩
def cont (d : DevM) (a : Int) (e : Ent) (j : Nat) : ByteArray:=if e.1 = 0 then dash else if e.1 = 1 then zs 16 else d.seen (a + 4 * e.2 + (j : Int))
def ImgM.base (m : ImgM) : Int:=1 + (lA m.c.toNat : Int)
theorem zo (m : ImgM) (y : Int) : m.first y = m.base + 4 * y:=rfl
def ImgM.shown (m : ImgM) (k : Nat) : ByteArray:=cont m.d m.base (ent m.t (k / 4)) (k % 4)
theorem J5 {n a b : Nat} (h : a <= b) (hb : b <= n) : (zs n).extract a b = zs (b - a):=by
 apply Go.WideShapes.bytes_inj
 simp only [ByteArray.data_extract,Array.toList_extract,zs,List.extract]
 rw [List.drop_replicate,List.take_replicate]
 congr 1
 omega
theorem Fg {l : List ByteArray} (hl : ∀x∈l,x.size = 16) {j : Nat} (hj : j < l.length) : (cat l).extract (16 * j) (16 * j + 16) = l.getD j ByteArray.empty:=by
 apply Go.WideShapes.bytes_inj
 simp only [ByteArray.data_extract,Array.toList_extract,List.extract,cat]
 rw [show 16 * j + 16 - 16 * j = 16 by omega]
 induction l generalizing j with
 | nil=>simp at hj
 | cons x l ih=>
  have hx : x.data.toList.length = 16:=hl x (by simp)
  have e : catL (x::l) = x.data.toList++catL l:=by simp [catL]
  rw [e]
  cases j with
  | zero=>
   simp only [Nat.mul_zero,List.drop_zero,List.getD_cons_zero]
   rw [List.take_append_of_le_length (by omega),List.take_of_length_le (by omega)]
  | succ j=>
   have h:=ih (fun y hy=>hl y (by simp [hy])) (j:=j) (by simpa using hj)
   have e2 : 16 * (j + 1) = x.data.toList.length + 16 * j:=by rw [hx]; omega
   rw [List.getD_cons_succ,<- h,e2,List.drop_append,List.drop_of_length_le (by rw [hx]; omega),Nat.add_sub_cancel_left,List.nil_append]
theorem Kl {l : List ByteArray} (hl : ∀x∈l,x.size = 16) : (cat l).size = 16 * l.length:=by
 have:=BL hl
 have e : (cat l).size = (catL l).length:=by simp [cat,ByteArray.size]
 omega
theorem Mu {m : ImgM} (hm : m.Ok) {y : Int} (h0 : 0 <= y) (h1 : y < m.p) : ∀x∈m.secs y 4,x.size = 16:=fun x hx=>by
 have hf:=zT hm h0 h1
 have hg:=zP hm h0
 unfold ImgM.secs at hx
 obtain ⟨j,hj,rfl⟩:=List.mem_map.1 hx
 have:=List.mem_range.1 hj
 exact CI hm.d (by omega) (by omega)
theorem GG {m : ImgM} (hm : m.Ok) {k : Nat} (hk : k < 4 * m.t.length) :
  ((m.read ((k / 4 : Nat) : Int)).2≠0 /\ m.shown k = dash) \/
  ((m.read ((k / 4 : Nat) : Int)).2 = 0 /\ (m.read ((k / 4 : Nat) : Int)).1.size = 64 /\ (m.read ((k / 4 : Nat) : Int)).1.extract (16 * (k % 4)) (16 * (k % 4) + 16) = m.shown k):=by
 have hkl : k / 4 < m.t.length:=by omega
 have ht:=hm.t
 have hth : m.there ((k / 4 : Nat) : Int) = true:=by unfold ImgM.there; simp; omega
 have hkd : m.kind ((k / 4 : Nat) : Int) = (ent m.t (k / 4)).1:=rfl
 rcases B9 hm hkl with h | h | h
 ·left
  have e : m.read ((k / 4 : Nat) : Int) = (ByteArray.empty,4):=by unfold ImgM.read; rw [zt hth,zt h]
  rw [e]
  refine ⟨by simp,?_⟩
  unfold ImgM.shown cont
  rw [zt (hkd ▸ h)]
 ·right
  have e : m.read ((k / 4 : Nat) : Int) = (zs 64,0):=by unfold ImgM.read; rw [zt hth,zq (by rw [h]; decide),zt h]
  rw [e]
  refine ⟨rfl,zl 64,?_⟩
  unfold ImgM.shown cont
  rw [hkd] at h
  rw [zq (by omega),zt h]
  dsimp only
  rw [J5 (by omega) (by omega),show 16 * (k % 4) + 16 - 16 * (k % 4) = 16 by omega]
 ·right
  rw [hkd] at h
  have e:=Ny (m:=m) (k:=k / 4) (q:=(ent m.t (k / 4)).2) hth (Prod.ext h rfl)
  obtain ⟨r0,r1⟩:=yI hm hkl h
  have hs:=Mu hm r0 r1
  rw [e]
  refine ⟨rfl,by dsimp only; rw [Kl hs]; simp [ImgM.secs],?_⟩
  dsimp only
  rw [Fg hs (by simp [ImgM.secs]; omega)]
  unfold ImgM.shown cont
  rw [zq (by omega),zq (by omega)]
  have : k % 4 < 4:=by omega
  simp [ImgM.secs,this,zo]
def poss (d : DevM) (a : Int) (x : ByteArray) : Prop:=x = d.fl.getD a.toNat ByteArray.empty \/ (a,x)∈d.pend
theorem EA (d : DevM) (a : Int) : poss d a (d.seen a):=by
 unfold DevM.seen
 rcases MG (p:=d.pend) (a:=a) (s:=d.fl.getD a.toNat ByteArray.empty) with h | h
 ·exact .inl h
 ·exact .inr h
theorem DS {d d' : DevM} {q : List (Int×ByteArray)} (hf : d'.fl = d.fl) (hp : d'.pend = d.pend++q) {a : Int} {x : ByteArray} (h : poss d' a x) : poss d a x \/ (a,x)∈q:=by
 unfold poss at h
 rw [hf,hp] at h
 rcases h with h | h
 ·exact .inl (.inl h)
 ·rcases List.mem_append.1 h with h | h
  ·exact .inl (.inr h)
  ·exact .inr h
theorem Gp {d : DevM} (hd : d.Ok) {a : Int} (a0 : 0 <= a) (a1 : a < d.fl.length) {x : ByteArray} (h : poss d.flush a x) : x = d.seen a:=by
 rcases h with h | h
 ·obtain ⟨n,rfl⟩:=ze a0
  rw [h,zn,AY hd (by omega)]
 ·cases h
def verE (s : ByteArray) (i : Nat) : Ent:=ent (Gg s) (i % 8)
theorem FT {P : Int} (hP : P <= 40) {t : List Ent} (hv : ∀e∈t,lR e P = true) (i : Nat) : verE (oc t (i / 8)) i = ent t i:=by
 unfold verE
 rw [show Gg (oc t (i / 8)) = oK t (i / 8) from Oe (zZ t _) (DV hP hv _)]
 unfold ent
 rw [Ff _ _ _ (by omega),show 8 * (i / 8) + i % 8 = i by omega]
structure Cov (m : ImgM) (may : Nat -> List ByteArray) : Prop where
 held : ∀i,i < m.t.length -> ∀s,poss m.d (1 + ((i / 8 : Nat) : Int)) s -> (verE s i).1 = 2 -> ent m.t i = verE s i \/ (verE s i).2∈m.held
 abs : ∀k,k < 4 * m.t.length -> ∀s,poss m.d (1 + ((k / 4 / 8 : Nat) : Int)) s -> (verE s (k / 4)).1 = 0 -> dash∈may k
 zero : ∀k,k < 4 * m.t.length -> ∀s,poss m.d (1 + ((k / 4 / 8 : Nat) : Int)) s -> (verE s (k / 4)).1 = 1 -> zs 16∈may k
 data : ∀k,k < 4 * m.t.length -> ∀s,poss m.d (1 + ((k / 4 / 8 : Nat) : Int)) s -> (verE s (k / 4)).1 = 2 -> ∀x,poss m.d (m.base + 4 * (verE s (k / 4)).2 + ((k % 4 : Nat) : Int)) x -> x∈may k
theorem Cov.mono {m : ImgM} {may may' : Nat -> List ByteArray} (h : Cov m may) (hm : ∀k x,x∈may k -> x∈may' k) : Cov m may':=
 ⟨h.held,fun k hk s hs e=>hm k _ (h.abs k hk s hs e),fun k hk s hs e=>hm k _ (h.zero k hk s hs e),fun k hk s hs e x hx=>hm k _ (h.data k hk s hs e x hx)⟩
theorem L1 {m : ImgM} {u : List Ent} (hm : m.Ok) (hs : Safe m u) {i : Nat} (hi : i < m.t.length) {s : ByteArray} (h : poss m.d (1 + ((i / 8 : Nat) : Int)) s) : lR (verE s i) m.p = true /\ ((verE s i).1 = 2 -> verE s i = ent u i):=by
 obtain ⟨C,hC,q1,q2,q3,q4,q5,q6,-⟩:=hm.nat
 obtain ⟨t',h1,h2⟩:=hs.rows (i / 8) (yr hi) s (by
  rcases h with h | h
  ·left; rw [h]; congr 1
  ·exact .inr h)
 rw [h2,FT q6 h1.ents]
 exact h1.2 i (by rw [hs.ulen]; exact hi)
theorem Dn {m : ImgM} {u : List Ent} (hm : m.Ok) (hs : Safe m u) {i : Nat} (hi : i < m.t.length) : poss m.d (1 + ((i / 8 : Nat) : Int)) (m.d.seen (1 + ((i / 8 : Nat) : Int))) /\ verE (m.d.seen (1 + ((i / 8 : Nat) : Int))) i = ent m.t i:=by
 obtain ⟨C,hC,q1,q2,q3,q4,q5,q6,-⟩:=hm.nat
 refine ⟨EA _ _,?_⟩
 rw [hs.see (i / 8) (yr hi),FT q6 hm.ents]
theorem Cov.now {m : ImgM} {u : List Ent} {may : Nat -> List ByteArray} (hm : m.Ok) (hs : Safe m u) (h : Cov m may) {k : Nat} (hk : k < 4 * m.t.length) : m.shown k∈may k:=by
 have hi : k / 4 < m.t.length:=by omega
 obtain ⟨p1,p2⟩:=Dn hm hs hi
 unfold ImgM.shown cont
 rcases B9 hm hi with h0 | h0 | h0
 all_goals rw [show m.kind ((k / 4 : Nat) : Int) = (ent m.t (k / 4)).1 from rfl] at h0
 ·rw [zt h0]; exact h.abs k hk _ p1 (by rw [p2]; exact h0)
 ·rw [zq (by omega),zt h0]; exact h.zero k hk _ p1 (by rw [p2]; exact h0)
 ·rw [zq (by omega),zq (by omega)]
  exact h.data k hk _ p1 (by rw [p2]; exact h0) _ (by rw [p2]; exact EA _ _)
theorem ND {m : ImgM} {u : List Ent} (hm : m.Ok) (hs : Safe m u) (hp : m.d.pend = []) : Cov m fun k=>[m.shown k]:=by
 have key : ∀i,i < m.t.length -> ∀s,poss m.d (1 + ((i / 8 : Nat) : Int)) s -> verE s i = ent m.t i:=fun i hi s h=>by
  obtain ⟨-,p2⟩:=Dn hm hs hi
  rw [<- p2]
  rcases h with h | h
  ·rw [h,zu (fun x hx=>by rw [hp] at hx; cases hx)]
  ·rw [hp] at h; cases h
 refine ⟨fun i hi s h _=>.inl (key i hi s h).symm,fun k hk s h e=>?_,fun k hk s h e=>?_,fun k hk s h e x hx=>?_⟩
 all_goals
  rw [key (k / 4) (by omega) s h] at e
  rw [List.mem_singleton]
  unfold ImgM.shown cont
 ·rw [zt e]
 ·rw [zq (by omega),zt e]
 ·rw [zq (by omega),zq (by omega)]
  rw [key (k / 4) (by omega) s h] at hx
  rcases hx with hx | hx
  ·rw [hx,zu (fun x hx=>by rw [hp] at hx; cases hx)]
  ·rw [hp] at hx; cases hx
def more (may : Nat -> List ByteArray) (m : ImgM) : Nat -> List ByteArray:=fun j=>may j++[m.shown j]
theorem Dc {m : ImgM} (hm : m.Ok) : m.base = 1 + (lA m.t.length : Int):=by unfold ImgM.base; rw [Cm hm]
theorem Cov.same {m : ImgM} {may : Nat -> List ByteArray} (h : Cov m may) : Cov m (more may m):=h.mono fun _ _ hx=>List.mem_append_left _ hx
theorem Cov.wr {m : ImgM} {u : List Ent} {may : Nat -> List ByteArray} (hm : m.Ok) (hs : Safe m u) (hf : m.d.fail < 0) (h : Cov m may) (k fr : Int) (s : ByteArray) :
  Cov (m.wr k fr s).2 (more may (m.wr k fr s).2) /\ (m.wr k fr s).2.d.fail < 0:=by
 unfold ImgM.wr
 split
 ·exact ⟨h.same,hf⟩
 ·rename_i hb
  split
  ·exact ⟨h.same,hf⟩
  ·rename_i hk
   unfold ImgM.wrBad at hb
   have ht : m.there k = true:=by
    cases h : m.there k
    ·exact absurd (.inl h) hb
    ·rfl
   have b1 : 0 <= fr:=Int.not_lt.1 fun h=>hb (.inr (.inl h))
   have b2 : s.size % 16 = 0:=Decidable.byContradiction fun h=>hb (.inr (.inr (.inr (.inl h))))
   have b3 : (s.size : Int) <= 16 * (4 - fr):=Int.not_lt.1 fun h=>hb (.inr (.inr (.inr (.inr h))))
   obtain ⟨k0,-,hkl⟩:=oN hm ht
   have hk2 : (ent m.t k.toNat).1 = 2:=Decidable.byContradiction hk
   obtain ⟨r0,r1⟩:=yI hm hkl hk2
   have hfi:=zT hm r0 r1
   have hfg:=zP hm r0
   have hbase:=Dc hm
   have hn : s.size = 16 * (s.size / 16):=by omega
   obtain ⟨p1,p2⟩:=Em (l:=lv s (s.size / 16)) hf (a:=m.first (ent m.t k.toNat).2 + fr) (by omega) (by rw [oZ]; omega) (AP hn)
   obtain ⟨h1,q,h2,h3,j,j1,j2,j3⟩:=DevM.puts_cases (lv s (s.size / 16)) m.d (m.first (ent m.t k.toNat).2 + fr)
   have hps:=fun (i : Nat) (hi : i < (lv s (s.size / 16)).length)=>CG (d:=m.d) (a:=m.first (ent m.t k.toNat).2 + fr) p1 hi
   obtain rfl:=j3 p1
   refine ⟨?_,p2⟩
   generalize (m.d.puts (m.first (ent m.t k.toNat).2 + fr) (lv s (s.size / 16))).2 = d' at *
   have hver : ∀i,i < m.t.length -> ∀s,poss d' (1 + ((i / 8 : Nat) : Int)) s -> poss m.d (1 + ((i / 8 : Nat) : Int)) s:=fun i hi s hp=>by
    rcases DS h1 h2 hp with h' | h'
    ·exact h'
    ·have:=(h3 _ h').1
     have:=yr hi
     dsimp only at *
     omega
   refine ⟨fun i hi s hp e=>h.held i hi s (hver i hi s hp) e,fun k' hk' s hp e=>List.mem_append_left _ (h.abs k' hk' s (hver _ (by dsimp only at hk'; omega) s hp) e),fun k' hk' s hp e=>List.mem_append_left _ (h.zero k' hk' s (hver _ (by dsimp only at hk'; omega) s hp) e),fun k' hk' s' hp e x hx=>?_⟩
   dsimp only at hk' hp hx
   have hv':=hver (k' / 4) (by omega) s' hp
   rcases DS h1 h2 hx with h' | h'
   ·exact List.mem_append_left _ (h.data k' hk' s' hv' e x h')
   ·refine List.mem_append_right _ (List.mem_singleton.2 ?_)
    obtain ⟨e1,e2⟩:=L1 hm hs (by omega) hv'
    have he:=e2 e
    rw [j2] at h'
    obtain ⟨i,hi,hie⟩:=List.mem_map.1 h'
    have hi':=List.mem_range.1 hi
    have hil : i < s.size / 16:=by rw [oZ] at hi'; exact hi'
    simp only [Prod.mk.injEq] at hie
    obtain ⟨a1,a2⟩:=hie
    have hpl : (verE s' (k' / 4)).2 = (ent m.t k.toNat).2 /\ k' % 4 = fr.toNat + i:=by
     rw [zo] at a1
     have : m.base + 4 * (verE s' (k' / 4)).2 + ((k' % 4 : Nat) : Int) = m.base + 4 * (ent m.t k.toNat).2 + fr + (i : Int):=a1.symm
     omega
    obtain ⟨c1,c2⟩:=hpl
    have hcu:=(hs.cur.2 k.toNat (by rw [hs.ulen]; exact hkl)).2 hk2
    have hck : k' / 4 = k.toNat:=by
     refine hs.uuniq (k' / 4) k.toNat (by rw [hs.ulen]; omega) (by rw [hs.ulen]; exact hkl) (by rw [<- he]; exact e) ?_
     rw [<- he,<- hcu]
     exact Prod.ext (by rw [e,hk2]) c1
    have hse:=hps i hi'
    unfold ImgM.shown cont
    dsimp only
    rw [hck,zq (by omega),zq (by omega),<- a2,<- hse]
    congr 1
    rw [zo]
    show _ = m.base + 4 * (ent m.t k.toNat).2 + ((k' % 4 : Nat) : Int)
    omega
theorem Cov.setE {m : ImgM} {u : List Ent} {may : Nat -> List ByteArray} (hm : m.Ok) (hs : Safe m u) (hf : m.d.fail < 0) (h : Cov m may) {k : Nat} (hk : k < m.t.length) {e : Ent} (he : lR e m.p = true)
  (h2 : e.1 = 2 -> ∀j : Nat,j < 4 -> ∀x,poss m.d (m.base + 4 * e.2 + (j : Int)) x -> x = m.d.seen (m.base + 4 * e.2 + (j : Int))) : Cov (m.setE k e).2 (more may (m.setE k e).2) /\ (m.setE k e).2.d.fail < 0:=by
 obtain ⟨C,hC,q1,q2,q3,q4,q5,q6,-⟩:=hm.nat
 obtain ⟨d',e1,e2,e3,e4⟩:=Nh hm hf hk he
 rw [e4]
 refine ⟨?_,e3⟩
 have hbase:=Dc hm
 have hr8:=yr hk
 have hset : ∀x∈m.t.set k e,lR x m.p = true:=fun x hx=>by
  rcases List.mem_or_eq_of_mem_set hx with h | h
  ·exact hm.ents x h
  ·rw [h]; exact he
 have hl : (m.t.set k e).length = m.t.length:=List.length_set
 have hver : ∀i,i < m.t.length -> ∀s,poss d' (1 + ((i / 8 : Nat) : Int)) s -> poss m.d (1 + ((i / 8 : Nat) : Int)) s \/ verE s i = ent (m.t.set k e) i:=fun i hi s hp=>by
  rcases DS e1 e2 hp with h' | h'
  ·exact .inl h'
  ·right
   have h'':=List.mem_singleton.1 h'
   simp only [Prod.mk.injEq] at h''
   rw [h''.2,show k / 8 = i / 8 by omega]
   exact FT q6 hset i
 have hdat : ∀(y : Int) (j : Nat) (x : ByteArray),0 <= y -> poss d' (m.base + 4 * y + (j : Int)) x -> poss m.d (m.base + 4 * y + (j : Int)) x:=fun y j x y0 hp=>by
  rcases DS e1 e2 hp with h' | h'
  ·exact h'
  ·have h'':=List.mem_singleton.1 h'
   simp only [Prod.mk.injEq] at h''
   omega
 have hsee : ∀(y : Int) (j : Nat),0 <= y -> d'.seen (m.base + 4 * y + (j : Int)) = m.d.seen (m.base + 4 * y + (j : Int)):=fun y j y0=>
  zJ e1 e2 fun x hx=>by rw [List.mem_singleton.1 hx]; dsimp only; omega
 have hents:=fun j=>Ab (t:=m.t) (e:=e) (j:=j) hk
 refine ⟨fun i hi s hp e'=>?_,fun k' hk' s hp e'=>?_,fun k' hk' s hp e'=>?_,fun k' hk' s hp e' x hx=>?_⟩
 ·dsimp only at hi hp ⊢
  rw [hl] at hi
  rcases hver i hi s hp with h' | h'
  ·rcases h.held i hi s h' e' with h'' | h''
   ·by_cases hik : i = k
    ·right
     subst hik
     rw [<- h''] at e' ⊢
     rw [zt e']
     simp
    ·left
     rw [hents,zq hik]
     exact h''
   ·right
    split
    ·exact List.mem_append_left _ h''
    ·exact h''
  ·exact .inl h'.symm
 ·dsimp only at hk' hp
  rw [hl] at hk'
  rcases hver (k' / 4) (by omega) s hp with h' | h'
  ·exact List.mem_append_left _ (h.abs k' hk' s h' e')
  ·refine List.mem_append_right _ (List.mem_singleton.2 ?_)
   unfold ImgM.shown cont
   dsimp only
   rw [<- h',zt e']
 ·dsimp only at hk' hp
  rw [hl] at hk'
  rcases hver (k' / 4) (by omega) s hp with h' | h'
  ·exact List.mem_append_left _ (h.zero k' hk' s h' e')
  ·refine List.mem_append_right _ (List.mem_singleton.2 ?_)
   unfold ImgM.shown cont
   dsimp only
   rw [<- h',zq (by omega),zt e']
 ·dsimp only at hk' hp hx
  rw [hl] at hk'
  change poss d' (m.base + 4 * (verE s (k' / 4)).2 + ((k' % 4 : Nat) : Int)) x at hx
  rcases hver (k' / 4) (by omega) s hp with h' | h'
  ·obtain ⟨o1,-⟩:=L1 hm hs (by omega) h'
   have:=Ad o1
   exact List.mem_append_left _ (h.data k' hk' s h' e' x (hdat _ _ _ (by omega) hx))
  ·have hok:=hset _ (zj (t:=m.t.set k e) (k:=k' / 4) (by rw [hl]; omega))
   rw [<- h'] at hok
   have hrg:=Ad hok
   have hx':=hdat _ _ _ (by omega) hx
   by_cases hik : k' / 4 = k
   ·have hve : verE s (k' / 4) = e:=by rw [h',hents,zt hik]
    refine List.mem_append_right _ (List.mem_singleton.2 ?_)
    unfold ImgM.shown cont
    dsimp only
    rw [<- h',zq (by omega),zq (by omega)]
    show x = d'.seen (m.base + 4 * (verE s (k' / 4)).2 + ((k' % 4 : Nat) : Int))
    rw [hsee _ _ (by omega)]
    rw [hve] at e' hx' ⊢
    exact h2 e' (k' % 4) (by omega) x hx'
   ·have hve : verE s (k' / 4) = ent m.t (k' / 4):=by rw [h',hents,zq hik]
    obtain ⟨c1,c2⟩:=Dn hm hs (i:=k' / 4) (by omega)
    rw [hve] at e' hx'
    exact List.mem_append_left _ (h.data k' hk' _ c1 (by rw [c2]; exact e') x (by rw [c2]; exact hx'))
theorem Cov.clear {m : ImgM} {u : List Ent} {may : Nat -> List ByteArray} (hm : m.Ok) (hs : Safe m u) (hf : m.d.fail < 0) (h : Cov m may) (k : Int) : Cov (m.clear k).2 (more may (m.clear k).2) /\ (m.clear k).2.d.fail < 0:=by
 unfold ImgM.clear
 split
 ·rename_i ht
  obtain ⟨k0,-,hkl⟩:=oN hm ht
  split
  ·exact ⟨h.same,hf⟩
  ·exact h.setE hm hs hf hkl rfl fun h=>by cases h
 ·exact ⟨h.same,hf⟩
theorem Cov.flushed {m : ImgM} {u : List Ent} (hm : m.Ok) (hs : Safe m u) : Cov m.flush fun j=>[m.flush.shown j]:=
 ND (yZ hm).ok (hs.flush hm) rfl
theorem Cov.fill {m : ImgM} {u : List Ent} {may : Nat -> List ByteArray} (hm : m.Ok) (hs : Safe m u) (hf : m.d.fail < 0) (hw : m.d.writes < 999000) (hp : m.d.pend.length < 999000) (h : Cov m may) (k : Int) (s : ByteArray) :
  Cov (m.fill k s).2 (more may (m.fill k s).2) /\ (m.fill k s).2.d.fail < 0:=by
 unfold ImgM.fill
 split
 ·exact ⟨h.same,hf⟩
 ·rename_i hb
  split
  ·exact ⟨h.same,hf⟩
  ·rename_i hkd
   split
   ·exact ⟨h.same,hf⟩
   ·rename_i hfr
    have ht : m.there k = true:=by
     cases h : m.there k
     ·exact absurd (.inl h) hb
     ·rfl
    have hsz : s.size = 64:=Decidable.byContradiction fun h=>hb (.inr h)
    obtain ⟨k0,-,hkl⟩:=oN hm ht
    obtain ⟨C,hC,q1,q2,q3,q4,q5,q6,-⟩:=hm.nat
    obtain ⟨P,hP⟩:=ze q5
    rcases AL m hP with hq | ⟨q,hq,hqP,ho,-⟩
    ·exact absurd (by rw [hq]; decide) hfr
    ·obtain ⟨n1,n2⟩:=FS ho
     rw [hq]
     have hfi:=zT hm (y:=(q : Int)) (by omega) (by omega)
     have hfg:=zP hm (y:=(q : Int)) (by omega)
     have hbase:=Dc hm
     obtain ⟨p1,p2⟩:=Em (l:=lv s 4) hf (a:=m.first (q : Int)) (by omega) (by rw [oZ]; omega) (AP (n:=4) (by omega))
     have s1:=BQ (n:=4) hm hw hp hfg (l:=lv s 4) (by rw [oZ]; omega) (by omega)
     have s2:=yZ s1.ok
     obtain ⟨g1,qq,g2,g3,-⟩:=DevM.puts_cases (lv s 4) m.d (m.first (q : Int))
     rw [oZ] at g3
     have he : lR (2,(q : Int)) m.p = true:=by unfold lR; rw [zt rfl]; simp; omega
     obtain ⟨u2,hs2⟩:=(s1.trans s2).safe u hs
     have hl1:=s1.len
     unfold ImgM.fillAt
     rw [zq (by simpa using p1)]
     dsimp only at hl1
     have okd:=s1.ok.d
     dsimp only at okd
     have hneed:=hm.need
     rw [Cm hm] at hneed
     have hcov : Cov ({ m with d:=(m.d.puts (m.first (q : Int)) (lv s 4)).2 } : ImgM).flush may:=by
      have hs1 : ∀a : Int,(∀i : Int,0 <= i -> i < 4 -> a≠m.first (q : Int) + i) -> (m.d.puts (m.first (q : Int)) (lv s 4)).2.seen a = m.d.seen a:=fun a ha=>
       zJ g1 g2 fun x hx hxa=>by
        have:=g3 x hx
        exact ha (x.1 - m.first (q : Int)) (by omega) (by omega) (by omega)
      have hvr : ∀i,i < m.t.length -> ∀s',poss (m.d.puts (m.first (q : Int)) (lv s 4)).2.flush (1 + ((i / 8 : Nat) : Int)) s' -> verE s' i = ent m.t i:=fun i hi s' hp'=>by
       have hr:=yr hi
       have hx:=Gp okd (by omega) (by rw [hl1]; omega) hp'
       rw [hs1 _ (fun i _ _=>by omega)] at hx
       rw [hx]
       exact (Dn hm hs hi).2
      refine ⟨fun i hi s' hp' _=>.inl (hvr i hi s' hp').symm,fun k' hk' s' hp' e=>?_,fun k' hk' s' hp' e=>?_,fun k' hk' s' hp' e x hx=>?_⟩
      all_goals
       have hk4 : k' / 4 < m.t.length:=by have : k' < 4 * m.t.length:=hk'; omega
       obtain ⟨c1,c2⟩:=Dn hm hs hk4
       rw [hvr _ hk4 s' hp'] at e
      ·exact h.abs k' hk' _ c1 (by rw [c2]; exact e)
      ·exact h.zero k' hk' _ c1 (by rw [c2]; exact e)
      ·rw [hvr _ hk4 s' hp'] at hx
       obtain ⟨r0,r1⟩:=yI hm hk4 e
       refine h.data k' hk' _ c1 (by rw [c2]; exact e) x ?_
       rw [c2]
       have hne : (ent m.t (k' / 4)).2≠(q : Int):=fun hc=>n1 (by
        have:=zj hk4
        rwa [show ent m.t (k' / 4) = (2,(q : Int)) from Prod.ext e hc] at this)
       have hx2:=Gp okd (a:=m.base + 4 * (ent m.t (k' / 4)).2 + ((k' % 4 : Nat) : Int)) (by omega) (by rw [hl1]; omega) hx
       rw [hs1 _ (fun i i0 i1=>by rw [zo]; omega)] at hx2
       rw [hx2]
       exact EA _ _
     exact hcov.setE s2.ok hs2 (by exact p2) (k:=k.toNat) hkl he fun _ j hj x hx=>by
      rcases hx with hx | hx
      ·rw [hx,zu (fun x hx=>by cases hx)]
      ·cases hx
end Go.Proofs.YtbpblokfiajpjabGreatDoor
