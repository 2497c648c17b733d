/- Sectors of a cluster written: the program's, the document's. An image flushed: the program's, the document's. A cluster filled: the program's, the document's. An image linked to another file: the program's, the document's. A cluster read: the program's, the document's. An image made: fits, Create (the program's). No conditions. -/
import Derived.Test.YtbpblokfiajpjabGreatDoorPk6eb7a8504d
import Derived.Test.YtbpblokfiajpjabGreatDoorProg
namespace Go.Proofs.YtbpblokfiajpjabGreatDoor
open Go.RowKit Go.SL Go.Crc
attribute [local go_sem ↓] Go.wp_at_zero Go.wp_at_succ
def ImgM.wrBad (m : ImgM) (k fr : Int) (s : ByteArray) : Prop:=m.there k = false∨fr < 0∨4 < fr∨s.size % 16≠0∨16 * (4 - fr) < (s.size : Int)
instance (m : ImgM) (k fr : Int) (s : ByteArray) : Decidable (m.wrBad k fr s):=by unfold ImgM.wrBad; infer_instance
def ImgM.wr (m : ImgM) (k fr : Int) (s : ByteArray) : Int×ImgM:=
 if m.wrBad k fr s then (1,m) else if m.kind k≠2 then (4,m)
 else ((m.d.puts (m.first (ent m.t k.toNat).2 + fr) (chunksN s (s.size / 16))).1,{ m with d:=(m.d.puts (m.first (ent m.t k.toNat).2 + fr) (chunksN s (s.size / 16))).2 })
theorem wrBad_cases {m : ImgM} {k fr : Int} {s : ByteArray} (h : m.wrBad k fr s) : m.there k = false∨(m.there k = true∧fr < 0)∨(m.there k = true∧0≤fr∧4 < fr)∨(m.there k = true∧0≤fr∧fr≤4∧0 < (s.size : Int) % 16)∨(m.there k = true∧0≤fr∧fr≤4∧(s.size : Int) % 16 = 0∧16 * (4 - fr) < (s.size : Int)):=by
 unfold ImgM.wrBad at h
 cases ht : m.there k
 ·exact .inl rfl
 ·rw [ht] at h
  have h' : fr < 0∨4 < fr∨s.size % 16≠0∨16 * (4 - fr) < (s.size : Int):=h.resolve_left (by simp)
  clear h
  right
  by_cases h1 : fr < 0
  ·exact .inl ⟨rfl,h1⟩
  ·by_cases h2 : 4 < fr
   ·exact .inr (.inl ⟨rfl,by omega,h2⟩)
   ·by_cases h3 : s.size % 16 = 0
    ·exact .inr (.inr (.inr ⟨rfl,by omega,by omega,by omega,by omega⟩))
    ·exact .inr (.inr (.inl ⟨rfl,by omega,by omega,by omega⟩))
theorem first_le {m : ImgM} (hm : m.Ok) {y : Int} (h0 : 0≤y) (h1 : y≤40) : 1≤m.first y∧m.first y≤165:=by
 obtain ⟨C,hC,q1,q2,q3,q4,-⟩:=hm.nat
 unfold ImgM.first
 rw [hC,Int.toNat_natCast]
 omega
theorem data_range {m : ImgM} (hm : m.Ok) {k : Nat} (hk : k < m.t.length) (h2 : (ent m.t k).1 = 2) : 0≤(ent m.t k).2∧(ent m.t k).2 < m.p:=by
 have h:=hm.ents (ent m.t k) (by unfold ent; simp [hk])
 unfold entOk at h
 rw [if_pos h2] at h
 simpa using h
set_option maxRecDepth 100000 in
set_option maxHeartbeats 8000000 in
theorem write_any (b bd bh : Nat) (m : ImgM) (hm : m.Ok) (hp : m.d.pend.length < 999000) (hw : m.d.writes < 999000) (k fr : Int) (f0 : i64ok fr) (s : ByteArray) (hs : s.size≤9223372036854775807) (R : List SL.HP) (w : World) (H : own w (imgAt b bd bh m::devAt bd m.d::R)) :
  Calls Tryz.prog 259 #[.pointer (some ⟨b,0,none⟩),.int .i64 k,.int .i64 fr,.string s] w fun e w'=>e = .returned (errV (m.wr k fr s).1)∧Ext w w'∧own w' (imgAt b bd bh (m.wr k fr s).2::devAt bd (m.wr k fr s).2.d::R):=by
 have hth:=there_any b bd bh m k _ w H
 obtain ⟨f1,f2⟩:=f0
 by_cases hb : m.wrBad k fr s
 ·have e : m.wr k fr s = (1,m):=by unfold ImgM.wr; rw [if_pos hb]
  rw [e]
  rcases wrBad_cases hb with ht | ⟨ht,g1⟩ | ⟨ht,g1,g2⟩ | ⟨ht,g1,g2,g3⟩ | ⟨ht,g1,g2,g3,g4⟩
  all_goals
   rw [ht] at hth
   have HT:=Lib.hid hth
   clear hth e ht hb
   go_enter Tryz.func259,Tryz.ntmps259
   go_wp2_with fail
   refine HT.out.mono ?_
   rintro e w' ⟨rfl,rfl⟩
   go_wp2_with fail
   go_ret
   exact ⟨rfl,Ext.refl _,H⟩
 ·have hb':=hb
  unfold ImgM.wrBad at hb'
  have ht : m.there k = true:=by cases h : m.there k; exact absurd (.inl h) hb'; rfl
  have g1 : 0≤fr:=by omega
  have g2 : fr≤4:=by omega
  have g3 : (s.size : Int) % 16 = 0:=by omega
  have g4 : (s.size : Int)≤16 * (4 - fr):=by omega
  have g4' : (s.size : Int)≤(4 - fr) * 16:=by omega
  obtain ⟨k0,-,hkl⟩:=there_range hm ht
  obtain ⟨n,rfl⟩:=Int.eq_ofNat_of_zero_le k0
  rw [Int.toNat_natCast] at hkl
  rw [ht] at hth
  have HT:=Lib.hid hth
  obtain ⟨v,h⟩:=img_open H
  obtain ⟨ao,g,cap,rfl,r1,r2,r3,-,-,r6,-⟩:=own_row_form 1 h rfl
  obtain rfl:=r3 (by omega)
  have x1 : w.cell? ⟨g,n * 2,none⟩ = some (.int .i64 (m.kind n)):=r6 _ _ (entCells_get hkl).1
  have x2 : w.cell? ⟨g,n * 2 + 1,none⟩ = some (.int .i64 (ent m.t n).2):=r6 _ _ (entCells_get hkl).2
  obtain ⟨c,f⟩:=own_cells 0 h rfl
  by_cases h1 : m.kind n = 2
  ·have e : m.wr n fr s = ((m.d.puts (m.first (ent m.t n).2 + fr) (chunksN s (s.size / 16))).1,{ m with d:=(m.d.puts (m.first (ent m.t n).2 + fr) (chunksN s (s.size / 16))).2 }):=by
    unfold ImgM.wr
    rw [if_neg hb,if_neg (by simpa using h1),Int.toNat_natCast]
   generalize m.wr n fr s = S at *
   have HE:=Lib.hid e
   obtain ⟨y0,y1⟩:=data_range hm hkl h1
   obtain ⟨C,hC,q1,q2,q3,q4,q5,q6,-⟩:=hm.nat
   obtain ⟨F0,F1⟩:=first_le hm y0 (by omega)
   have hget:=(entCells_get (l:=m.t) hkl).2
   have HGET : Hid ((entCells m.t)[n * 2 + 1]? = some (.int .i64 (ent m.t n).2)):=Lib.hid hget
   rw [h1] at x1
   obtain ⟨N,hN⟩ : ∃N : Nat,s.size = 16 * N:=⟨s.size / 16,by omega⟩
   have hN16 : s.size / 16 = N:=by omega
   rw [hN16] at HE
   have n4 : N≤4:=by omega
   have HN:=Lib.hid hN
   have y2 : (ent m.t n).2≤40:=by omega
   have HFI:=Lib.hid (fun (R : List SL.HP) (w : World) (H : own w (imgAt b bd bh m::R))=>first_any b bd bh m hm (ent m.t n).2 y0 (by omega) R w H)
   generalize (ent m.t n).2 = y at *
   generalize m.first y = F at *
   generalize hres : m.d.puts (F + fr) (chunksN s N) = res at *
   have HRES:=Lib.hid hres
   have hd:=hm.d
   clear hth e ht r3 r6 hb hb' h1 hN hN16 hC q1 q2 q3 q4 q5 q6 hres hget
   have i1 : (0 : Int)≤(n : Int):=by omega
   have i2 : (n : Int) < (m.t.length : Int):=by omega
   go_enter Tryz.func259,Tryz.ntmps259
   go_wp2_with fail
   refine HT.out.mono ?_
   rintro e w' ⟨rfl,rfl⟩
   go_wp2_with fail
   go_loopw [9] (putInv (fun dk=>imgAt b bd bh m::devAt bd dk::R) m.d (F + fr) s N res w) (fun i _=>N - (intOf i).toNat)
   case atStart=>exact ⟨0,m.d,by omega,rfl,by simpa using HRES.out,hd,by omega,by simp,Ext.refl _,H⟩
   case round=>
    obtain ⟨q,dk,hq,rfl,hput,okd,hpk,hwk,hxr,hown⟩:=hrel
    clear c f x1 x2 h
    by_cases hlt : q < N
    ·rw [chunksN_drop s hlt] at hput
     have HPUT:=Lib.hid hput
     clear hput
     have b0 : (q : Int) * 16 < (s.size : Int):=by have:=HN.out; omega
     have b1 : (0 : Int)≤(q : Int) * 16:=by omega
     have b2 : (q : Int) * 16≤((q : Int) + 1) * 16:=by omega
     have b3 : ((q : Int) + 1) * 16≤(s.size : Int):=by have:=HN.out; omega
     have hsl : ∀wx : World,(Instr.slice 9 (.string s) (some (.int .i64 ((q : Int) * 16))) (some (.int .i64 (((q : Int) + 1) * 16))) none).run Tryz.prog wx = .ok (.string (chunk s q)) wx:=fun wx=>by
      have:=run_slice_string (P:=Tryz.prog) wx 9 s .i64 .i64 ((q : Int) * 16) (((q : Int) + 1) * 16) Tryz.underlying9 b1 b2 b3
      rw [this,chunk,show ((q : Int) * 16).toNat = q * 16 from by omega,show (((q : Int) + 1) * 16).toNat = (q + 1) * 16 from by omega]
     have hcs : (chunk s q).size = 16:=by unfold chunk; rw [ByteArray.size_extract]; have:=HN.out; omega
     have e1 : IntKind.i64.wrap ((q : Int) * 16) = (q : Int) * 16:=IntWalk.i64_in _ (by omega)
     have e2 : IntKind.i64.wrap ((q : Int) + 1) = (q : Int) + 1:=IntWalk.i64_in _ (by omega)
     have e2' : IntKind.i64.wrap (((q : Int) + 1) * 16) = ((q : Int) + 1) * 16:=IntWalk.i64_in _ (by omega)
     have e3 : IntKind.i64.wrap (F + fr) = F + fr:=IntWalk.i64_in _ (by omega)
     have e4 : IntKind.i64.wrap (F + fr + (q : Int)) = F + fr + (q : Int):=IntWalk.i64_in _ (by omega)
     have hcode:=write_nonneg dk (F + fr + (q : Int)) (chunk s q)
     obtain ⟨l1,l2,l3⟩:=write_lens dk (F + fr + (q : Int)) (chunk s q)
     have okw:=DevM.write_ok okd (F + fr + (q : Int)) (chunk s q) (by omega) (by omega)
     have HW:=Lib.hid (fun (R : List SL.HP) (w : World) (H : own w (devAt bd dk::R))=>dev_write bd dk okd (F + fr + (q : Int)) (chunk s q) (by omega) (by omega) (by omega) R w H)
     have hstep : dk.puts (F + fr + (q : Int)) (chunk s q::(chunksN s N).drop (q + 1)) = if (dk.write (F + fr + (q : Int)) (chunk s q)).1≠0 then dk.write (F + fr + (q : Int)) (chunk s q) else (dk.write (F + fr + (q : Int)) (chunk s q)).2.puts (F + fr + (q : Int) + 1) ((chunksN s N).drop (q + 1)):=rfl
     rw [HPUT.out] at hstep
     have HST:=Lib.hid hstep
     clear hstep l1
     generalize dk.write (F + fr + (q : Int)) (chunk s q) = r at *
     generalize chunk s q = ck at *
     obtain ⟨v,h⟩:=img_open hown
     obtain ⟨ao2,g2,cap2,rfl,-,-,t3,-,-,t6,-⟩:=own_row_form 1 h rfl
     obtain rfl:=t3 (by omega)
     clear t3 t6
     have hd1:=own_drew h
     go_upto_region 8 with (fail)
     go_region_held3 (fun w'=>w'.cell? ⟨b,0,none⟩ = some (.pointer (some ⟨bd,0,none⟩))∧w'.cell? ⟨b,4,none⟩ = some (.slice (some ⟨g2,0,none⟩) m.t.length cap2)∧w'.cell? ⟨g2,n * 2 + 1,none⟩ = some (.int .i64 y)) (first | exact ⟨(own_cells 0 hd1 rfl).1 0,(own_cells 0 hd1 rfl).1 4,(own_row_cells 1 hd1 rfl).1 _ _ HGET.out⟩ | exact ⟨(own_cells 0 h4 rfl).1 0,(own_cells 0 h4 rfl).1 4,(own_row_cells 1 h4 rfl).1 _ _ HGET.out⟩) (first | (go_at_call 171; refine (HFI.out _ _ (img_close hd1)).mono ?_; rintro e w' ⟨rfl,rfl⟩) | (go_at_call 160; refine (HW.out _ _ (own_pick 3 hd1 rfl)).mono ?_; rintro e w4 ⟨rfl,hx4,h4'⟩; have h4:=own_put hd1 3 rfl h4'))
     have h5 : own w4 (imgAt b bd bh m::devAt bd r.2::R):=img_close h4
     have hx5:=hxr.drew.trans hx4
     clear e1 e2 e2' e3 e4 hsl h4 h4' hd1 h
     by_cases hz : r.1 = 0
     ·have HZ:=Lib.hid hz
      rw [hz,errV_0]
      clear hz
      go_wp2_with fail
      go_roundw
      case rel=>exact ⟨q + 1,r.2,by omega,by go_num,by have:=HST.out; rw [if_neg (by simpa using HZ.out)] at this; rw [this]; congr 1; omega,okw,by omega,by omega,hx5,h5⟩
      case measure=>simp [intOf]; omega
     ·have hfin : res = r:=by have:=HST.out; rw [if_pos hz] at this; exact this
      have HF:=Lib.hid hfin
      have hpz : 0 < r.1:=by omega
      have HPE:=Lib.hid (errV_pos hpz)
      rw [errV_pos hpz]
      clear hz hfin
      go_wp2_with fail
      go_ret
      rw [HE.out,HF.out]
      exact ⟨by rw [HPE.out]; rfl,hx5,h5⟩
    ·have hqe : q = N:=by omega
     subst hqe
     rw [chunksN_end,DevM.puts] at hput
     have HF:=Lib.hid hput
     have b0 : (s.size : Int)≤(q : Int) * 16:=by have:=HN.out; omega
     clear hput hlt
     go_wp2_with fail
     go_ret
     rw [HE.out,← HF.out]
     exact ⟨rfl,hxr,hown⟩
  ·have e : m.wr n fr s = (4,m):=by unfold ImgM.wr; rw [if_neg hb,if_pos h1]
   rw [e]
   have t1 : (m.kind n != 2) = true:=bne_iff_ne.2 h1
   clear hth e ht r3 r6 hb hb' h1
   generalize m.kind n = kd at *
   have i1 : (0 : Int)≤(n : Int):=by omega
   have i2 : (n : Int) < (m.t.length : Int):=by omega
   go_enter Tryz.func259,Tryz.ntmps259
   go_wp2_with fail
   refine HT.out.mono ?_
   rintro e w' ⟨rfl,rfl⟩
   go_wp2_with fail
   go_ret
   exact ⟨rfl,Ext.refl _,H⟩
set_option maxRecDepth 100000 in
set_option maxHeartbeats 8000000 in
theorem rwrite_any (b bd : Nat) (m : ImgM) (hm : m.Ok) (hp : m.d.pend.length < 999000) (hw : m.d.writes < 999000) (k fr : Int) (f0 : i64ok fr) (s : ByteArray) (hs : s.size≤9223372036854775807) (R : List SL.HP) (w : World) (H : own w (rimgAt b bd m::rdevAt bd m.d::R)) :
  Calls Tryz.prog 241 #[.pointer (some ⟨b,0,none⟩),.int .i64 k,.int .i64 fr,.string s] w fun e w'=>e = .returned (.int .i64 (m.wr k fr s).1)∧Ext w w'∧own w' (rimgAt b bd (m.wr k fr s).2::rdevAt bd (m.wr k fr s).2.d::R):=by
 have hth:=rthere_any b bd m k _ w H
 obtain ⟨f1,f2⟩:=f0
 by_cases hb : m.wrBad k fr s
 ·have e : m.wr k fr s = (1,m):=by unfold ImgM.wr; rw [if_pos hb]
  rw [e]
  rcases wrBad_cases hb with ht | ⟨ht,g1⟩ | ⟨ht,g1,g2⟩ | ⟨ht,g1,g2,g3⟩ | ⟨ht,g1,g2,g3,g4⟩
  all_goals
   rw [ht] at hth
   have HT:=Lib.hid hth
   clear hth e ht hb
   go_enter Tryz.func241,Tryz.ntmps241
   go_wp2_with fail
   refine HT.out.mono ?_
   rintro e w' ⟨rfl,rfl⟩
   go_wp2_with fail
   go_ret
   exact ⟨rfl,Ext.refl _,H⟩
 ·have hb':=hb
  unfold ImgM.wrBad at hb'
  have ht : m.there k = true:=by cases h : m.there k; exact absurd (.inl h) hb'; rfl
  have g1 : 0≤fr:=by omega
  have g2 : fr≤4:=by omega
  have g3 : (s.size : Int) % 16 = 0:=by omega
  have g4 : (s.size : Int)≤16 * (4 - fr):=by omega
  have g4' : (s.size : Int)≤(4 - fr) * 16:=by omega
  obtain ⟨k0,-,hkl⟩:=there_range hm ht
  obtain ⟨n,rfl⟩:=Int.eq_ofNat_of_zero_le k0
  rw [Int.toNat_natCast] at hkl
  rw [ht] at hth
  have HT:=Lib.hid hth
  obtain ⟨vt,vh,h⟩:=rimg_open H
  obtain ⟨ao,g,cap,rfl,r1,r2,r3,-,-,r6,-⟩:=own_row_form 1 h rfl
  obtain rfl:=r3 (by omega)
  have x1 : w.cell? ⟨g,n * 2,none⟩ = some (.int .i64 (m.kind n)):=r6 _ _ (entCells_get hkl).1
  have x2 : w.cell? ⟨g,n * 2 + 1,none⟩ = some (.int .i64 (ent m.t n).2):=r6 _ _ (entCells_get hkl).2
  obtain ⟨c,f⟩:=own_cells 0 h rfl
  by_cases h1 : m.kind n = 2
  ·have e : m.wr n fr s = ((m.d.puts (m.first (ent m.t n).2 + fr) (chunksN s (s.size / 16))).1,{ m with d:=(m.d.puts (m.first (ent m.t n).2 + fr) (chunksN s (s.size / 16))).2 }):=by
    unfold ImgM.wr
    rw [if_neg hb,if_neg (by simpa using h1),Int.toNat_natCast]
   generalize m.wr n fr s = S at *
   have HE:=Lib.hid e
   obtain ⟨y0,y1⟩:=data_range hm hkl h1
   obtain ⟨C,hC,q1,q2,q3,q4,q5,q6,-⟩:=hm.nat
   obtain ⟨F0,F1⟩:=first_le hm y0 (by omega)
   have hget:=(entCells_get (l:=m.t) hkl).2
   have HGET : Hid ((entCells m.t)[n * 2 + 1]? = some (.int .i64 (ent m.t n).2)):=Lib.hid hget
   rw [h1] at x1
   obtain ⟨N,hN⟩ : ∃N : Nat,s.size = 16 * N:=⟨s.size / 16,by omega⟩
   have hN16 : s.size / 16 = N:=by omega
   rw [hN16] at HE
   have n4 : N≤4:=by omega
   have HN:=Lib.hid hN
   have y2 : (ent m.t n).2≤40:=by omega
   have HFI:=Lib.hid (rfirst_any b bd m hm (ent m.t n).2 y0 (by omega) _ w H)
   have HSE:=Lib.hid (rsectors_any b bd m m.d hm.d hp hw (m.first (ent m.t n).2 + fr) (by omega) (by omega) s N hN n4 R w H)
   generalize (ent m.t n).2 = y at *
   generalize m.first y = F at *
   generalize m.d.puts (F + fr) (chunksN s N) = res at *
   clear hth e ht r3 r6 hb hb' h1 hN hN16 hC q1 q2 q3 q4 q5 q6 hget
   have i1 : (0 : Int)≤(n : Int):=by omega
   have i2 : (n : Int) < (m.t.length : Int):=by omega
   go_enter Tryz.func241,Tryz.ntmps241
   go_wp2_with fail
   refine HT.out.mono ?_
   rintro e w' ⟨rfl,rfl⟩
   go_wp2_with fail
   refine HFI.out.mono ?_
   rintro e w' ⟨rfl,rfl⟩
   go_wp2_with fail
   refine HSE.out.mono ?_
   rintro e w2 ⟨rfl,hx2,h2⟩
   go_wp2_with fail
   go_ret
   rw [HE.out]
   exact ⟨rfl,hx2,h2⟩
  ·have e : m.wr n fr s = (4,m):=by unfold ImgM.wr; rw [if_neg hb,if_pos h1]
   rw [e]
   have t1 : (m.kind n != 2) = true:=bne_iff_ne.2 h1
   clear hth e ht r3 r6 hb hb' h1
   generalize m.kind n = kd at *
   have i1 : (0 : Int)≤(n : Int):=by omega
   have i2 : (n : Int) < (m.t.length : Int):=by omega
   go_enter Tryz.func241,Tryz.ntmps241
   go_wp2_with fail
   refine HT.out.mono ?_
   rintro e w' ⟨rfl,rfl⟩
   go_wp2_with fail
   go_ret
   exact ⟨rfl,Ext.refl _,H⟩
end Go.Proofs.YtbpblokfiajpjabGreatDoor

namespace Go.Proofs.YtbpblokfiajpjabGreatDoor
open Go.RowKit Go.SL Go.Crc
attribute [local go_sem ↓] Go.wp_at_zero Go.wp_at_succ
def ImgM.flush (m : ImgM) : ImgM:={ m with d:=m.d.flush,held:=[] }
set_option maxRecDepth 100000 in
set_option maxHeartbeats 2000000 in
theorem imgflush_any (b bd bh : Nat) (m : ImgM) (hd : m.d.Ok) (R : List SL.HP) (w : World) (H : own w (imgAt b bd bh m::devAt bd m.d::R)) :
  Calls Tryz.prog 172 #[.pointer (some ⟨b,0,none⟩)] w fun e w'=>e = .returned (.tuple #[])∧Ext w w'∧own w' (imgAt b bd bh m.flush::devAt bd m.d.flush::R):=by
 obtain ⟨v,h⟩:=img_open H
 obtain ⟨c,f⟩:=own_cells 0 h rfl
 go_enter Tryz.func172,Tryz.ntmps172
 go_wp2_with fail
 refine (dev_flush bd m.d hd _ w (own_pick 3 h rfl)).mono ?_
 rintro e w2 ⟨rfl,hx2,h2⟩
 have h3:=own_put h 3 rfl h2
 clear c f h2
 obtain ⟨c,f⟩:=own_cells 0 h3 rfl
 obtain ⟨w4,hr,h4,hx4⟩:=held_clear 2 h3 rfl 0
 go_wp2_with fail
 go_end0
 exact ⟨rfl,hx2.trans hx4,img_close (m:=m.flush) h4⟩
set_option maxRecDepth 100000 in
set_option maxHeartbeats 2000000 in
theorem rimgflush_any (b bd : Nat) (m : ImgM) (hd : m.d.Ok) (R : List SL.HP) (w : World) (H : own w (rimgAt b bd m::rdevAt bd m.d::R)) :
  Calls Tryz.prog 176 #[.pointer (some ⟨b,0,none⟩)] w fun e w'=>e = .returned (.tuple #[])∧Ext w w'∧own w' (rimgAt b bd m.flush::rdevAt bd m.d.flush::R):=by
 obtain ⟨vt,vh,h⟩:=rimg_open H
 obtain ⟨c,f⟩:=own_cells 0 h rfl
 go_enter Tryz.func176,Tryz.ntmps176
 go_wp2_with fail
 refine (rdev_flush bd m.d hd _ w (own_pick 3 h rfl)).mono ?_
 rintro e w2 ⟨rfl,hx2,h2⟩
 have h3:=own_put h 3 rfl h2
 clear c f h2
 obtain ⟨c,f⟩:=own_cells 0 h3 rfl
 go_wp2_with fail
 go_end0
 have h4:=own_set (i:=5) (v:=.slice none 0 0) 0 h3 rfl
 have h5:=own_behind [_,_] (own_row_nil 3 1 (own_erase 2 h4 rfl))
 exact ⟨rfl,hx2.setCell _ _,rimg_close (m:=m.flush) h5⟩
end Go.Proofs.YtbpblokfiajpjabGreatDoor

namespace Go.Proofs.YtbpblokfiajpjabGreatDoor
open Go.RowKit Go.SL Go.Crc
attribute [local go_sem ↓] Go.wp_at_zero Go.wp_at_succ
theorem puts_ok {l : List ByteArray} : ∀{d : DevM} {a : Int},d.Ok→d.pend.length + l.length≤1000000→d.writes + l.length≤1000000→
  (d.puts a l).2.Ok∧(d.puts a l).2.fl.length = d.fl.length∧(d.puts a l).2.pend.length≤d.pend.length + l.length∧(d.puts a l).2.writes≤d.writes + l.length:=by
 induction l with
 | nil=>intro d a h _ _; exact ⟨h,rfl,by simp [DevM.puts],by simp [DevM.puts]⟩
 | cons s l ih=>
  intro d a h hp hw
  simp only [List.length_cons] at hp hw ⊢
  have hok:=DevM.write_ok h a s (by omega) (by omega)
  obtain ⟨l1,l2,l3⟩:=write_lens d a s
  rw [DevM.puts]
  split
  ·exact ⟨hok,l1,by omega,by omega⟩
  ·obtain ⟨i1,i2,i3,i4⟩:=ih (a:=a + 1) hok (by omega) (by omega)
   exact ⟨i1,by omega,by omega,by omega⟩
theorem puts_nonneg {l : List ByteArray} : ∀{d : DevM} {a : Int},0≤(d.puts a l).1:=by
 induction l with
 | nil=>intro d a; simp [DevM.puts]
 | cons s l ih=>
  intro d a
  rw [DevM.puts]
  split
  ·exact write_nonneg _ _ _
  ·exact ih
theorem flushed_ok {m : ImgM} (hm : m.Ok) {d : DevM} (hd : d.Ok) (hl : d.fl.length = m.d.fl.length) : ({ m with d:=d } : ImgM).flush.Ok:=
 ⟨DevM.flush_ok hd,hm.head,hm.t,hm.ents,hm.one,List.nodup_nil,(fun x hx=>by cases hx),(fun x hx=>by cases hx),by
  have:=hm.need
  simp only [ImgM.flush,DevM.flush,foldl_setAt_length]
  omega⟩
def ImgM.fillAt (m : ImgM) (k : Nat) (s : ByteArray) (p : Int) : Int×ImgM:=
 if (m.d.puts (m.first p) (chunksN s 4)).1≠0 then ((m.d.puts (m.first p) (chunksN s 4)).1,{ m with d:=(m.d.puts (m.first p) (chunksN s 4)).2 })
 else ({ m with d:=(m.d.puts (m.first p) (chunksN s 4)).2 } : ImgM).flush.setE k (2,p)
def ImgM.fill (m : ImgM) (k : Int) (s : ByteArray) : Int×ImgM:=
 if m.there k = false∨s.size≠64 then (1,m) else if m.kind k = 2 then (5,m) else if m.freeP < 0 then (6,m) else m.fillAt k.toNat s m.freeP
theorem freeP_cases (m : ImgM) {P : Nat} (hP : m.p = P) : m.freeP = -1∨∃q : Nat,m.freeP = q∧q < P∧m.openB q = true∧∀j : Nat,j < q→m.openB j = false:=by
 unfold ImgM.freeP
 rw [hP,Int.toNat_natCast]
 cases h : (List.range P).find? fun (q : Nat)=>m.openB q with
 | none=>exact .inl rfl
 | some q=>
  rw [List.find?_range_eq_some] at h
  exact .inr ⟨q,rfl,by simpa using h.2.1,h.1,fun j hj=>by simpa using h.2.2 j hj⟩
set_option maxRecDepth 100000 in
set_option maxHeartbeats 8000000 in
theorem fill_any (b bd bh : Nat) (m : ImgM) (hm : m.Ok) (hp : m.d.pend.length < 999000) (hw : m.d.writes < 999000) (k : Int) (s : ByteArray) (hs : s.size≤9223372036854775807) (R : List SL.HP) (w : World) (H : own w (imgAt b bd bh m::devAt bd m.d::R)) :
  Calls Tryz.prog 67 #[.pointer (some ⟨b,0,none⟩),.int .i64 k,.string s] w fun e w'=>e = .returned (errV (m.fill k s).1)∧Ext w w'∧own w' (imgAt b bd bh (m.fill k s).2::devAt bd (m.fill k s).2.d::R):=by
 have hth:=there_any b bd bh m k _ w H
 cases ht : m.there k
 ·have e : m.fill k s = (1,m):=by unfold ImgM.fill; rw [if_pos (.inl ht)]
  rw [e]
  rw [ht] at hth
  have HT:=Lib.hid hth
  clear hth e ht
  go_enter Tryz.func67,Tryz.ntmps67
  go_wp2_with fail
  refine HT.out.mono ?_
  rintro e w' ⟨rfl,rfl⟩
  go_wp2_with fail
  go_ret
  exact ⟨rfl,Ext.refl _,H⟩
 ·rw [ht] at hth
  by_cases h64 : s.size = 64
  ·obtain ⟨k0,-,hkl⟩:=there_range hm ht
   obtain ⟨n,rfl⟩:=Int.eq_ofNat_of_zero_le k0
   rw [Int.toNat_natCast] at hkl
   have HT:=Lib.hid hth
   obtain ⟨C,hC,q1,q2,q3,q4,q5,q6,-⟩:=hm.nat
   obtain ⟨P,hP⟩:=Int.eq_ofNat_of_zero_le q5
   have ts : ((s.size : Int) != 64) = false:=by simp [h64]
   obtain ⟨v,h⟩:=img_open H
   obtain ⟨ao,g,cap,rfl,r1,r2,r3,-,-,r6,-⟩:=own_row_form 1 h rfl
   obtain rfl:=r3 (by omega)
   have x1 : w.cell? ⟨g,n * 2,none⟩ = some (.int .i64 (m.kind n)):=r6 _ _ (entCells_get hkl).1
   obtain ⟨c,f⟩:=own_cells 0 h rfl
   have i1 : (0 : Int)≤(n : Int):=by omega
   have i2 : (n : Int) < (m.t.length : Int):=by omega
   have hS64:=Lib.hid h64
   by_cases h1 : m.kind n = 2
   ·have e : m.fill n s = (5,m):=by unfold ImgM.fill; rw [if_neg (by rw [ht,h64]; simp),if_pos h1]
    rw [e]
    rw [h1] at x1
    clear hth e ht r3 r6 h1 h64 hC q1 q2 q3 q4 q5 q6 hP
    go_enter Tryz.func67,Tryz.ntmps67
    go_wp2_with fail
    refine HT.out.mono ?_
    rintro e w' ⟨rfl,rfl⟩
    go_wp2_with fail
    go_ret
    exact ⟨rfl,Ext.refl _,H⟩
   ·have e : m.fill n s = if m.freeP < 0 then (6,m) else m.fillAt n s m.freeP:=by unfold ImgM.fill; rw [if_neg (by rw [ht,h64]; simp),if_neg h1,Int.toNat_natCast]
    have t1 : (m.kind n == 2) = false:=beq_eq_false_iff_ne.2 h1
    generalize m.fill n s = S at *
    have HE:=Lib.hid e
    have hs64 : s.size≤64:=by omega
    have lt32 : m.t.length≤32:=by omega
    have hrange : ∀q : Nat,q < P→entOk (2,(q : Int)) m.p = true:=fun q hq=>by
     unfold entOk
     rw [if_pos rfl,hP]
     simp only [Bool.and_eq_true,decide_eq_true_eq]
     omega
    have HRG:=Lib.hid hrange
    have HP:=Lib.hid hP
    have p40 : P≤40:=by omega
    have HFI:=Lib.hid (fun (q : Nat) (hq : q < P)=>first_le hm (y:=(q : Int)) (by omega) (by omega))
    clear hth e ht r3 r6 h1 h64 hC q1 q2 q3 q4 hrange
    generalize m.kind n = kd at *
    have HFR:=Lib.hid (freep_any b bd bh m hm _ w H)
    rcases freeP_cases m hP with hf | ⟨q,hf,hq,-,-⟩
    ·have hS : S = (6,m):=by rw [HE.out,if_pos (by omega)]
     have HS:=Lib.hid hS
     rw [hf] at HFR
     clear hS hf q5 q6 hP
     go_enter Tryz.func67,Tryz.ntmps67
     go_wp2_with fail
     refine HT.out.mono ?_
     rintro e w' ⟨rfl,rfl⟩
     go_wp2_with fail
     refine HFR.out.mono ?_
     rintro e w2 ⟨rfl,hx2,h2⟩
     go_wp2_with fail
     go_ret
     rw [HS.out]
     exact ⟨rfl,hx2,h2⟩
    ·have hS : S = m.fillAt n s q:=by rw [HE.out,if_neg (by omega),hf]
     have HS:=Lib.hid hS
     rw [hf] at HFR
     have hok:=HRG.out q hq
     obtain ⟨F0,F1⟩:=HFI.out q hq
     have HF1:=Lib.hid (fun (R : List SL.HP) (w : World) (H : own w (imgAt b bd bh m::R))=>first_any b bd bh m hm (q : Int) (by omega) (by omega) R w H)
     have hfa : m.fillAt n s q = if (m.d.puts (m.first q) (chunksN s 4)).1≠0 then ((m.d.puts (m.first q) (chunksN s 4)).1,{ m with d:=(m.d.puts (m.first q) (chunksN s 4)).2 }) else ({ m with d:=(m.d.puts (m.first q) (chunksN s 4)).2 } : ImgM).flush.setE n (2,(q : Int)):=rfl
     rw [hfa] at hS
     obtain ⟨P1,P2,P3,P4⟩:=puts_ok (l:=chunksN s 4) (a:=m.first q) hm.d (by simp [chunksN]; omega) (by simp [chunksN]; omega)
     have hnn:=puts_nonneg (l:=chunksN s 4) (d:=m.d) (a:=m.first q)
     have hcl : (chunksN s 4).length = 4:=by simp [chunksN]
     generalize m.first q = F at *
     generalize hres : m.d.puts F (chunksN s 4) = res at *
     have HRES:=Lib.hid hres
     have hd:=hm.d
     have HSS:=Lib.hid hS
     have hokm:=flushed_ok hm P1 P2
     have hfl:=fun (R : List SL.HP) (w : World) (H : own w (imgAt b bd bh m::devAt bd res.2::R))=>imgflush_any b bd bh { m with d:=res.2 } P1 R w H
     have HFL:=Lib.hid hfl
     have HST:=Lib.hid (fun (R : List SL.HP) (w : World) (H : own w (imgAt b bd bh ({ m with d:=res.2 } : ImgM).flush::devAt bd res.2.flush::R))=>set_any b bd bh ({ m with d:=res.2 } : ImgM).flush hokm (show res.2.flush.writes < 1000000 by simp only [DevM.flush]; omega) (show res.2.flush.pend.length < 1000000 by simp [DevM.flush]) n hkl 2 (q : Int) hok R w H)
     generalize ({ m with d:=res.2 } : ImgM).flush.setE n (2,(q : Int)) = S2 at *
     clear hf hS HS hfa hcl hres hok q5 q6 hP hfl
     have i3 : (0 : Int)≤(q : Int):=by omega
     go_enter Tryz.func67,Tryz.ntmps67
     go_wp2_with fail
     refine HT.out.mono ?_
     rintro e w' ⟨rfl,rfl⟩
     go_wp2_with fail
     refine HFR.out.mono ?_
     rintro e w2 ⟨rfl,hx2,h2⟩
     clear c f x1 h
     go_wp2_with fail
     go_loopw [35] (putInv (fun dk=>imgAt b bd bh m::devAt bd dk::R) m.d F s 4 res w) (fun i _=>4 - (intOf i).toNat)
     case atStart=>exact ⟨0,m.d,by omega,rfl,by simpa using HRES.out,hd,by omega,by simp,hx2,h2⟩
     case round=>
      clear h2 hx2
      obtain ⟨j,dk,hj,rfl,hput,okd,hpk,hwk,hxr,hown⟩:=hrel
      by_cases hlt : j < 4
      ·rw [chunksN_drop s hlt] at hput
       have HPUT:=Lib.hid hput
       clear hput
       have b1 : (0 : Int)≤(j : Int) * 16:=by omega
       have b2 : (j : Int) * 16≤((j : Int) + 1) * 16:=by omega
       have b3 : ((j : Int) + 1) * 16≤(s.size : Int):=by have:=hS64.out; omega
       have hsl : ∀wx : World,(Instr.slice 9 (.string s) (some (.int .i64 ((j : Int) * 16))) (some (.int .i64 (((j : Int) + 1) * 16))) none).run Tryz.prog wx = .ok (.string (chunk s j)) wx:=fun wx=>by
        have:=run_slice_string (P:=Tryz.prog) wx 9 s .i64 .i64 ((j : Int) * 16) (((j : Int) + 1) * 16) Tryz.underlying9 b1 b2 b3
        rw [this,chunk,show ((j : Int) * 16).toNat = j * 16 from by omega,show (((j : Int) + 1) * 16).toNat = (j + 1) * 16 from by omega]
       have hcs : (chunk s j).size = 16:=by unfold chunk; rw [ByteArray.size_extract]; have:=hS64.out; omega
       have e1 : IntKind.i64.wrap ((j : Int) * 16) = (j : Int) * 16:=IntWalk.i64_in _ (by omega)
       have e2 : IntKind.i64.wrap ((j : Int) + 1) = (j : Int) + 1:=IntWalk.i64_in _ (by omega)
       have e2' : IntKind.i64.wrap (((j : Int) + 1) * 16) = ((j : Int) + 1) * 16:=IntWalk.i64_in _ (by omega)
       have e4 : IntKind.i64.wrap (F + (j : Int)) = F + (j : Int):=IntWalk.i64_in _ (by omega)
       have hcode:=write_nonneg dk (F + (j : Int)) (chunk s j)
       obtain ⟨l1,l2,l3⟩:=write_lens dk (F + (j : Int)) (chunk s j)
       have okw:=DevM.write_ok okd (F + (j : Int)) (chunk s j) (by omega) (by omega)
       have HW:=Lib.hid (fun (R : List SL.HP) (w : World) (H : own w (devAt bd dk::R))=>dev_write bd dk okd (F + (j : Int)) (chunk s j) (by omega) (by omega) (by omega) R w H)
       have hstep : dk.puts (F + (j : Int)) (chunk s j::(chunksN s 4).drop (j + 1)) = if (dk.write (F + (j : Int)) (chunk s j)).1≠0 then dk.write (F + (j : Int)) (chunk s j) else (dk.write (F + (j : Int)) (chunk s j)).2.puts (F + (j : Int) + 1) ((chunksN s 4).drop (j + 1)):=rfl
       rw [HPUT.out] at hstep
       have HSTP:=Lib.hid hstep
       clear hstep l1
       generalize dk.write (F + (j : Int)) (chunk s j) = r at *
       generalize chunk s j = ck at *
       obtain ⟨v,h⟩:=img_open hown
       have hd1:=own_drew h
       go_upto_region 11 with (fail)
       go_region_held3 (fun w'=>w'.cell? ⟨b,0,none⟩ = some (.pointer (some ⟨bd,0,none⟩))) (first | exact (own_cells 0 hd1 rfl).1 0 | exact (own_cells 0 h4 rfl).1 0) (first | (go_at_call 171; refine (HF1.out _ _ (img_close hd1)).mono ?_; rintro e w' ⟨rfl,rfl⟩) | (go_at_call 160; refine (HW.out _ _ (own_pick 3 hd1 rfl)).mono ?_; rintro e w4 ⟨rfl,hx4,h4'⟩; have h4:=own_put hd1 3 rfl h4'))
       have h5 : own w4 (imgAt b bd bh m::devAt bd r.2::R):=img_close h4
       have hx5:=hxr.drew.trans hx4
       clear e1 e2 e2' e4 hsl h4 h4' hd1 h
       by_cases hz : r.1 = 0
       ·have HZ:=Lib.hid hz
        rw [hz,errV_0]
        clear hz
        go_wp2_with fail
        go_roundw
        case rel=>exact ⟨j + 1,r.2,by omega,by go_num,by have:=HSTP.out; rw [if_neg (by simpa using HZ.out)] at this; rw [this]; congr 1; omega,okw,by omega,by omega,hx5,h5⟩
        case measure=>simp [intOf]; omega
       ·have hfin : res = r:=by have:=HSTP.out; rw [if_pos hz] at this; exact this
        have hS2 : S = (r.1,{ m with d:=r.2 }):=by rw [HSS.out,hfin,if_pos hz]
        have HF:=Lib.hid hS2
        have hpz : 0 < r.1:=by omega
        have HPE:=Lib.hid (errV_pos hpz)
        rw [errV_pos hpz]
        clear hz hfin hS2
        go_wp2_with fail
        go_ret
        rw [HF.out]
        exact ⟨by rw [HPE.out]; rfl,hx5,h5⟩
      ·have hje : j = 4:=by omega
       subst hje
       rw [chunksN_end,DevM.puts] at hput
       have hr0 : res.1 = 0:=by rw [← hput]
       have hr2 : res.2 = dk:=by rw [← hput]
       have hS2 : S = S2:=by rw [HSS.out,if_neg (by simpa using hr0)]
       have HF:=Lib.hid hS2
       rw [← hr2] at hown
       clear hput hlt hS2 hr0 hr2
       go_wp2_with fail
       refine (HFL.out _ wr hown).mono ?_
       rintro e w5 ⟨rfl,hx5,h5⟩
       go_wp2_with fail
       refine (HST.out _ w5 h5).mono ?_
       rintro e w6 ⟨rfl,hx6,h6⟩
       go_wp2_with fail
       go_ret
       rw [HF.out]
       exact ⟨rfl,(hxr.trans hx5).trans hx6,h6⟩
  ·have e : m.fill k s = (1,m):=by unfold ImgM.fill; rw [if_pos (.inr h64)]
   rw [e]
   have ts : ((s.size : Int) != 64) = true:=by rw [bne_iff_ne]; omega
   clear h64
   have HT:=Lib.hid hth
   clear hth e ht
   go_enter Tryz.func67,Tryz.ntmps67
   go_wp2_with fail
   refine HT.out.mono ?_
   rintro e w' ⟨rfl,rfl⟩
   go_wp2_with fail
   go_ret
   exact ⟨rfl,Ext.refl _,H⟩
set_option maxRecDepth 100000 in
set_option maxHeartbeats 8000000 in
theorem rfill_any (b bd : Nat) (m : ImgM) (hm : m.Ok) (hp : m.d.pend.length < 999000) (hw : m.d.writes < 999000) (hh : m.held.length≤1000000) (k : Int) (s : ByteArray) (hs : s.size≤9223372036854775807) (R : List SL.HP) (w : World) (H : own w (rimgAt b bd m::rdevAt bd m.d::R)) :
  Calls Tryz.prog 68 #[.pointer (some ⟨b,0,none⟩),.int .i64 k,.string s] w fun e w'=>e = .returned (.int .i64 (m.fill k s).1)∧Ext w w'∧own w' (rimgAt b bd (m.fill k s).2::rdevAt bd (m.fill k s).2.d::R):=by
 have hth:=rthere_any b bd m k _ w H
 cases ht : m.there k
 ·have e : m.fill k s = (1,m):=by unfold ImgM.fill; rw [if_pos (.inl ht)]
  rw [e]
  rw [ht] at hth
  have HT:=Lib.hid hth
  clear hth e ht
  go_enter Tryz.func68,Tryz.ntmps68
  go_wp2_with fail
  refine HT.out.mono ?_
  rintro e w' ⟨rfl,rfl⟩
  go_wp2_with fail
  go_ret
  exact ⟨rfl,Ext.refl _,H⟩
 ·rw [ht] at hth
  by_cases h64 : s.size = 64
  ·obtain ⟨k0,-,hkl⟩:=there_range hm ht
   obtain ⟨n,rfl⟩:=Int.eq_ofNat_of_zero_le k0
   rw [Int.toNat_natCast] at hkl
   have HT:=Lib.hid hth
   obtain ⟨C,hC,q1,q2,q3,q4,q5,q6,-⟩:=hm.nat
   obtain ⟨P,hP⟩:=Int.eq_ofNat_of_zero_le q5
   have ts : ((s.size : Int) != 64) = false:=by simp [h64]
   obtain ⟨vt,vh,h⟩:=rimg_open H
   obtain ⟨ao,g,cap,rfl,r1,r2,r3,-,-,r6,-⟩:=own_row_form 1 h rfl
   obtain rfl:=r3 (by omega)
   have x1 : w.cell? ⟨g,n * 2,none⟩ = some (.int .i64 (m.kind n)):=r6 _ _ (entCells_get hkl).1
   obtain ⟨c,f⟩:=own_cells 0 h rfl
   have i1 : (0 : Int)≤(n : Int):=by omega
   have i2 : (n : Int) < (m.t.length : Int):=by omega
   have hS64:=Lib.hid h64
   by_cases h1 : m.kind n = 2
   ·have e : m.fill n s = (5,m):=by unfold ImgM.fill; rw [if_neg (by rw [ht,h64]; simp),if_pos h1]
    rw [e]
    rw [h1] at x1
    clear hth e ht r3 r6 h1 h64 hC q1 q2 q3 q4 q5 q6 hP
    go_enter Tryz.func68,Tryz.ntmps68
    go_wp2_with fail
    refine HT.out.mono ?_
    rintro e w' ⟨rfl,rfl⟩
    go_wp2_with fail
    go_ret
    exact ⟨rfl,Ext.refl _,H⟩
   ·have e : m.fill n s = if m.freeP < 0 then (6,m) else m.fillAt n s m.freeP:=by unfold ImgM.fill; rw [if_neg (by rw [ht,h64]; simp),if_neg h1,Int.toNat_natCast]
    have t1 : (m.kind n == 2) = false:=beq_eq_false_iff_ne.2 h1
    generalize m.fill n s = S at *
    have HE:=Lib.hid e
    have hs64 : s.size≤64:=by omega
    have lt32 : m.t.length≤32:=by omega
    have hrange : ∀q : Nat,q < P→entOk (2,(q : Int)) m.p = true:=fun q hq=>by
     unfold entOk
     rw [if_pos rfl,hP]
     simp only [Bool.and_eq_true,decide_eq_true_eq]
     omega
    have HRG:=Lib.hid hrange
    have HP:=Lib.hid hP
    have p40 : P≤40:=by omega
    have HFI:=Lib.hid (fun (q : Nat) (hq : q < P)=>first_le hm (y:=(q : Int)) (by omega) (by omega))
    clear hth e ht r3 r6 h1 h64 hC q1 q2 q3 q4 hrange
    generalize m.kind n = kd at *
    have HOP:=Lib.hid (fun p=>ropen_any b bd m (by omega) hh p _ w H)
    rw [hP] at c
    have hsome:=fun (q : Nat)=>@freeP_some m P q hP
    have hnone:=freeP_none hP
    have HSO:=Lib.hid hsome
    have HNO:=Lib.hid hnone
    clear hsome hnone q5 q6 hP
    go_enter Tryz.func68,Tryz.ntmps68
    go_wp2_with fail
    refine HT.out.mono ?_
    rintro e w' ⟨rfl,rfl⟩
    go_wp2_with fail
    go_loop [7] (fun i=>∃q : Nat,q≤P∧i = .int .i64 q∧∀j : Nat,j < q→m.openB j = false) (fun i=>P - (intOf i).toNat)
    case atStart=>exact ⟨0,by omega,rfl,fun j h=>absurd h (by omega)⟩
    case round=>
     obtain ⟨q,hq,rfl,hj⟩:=hrel
     have HJ:=Lib.hid hj
     clear hj
     by_cases hlt : q < P
     ·go_wp2_with fail
      refine (HOP.out q).mono ?_
      rintro e w' ⟨rfl,rfl⟩
      cases ho : m.openB q
      ·have HO:=Lib.hid ho
       clear ho
       go_wp2_with fail
       go_round
       case rel=>exact ⟨q + 1,by omega,by go_num,fun j h=>by
        by_cases e : j = q
        ·subst e; exact HO.out
        ·exact HJ.out j (by omega)⟩
       case measure=>simp [intOf]; omega
      ·have hf:=HSO.out q hlt ho HJ.out
       have hS : S = m.fillAt n s q:=by rw [HE.out,if_neg (by omega),hf]
       have hok:=HRG.out q hlt
       obtain ⟨F0,F1⟩:=HFI.out q hlt
       have HF1:=Lib.hid (rfirst_any b bd m hm (q : Int) (by omega) (by omega) _ w H)
       have hfa : m.fillAt n s q = if (m.d.puts (m.first q) (chunksN s 4)).1≠0 then ((m.d.puts (m.first q) (chunksN s 4)).1,{ m with d:=(m.d.puts (m.first q) (chunksN s 4)).2 }) else ({ m with d:=(m.d.puts (m.first q) (chunksN s 4)).2 } : ImgM).flush.setE n (2,(q : Int)):=rfl
       rw [hfa] at hS
       obtain ⟨P1,P2,P3,P4⟩:=puts_ok (l:=chunksN s 4) (a:=m.first q) hm.d (by simp [chunksN]; omega) (by simp [chunksN]; omega)
       have hnn:=puts_nonneg (l:=chunksN s 4) (d:=m.d) (a:=m.first q)
       have hcl : (chunksN s 4).length = 4:=by simp [chunksN]
       have HSEC:=Lib.hid (rsectors_any b bd m m.d hm.d hp hw (m.first q) (by omega) (by omega) s 4 (by have:=hS64.out; omega) (by omega) R w H)
       generalize m.first q = F at *
       generalize m.d.puts F (chunksN s 4) = res at *
       have HSS:=Lib.hid hS
       have hokm:=flushed_ok hm P1 P2
       have hfl:=fun (R : List SL.HP) (w : World) (H : own w (rimgAt b bd m::rdevAt bd res.2::R))=>rimgflush_any b bd { m with d:=res.2 } P1 R w H
       have HFL:=Lib.hid hfl
       have HST:=Lib.hid (fun (R : List SL.HP) (w : World) (H : own w (rimgAt b bd ({ m with d:=res.2 } : ImgM).flush::rdevAt bd res.2.flush::R))=>rset_any b bd ({ m with d:=res.2 } : ImgM).flush hokm (show res.2.flush.writes < 1000000 by simp only [DevM.flush]; omega) (show res.2.flush.pend.length < 1000000 by simp [DevM.flush]) (by simp [ImgM.flush]) n hkl 2 (q : Int) hok R w H)
       generalize ({ m with d:=res.2 } : ImgM).flush.setE n (2,(q : Int)) = S2 at *
       have tq : (q == P) = false:=beq_eq_false_iff_ne.2 (by omega)
       have tq2 : ((q : Int) == (P : Int)) = false:=beq_eq_false_iff_ne.2 (by omega)
       clear hf hS hfa hcl hok hfl ho
       go_wp2_with fail
       refine HF1.out.mono ?_
       rintro e w' ⟨rfl,rfl⟩
       go_wp2_with fail
       refine HSEC.out.mono ?_
       rintro e w2 ⟨rfl,hx2,h2⟩
       clear c f x1 h
       by_cases hz : res.1 = 0
       ·have hS2 : S = S2:=by rw [HSS.out,if_neg (by simpa using hz)]
        have HF:=Lib.hid hS2
        have d0 : decide (0 < res.1) = false:=decide_eq_false (by omega)
        clear hz hS2
        go_wp2_with fail
        refine (HFL.out _ w2 h2).mono ?_
        rintro e w5 ⟨rfl,hx5,h5⟩
        go_wp2_with fail
        refine (HST.out _ w5 h5).mono ?_
        rintro e w6 ⟨rfl,hx6,h6⟩
        go_wp2_with fail
        go_ret
        rw [HF.out]
        exact ⟨rfl,(hx2.trans hx5).trans hx6,h6⟩
       ·have hS2 : S = (res.1,{ m with d:=res.2 }):=by rw [HSS.out,if_pos hz]
        have HF:=Lib.hid hS2
        have d0 : decide (0 < res.1) = true:=decide_eq_true (by omega)
        clear hz hS2
        go_wp2_with fail
        go_ret
        rw [HF.out]
        exact ⟨rfl,hx2,h2⟩
     ·have hqe : q = P:=by omega
      subst hqe
      have hf:=HNO.out HJ.out
      have hS : S = (6,m):=by rw [HE.out,if_pos (by omega)]
      have HS:=Lib.hid hS
      clear hf hS hlt
      go_wp2_with fail
      go_ret
      rw [HS.out]
      exact ⟨rfl,Ext.refl _,H⟩
  ·have e : m.fill k s = (1,m):=by unfold ImgM.fill; rw [if_pos (.inr h64)]
   rw [e]
   have ts : ((s.size : Int) != 64) = true:=by rw [bne_iff_ne]; omega
   clear h64
   have HT:=Lib.hid hth
   clear hth e ht
   go_enter Tryz.func68,Tryz.ntmps68
   go_wp2_with fail
   refine HT.out.mono ?_
   rintro e w' ⟨rfl,rfl⟩
   go_wp2_with fail
   go_ret
   exact ⟨rfl,Ext.refl _,H⟩
end Go.Proofs.YtbpblokfiajpjabGreatDoor

namespace Go.Proofs.YtbpblokfiajpjabGreatDoor
open Go.RowKit Go.SL Go.Crc
attribute [local go_sem ↓] Go.wp_at_zero Go.wp_at_succ
def ImgM.link (m : ImgM) (k : Int) : Int×ImgM:=
 if headBad m.c m.p k then (1,m)
 else if (m.d.flush.write 0 (headS m.c m.p k)).1≠0 then ((m.d.flush.write 0 (headS m.c m.p k)).1,{ m.flush with d:=(m.d.flush.write 0 (headS m.c m.p k)).2 })
 else (0,{ m.flush with d:=(m.d.flush.write 0 (headS m.c m.p k)).2.flush,b:=k })
set_option maxRecDepth 100000 in
set_option maxHeartbeats 8000000 in
theorem link_any (b bd bh : Nat) (m : ImgM) (hm : m.Ok) (hw : m.d.writes < 999000) (k : Int) (R : List SL.HP) (w : World) (H : own w (imgAt b bd bh m::devAt bd m.d::R)) :
  Calls Tryz.prog 186 #[.pointer (some ⟨b,0,none⟩),.int .i64 k] w fun e w'=>e = .returned (errV (m.link k).1)∧Ext w w'∧own w' (imgAt b bd bh (m.link k).2::devAt bd (m.link k).2.d::R):=by
 obtain ⟨v,h⟩:=img_open H
 obtain ⟨c,f⟩:=own_cells 0 h rfl
 have e : m.link k = if headBad m.c m.p k then (1,m) else if (m.d.flush.write 0 (headS m.c m.p k)).1≠0 then ((m.d.flush.write 0 (headS m.c m.p k)).1,{ m.flush with d:=(m.d.flush.write 0 (headS m.c m.p k)).2 })
  else (0,{ m.flush with d:=(m.d.flush.write 0 (headS m.c m.p k)).2.flush,b:=k }):=rfl
 generalize m.link k = S at *
 have HE:=Lib.hid e
 clear e
 go_enter Tryz.func186,Tryz.ntmps186
 go_upto_region 2 with (fail)
 have ha:=own_alloc H (.cells #[.int .i64 m.c,.int .i64 m.p,.int .i64 m.b] 103)
 have hxa:=(Ext.refl w).alloc (.cells #[.int .i64 m.c,.int .i64 m.p,.int .i64 m.b] 103)
 clear c f h
 generalize w.heap.size = gh at *
 generalize w.alloc (.cells #[.int .i64 m.c,.int .i64 m.p,.int .i64 m.b] 103) = w1 at *
 obtain ⟨c,f⟩:=own_cells 0 ha rfl
 go_upto_region 3 with (fail)
 have h1:=own_set (i:=2) (v:=.int .i64 k) 0 ha rfl
 have hx1:=hxa.setCell ⟨gh,2,none⟩ (.int .i64 k)
 clear c f ha hxa
 generalize w1.setCell ⟨gh,2,none⟩ (.int .i64 k) = w2 at *
 replace h1 : own w2 (pts gh (.cells #[.int .i64 m.c,.int .i64 m.p,.int .i64 k] 103 (0,0))::imgAt b bd bh m::devAt bd m.d::R):=h1
 obtain ⟨c,f⟩:=own_cells 0 h1 rfl
 have hsz : (headS m.c m.p k).size = 16:=seal_size (xs:=[83,89,m.c,m.p,k + 1]) (by simp)
 by_cases hb : headBad m.c m.p k
 ·have hS : S = (1,m):=by rw [HE.out,if_pos hb]
  have HS:=Lib.hid hS
  have hq:=head_any m.c m.p k _ w2 h1
  rw [show headF m.c m.p k = 1 from if_pos hb,if_neg (by decide)] at hq
  have HQ:=Lib.hid hq
  unfold headV at HQ
  clear hq hb hS
  go_wp2_with fail
  refine HQ.out.mono ?_
  rintro e w3 ⟨rfl,hx3,h3⟩
  rw [show errV 1 = .iface 128 (.int .i64 1) from rfl]
  go_wp2_with fail
  go_ret
  rw [HS.out]
  exact ⟨rfl,hx1.trans hx3,own_drop h3⟩
 ·have hE2 : S = if (m.d.flush.write 0 (headS m.c m.p k)).1≠0 then ((m.d.flush.write 0 (headS m.c m.p k)).1,{ m.flush with d:=(m.d.flush.write 0 (headS m.c m.p k)).2 })
   else (0,{ m.flush with d:=(m.d.flush.write 0 (headS m.c m.p k)).2.flush,b:=k }):=by rw [HE.out,if_neg hb]
  have HE2:=Lib.hid hE2
  have okf:=DevM.flush_ok hm.d
  have fw : m.d.flush.writes = m.d.writes:=rfl
  have fp : m.d.flush.pend.length = 0:=rfl
  have okw:=DevM.write_ok okf 0 (headS m.c m.p k) (by omega) (by omega)
  have hnn:=write_nonneg m.d.flush 0 (headS m.c m.p k)
  have HF:=Lib.hid (fun (R : List SL.HP) (w : World) (H : own w (imgAt b bd bh m::devAt bd m.d::R))=>imgflush_any b bd bh m hm.d R w H)
  have hq:=head_any m.c m.p k _ w2 h1
  rw [show headF m.c m.p k = 0 from if_neg hb,if_pos rfl,errV_0] at hq
  have HW:=Lib.hid (fun (R : List SL.HP) (w : World) (H : own w (devAt bd m.d.flush::R))=>dev_write bd m.d.flush okf 0 (headS m.c m.p k) (by omega) (by omega) (by omega) R w H)
  have HQ:=Lib.hid hq
  unfold headV at HQ
  clear hq hb hE2 fw fp
  generalize m.d.flush.write 0 (headS m.c m.p k) = r at *
  have HF2:=Lib.hid (fun (R : List SL.HP) (w : World) (H : own w (imgAt b bd bh m.flush::devAt bd r.2::R))=>imgflush_any b bd bh { m.flush with d:=r.2 } okw R w H)
  generalize headS m.c m.p k = hs at *
  go_wp2_with fail
  refine HQ.out.mono ?_
  rintro e w3 ⟨rfl,hx3,h3⟩
  replace hx3:=hx1.trans hx3
  clear c f h1 hx1
  go_wp2_with fail
  refine (HF.out _ w3 (own_behind [_,_] h3)).mono ?_
  rintro e w4 ⟨rfl,hx4,h4⟩
  replace hx4:=hx3.trans hx4
  clear h3 hx3
  obtain ⟨v,h5⟩:=img_open h4
  clear h4
  obtain ⟨c,f⟩:=own_cells 0 h5 rfl
  go_wp2_with fail
  refine (HW.out _ w4 (own_pick 3 h5 rfl)).mono ?_
  rintro e w5 ⟨rfl,hx5,h6'⟩
  have h6:=own_put h5 3 rfl h6'
  replace hx5:=hx4.trans hx5
  clear c f h5 h6' hx4
  by_cases hz : r.1 = 0
  ·have hS : S = (0,{ m.flush with d:=r.2.flush,b:=k }):=by rw [HE2.out,if_neg (by simpa using hz)]
   have HS:=Lib.hid hS
   rw [hz,errV_0]
   clear hz hS
   have h7 : own w5 (imgAt b bd bh m.flush::devAt bd r.2::pts gh (.cells #[.int .i64 m.c,.int .i64 m.p,.int .i64 k] 103 (0,0))::R):=img_close h6
   clear h6
   go_wp2_with fail
   refine (HF2.out _ w5 h7).mono ?_
   rintro e w8 ⟨rfl,hx8,h8⟩
   replace hx8:=hx5.trans hx8
   obtain ⟨v2,h9⟩:=img_open h8
   clear h7 h8 hx5
   obtain ⟨c,f⟩:=own_cells 0 h9 rfl
   obtain ⟨c4,f4⟩:=own_cells 4 h9 rfl
   go_wp2_with fail
   go_ret
   rw [HS.out]
   have h10:=own_set (i:=3) (v:=.int .i64 k) 0 (own_set (i:=2) (v:=.int .i64 m.p) 0 (own_set (i:=1) (v:=.int .i64 m.c) 0 h9 rfl) rfl) rfl
   refine ⟨rfl,((hx8.setCell _ _).setCell _ _).setCell _ _,?_⟩
   have h11:=img_close (m:={ m.flush with d:=r.2.flush,b:=k }) h10
   exact own_erase 2 h11 rfl
  ·have hS : S = (r.1,{ m.flush with d:=r.2 }):=by rw [HE2.out,if_pos hz]
   have HS:=Lib.hid hS
   have hpz : 0 < r.1:=by omega
   have HPE:=Lib.hid (errV_pos hpz)
   rw [errV_pos hpz]
   clear hz hS
   go_wp2_with fail
   go_ret
   rw [HS.out]
   have h11:=img_close (m:={ m.flush with d:=r.2 }) h6
   exact ⟨by rw [HPE.out]; rfl,hx5,own_erase 2 h11 rfl⟩
set_option maxRecDepth 100000 in
set_option maxHeartbeats 8000000 in
theorem rlink_any (b bd : Nat) (m : ImgM) (hm : m.Ok) (hw : m.d.writes < 999000) (k : Int) (R : List SL.HP) (w : World) (H : own w (rimgAt b bd m::rdevAt bd m.d::R)) :
  Calls Tryz.prog 187 #[.pointer (some ⟨b,0,none⟩),.int .i64 k] w fun e w'=>e = .returned (.int .i64 (m.link k).1)∧Ext w w'∧own w' (rimgAt b bd (m.link k).2::rdevAt bd (m.link k).2.d::R):=by
 obtain ⟨vt,vh,h⟩:=rimg_open H
 obtain ⟨c,f⟩:=own_cells 0 h rfl
 have e : m.link k = if headBad m.c m.p k then (1,m) else if (m.d.flush.write 0 (headS m.c m.p k)).1≠0 then ((m.d.flush.write 0 (headS m.c m.p k)).1,{ m.flush with d:=(m.d.flush.write 0 (headS m.c m.p k)).2 })
  else (0,{ m.flush with d:=(m.d.flush.write 0 (headS m.c m.p k)).2.flush,b:=k }):=rfl
 generalize m.link k = S at *
 have HE:=Lib.hid e
 clear e
 go_enter Tryz.func187,Tryz.ntmps187
 go_upto_region 2 with (fail)
 have ha:=own_alloc H (.cells #[.int .i64 m.c,.int .i64 m.p,.int .i64 m.b] 103)
 have hxa:=(Ext.refl w).alloc (.cells #[.int .i64 m.c,.int .i64 m.p,.int .i64 m.b] 103)
 clear c f h
 generalize w.heap.size = gh at *
 generalize w.alloc (.cells #[.int .i64 m.c,.int .i64 m.p,.int .i64 m.b] 103) = w1 at *
 obtain ⟨c,f⟩:=own_cells 0 ha rfl
 go_upto_region 3 with (fail)
 have h1:=own_set (i:=2) (v:=.int .i64 k) 0 ha rfl
 have hx1:=hxa.setCell ⟨gh,2,none⟩ (.int .i64 k)
 clear c f ha hxa
 generalize w1.setCell ⟨gh,2,none⟩ (.int .i64 k) = w2 at *
 replace h1 : own w2 (pts gh (.cells #[.int .i64 m.c,.int .i64 m.p,.int .i64 k] 103 (0,0))::rimgAt b bd m::rdevAt bd m.d::R):=h1
 obtain ⟨c,f⟩:=own_cells 0 h1 rfl
 have hsz : (headS m.c m.p k).size = 16:=seal_size (xs:=[83,89,m.c,m.p,k + 1]) (by simp)
 by_cases hb : headBad m.c m.p k
 ·have hS : S = (1,m):=by rw [HE.out,if_pos hb]
  have HS:=Lib.hid hS
  have hq:=headfault_any m.c m.p k _ w2 h1
  rw [show headF m.c m.p k = 1 from if_pos hb] at hq
  have HQ:=Lib.hid hq
  unfold headV at HQ
  clear hq hb hS
  go_wp2_with fail
  refine HQ.out.mono ?_
  rintro e w3 ⟨rfl,hx3,h3⟩
  skip
  go_wp2_with fail
  go_ret
  rw [HS.out]
  exact ⟨rfl,hx1.trans hx3,own_drop h3⟩
 ·have hE2 : S = if (m.d.flush.write 0 (headS m.c m.p k)).1≠0 then ((m.d.flush.write 0 (headS m.c m.p k)).1,{ m.flush with d:=(m.d.flush.write 0 (headS m.c m.p k)).2 })
   else (0,{ m.flush with d:=(m.d.flush.write 0 (headS m.c m.p k)).2.flush,b:=k }):=by rw [HE.out,if_neg hb]
  have HE2:=Lib.hid hE2
  have okf:=DevM.flush_ok hm.d
  have fw : m.d.flush.writes = m.d.writes:=rfl
  have fp : m.d.flush.pend.length = 0:=rfl
  have okw:=DevM.write_ok okf 0 (headS m.c m.p k) (by omega) (by omega)
  have hnn:=write_nonneg m.d.flush 0 (headS m.c m.p k)
  have HF:=Lib.hid (fun (R : List SL.HP) (w : World) (H : own w (rimgAt b bd m::rdevAt bd m.d::R))=>rimgflush_any b bd m hm.d R w H)
  have hq:=headfault_any m.c m.p k _ w2 h1
  rw [show headF m.c m.p k = 0 from if_neg hb] at hq
  have HW:=Lib.hid (fun (R : List SL.HP) (w : World) (H : own w (rdevAt bd m.d.flush::R))=>rdev_write bd m.d.flush okf 0 (headS m.c m.p k) (by omega) (by omega) (by omega) R w H)
  have HSC:=Lib.hid (fun (R : List SL.HP) (w : World) (H : own w R)=>headsector_any m.c m.p k hb R w H)
  unfold headV at HSC
  have HQ:=Lib.hid hq
  unfold headV at HQ
  clear hq hb hE2 fw fp
  generalize m.d.flush.write 0 (headS m.c m.p k) = r at *
  have HF2:=Lib.hid (fun (R : List SL.HP) (w : World) (H : own w (rimgAt b bd m.flush::rdevAt bd r.2::R))=>rimgflush_any b bd { m.flush with d:=r.2 } okw R w H)
  generalize headS m.c m.p k = hs at *
  go_wp2_with fail
  refine HQ.out.mono ?_
  rintro e w3 ⟨rfl,hx3,h3⟩
  replace hx3:=hx1.trans hx3
  clear c f h1 hx1
  go_wp2_with fail
  refine (HF.out _ w3 (own_behind [_,_] h3)).mono ?_
  rintro e w4 ⟨rfl,hx4,h4⟩
  replace hx4:=hx3.trans hx4
  clear h3 hx3
  obtain ⟨vt,vh,h5⟩:=rimg_open h4
  clear h4
  have hd1:=own_drew h5
  go_upto_region 7 with (fail)
  go_region_held3 (fun w'=>w'.cell? ⟨b,0,none⟩ = some (.pointer (some ⟨bd,0,none⟩))∧w'.cell? ⟨gh,0,none⟩ = some (.int .i64 m.c)∧w'.cell? ⟨gh,1,none⟩ = some (.int .i64 m.p)∧w'.cell? ⟨gh,2,none⟩ = some (.int .i64 k)) (first | exact ⟨(own_cells 0 hd1 rfl).1 0,(own_cells 4 hd1 rfl).1 0,(own_cells 4 hd1 rfl).1 1,(own_cells 4 hd1 rfl).1 2⟩ | exact ⟨(own_cells 0 h7 rfl).1 0,(own_cells 4 h7 rfl).1 0,(own_cells 4 h7 rfl).1 1,(own_cells 4 h7 rfl).1 2⟩ | exact ⟨(own_cells 0 h6 rfl).1 0,(own_cells 4 h6 rfl).1 0,(own_cells 4 h6 rfl).1 1,(own_cells 4 h6 rfl).1 2⟩) (first | (go_at_call 165; refine (HSC.out _ _ hd1).mono ?_; rintro e w7 ⟨rfl,hx7,h7⟩) | (go_at_call 163; refine (HW.out _ _ (own_pick 3 h7 rfl)).mono ?_; rintro e w5 ⟨rfl,hx5',h6'⟩; have h6:=own_put h7 3 rfl h6'))
  have hx5:=(hx4.drew.trans hx7).trans hx5'
  clear hd1 h7 h6' h5 hx4
  by_cases hz : r.1 = 0
  ·have hS : S = (0,{ m.flush with d:=r.2.flush,b:=k }):=by rw [HE2.out,if_neg (by simpa using hz)]
   have HS:=Lib.hid hS
   have d0 : decide (0 < r.1) = false:=decide_eq_false (by omega)
   clear hz hS
   have h7 : own w5 (rimgAt b bd m.flush::rdevAt bd r.2::pts gh (.cells #[.int .i64 m.c,.int .i64 m.p,.int .i64 k] 103 (0,0))::R):=rimg_close h6
   clear h6
   go_wp2_with fail
   refine (HF2.out _ w5 h7).mono ?_
   rintro e w8 ⟨rfl,hx8,h8⟩
   replace hx8:=hx5.trans hx8
   obtain ⟨vt2,vh2,h9⟩:=rimg_open h8
   clear h7 h8 hx5
   obtain ⟨c,f⟩:=own_cells 0 h9 rfl
   obtain ⟨c4,f4⟩:=own_cells 4 h9 rfl
   go_wp2_with fail
   go_ret
   rw [HS.out]
   have h10:=own_set (i:=3) (v:=.int .i64 k) 0 (own_set (i:=2) (v:=.int .i64 m.p) 0 (own_set (i:=1) (v:=.int .i64 m.c) 0 h9 rfl) rfl) rfl
   refine ⟨rfl,((hx8.setCell _ _).setCell _ _).setCell _ _,?_⟩
   have h11:=rimg_close (m:={ m.flush with d:=r.2.flush,b:=k }) h10
   exact own_erase 2 h11 rfl
  ·have hS : S = (r.1,{ m.flush with d:=r.2 }):=by rw [HE2.out,if_pos hz]
   have HS:=Lib.hid hS
   have hpz : 0 < r.1:=by omega
   have d0 : decide (0 < r.1) = true:=decide_eq_true hpz
   skip
   clear hz hS
   go_wp2_with fail
   go_ret
   rw [HS.out]
   have h11:=rimg_close (m:={ m.flush with d:=r.2 }) h6
   exact ⟨rfl,hx5,own_erase 2 h11 rfl⟩
end Go.Proofs.YtbpblokfiajpjabGreatDoor

namespace Go.Proofs.YtbpblokfiajpjabGreatDoor
open Go.RowKit Go.SL Go.Crc
attribute [local go_sem ↓] Go.wp_at_zero Go.wp_at_succ
theorem foldl_size {p : List (Int×ByteArray)} {a : Int} : ∀{s : ByteArray},s.size = 16→(∀x∈p,x.2.size = 16)→(p.foldl (fun s x=>if x.1 = a then x.2 else s) s).size = 16:=by
 induction p with
 | nil=>intro s h _; exact h
 | cons x p ih=>
  intro s h hp
  rw [List.foldl_cons]
  refine ih ?_ fun y hy=>hp y (by simp [hy])
  split
  ·exact hp x (by simp)
  ·exact h
theorem seen_size {m : DevM} (hm : m.Ok) {a : Int} (h0 : 0≤a) (h1 : a < m.fl.length) : (m.seen a).size = 16:=by
 unfold DevM.seen
 refine foldl_size (hm.fl _ ?_) fun x hx=>(hm.pend x hx).2.2
 simp [show a.toNat < m.fl.length by omega]
def ImgM.secs (m : ImgM) (y : Int) (q : Nat) : List ByteArray:=(List.range q).map fun (j : Nat)=>m.d.seen (m.first y + (j : Int))
def ImgM.read (m : ImgM) (k : Int) : ByteArray×Int:=
 if m.there k = true then (if m.kind k = 0 then (ByteArray.empty,4) else if m.kind k = 1 then (zs 64,0) else (cat (m.secs (ent m.t k.toNat).2 4),0)) else (ByteArray.empty,1)
theorem secs_succ (m : ImgM) (y : Int) (q : Nat) : cat (m.secs y (q + 1)) = cat (m.secs y q)++m.d.seen (m.first y + (q : Int)):=by
 unfold ImgM.secs
 rw [List.range_succ,List.map_append]
 apply Go.WideShapes.bytes_inj
 simp [cat,catL]
theorem kind_cases {m : ImgM} (hm : m.Ok) {k : Nat} (hk : k < m.t.length) : m.kind k = 0∨m.kind k = 1∨m.kind k = 2:=by
 have h:=entOk_range (hm.ents (ent m.t k) (by unfold ent; simp [hk]))
 have e : m.kind k = (ent m.t k).1:=rfl
 rw [e]
 omega
theorem first_in {m : ImgM} (hm : m.Ok) {y : Int} (h0 : 0≤y) (h1 : y < m.p) : m.first y + 4≤m.d.fl.length:=by
 have:=hm.need
 unfold ImgM.first
 omega
set_option maxRecDepth 100000 in
set_option maxHeartbeats 8000000 in
theorem read_any (b bd bh : Nat) (m : ImgM) (hm : m.Ok) (k : Int) (R : List SL.HP) (w : World) (H : own w (imgAt b bd bh m::devAt bd m.d::R)) :
  Calls Tryz.prog 153 #[.pointer (some ⟨b,0,none⟩),.int .i64 k] w fun e w'=>e = .returned (.tuple #[.string (m.read k).1,errV (m.read k).2])∧Ext w w'∧own w' (imgAt b bd bh m::devAt bd m.d::R):=by
 have hth:=there_any b bd bh m k _ w H
 cases ht : m.there k
 ·have e : m.read k = (ByteArray.empty,1):=by unfold ImgM.read; rw [ht,if_neg (by decide)]
  rw [e]
  rw [ht] at hth
  have HT:=Lib.hid hth
  clear hth e ht
  go_enter Tryz.func153,Tryz.ntmps153
  go_wp2_with fail
  refine HT.out.mono ?_
  rintro e w' ⟨rfl,rfl⟩
  go_wp2_with fail
  go_ret2
  exact ⟨rfl,Ext.refl _,H⟩
 ·rw [ht] at hth
  obtain ⟨k0,-,hkl⟩:=there_range hm ht
  obtain ⟨n,rfl⟩:=Int.eq_ofNat_of_zero_le k0
  rw [Int.toNat_natCast] at hkl
  have HT:=Lib.hid hth
  obtain ⟨v,h⟩:=img_open H
  obtain ⟨ao,g,cap,rfl,r1,r2,r3,-,-,r6,-⟩:=own_row_form 1 h rfl
  obtain rfl:=r3 (by omega)
  have x1 : w.cell? ⟨g,n * 2,none⟩ = some (.int .i64 (m.kind n)):=r6 _ _ (entCells_get hkl).1
  obtain ⟨c,f⟩:=own_cells 0 h rfl
  have i1 : (0 : Int)≤(n : Int):=by omega
  have i2 : (n : Int) < (m.t.length : Int):=by omega
  rcases kind_cases hm hkl with h0 | h0 | h0
  ·have e : m.read n = (ByteArray.empty,4):=by unfold ImgM.read; rw [ht,if_pos rfl,if_pos h0]
   rw [e]
   rw [h0] at x1
   clear hth e ht r3 r6 h0
   go_enter Tryz.func153,Tryz.ntmps153
   go_wp2_with fail
   refine HT.out.mono ?_
   rintro e w' ⟨rfl,rfl⟩
   go_wp2_with fail
   go_ret2
   exact ⟨rfl,Ext.refl _,H⟩
  ·have e : m.read n = (zs 64,0):=by unfold ImgM.read; rw [ht,if_pos rfl,if_neg (by omega),if_pos h0]
   rw [e]
   rw [h0] at x1
   clear hth e ht r3 r6 h0
   go_enter Tryz.func153,Tryz.ntmps153
   go_wp2_with fail
   refine HT.out.mono ?_
   rintro e w' ⟨rfl,rfl⟩
   go_wp2_with fail
   refine (rep_any 64 (by omega) w).mono ?_
   rintro e w2 ⟨rfl,hb2⟩
   go_wp2_with fail
   go_ret2
   exact ⟨rfl,ext_below hb2,own_below H hb2⟩
  ·have e : m.read n = (cat (m.secs (ent m.t n).2 4),0):=by unfold ImgM.read; rw [ht,if_pos rfl,if_neg (by omega),if_neg (by omega),Int.toNat_natCast]
   rw [e]
   rw [h0] at x1
   obtain ⟨y0,y1⟩:=data_range hm hkl h0
   have hin:=first_in hm y0 y1
   obtain ⟨C,hC,q1,q2,q3,q4,q5,q6,-⟩:=hm.nat
   obtain ⟨F0,F1⟩:=first_le hm y0 (by omega)
   have HGET : Hid ((entCells m.t)[n * 2 + 1]? = some (.int .i64 (ent m.t n).2)):=Lib.hid (entCells_get (l:=m.t) hkl).2
   have HSEC:=Lib.hid (secs_succ m (ent m.t n).2)
   have HSZ:=Lib.hid (fun (q : Nat) (hq : q≤4)=>show (cat (m.secs (ent m.t n).2 q)).size = q * 16 from by
    have:=catL_length (l:=m.secs (ent m.t n).2 q) (k:=16) fun s hs=>by
     simp only [ImgM.secs,List.mem_map,List.mem_range] at hs
     obtain ⟨j,hj,rfl⟩:=hs
     exact seen_size hm.d (by omega) (by omega)
    simp [ImgM.secs] at this
    simpa [cat,ByteArray.size,ImgM.secs] using this)
   have HSS:=Lib.hid (fun (q : Nat) (hq : q < 4)=>seen_size hm.d (a:=m.first (ent m.t n).2 + (q : Int)) (by omega) (by omega))
   have hd:=hm.d
   have hl2 : m.d.fl.length≤200:=hd.n
   have HFI:=Lib.hid (fun (R : List SL.HP) (w : World) (H : own w (imgAt b bd bh m::R))=>first_any b bd bh m hm (ent m.t n).2 y0 (by omega) R w H)
   have hc0 : cat (m.secs (ent m.t n).2 0) = ⟨#[]⟩:=rfl
   have HC0:=Lib.hid hc0
   generalize hcq : (fun q=>cat (m.secs (ent m.t n).2 q)) = CQ at *
   have hcq' : ∀q,cat (m.secs (ent m.t n).2 q) = CQ q:=fun q=>by rw [← hcq]
   simp only [hcq'] at HSEC HSZ HC0 ⊢
   clear hcq hcq' hc0
   generalize (ent m.t n).2 = y at *
   generalize m.first y = F at *
   clear hth e ht r3 r6 h0 hC q1 q2 q3 q4 q5 q6
   go_enter Tryz.func153,Tryz.ntmps153
   go_wp2_with fail
   refine HT.out.mono ?_
   rintro e w' ⟨rfl,rfl⟩
   go_wp2_with fail
   go_loopw [6,29] (fun s i wr=>∃q : Nat,q≤4∧i = .int .i64 q∧s = .string (CQ q)∧Ext w wr∧own wr (imgAt b bd bh m::devAt bd m.d::R)) (fun _ i _=>4 - (intOf i).toNat)
   case atStart=>exact ⟨0,by omega,rfl,by rw [HC0.out],Ext.refl _,H⟩
   case round=>
    clear c f x1 h
    obtain ⟨q,hq,rfl,rfl,hxr,hown⟩:=hrel
    by_cases hlt : q < 4
    ·have hz:=HSZ.out q (by omega)
     have hss:=HSS.out q hlt
     have hsec:=HSEC.out q
     have e4 : IntKind.i64.wrap (F + (q : Int)) = F + (q : Int):=IntWalk.i64_in _ (by omega)
     have hg0 : 0≤F + (q : Int):=by omega
     have hg1 : F + (q : Int) < m.d.fl.length:=by omega
     obtain ⟨v,h⟩:=img_open hown
     obtain ⟨ao2,g2,cap2,rfl,-,-,t3,-,-,t6,-⟩:=own_row_form 1 h rfl
     obtain rfl:=t3 (by omega)
     clear t3 t6
     have hd1:=own_drew h
     have HSEQ:=Lib.hid hsec
     clear hsec
     have HRD:=Lib.hid (fun (R : List SL.HP) (w : World) (H : own w (devAt bd m.d::R))=>dev_read bd m.d hd (F + (q : Int)) R w H)
     rw [if_neg (show ¬(F + (q : Int) < 0∨(m.d.fl.length : Int)≤F + (q : Int)) by omega)] at HRD
     generalize m.d.seen (F + (q : Int)) = sq at *
     generalize CQ q = cq at *
     go_upto_region 12 with (fail)
     go_region_held3 (fun w'=>w'.cell? ⟨b,0,none⟩ = some (.pointer (some ⟨bd,0,none⟩))∧w'.cell? ⟨b,4,none⟩ = some (.slice (some ⟨g2,0,none⟩) m.t.length cap2)∧w'.cell? ⟨g2,n * 2 + 1,none⟩ = some (.int .i64 y)) (exact ⟨(own_cells 0 hd1 rfl).1 0,(own_cells 0 hd1 rfl).1 4,(own_row_cells 1 hd1 rfl).1 _ _ HGET.out⟩) (first | (go_at_call 171; refine (HFI.out _ _ (img_close hd1)).mono ?_; rintro e w' ⟨rfl,rfl⟩) | (go_at_call 96; refine (HRD.out _ _ (own_pick 3 hd1 rfl)).mono ?_; rintro e w' ⟨rfl,rfl⟩))
     have h5 : own _ (imgAt b bd bh m::devAt bd m.d::R):=img_close hd1
     have hx5:=hxr.drew
     clear e4 hd1 h
     go_wp2_with fail
     go_roundw
     case rel=>exact ⟨q + 1,by omega,by go_num,by rw [HSEQ.out],hx5,h5⟩
     case measure=>simp [intOf]; omega
    ·have hqe : q = 4:=by omega
     subst hqe
     go_wp2_with fail
     go_ret2
     exact ⟨rfl,hxr,hown⟩
set_option maxRecDepth 100000 in
set_option maxHeartbeats 8000000 in
theorem rread_any (b bd : Nat) (m : ImgM) (hm : m.Ok) (k : Int) (R : List SL.HP) (w : World) (H : own w (rimgAt b bd m::rdevAt bd m.d::R)) :
  Calls Tryz.prog 192 #[.pointer (some ⟨b,0,none⟩),.int .i64 k] w fun e w'=>e = .returned (.tuple #[.string (m.read k).1,.int .i64 (m.read k).2])∧Ext w w'∧own w' (rimgAt b bd m::rdevAt bd m.d::R):=by
 have hth:=rthere_any b bd m k _ w H
 cases ht : m.there k
 ·have e : m.read k = (ByteArray.empty,1):=by unfold ImgM.read; rw [ht,if_neg (by decide)]
  rw [e]
  rw [ht] at hth
  have HT:=Lib.hid hth
  clear hth e ht
  go_enter Tryz.func192,Tryz.ntmps192
  go_wp2_with fail
  refine HT.out.mono ?_
  rintro e w' ⟨rfl,rfl⟩
  go_wp2_with fail
  go_ret2
  exact ⟨rfl,Ext.refl _,H⟩
 ·rw [ht] at hth
  obtain ⟨k0,-,hkl⟩:=there_range hm ht
  obtain ⟨n,rfl⟩:=Int.eq_ofNat_of_zero_le k0
  rw [Int.toNat_natCast] at hkl
  have HT:=Lib.hid hth
  obtain ⟨vt,vh,h⟩:=rimg_open H
  obtain ⟨ao,g,cap,rfl,r1,r2,r3,-,-,r6,-⟩:=own_row_form 1 h rfl
  obtain rfl:=r3 (by omega)
  have x1 : w.cell? ⟨g,n * 2,none⟩ = some (.int .i64 (m.kind n)):=r6 _ _ (entCells_get hkl).1
  obtain ⟨c,f⟩:=own_cells 0 h rfl
  have i1 : (0 : Int)≤(n : Int):=by omega
  have i2 : (n : Int) < (m.t.length : Int):=by omega
  rcases kind_cases hm hkl with h0 | h0 | h0
  ·have e : m.read n = (ByteArray.empty,4):=by unfold ImgM.read; rw [ht,if_pos rfl,if_pos h0]
   rw [e]
   rw [h0] at x1
   clear hth e ht r3 r6 h0
   go_enter Tryz.func192,Tryz.ntmps192
   go_wp2_with fail
   refine HT.out.mono ?_
   rintro e w' ⟨rfl,rfl⟩
   go_wp2_with fail
   go_ret2
   exact ⟨rfl,Ext.refl _,H⟩
  ·have e : m.read n = (zs 64,0):=by unfold ImgM.read; rw [ht,if_pos rfl,if_neg (by omega),if_pos h0]
   rw [e]
   rw [h0] at x1
   clear hth e ht r3 r6 h0
   go_enter Tryz.func192,Tryz.ntmps192
   go_wp2_with fail
   refine HT.out.mono ?_
   rintro e w' ⟨rfl,rfl⟩
   go_wp2_with fail
   refine (noughts_any 64 (by omega) _ w H).mono ?_
   rintro e w2 ⟨rfl,hx2,h2⟩
   go_wp2_with fail
   go_ret2
   exact ⟨rfl,hx2,h2⟩
  ·have e : m.read n = (cat (m.secs (ent m.t n).2 4),0):=by unfold ImgM.read; rw [ht,if_pos rfl,if_neg (by omega),if_neg (by omega),Int.toNat_natCast]
   rw [e]
   rw [h0] at x1
   obtain ⟨y0,y1⟩:=data_range hm hkl h0
   have hin:=first_in hm y0 y1
   obtain ⟨C,hC,q1,q2,q3,q4,q5,q6,-⟩:=hm.nat
   obtain ⟨F0,F1⟩:=first_le hm y0 (by omega)
   have HGET : Hid ((entCells m.t)[n * 2 + 1]? = some (.int .i64 (ent m.t n).2)):=Lib.hid (entCells_get (l:=m.t) hkl).2
   have HSEC:=Lib.hid (secs_succ m (ent m.t n).2)
   have HSZ:=Lib.hid (fun (q : Nat) (hq : q≤4)=>show (cat (m.secs (ent m.t n).2 q)).size = q * 16 from by
    have:=catL_length (l:=m.secs (ent m.t n).2 q) (k:=16) fun s hs=>by
     simp only [ImgM.secs,List.mem_map,List.mem_range] at hs
     obtain ⟨j,hj,rfl⟩:=hs
     exact seen_size hm.d (by omega) (by omega)
    simp [ImgM.secs] at this
    simpa [cat,ByteArray.size,ImgM.secs] using this)
   have HSS:=Lib.hid (fun (q : Nat) (hq : q < 4)=>seen_size hm.d (a:=m.first (ent m.t n).2 + (q : Int)) (by omega) (by omega))
   have hd:=hm.d
   have hl2 : m.d.fl.length≤200:=hd.n
   have HFI:=Lib.hid (fun (R : List SL.HP) (w : World) (H : own w (rimgAt b bd m::R))=>rfirst_any b bd m hm (ent m.t n).2 y0 (by omega) R w H)
   have hc0 : cat (m.secs (ent m.t n).2 0) = ⟨#[]⟩:=rfl
   have HC0:=Lib.hid hc0
   generalize hcq : (fun q=>cat (m.secs (ent m.t n).2 q)) = CQ at *
   have hcq' : ∀q,cat (m.secs (ent m.t n).2 q) = CQ q:=fun q=>by rw [← hcq]
   simp only [hcq'] at HSEC HSZ HC0 ⊢
   clear hcq hcq' hc0
   generalize (ent m.t n).2 = y at *
   generalize m.first y = F at *
   clear hth e ht r3 r6 h0 hC q1 q2 q3 q4 q5 q6
   go_enter Tryz.func192,Tryz.ntmps192
   go_wp2_with fail
   refine HT.out.mono ?_
   rintro e w' ⟨rfl,rfl⟩
   go_wp2_with fail
   go_loopw [6,7] (fun s i wr=>∃q : Nat,q≤4∧i = .int .i64 q∧s = .string (CQ q)∧Ext w wr∧own wr (rimgAt b bd m::rdevAt bd m.d::R)) (fun _ i _=>4 - (intOf i).toNat)
   case atStart=>exact ⟨0,by omega,rfl,by rw [HC0.out],Ext.refl _,H⟩
   case round=>
    clear c f x1 h
    obtain ⟨q,hq,rfl,rfl,hxr,hown⟩:=hrel
    by_cases hlt : q < 4
    ·have hz:=HSZ.out q (by omega)
     have hss:=HSS.out q hlt
     have hsec:=HSEC.out q
     have e4 : IntKind.i64.wrap (F + (q : Int)) = F + (q : Int):=IntWalk.i64_in _ (by omega)
     have hg0 : 0≤F + (q : Int):=by omega
     have hg1 : F + (q : Int) < m.d.fl.length:=by omega
     obtain ⟨vt,vh,h⟩:=rimg_open hown
     obtain ⟨ao2,g2,cap2,rfl,-,-,t3,-,-,t6,-⟩:=own_row_form 1 h rfl
     obtain rfl:=t3 (by omega)
     clear t3 t6
     have y0:=(own_cells 0 h rfl).1 0
     have y4:=(own_cells 0 h rfl).1 4
     have y5:=(own_row_cells 1 h rfl).1 _ _ HGET.out
     have HOW:=Lib.hid h
     have HSEQ:=Lib.hid hsec
     clear hsec
     have HRD:=Lib.hid (fun (R : List SL.HP) (w : World) (H : own w (rdevAt bd m.d::R))=>rdev_seen bd m.d hd (F + (q : Int)) hg0 hg1 R w H)
     generalize m.d.seen (F + (q : Int)) = sq at *
     generalize CQ q = cq at *
     go_upto_region 12 with (fail)
     go_quiet ((first | (go_at_call 175; exact Calls.quiet_of_same ((HFI.out _ _ (rimg_close (by first | exact HOW.out | exact own_drew HOW.out | exact own_drewN _ HOW.out))).mono fun e w' h=>⟨h.1,h.2.symm⟩)) | (go_at_call 101; exact Calls.quiet_of_same ((HRD.out _ _ (own_pick 3 (by first | exact HOW.out | exact own_drew HOW.out | exact own_drewN _ HOW.out) rfl)).mono fun e w' h=>⟨h.1,h.2.symm⟩))))
     have h5 : own _ (rimgAt b bd m::rdevAt bd m.d::R):=rimg_close (own_drewN nq HOW.out)
     have hx5:=hxr.drewN nq
     clear e4 h y0 y4 y5
     go_wp2_with fail
     go_roundw
     case rel=>exact ⟨q + 1,by omega,by go_num,by rw [HSEQ.out],hx5,h5⟩
     case measure=>simp [intOf]; omega
    ·have hqe : q = 4:=by omega
     subst hqe
     go_wp2_with fail
     go_ret2
     exact ⟨rfl,hxr,hown⟩
end Go.Proofs.YtbpblokfiajpjabGreatDoor

namespace Go.Proofs.YtbpblokfiajpjabGreatDoor
open Go.RowKit Go.SL Go.Crc
attribute [local go_sem ↓] Go.wp_at_zero Go.wp_at_succ
def fitBad (d : DevM) (c p b : Int) : Prop:=headBad c p b∨(d.fl.length : Int) < needN c p
instance (d : DevM) (c p b : Int) : Decidable (fitBad d c p b):=by unfold fitBad; infer_instance
def fitF (d : DevM) (c p b : Int) : Int:=if fitBad d c p b then 1 else 0
set_option maxRecDepth 100000 in
set_option maxHeartbeats 2000000 in
theorem fits_any (bd : Nat) (d : DevM) (hd : d.Ok) (c p b : Int) (R : List SL.HP) (w : World) (H : own w (devAt bd d::R)) :
  Calls Tryz.prog 155 #[.pointer (some ⟨bd,0,none⟩),headV c p b] w fun e w'=>e = .returned (errV (fitF d c p b))∧Ext w w'∧own w' (devAt bd d::R):=by
 have ha:=own_alloc H (.cells #[.int .i64 c,.int .i64 p,.int .i64 b] 103)
 have hxa:=(Ext.refl w).alloc (.cells #[.int .i64 c,.int .i64 p,.int .i64 b] 103)
 obtain ⟨F,hF⟩ : ∃F,F = fitF d c p b:=⟨_,rfl⟩
 rw [← hF]
 have HF:=Lib.hid hF
 clear hF
 have hq:=checkhead_any c p b _ _ ha
 by_cases hb : headBad c p b
 ·have hS : F = 1:=by rw [HF.out,fitF,if_pos (.inl hb)]
  rw [show headF c p b = 1 from if_pos hb] at hq
  have HQ:=Lib.hid hq
  have HS:=Lib.hid hS
  unfold headV at HQ
  unfold headV
  clear hq hb hS
  go_enter Tryz.func155,Tryz.ntmps155
  go_upto_region 1 with (fail)
  obtain ⟨cc,ff⟩:=own_cells 0 ha rfl
  generalize w.heap.size = g at *
  generalize w.alloc (.cells #[.int .i64 c,.int .i64 p,.int .i64 b] 103) = w1 at *
  go_wp2_with fail
  refine HQ.out.mono ?_
  rintro e w2 ⟨rfl,hx2,h2⟩
  rw [show errV 1 = .iface 128 (.int .i64 1) from rfl]
  go_wp2_with fail
  go_ret
  rw [HS.out]
  exact ⟨rfl,hxa.trans hx2,own_drop h2⟩
 ·rw [show headF c p b = 0 from if_neg hb,errV_0] at hq
  have HQ:=Lib.hid hq
  have HN:=Lib.hid (fun (R : List SL.HP) (w : World) (H : own w R)=>need_any c p b hb R w H)
  have hE : F = if (d.fl.length : Int) < needN c p then 1 else 0:=by
   rw [HF.out]
   unfold fitF
   by_cases h : (d.fl.length : Int) < needN c p
   ·rw [if_pos (show fitBad d c p b from .inr h),if_pos h]
   ·rw [if_neg (show ¬fitBad d c p b from fun h'=>h'.elim hb h),if_neg h]
  have HE:=Lib.hid hE
  unfold headV at HQ HN
  unfold headV
  clear hq hb hE
  generalize needN c p = nd at *
  go_enter Tryz.func155,Tryz.ntmps155
  go_upto_region 1 with (fail)
  obtain ⟨cc,ff⟩:=own_cells 0 ha rfl
  generalize w.heap.size = g at *
  generalize w.alloc (.cells #[.int .i64 c,.int .i64 p,.int .i64 b] 103) = w1 at *
  go_wp2_with fail
  refine HQ.out.mono ?_
  rintro e w2 ⟨rfl,hx2,h2⟩
  clear cc ff
  obtain ⟨cc,ff⟩:=own_cells 0 h2 rfl
  go_wp2_with fail
  refine (HN.out _ w2 h2).mono ?_
  rintro e w3 ⟨rfl,hx3,h3⟩
  go_wp2_with fail
  refine (dev_size bd d _ w3 (own_pick 1 h3 rfl)).mono ?_
  rintro e w4 ⟨rfl,rfl⟩
  have hx4:=(hxa.trans hx2).trans hx3
  by_cases h : (d.fl.length : Int) < nd
  ·have hS : F = 1:=by rw [HE.out,if_pos h]
   have HS:=Lib.hid hS
   have d0 : decide ((d.fl.length : Int) < nd) = true:=decide_eq_true h
   clear h hS
   go_wp2_with fail
   go_ret
   rw [HS.out]
   exact ⟨rfl,hx4,own_drop h3⟩
  ·have hS : F = 0:=by rw [HE.out,if_neg h]
   have HS:=Lib.hid hS
   have d0 : decide ((d.fl.length : Int) < nd) = false:=decide_eq_false h
   clear h hS
   go_wp2_with fail
   go_ret
   rw [HS.out]
   exact ⟨rfl,hx4,own_drop h3⟩
def zeroT (c : Int) : List Ent:=List.replicate c.toNat (0,0)
def rowsL (t : List Ent) : List ByteArray:=(List.range (rowsN t.length)).map fun (k : Nat)=>(rowOf t k).1
def madeM (d : DevM) (c p b : Int) : ImgM:=⟨d,c,p,b,zeroT c,[]⟩
def createR (d : DevM) (c p b : Int) : Int×ImgM:=
 if fitBad d c p b then (1,madeM d c p b)
 else if (d.puts 1 (rowsL (zeroT c))).1≠0 then ((d.puts 1 (rowsL (zeroT c))).1,madeM (d.puts 1 (rowsL (zeroT c))).2 c p b)
 else if ((d.puts 1 (rowsL (zeroT c))).2.flush.write 0 (headS c p b)).1≠0 then (((d.puts 1 (rowsL (zeroT c))).2.flush.write 0 (headS c p b)).1,madeM ((d.puts 1 (rowsL (zeroT c))).2.flush.write 0 (headS c p b)).2 c p b)
 else (0,madeM ((d.puts 1 (rowsL (zeroT c))).2.flush.write 0 (headS c p b)).2.flush c p b)
def MadePost (bd : Nat) (S : Int×ImgM) (R : List SL.HP) (w : World) (e : Ending) (w' : World) : Prop:=
 (S.1≠0∧e = .returned (.tuple #[.pointer none,errV S.1])∧Ext w w'∧own w' (devAt bd S.2.d::R))∨
 (S.1 = 0∧∃bi bh,e = .returned (.tuple #[.pointer (some ⟨bi,0,none⟩),.nilIface])∧Ext w w'∧own w' (imgAt bi bd bh S.2::devAt bd S.2.d::R))
theorem entCells_zero (n : Nat) : (madeCells #[.int .i64 0,.int .i64 0] (n * 2)).toList = entCells (List.replicate n (0,0)):=by
 induction n with
 | zero=>simp [madeCells,entCells]
 | succ n ih=>
  rw [List.replicate_succ',entCells_append,← ih]
  unfold madeCells
  rw [show (n + 1) * 2 = n * 2 + 1 + 1 by omega]
  simp [Array.range_succ,entCells,Nat.add_mod]
end Go.Proofs.YtbpblokfiajpjabGreatDoor
