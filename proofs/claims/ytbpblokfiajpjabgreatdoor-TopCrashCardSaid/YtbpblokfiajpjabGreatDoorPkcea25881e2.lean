/- TopCrash answers true, whatever the clusters, the places and the acts, and leaves what it was given as it was. No conditions. -/
import Derived.Test.YtbpblokfiajpjabGreatDoorPkbc04eca19b
import Derived.Test.YtbpblokfiajpjabGreatDoorCards
import Derived.Test.YtbpblokfiajpjabGreatDoorTie
import Derived.ShutString
import Derived.ChangeOld
import Derived.Below
import Derived.LaidOnce
import Derived.SevenTiedAt
set_option linter.all false
set_option maxRecDepth 1000000
set_option maxHeartbeats 32000000
namespace Go.Proofs.YtbpblokfiajpjabGreatDoor
open Go.RowKit Go.SL Go.Crc
attribute [local go_sem ↓] Go.wp_at_zero Go.wp_at_succ
theorem P9 {g : lO} {s : ByteArray} {B : Nat} (hB : 0 < B) : LsOk (AS g s) B:=by
 intro i hi
 simp only [AS,List.length_map,List.length_range] at hi
 unfold AS
 dsimp only
 rw [G0 hi]
 exact ⟨Nat.zero_lt_one,hB,Nat.zero_lt_one,hB⟩
theorem T0 {C : Int} {N : Nat} (Y : YA) (m : le) (ht : YT C m) (hc : CI C m) (hs : SA m) (hg : ly N m) (hl : YLen m) (hN : N < 900000) (v : Value) (vs : List Value) (ks : List (List Bool)) (R : List SL.HP) (hv : ∀w' L,own w' (L++R) -> Iy w' v vs ks) (w : World) (H : own w (yL Y m R)) :
  Calls Tryz.prog 34 #[.pointer (some ⟨Y.y,0,none⟩),v] w fun e w'=>∃Y' : YA,e = .returned (.tuple #[.pointer (some ⟨Y'.y,0,none⟩),.nilIface]) /\ Ext w w' /\ own w' (yL Y' (yW m ks).2 (yL Y m R)):=
 (Q5 N Y m hg.ok hN (fun k hk=>hl.dev hg.ok hk) v vs ks R hv w H).mono fun e w' h=>(h.resolve_left fun h=>h.1 (K7 ht hc hs hg.ok ks).1).2
theorem SH {m : le} (h : ∀j,m.job = some j -> j.st = 2) : ∃k f s n : Int,Ey m = .agg #[.int .i64 k,.int .i64 f,.int .i64 s,.int .i64 n] /\ (k = 0 \/ ((k != 0) = true /\ s = 2)):=by
 unfold Ey
 cases hj : m.job with
 | none=>exact ⟨0,-1,0,0,rfl,.inl rfl⟩
 | some j=>
  refine ⟨j.kind,j.file,j.st,(cnt j.x : Nat),rfl,?_⟩
  by_cases h0 : j.kind = 0
  ·exact .inl h0
  ·exact .inr ⟨bne_iff_ne.2 h0,h j hj⟩
theorem Ut {Y Y' : YA} {m m' : le} {P : SL.HP} {R : List SL.HP} {w : World} (H : own w (yL Y' m' (yL Y m (P::R)))) : own w (yL Y' m' R):=by
 have h:=Do (shL Y'.bs Y'.A m'.F++yT Y' m') (shL Y.bs Y.A m.F++(yT Y m++[P])) (E:=R) (by simpa only [zp,List.cons_append,List.nil_append] using H)
 simpa only [zp] using h
theorem P6 (gb : Nat) (vn vc : Value) (nv0 cv0 : Nat -> Value) (g : lO) (s : ByteArray) (hs : M1 g.cr s) (hc : g.cr.length = g.now.length) (hn : g.now.length <= 1000) {B : Nat} (hB : LsOk g B) (hB2 : B <= 100000) (R : List SL.HP) (w : World) (H : own w (gL gb vn vc nv0 cv0 g++R)) :
  Calls Tryz.prog 56 #[.pointer (some ⟨gb,0,none⟩),.string s] w fun e w'=>∃nv cv,e = .returned (.bool true) /\ Ext w w' /\ own w' (gL gb vn vc nv cv (AS g s)++R):=by
 obtain ⟨hs1,hs2⟩:=hs
 rw [hc] at hs1 hs2
 have HSEC:=zh (fun k (hk : k < g.now.length) (w : World)=>FI s k (by omega) (by omega) w)
 have HL:=zh (fun k=>BM (fun i=>[lw s i]) g.now k)
 have HLC:=zh (fun k=>(BM (fun i=>[lw s i]) g.cr k).trans hc)
 have HAT:=zh (fun k (hk : k <= g.now.length) i=>Js (f:=fun i=>[lw s i]) (l:=g.cr) (q:=k) (by omega) i)
 have HB:=zh hB
 have HS2:=zh hs2
 have hmap : ∀l : List (List ByteArray),l.length = g.now.length -> o8 (fun i=>[lw s i]) l g.now.length = (List.range g.now.length).map fun i=>[lw s i]:=fun l hl=>by
  rw [<- hl]
  refine GP (by simp) fun i hi=>?_
  unfold lsAt
  rw [List.getD_eq_getElem?_getD,List.getElem?_map,List.getElem?_range hi]
  rfl
 have HE:=zh (show AS g s = { now:=o8 (fun i=>[lw s i]) g.now g.now.length,cr:=o8 (fun i=>[lw s i]) g.cr g.now.length } by
  unfold AS
  rw [hmap g.now rfl,hmap g.cr hc])
 clear hmap
 have hz16 : (s.size : Int) = 16 * (g.now.length : Int):=by omega
 obtain ⟨ao0,a0,cap0,hv0,-,-,h30,-,-,-,-⟩:=lm 1 H rfl
 obtain ⟨ao1,a1,cap1,hv1,-,-,h31,-,-,-,-⟩:=lm 2 H rfl
 rw [hc] at hv1 h31
 have hc0:=(Ax H).1
 clear hB hs1 hs2
 generalize hgn : g.now.length = n at *
 have HGN:=zh hgn
 have HC:=zh hc
 clear hgn hc
 rw [hv0] at hc0
 go_enter Tryz.func56,Tryz.ntmps56
 go_wp2_with fail
 go_loopw [5] (fun kv wr=>∃(k : Nat) (nv cv : Nat -> Value),k <= n /\ kv = .int .i64 k /\ Ext w wr /\ own wr (gL gb vn vc nv cv { now:=o8 (fun i=>[lw s i]) g.now k,cr:=o8 (fun i=>[lw s i]) g.cr k }++R)) (fun kv _=>n - (intOf kv).toNat)
 case atStart=>exact ⟨0,nv0,cv0,by omega,rfl,zR w,H⟩
 case round=>
  clear H hc0
  obtain ⟨k,nv,cv,hk,rfl,hxr,hown⟩:=hrel
  obtain ⟨c0,d0,-,-⟩:=Ax hown
  rw [hv0] at c0
  rw [hv1] at d0
  by_cases hlt : k < n
  ·have hsec:=HSEC.out k hlt wr
   have hlen:=HL.out k
   have hlc:=HLC.out k
   obtain rfl:=h30 (by omega)
   obtain rfl:=h31 (by omega)
   have e0 : lsAt (o8 (fun i=>[lw s i]) g.cr k) k = lsAt g.cr k:=by rw [HAT.out k hk k,zq (by omega)]
   have HHAS:=zh (XJ (gb:=gb) (vn:=vn) (vc:=vc) (cn:=nv) (rn:=nv) (cc:=cv) (rc:=cv) (g:={ now:=o8 (fun i=>[lw s i]) g.now k,cr:=o8 (fun i=>[lw s i]) g.cr k }) (R:=R) (w:=wr) (i:=k) (by dsimp only; omega) (by show (lsAt (o8 _ _ _) k).length <= _; rw [e0]; have:=(HB.out k (by rw [HGN.out]; exact hlt)).2.2.2; omega) (lw s k) (by show _∈lsAt (o8 _ _ _) k; rw [e0]; exact HS2.out k hlt) hown)
   have HNX : Hid (o8 (fun i=>[lw s i]) g.now (k + 1) = (o8 (fun i=>[lw s i]) g.now k).set k [lw s k]):=zh rfl
   have HCX : Hid (o8 (fun i=>[lw s i]) g.cr (k + 1) = (o8 (fun i=>[lw s i]) g.cr k).set k [lw s k]):=zh rfl
   have HLL:=zh (And.intro hlen hlc)
   clear hlen hlc e0
   generalize o8 (fun i=>[lw s i]) g.now k = nk at *
   generalize o8 (fun i=>[lw s i]) g.cr k = ck at *
   generalize lw s k = t at *
   have s2:=(Dp (g:={ now:=nk,cr:=ck }) hv1 HLL.out.2 hlt hown).1
   have p1 : (0 : Int) <= (k : Int):=by omega
   have p3 : (k : Int) < (n : Int):=by omega
   have h2:=Dt t hown
   have hx2:=hxr.alloc (.cells #[.string t] 9)
   obtain ⟨c1,f1⟩:=AO (g:={ now:=nk,cr:=ck }) hv0 HLL.out.1 hlt (lg h2)
   have h3:=Dx (g:={ now:=nk.set k [t],cr:=ck }) hv0 (by dsimp only; rw [List.length_set]; exact HLL.out.1) hlt (.slice (some ⟨wr.heap.size,0,none⟩) 1 1) (Fb (by dsimp only; rw [HLL.out.1]; exact hlt) (.slice (some ⟨wr.heap.size,0,none⟩) 1 1) [t] h2)
   have hx3:=hx2.setCell ⟨a0,k,none⟩ (.slice (some ⟨wr.heap.size,0,none⟩) 1 1)
   clear hown hxr h2 hx2
   go_wp2_with fail
   refine hsec.mono ?_
   rintro e w1 ⟨rfl,rfl⟩
   go_wp2_with fail
   refine HHAS.out.mono ?_
   rintro e w1 ⟨rfl,rfl⟩
   go_upto_region 11 with (fail)
   clear HHAS hsec s2 c0 d0 c1 f1
   generalize ((wr.alloc (.cells #[.string t] 9)).setCell ⟨a0,k,none⟩ (.slice (some ⟨wr.heap.size,0,none⟩) 1 1)) = wx at *
   obtain ⟨-,d0,-,-⟩:=Ax h3
   rw [hv1] at d0
   have h4:=Dt t h3
   have hx4:=hx3.alloc (.cells #[.string t] 9)
   obtain ⟨c1,f1⟩:=Dp (g:={ now:=nk.set k [t],cr:=ck }) hv1 HLL.out.2 hlt (lg h4)
   have h5:=F9 (g:={ now:=nk.set k [t],cr:=ck.set k [t] }) hv1 (by dsimp only; rw [List.length_set]; exact HLL.out.2) hlt (.slice (some ⟨wx.heap.size,0,none⟩) 1 1) (Ke (g:={ now:=nk.set k [t],cr:=ck }) (by dsimp only; rw [HLL.out.2]; exact hlt) (.slice (some ⟨wx.heap.size,0,none⟩) 1 1) [t] h4)
   have hx5:=hx4.setCell ⟨a1,k,none⟩ (.slice (some ⟨wx.heap.size,0,none⟩) 1 1)
   clear h3 hx3 h4 hx4
   go_wp2_with fail
   go_roundw
   case rel=>exact ⟨k + 1,_,_,by omega,by go_num,hx5,by rw [HNX.out,HCX.out]; exact h5⟩
   case measure=>simp [intOf]; omega
  ·obtain rfl : k = n:=by omega
   go_wp2_with fail
   go_ret
   exact ⟨nv,cv,rfl,hxr,by rw [HE.out]; exact hown⟩







def A4 (x : Act) : Nat:=(min (max x.A 0) 9).toNat
def o7 (x : Act) (i : Nat) : Nat:=min (A4 x * i) x.keep.length
def B4 (x : Act) : List (List Bool):=(List.range 5).map fun i=>x.keep.drop (o7 x i)
def M4 (x : Act) (ko : Option Addr) (kc i : Nat) : Value:=.slice (if kc = o7 x i then ko else ko.map (·.add (o7 x i * 1))) (x.keep.length - o7 x i) (kc - o7 x i)
def BN (x : Act) (ko : Option Addr) (kc q : Nat) : List Value:=(List.range q).map (M4 x ko kc)
theorem PQ (x : Act) (ko : Option Addr) (kc q : Nat) : BN x ko kc (q + 1) = BN x ko kc q++[M4 x ko kc q]:=by
 unfold BN; rw [List.range_succ,List.map_append]; rfl
theorem Sh (x : Act) : (B4 x).length = 5:=by simp [B4]
theorem Tg : Elem Tryz.prog 43 1 24 (.slice none 0 0):=by unfold Elem; kernel_rfl
theorem O7 (a : Option Addr) (n c : Nat) : ∀u∈[Value.slice a n c],u.oneCell' = true:=fun u hu=>by simp at hu; subst hu; rfl
theorem St {w : World} {ko : Option Addr} {n kc fr : Nat} {ks : List Bool} (h : zJ w (.slice ko n kc) ks) (hn : ks.length = n) (hf : fr <= n) :
  zJ w (.slice (if kc = fr then ko else ko.map (·.add (fr * 1))) (n - fr) (kc - fr)) (ks.drop fr):=by
 obtain ⟨ao,b,off,cap,he,h1,h2,h3,h4⟩:=h
 simp only [Value.slice.injEq] at he
 obtain ⟨rfl,he2,rfl⟩:=he
 refine ⟨_,b,off + fr,kc - fr,by rw [List.length_drop,hn],by rw [List.length_drop]; omega,by omega,fun hp=>?_,fun i hi=>?_⟩
 ·rw [List.length_drop] at hp
  rw [zq (by omega),h3 (by omega)]
  simp [Addr.add]
 ·rw [List.length_drop] at hi
  have:=h4 (fr + i) (by omega)
  rw [Nat.add_assoc,this]
  have e : (ks.drop fr).getD i false = ks.getD (fr + i) false:=by
   unfold List.getD
   rw [List.getElem?_drop]
  rw [e]
theorem VN {x : Act} {ko : Option Addr} {kc : Nat} {R : List SL.HP} {v : Value} (hv : ∀w' L,own w' (L++R) -> zJ w' (.slice ko x.keep.length kc) x.keep) : ∀w' L,own w' (L++(row 43 1 v 5 (BN x ko kc 5)::R)) -> Iy w' v (BN x ko kc 5) (B4 x):=fun w' L h=>by
 have hb:=hv w' (L++[row 43 1 v 5 (BN x ko kc 5)]) (by simpa only [zp,List.cons_append,List.nil_append] using h)
 obtain ⟨ao,g,cap,rfl,h1,h2,h3,-,-,h6,-⟩:=lm L.length h (by rw [List.getElem?_append_right (Nat.le_refl _),Nat.sub_self]; rfl)
 have hl:=Sh x
 have hat : ∀i,i < 5 -> (BN x ko kc 5)[i]? = some (M4 x ko kc i):=fun i hi=>by
  unfold BN
  rw [List.getElem?_map,List.getElem?_range hi]
  rfl
 refine ⟨⟨ao,g,0,cap,by rw [hl],by omega,by simp only [maxLen] at h2; omega,fun hp=>h3 (by omega),fun i hi=>?_⟩,fun i hi=>?_⟩
 ·rw [hl] at hi
  rw [Nat.zero_add,List.getD,hat i hi]
  exact h6 i _ (hat i hi)
 ·rw [hl] at hi
  rw [List.getD,hat i hi]
  have hk : (B4 x).getD i [] = x.keep.drop (o7 x i):=by
   unfold B4
   rw [List.getD,List.getElem?_map,List.getElem?_range hi]
   rfl
  rw [hk]
  exact St hb rfl (Nat.min_le_right _ _)
theorem Ue (x : Act) (ko : Option Addr) (kc : Nat) (hkl : x.keep.length <= 300) (hkc : x.keep.length <= kc) (R : List SL.HP) (w : World) (H : own w R) :
  Calls Tryz.prog 33 #[.agg #[.string x.kind,.int .i64 x.A,.int .i64 x.B,.int .i64 x.C,.int .i64 x.D,.string x.S,.slice ko x.keep.length kc]] w fun e w'=>∃v,e = .returned v /\ Ext w w' /\ own w' (row 43 1 v 5 (BN x ko kc 5)::R):=by
 have hb:=lF 43 1 (lh H (.cells #[.string x.kind,.int .i64 x.A,.int .i64 x.B,.int .i64 x.C,.int .i64 x.D,.string x.S,.slice ko x.keep.length kc] 45))
 have hxb:=(zR w).alloc (.cells #[.string x.kind,.int .i64 x.A,.int .i64 x.B,.int .i64 x.C,.int .i64 x.D,.string x.S,.slice ko x.keep.length kc] 45)
 have hten : min (max x.A 0) 9 = (A4 x : Int):=by unfold A4; omega
 have ht9 : A4 x <= 9:=by unfold A4; omega
 go_enter Tryz.func33,Tryz.ntmps33
 go_upto_region 1 with (fail)
 generalize w.heap.size = ba at *
 generalize w.alloc (.cells #[.string x.kind,.int .i64 x.A,.int .i64 x.B,.int .i64 x.C,.int .i64 x.D,.string x.S,.slice ko x.keep.length kc] 45) = w1 at *
 go_wp2_with fail
 go_loopw [4,3] (fun iv v wr=>∃q : Nat,q <= 5 /\ iv = .int .i64 q /\ Ext w wr /\ own wr (row 43 1 v q (BN x ko kc q)::pts ba (.cells #[.string x.kind,.int .i64 x.A,.int .i64 x.B,.int .i64 x.C,.int .i64 x.D,.string x.S,.slice ko x.keep.length kc] 45 (0,0))::R)) (fun iv _ _=>6 - (intOf iv).toNat)
 case atStart=>exact ⟨0,by omega,rfl,hxb,hb⟩
 case round=>
  clear hb hxb
  obtain ⟨q,hq,rfl,hxr,hown⟩:=hrel
  by_cases hlt : q < 5
  ·have g1 : (q : Int) < 5:=by omega
   have g2 : (0 : Int) <= (q : Int):=by omega
   have c1:=(ld 1 hown rfl).1 1
   have c6:=(ld 1 hown rfl).1 6
   obtain ⟨va,g,cap,rfl,r1,r2,r3,-,-,-,-⟩:=lm 0 hown rfl
   have hks:=PQ x ko kc q
   have hkv : M4 x ko kc q = .slice (if kc = o7 x q then ko else ko.map (·.add (o7 x q * 1))) (x.keep.length - o7 x q) (kc - o7 x q):=rfl
   have hkf : o7 x q = min (A4 x * q) x.keep.length:=rfl
   have hp45 : A4 x * q <= 45:=Nat.mul_le_mul ht9 (show q <= 5 by omega)
   have e1 : (A4 x : Int) * (q : Int) = ((A4 x * q : Nat) : Int):=(Int.natCast_mul _ _).symm
   have hsl : ∀wx,(Instr.slice 43 (.slice ko x.keep.length kc) (some (.int .i64 (o7 x q : Int))) none none).run Tryz.prog wx = .ok (.slice (if kc = o7 x q then ko else ko.map (·.add (o7 x q * 1))) (x.keep.length - o7 x q) (kc - o7 x q)) wx:=fun wx=>by
    rw [run_slice_l (P:=Tryz.prog) (w:=wx) (t:=43) (a:=ko) (len:=x.keep.length) (cap:=kc) (ht:=Tryz.underlying43) (kl:=.i64) (l:=(o7 x q : Int)) (h0:=by omega) (h1:=by omega),zn]
    rfl
   have e2 : min ((A4 x * q : Nat) : Int) (x.keep.length : Int) = (o7 x q : Int):=by omega
   generalize A4 x * q = p at *
   generalize hso : (if kc = o7 x q then ko else ko.map (·.add (o7 x q * 1))) = so at *
   generalize x.keep.length - o7 x q = sn at *
   generalize kc - o7 x q = sc at *
   generalize o7 x q = fq at *
   have HKS:=zh hks
   have HKV:=zh hkv
   clear hks hkv hkf hso
   have ha:=lh hown (.cells #[.slice so sn sc] 43)
   go_wp2_with (first | (at_builtin; refine lX rfl _ _ 71 rfl 1 43 Tryz.underlying71 Tg rfl (by decide) rfl ha rfl (some ⟨_,0,none⟩) 1 1 [.slice so sn sc] rfl rfl (yl _ [.slice so sn sc] _) (fun h=>by cases h) (O7 _ _ _) (by simp only [maxLen]; omega) (by omega) ?_))
   intro v' w7 h7 hx7
   have h8:=lg h7
   have hx8:=(hxr.alloc (.cells #[.slice so sn sc] 43)).trans hx7
   go_wp2_with fail
   go_roundw
   case rel=>exact ⟨q + 1,by omega,by go_num,hx8,by rw [HKS.out,HKV.out]; exact h8⟩
   case measure=>simp [intOf]; omega
  ·obtain rfl : q = 5:=by omega
   go_wp2_with fail
   go_ret
   exact ⟨_,rfl,hxr,li 1 hown rfl⟩
theorem MP (c p : Int) (v : Value) (l : List Act) (w : World) (hv : BY w v l) (hT : A0 w) :
  Calls Tryz.prog 10 #[.int .i64 c,.int .i64 p,v] w fun e w'=>e = .returned (.bool true) /\ Below w.heap.size w w':=by
 obtain ⟨ao,bb,off,cap,rfl,hlen,hao,hat⟩:=hv.form
 have h0:=EZ w
 have HAT:=zh hat
 have HV:=zh hv
 have HAO:=zh hao
 have HTR:=zh (fun w' L (h : own w' (L++[oX w]))=>hT.later L.length h (by rw [List.getElem?_append_right (Nat.le_refl _),Nat.sub_self]; rfl))
 have HLI:=zh (MB _ l 60 w hv)
 clear hat hv hao hT
 go_enter Tryz.func10,Tryz.ntmps10
 go_wp2_with fail
 refine HLI.out.mono ?_
 rintro e w' ⟨rfl,rfl⟩
 by_cases hL : Eb l 60 = true
 ·have hl2 : l.length <= 60 /\ ∀x∈l,x.S.size <= 700 /\ x.keep.length <= 300:=by
   simp only [Eb,Cv,Bool.and_eq_true,decide_eq_true_eq,List.all_eq_true] at hL
   exact ⟨by omega,fun x hx=>⟨by have:=(hL.2 x hx).1; omega,by have:=(hL.2 x hx).2; omega⟩⟩
  rw [hL]
  clear hL
  obtain ⟨hl60,hlx⟩:=hl2
  have HLX:=zh hlx
  clear hlx
  by_cases hb : 1 <= c /\ c <= 32 /\ 0 <= p /\ p <= 40
  ·have HM:=zh (N4 c p hb [oX w] w h0)
   have hhb : ¬lH c p (-1):=by unfold lH; omega
   have HG:=zh (And.intro (B2 hhb).1 (And.intro (B2 hhb).2 (And.intro (M9 hhb) (V4 hhb))))
   have HFL:=zh (show (yY (4 * c.toNat)).now.length <= 128 by show (List.replicate _ _).length <= _; rw [List.length_replicate]; omega)
   have HL0:=zh (I3 (4 * c.toNat))
   have hc1 : 1 <= c:=hb.1
   have hc2 : c <= 32:=hb.2.1
   clear hb hhb
   generalize yx c p = m0 at *
   generalize yY (4 * c.toNat) = g0 at *
   go_wp2_with fail
   refine HM.out.mono ?_
   rintro e w2 ⟨Y0,gb,vn,vc,nv0,cv0,rfl,hx2,h2⟩
   clear HM
   go_wp2_with fail
   go_loopw [10,7] (fun kv yv wr=>∃(q : Nat) (Y : YA) (m : le) (g : lO) (nv cv : Nat -> Value),q <= l.length /\ kv = .int .i64 q /\ yv = .pointer (some ⟨Y.y,0,none⟩) /\ ly (10 + 1000 * q) m /\ YLen m /\ SA m /\ GC c m g /\ g.now.length <= 128 /\ LsOk g (1 + q) /\ Ext w wr /\ own wr (yL Y m (gL gb vn vc nv cv g++[oX w]))) (fun kv _ _=>l.length - (intOf kv).toNat)
   case atStart=>exact ⟨0,Y0,m0,g0,nv0,cv0,by omega,rfl,rfl,HG.out.1,HG.out.2.1,HG.out.2.2.1,HG.out.2.2.2,HFL.out,HL0.out,hx2,h2⟩
   case round=>
    clear h2 hx2 HG HFL HL0
    obtain ⟨q,Y,m,g,nv,cv,hq,rfl,rfl,hgm,hlm,hsa,hgc,hn,hls,hxr,hown⟩:=hrel
    have hgi:=hgc.gi
    by_cases hlt : q < l.length
    ·obtain rfl:=HAO.out (by omega)
     obtain ⟨c0,c1,c2,c3,c4,c5,c6⟩:=(HAT.out q hlt).later 0 (Wx hown) rfl
     have ok:=HV.out.2 _ (Cw hlt)
     obtain ⟨hS7,hK3⟩:=HLX.out _ (Cw hlt)
     obtain ⟨ko,kc,hkv,hkl⟩:=JE ok.keep
     have hk0:=ok.keep
     rw [hkv] at c6 hk0
     clear hkv hkl
     generalize hx : l.getD q CD = x at *
     by_cases hcr : (x.kind.toList == [99,114,97,115,104]) = true
     ·have hkB : ∀w' L,own w' (L++(gL gb vn vc nv cv g++[oX w])) -> zJ w' (.slice ko x.keep.length kc) x.keep:=fun w' L h=>hk0.later (L++gL gb vn vc nv cv g).length (by simpa only [zp] using h : own w' ((L++gL gb vn vc nv cv g)++[oX w])) (by rw [List.getElem?_append_right (Nat.le_refl _),Nat.sub_self]; rfl)
      have hkc : x.keep.length <= kc:=by
       obtain ⟨_,_,_,_,he,h1,_⟩:=hk0
       simp only [Value.slice.injEq] at he
       omega
      have HKP:=zh (fun (R : List SL.HP) (w : World) (H : own w R)=>Ue x ko kc hK3 hkc R w H)
      have HKA:=zh (fun (kv : Value)=>VN (v:=kv) hkB)
      have HCR:=zh (fun (kv : Value) R (hv : ∀w' L,own w' (L++R) -> Iy w' kv (BN x ko kc 5) (B4 x)) (w : World) (H : own w (yL Y m R))=>T0 (N:=10 + 1000 * q) Y m hgi.t hgc.ci hsa hgm hlm (by omega) kv _ _ R hv w H)
      obtain ⟨y0,hyc⟩:=K7 hgi.t hgc.ci hsa hgm.ok (B4 x)
      obtain ⟨hg2,hl2⟩:=Iq hgm hlm (by omega) (B4 x) y0
      obtain ⟨hal,hgc2⟩:=hgc.crash hsa hgm hlm (by omega) (B4 x)
      have hsa2:=hyc.sa
      obtain ⟨k1,f1,s1,n1,hsv,hks⟩:=SH hyc.job
      clear y0 hyc
      generalize (yW m (B4 x)).2 = M at *
      have hr0 : getM M.F M.list 0 (4 * c) = ((getM M.F M.list 0 (4 * c)).1,0):=Prod.ext rfl (Ej hgc2.gi.t hg2.ok (by omega)).1
      have hcl:=hgc2.gi.t.cl0 hg2.ok
      generalize (getM M.F M.list 0 (4 * c)).1 = s at *
      have HSC:=zh (fun Yx=>DE (Y:=Yx) rfl hg2.ok (by omega) hcl)
      have HRD:=zh (fun Yx=>Fz (Y:=Yx) rfl hg2.ok (by omega) (by omega) (by omega) hr0)
      have HST:=zh (fun Yx=>J5 (Y:=Yx) rfl hg2.ok.jok hsv)
      have HCD:=zh (fun nv cv R w H=>P6 gb vn vc nv cv g s hal hgi.cr (by omega) hls (by omega) R w H)
      have HI:=zh (And.intro (hg2.mono (show 10 + 1000 * q <= 10 + 1000 * (q + 1) by omega)) (And.intro hl2 (And.intro hsa2 (And.intro hgc2 (And.intro (show (AS g s).now.length <= 128 by simpa [AS] using hn) (P9 (g:=g) (s:=s) (B:=1 + (q + 1)) (by omega)))))))
      have HKS:=zh hks
      clear hgm hlm hsa hgc hgi hls hk0 hkB hkc ok hg2 hl2 hal hgc2 hsa2 hr0 hcl hsv hks
      go_wp2_with fail
      refine (HKP.out _ _ hown).mono ?_
      rintro e w5 ⟨kvv,rfl,hx5,h5⟩
      have hkat:=HKA.out kvv
      have h5:=oD h5
      clear c0 c1 c2 c3 c4 c5 c6 hown HKP HKA
      have HKK:=zh hkat
      clear hkat
      go_wp2_with fail
      refine (HCR.out kvv _ HKK.out _ h5).mono ?_
      rintro e w6 ⟨Y',rfl,hx6,h6⟩
      have h6:=Ut h6
      clear h5 HCR HKK
      have hx6:=(hxr.trans hx5).trans hx6
      clear hxr hx5
      go_wp2_with fail
      refine (HSC.out Y' _ _ h6).mono ?_
      rintro e w7 ⟨rfl,hx7,h7⟩
      clear h6 HSC
      go_wp2_with fail
      refine (HRD.out Y' _ _ h7).mono ?_
      rintro e w8 ⟨rfl,hx8,h8⟩
      clear h7 HRD
      go_wp2_with fail
      refine (HCD.out _ _ _ _ (Wz h8)).mono ?_
      rintro e w9 ⟨nv9,cv9,rfl,hx9,h9⟩
      have h9:=yg_0 h9
      clear h8 HCD
      go_wp2_with fail
      refine (HST.out Y' _ _ h9).mono ?_
      rintro e w10 ⟨rfl,hx10,h10⟩
      clear h9 HST
      have hx10:=(((hx6.trans hx7).trans hx8).trans hx9).trans hx10
      clear hx6 hx7 hx8 hx9
      go_upto_region 19 with (fail)
      have h11:=lh h10 (.cells #[.int .i64 k1,.int .i64 f1,.int .i64 s1,.int .i64 n1] 47)
      have hx11:=hx10.alloc (.cells #[.int .i64 k1,.int .i64 f1,.int .i64 s1,.int .i64 n1] 47)
      generalize w10.alloc (.cells #[.int .i64 k1,.int .i64 f1,.int .i64 s1,.int .i64 n1] 47) = w11 at *
      generalize w10.heap.size = jb at *
      clear h10 hx10
      have k0:=(ld 0 h11 rfl).1 0
      have k2:=(ld 0 h11 rfl).1 2
      have h12:=lg h11
      clear h11
      have hks:=HKS.out
      clear HKS
      rcases hks with rfl | ⟨d1,rfl⟩
      all_goals
       go_wp2_with fail
       go_roundw
       case rel=>exact ⟨q + 1,Y',M,_,nv9,cv9,by omega,by go_num,rfl,HI.out.1,HI.out.2.1,HI.out.2.2.1,HI.out.2.2.2.1,HI.out.2.2.2.2.1,HI.out.2.2.2.2.2,hx11,h12⟩
       case measure=>simp [intOf]; omega
     ·have HD:=zh (WM Y m hgm (by omega) x ok.A ok.B hS7 (.slice ko x.keep.length kc) gb vn vc nv cv g hgi (by omega) (1 + q) hls (by omega) [oX w] HTR.out wr hown)
      have hg2:=Ly hgm (by omega) x ok.B hS7
      have hl2:=Ov hlm hgm (by omega) x hS7
      have hs2:=TK hsa hgm (by omega) x ok.B hS7
      have hgc2:=Yi hgc hsa hgm (by omega) x hS7
      have hls2:=UI hgi hgm (by omega) hls x hS7
      have hn2 : (didG m g x).now.length <= 128:=by
       have a:=hgc2.gi.n
       have b:=hgi.n
       omega
      unfold EI at HD
      generalize didY m x = M at *
      generalize didG m g x = G at *
      have HI:=zh (And.intro (hg2.mono (show 10 + 1000 * q + 1000 <= 10 + 1000 * (q + 1) by omega)) (And.intro hl2 (And.intro hs2 (And.intro hgc2 (And.intro hn2 (hls2.mono (show 1 + q + 1 <= 1 + (q + 1) by omega)))))))
      clear hgm hlm hsa hgc hgi hls hown hg2 hl2 hs2 hgc2 hls2 hn2 ok hk0
      go_wp2_with fail
      refine HD.out.mono ?_
      rintro e w5 ⟨Y',nv5,cv5,hy,rfl,hx5,h5⟩
      clear HD c0 c1 c2 c3 c4 c5 c6
      have HYW:=zh (show Value.pointer (some ⟨Y.y,0,none⟩) = .pointer (some ⟨Y'.y,0,none⟩) by rw [hy])
      clear hy
      go_wp2_with fail
      go_roundw
      case rel=>exact ⟨q + 1,Y',M,G,nv5,cv5,by omega,by go_num,HYW.out,HI.out.1,HI.out.2.1,HI.out.2.2.1,HI.out.2.2.2.1,HI.out.2.2.2.2.1,HI.out.2.2.2.2.2,hxr.trans hx5,h5⟩
      case measure=>simp [intOf]; omega
    ·obtain rfl : q = l.length:=by omega
     have hr0 : getM m.F m.list 0 (4 * c) = ((getM m.F m.list 0 (4 * c)).1,0):=Prod.ext rfl (Ej hgi.t hgm.ok (by omega)).1
     have hcl:=hgi.t.cl0 hgm.ok
     have hal:=hgi.all hgm.ok (by omega)
     generalize (getM m.F m.list 0 (4 * c)).1 = s at *
     have HSC:=zh (DE (Y:=Y) rfl hgm.ok (by omega) hcl)
     have HRD:=zh (Fz (Y:=Y) rfl hgm.ok (by omega) (by omega) (by omega) hr0)
     have HSE:=zh (fun nv cv R w H=>Wl gb vn vc nv cv g s hal (by omega) hls (by omega) R w H)
     clear hgm hlm hsa hgc hgi hls hal hr0 hcl
     go_wp2_with fail
     refine (HSC.out _ _ hown).mono ?_
     rintro e w3 ⟨rfl,hx3,h3⟩
     clear hown HSC
     go_wp2_with fail
     refine (HRD.out _ _ h3).mono ?_
     rintro e w4 ⟨rfl,hx4,h4⟩
     clear h3 HRD
     go_wp2_with fail
     refine (HSE.out _ _ _ _ (Wz h4)).mono ?_
     rintro e w5 ⟨nv5,rfl,hx5,h5⟩
     clear h4 HSE
     go_wp2_with fail
     go_ret
     exact ⟨rfl,Di 0 (Wx (yg_0 h5)) rfl (((hxr.trans hx3).trans hx4).trans hx5)⟩
  ·have HM:=zh (Qc c p hb w)
   have hd : decide (c < 1) = true \/ (decide (c < 1) = false /\ decide (32 < c) = true) \/ (decide (c < 1) = false /\ decide (32 < c) = false /\ decide (p < 0) = true) \/ (decide (c < 1) = false /\ decide (32 < c) = false /\ decide (p < 0) = false /\ decide (40 < p) = true):=by
    simp only [decide_eq_true_eq,decide_eq_false_iff_not]
    omega
   clear hb
   rcases hd with d0 | ⟨d0,d1⟩ | ⟨d0,d1,d2⟩ | ⟨d0,d1,d2,d3⟩
   all_goals
    go_wp2_with fail
    refine HM.out.mono ?_
    rintro e w' ⟨rfl,rfl⟩
    go_wp2_with fail
    go_ret
    exact ⟨rfl,Di 0 h0 rfl (zR w)⟩
 ·rw [Bool.not_eq_true] at hL
  rw [hL]
  clear hL
  go_wp2_with fail
  go_ret
  exact ⟨rfl,Di 0 h0 rfl (zR w)⟩
end Go.Proofs.YtbpblokfiajpjabGreatDoor
namespace Go.Proofs.YtbpblokfiajpjabGreatDoor.topCrashDone
open Go.ChangeShapes Go.WideShapes Go.ChangeAt Go.RowKit
open Go.ChangeMaps (open_string shut_string)
set_option linter.unusedVariables false
theorem own : ownKnob Tryz.prog.godebug = none:=by kernel_rfl
theorem K6 : laidOutB Tryz.prog = true:=by kernel_rfl
theorem OQ (os : Os) (started : os.Started) (H : Type) (enc : TypeId×Value -> H) :
  ReturnsInHanded {} Tryz.checked os 10 .any (fun w args=>(Rows.topCrashSpec.pre enc Tryz.prog Tryz.f10 Rows.topCrashRow.domain false w args /\ laidMetH Tryz.prog Rows.topCrashRow.laid w) /\ sizedMet enc Tryz.prog Tryz.f10 (OpenSpec.ofChange Rows.topCrashSpec) false w args)
   (Rows.topCrashSpec.post enc Tryz.prog Tryz.f10 false true false false):=by
 refine returnsInHanded_of_change_and (C:=Tryz.checked) (X:=fun w _=>laidMetH Tryz.prog Rows.topCrashRow.laid w) (fun _ _ _ hh h=>h.of_heap hh) own started (by kernel_rfl) Tryz.func10
  (ChangeSpec.witness_shaped (enc:=enc) (C:=Tryz.checked) (os:=os) (X:=fun w _=>laidMetH Tryz.prog Rows.topCrashRow.laid w) false (World.laidAll Tryz.prog os Rows.topCrashRow.laid) #[.int .i64 0,.int .i64 0,.slice none 0 0] 8 (World.laidAll_os _ _ _)
   (World.shaped_of_ZipB (by kernel_rfl) (by kernel_rfl)) (by kernel_rfl) (by kernel_rfl) (by kernel_rfl)
   (by rw [MakeChecks.laidMetH_plain _ _ _ (by kernel_rfl)]; exact laidMet_laidAll _ (by kernel_rfl) (by kernel_rfl))) ?_
 intro W base args ds gs before hval0 hW hcnd _ hL _
 have hval : ∀(j : Nat) t v,Tryz.f10.params[j]? = some t -> args[j]? = some v -> Value.okWide Tryz.prog W .any base t v:=hval0
 have hW':=hW
 obtain ⟨p,q,hA0,hV,rfl,hfz,hnd⟩:=hW
 have hA : DataW.TrodAll enc Tryz.prog W 0 (fun _=>true) true Tryz.f10.params.toList args.toList ds p:=hA0
 rw [Tryz.params10] at hA hval
 obtain ⟨v0,vs0,d0,ds0,p0,q0,hargs,rfl,rfl,h0,r0⟩:=trodAll_cons hA
 obtain ⟨v1,vs1,d1,ds1,p1,q1,rfl,rfl,rfl,h1,r1⟩:=trodAll_cons r0
 obtain ⟨v2,vs2,d2,ds2,p2,q2,rfl,rfl,rfl,h2,r2⟩:=trodAll_cons r1
 obtain ⟨rfl,rfl,rfl⟩:=trodAll_nil r2
 obtain rfl : args = #[v0,v1,v2]:=by cases args; simp_all
 obtain ⟨rfl,rfl⟩:=trodVars_none hV
 obtain ⟨a0,rfl,rfl,rfl,k0⟩:=open_int Tryz.underlying3 (hval 0 3 v0 rfl rfl) h0
 obtain ⟨a1,rfl,rfl,rfl,k1⟩:=open_int Tryz.underlying3 (hval 1 3 v1 rfl rfl) h1
 obtain ⟨ao2,len2,cap2,rfl⟩:=okWide_slice Tryz.underlying25 (hval 2 25 v2 rfl rfl)
 have t2:=h2
 have lt2 : ∀x∈p2,x.block < W.heap.size:=by obtain ⟨m,hm⟩:=t2; exact DataW.trod_lt m _ _ _ hm
 obtain ⟨a2,k2⟩ : ∃l,BY W (.slice ao2 len2 cap2) l:=by
  obtain ⟨fuel,hf⟩:=h2
  exact LD hf
 clear hA0 hval0
 refine (MP a0 a1 _ a2 W k2 (Nl hL)).mono fun e W' ⟨he,bel⟩=>?_
 subst he
 exact ⟨_,rfl,_,_,_,[],_,[],hW',trodAll_mk1 (shut_bool Tryz.underlying4 _),(trodAll_cons_mk (shut_int Tryz.underlying3 k0) (trodAll_cons_mk (shut_int Tryz.underlying3 k1) (trodAll_cons_mk (Below.trod K6 (by kernel_rfl) (of_decide_eq_true (by kernel_rfl)) t2 bel lt2) trodAll_mk0))),rfl,bel.frame _,fun h=>by cases h⟩
theorem andB {a b : Bool} (ha : a = true) (hb : b = true) : (a && b) = true:=by rw [ha,hb]; rfl
theorem Ss : Rows.topCrashRow.wf (OpenSpec.ofChange Rows.topCrashSpec) = true:=by kernel_rfl
theorem Tm : laidOutB Tryz.prog = true:=by kernel_rfl
theorem S9 : mapsRowed Tryz.prog = true:=by kernel_rfl
theorem QK : Tryz.f10.params.all (Tryz.prog.readableRec ·) = true:=by kernel_rfl
theorem Tp : namedTie Tryz.prog Rows.topCrashRow.named Rows.topCrashSpec.vars = true:=by kernel_rfl
theorem Sb : (Rows.topCrashRow.stops == []) = true:=by kernel_rfl
theorem Sn : (Tryz.prog.stops == []) = true:=by kernel_rfl
theorem Sy : (Rows.topCrashRow.knobs == []) = true:=by kernel_rfl
theorem SZ : (Tryz.prog.stopKnobs == []) = true:=by kernel_rfl
theorem Sa : (Rows.topCrashRow.inPlace == Tryz.prog.inPlace 10) = true:=by kernel_rfl
theorem Oz : (Rows.topCrashRow.unfollowed == Tryz.prog.unfollowed 10) = true:=by kernel_rfl
theorem Np : (Rows.topCrashRow.recurses == Tryz.prog.recurses 10) = true:=by kernel_rfl
theorem N7 : (Rows.topCrashRow.named == Tryz.prog.varsNamed 10) = true:=by kernel_rfl
theorem O6 : (Rows.topCrashRow.maps == (Tryz.f10.params.toList++Rows.topCrashSpec.plain.varTypes Tryz.prog).any (Tryz.prog.mapsRec ·)) = true:=by kernel_rfl
theorem Od : (Rows.topCrashRow.ifaces == (Tryz.f10.params.toList++Rows.topCrashSpec.plain.varTypes Tryz.prog).any (Tryz.prog.ifacesRec ·)) = true:=by kernel_rfl
theorem Nt : (Rows.topCrashRow.mapsOut == Tryz.prog.mapsAmong Tryz.f10.resultTypes.toList) = true:=by kernel_rfl
theorem N6 : (Rows.topCrashRow.loops == (Tryz.f10.params.toList++Rows.topCrashSpec.plain.varTypes Tryz.prog).any (Tryz.prog.loopsFrom ·)) = true:=by kernel_rfl
theorem Ou : (Rows.topCrashRow.wideKeys == (Tryz.f10.params.toList++Rows.topCrashSpec.plain.varTypes Tryz.prog++Tryz.f10.resultTypes.toList).any (Tryz.prog.wideKeysFrom ·)) = true:=by kernel_rfl
theorem O4 : Rows.topCrashSpec.vars.all (Tryz.prog.varReadable ·) = true:=by kernel_rfl
theorem Nn : Tryz.f10.resultTypes.all (fun t=>Tryz.prog.readableRec t && decide (t < Tryz.prog.types.size)) = true:=by kernel_rfl
theorem OZ : (Rows.topCrashRow.ifacesOut == Tryz.f10.resultTypes.toList.any (Tryz.prog.ifacesRec ·)) = true:=by kernel_rfl
theorem Oy : (Rows.topCrashRow.loopsOut == Tryz.f10.resultTypes.toList.any (Tryz.prog.loopsFrom ·)) = true:=by kernel_rfl
theorem Ox : (Rows.topCrashRow.plainKeys == Tryz.prog.plainKeys) = true:=by kernel_rfl
theorem Ob : Rows.topCrashRow.shortTexts.isNone = true:=by kernel_rfl
theorem Nr : Tryz.prog.stopsHeard = true:=by kernel_rfl
theorem NH : Tryz.prog.mayEnter = true:=by kernel_rfl
theorem O5 : (Rows.topCrashRow.lifted == Tryz.prog.liftsFinal) = true:=by kernel_rfl
theorem OA : (Tryz.prog.make == some Rows.topCrashRow.make) = true:=by kernel_rfl
theorem Nv : (Rows.topCrashRow.kinds == (if Rows.topCrashRow.domain.isEmpty then [] else Tryz.f10.params.toList.map fun t=>match Tryz.prog.underlying t with | some (.int k)=>some k | _=>none)) = true:=by kernel_rfl
theorem OD : (Rows.topCrashRow.pinned == Rows.topCrashRow.pinnedBy) = true:=by kernel_rfl
theorem OT : (Rows.topCrashRow.veiled == (Tryz.f10.params.toList++Rows.topCrashSpec.plain.varTypes Tryz.prog++Tryz.f10.resultTypes.toList).any (Tryz.prog.veiledRec ·)) = true:=by kernel_rfl
theorem Ns : Rows.topCrashRow.veiledFits Tryz.prog Tryz.f10.params.toList (Tryz.f10.params.toList++Rows.topCrashSpec.plain.varTypes Tryz.prog++Tryz.f10.resultTypes.toList) = true:=by kernel_rfl
theorem OJ : joinedFacts Tryz.prog 10 Tryz.f10 Rows.topCrashSpec Rows.topCrashRow = true:=by
 unfold joinedFacts
 exact (andB (andB (andB (andB (andB (andB (andB (andB (andB (andB (andB (andB (andB (andB (andB (andB (andB (andB (andB (andB (andB (andB (andB (andB (andB (andB (andB (andB (andB (andB (andB Ss Tm) S9) QK) Tp) Sb) Sn) Sy) SZ) Sa) Oz) Np) N7) O6) Od) Nt) N6) Ou) O4) Nn) OZ) Oy) Ox) Ob) Nr) NH) O5) OA) Nv) OD) OT) Ns)
theorem Lg : Tryz.prog.funcNamed Rows.topCrashRow.func = some 10:=by kernel_rfl
theorem over : Rows.topCrashRow.holds Tryz.pinned (OpenSpec.ofChange Rows.topCrashSpec):=
 OpenClaim.holds_of_wide 10 Tryz.f10 rfl rfl rfl rfl rfl rfl rfl ⟨rfl,rfl,rfl,rfl,rfl⟩ rfl rfl rfl rfl rfl Lg Tryz.func10 OJ
  (of_decide_eq_true (by kernel_rfl)) (by unfold Func.isWrapper; first | (rw [zt (by decide +kernel)]; kernel_rfl) | (rw [zq (by decide +kernel)]; exact ⟨rfl,rfl⟩))
  (fun os started H enc _=>OQ os started H enc)
theorem proved : Rows.TopCrashCardSaid:=
 Claim7.holds_tied_plain_at .later [] _ _ _ _ over (fun _ h=>by cases h) (by kernel_rfl) (fun _ h=>by cases h) topCrash_row_tie rfl ⟨rfl,rfl⟩ (by kernel_rfl) rfl
  (fun f fn hf hfn=>by
   obtain rfl : f = 10 := Option.some.inj ((show Tryz.prog.funcNamed "stackyard/stackyardtop.TopCrash" = some 10 by kernel_rfl).symm.trans hf) |>.symm
   obtain rfl : fn = Tryz.f10:=(Option.some.inj (Tryz.func10.symm.trans hfn)).symm
   exact ⟨by kernel_rfl,fun j t ht=>by
    rw [Tryz.params10] at ht
    have hm : t∈[3,25]:=by
     have:=Array.mem_of_getElem? ht
     simp only [List.mem_toArray,List.mem_cons,List.mem_nil_iff,or_false] at this ⊢
     rcases this with h|h|h <;> simp [h]
    have hall : ([3,25].all fun u=>!Tryz.prog.wantsStandIn u) = true:=by kernel_rfl
    exact (show Tryz.prog.wantsStandIn t = false by simpa using List.all_eq_true.1 hall t hm)⟩)
  (by kernel_rfl)
#print axioms proved
end Go.Proofs.YtbpblokfiajpjabGreatDoor.topCrashDone
