/- Lemmas on which YardOpens stands: the texts YardP3 RYard11 Yard20 Yard21 Yard19. No conditions. -/
import Derived.Test.YtbpblokfiajpjabGreatDoorPk0042586882
import Derived.Test.YtbpblokfiajpjabGreatDoorProg
set_option linter.all false
set_option maxRecDepth 1000000
set_option maxHeartbeats 32000000
namespace Go.Proofs.YtbpblokfiajpjabGreatDoor
open Go.RowKit Go.SL Go.Crc
theorem UC : ∀(n : Nat) (l : List Int),l.Nodup -> (∀x∈l,0 <= x /\ x < n) -> l.length <= n:=by
 intro n
 induction n with
 | zero=>
  intro l _ h
  cases l with
  | nil=>exact Nat.le_refl 0
  | cons x l=>have:=h x (List.mem_cons_self ..); omega
 | succ n ih=>
  intro l hn h
  have h1:=ih (l.erase (n : Int)) (hn.erase _) fun x hx=>by
   obtain ⟨h2,h3⟩:=(List.Nodup.mem_erase_iff hn).1 hx
   have:=h x h3
   omega
  have h2:=List.length_erase (a:=(n : Int)) (l:=l)
  split at h2 <;> omega
theorem YOk.chn {N : Nat} {m : lf} (h : YOk N m) : Chn m.F (clus m.F m.dk.root) m.list:=by
 have:=Gc (F:=m.F) (root:=m.dk.root) (by rw [h.walk])
 rwa [h.walk] at this
theorem YOk.nodup {N : Nat} {m : lf} (h : YOk N m) : m.list.Nodup:=by
 have:=Gv (F:=m.F) (root:=m.dk.root) (by rw [h.walk])
 rwa [h.walk] at this
theorem lH.off {N M : Nat} {m : lf} (h : lH N m) (hNM : N <= M) {file : Int} (h0 : 0 <= file) (hu : CZ m file = false) {F' : ShM} {D' : Nat -> DevM} (hF : ∀j,j≠file.toNat -> F' j = m.F j) (hD : ∀j,j≠file.toNat -> D' j = m.D j) (hW : ShW M F')
  (hDk : F' file.toNat = none -> (D' file.toNat).Ok /\ (D' file.toNat).writes <= M /\ (D' file.toNat).pend.length <= M) : lH M { m with F:=F',D:=D' }:=by
 have hM:=h.mono hNM
 unfold CZ at hu
 rw [Bool.or_eq_false_iff,decide_eq_false_iff_not] at hu
 obtain ⟨hnl,hnb⟩:=hu
 have hs : ∀x,0 <= x -> x≠file -> F' x.toNat = m.F x.toNat:=fun x hx hne=>hF _ (by omega)
 have hfk : ∀x,lx m.F x -> x≠file -> lx F' x:=fun x ⟨a,b,c⟩ hne=>⟨a,b,by rw [hs x a hne]; exact c⟩
 have hin:=h.ok.chn.file
 obtain ⟨s,hl⟩:=h.ok.head
 have hroot : m.dk.root∈m.list:=by rw [hl]; exact List.mem_cons_self ..
 have hne : ∀x∈m.list,x≠file:=fun x hx e=>hnl (e ▸ hx)
 refine ⟨⟨hW,fun k hk e=>?_,hM.ok.tp,?_,hfk _ h.ok.root (hne _ hroot),h.ok.jok,fun j hj h4=>?_⟩,h.str⟩
 ·by_cases hk2 : k = file.toNat
  ·subst hk2; exact hDk e
  ·dsimp only at e ⊢
   rw [hF k hk2] at e
   rw [hD k hk2]
   exact hM.ok.dv k hk e
 ·refine LG h.ok.root h.ok.walk fun x hx=>?_
  unfold shp
  dsimp only
  rw [hs x (hin x hx).1 (hne x hx)]
 ·obtain ⟨⟨a,b⟩,c,d,e,f⟩:=h.ok.job j hj h4
  refine ⟨⟨fun x hx=>hfk x (a x hx) (hne x (by rw [<- c]; exact hx)),fun h2=>hfk _ (b h2) ?_⟩,c,d,e,f⟩
  rw [e]
  intro he
  have : yX m = true:=by unfold yX; rw [hj]; exact decide_eq_true h4
  rw [this,he] at hnb
  simp at hnb
theorem PN {m : lf} {file back : Int} (h : (oC m file back).1 = 0) : 0 <= file /\ file < 5 /\ CZ m file = false /\ (yS m file.toNat back).1 = 0 /\ (oC m file back).2 = { m with F:=put m.F file.toNat (yS m file.toNat back).2 }:=by
 revert h
 unfold oC
 split
 ·exact fun h=>absurd h (by simp)
 ·split
  ·exact fun h=>absurd h (by simp)
  ·split
   ·rename_i h; exact fun h2=>absurd h2 h
   ·rename_i h1 h2 h3
    exact fun _=>⟨by omega,by omega,by simpa using h2,Decidable.not_not.1 h3,rfl⟩
theorem IX {N : Nat} {m : lf} (h : lH N m) (hN : N + 10 < 900000) (file back : Int) : lH (N + 5) (oC m file back).2:=by
 unfold oC
 split
 ·exact h.mono (by omega)
 ·rename_i hb
  split
  ·exact h.mono (by omega)
  ·rename_i hu
   have hk : file.toNat < 5:=by omega
   obtain ⟨d1,d2,d3⟩:=Gz h.ok hk
   have hc : (yS m file.toNat back).2.d.Ok /\ (yS m file.toNat back).2.d.fl.length = (devOf m file.toNat).fl.length /\ (yS m file.toNat back).2.d.pend.length <= (devOf m file.toNat).pend.length + 4 /\ (yS m file.toNat back).2.d.writes <= (devOf m file.toNat).writes + 5 /\
    ((yS m file.toNat back).1 = 0 -> (yS m file.toNat back).2.Ok /\ _ /\ (yS m file.toNat back).2.d.pend = [] /\ _):=FG d1 (by omega) (by omega)
   obtain ⟨c1,c2,c3,c4,c5⟩:=hc
   have hu' : CZ m file = false:=by simpa using hu
   split
   ·refine h.off (by omega) (by omega) hu' (fun j hj=>if_neg hj) (fun j hj=>if_neg hj) ⟨fun k x hk hx=>?_,fun k x hk hx=>?_,fun k x hk hx=>?_⟩ (fun _=>by unfold setD; rw [if_pos rfl]; exact ⟨c1,by omega,by omega⟩)
    all_goals
     unfold cut at hx
     by_cases hk2 : k = file.toNat
     ·rw [if_pos hk2] at hx; cases hx
     ·rw [if_neg hk2] at hx
      first | exact h.ok.sh.ok k x hk hx | (have:=h.ok.sh.wr k x hk hx; omega) | (have:=h.ok.sh.pend k x hk hx; omega)
   ·rename_i hc0
    have hc0:=c5 (Decidable.not_not.1 hc0)
    refine h.off (D':=m.D) (by omega) (by omega) hu' (fun j hj=>if_neg hj) (fun j hj=>rfl) ⟨fun k x hk hx=>?_,fun k x hk hx=>?_,fun k x hk hx=>?_⟩ (fun e=>by rw [zq] at e; cases e)
    all_goals
     unfold put at hx
     by_cases hk2 : k = file.toNat
     ·rw [if_pos hk2] at hx
      cases hx
      first | exact hc0.1 | omega
     ·rw [if_neg hk2] at hx
      first | exact h.ok.sh.ok k x hk hx | (have:=h.ok.sh.wr k x hk hx; omega) | (have:=h.ok.sh.pend k x hk hx; omega)
theorem PW {N : Nat} {m : lf} (h : lH N m) (hN : N + 10 < 900000) (file : Int) : lH (N + 6) (Ba m file).2:=by
 unfold Ba
 split
 ·exact h.mono (by omega)
 ·rename_i hbusy
  split
  ·exact h.mono (by omega)
  ·rename_i h4
   have hb:=IX h hN file m.dk.root
   split
   ·exact hb.mono (by omega)
   ·rename_i hc
    have ht:=Ei hb.ok (by omega) (lC file)
    split
    ·rename_i hw
     rw [DS hw]
     exact hb.desk ht
    ·rename_i hw
     obtain ⟨f0,f5,hu,hr,hM⟩:=PN (Decidable.not_not.1 hc)
     have hy:=CI (m:=(oC m file m.dk.root).2) (d:=lC file) (Decidable.not_not.1 hw)
     generalize (lw (oC m file m.dk.root).2 (lC file)).2 = W at *
     rw [hy]
     have his:=JY (devOf m file.toNat) (clus m.F m.dk.root) (zN (clus m.F m.dk.root) (devOf m file.toNat)) m.dk.root
     change (yS m file.toNat m.dk.root).2 = _ at his
     have hic : (yS m file.toNat m.dk.root).2.c = clus m.F m.dk.root:=by rw [his]; rfl
     have hib : (yS m file.toNat m.dk.root).2.b = m.dk.root:=by rw [his]; rfl
     have hjob : (oC m file m.dk.root).2.job = m.job:=by rw [hM]
     have hF : (oC m file m.dk.root).2.F = put m.F file.toNat (yS m file.toNat m.dk.root).2:=by rw [hM]
     generalize (oC m file m.dk.root).2 = B at *
     generalize (yS m file.toNat m.dk.root).2 = i at *
     have hnl : file∉m.list:=by
      unfold CZ at hu
      rw [Bool.or_eq_false_iff,decide_eq_false_iff_not] at hu
      exact hu.1
     have hcn:=h.ok.chn
     obtain ⟨s,hl⟩:=h.ok.head
     have h5 : (file::m.list).length <= 5:=UC 5 _ (List.nodup_cons.2 ⟨hnl,h.ok.nodup⟩) fun x hx=>by
      rcases List.mem_cons.1 hx with rfl | hx
      ·exact ⟨f0,f5⟩
      ·exact ⟨(hcn.file x hx).1,(hcn.file x hx).2.1⟩
     have hne : ∀x∈m.list,x≠file:=fun x hx e=>hnl (e ▸ hx)
     have hkeep : Chn B.F (clus m.F m.dk.root) m.list:=hcn.keep fun x hx=>by
      have:=(hcn.file x hx).1
      have:=hne x hx
      unfold shp
      rw [hF,AB _ _ (by omega)]
     have hat : B.F file.toNat = some i:=by rw [hF,zq]
     have hfile : lx B.F file:=⟨f0,f5,i,hat⟩
     have hcl : clus B.F file = clus m.F m.dk.root:=by unfold clus at hic ⊢; rw [hat]; exact hic
     have hbk : bkOf B.F file = m.dk.root:=by unfold bkOf; rw [hat]; exact hib
     have hwk : ls B.F file = (file::m.list,0):=by
      refine IA ?_ h5
      rw [hcl]
      refine ⟨fun x hx=>?_,fun x hx=>?_,?_,hkeep.ch⟩
      ·rcases List.mem_cons.1 hx with rfl | hx
       ·exact hfile
       ·exact hkeep.file x hx
      ·rcases List.mem_cons.1 hx with rfl | hx
       ·exact hcl
       ·exact hkeep.cl x hx
      ·rw [hbk,hl]; rfl
     exact hb.bare ht hfile hwk (oj:=B.job) fun j hj=>by
      rw [hjob] at hj
      refine ⟨h.ok.jok j hj,fun h4=>?_⟩
      apply hbusy
      unfold yX
      rw [hj]
      exact decide_eq_true h4
theorem O5 {F : ShM} {root kind file rate burst : Int} {j : JobM} (h : (newM F root kind file rate burst).1 = some j) :
  (ls F root).2 = 0 /\ j.list = (ls F root).1 /\ j.kind = kind /\ j.file = file /\ j.root = root /\ j.st = 2 /\ (kind = 2 -> file = -1 \/ file∈(ls F root).1.tail):=by
 unfold newM at h
 split at h
 ·cases h
 ·rename_i h0
  have h0:=Decidable.not_not.1 h0
  split at h
  ·cases h
  ·split at h
   ·cases h
   ·split at h
    ·rename_i hk
     split at h
     ·cases h
     ·split at h
      ·cases h
      ·cases h
       exact ⟨h0,rfl,rfl,rfl,rfl,rfl,fun h2=>by omega⟩
    ·split at h
     ·rename_i hk
      cases h
      exact ⟨h0,rfl,rfl,rfl,rfl,rfl,fun _=>.inl hk.2⟩
     ·split at h
      ·split at h
       ·cases h
       ·rename_i hp
        cases h
        refine ⟨h0,rfl,rfl,rfl,rfl,rfl,fun _=>.inr ?_⟩
        have hp : ¬zM (ls F root).1 file < 1:=hp
        generalize (ls F root).1 = l at *
        cases l with
        | nil=>exact absurd (show zM [] file < 1 by show (-1 : Int) < 1; decide) hp
        | cons x l=>
         unfold zM zI at hp
         split at hp
         ·omega
         ·refine Decidable.byContradiction fun hn=>?_
          have hn : file∉l:=hn
          rw [Nl hn] at hp
          omega
      ·cases h
theorem NS {N : Nat} {m : lf} (h : lH N m) (hN : N + 10 < 900000) (kind file rate burst : Int) : lH (N + 1) (Aj m kind file rate burst).2:=by
 unfold Aj
 split
 ·exact h.mono (by omega)
 ·split
  ·exact h.mono (by omega)
  ·split
   ·exact h.mono (by omega)
   ·have hl5 : (ls m.F m.dk.root).1.length <= 5:=A4
    have hg:=fun j (hj : (newM m.F m.dk.root kind file rate burst).1 = some j)=>Fa (h.ok.sh.sh (by omega)) hl5 hj
    have hi:=fun j (hj : (newM m.F m.dk.root kind file rate burst).1 = some j)=>O5 hj
    have ht:=Ei h.ok (by omega) ⟨m.dk.root,kind,file,rate,burst⟩
    generalize newM m.F m.dk.root kind file rate burst = S at *
    obtain ⟨oj,f⟩:=S
    cases oj with
    | none=>exact h.mono (by omega)
    | some j=>
     obtain ⟨hj,hS⟩:=hg j rfl
     obtain ⟨-,i1,i2,i3,i4,-,i5⟩:=hi j rfl
     rw [h.ok.walk] at i1 i5
     dsimp only at i1 i5 ⊢
     split
     ·rename_i hw
      rw [DS hw]
      exact h.desk ht
     ·rename_i hw
      have hy:=CI (m:=m) (d:=⟨m.dk.root,kind,file,rate,burst⟩) (Decidable.not_not.1 hw)
      generalize (lw m ⟨m.dk.root,kind,file,rate,burst⟩).2 = W at *
      have h1:=h.mono (Nat.le_succ N)
      have hs:=IM j false
      rw [hy]
      exact ⟨⟨h1.ok.sh,h1.ok.dv,ht,h.ok.walk,h.ok.root,fun k hk=>by cases hk; exact Lc hj false,fun k hk _=>by cases hk; exact ⟨hS.same hs,hs.1.trans i1,hs.2.1.trans i2,hs.2.2.1.trans i3,hs.2.2.2.1.trans i4⟩⟩,
       fun k hk _ h2=>by cases hk; rw [hs.2.2.1,i3]; exact i5 (by rw [<- i2,<- hs.2.1]; exact h2)⟩
theorem N6 {N : Nat} {m : lf} (h : m.top.Ok /\ m.top.writes <= N /\ m.top.pend.length <= N /\ 1 <= m.top.fl.length) (hN : N < 900000) (d : lK) : (lw m d).2.top.Ok /\ (lw m d).2.top.writes <= (N + 1 : Nat) /\ (lw m d).2.top.pend.length <= N + 1 /\ 1 <= (lw m d).2.top.fl.length:=by
 obtain ⟨a,b,c,e⟩:=h
 have h1:=DevM.write_ok a 0 d.s (by omega) (by omega)
 obtain ⟨h2,h3,h4⟩:=yu m.top 0 d.s
 unfold lw
 split
 ·exact ⟨h1,by dsimp only; omega,by dsimp only; omega,by dsimp only; omega⟩
 ·refine ⟨DevM.flush_ok h1,?_,?_,?_⟩
  ·simp only [DevM.flush]; omega
  ·simp [DevM.flush]
  ·simp only [DevM.flush,oB]; omega
theorem NO (m : lf) (d : lK) : ({ (lw m d).2 with dk:=d } : lf) = { m with top:=(lw m d).2.top,dk:=d }:=by
 by_cases h : (lw m d).1 = 0
 ·have hy:=CI h
  generalize (lw m d).2 = W at *
  rw [hy]
 ·have hy:=DS h
  generalize (lw m d).2 = W at *
  rw [hy]
theorem lH.stepJ {N : Nat} {m : lf} (h : lH N m) (hN : N + 10 < 900000) {j : JobM} (hj : m.job = some j) (h4 : j.st < 4) : lH (N + 5) { m with F:=(lZ m.F j).2.1,job:=some (lZ m.F j).2.2 }:=by
 obtain ⟨hS,-⟩:=h.ok.job j hj h4
 have hst:=Ef (h.ok.sh.sh (by omega)) (h.ok.jok j hj) hS
 have h1:=h.shelf (Nat.le_add_right N 5) hst.same (h.ok.sh.step hst)
 exact h1.jobs hj (Jp (h.ok.jok j hj)) (CN m.F j) (fun _=>h4)
theorem lH.bareW {N : Nat} {m : lf} (h : lH N m) (hN : N < 900000) (hn : ∀j,m.job = some j -> ¬j.st < 4) : lH (N + 1) (lw m (lC m.dk.root)).2:=by
 have ht:=Ei h.ok hN (lC m.dk.root)
 by_cases hc : (lw m (lC m.dk.root)).1 = 0
 ·have hy:=CI hc
  generalize (lw m (lC m.dk.root)).2 = W at *
  rw [hy]
  exact h.bare ht h.ok.root h.ok.walk (oj:=m.job) fun j hj=>⟨h.ok.jok j hj,hn j hj⟩
 ·have hy:=DS hc
  generalize (lw m (lC m.dk.root)).2 = W at *
  rw [hy]
  exact h.desk ht
theorem TL (i : ImgM) (k : Int) : (i.link k).2.c = i.c /\ ((i.link k).1≠0 -> (i.link k).2.b = i.b) /\ ((i.link k).1 = 0 -> (i.link k).2.b = k):=by
 unfold ImgM.link
 split
 ·exact ⟨rfl,fun _=>rfl,fun h=>absurd h (by simp)⟩
 ·split
  ·exact ⟨rfl,fun _=>rfl,fun h=>absurd h (by assumption)⟩
  ·exact ⟨rfl,fun h=>absurd rfl h,fun _=>rfl⟩
theorem OP {F : ShM} {root : Int} {l : List Int} (hr : lx F root) (hw : ls F root = (l,0)) {file : Int} (hf : file = -1 \/ file∈l.tail) {F' : ShM} (hF : ∀k,k≠root.toNat -> F' k = F k) (hc : clus F' root = clus F root) (hb : bkOf F' root = file) (hr' : lx F' root) :
  ∃t,ls F' root = (root::t,0) /\ (file = -1 -> t = []) /\ (file≠-1 -> ∃p s,l = root::(p++file::s) /\ t = file::s):=by
 have hch:=Gc (F:=F) (root:=root) (by rw [hw])
 have hnd:=Gv (F:=F) (root:=root) (by rw [hw])
 obtain ⟨s,hl⟩:=Iu hr (by rw [hw])
 have h5:=A4 (F:=F) (root:=root)
 rw [hw] at hch hnd hl h5
 dsimp only at hch hnd hl h5
 subst hl
 have hwalk : ∀t,Chn F (clus F root) t -> root∉t -> (root::t).length <= 5 -> file = t.headD (-1) -> ls F' root = (root::t,0):=fun t ht hnt h5 hh=>by
  have hk : Chn F' (clus F root) t:=ht.keep fun x hx=>by
   have h1:=(ht.file x hx).1
   have h2:=hr.1
   have h3 : x≠root:=fun e=>hnt (e ▸ hx)
   unfold shp
   rw [hF _ (by omega)]
  refine IA ?_ h5
  rw [hc]
  refine ⟨fun x hx=>?_,fun x hx=>?_,?_,hk.ch⟩
  ·rcases List.mem_cons.1 hx with rfl | hx
   ·exact hr'
   ·exact hk.file x hx
  ·rcases List.mem_cons.1 hx with rfl | hx
   ·exact hc
   ·exact hk.cl x hx
  ·rw [hb]; exact hh
 by_cases hn : file = -1
 ·refine ⟨[],hwalk [] ⟨fun x hx=>by (cases hx),fun x hx=>by (cases hx),trivial⟩ (fun h=>by (cases h)) (by simp) hn,fun _=>rfl,fun h=>absurd hn h⟩
 ·have hm:=hf.resolve_left hn
  dsimp only [List.tail] at hm
  obtain ⟨p,t,rfl⟩:=List.append_of_mem hm
  have hn2:=(List.nodup_cons.1 hnd).1
  refine ⟨file::t,hwalk (file::t) (Chn.drop (p:=root::p) (by simpa using hch)) (fun h=>hn2 (List.mem_append.2 (.inr h))) (by simp at h5 ⊢; omega) rfl,fun h=>absurd h hn,fun _=>⟨p,t,rfl,rfl⟩⟩
theorem Pc {F : ShM} {j : JobM} (h2 : j.kind = 2) {root : Int} (hr : lx F root) (hl : j.list.getD 0 0 = root) :
  ((lz F j).1≠0 -> oH F (lz F j).2.1 /\ (j.st = 3 -> (lz F j).2.2.st = 5)) /\
  ((lz F j).1 = 0 -> (∀k,k≠root.toNat -> (lz F j).2.1 k = F k) /\ clus (lz F j).2.1 root = clus F root /\ bkOf (lz F j).2.1 root = j.file /\ lx (lz F j).2.1 root):=by
 obtain ⟨r0,r5,i,hi⟩:=hr
 obtain ⟨l1,l2,l3⟩:=TL i j.file
 have hL : A8 F root.toNat j.file = ((i.link j.file).1,put F root.toNat (i.link j.file).2):=by unfold A8; rw [hi]
 unfold lz
 split
 ·rename_i h3
  exact ⟨fun _=>⟨oH.refl F,fun h=>absurd h h3⟩,fun h=>absurd h (by simp)⟩
 ·rw [hl,hL]
  dsimp only
  by_cases hc : (i.link j.file).1≠0
  ·rw [if_pos hc]
   exact ⟨fun _=>⟨oH.put hi l1 (l2 hc),fun _=>rfl⟩,fun h=>absurd h hc⟩
  ·rw [if_neg hc]
   refine ⟨fun h=>absurd rfl h,fun _=>⟨fun k hk=>AB F _ hk,?_,?_,⟨r0,r5,_,zq ..⟩⟩⟩
   ·unfold clus; dsimp only; rw [zq,hi]; exact l1
   ·unfold bkOf; dsimp only; rw [zq]; exact l3 (Decidable.not_not.1 hc)
theorem Ly {l : List Int} {x : Int} {s : List Int} (h : l = x::s) : l.getD 0 0 = x:=by rw [h]; rfl
theorem lH.linked {N : Nat} {m : lf} (h : lH N m) (hN : N + 10 < 900000) {j : JobM} (hj : m.job = some j) (h4 : j.st < 4) (h2 : m.dk.kind = 2) (hc : (lz (lZ m.F j).2.1 (lZ m.F j).2.2).1 = 0) :
  ∃t,ls (lz (lZ m.F j).2.1 (lZ m.F j).2.2).2.1 m.dk.root = (m.dk.root::t,0) /\ (j.file = -1 -> t = []) /\ (j.file≠-1 -> ∃p s,m.list = m.dk.root::(p++j.file::s) /\ t = j.file::s):=by
 obtain ⟨hS,hl,hk,hf,hr⟩:=h.ok.job j hj h4
 have h1:=h.stepJ hN hj h4
 have hs:=CN m.F j
 have hstr:=h.str j hj h4 (hk.trans h2)
 obtain ⟨s,hls⟩:=h.ok.head
 have hrt : lx (lZ m.F j).2.1 m.dk.root:=h1.ok.root
 have hwk : ls (lZ m.F j).2.1 m.dk.root = (m.list,0):=h1.ok.walk
 have hc2:=(Pc (F:=(lZ m.F j).2.1) (j:=(lZ m.F j).2.2) (by rw [hs.2.1,hk,h2]) hrt (Ly (by rw [hs.1,hl,hls]))).2 hc
 obtain ⟨a,b,c,d⟩:=hc2
 rw [hs.2.2.1] at c
 exact OP hrt hwk hstr a b c d
theorem lH.linkOk {N : Nat} {m : lf} (h : lH N m) (hN : N + 10 < 900000) : NL m:=fun j hj h4 h2 hc=>by
 obtain ⟨t,ht,-⟩:=h.linked hN hj h4 h2 hc
 rw [ht]
theorem IU {N : Nat} {m : lf} (h : lH N m) (hN : N + 20 < 900000) : lH (N + 10) (zj m).2:=by
 unfold zj
 cases hj : m.job with
 | none=>exact h.mono (by omega)
 | some j=>
  dsimp only
  split
  ·exact h.mono (by omega)
  ·rename_i h4
   have h4 : j.st < 4:=by omega
   have h1:=h.stepJ (by omega) hj h4
   split
   ·split
    ·exact h1.mono (by omega)
    ·rename_i hn
     exact (h1.bareW (by omega) fun k hk=>by cases hk; exact hn).mono (by omega)
   ·split
    ·exact h1.mono (by omega)
    ·rename_i hc0 hks
     have hk2 : m.dk.kind = 2:=Decidable.byContradiction fun hn=>hks (.inl hn)
     have hs3 : (lZ m.F j).2.2.st = 3:=Decidable.byContradiction fun hn=>hks (.inr hn)
     obtain ⟨hS,hl,hk,hf,hr⟩:=h.ok.job j hj h4
     have hs:=CN m.F j
     obtain ⟨s,hls⟩:=h.ok.head
     have hS1 : JobS (lZ m.F j).2.1 (lZ m.F j).2.2:=(h1.ok.job _ rfl (by omega)).1
     have hjo : (lZ m.F j).2.2.Ok:=h1.ok.jok _ rfl
     have hst:=Pc (F:=(lZ m.F j).2.1) (j:=(lZ m.F j).2.2) (by rw [hs.2.1,hk,hk2]) h1.ok.root (Ly (by rw [hs.1,hl,hls]))
     have hlk:=h.linked (by omega) hj h4 hk2
     have hW:=BA h1.ok.sh (by omega) hjo hS1
     have hSJ:=BQ (lZ m.F j).2.1 (lZ m.F j).2.2
     have hSO:=PH (F:=(lZ m.F j).2.1) hjo
     dsimp only at hW
     generalize (lZ m.F j).2.1 = F1 at *
     generalize (lZ m.F j).2.2 = j1 at *
     have hSt : (lz F1 j1).1 = 0 -> (lz F1 j1).2.2 = j1:=by
      unfold lz
      rw [if_neg (by omega),if_pos (by rw [hs.2.1,hk,hk2])]
      split
      ·exact fun h=>absurd h (by assumption)
      ·exact fun _=>rfl
     generalize lz F1 j1 = S at *
     obtain ⟨c,F2,j2⟩:=S
     dsimp only at *
     split
     ·rename_i hc
      obtain ⟨g1,g2⟩:=hst.1 hc
      have h2:=h1.shelf (M:=N + 5 + 1) (Nat.le_succ _) g1 hW
      have h3:=h2.jobs (j:=j1) (j':=j2) rfl hSO hSJ (fun _=>by omega)
      exact (h3.bareW (by omega) fun k hk=>by cases hk; have:=g2 hs3; omega).mono (by omega)
     ·rename_i hc
      have hc:=Decidable.not_not.1 hc
      obtain ⟨t,ht,-⟩:=hlk hc
      obtain ⟨g1,g2,g3,g4⟩:=hst.2 hc
      have hjj:=hSt hc
      subst hjj
      rw [NO]
      have ht2:=N6 (N:=N + 5) (m:={ m with F:=F2,list:=(ls F2 m.dk.root).1,job:=some (endM j2 true) }) h1.ok.tp (by omega) (lC m.dk.root)
      obtain ⟨t1,t2,t3,t4⟩:=ht2
      generalize (lw _ _).2.top = T at *
      refine ⟨⟨hW.mono (by omega),fun k hk5 e=>?_,⟨t1,by dsimp only; omega,by dsimp only; omega,t4⟩,by show ls F2 m.dk.root = ((ls F2 m.dk.root).1,0); rw [ht],g4,fun k hk=>by cases hk; exact Pp hjo true,fun k hk h=>by cases hk; exact absurd h (KN _ _)⟩,fun k hk h=>by cases hk; exact absurd h (KN _ _)⟩
      dsimp only at e ⊢
      have hkr : k≠m.dk.root.toNat:=fun e2=>by
       obtain ⟨-,-,i,hi⟩:=g4
       rw [e2,hi] at e
       cases e
      rw [g1 k hkr] at e
      obtain ⟨a,b,c⟩:=h1.ok.dv k hk5 e
      dsimp only at a b c
      exact ⟨a,by omega,by omega⟩
end Go.Proofs.YtbpblokfiajpjabGreatDoor
namespace Go.Proofs.YtbpblokfiajpjabGreatDoor
open Go.RowKit Go.SL Go.Crc
attribute [local go_sem ↓] Go.wp_at_zero Go.wp_at_succ
def KU (Y : RA) (S : (Bool×Int)×lf) (R : List SL.HP) (w : World) (e : Ending) (w' : World) : Prop:=
 ∃Y' : RA,Y'.y = Y.y /\ e = .returned (.tuple #[.bool S.1.1,.int .i64 S.1.2]) /\ Ext w w' /\ own w' (ryL Y' S.2 R)
theorem TO {F : ShM} {j : JobM} (h : j.st < 4) : (lZ F j).1.2≠0 -> ¬(lZ F j).2.2.st < 4 -> (lZ F j).2.2.st = 5:=by
 unfold lZ
 split
 ·exact fun _ h2=>absurd h h2
 ·split
  ·exact fun h1 _=>absurd rfl h1
  ·split
   ·exact fun _ _=>rfl
   ·exact fun h1 _=>absurd rfl h1
theorem JI (N : Nat) (Y : RA) (m : lf) (hm : YOk N m) (hN : N + 100 < 890000) (hlk : NL m) (R : List SL.HP) (w : World) (H : own w (ryL Y m R)) :
  Calls Tryz.prog 121 #[.pointer (some ⟨Y.y,0,none⟩)] w (KU Y (zj m) R w):=by
 have HB:=zh (AM Y m R w H)
 generalize hres : zj m = res
 unfold zj at hres
 unfold yX at HB
 cases hj : m.job with
 | none=>
  rw [hj] at HB hres
  dsimp only at HB hres
  subst hres
  clear hj hlk
  go_enter Tryz.func121,Tryz.ntmps121
  go_wp2_with fail
  refine HB.out.mono ?_
  rintro e w' ⟨rfl,rfl⟩
  go_wp2_with fail
  go_ret2
  exact ⟨Y,rfl,rfl,Ext.refl _,H⟩
 | some j=>
  rw [hj] at HB hres
  dsimp only at HB hres
  by_cases h4 : 4 <= j.st
  ·rw [if_pos h4] at hres
   subst hres
   rw [decide_eq_false (by omega)] at HB
   clear hj h4 hlk
   go_enter Tryz.func121,Tryz.ntmps121
   go_wp2_with fail
   refine HB.out.mono ?_
   rintro e w' ⟨rfl,rfl⟩
   go_wp2_with fail
   go_ret2
   exact ⟨Y,rfl,rfl,Ext.refl _,H⟩
  ·rw [if_neg h4] at hres
   rw [decide_eq_true (by omega)] at HB
   obtain ⟨hS,hl,hk,hf,hr⟩:=hm.job j hj (by omega)
   have hjo:=hm.jok j hj
   have hsh:=hm.sh.sh (by omega)
   have cj:=An hj H
   have hv : ∀w' L,own w' (L++(row 3 1 Y.vj j.list.length (ln j.list)::((ryT Y m).take 8++R))) -> lR w' Y.vj j.list:=fun w' L h=>lY 0 (lq L [row 3 1 Y.vj j.list.length (ln j.list)] h) rfl
   have HST:=zh (Qf Y.bs Y.A m.F hsh Y.bj Y.vj j hjo hS (row 3 1 Y.vj j.list.length (ln j.list)::((ryT Y m).take 8++R)) w hv (Ax hj H))
   have hcode:=Gy m.F j
   have hst:=Ef hsh hjo hS
   have hsm:=CN m.F j
   have hok2:=Jp (F:=m.F) hjo
   have hS2:=(hS.step hst).same hsm
   have hW2:=hm.sh.step hst
   have hlk2:=hlk j hj (by omega)
   have HPUT:=zh (fun w' h=>Am (w:=w') (Y:=Y) (m:=m) (R:=R) (F':=(lZ m.F j).2.1) (j':=(lZ m.F j).2.2) hj hsm.1 (fun k hk=>hst.same.none hk) h)
   have hr5:=hm.root5
   have hto:=hm.tp.1
   have htw:=hm.tp.2.1
   have htp:=hm.tp.2.2.1
   have hlist:=hsm.1
   have herr:=TO (F:=m.F) (j:=j) (by omega)
   generalize lZ m.F j = SP at *
   obtain ⟨⟨did,c⟩,F1,j1⟩:=SP
   dsimp only at HST hcode hok2 hS2 hW2 hlk2 HPUT hres hlist herr
   have HN:=zh (fun R' w' h=>ES m.dk.root R' w' h)
   have HRES:=zh hres
   have HOK:=zh hok2
   have HS2:=zh hS2
   have HW2:=zh hW2
   have HLK:=zh hlk2
   have HLI:=zh hlist
   have HERR:=zh herr
   clear herr
   clear hres hm hlk hlk2 hS hl hk hf hr hjo hsh hv hst hsm hok2 hS2 hW2 hlist h4 hj
   go_enter Tryz.func121,Tryz.ntmps121
   go_wp2_with fail
   refine HB.out.mono ?_
   rintro e w' ⟨rfl,rfl⟩
   go_wp2_with fail
   refine HST.out.mono ?_
   rintro e w2 ⟨rfl,hx2,h2'⟩
   have h2:=HPUT.out _ h2'
   clear cj h2' HST HPUT HB
   have cj:=An (m:={ m with F:=F1,job:=some j1 }) rfl h2
   have cr:=zC h2
   by_cases hc : c = 0
   ·subst hc
    rw [if_neg (by decide)] at HRES
    have ck:=CA h2
    by_cases hk2 : m.dk.kind = 2
    ·have d2 : (m.dk.kind != 2) = false:=by rw [hk2]; rfl
     have ci : w2.cell? ⟨Y.bj,74,none⟩ = some (.int .i64 j1.st):=lp 6 (Ax (m:={ m with F:=F1,job:=some j1 }) rfl h2) rfl 74 (by decide)
     have HLK:=zh (HLK.out hk2)
     have HK2:=zh hk2
     clear hk2
     by_cases h3 : j1.st = 3
     ·have d3 : (j1.st != 3) = false:=by rw [h3]; rfl
      rw [if_neg (by rintro (h | h); exact h HK2.out; exact h h3)] at HRES
      clear h3
      have hv : ∀w' L,own w' (L++(row 3 1 Y.vj j1.list.length (ln j1.list)::((ryT Y { m with F:=F1,job:=some j1 }).take 8++R))) -> lR w' Y.vj j1.list:=fun w' L h=>lY 0 (lq L [row 3 1 Y.vj j1.list.length (ln j1.list)] h) rfl
      have HSE:=zh (fun w' h=>GS Y.bs Y.A F1 (N + 5) HW2.out (by omega) Y.bj Y.vj j1 HOK.out HS2.out (row 3 1 Y.vj j1.list.length (ln j1.list)::((ryT Y { m with F:=F1,job:=some j1 }).take 8++R)) w' hv h)
      have hsc:=Bh F1 j1
      have HPUT:=zh (fun w' h=>Am (w:=w') (Y:=Y) (m:={ m with F:=F1,job:=some j1 }) (R:=R) (F':=(lz F1 j1).2.1) (j:=j1) (j':=(lz F1 j1).2.2) rfl (BQ F1 j1).1 (fun k hk=>BW hk) h)
      have HSH:=zh ((BA (N:=N + 5) HW2.out (by omega) HOK.out HS2.out).sh (by omega))
      generalize lz F1 j1 = SE at *
      obtain ⟨sc,F2,j2⟩:=SE
      dsimp only at HSE hsc HPUT HSH HLK HRES
      clear hv HW2 HS2
      go_wp2_with fail
      refine (HSE.out _ (Ax (m:={ m with F:=F1,job:=some j1 }) rfl h2)).mono ?_
      rintro e w4 ⟨rfl,hx4,h4'⟩
      have h4 : own w4 (ryL Y { m with F:=F2,job:=some j2 } R):=HPUT.out _ h4'
      clear cj ck ci cr h4'
      have cr:=zC h4
      have hx5:=hx2.trans hx4
      by_cases hsz : sc = 0
      ·have HLK2:=zh (HLK.out hsz)
       clear HLK
       subst hsz
       rw [if_neg (by decide)] at HRES
       have HWK:=zh (fun R' w' h=>DX Y.bs Y.A F2 HSH.out m.dk.root R' w' h)
       unfold zA at HWK
       rw [HLK2.out] at HWK
       generalize (ls F2 m.dk.root).1 = l at *
       clear HLK2 cr
       have HS:=zh (fun (m' : lf) w' R' (h : own w' (ryL Y m' R'))=>(⟨Br h,zC h⟩ : w'.cell? ⟨Y.y,6,none⟩ = some (.pointer (some ⟨Y.bs,0,none⟩)) /\ w'.cell? ⟨Y.y,7,none⟩ = some (.int .i64 m'.dk.root)))
       have h5:=lj h4
       have hx5:=hx5.drew
       have hg:=HS.out _ _ _ h5
       go_upto_region 15 with (fail)
       refine wp_region_held_drew (S:=fun w'=>w'.cell? ⟨Y.y,6,none⟩ = some (.pointer (some ⟨Y.bs,0,none⟩)) /\ w'.cell? ⟨Y.y,7,none⟩ = some (.int .i64 m.dk.root)) (by kernel_rfl) hg (fun hHeld=>?_)
       refine tk 0 ?_
       refine tk 1 ?_
       refine tk 2 ?_
       refine tk 3 ?_
       refine tk 4 ?_
       refine tk 5 ?_
       refine tk 6 ?_
       refine tk 7 ?_
       refine tk 8 ?_
       refine tk 9 ?_
       try simp only [Act.put,tA,tB,tC,tD,tE,tF]
       refine rd 10 rfl fun K hK=>?_
       go_simp
       go_at_call 77
       refine (HWK.out _ _ h5).mono ?_
       rintro e w6 ⟨v,rfl,hx6,h6⟩
       obtain ⟨vo,vb,vof,vcap,rfl,-,-,-,-⟩:=(lY 0 h6 rfl).form
       have h7:=DW (Y:=Y) (m:={ m with F:=F2,job:=some j2 }) h6
       go_simp
       refine hK.out _ _ (HS.out { m with F:=F2,job:=some j2 } _ _ h7) (fun _=>?_)
       clear hK K h4 h5 h6 hg
       try simp only [Act.put,tA,tB,tC,tD,tE,tF]
       refine tk 11 ?_
       refine tk 12 ?_
       refine tk 13 ?_
       refine tk 14 ?_
       refine tk 15 ?_
       try simp only [Act.put,tA,tB,tC,tD,tE,tF]
       refine rd 16 rfl fun K hK=>?_
       have cl:=Aw h7
       have fl:=AI h7 12
       have h8:=Fh h7
       have hx8:=(hx5.trans hx6).setCell (⟨Y.y,12,none⟩ : Addr) (.slice vo l.length vcap)
       have z6:=Br h8
       have z7:=zC h8
       go_simp
       refine hK.out _ _ ⟨z6,z7⟩ (fun _=>?_)
       clear hK K h7 cl fl z6 z7
       try simp only [Act.put,tA,tB,tC,tD,tE,tF]
       refine wpAnyH_done (by kernel_rfl) ?_ _
       generalize w6.setCell ⟨Y.y,12,none⟩ (.slice vo l.length vcap) = w8 at *
       have cj:=An (m:={ m with F:=F2,job:=some j2,list:=l }) (j:=j2) rfl h8
       have h8o:=Ax (Y:={ Y with v:=.slice vo l.length vcap }) (m:={ m with F:=F2,job:=some j2,list:=l }) (j:=j2) rfl h8
       have ci:=lp 6 h8o rfl 74 (by decide)
       have fi:=oU 6 h8o rfl 74
       have h9':=yV (i:=74) (a:=.int .i64 4) 6 h8o rfl (B6 Y.bs Y.vj j2 4)
       have h9 : own _ (ryL { Y with v:=.slice vo l.length vcap } { m with F:=F2,job:=some (endM j2 true),list:=l } R):=Am (Y:={ Y with v:=.slice vo l.length vcap }) (m:={ m with F:=F2,job:=some j2,list:=l }) (j:=j2) (j':=endM j2 true) rfl (show (endM j2 true).list = j2.list from rfl) (fun _ _=>Iff.rfl) h9'
       have hx9:=hx8.setCell (⟨Y.bj,74,none⟩ : Addr) (.int .i64 4)
       go_upto_region 17 with (fail)
       generalize w8.setCell ⟨Y.bj,74,none⟩ (.int .i64 4) = w9 at *
       clear cj ci fi h8 h8o h9'
       have cr:=zC h9
       have HW:=zh (fun R' w' h=>BD { Y with v:=.slice vo l.length vcap } { m with F:=F2,job:=some (endM j2 true),list:=l } hto (by dsimp only; omega) (by dsimp only; omega) (lC m.dk.root) (BN hr5.1 hr5.2) R' w' h)
       have hwc:=zR { m with F:=F2,job:=some (endM j2 true),list:=l } (lC m.dk.root)
       have hwd:=LB { m with F:=F2,job:=some (endM j2 true),list:=l } (lC m.dk.root)
       have hwn:=Ia { m with F:=F2,job:=some (endM j2 true),list:=l } (lC m.dk.root)
       generalize lw { m with F:=F2,job:=some (endM j2 true),list:=l } (lC m.dk.root) = W at *
       obtain ⟨wc,m2⟩:=W
       dsimp only at HW hwc hwd hwn HRES
       have HWD:=zh hwd
       have HWN:=zh hwn
       have hx10:=hx9
       clear hwd hwn hx8 hx9
       go_wp2_with fail
       refine (HN.out _ _ h9).mono ?_
       rintro e w10 ⟨rfl,hx11,h10⟩
       go_wp2_with fail
       refine (HW.out _ _ h10).mono ?_
       rintro e w11 ⟨rfl,hx12,h11⟩
       have hx13:=(hx10.trans hx11).trans hx12
       clear cr h9 h10 hx10 hx11 hx12
       have hdk : m2.dk.root = m.dk.root:=by
        by_cases hwz : wc = 0
        ·rw [HWD.out hwz]; rfl
        ·rw [HWN.out hwz]
       have cr:=zC h11
       rw [hdk] at cr
       have HN2:=zh (fun R' w' h=>ES m.dk.root R' w' h)
       unfold lK.v o6 lC at HN2
       clear HWD HWN hdk
       go_wp2_with fail
       refine (HN2.out _ _ h11).mono ?_
       rintro e w12 ⟨rfl,hx14,h12⟩
       clear cr h11
       have fy:=AI h12
       have e7:=zC h12
       have e8:=CA h12
       have e9:=CD h12
       have e10:=Ek h12
       have e11:=Db h12
       have h13:=lg (i:=11) (v:=.int .i64 0) 6 (lg (i:=10) (v:=.int .i64 0) 6 (lg (i:=9) (v:=.int .i64 (-1)) 6 (lg (i:=8) (v:=.int .i64 0) 6 (lg (i:=7) (v:=.int .i64 m.dk.root) 6 h12 rfl) rfl) rfl) rfl) rfl
       have h14 : own _ (ryL { Y with v:=.slice vo l.length vcap } { m2 with dk:=lC m.dk.root } R):=h13
       have hx15:=((((((hx13.trans hx14).setCell (⟨Y.y,7,none⟩ : Addr) (.int .i64 m.dk.root)).setCell (⟨Y.y,8,none⟩ : Addr) (.int .i64 0)).setCell (⟨Y.y,9,none⟩ : Addr) (.int .i64 (-1))).setCell (⟨Y.y,10,none⟩ : Addr) (.int .i64 0)).setCell (⟨Y.y,11,none⟩ : Addr) (.int .i64 0))
       clear h12 h13
       go_wp2_with fail
       go_ret2
       rw [<- HRES.out]
       exact ⟨{ Y with v:=.slice vo l.length vcap },rfl,rfl,hx15,h14⟩
      ·rw [if_pos hsz] at HRES
       have hpos : 0 < sc:=by omega
       clear hsz
       have HW:=zh (fun R' w' h=>BD Y { m with F:=F2,job:=some j2 } hto (by dsimp only; omega) (by dsimp only; omega) (lC m.dk.root) (BN hr5.1 hr5.2) R' w' h)
       generalize lw { m with F:=F2,job:=some j2 } (lC m.dk.root) = W at *
       obtain ⟨wc,m2⟩:=W
       dsimp only at HW HRES
       go_wp2_with fail
       refine (HN.out _ _ h4).mono ?_
       rintro e w6 ⟨rfl,hx6,h6⟩
       go_wp2_with fail
       refine (HW.out _ _ h6).mono ?_
       rintro e w7 ⟨rfl,hx7,h7⟩
       go_wp2_with fail
       go_ret2
       rw [<- HRES.out]
       exact ⟨Y,rfl,rfl,(hx5.trans hx6).trans hx7,h7⟩
     ·have d3 : (j1.st != 3) = true:=bne_iff_ne.2 h3
      rw [if_pos (.inr h3)] at HRES
      clear h3
      go_wp2_with fail
      go_ret2
      rw [<- HRES.out]
      exact ⟨Y,rfl,rfl,hx2,h2⟩
    ·have d2 : (m.dk.kind != 2) = true:=bne_iff_ne.2 hk2
     rw [if_pos (.inl hk2)] at HRES
     clear hk2
     go_wp2_with fail
     go_ret2
     rw [<- HRES.out]
     exact ⟨Y,rfl,rfl,hx2,h2⟩
   ·rw [if_pos hc] at HRES
    have hpos : 0 < c:=by omega
    have hc0 : c≠0:=hc
    clear hc
    have ci : w2.cell? ⟨Y.bj,74,none⟩ = some (.int .i64 j1.st):=lp 6 (Ax (m:={ m with F:=F1,job:=some j1 }) rfl h2) rfl 74 (by decide)
    by_cases h1 : j1.st < 4
    ·rw [if_pos h1] at HRES
     have d5 : (j1.st == 5) = false:=by rw [beq_eq_false_iff_ne]; omega
     clear h1
     go_wp2_with fail
     go_ret2
     rw [<- HRES.out]
     exact ⟨Y,rfl,rfl,hx2,h2⟩
    ·rw [if_neg h1] at HRES
     have d5 : (j1.st == 5) = true:=by rw [HERR.out hc0 (by omega)]; rfl
     clear h1
     have HW:=zh (fun R' w' h=>BD Y { m with F:=F1,job:=some j1 } hto (by dsimp only; omega) (by dsimp only; omega) (lC m.dk.root) (BN hr5.1 hr5.2) R' w' h)
     generalize lw { m with F:=F1,job:=some j1 } (lC m.dk.root) = W at *
     obtain ⟨wc,m2⟩:=W
     dsimp only at HW HRES
     go_wp2_with fail
     refine (HN.out _ _ h2).mono ?_
     rintro e w3 ⟨rfl,hx3,h3⟩
     go_wp2_with fail
     refine (HW.out _ _ h3).mono ?_
     rintro e w4 ⟨rfl,hx4,h4⟩
     go_wp2_with fail
     go_ret2
     rw [<- HRES.out]
     exact ⟨Y,rfl,rfl,(hx2.trans hx3).trans hx4,h4⟩
def Af (Y : YA) (Y2 : RA) (m : lf) (R : List SL.HP) (w : World) (e : Ending) (w' : World) : Prop:=
 ∃(Y' : YA) (Y2' : RA),Y'.y = Y.y /\ Y2'.y = Y2.y /\ e = .returned (.bool true) /\ Ext w w' /\ own w' (yL Y' m (ryL Y2' m R))
theorem AW {Y : YA} {Y2 : RA} {m m2 : lf} {R : List SL.HP} {w : World} (o : Obj) (H : own w (yL Y m (ryL Y2 m2 R))) : own (w.alloc o) (yL Y m (ryL Y2 m2 (pts w.heap.size o::R))):=by
 have:=Vt o (show own w ((shL Y.bs Y.A m.F++yT Y m++rshL Y2.bs Y2.A m2.F++ryT Y2 m2)++R) by simpa only [zp] using H)
 simpa only [zp] using this
theorem yw_r {Y : YA} {Y2 : RA} {m m2 : lf} {R : List SL.HP} {w : World} (H : own w (yL Y m (ryL Y2 m2 R))) : own w (ryL Y2 m2 (yL Y m R)):=O3 (shL Y.bs Y.A m.F) (yT Y m) (rshL Y2.bs Y2.A m2.F) (ryT Y2 m2) H
theorem yw_b {Y : YA} {Y2 : RA} {m m2 : lf} {R : List SL.HP} {w : World} (H : own w (ryL Y2 m2 (yL Y m R))) : own w (yL Y m (ryL Y2 m2 R)):=O3 (rshL Y2.bs Y2.A m2.F) (ryT Y2 m2) (shL Y.bs Y.A m.F) (yT Y m) H
theorem NB (Y : RA) (m : lf) {R : List SL.HP} (hT : ∀w' L,own w' (L++R) -> yH w') : ∀w' L,own w' (L++ryL Y m R) -> yH w':=fun w' L h=>
 hT w' (L++(rshL Y.bs Y.A m.F++ryT Y m)) (by simpa only [zp] using h)
theorem MI (m : lf) (fr : Int) (s : ByteArray) : 0 <= (zF m fr s).1:=by
 unfold zF
 split
 ·simp
 ·exact S1 _ _ _ _
theorem OJ (m : lf) (fr n : Int) : 0 <= (zL m fr n).1:=by
 unfold zL
 split
 ·simp
 ·exact J2 _ _ _ _
theorem Lz (F : ShM) (l : List Int) (fr n : Int) : 0 <= (getM F l fr n).2:=by
 unfold getM
 split
 ·simp
 ·exact zv _ _ _ _
theorem Qk (m : lf) (f : Int) : 0 <= (Ba m f).1:=by
 unfold Ba
 split
 ·simp
 ·split
  ·simp
  ·split
   ·exact Dr _ _ _
   ·split
    ·exact zR _ _
    ·simp
theorem Jj (j : JobM) (on : Bool) : 0 <= (yG j on).1:=by unfold yG; split <;> split <;> simp
theorem NU (m : lf) (a b c d : Int) : 0 <= (Aj m a b c d).1:=by
 unfold Aj
 split
 ·simp
 ·split
  ·simp
  ·split
   ·exact FW _ _ _ _ _
   ·have:=DZ m.F m.dk.root a b c d
    split
    ·rename_i h; rw [h] at this; exact this
    ·split
     ·exact zR _ _
     ·exact Jj _ _
theorem Kp (m : lf) (j : JobM) (r : Int) (b : Bool) : 0 <= (BJ m j r b).1:=by
 unfold BJ
 split
 ·exact zR _ _
 ·simp
theorem OC (m : lf) : 0 <= (Ai m).1:=by
 unfold Ai
 split
 ·simp
 ·split
  ·simp
  ·split
   ·simp
   ·split
    ·exact Bh _ _
    ·exact Kp _ _ _ _
theorem Ns (m : lf) : 0 <= (zG m).1:=by
 unfold zG
 split
 ·simp
 ·split
  ·simp
  ·exact Kp _ _ _ _
theorem Nf (m : lf) (b : Bool) : 0 <= (zH m b).1:=by
 unfold zH
 split
 ·simp
 ·split
  ·simp
  ·exact Jj _ _
theorem N9 (m : lf) (n : Int) : 0 <= (Ag m n).1:=by
 unfold Ag
 split
 ·simp
 ·split
  ·simp
  ·split <;> simp
theorem TM (m : lf) (f n : Int) : 0 <= (armM m f n).1:=by
 unfold armM
 split
 ·simp
 ·split
  ·simp
  ·split <;> simp
theorem Jf (m : lf) : 0 <= (zj m).1.2:=by
 unfold zj
 split
 ·simp
 ·split
  ·simp
  ·dsimp only
   split
   ·exact Gy _ _
   ·split
    ·simp
    ·split
     ·exact Bh _ _
     ·simp
theorem Q3 {N : Nat} {m : lf} (h : YOk N m) (fr : Int) {n : Int} (hn : n < 0 \/ 200 < n) : zL m fr n = (1,m):=by
 unfold zL
 rw [if_pos]
 obtain ⟨s,hs⟩:=h.head
 obtain ⟨k,i,hk,hk5,hi⟩:=lT h.root
 have hc:=(h.sh.ok k i hk5 hi).head
 have hcl : clus m.F m.dk.root = i.c:=by rw [hk]; exact yo hi
 unfold lG at hc
 unfold lW
 rw [hs]
 simp only [List.length_cons,List.getD_cons_zero]
 rw [if_neg (by omega),hcl,if_pos (by omega)]
 decide
theorem Pv (N : Nat) (Y : YA) (m : lf) (hm : YOk N m) (hN : N < 900000) (file : Int) (R : List SL.HP) (w : World) (H : own w (yL Y m R)) :
  Calls Tryz.prog 108 #[.pointer (some ⟨Y.y,0,none⟩),.int .i64 file] w (zm Y (oC m file (-1)) R w):=by
 have HB:=zh (KA N Y m hm hN file (-1) R w H)
 clear hm hN H
 go_enter Tryz.func108,Tryz.ntmps108
 go_wp2_with fail
 refine HB.out.mono ?_
 rintro e w2 ⟨Y',hy,rfl,hx,h2⟩
 go_wp2_with fail
 go_ret
 exact ⟨Y',hy,rfl,hx,h2⟩
theorem Lh (N : Nat) (Y : RA) (m : lf) (hm : YOk N m) (hN : N < 900000) (fr n : Int) (hfr : lN fr) (hn : lN n) (R : List SL.HP) (w : World) (H : own w (ryL Y m R)) :
  Calls Tryz.prog 105 #[.pointer (some ⟨Y.bs,0,none⟩),Y.v,.int .i64 fr,.int .i64 n] w fun e w'=>e = .returned (.tuple #[.string (getM m.F m.list fr n).1,.int .i64 (getM m.F m.list fr n).2]) /\ Ext w w' /\ own w' (ryL Y m R):=by
 have h5 : m.list.length <= 5:=by
  have:=A4 (F:=m.F) (root:=m.dk.root)
  rwa [hm.walk] at this
 exact Ug Y.bs Y.A m.F (hm.sh.sh hN) Y.v m.list hm.files h5 fr n hfr hn (ryT Y m++R) w (fun w' L h=>lY (L.length + 7) h (by rw [List.getElem?_append_right (by omega),show L.length + 7 - L.length = 7 by omega]; rfl)) H
theorem M3 (Y : YA) (Y2 : RA) (m : lf) (N : Nat) (hm : lH N m) (hN : N + 2000 < 890000) (x : Act) (hA : lN x.A) (hB : lN x.B) (hS : x.S.size <= 700) (ko : Option Addr) (kn kc : Nat) (R : List SL.HP) (hT : ∀w' L,own w' (L++R) -> yH w') (w : World) (H : own w (yL Y m (ryL Y2 m R)))  (k0 : (x.kind.toList == [119,114,105,116,101]) = true) :
  Calls Tryz.prog 29 #[.pointer (some ⟨Y.y,0,none⟩),.pointer (some ⟨Y2.y,0,none⟩),.agg #[.string x.kind,.int .i64 x.A,.int .i64 x.B,.int .i64 x.C,.int .i64 x.D,.string x.S,.slice ko kn kc]] w (Af Y Y2 (zF m x.A x.S).2 R w):=by
 have h0:=AW (.cells #[.string x.kind,.int .i64 x.A,.int .i64 x.B,.int .i64 x.C,.int .i64 x.D,.string x.S,.slice ko kn kc] 45) H
 have hxa:=(Ext.refl w).alloc (.cells #[.string x.kind,.int .i64 x.A,.int .i64 x.B,.int .i64 x.C,.int .i64 x.D,.string x.S,.slice ko kn kc] 45)
 have hcode : 0 <= (zF m x.A x.S).1:=MI _ _ _
 have HP:=zh (fun (R' : List SL.HP) w' h=>O7 N Y m hm.ok (by omega) x.A hA x.S (by omega) R' w' h)
 have HR:=zh (fun (R' : List SL.HP) w' h=>Uo N Y2 m hm.ok (by omega) x.A hA x.S (by omega) R' w' h)
 unfold zm at HP
 unfold yY at HR
 generalize zF m x.A x.S = S at *
 obtain ⟨f,m2⟩:=S
 dsimp only at hcode HP HR ⊢
 clear H hm hN hT hA hB hS
 go_enter Tryz.func29,Tryz.ntmps29
 go_upto_region 1 with (fail)
 generalize w.heap.size = ba at *
 generalize w.alloc (.cells #[.string x.kind,.int .i64 x.A,.int .i64 x.B,.int .i64 x.C,.int .i64 x.D,.string x.S,.slice ko kn kc] 45) = wa at *
 have c0:=(ld 30 h0 rfl).1 0
 have c1:=(ld 30 h0 rfl).1 1
 have c5:=(ld 30 h0 rfl).1 5
 go_upto_region 3 with (fail)
 have hd:=lj h0
 go_region_held3 (fun w'=>w'.cell? ⟨ba,1,none⟩ = some (.int .i64 x.A) /\ w'.cell? ⟨ba,5,none⟩ = some (.string x.S)) (first | exact ⟨(ld 30 hd rfl).1 1,(ld 30 hd rfl).1 5⟩ | exact ⟨(ld 30 h4 rfl).1 1,(ld 30 h4 rfl).1 5⟩ | exact ⟨(ld 30 h5 rfl).1 1,(ld 30 h5 rfl).1 5⟩) (first | (go_at_call 91; refine (HP.out _ _ hd).mono ?_; rintro e w4 ⟨Y',hy,rfl,hx4,h4⟩) | (go_at_call 103; refine (HR.out _ _ (yw_r h4)).mono ?_; rintro e w5 ⟨Y2',hy2,rfl,hx5,h5'⟩; have h5:=yw_b h5') | (go_at_call 17; refine (zg f f _ hcode).mono ?_; rintro e w' ⟨rfl,rfl⟩))
 go_wp2_with fail
 go_ret
 exact ⟨Y',Y2',hy,hy2,by simp,(hxa.drew.trans hx4).trans hx5,lh 30 h5 rfl⟩
theorem KW (Y : YA) (Y2 : RA) (m : lf) (N : Nat) (hm : lH N m) (hN : N + 2000 < 890000) (x : Act) (hA : lN x.A) (hB : lN x.B) (hS : x.S.size <= 700) (ko : Option Addr) (kn kc : Nat) (R : List SL.HP) (hT : ∀w' L,own w' (L++R) -> yH w') (w : World) (H : own w (yL Y m (ryL Y2 m R))) (k0 : ¬(x.kind.toList == [119,114,105,116,101]) = true) (k1 : (x.kind.toList == [119,105,112,101]) = true) (hb : x.B < 0 \/ 200 < x.B) :
  Calls Tryz.prog 29 #[.pointer (some ⟨Y.y,0,none⟩),.pointer (some ⟨Y2.y,0,none⟩),.agg #[.string x.kind,.int .i64 x.A,.int .i64 x.B,.int .i64 x.C,.int .i64 x.D,.string x.S,.slice ko kn kc]] w (Af Y Y2 m R w):=by
 have h0:=AW (.cells #[.string x.kind,.int .i64 x.A,.int .i64 x.B,.int .i64 x.C,.int .i64 x.D,.string x.S,.slice ko kn kc] 45) H
 have hxa:=(Ext.refl w).alloc (.cells #[.string x.kind,.int .i64 x.A,.int .i64 x.B,.int .i64 x.C,.int .i64 x.D,.string x.S,.slice ko kn kc] 45)
 have HP:=zh (fun (R' : List SL.HP) w' h=>LJ N Y m hm.ok (by omega) x.A x.B hA hB R' w' h)
 unfold zm at HP
 rw [Q3 hm.ok x.A hb] at HP
 dsimp only at HP
 have d1 : decide (x.B < 0) = true \/ (decide (x.B < 0) = false /\ decide (200 < x.B) = true):=by
  by_cases h : x.B < 0
  ·exact .inl (decide_eq_true h)
  ·exact .inr ⟨decide_eq_false h,decide_eq_true (by omega)⟩
 clear H hm hN hT hA hB hS hb
 go_enter Tryz.func29,Tryz.ntmps29
 go_upto_region 1 with (fail)
 generalize w.heap.size = ba at *
 generalize w.alloc (.cells #[.string x.kind,.int .i64 x.A,.int .i64 x.B,.int .i64 x.C,.int .i64 x.D,.string x.S,.slice ko kn kc] 45) = wa at *
 have c0:=(ld 30 h0 rfl).1 0
 have c1:=(ld 30 h0 rfl).1 1
 have c2:=(ld 30 h0 rfl).1 2
 rcases d1 with d1 | ⟨d1,d2⟩
 all_goals
  go_wp2_with fail
  refine (HP.out _ _ h0).mono ?_
  rintro e w4 ⟨Y',hy,rfl,hx4,h4⟩
  clear c0 c1 c2
  go_wp2_with fail
  refine (zg 1 1 _ (by decide)).mono ?_
  rintro e w' ⟨rfl,rfl⟩
  go_wp2_with fail
  go_ret
  exact ⟨Y',Y2,hy,rfl,by simp,hxa.trans hx4,lh 30 h4 rfl⟩
theorem JJ (Y : YA) (Y2 : RA) (m : lf) (N : Nat) (hm : lH N m) (hN : N + 2000 < 890000) (x : Act) (hA : lN x.A) (hB : lN x.B) (hS : x.S.size <= 700) (ko : Option Addr) (kn kc : Nat) (R : List SL.HP) (hT : ∀w' L,own w' (L++R) -> yH w') (w : World) (H : own w (yL Y m (ryL Y2 m R))) (k0 : ¬(x.kind.toList == [119,114,105,116,101]) = true) (k1 : (x.kind.toList == [119,105,112,101]) = true) (hb : ¬(x.B < 0 \/ 200 < x.B)) :
  Calls Tryz.prog 29 #[.pointer (some ⟨Y.y,0,none⟩),.pointer (some ⟨Y2.y,0,none⟩),.agg #[.string x.kind,.int .i64 x.A,.int .i64 x.B,.int .i64 x.C,.int .i64 x.D,.string x.S,.slice ko kn kc]] w (Af Y Y2 (zL m x.A x.B).2 R w):=by
 have h0:=AW (.cells #[.string x.kind,.int .i64 x.A,.int .i64 x.B,.int .i64 x.C,.int .i64 x.D,.string x.S,.slice ko kn kc] 45) H
 have hxa:=(Ext.refl w).alloc (.cells #[.string x.kind,.int .i64 x.A,.int .i64 x.B,.int .i64 x.C,.int .i64 x.D,.string x.S,.slice ko kn kc] 45)
 obtain ⟨z,hz⟩:=ze (show 0 <= x.B by omega)
 have hz2 : z <= 200:=by omega
 have hcode : 0 <= (zL m x.A x.B).1:=OJ _ _ _
 have HP:=zh (fun (R' : List SL.HP) w' h=>LJ N Y m hm.ok (by omega) x.A x.B hA hB R' w' h)
 have HR:=zh (fun (R' : List SL.HP) w' h=>Pu N Y2 m hm.ok (by omega) x.A hA z hz2 (zs (16 * z)) (En _) R' w' h)
 have HZ:=zh (fun (R' : List SL.HP) w' h=>A0 (16 * z) (by omega) R' w' h)
 have e1 : IntKind.i64.wrap (16 * x.B) = ((16 * z : Nat) : Int):=by rw [IntWalk.i64_in _ (by omega)]; omega
 rw [<- hz] at HR
 unfold zm at HP
 unfold yY at HR
 generalize zs (16 * z) = zz at *
 generalize zL m x.A x.B = S at *
 obtain ⟨f,m2⟩:=S
 dsimp only at hcode HP HR ⊢
 have d1 : decide (x.B < 0) = false:=decide_eq_false (by omega)
 have d2 : decide (200 < x.B) = false:=decide_eq_false (by omega)
 have m1 : (0 : Int) <= x.B:=by omega
 have m3 : x.B <= 200:=by omega
 clear H hm hN hT hA hB hS hb hz hz2
 go_enter Tryz.func29,Tryz.ntmps29
 go_upto_region 1 with (fail)
 generalize w.heap.size = ba at *
 generalize w.alloc (.cells #[.string x.kind,.int .i64 x.A,.int .i64 x.B,.int .i64 x.C,.int .i64 x.D,.string x.S,.slice ko kn kc] 45) = wa at *
 have c0:=(ld 30 h0 rfl).1 0
 have c1:=(ld 30 h0 rfl).1 1
 have c2:=(ld 30 h0 rfl).1 2
 go_upto_region 7 with (fail)
 have hd:=lj h0
 go_region_held3 (fun w'=>w'.cell? ⟨ba,1,none⟩ = some (.int .i64 x.A) /\ w'.cell? ⟨ba,2,none⟩ = some (.int .i64 x.B)) (first | exact ⟨(ld 30 hd rfl).1 1,(ld 30 hd rfl).1 2⟩ | exact ⟨(ld 30 h4 rfl).1 1,(ld 30 h4 rfl).1 2⟩ | exact ⟨(ld 30 h9 rfl).1 1,(ld 30 h9 rfl).1 2⟩ | exact ⟨(ld 30 h5 rfl).1 1,(ld 30 h5 rfl).1 2⟩) (first | (go_at_call 104; refine (HP.out _ _ hd).mono ?_; rintro e w4 ⟨Y',hy,rfl,hx4,h4⟩) | (go_at_call 92; refine (HZ.out _ _ h4).mono ?_; rintro e w9 ⟨rfl,hx9,h9⟩) | (go_at_call 103; refine (HR.out _ _ (yw_r h9)).mono ?_; rintro e w5 ⟨Y2',hy2,rfl,hx5,h5'⟩; have h5:=yw_b h5') | (go_at_call 17; refine (zg f f _ hcode).mono ?_; rintro e w' ⟨rfl,rfl⟩))
 go_wp2_with fail
 go_ret
 exact ⟨Y',Y2',hy,hy2,by simp,((hxa.drew.trans hx4).trans hx9).trans hx5,lh 30 h5 rfl⟩
theorem OG (Y : YA) (Y2 : RA) (m : lf) (N : Nat) (hm : lH N m) (hN : N + 2000 < 890000) (x : Act) (hA : lN x.A) (hB : lN x.B) (hS : x.S.size <= 700) (ko : Option Addr) (kn kc : Nat) (R : List SL.HP) (hT : ∀w' L,own w' (L++R) -> yH w') (w : World) (H : own w (yL Y m (ryL Y2 m R))) (k0 : ¬(x.kind.toList == [119,114,105,116,101]) = true) (k1 : ¬(x.kind.toList == [119,105,112,101]) = true) (k2 : (x.kind.toList == [114,101,97,100]) = true) :
  Calls Tryz.prog 29 #[.pointer (some ⟨Y.y,0,none⟩),.pointer (some ⟨Y2.y,0,none⟩),.agg #[.string x.kind,.int .i64 x.A,.int .i64 x.B,.int .i64 x.C,.int .i64 x.D,.string x.S,.slice ko kn kc]] w (Af Y Y2 m R w):=by
 have h0:=AW (.cells #[.string x.kind,.int .i64 x.A,.int .i64 x.B,.int .i64 x.C,.int .i64 x.D,.string x.S,.slice ko kn kc] 45) H
 have hxa:=(Ext.refl w).alloc (.cells #[.string x.kind,.int .i64 x.A,.int .i64 x.B,.int .i64 x.C,.int .i64 x.D,.string x.S,.slice ko kn kc] 45)
 have hcode : 0 <= (getM m.F m.list x.A x.B).2:=Lz _ _ _ _
 have HP:=zh (fun (R' : List SL.HP) w' h=>It N Y m hm.ok (by omega) x.A x.B hA hB R' w' h)
 have HR:=zh (fun (R' : List SL.HP) (w' : World) (h : own w' (ryL Y2 m R'))=>Lh N Y2 m hm.ok (by omega) x.A x.B hA hB R' w' h)
 generalize getM m.F m.list x.A x.B = S at *
 obtain ⟨t,f⟩:=S
 dsimp only at hcode HP HR
 clear H hm hN hT hA hB hS
 go_enter Tryz.func29,Tryz.ntmps29
 go_upto_region 1 with (fail)
 generalize w.heap.size = ba at *
 generalize w.alloc (.cells #[.string x.kind,.int .i64 x.A,.int .i64 x.B,.int .i64 x.C,.int .i64 x.D,.string x.S,.slice ko kn kc] 45) = wa at *
 have c0:=(ld 30 h0 rfl).1 0
 have c1:=(ld 30 h0 rfl).1 1
 have c2:=(ld 30 h0 rfl).1 2
 go_wp2_with fail
 refine (HP.out _ _ h0).mono ?_
 rintro e w4 ⟨rfl,hx4,h4⟩
 clear c0 c1 c2
 go_upto_region 10 with (fail)
 have hd:=lj h4
 obtain ⟨rao,rlb,roff,rcap,hrv,-,-,-,-⟩:=(BF (yw_r hd)).form
 rw [hrv] at HR
 have HRV:=zh hrv
 clear hrv
 go_region_held3 (fun w'=>w'.cell? ⟨ba,1,none⟩ = some (.int .i64 x.A) /\ w'.cell? ⟨ba,2,none⟩ = some (.int .i64 x.B) /\ w'.cell? ⟨Y2.y,6,none⟩ = some (.pointer (some ⟨Y2.bs,0,none⟩)) /\ w'.cell? ⟨Y2.y,12,none⟩ = some (.slice rao m.list.length rcap)) (first | exact ⟨(ld 30 hd rfl).1 1,(ld 30 hd rfl).1 2,Br (yw_r hd),by rw [<- HRV.out]; exact Aw (yw_r hd)⟩ | exact ⟨(ld 30 h5 rfl).1 1,(ld 30 h5 rfl).1 2,Br (yw_r h5),by rw [<- HRV.out]; exact Aw (yw_r h5)⟩) (first | (go_at_call 105; refine (HR.out _ _ (yw_r hd)).mono ?_; rintro e w5 ⟨rfl,hx5,h5'⟩; have h5:=yw_b h5'))
 go_wp2_with fail
 refine (zg f f _ hcode).mono ?_
 rintro e w' ⟨rfl,rfl⟩
 go_wp2_with fail
 go_ret
 exact ⟨Y,Y2,rfl,rfl,by simp,((hxa.trans hx4).drew.trans hx5),lh 30 h5 rfl⟩
theorem Mq (Y : YA) (Y2 : RA) (m : lf) (N : Nat) (hm : lH N m) (hN : N + 2000 < 890000) (x : Act) (hA : lN x.A) (hB : lN x.B) (hS : x.S.size <= 700) (ko : Option Addr) (kn kc : Nat) (R : List SL.HP) (hT : ∀w' L,own w' (L++R) -> yH w') (w : World) (H : own w (yL Y m (ryL Y2 m R))) (k0 : ¬(x.kind.toList == [119,114,105,116,101]) = true) (k1 : ¬(x.kind.toList == [119,105,112,101]) = true) (k2 : ¬(x.kind.toList == [114,101,97,100]) = true) (k3 : (x.kind.toList == [102,108,117,115,104]) = true) :
  Calls Tryz.prog 29 #[.pointer (some ⟨Y.y,0,none⟩),.pointer (some ⟨Y2.y,0,none⟩),.agg #[.string x.kind,.int .i64 x.A,.int .i64 x.B,.int .i64 x.C,.int .i64 x.D,.string x.S,.slice ko kn kc]] w (Af Y Y2 (zj (z8 m)).2 R w):=by
 have h0:=AW (.cells #[.string x.kind,.int .i64 x.A,.int .i64 x.B,.int .i64 x.C,.int .i64 x.D,.string x.S,.slice ko kn kc] 45) H
 have hxa:=(Ext.refl w).alloc (.cells #[.string x.kind,.int .i64 x.A,.int .i64 x.B,.int .i64 x.C,.int .i64 x.D,.string x.S,.slice ko kn kc] 45)
 have hg:=EG hm
 have hcode : 0 <= (zj (z8 m)).1.2:=Jf _
 have HP:=zh (fun (R' : List SL.HP) w' h=>QB N Y m hm.ok (by omega) R' w' h)
 have HR:=zh (fun (R' : List SL.HP) w' h=>OM N Y2 m hm.ok (by omega) R' w' h)
 have HP2:=zh (fun (P : SL.HP) w' h=>LO N Y (z8 m) hg.ok (by omega) (hg.linkOk (by omega)) (ryL Y2 (z8 m) ([P]++R)) (NB Y2 (z8 m) (Lv hT [P])) w' h)
 have HR2:=zh (fun (R' : List SL.HP) w' h=>JI N Y2 (z8 m) hg.ok (by omega) (hg.linkOk (by omega)) R' w' h)
 unfold NI at HP2
 unfold KU at HR2
 generalize z8 m = m1 at *
 generalize zj m1 = S at *
 obtain ⟨⟨did,f⟩,m2⟩:=S
 dsimp only at hcode HP2 HR2 ⊢
 clear H hm hN hT hA hB hS hg
 go_enter Tryz.func29,Tryz.ntmps29
 go_upto_region 1 with (fail)
 generalize w.heap.size = ba at *
 generalize w.alloc (.cells #[.string x.kind,.int .i64 x.A,.int .i64 x.B,.int .i64 x.C,.int .i64 x.D,.string x.S,.slice ko kn kc] 45) = wa at *
 have c0:=(ld 30 h0 rfl).1 0
 go_wp2_with fail
 refine (HP.out _ _ h0).mono ?_
 rintro e w4 ⟨rfl,hx4,h4⟩
 go_wp2_with fail
 refine (HR.out _ _ (yw_r h4)).mono ?_
 rintro e w5 ⟨rfl,hx5,h5'⟩
 have h5:=yw_b h5'
 go_wp2_with fail
 refine (HP2.out _ _ h5).mono ?_
 rintro e w6 ⟨Y',hy,rfl,hx6,h6⟩
 go_wp2_with fail
 refine (HR2.out _ _ (yw_r h6)).mono ?_
 rintro e w7 ⟨Y2',hy2,rfl,hx7,h7'⟩
 have h7:=yw_b h7'
 cases did
 all_goals
  go_wp2_with fail
  refine (zg f f _ hcode).mono ?_
  rintro e w' ⟨rfl,rfl⟩
  go_wp2_with fail
  go_ret
  exact ⟨Y',Y2',hy,hy2,by simp,(((hxa.trans hx4).trans hx5).trans hx6).trans hx7,lh 30 h7 rfl⟩
theorem MQ (Y : YA) (Y2 : RA) (m : lf) (N : Nat) (hm : lH N m) (hN : N + 2000 < 890000) (x : Act) (hA : lN x.A) (hB : lN x.B) (hS : x.S.size <= 700) (ko : Option Addr) (kn kc : Nat) (R : List SL.HP) (hT : ∀w' L,own w' (L++R) -> yH w') (w : World) (H : own w (yL Y m (ryL Y2 m R))) (k0 : ¬(x.kind.toList == [119,114,105,116,101]) = true) (k1 : ¬(x.kind.toList == [119,105,112,101]) = true) (k2 : ¬(x.kind.toList == [114,101,97,100]) = true) (k3 : ¬(x.kind.toList == [102,108,117,115,104]) = true) (k4 : (x.kind.toList == [98,108,97,110,107]) = true) :
  Calls Tryz.prog 29 #[.pointer (some ⟨Y.y,0,none⟩),.pointer (some ⟨Y2.y,0,none⟩),.agg #[.string x.kind,.int .i64 x.A,.int .i64 x.B,.int .i64 x.C,.int .i64 x.D,.string x.S,.slice ko kn kc]] w (Af Y Y2 (oC m x.A (-1)).2 R w):=by
 have h0:=AW (.cells #[.string x.kind,.int .i64 x.A,.int .i64 x.B,.int .i64 x.C,.int .i64 x.D,.string x.S,.slice ko kn kc] 45) H
 have hxa:=(Ext.refl w).alloc (.cells #[.string x.kind,.int .i64 x.A,.int .i64 x.B,.int .i64 x.C,.int .i64 x.D,.string x.S,.slice ko kn kc] 45)
 have hcode : 0 <= (oC m x.A (-1)).1:=Dr _ _ _
 have HP:=zh (fun (R' : List SL.HP) w' h=>Pv N Y m hm.ok (by omega) x.A R' w' h)
 have HR:=zh (fun (R' : List SL.HP) w' h=>Je N Y2 m hm.ok (by omega) x.A (-1) R' w' h)
 unfold zm at HP
 unfold yY at HR
 generalize oC m x.A (-1) = S at *
 obtain ⟨f,m2⟩:=S
 dsimp only at hcode HP HR ⊢
 clear H hm hN hT hA hB hS
 go_enter Tryz.func29,Tryz.ntmps29
 go_upto_region 1 with (fail)
 generalize w.heap.size = ba at *
 generalize w.alloc (.cells #[.string x.kind,.int .i64 x.A,.int .i64 x.B,.int .i64 x.C,.int .i64 x.D,.string x.S,.slice ko kn kc] 45) = wa at *
 have c0:=(ld 30 h0 rfl).1 0
 have c1:=(ld 30 h0 rfl).1 1
 go_upto_region 16 with (fail)
 have hd:=lj h0
 go_region_held3 (fun w'=>w'.cell? ⟨ba,1,none⟩ = some (.int .i64 x.A)) (first | exact (ld 30 hd rfl).1 1 | exact (ld 30 h4 rfl).1 1 | exact (ld 30 h5 rfl).1 1) (first | (go_at_call 108; refine (HP.out _ _ hd).mono ?_; rintro e w4 ⟨Y',hy,rfl,hx4,h4⟩) | (go_at_call 109; refine (HR.out _ _ (yw_r h4)).mono ?_; rintro e w5 ⟨Y2',hy2,rfl,hx5,h5'⟩; have h5:=yw_b h5') | (go_at_call 17; refine (zg f f _ hcode).mono ?_; rintro e w' ⟨rfl,rfl⟩))
 go_wp2_with fail
 go_ret
 exact ⟨Y',Y2',hy,hy2,by simp,(hxa.drew.trans hx4).trans hx5,lh 30 h5 rfl⟩
theorem OA (Y : YA) (Y2 : RA) (m : lf) (N : Nat) (hm : lH N m) (hN : N + 2000 < 890000) (x : Act) (hA : lN x.A) (hB : lN x.B) (hS : x.S.size <= 700) (ko : Option Addr) (kn kc : Nat) (R : List SL.HP) (hT : ∀w' L,own w' (L++R) -> yH w') (w : World) (H : own w (yL Y m (ryL Y2 m R))) (k0 : ¬(x.kind.toList == [119,114,105,116,101]) = true) (k1 : ¬(x.kind.toList == [119,105,112,101]) = true) (k2 : ¬(x.kind.toList == [114,101,97,100]) = true) (k3 : ¬(x.kind.toList == [102,108,117,115,104]) = true) (k4 : ¬(x.kind.toList == [98,108,97,110,107]) = true) (k5 : (x.kind.toList == [115,110,97,112]) = true) :
  Calls Tryz.prog 29 #[.pointer (some ⟨Y.y,0,none⟩),.pointer (some ⟨Y2.y,0,none⟩),.agg #[.string x.kind,.int .i64 x.A,.int .i64 x.B,.int .i64 x.C,.int .i64 x.D,.string x.S,.slice ko kn kc]] w (Af Y Y2 (Ba m x.A).2 R w):=by
 have h0:=AW (.cells #[.string x.kind,.int .i64 x.A,.int .i64 x.B,.int .i64 x.C,.int .i64 x.D,.string x.S,.slice ko kn kc] 45) H
 have hxa:=(Ext.refl w).alloc (.cells #[.string x.kind,.int .i64 x.A,.int .i64 x.B,.int .i64 x.C,.int .i64 x.D,.string x.S,.slice ko kn kc] 45)
 have hcode : 0 <= (Ba m x.A).1:=Qk _ _
 have HP:=zh (fun (R' : List SL.HP) w' h=>Tv N Y m hm.ok (by omega) x.A R' w' h)
 have HR:=zh (fun (R' : List SL.HP) w' h=>QM N Y2 m hm.ok (by omega) x.A R' w' h)
 unfold zm at HP
 unfold yY at HR
 generalize Ba m x.A = S at *
 obtain ⟨f,m2⟩:=S
 dsimp only at hcode HP HR ⊢
 clear H hm hN hT hA hB hS
 go_enter Tryz.func29,Tryz.ntmps29
 go_upto_region 1 with (fail)
 generalize w.heap.size = ba at *
 generalize w.alloc (.cells #[.string x.kind,.int .i64 x.A,.int .i64 x.B,.int .i64 x.C,.int .i64 x.D,.string x.S,.slice ko kn kc] 45) = wa at *
 have c0:=(ld 30 h0 rfl).1 0
 have c1:=(ld 30 h0 rfl).1 1
 go_upto_region 18 with (fail)
 have hd:=lj h0
 go_region_held3 (fun w'=>w'.cell? ⟨ba,1,none⟩ = some (.int .i64 x.A)) (first | exact (ld 30 hd rfl).1 1 | exact (ld 30 h4 rfl).1 1 | exact (ld 30 h5 rfl).1 1) (first | (go_at_call 110; refine (HP.out _ _ hd).mono ?_; rintro e w4 ⟨Y',hy,rfl,hx4,h4⟩) | (go_at_call 111; refine (HR.out _ _ (yw_r h4)).mono ?_; rintro e w5 ⟨Y2',hy2,rfl,hx5,h5'⟩; have h5:=yw_b h5') | (go_at_call 17; refine (zg f f _ hcode).mono ?_; rintro e w' ⟨rfl,rfl⟩))
 go_wp2_with fail
 go_ret
 exact ⟨Y',Y2',hy,hy2,by simp,(hxa.drew.trans hx4).trans hx5,lh 30 h5 rfl⟩
theorem ND (Y : YA) (Y2 : RA) (m : lf) (N : Nat) (hm : lH N m) (hN : N + 2000 < 890000) (x : Act) (hA : lN x.A) (hB : lN x.B) (hS : x.S.size <= 700) (ko : Option Addr) (kn kc : Nat) (R : List SL.HP) (hT : ∀w' L,own w' (L++R) -> yH w') (w : World) (H : own w (yL Y m (ryL Y2 m R))) (k0 : ¬(x.kind.toList == [119,114,105,116,101]) = true) (k1 : ¬(x.kind.toList == [119,105,112,101]) = true) (k2 : ¬(x.kind.toList == [114,101,97,100]) = true) (k3 : ¬(x.kind.toList == [102,108,117,115,104]) = true) (k4 : ¬(x.kind.toList == [98,108,97,110,107]) = true) (k5 : ¬(x.kind.toList == [115,110,97,112]) = true) (k6 : (x.kind.toList == [115,116,97,114,116]) = true) :
  Calls Tryz.prog 29 #[.pointer (some ⟨Y.y,0,none⟩),.pointer (some ⟨Y2.y,0,none⟩),.agg #[.string x.kind,.int .i64 x.A,.int .i64 x.B,.int .i64 x.C,.int .i64 x.D,.string x.S,.slice ko kn kc]] w (Af Y Y2 (Aj m x.A x.B x.C x.D).2 R w):=by
 have h0:=AW (.cells #[.string x.kind,.int .i64 x.A,.int .i64 x.B,.int .i64 x.C,.int .i64 x.D,.string x.S,.slice ko kn kc] 45) H
 have hxa:=(Ext.refl w).alloc (.cells #[.string x.kind,.int .i64 x.A,.int .i64 x.B,.int .i64 x.C,.int .i64 x.D,.string x.S,.slice ko kn kc] 45)
 have hcode : 0 <= (Aj m x.A x.B x.C x.D).1:=NU _ _ _ _ _
 have HP:=zh (fun (R' : List SL.HP) w' h=>Qa N Y m hm.ok (by omega) x.A x.B x.C x.D R' w' h)
 have HR:=zh (fun (R' : List SL.HP) w' h=>Oq N Y2 m hm.ok (by omega) x.A x.B x.C x.D R' w' h)
 unfold zm at HP
 unfold yY at HR
 generalize Aj m x.A x.B x.C x.D = S at *
 obtain ⟨f,m2⟩:=S
 dsimp only at hcode HP HR ⊢
 clear H hm hN hT hA hB hS
 go_enter Tryz.func29,Tryz.ntmps29
 go_upto_region 1 with (fail)
 generalize w.heap.size = ba at *
 generalize w.alloc (.cells #[.string x.kind,.int .i64 x.A,.int .i64 x.B,.int .i64 x.C,.int .i64 x.D,.string x.S,.slice ko kn kc] 45) = wa at *
 have c0:=(ld 30 h0 rfl).1 0
 have c1:=(ld 30 h0 rfl).1 1
 have c2:=(ld 30 h0 rfl).1 2
 have c3:=(ld 30 h0 rfl).1 3
 have c4:=(ld 30 h0 rfl).1 4
 go_upto_region 20 with (fail)
 have hd:=lj h0
 go_region_held3 (fun w'=>w'.cell? ⟨ba,1,none⟩ = some (.int .i64 x.A) /\ w'.cell? ⟨ba,2,none⟩ = some (.int .i64 x.B) /\ w'.cell? ⟨ba,3,none⟩ = some (.int .i64 x.C) /\ w'.cell? ⟨ba,4,none⟩ = some (.int .i64 x.D)) (first | exact ⟨(ld 30 hd rfl).1 1,(ld 30 hd rfl).1 2,(ld 30 hd rfl).1 3,(ld 30 hd rfl).1 4⟩ | exact ⟨(ld 30 h4 rfl).1 1,(ld 30 h4 rfl).1 2,(ld 30 h4 rfl).1 3,(ld 30 h4 rfl).1 4⟩ | exact ⟨(ld 30 h5 rfl).1 1,(ld 30 h5 rfl).1 2,(ld 30 h5 rfl).1 3,(ld 30 h5 rfl).1 4⟩) (first | (go_at_call 46; refine (HP.out _ _ hd).mono ?_; rintro e w4 ⟨Y',hy,rfl,hx4,h4⟩) | (go_at_call 112; refine (HR.out _ _ (yw_r h4)).mono ?_; rintro e w5 ⟨Y2',hy2,rfl,hx5,h5'⟩; have h5:=yw_b h5') | (go_at_call 17; refine (zg f f _ hcode).mono ?_; rintro e w' ⟨rfl,rfl⟩))
 go_wp2_with fail
 go_ret
 exact ⟨Y',Y2',hy,hy2,by simp,(hxa.drew.trans hx4).trans hx5,lh 30 h5 rfl⟩
theorem Nt (Y : YA) (Y2 : RA) (m : lf) (N : Nat) (hm : lH N m) (hN : N + 2000 < 890000) (x : Act) (hA : lN x.A) (hB : lN x.B) (hS : x.S.size <= 700) (ko : Option Addr) (kn kc : Nat) (R : List SL.HP) (hT : ∀w' L,own w' (L++R) -> yH w') (w : World) (H : own w (yL Y m (ryL Y2 m R))) (k0 : ¬(x.kind.toList == [119,114,105,116,101]) = true) (k1 : ¬(x.kind.toList == [119,105,112,101]) = true) (k2 : ¬(x.kind.toList == [114,101,97,100]) = true) (k3 : ¬(x.kind.toList == [102,108,117,115,104]) = true) (k4 : ¬(x.kind.toList == [98,108,97,110,107]) = true) (k5 : ¬(x.kind.toList == [115,110,97,112]) = true) (k6 : ¬(x.kind.toList == [115,116,97,114,116]) = true) (k7 : (x.kind.toList == [112,105,118,111,116]) = true) :
  Calls Tryz.prog 29 #[.pointer (some ⟨Y.y,0,none⟩),.pointer (some ⟨Y2.y,0,none⟩),.agg #[.string x.kind,.int .i64 x.A,.int .i64 x.B,.int .i64 x.C,.int .i64 x.D,.string x.S,.slice ko kn kc]] w (Af Y Y2 (Ai m).2 R w):=by
 have h0:=AW (.cells #[.string x.kind,.int .i64 x.A,.int .i64 x.B,.int .i64 x.C,.int .i64 x.D,.string x.S,.slice ko kn kc] 45) H
 have hxa:=(Ext.refl w).alloc (.cells #[.string x.kind,.int .i64 x.A,.int .i64 x.B,.int .i64 x.C,.int .i64 x.D,.string x.S,.slice ko kn kc] 45)
 have hcode : 0 <= (Ai m).1:=OC _
 have HP:=zh (fun (R' : List SL.HP) w' h=>Qm N Y m hm.ok (by omega) R' w' h)
 have HR:=zh (fun (R' : List SL.HP) w' h=>Ou N Y2 m hm.ok (by omega) R' w' h)
 unfold zm at HP
 unfold yY at HR
 generalize Ai m = S at *
 obtain ⟨f,m2⟩:=S
 dsimp only at hcode HP HR ⊢
 clear H hm hN hT hA hB hS
 go_enter Tryz.func29,Tryz.ntmps29
 go_upto_region 1 with (fail)
 generalize w.heap.size = ba at *
 generalize w.alloc (.cells #[.string x.kind,.int .i64 x.A,.int .i64 x.B,.int .i64 x.C,.int .i64 x.D,.string x.S,.slice ko kn kc] 45) = wa at *
 have c0:=(ld 30 h0 rfl).1 0
 go_wp2_with fail
 refine (HP.out _ _ h0).mono ?_
 rintro e w4 ⟨Y',hy,rfl,hx4,h4⟩
 go_wp2_with fail
 refine (HR.out _ _ (yw_r h4)).mono ?_
 rintro e w5 ⟨Y2',hy2,rfl,hx5,h5'⟩
 have h5:=yw_b h5'
 go_wp2_with fail
 refine (zg f f _ hcode).mono ?_
 rintro e w' ⟨rfl,rfl⟩
 go_wp2_with fail
 go_ret
 exact ⟨Y',Y2',hy,hy2,by simp,(hxa.trans hx4).trans hx5,lh 30 h5 rfl⟩
theorem L4 (Y : YA) (Y2 : RA) (m : lf) (N : Nat) (hm : lH N m) (hN : N + 2000 < 890000) (x : Act) (hA : lN x.A) (hB : lN x.B) (hS : x.S.size <= 700) (ko : Option Addr) (kn kc : Nat) (R : List SL.HP) (hT : ∀w' L,own w' (L++R) -> yH w') (w : World) (H : own w (yL Y m (ryL Y2 m R))) (k0 : ¬(x.kind.toList == [119,114,105,116,101]) = true) (k1 : ¬(x.kind.toList == [119,105,112,101]) = true) (k2 : ¬(x.kind.toList == [114,101,97,100]) = true) (k3 : ¬(x.kind.toList == [102,108,117,115,104]) = true) (k4 : ¬(x.kind.toList == [98,108,97,110,107]) = true) (k5 : ¬(x.kind.toList == [115,110,97,112]) = true) (k6 : ¬(x.kind.toList == [115,116,97,114,116]) = true) (k7 : ¬(x.kind.toList == [112,105,118,111,116]) = true) (k8 : (x.kind.toList == [99,97,110,99,101,108]) = true) :
  Calls Tryz.prog 29 #[.pointer (some ⟨Y.y,0,none⟩),.pointer (some ⟨Y2.y,0,none⟩),.agg #[.string x.kind,.int .i64 x.A,.int .i64 x.B,.int .i64 x.C,.int .i64 x.D,.string x.S,.slice ko kn kc]] w (Af Y Y2 (zG m).2 R w):=by
 have h0:=AW (.cells #[.string x.kind,.int .i64 x.A,.int .i64 x.B,.int .i64 x.C,.int .i64 x.D,.string x.S,.slice ko kn kc] 45) H
 have hxa:=(Ext.refl w).alloc (.cells #[.string x.kind,.int .i64 x.A,.int .i64 x.B,.int .i64 x.C,.int .i64 x.D,.string x.S,.slice ko kn kc] 45)
 have hcode : 0 <= (zG m).1:=Ns _
 have HP:=zh (fun (R' : List SL.HP) w' h=>N4 N Y m hm.ok (by omega) R' w' h)
 have HR:=zh (fun (R' : List SL.HP) w' h=>M9 N Y2 m hm.ok (by omega) R' w' h)
 unfold zm at HP
 unfold yY at HR
 generalize zG m = S at *
 obtain ⟨f,m2⟩:=S
 dsimp only at hcode HP HR ⊢
 clear H hm hN hT hA hB hS
 go_enter Tryz.func29,Tryz.ntmps29
 go_upto_region 1 with (fail)
 generalize w.heap.size = ba at *
 generalize w.alloc (.cells #[.string x.kind,.int .i64 x.A,.int .i64 x.B,.int .i64 x.C,.int .i64 x.D,.string x.S,.slice ko kn kc] 45) = wa at *
 have c0:=(ld 30 h0 rfl).1 0
 go_wp2_with fail
 refine (HP.out _ _ h0).mono ?_
 rintro e w4 ⟨Y',hy,rfl,hx4,h4⟩
 go_wp2_with fail
 refine (HR.out _ _ (yw_r h4)).mono ?_
 rintro e w5 ⟨Y2',hy2,rfl,hx5,h5'⟩
 have h5:=yw_b h5'
 go_wp2_with fail
 refine (zg f f _ hcode).mono ?_
 rintro e w' ⟨rfl,rfl⟩
 go_wp2_with fail
 go_ret
 exact ⟨Y',Y2',hy,hy2,by simp,(hxa.trans hx4).trans hx5,lh 30 h5 rfl⟩
theorem Nu (Y : YA) (Y2 : RA) (m : lf) (N : Nat) (hm : lH N m) (hN : N + 2000 < 890000) (x : Act) (hA : lN x.A) (hB : lN x.B) (hS : x.S.size <= 700) (ko : Option Addr) (kn kc : Nat) (R : List SL.HP) (hT : ∀w' L,own w' (L++R) -> yH w') (w : World) (H : own w (yL Y m (ryL Y2 m R))) (k0 : ¬(x.kind.toList == [119,114,105,116,101]) = true) (k1 : ¬(x.kind.toList == [119,105,112,101]) = true) (k2 : ¬(x.kind.toList == [114,101,97,100]) = true) (k3 : ¬(x.kind.toList == [102,108,117,115,104]) = true) (k4 : ¬(x.kind.toList == [98,108,97,110,107]) = true) (k5 : ¬(x.kind.toList == [115,110,97,112]) = true) (k6 : ¬(x.kind.toList == [115,116,97,114,116]) = true) (k7 : ¬(x.kind.toList == [112,105,118,111,116]) = true) (k8 : ¬(x.kind.toList == [99,97,110,99,101,108]) = true) (k9 : (x.kind.toList == [112,97,117,115,101]) = true) :
  Calls Tryz.prog 29 #[.pointer (some ⟨Y.y,0,none⟩),.pointer (some ⟨Y2.y,0,none⟩),.agg #[.string x.kind,.int .i64 x.A,.int .i64 x.B,.int .i64 x.C,.int .i64 x.D,.string x.S,.slice ko kn kc]] w (Af Y Y2 (zH m (decide (0 < x.A))).2 R w):=by
 have h0:=AW (.cells #[.string x.kind,.int .i64 x.A,.int .i64 x.B,.int .i64 x.C,.int .i64 x.D,.string x.S,.slice ko kn kc] 45) H
 have hxa:=(Ext.refl w).alloc (.cells #[.string x.kind,.int .i64 x.A,.int .i64 x.B,.int .i64 x.C,.int .i64 x.D,.string x.S,.slice ko kn kc] 45)
 have hcode : 0 <= (zH m (decide (0 < x.A))).1:=Nf _ _
 have HP:=zh (fun (R' : List SL.HP) w' h=>QN Y m hm.ok.jok (decide (0 < x.A)) R' w' h)
 have HR:=zh (fun (R' : List SL.HP) w' h=>Oh Y2 m (decide (0 < x.A)) R' w' h)
 unfold zm at HP
 unfold yY at HR
 generalize zH m (decide (0 < x.A)) = S at *
 obtain ⟨f,m2⟩:=S
 dsimp only at hcode HP HR ⊢
 clear H hm hN hT hA hB hS
 go_enter Tryz.func29,Tryz.ntmps29
 go_upto_region 1 with (fail)
 generalize w.heap.size = ba at *
 generalize w.alloc (.cells #[.string x.kind,.int .i64 x.A,.int .i64 x.B,.int .i64 x.C,.int .i64 x.D,.string x.S,.slice ko kn kc] 45) = wa at *
 have c0:=(ld 30 h0 rfl).1 0
 have c1:=(ld 30 h0 rfl).1 1
 go_upto_region 26 with (fail)
 have hd:=lj h0
 go_region_held3 (fun w'=>w'.cell? ⟨ba,1,none⟩ = some (.int .i64 x.A)) (first | exact (ld 30 hd rfl).1 1 | exact (ld 30 h4 rfl).1 1 | exact (ld 30 h5 rfl).1 1) (first | (go_at_call 115; refine (HP.out _ _ hd).mono ?_; rintro e w4 ⟨Y',hy,rfl,hx4,h4⟩) | (go_at_call 116; refine (HR.out _ _ (yw_r h4)).mono ?_; rintro e w5 ⟨Y2',hy2,rfl,hx5,h5'⟩; have h5:=yw_b h5') | (go_at_call 17; refine (zg f f _ hcode).mono ?_; rintro e w' ⟨rfl,rfl⟩))
 go_wp2_with fail
 go_ret
 exact ⟨Y',Y2',hy,hy2,by simp,(hxa.drew.trans hx4).trans hx5,lh 30 h5 rfl⟩
theorem Oy (Y : YA) (Y2 : RA) (m : lf) (N : Nat) (hm : lH N m) (hN : N + 2000 < 890000) (x : Act) (hA : lN x.A) (hB : lN x.B) (hS : x.S.size <= 700) (ko : Option Addr) (kn kc : Nat) (R : List SL.HP) (hT : ∀w' L,own w' (L++R) -> yH w') (w : World) (H : own w (yL Y m (ryL Y2 m R))) (k0 : ¬(x.kind.toList == [119,114,105,116,101]) = true) (k1 : ¬(x.kind.toList == [119,105,112,101]) = true) (k2 : ¬(x.kind.toList == [114,101,97,100]) = true) (k3 : ¬(x.kind.toList == [102,108,117,115,104]) = true) (k4 : ¬(x.kind.toList == [98,108,97,110,107]) = true) (k5 : ¬(x.kind.toList == [115,110,97,112]) = true) (k6 : ¬(x.kind.toList == [115,116,97,114,116]) = true) (k7 : ¬(x.kind.toList == [112,105,118,111,116]) = true) (k8 : ¬(x.kind.toList == [99,97,110,99,101,108]) = true) (k9 : ¬(x.kind.toList == [112,97,117,115,101]) = true) (k10 : (x.kind.toList == [116,105,99,107]) = true) :
  Calls Tryz.prog 29 #[.pointer (some ⟨Y.y,0,none⟩),.pointer (some ⟨Y2.y,0,none⟩),.agg #[.string x.kind,.int .i64 x.A,.int .i64 x.B,.int .i64 x.C,.int .i64 x.D,.string x.S,.slice ko kn kc]] w (Af Y Y2 (Ag m x.A).2 R w):=by
 have h0:=AW (.cells #[.string x.kind,.int .i64 x.A,.int .i64 x.B,.int .i64 x.C,.int .i64 x.D,.string x.S,.slice ko kn kc] 45) H
 have hxa:=(Ext.refl w).alloc (.cells #[.string x.kind,.int .i64 x.A,.int .i64 x.B,.int .i64 x.C,.int .i64 x.D,.string x.S,.slice ko kn kc] 45)
 have hcode : 0 <= (Ag m x.A).1:=N9 _ _
 have HP:=zh (fun (R' : List SL.HP) w' h=>Q8 Y m hm.ok.jok x.A R' w' h)
 have HR:=zh (fun (R' : List SL.HP) w' h=>QG Y2 m hm.ok.jok x.A R' w' h)
 unfold zm at HP
 unfold yY at HR
 generalize Ag m x.A = S at *
 obtain ⟨f,m2⟩:=S
 dsimp only at hcode HP HR ⊢
 clear H hm hN hT hA hB hS
 go_enter Tryz.func29,Tryz.ntmps29
 go_upto_region 1 with (fail)
 generalize w.heap.size = ba at *
 generalize w.alloc (.cells #[.string x.kind,.int .i64 x.A,.int .i64 x.B,.int .i64 x.C,.int .i64 x.D,.string x.S,.slice ko kn kc] 45) = wa at *
 have c0:=(ld 30 h0 rfl).1 0
 have c1:=(ld 30 h0 rfl).1 1
 go_upto_region 28 with (fail)
 have hd:=lj h0
 go_region_held3 (fun w'=>w'.cell? ⟨ba,1,none⟩ = some (.int .i64 x.A)) (first | exact (ld 30 hd rfl).1 1 | exact (ld 30 h4 rfl).1 1 | exact (ld 30 h5 rfl).1 1) (first | (go_at_call 117; refine (HP.out _ _ hd).mono ?_; rintro e w4 ⟨Y',hy,rfl,hx4,h4⟩) | (go_at_call 118; refine (HR.out _ _ (yw_r h4)).mono ?_; rintro e w5 ⟨Y2',hy2,rfl,hx5,h5'⟩; have h5:=yw_b h5') | (go_at_call 17; refine (zg f f _ hcode).mono ?_; rintro e w' ⟨rfl,rfl⟩))
 go_wp2_with fail
 go_ret
 exact ⟨Y',Y2',hy,hy2,by simp,(hxa.drew.trans hx4).trans hx5,lh 30 h5 rfl⟩
theorem Ov (Y : YA) (Y2 : RA) (m : lf) (N : Nat) (hm : lH N m) (hN : N + 2000 < 890000) (x : Act) (hA : lN x.A) (hB : lN x.B) (hS : x.S.size <= 700) (ko : Option Addr) (kn kc : Nat) (R : List SL.HP) (hT : ∀w' L,own w' (L++R) -> yH w') (w : World) (H : own w (yL Y m (ryL Y2 m R))) (k0 : ¬(x.kind.toList == [119,114,105,116,101]) = true) (k1 : ¬(x.kind.toList == [119,105,112,101]) = true) (k2 : ¬(x.kind.toList == [114,101,97,100]) = true) (k3 : ¬(x.kind.toList == [102,108,117,115,104]) = true) (k4 : ¬(x.kind.toList == [98,108,97,110,107]) = true) (k5 : ¬(x.kind.toList == [115,110,97,112]) = true) (k6 : ¬(x.kind.toList == [115,116,97,114,116]) = true) (k7 : ¬(x.kind.toList == [112,105,118,111,116]) = true) (k8 : ¬(x.kind.toList == [99,97,110,99,101,108]) = true) (k9 : ¬(x.kind.toList == [112,97,117,115,101]) = true) (k10 : ¬(x.kind.toList == [116,105,99,107]) = true) (k11 : (x.kind.toList == [102,97,105,108]) = true) :
  Calls Tryz.prog 29 #[.pointer (some ⟨Y.y,0,none⟩),.pointer (some ⟨Y2.y,0,none⟩),.agg #[.string x.kind,.int .i64 x.A,.int .i64 x.B,.int .i64 x.C,.int .i64 x.D,.string x.S,.slice ko kn kc]] w (Af Y Y2 (armM m x.A x.B).2 R w):=by
 have h0:=AW (.cells #[.string x.kind,.int .i64 x.A,.int .i64 x.B,.int .i64 x.C,.int .i64 x.D,.string x.S,.slice ko kn kc] 45) H
 have hxa:=(Ext.refl w).alloc (.cells #[.string x.kind,.int .i64 x.A,.int .i64 x.B,.int .i64 x.C,.int .i64 x.D,.string x.S,.slice ko kn kc] 45)
 have hcode : 0 <= (armM m x.A x.B).1:=TM _ _ _
 have HP:=zh (fun (R' : List SL.HP) w' h=>To Y m x.A x.B R' w' h)
 have HR:=zh (fun (R' : List SL.HP) w' h=>TV Y2 m x.A x.B R' w' h)
 unfold zm at HP
 unfold yY at HR
 generalize armM m x.A x.B = S at *
 obtain ⟨f,m2⟩:=S
 dsimp only at hcode HP HR ⊢
 clear H hm hN hT hA hB hS
 go_enter Tryz.func29,Tryz.ntmps29
 go_upto_region 1 with (fail)
 generalize w.heap.size = ba at *
 generalize w.alloc (.cells #[.string x.kind,.int .i64 x.A,.int .i64 x.B,.int .i64 x.C,.int .i64 x.D,.string x.S,.slice ko kn kc] 45) = wa at *
 have c0:=(ld 30 h0 rfl).1 0
 have c1:=(ld 30 h0 rfl).1 1
 have c2:=(ld 30 h0 rfl).1 2
 go_upto_region 30 with (fail)
 have hd:=lj h0
 go_region_held3 (fun w'=>w'.cell? ⟨ba,1,none⟩ = some (.int .i64 x.A) /\ w'.cell? ⟨ba,2,none⟩ = some (.int .i64 x.B)) (first | exact ⟨(ld 30 hd rfl).1 1,(ld 30 hd rfl).1 2⟩ | exact ⟨(ld 30 h4 rfl).1 1,(ld 30 h4 rfl).1 2⟩ | exact ⟨(ld 30 h5 rfl).1 1,(ld 30 h5 rfl).1 2⟩) (first | (go_at_call 119; refine (HP.out _ _ hd).mono ?_; rintro e w4 ⟨Y',hy,rfl,hx4,h4⟩) | (go_at_call 120; refine (HR.out _ _ (yw_r h4)).mono ?_; rintro e w5 ⟨Y2',hy2,rfl,hx5,h5'⟩; have h5:=yw_b h5') | (go_at_call 17; refine (zg f f _ hcode).mono ?_; rintro e w' ⟨rfl,rfl⟩))
 go_wp2_with fail
 go_ret
 exact ⟨Y',Y2',hy,hy2,by simp,(hxa.drew.trans hx4).trans hx5,lh 30 h5 rfl⟩
theorem Od (Y : YA) (Y2 : RA) (m : lf) (N : Nat) (hm : lH N m) (hN : N + 2000 < 890000) (x : Act) (hA : lN x.A) (hB : lN x.B) (hS : x.S.size <= 700) (ko : Option Addr) (kn kc : Nat) (R : List SL.HP) (hT : ∀w' L,own w' (L++R) -> yH w') (w : World) (H : own w (yL Y m (ryL Y2 m R))) (k0 : ¬(x.kind.toList == [119,114,105,116,101]) = true) (k1 : ¬(x.kind.toList == [119,105,112,101]) = true) (k2 : ¬(x.kind.toList == [114,101,97,100]) = true) (k3 : ¬(x.kind.toList == [102,108,117,115,104]) = true) (k4 : ¬(x.kind.toList == [98,108,97,110,107]) = true) (k5 : ¬(x.kind.toList == [115,110,97,112]) = true) (k6 : ¬(x.kind.toList == [115,116,97,114,116]) = true) (k7 : ¬(x.kind.toList == [112,105,118,111,116]) = true) (k8 : ¬(x.kind.toList == [99,97,110,99,101,108]) = true) (k9 : ¬(x.kind.toList == [112,97,117,115,101]) = true) (k10 : ¬(x.kind.toList == [116,105,99,107]) = true) (k11 : ¬(x.kind.toList == [102,97,105,108]) = true) :
  Calls Tryz.prog 29 #[.pointer (some ⟨Y.y,0,none⟩),.pointer (some ⟨Y2.y,0,none⟩),.agg #[.string x.kind,.int .i64 x.A,.int .i64 x.B,.int .i64 x.C,.int .i64 x.D,.string x.S,.slice ko kn kc]] w (Af Y Y2 (zj m).2 R w):=by
 have h0:=AW (.cells #[.string x.kind,.int .i64 x.A,.int .i64 x.B,.int .i64 x.C,.int .i64 x.D,.string x.S,.slice ko kn kc] 45) H
 have hxa:=(Ext.refl w).alloc (.cells #[.string x.kind,.int .i64 x.A,.int .i64 x.B,.int .i64 x.C,.int .i64 x.D,.string x.S,.slice ko kn kc] 45)
 have hcode : 0 <= (zj m).1.2:=Jf _
 have HP:=zh (fun (P : SL.HP) w' h=>LO N Y m hm.ok (by omega) (hm.linkOk (by omega)) (ryL Y2 m ([P]++R)) (NB Y2 m (Lv hT [P])) w' h)
 have HR:=zh (fun (R' : List SL.HP) w' h=>JI N Y2 m hm.ok (by omega) (hm.linkOk (by omega)) R' w' h)
 unfold NI at HP
 unfold KU at HR
 generalize zj m = S at *
 obtain ⟨⟨did,f⟩,m2⟩:=S
 dsimp only at hcode HP HR ⊢
 clear H hm hN hT hA hB hS
 go_enter Tryz.func29,Tryz.ntmps29
 go_upto_region 1 with (fail)
 generalize w.heap.size = ba at *
 generalize w.alloc (.cells #[.string x.kind,.int .i64 x.A,.int .i64 x.B,.int .i64 x.C,.int .i64 x.D,.string x.S,.slice ko kn kc] 45) = wa at *
 have c0:=(ld 30 h0 rfl).1 0
 go_wp2_with fail
 refine (HP.out _ _ h0).mono ?_
 rintro e w4 ⟨Y',hy,rfl,hx4,h4⟩
 go_wp2_with fail
 refine (HR.out _ _ (yw_r h4)).mono ?_
 rintro e w5 ⟨Y2',hy2,rfl,hx5,h5'⟩
 have h5:=yw_b h5'
 cases did
 all_goals
  go_wp2_with fail
  refine (zg f f _ hcode).mono ?_
  rintro e w' ⟨rfl,rfl⟩
  go_wp2_with fail
  go_ret
  exact ⟨Y',Y2',hy,hy2,by simp,(hxa.trans hx4).trans hx5,lh 30 h5 rfl⟩
def Gd (m : lf) (x : Act) : lf:=
 if (x.kind.toList == [119,114,105,116,101]) = true then (zF m x.A x.S).2
 else if (x.kind.toList == [119,105,112,101]) = true then (if x.B < 0 \/ 200 < x.B then m else (zL m x.A x.B).2)
 else if (x.kind.toList == [114,101,97,100]) = true then m
 else if (x.kind.toList == [102,108,117,115,104]) = true then (zj (z8 m)).2
 else if (x.kind.toList == [98,108,97,110,107]) = true then (oC m x.A (-1)).2
 else if (x.kind.toList == [115,110,97,112]) = true then (Ba m x.A).2
 else if (x.kind.toList == [115,116,97,114,116]) = true then (Aj m x.A x.B x.C x.D).2
 else if (x.kind.toList == [112,105,118,111,116]) = true then (Ai m).2
 else if (x.kind.toList == [99,97,110,99,101,108]) = true then (zG m).2
 else if (x.kind.toList == [112,97,117,115,101]) = true then (zH m (decide (0 < x.A))).2
 else if (x.kind.toList == [116,105,99,107]) = true then (Ag m x.A).2
 else if (x.kind.toList == [102,97,105,108]) = true then (armM m x.A x.B).2
 else (zj m).2
theorem QW (Y : YA) (Y2 : RA) (m : lf) (N : Nat) (hm : lH N m) (hN : N + 2000 < 890000) (x : Act) (hA : lN x.A) (hB : lN x.B) (hS : x.S.size <= 700) (ko : Option Addr) (kn kc : Nat) (R : List SL.HP) (hT : ∀w' L,own w' (L++R) -> yH w') (w : World) (H : own w (yL Y m (ryL Y2 m R))) :
  Calls Tryz.prog 29 #[.pointer (some ⟨Y.y,0,none⟩),.pointer (some ⟨Y2.y,0,none⟩),.agg #[.string x.kind,.int .i64 x.A,.int .i64 x.B,.int .i64 x.C,.int .i64 x.D,.string x.S,.slice ko kn kc]] w (Af Y Y2 (Gd m x) R w):=by
 unfold Gd
 by_cases k0 : (x.kind.toList == [119,114,105,116,101]) = true
 ·rw [if_pos k0]
  exact M3 Y Y2 m N hm hN x hA hB hS ko kn kc R hT w H k0
 rw [if_neg k0]
 by_cases k1 : (x.kind.toList == [119,105,112,101]) = true
 ·rw [if_pos k1]
  by_cases hb : x.B < 0 \/ 200 < x.B
  ·rw [if_pos hb]; exact KW Y Y2 m N hm hN x hA hB hS ko kn kc R hT w H k0 k1 hb
  ·rw [if_neg hb]; exact JJ Y Y2 m N hm hN x hA hB hS ko kn kc R hT w H k0 k1 hb
 rw [if_neg k1]
 by_cases k2 : (x.kind.toList == [114,101,97,100]) = true
 ·rw [if_pos k2]
  exact OG Y Y2 m N hm hN x hA hB hS ko kn kc R hT w H k0 k1 k2
 rw [if_neg k2]
 by_cases k3 : (x.kind.toList == [102,108,117,115,104]) = true
 ·rw [if_pos k3]
  exact Mq Y Y2 m N hm hN x hA hB hS ko kn kc R hT w H k0 k1 k2 k3
 rw [if_neg k3]
 by_cases k4 : (x.kind.toList == [98,108,97,110,107]) = true
 ·rw [if_pos k4]
  exact MQ Y Y2 m N hm hN x hA hB hS ko kn kc R hT w H k0 k1 k2 k3 k4
 rw [if_neg k4]
 by_cases k5 : (x.kind.toList == [115,110,97,112]) = true
 ·rw [if_pos k5]
  exact OA Y Y2 m N hm hN x hA hB hS ko kn kc R hT w H k0 k1 k2 k3 k4 k5
 rw [if_neg k5]
 by_cases k6 : (x.kind.toList == [115,116,97,114,116]) = true
 ·rw [if_pos k6]
  exact ND Y Y2 m N hm hN x hA hB hS ko kn kc R hT w H k0 k1 k2 k3 k4 k5 k6
 rw [if_neg k6]
 by_cases k7 : (x.kind.toList == [112,105,118,111,116]) = true
 ·rw [if_pos k7]
  exact Nt Y Y2 m N hm hN x hA hB hS ko kn kc R hT w H k0 k1 k2 k3 k4 k5 k6 k7
 rw [if_neg k7]
 by_cases k8 : (x.kind.toList == [99,97,110,99,101,108]) = true
 ·rw [if_pos k8]
  exact L4 Y Y2 m N hm hN x hA hB hS ko kn kc R hT w H k0 k1 k2 k3 k4 k5 k6 k7 k8
 rw [if_neg k8]
 by_cases k9 : (x.kind.toList == [112,97,117,115,101]) = true
 ·rw [if_pos k9]
  exact Nu Y Y2 m N hm hN x hA hB hS ko kn kc R hT w H k0 k1 k2 k3 k4 k5 k6 k7 k8 k9
 rw [if_neg k9]
 by_cases k10 : (x.kind.toList == [116,105,99,107]) = true
 ·rw [if_pos k10]
  exact Oy Y Y2 m N hm hN x hA hB hS ko kn kc R hT w H k0 k1 k2 k3 k4 k5 k6 k7 k8 k9 k10
 rw [if_neg k10]
 by_cases k11 : (x.kind.toList == [102,97,105,108]) = true
 ·rw [if_pos k11]
  exact Ov Y Y2 m N hm hN x hA hB hS ko kn kc R hT w H k0 k1 k2 k3 k4 k5 k6 k7 k8 k9 k10 k11
 rw [if_neg k11]
 exact Od Y Y2 m N hm hN x hA hB hS ko kn kc R hT w H k0 k1 k2 k3 k4 k5 k6 k7 k8 k9 k10 k11
theorem Oe (D : Nat -> DevM) (top : DevM) : 0 <= (Ak D top).1:=by
 unfold Ak
 split
 ·exact D7 _
 ·split
  ·exact zd
  ·exact Int.le_refl 0
end Go.Proofs.YtbpblokfiajpjabGreatDoor
