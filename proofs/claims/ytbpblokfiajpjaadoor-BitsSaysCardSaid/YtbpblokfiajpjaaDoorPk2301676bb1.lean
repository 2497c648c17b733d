/- Lemmas on which BitsSays stands: the texts Image13 Image14 Image15 Image16 Image17 ImgP1 Image19 Image20 ImgP2 ImgP3 ImgP4 Image21 ImgP5 Ints Chain1 Chain2 Chain3 Chain4 Chain5 Bldr Chain6 Chain7 Chain8 Chain9 Chain10 Image22. No conditions. -/
import Derived.Test.YtbpblokfiajpjaaDoorPk69a65dd37b
import Derived.Lib.AppendStr
import Derived.Lib.UnsafeStr
import Derived.Lib.Builder
import Derived.Laws.Externs
import Derived.Shelf.RegionOpenPlain
set_option linter.all false
set_option maxRecDepth 1000000
set_option maxHeartbeats 32000000
namespace Go.Proofs.YtbpblokfiajpjaaDoor
open Go.RowKit Go.SL Go.Crc
attribute [local go_sem ↓] Go.wp_at_zero Go.wp_at_succ


def yP (d : DevM) (c p b : Int) : Prop:=l9 c p b \/ (d.fl.length : Int) < z4 c p
instance (d : DevM) (c p b : Int) : Decidable (yP d c p b):=by unfold yP; infer_instance

end Go.Proofs.YtbpblokfiajpjaaDoor
namespace Go.Proofs.YtbpblokfiajpjaaDoor
open Go.RowKit Go.SL Go.Crc
def Uniq (t : List Ent) : Prop:=∀i j : Nat,i < t.length -> j < t.length -> (ent t i).1 = 2 -> ent t i = ent t j -> i = j
def o1 (t : List Ent) (r : Nat) : ByteArray:=strOfNums (zH (zJ t r))
end Go.Proofs.YtbpblokfiajpjaaDoor
namespace Go.Proofs.YtbpblokfiajpjaaDoor
open Go.RowKit Go.SL Go.Crc
attribute [local go_sem ↓] Go.wp_at_zero Go.wp_at_succ

end Go.Proofs.YtbpblokfiajpjaaDoor
namespace Go.Proofs.YtbpblokfiajpjaaDoor
open Go.RowKit Go.SL Go.Crc
def Sub (P : Int) (u t : List Ent) : Prop:=t.length = u.length /\ ∀k,k < u.length -> yr (ent t k) P = true /\ ((ent t k).1 = 2 -> ent t k = ent u k)
theorem Sub.mono {P : Int} {u u' t : List Ent} (h : Sub P u t) (hl : u'.length = u.length) (hu : ∀k,k < u.length -> (ent t k).1 = 2 -> ent u' k = ent u k) : Sub P u' t:=
 ⟨h.1.trans hl.symm,fun k hk=>⟨(h.2 k (by omega)).1,fun h2=>((h.2 k (by omega)).2 h2).trans (hu k (by omega) h2).symm⟩⟩
structure Safe (m : ImgM) (u : List Ent) : Prop where
 ulen : u.length = m.t.length
 uok : ∀e∈u,yr e m.p = true
 uuniq : Uniq u
 hd : m.d.fl.getD 0 ByteArray.empty = zz m.c m.p m.b
 nohd : ∀x∈m.d.pend,x.1≠0
 rows : ∀r : Nat,r < ot m.t.length -> ∀s,(s = m.d.fl.getD (1 + r) ByteArray.empty \/ (1 + (r : Int),s)∈m.d.pend) -> ∃t',Sub m.p u t' /\ s = o1 t' r
 cur : Sub m.p u m.t
 see : ∀r : Nat,r < ot m.t.length -> m.d.seen (1 + (r : Int)) = o1 m.t r
structure Step (n : Nat) (m m' : ImgM) : Prop where
 ok : m'.Ok
 safe : ∀u,Safe m u -> ∃u',Safe m' u'
 c : m'.c = m.c
 p : m'.p = m.p
 len : m'.d.fl.length = m.d.fl.length
 pend : m'.d.pend.length <= m.d.pend.length + n
 wr : m'.d.writes <= m.d.writes + n
theorem Step.refl {m : ImgM} (hm : m.Ok) (n : Nat) : Step n m m:=⟨hm,fun u h=>⟨u,h⟩,rfl,rfl,rfl,by omega,by omega⟩
theorem Step.trans {a b : Nat} {m m' m'' : ImgM} (h : Step a m m') (k : Step b m' m'') : Step (a + b) m m'':=
 ⟨k.ok,fun u hu=>let ⟨u',hu'⟩:=h.safe u hu; k.safe u' hu',k.c.trans h.c,k.p.trans h.p,k.len.trans h.len,by have:=h.pend; have:=k.pend; omega,by have:=h.wr; have:=k.wr; omega⟩
theorem Step.mono {a b : Nat} {m m' : ImgM} (h : Step a m m') (hab : a <= b) : Step b m m':=
 ⟨h.ok,h.safe,h.c,h.p,h.len,by have:=h.pend; omega,by have:=h.wr; omega⟩

end Go.Proofs.YtbpblokfiajpjaaDoor
namespace Go.Proofs.YtbpblokfiajpjaaDoor
open Go.RowKit Go.SL Go.Crc
attribute [local go_sem ↓] Go.wp_at_zero Go.wp_at_succ
end Go.Proofs.YtbpblokfiajpjaaDoor
namespace Go.Proofs.YtbpblokfiajpjaaDoor
open Go.RowKit Go.SL Go.Crc
end Go.Proofs.YtbpblokfiajpjaaDoor
namespace Go.Proofs.YtbpblokfiajpjaaDoor
open Go.RowKit Go.SL
def yF (w : World) (v : Value) (l : List Int) : Prop:=SlAt v l.length (fun b off i=>w.cell? ⟨b,off + i,none⟩ = some (.int .i64 (l.getD i 0)))
theorem yF.form {w : World} {v : Value} {l : List Int} (h : yF w v l) : ∃ao b off cap,v = .slice ao l.length cap /\ l.length <= cap /\ cap <= 9223372036854775807 /\ (0 < l.length -> ao = some ⟨b,off,none⟩) /\
  ∀i,i < l.length -> w.cell? ⟨b,off + i,none⟩ = some (.int .i64 (l.getD i 0)):=by
 obtain ⟨ao,b,off,cap,hv,h1,h2,h3,h4⟩:=h
 exact ⟨ao,b,off,cap,hv,h1,h2,h3,h4⟩
end Go.Proofs.YtbpblokfiajpjaaDoor
namespace Go.Proofs.YtbpblokfiajpjaaDoor
open Go.RowKit Go.SL Go.Crc
attribute [local go_sem ↓] Go.wp_at_zero Go.wp_at_succ
abbrev ShM:=Nat -> Option ImgM
structure ShOk (F : ShM) : Prop where
 ok : ∀k m,k < 5 -> F k = some m -> m.Ok
 wr : ∀k m,k < 5 -> F k = some m -> m.d.writes < 900000
 pend : ∀k m,k < 5 -> F k = some m -> m.d.pend.length < 900000




end Go.Proofs.YtbpblokfiajpjaaDoor
namespace Go.SL
open Go.RowKit Go.Lib
section
variable {P : Program}
end
end Go.SL
namespace Go.Proofs.YtbpblokfiajpjaaDoor
open Go.RowKit Go.SL Go.Crc
attribute [local go_sem ↓] Go.wp_at_zero Go.wp_at_succ
end Go.Proofs.YtbpblokfiajpjaaDoor
namespace Go.Proofs.YtbpblokfiajpjaaDoor
open Go.RowKit Go.SL Go.Crc
attribute [local go_sem ↓] Go.wp_at_zero Go.wp_at_succ


structure lR (n : Nat) (F F' : ShM) : Prop where
 no : ∀k,F k = none -> F' k = none
 yes : ∀k m,k < 5 -> F k = some m -> ∃m',F' k = some m' /\ Step n m m' /\ m'.b = m.b
theorem lR.refl {F : ShM} (hF : ShOk F) (n : Nat) : lR n F F:=⟨fun _ h=>h,fun k m hk h=>⟨m,h,Step.refl (hF.ok k m hk h) n,rfl⟩⟩
theorem lR.trans {a b : Nat} {F G H : ShM} (h : lR a F G) (g : lR b G H) : lR (a + b) F H:=
 ⟨fun k hk=>g.no k (h.no k hk),fun k m hk hm=>by
  obtain ⟨m1,h1,s1,b1⟩:=h.yes k m hk hm
  obtain ⟨m2,h2,s2,b2⟩:=g.yes k m1 hk h1
  exact ⟨m2,h2,s1.trans s2,b2.trans b1⟩⟩
theorem lR.mono {a b : Nat} {F G : ShM} (h : lR a F G) (hab : a <= b) : lR b F G:=
 ⟨h.no,fun k m hk hm=>let ⟨m1,h1,s1,b1⟩:=h.yes k m hk hm; ⟨m1,h1,s1.mono hab,b1⟩⟩
structure ShW (N : Nat) (F : ShM) : Prop where
 ok : ∀k m,k < 5 -> F k = some m -> m.Ok
 wr : ∀k m,k < 5 -> F k = some m -> m.d.writes <= N
 pend : ∀k m,k < 5 -> F k = some m -> m.d.pend.length <= N
theorem ShW.mono {N M : Nat} {F : ShM} (h : ShW N F) (hNM : N <= M) : ShW M F:=⟨h.ok,fun k m hk hm=>by have:=h.wr k m hk hm; omega,fun k m hk hm=>Nat.le_trans (h.pend k m hk hm) hNM⟩
section
variable {b : Nat} {F : ShM} {k : Nat} {m : ImgM}
end
end Go.Proofs.YtbpblokfiajpjaaDoor
namespace Go.Proofs.YtbpblokfiajpjaaDoor
open Go.RowKit Go.SL Go.Crc
attribute [local go_sem ↓] Go.wp_at_zero Go.wp_at_succ

end Go.Proofs.YtbpblokfiajpjaaDoor
