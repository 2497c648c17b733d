/- Lemmas on which BitsSays stands: the texts Held Image1 Image2 FormSaysLaw Image3 Image4 Image6 Image7 Image8 Image9 Image10 Image11 Image12 Image5. No conditions. -/
import Derived.Test.YtbpblokfiajpjaaDoorPk800dda86ce
import Derived.Maps.OwnSet
set_option linter.all false
set_option maxRecDepth 1000000
set_option maxHeartbeats 32000000
namespace Go.Proofs.YtbpblokfiajpjaaDoor
open Go.RowKit Go.SL Go.ChangeMaps
end Go.Proofs.YtbpblokfiajpjaaDoor
namespace Go.Proofs.YtbpblokfiajpjaaDoor
open Go.RowKit Go.SL Go.Crc
attribute [local go_sem ↓] Go.wp_at_zero Go.wp_at_succ
structure ImgM where
 d : DevM
 c : Int
 p : Int
 b : Int
 t : List Ent
 held : List Int
def ent (t : List Ent) (k : Nat) : Ent:=t.getD k (0,0)
structure ImgM.Ok (m : ImgM) : Prop where
 d : m.d.Ok
 head : ¬l9 m.c m.p m.b
 t : (m.t.length : Int) = m.c
 ents : ∀e∈m.t,yr e m.p = true
 one : ∀i j : Nat,i < m.t.length -> j < m.t.length -> (ent m.t i).1 = 2 -> ent m.t i = ent m.t j -> i = j
 nodup : m.held.Nodup
 range : ∀x∈m.held,0 <= x /\ x < m.p
 apart : ∀x∈m.held,((2,x) : Ent)∉m.t
 need : 1 + (ot m.c.toNat : Int) + 4 * m.p <= m.d.fl.length
def z4 (c p : Int) : Int:=1 + (ot c.toNat : Int) + 4 * p
def ImgM.there (m : ImgM) (k : Int) : Bool:=decide (0 <= k) && decide (k < m.c)
def ImgM.first (m : ImgM) (p : Int) : Int:=1 + (ot m.c.toNat : Int) + 4 * p
def ImgM.kind (m : ImgM) (k : Int) : Int:=(ent m.t k.toNat).1








def DevM.puts (m : DevM) (at_ : Int) : List ByteArray -> Int×DevM
 | []=>(0,m)
 | s::l=>if (m.write at_ s).1≠0 then m.write at_ s else (m.write at_ s).2.puts (at_ + 1) l
def yh (s : ByteArray) (n : Nat) : List ByteArray:=(List.range n).map (zW s)
def ImgM.wrBad (m : ImgM) (k fr : Int) (s : ByteArray) : Prop:=m.there k = false \/ fr < 0 \/ 4 < fr \/ s.size % 16≠0 \/ 16 * (4 - fr) < (s.size : Int)
instance (m : ImgM) (k fr : Int) (s : ByteArray) : Decidable (m.wrBad k fr s):=by unfold ImgM.wrBad; infer_instance
def ImgM.wr (m : ImgM) (k fr : Int) (s : ByteArray) : Int×ImgM:=
 if m.wrBad k fr s then (1,m) else if m.kind k≠2 then (4,m)
 else ((m.d.puts (m.first (ent m.t k.toNat).2 + fr) (yh s (s.size / 16))).1,{ m with d:=(m.d.puts (m.first (ent m.t k.toNat).2 + fr) (yh s (s.size / 16))).2 })

end Go.Proofs.YtbpblokfiajpjaaDoor
