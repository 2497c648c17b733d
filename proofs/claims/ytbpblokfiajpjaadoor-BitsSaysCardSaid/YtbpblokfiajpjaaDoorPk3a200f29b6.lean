/- Lemmas on which BitsSays stands: the texts Shape6 Shape7 RDev2 RDev3 DevLaw Shape13 Shape14. No conditions. -/
import Derived.Test.YtbpblokfiajpjaaDoorPk89d4e004f8
set_option linter.all false
set_option maxRecDepth 1000000
set_option maxHeartbeats 32000000
namespace Go.Proofs.YtbpblokfiajpjaaDoor
open Go.RowKit Go.SL Go.Crc
attribute [local go_sem ↓] Go.wp_at_zero Go.wp_at_succ
abbrev Ent:=Int×Int
def yr (e : Ent) (p : Int) : Bool:=if e.1 = 2 then decide (0 <= e.2) && decide (e.2 < p) else (decide (e.1 = 0) || decide (e.1 = 1)) && decide (e.2 = 0)
def ot (n : Nat) : Nat:=(n + 7) / 8
def l4 (w : World) (v : Value) (l : List Ent) : Prop:=
 SlAt v l.length (fun b off i=>w.cell? ⟨b,off + i * 2,none⟩ = some (.int .i64 (l.getD i (0,0)).1) /\ w.cell? ⟨b,off + i * 2 + 1,none⟩ = some (.int .i64 (l.getD i (0,0)).2))
theorem l4.later {w w' : World} {v : Value} {l : List Ent} (h : l4 w v l) {L : List HP} (k : Nat) (H : own w' L) (hk : L[k]? = some (lj w)) : l4 w' v l:=
 SlAt.later h fun _ _ _ h=>⟨lr k H hk h.1,lr k H hk h.2⟩
def zJ (t : List Ent) (r : Nat) : List Ent:=(List.range 8).map fun k=>t.getD (8 * r + k) (0,0)
def zH (l : List Ent) : List Int:=l.flatMap fun e=>[e.1,e.2]
def yR (t : List Ent) (row : Int) : Prop:=32 < t.length \/ row < 0 \/ (ot t.length : Int) <= row
instance (t : List Ent) (row : Int) : Decidable (yR t row):=by unfold yR; infer_instance
theorem l4.form {w : World} {v : Value} {l : List Ent} (h : l4 w v l) : ∃ao b off cap,v = .slice ao l.length cap /\ l.length <= cap /\ cap <= 9223372036854775807 /\ (0 < l.length -> ao = some ⟨b,off,none⟩):=by
 obtain ⟨ao,b,off,cap,hv,h1,h2,h3,h4⟩:=h
 exact ⟨ao,b,off,cap,hv,h1,h2,h3⟩
theorem l4.cells {w : World} {b off n cap : Nat} {l : List Ent} (h : l4 w (.slice (some ⟨b,off,none⟩) n cap) l) {i : Nat} (hi : i < l.length) :
  w.cell? ⟨b,off + i * 2,none⟩ = some (.int .i64 (l.getD i (0,0)).1) /\ w.cell? ⟨b,off + i * 2 + 1,none⟩ = some (.int .i64 (l.getD i (0,0)).2):=by
 obtain ⟨ao,b',off',cap',hv,h1,h2,h3,h4⟩:=h
 simp only [Value.slice.injEq] at hv
 have h5:=h3 (by omega)
 rw [<- hv.1] at h5
 simp only [Option.some.injEq,Addr.mk.injEq,and_true] at h5
 obtain ⟨rfl,rfl⟩:=h5
 exact h4 i hi
end Go.Proofs.YtbpblokfiajpjaaDoor
namespace Go.Proofs.YtbpblokfiajpjaaDoor
open Go.RowKit Go.SL

end Go.Proofs.YtbpblokfiajpjaaDoor
namespace Go.Proofs.YtbpblokfiajpjaaDoor
open Go.RowKit Go.SL
attribute [local go_sem ↓] Go.wp_at_zero Go.wp_at_succ
end Go.Proofs.YtbpblokfiajpjaaDoor
namespace Go.Proofs.YtbpblokfiajpjaaDoor
open Go.RowKit Go.SL Go.Crc
attribute [local go_sem ↓] Go.wp_at_zero Go.wp_at_succ
theorem l2.cells {w : World} {b off n cap : Nat} {l : List ByteArray} (h : l2 w (.slice (some ⟨b,off,none⟩) n cap) l) {i : Nat} (hi : i < l.length) : w.cell? ⟨b,off + i,none⟩ = some (.string (l.getD i ByteArray.empty)):=by
 obtain ⟨⟨ao,b',off',cap',hv,h1,h2,h3,h4⟩,_⟩:=h
 simp only [Value.slice.injEq] at hv
 have h5:=h3 (by omega)
 rw [<- hv.1] at h5
 simp only [Option.some.injEq,Addr.mk.injEq,and_true] at h5
 obtain ⟨rfl,rfl⟩:=h5
 exact h4 i hi

end Go.Proofs.YtbpblokfiajpjaaDoor
