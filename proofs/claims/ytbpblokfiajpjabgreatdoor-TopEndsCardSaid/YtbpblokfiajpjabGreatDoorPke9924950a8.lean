/- Lemmas on which TopEnds stands: the texts Shape5 Shape6 Shape7 RDev2 RDev3 DevLaw Shape13. No conditions. -/
import Derived.Test.YtbpblokfiajpjabGreatDoorPkb54018511c
set_option linter.all false
set_option maxRecDepth 1000000
set_option maxHeartbeats 32000000
namespace Go.Proofs.YtbpblokfiajpjabGreatDoor
open Go.RowKit Go.SL Go.Crc
attribute [local go_sem ↓] Go.wp_at_zero Go.wp_at_succ
abbrev Ent:=Int×Int
def lR (e : Ent) (p : Int) : Bool:=if e.1 = 2 then decide (0 <= e.2) && decide (e.2 < p) else (decide (e.1 = 0) || decide (e.1 = 1)) && decide (e.2 = 0)
def lA (n : Nat) : Nat:=(n + 7) / 8
def Ax (w : World) (v : Value) (l : List Ent) : Prop:=
 SlAt v l.length (fun b off i=>w.cell? ⟨b,off + i * 2,none⟩ = some (.int .i64 (l.getD i (0,0)).1) /\ w.cell? ⟨b,off + i * 2 + 1,none⟩ = some (.int .i64 (l.getD i (0,0)).2))
theorem Ax.later {w w' : World} {v : Value} {l : List Ent} (h : Ax w v l) {L : List HP} (k : Nat) (H : own w' L) (hk : L[k]? = some (o5 w)) : Ax w' v l:=
 SlAt.later h fun _ _ _ h=>⟨oT k H hk h.1,oT k H hk h.2⟩
theorem Aw (n : Nat) (hn : n <= 1000000) (w : World) : Calls Tryz.prog 156 #[.int .i64 n] w fun e w'=>e = .returned (.int .i64 (lA n : Nat)) /\ w = w':=by
 go_enter Tryz.func156,Tryz.ntmps156
 go_wp2_with fail
 go_ret
 exact ⟨By (by unfold lA; omega),rfl⟩
def oK (t : List Ent) (r : Nat) : List Ent:=(List.range 8).map fun k=>t.getD (8 * r + k) (0,0)
def yx (l : List Ent) : List Int:=l.flatMap fun e=>[e.1,e.2]
def zy (t : List Ent) (row : Int) : Prop:=32 < t.length \/ row < 0 \/ (lA t.length : Int) <= row
instance (t : List Ent) (row : Int) : Decidable (zy t row):=by unfold zy; infer_instance
def lS (t : List Ent) (row : Int) : ByteArray×Int:=
 if zy t row then (ByteArray.empty,1) else if (oK t row.toNat).all (fun e=>lR e 40) then (strOfNums (yx (oK t row.toNat)),0) else (ByteArray.empty,2)
theorem zZ (t : List Ent) (r : Nat) : (oK t r).length = 8:=by simp [oK]
theorem Ff (t : List Ent) (r k : Nat) (h : k < 8) : (oK t r).getD k (0,0) = t.getD (8 * r + k) (0,0):=by simp [oK,h]
theorem Ov {t : List Ent} {r k : Nat} (h : ¬zy t r) (hk : k < 8) (hb : lR (t.getD (8 * r + k) (0,0)) 40 = false) : lS t r = (ByteArray.empty,2):=by
 rw [lS,zq h,zq]
 intro hall
 have:=List.all_eq_true.1 hall (t.getD (8 * r + k) (0,0)) (by simp only [oK,zn,List.mem_map,List.mem_range]; exact ⟨k,hk,rfl⟩)
 rw [hb] at this
 cases this
theorem F4 {t : List Ent} {r : Nat} (h : ¬zy t r) (ha : ∀k,k < 8 -> lR (t.getD (8 * r + k) (0,0)) 40 = true) : lS t r = (strOfNums (yx (oK t r)),0):=by
 rw [lS,zq h,zt]
 ·rfl
 ·refine List.all_eq_true.2 fun e he=>?_
  simp only [oK,zn,List.mem_map,List.mem_range] at he
  obtain ⟨k,hk,rfl⟩:=he
  exact ha k hk
theorem C1 (l : List Ent) : (yx l).length = l.length * 2:=by
 induction l with
 | nil=>rfl
 | cons x l ih=>simp only [yx,List.flatMap_cons,List.length_append,List.length_cons,List.length_nil] at ih ⊢; omega
theorem Co (t : List Ent) (r k : Nat) (h : k < 8) : byteCells (yx ((oK t r).take (k + 1))) = byteCells (yx ((oK t r).take k))++[.int .u8 (t.getD (8 * r + k) (0,0)).1,.int .u8 (t.getD (8 * r + k) (0,0)).2]:=by
 rw [zD (0,0) (by rw [zZ]; exact h),Ff _ _ _ h]
 simp [yx,byteCells]
theorem Ad {e : Ent} {p : Int} (h : lR e p = true) : 0 <= e.1 /\ e.1 <= 2 /\ 0 <= e.2 /\ (e.2 < p \/ e.2 = 0):=by
 unfold lR at h
 split at h
 ·simp at h; omega
 ·simp at h; omega
theorem Ax.form {w : World} {v : Value} {l : List Ent} (h : Ax w v l) : ∃ao b off cap,v = .slice ao l.length cap /\ l.length <= cap /\ cap <= 9223372036854775807 /\ (0 < l.length -> ao = some ⟨b,off,none⟩):=by
 obtain ⟨ao,b,off,cap,hv,h1,h2,h3,h4⟩:=h
 exact ⟨ao,b,off,cap,hv,h1,h2,h3⟩
theorem Ax.cells {w : World} {b off n cap : Nat} {l : List Ent} (h : Ax w (.slice (some ⟨b,off,none⟩) n cap) l) {i : Nat} (hi : i < l.length) :
  w.cell? ⟨b,off + i * 2,none⟩ = some (.int .i64 (l.getD i (0,0)).1) /\ w.cell? ⟨b,off + i * 2 + 1,none⟩ = some (.int .i64 (l.getD i (0,0)).2):=by
 obtain ⟨ao,b',off',cap',hv,h1,h2,h3,h4⟩:=h
 simp only [Value.slice.injEq] at hv
 have h5:=h3 (by omega)
 rw [<- hv.1] at h5
 simp only [Option.some.injEq,Addr.mk.injEq,and_true] at h5
 obtain ⟨rfl,rfl⟩:=h5
 exact h4 i hi
theorem EH (a b : Int) : ∀u∈[Value.int .u8 a,Value.int .u8 b],u.oneCell' = true:=fun u hu=>by simp at hu; rcases hu with rfl | rfl <;> rfl
end Go.Proofs.YtbpblokfiajpjabGreatDoor
namespace Go.Proofs.YtbpblokfiajpjabGreatDoor
open Go.RowKit Go.SL

end Go.Proofs.YtbpblokfiajpjabGreatDoor
namespace Go.Proofs.YtbpblokfiajpjabGreatDoor
open Go.RowKit Go.SL
attribute [local go_sem ↓] Go.wp_at_zero Go.wp_at_succ
end Go.Proofs.YtbpblokfiajpjabGreatDoor
namespace Go.Proofs.YtbpblokfiajpjabGreatDoor
open Go.RowKit Go.SL Go.Crc
attribute [local go_sem ↓] Go.wp_at_zero Go.wp_at_succ
def sEnt (s : ByteArray) (k : Nat) : Ent:=(bt s (2 * k),bt s (2 * k + 1))
def Gg (s : ByteArray) : List Ent:=(List.range 8).map (sEnt s)
theorem BW {α : Type} (d : α) {l : List α} {i : Nat} (h : i < l.length) : l.drop i = l.getD i d::l.drop (i + 1):=by
 rw [List.drop_eq_getElem_cons h]; simp [h]
def lP (l : List Ent) : List Value:=l.flatMap fun e=>[.int .i64 e.1,.int .i64 e.2]
theorem Km (l : List Ent) : (lP l).length = l.length * 2:=by
 induction l with
 | nil=>rfl
 | cons x l ih=>simp only [lP,List.flatMap_cons,List.length_append,List.length_cons,List.length_nil] at ih ⊢; omega
theorem Ij (l m : List Ent) : lP (l++m) = lP l++lP m:=by simp [lP]
theorem lY {l : List Ent} : ∀{i : Nat},i < l.length -> (lP l)[i * 2]? = some (.int .i64 (l.getD i (0,0)).1) /\ (lP l)[i * 2 + 1]? = some (.int .i64 (l.getD i (0,0)).2):=by
 induction l with
 | nil=>intro i h; simp at h
 | cons x l ih=>
  intro i h
  cases i with
  | zero=>simp [lP]
  | succ i=>
   have:=ih (i:=i) (by simpa using h)
   simp only [lP,List.flatMap_cons] at this ⊢
   have e : (i + 1) * 2 = i * 2 + 2:=by omega
   rw [e]
   simpa using this
theorem MC : Elem Tryz.prog 221 2 16 (.agg #[.int .i64 0,.int .i64 0]):=by unfold Elem; kernel_rfl
theorem Bd.cells {w : World} {b off n cap : Nat} {l : List ByteArray} (h : Bd w (.slice (some ⟨b,off,none⟩) n cap) l) {i : Nat} (hi : i < l.length) : w.cell? ⟨b,off + i,none⟩ = some (.string (l.getD i ByteArray.empty)):=by
 obtain ⟨⟨ao,b',off',cap',hv,h1,h2,h3,h4⟩,_⟩:=h
 simp only [Value.slice.injEq] at hv
 have h5:=h3 (by omega)
 rw [<- hv.1] at h5
 simp only [Option.some.injEq,Addr.mk.injEq,and_true] at h5
 obtain ⟨rfl,rfl⟩:=h5
 exact h4 i hi
end Go.Proofs.YtbpblokfiajpjabGreatDoor
