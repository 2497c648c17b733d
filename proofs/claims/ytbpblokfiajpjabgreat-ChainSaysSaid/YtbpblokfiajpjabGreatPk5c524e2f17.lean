/- Tables read back by the document. No conditions. -/
import Derived.Test.YtbpblokfiajpjabGreatPk09775ad3e3
import Derived.Test.YtbpblokfiajpjabGreatProg
namespace Go.Proofs.YtbpblokfiajpjabGreat
open Go.RowKit Go.SL Go.Crc
attribute [local go_sem ↓] Go.wp_at_zero Go.wp_at_succ

def TabPost (res : Value) (T : List Ent) (R : List SL.HP) (w : World) (e : Ending) (w' : World) : Prop :=
  ∃ v, e = .returned (.tuple #[v, res]) ∧ Ext w w' ∧ own w' (row 107 2 v T.length (entCells T) :: R)
def tabOut (C : Nat) (P : Int) (rows : List ByteArray) (T : List Ent) (F : Int) (R : List SL.HP) (w0 : World) (vt vi : Value) (wr : World) : Prop :=
  ∃ (i : Nat) (t : List Ent), i ≤ rows.length ∧ vi = .int .i64 i ∧ t.length = min C (8 * i) ∧ tabRows C P t (rows.drop i) = (T, F) ∧ Ext w0 wr ∧ own wr (row 107 2 vt t.length (entCells t) :: R)
def tabIn (C : Nat) (P : Int) (s : ByteArray) (i : Nat) (r0 : Option (List Ent)) (R : List SL.HP) (w0 : World) (vt vk : Value) (wr : World) : Prop :=
  ∃ (k : Nat) (t : List Ent), k ≤ 8 ∧ vk = .int .i64 k ∧ t.length = min C (8 * i + k) ∧ tabRow C P t ((sEnts s).drop k) = r0 ∧ Ext w0 wr ∧ own wr (row 107 2 vt t.length (entCells t) :: R)

theorem of_not_t {X : Bool} (h : true = !X) : X = false := by cases X <;> simp_all
theorem of_not_f {X : Bool} (h : false = !X) : X = true := by cases X <;> simp_all
def dupInv (ok0 two : Bool) (e : Ent) (t : List Ent) (L : List SL.HP) (w0 : World) (vo vj : Value) (wr : World) : Prop :=
  ∃ q : Nat, q ≤ t.length ∧ vj = .int .i64 q ∧ vo = .bool (ok0 && !(two && (t.take q).contains e)) ∧ Ext w0 wr ∧ own wr L
theorem dup_succ {ok0 two : Bool} {e : Ent} {t : List Ent} {q : Nat} (h : q < t.length) : (ok0 && !(two && (t.take (q + 1)).contains e)) = (ok0 && !(two && ((t.take q).contains e || decide (e = t.getD q (0, 0))))) := by
  rw [take_succ_getD (0, 0) h, List.contains_append]
  simp [List.contains_cons]

end Go.Proofs.YtbpblokfiajpjabGreat
