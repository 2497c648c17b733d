/- Lemmas on which TopEnds stands: the texts Shape12 Texts Shape16 FormReadsLaw. No conditions. -/
import Derived.Test.YtbpblokfiajpjabGreatDoorPk7208848cde
set_option linter.all false
set_option maxRecDepth 1000000
set_option maxHeartbeats 32000000
namespace Go.Proofs.YtbpblokfiajpjabGreatDoor
open Go.RowKit Go.SL Go.Crc
attribute [local go_sem ↓] Go.wp_at_zero Go.wp_at_succ
end Go.Proofs.YtbpblokfiajpjabGreatDoor
namespace Go.Proofs.YtbpblokfiajpjabGreatDoor
open Go.RowKit Go.SL
end Go.Proofs.YtbpblokfiajpjabGreatDoor
namespace Go.Proofs.YtbpblokfiajpjabGreatDoor
open Go.RowKit Go.SL Go.Crc
attribute [local go_sem ↓] Go.wp_at_zero Go.wp_at_succ
theorem zv {xs : List Int} (h : xs.length <= 12) : (EY xs).size = 16:=by
 unfold EY
 rw [ByteArray.size_append,Fs h]
 rfl
theorem OL {l R : List HP} {k : Nat} {P : HP} (h : R[k]? = some P) : (l++R)[l.length + k]? = some P:=by
 rw [List.getElem?_append_right (by omega),Nat.add_sub_cancel_left]; exact h
theorem PW {w : World} {L : List HP} (k : Nat) {v : Value} {l : List Ent} (H : own w L) (hk : L[k]? = some (row 221 2 v l.length (lP l))) : Ax w v l:=by
 obtain ⟨ao,g,cap,rfl,h1,h2,h3,-,-,h6,-⟩:=ll k H hk
 refine ⟨ao,g,0,cap,rfl,h1,by simp only [maxLen] at h2; omega,h3,fun i hi=>?_⟩
 dsimp only
 rw [Nat.zero_add]
 exact ⟨h6 _ _ (lY hi).1,h6 _ _ (lY hi).2⟩
end Go.Proofs.YtbpblokfiajpjabGreatDoor
