/- Desks read back by the program. Texts: two lists compared; what a row of texts lets be read. Two tables compared; a head is written and read. FormReads answers true, whatever the sectors, and leaves what it was given as it was. No conditions. -/
import Derived.Test.YtbpblokfiajpjabGreatDoorPkd2ae6d431d
import Derived.Test.YtbpblokfiajpjabGreatDoorProg
namespace Go.Proofs.YtbpblokfiajpjabGreatDoor
open Go.RowKit Go.SL Go.Crc
attribute [local go_sem ↓] Go.wp_at_zero Go.wp_at_succ
end Go.Proofs.YtbpblokfiajpjabGreatDoor

namespace Go.Proofs.YtbpblokfiajpjabGreatDoor
open Go.RowKit Go.SL
end Go.Proofs.YtbpblokfiajpjabGreatDoor

namespace Go.Proofs.YtbpblokfiajpjabGreatDoor
open Go.RowKit Go.SL Go.Crc
attribute [local go_sem ↓] Go.wp_at_zero Go.wp_at_succ
theorem seal_size {xs : List Int} (h : xs.length≤12) : (sealX xs).size = 16:=by
 unfold sealX
 rw [ByteArray.size_append,padded_size h]
 rfl
end Go.Proofs.YtbpblokfiajpjabGreatDoor

namespace Go.Proofs.YtbpblokfiajpjabGreatDoor
open Go.RowKit Go.SL Go.Crc
attribute [local go_sem ↓] Go.wp_at_zero Go.wp_at_succ
theorem at_behind {l R : List HP} {k : Nat} {P : HP} (h : R[k]? = some P) : (l++R)[l.length + k]? = some P:=by
 rw [List.getElem?_append_right (by omega),Nat.add_sub_cancel_left]; exact h
theorem ents_row {w : World} {L : List HP} (k : Nat) {v : Value} {l : List Ent} (H : own w L) (hk : L[k]? = some (row 221 2 v l.length (entCells l))) : entsAt w v l:=by
 obtain ⟨ao,g,cap,rfl,h1,h2,h3,-,-,h6,-⟩:=own_row_form k H hk
 refine ⟨ao,g,0,cap,rfl,h1,by simp only [maxLen] at h2; omega,h3,fun i hi=>?_⟩
 dsimp only
 rw [Nat.zero_add]
 exact ⟨h6 _ _ (entCells_get hi).1,h6 _ _ (entCells_get hi).2⟩
end Go.Proofs.YtbpblokfiajpjabGreatDoor
