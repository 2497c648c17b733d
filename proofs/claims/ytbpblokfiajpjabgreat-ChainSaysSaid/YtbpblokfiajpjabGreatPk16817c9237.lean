/- Desks read back. No conditions. -/
import Derived.Test.YtbpblokfiajpjabGreatPka885452b62
import Derived.Test.YtbpblokfiajpjabGreatProg
namespace Go.Proofs.YtbpblokfiajpjabGreat
open Go.RowKit Go.SL Go.Crc
attribute [local go_sem ↓] Go.wp_at_zero Go.wp_at_succ

def deskGood (s : ByteArray) : Int × Int × Int × Int × Int := (bt s 2, bt s 3, bt s 4 - 1, bt s 5 + 256 * bt s 6, bt s 7 + 256 * bt s 8)
def deskOfBad (s : ByteArray) : Prop := deskF (bt s 2) (bt s 3) (bt s 4 - 1) (bt s 5 + 256 * bt s 6) (bt s 7 + 256 * bt s 8) ≠ 0 ∨ deskS (bt s 2) (bt s 3) (bt s 4 - 1) (bt s 5 + 256 * bt s 6) (bt s 7 + 256 * bt s 8) ≠ s
instance (s : ByteArray) : Decidable (deskOfBad s) := by unfold deskOfBad; infer_instance
def deskOf (s : ByteArray) : (Int × Int × Int × Int × Int) × Int :=
  if openF s ≠ 0 then ((0, 0, 0, 0, 0), openF s) else if deskOfBad s then ((0, 0, 0, 0, 0), 2) else (deskGood s, 0)
theorem deskF_pos {r k f a b : Int} (h : deskF r k f a b ≠ 0) : 0 < deskF r k f a b := by
  unfold deskF at h ⊢
  split
  · decide
  · rename_i h1
    rw [if_neg h1] at h
    split
    · decide
    · rename_i h2; rw [if_neg h2] at h; exact absurd rfl h
theorem deskF_in {r k f a b : Int} (h : deskF r k f a b = 0) : ¬ deskOut r k f a b := fun h' => by rw [deskF_out h'] at h; cases h

end Go.Proofs.YtbpblokfiajpjabGreat
