/- Desks read back. No conditions. -/
import Derived.Test.YtbpblokfiajpjabGreatDoorPk9cf6f906aa
import Derived.Test.YtbpblokfiajpjabGreatDoorProg
namespace Go.Proofs.YtbpblokfiajpjabGreatDoor
open Go.RowKit Go.SL Go.Crc
attribute [local go_sem ↓] Go.wp_at_zero Go.wp_at_succ
def deskOfBad (s : ByteArray) : Prop:=deskF (bt s 2) (bt s 3) (bt s 4 - 1) (bt s 5 + 256 * bt s 6) (bt s 7 + 256 * bt s 8)≠0∨deskS (bt s 2) (bt s 3) (bt s 4 - 1) (bt s 5 + 256 * bt s 6) (bt s 7 + 256 * bt s 8)≠s
instance (s : ByteArray) : Decidable (deskOfBad s):=by unfold deskOfBad; infer_instance
end Go.Proofs.YtbpblokfiajpjabGreatDoor
