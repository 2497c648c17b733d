/- Lemmas on which TopEnds stands: the texts Shape11. No conditions. -/
import Derived.Test.YtbpblokfiajpjabGreatDoorPk0823148cc0
set_option linter.all false
set_option maxRecDepth 1000000
set_option maxHeartbeats 32000000
namespace Go.Proofs.YtbpblokfiajpjabGreatDoor
open Go.RowKit Go.SL Go.Crc
attribute [local go_sem ↓] Go.wp_at_zero Go.wp_at_succ
def Jv (s : ByteArray) : Prop:=yz (bt s 2) (bt s 3) (bt s 4 - 1) (bt s 5 + 256 * bt s 6) (bt s 7 + 256 * bt s 8)≠0 \/ Ca (bt s 2) (bt s 3) (bt s 4 - 1) (bt s 5 + 256 * bt s 6) (bt s 7 + 256 * bt s 8)≠s
instance (s : ByteArray) : Decidable (Jv s):=by unfold Jv; infer_instance
end Go.Proofs.YtbpblokfiajpjabGreatDoor
