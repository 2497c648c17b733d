/- Lemmas on which TopGuest stands: the texts Shape11. No conditions. -/
import Derived.Test.YtbpblokfiajpjabGreatDoorPka1bc6d03f3
set_option linter.all false
set_option maxRecDepth 1000000
set_option maxHeartbeats 32000000
namespace Go.Proofs.YtbpblokfiajpjabGreatDoor
open Go.RowKit Go.SL Go.Crc
attribute [local go_sem ↓] Go.wp_at_zero Go.wp_at_succ
def Ik (s : ByteArray) : Prop:=yu (bt s 2) (bt s 3) (bt s 4 - 1) (bt s 5 + 256 * bt s 6) (bt s 7 + 256 * bt s 8)≠0 \/ BY (bt s 2) (bt s 3) (bt s 4 - 1) (bt s 5 + 256 * bt s 6) (bt s 7 + 256 * bt s 8)≠s
instance (s : ByteArray) : Decidable (Ik s):=by unfold Ik; infer_instance
end Go.Proofs.YtbpblokfiajpjabGreatDoor
