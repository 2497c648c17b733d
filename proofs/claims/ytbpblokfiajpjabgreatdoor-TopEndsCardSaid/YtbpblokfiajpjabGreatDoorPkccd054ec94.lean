/- Lemmas on which TopEnds stands: the texts Shape14. No conditions. -/
import Derived.Test.YtbpblokfiajpjabGreatDoorPke9924950a8
set_option linter.all false
set_option maxRecDepth 1000000
set_option maxHeartbeats 32000000
namespace Go.Proofs.YtbpblokfiajpjabGreatDoor
open Go.RowKit Go.SL Go.Crc
attribute [local go_sem ↓] Go.wp_at_zero Go.wp_at_succ
end Go.Proofs.YtbpblokfiajpjabGreatDoor
