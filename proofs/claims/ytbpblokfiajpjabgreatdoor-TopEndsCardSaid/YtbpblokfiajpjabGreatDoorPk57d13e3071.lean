/- Lemmas on which TopEnds stands: the texts Shape15. No conditions. -/
import Derived.Test.YtbpblokfiajpjabGreatDoorPkccd054ec94
set_option linter.all false
set_option maxRecDepth 1000000
set_option maxHeartbeats 32000000
namespace Go.Proofs.YtbpblokfiajpjabGreatDoor
open Go.RowKit Go.SL Go.Crc
attribute [local go_sem ↓] Go.wp_at_zero Go.wp_at_succ
theorem Me : Elem Tryz.prog 4 1 1 (.bool false):=by unfold Elem; kernel_rfl
end Go.Proofs.YtbpblokfiajpjabGreatDoor
