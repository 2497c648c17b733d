/- Tables read back by the program. No conditions. -/
import Derived.Test.YtbpblokfiajpjabGreatDoorPkb7e0a6060c
import Derived.Test.YtbpblokfiajpjabGreatDoorProg
namespace Go.Proofs.YtbpblokfiajpjabGreatDoor
open Go.RowKit Go.SL Go.Crc
attribute [local go_sem ↓] Go.wp_at_zero Go.wp_at_succ
theorem elem_bool' : Elem Tryz.prog 4 1 1 (.bool false):=by unfold Elem; kernel_rfl
end Go.Proofs.YtbpblokfiajpjabGreatDoor
