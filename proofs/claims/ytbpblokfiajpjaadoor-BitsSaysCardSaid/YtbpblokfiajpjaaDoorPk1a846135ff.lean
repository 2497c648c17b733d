/- Lemmas on which BitsSays stands: the texts Shape15. No conditions. -/
import Derived.Test.YtbpblokfiajpjaaDoorPk3a200f29b6
set_option linter.all false
set_option maxRecDepth 1000000
set_option maxHeartbeats 32000000
namespace Go.Proofs.YtbpblokfiajpjaaDoor
open Go.RowKit Go.SL Go.Crc
attribute [local go_sem ↓] Go.wp_at_zero Go.wp_at_succ
end Go.Proofs.YtbpblokfiajpjaaDoor
