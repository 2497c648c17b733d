/- Lemmas on which BitsSays stands: the texts Shape12 Texts Shape16 FormReadsLaw. No conditions. -/
import Derived.Test.YtbpblokfiajpjaaDoorPk2aa1ed0015
set_option linter.all false
set_option maxRecDepth 1000000
set_option maxHeartbeats 32000000
namespace Go.Proofs.YtbpblokfiajpjaaDoor
open Go.RowKit Go.SL Go.Crc
attribute [local go_sem ↓] Go.wp_at_zero Go.wp_at_succ
end Go.Proofs.YtbpblokfiajpjaaDoor
namespace Go.Proofs.YtbpblokfiajpjaaDoor
open Go.RowKit Go.SL
end Go.Proofs.YtbpblokfiajpjaaDoor
namespace Go.Proofs.YtbpblokfiajpjaaDoor
open Go.RowKit Go.SL Go.Crc
attribute [local go_sem ↓] Go.wp_at_zero Go.wp_at_succ

end Go.Proofs.YtbpblokfiajpjaaDoor
