/- Lemmas on which BitsSays stands: the texts Shape11. No conditions. -/
import Derived.Test.YtbpblokfiajpjaaDoorPk77d015aeed
set_option linter.all false
set_option maxRecDepth 1000000
set_option maxHeartbeats 32000000
namespace Go.Proofs.YtbpblokfiajpjaaDoor
open Go.RowKit Go.SL Go.Crc
attribute [local go_sem ↓] Go.wp_at_zero Go.wp_at_succ
def oS (s : ByteArray) : Prop:=zV (bt s 2) (bt s 3) (bt s 4 - 1) (bt s 5 + 256 * bt s 6) (bt s 7 + 256 * bt s 8)≠0 \/ zP (bt s 2) (bt s 3) (bt s 4 - 1) (bt s 5 + 256 * bt s 6) (bt s 7 + 256 * bt s 8)≠s
instance (s : ByteArray) : Decidable (oS s):=by unfold oS; infer_instance
end Go.Proofs.YtbpblokfiajpjaaDoor
