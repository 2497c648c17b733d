/- Lemmas on which BitsSays stands: the texts Shape4 Shape5. No conditions. -/
import Derived.Test.YtbpblokfiajpjaaDoorPk9a5c8061e4
import Derived.Laws.ResultCell
set_option linter.all false
set_option maxRecDepth 1000000
set_option maxHeartbeats 32000000
namespace Go.Proofs.YtbpblokfiajpjaaDoor
open Go.RowKit Go.SL Go.Crc
attribute [local go_sem ↓] Go.wp_at_zero Go.wp_at_succ
def bt (s : ByteArray) (i : Nat) : Int:=((s.data.toList.getD i 0).toNat : Int)
def oN (s : ByteArray) : Prop:=l9 (bt s 2) (bt s 3) (bt s 4 - 1) \/ zz (bt s 2) (bt s 3) (bt s 4 - 1)≠s
instance (s : ByteArray) : Decidable (oN s):=by unfold oN; infer_instance

end Go.Proofs.YtbpblokfiajpjaaDoor
