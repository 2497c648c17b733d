/- Lemmas on which BitsSays stands: the texts Shape9 Shape8 Shape10. No conditions. -/
import Derived.Test.YtbpblokfiajpjaaDoorPk1a846135ff
set_option linter.all false
set_option maxRecDepth 1000000
set_option maxHeartbeats 32000000
namespace Go.Proofs.YtbpblokfiajpjaaDoor
open Go.RowKit Go.SL Go.Crc
attribute [local go_sem ↓] Go.wp_at_zero Go.wp_at_succ
def oJ (r k f a b : Int) : Prop:=r < 0 \/ 4 < r \/ k < 0 \/ 3 < k \/ f < -1 \/ 4 < f \/ a < 0 \/ 1000 < a \/ b < 0 \/ 1000 < b
instance (r k f a b : Int) : Decidable (oJ r k f a b):=by unfold oJ; infer_instance
def oL (r k f a b : Int) : Prop:=if k = 0 then ¬(f = -1 /\ a = 0 /\ b = 0) else (f = r \/ (f = -1 /\ k≠2))
instance (r k f a b : Int) : Decidable (oL r k f a b):=by unfold oL; infer_instance
def zV (r k f a b : Int) : Int:=if oJ r k f a b then 1 else if oL r k f a b then 2 else 0
def zP (r k f a b : Int) : ByteArray:=zx [68,75,r,k,f + 1,a % 256,a / 256,b % 256,b / 256]

end Go.Proofs.YtbpblokfiajpjaaDoor
