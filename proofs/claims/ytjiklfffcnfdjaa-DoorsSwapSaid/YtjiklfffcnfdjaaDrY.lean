/- The law DoorsSwap, with what the document says of its own two pairs. -/
import Derived.Test.YtjiklfffcnfdjaaDrZ
import Derived.Test.YtjiklfffcnfdjaaDrK
namespace Go.Proofs.Ytjiklfffcnfdjaa
open Go.RowKit

theorem doorsswap_any (cf : Cfg) (ha : RHd) (ra : Rc) (hb : RHd) (rb : Rc) (ex ez : Int) (w : World) (hs : RcSl w ha ra) (ht : RcSl w hb rb) :
    Calls Try.prog 3 #[cfgV cf, rcV ha ra, rcV hb rb, .int .i64 ex, .int .i64 ez] w fun e w' => e = .returned (.bool true) ∧ Below w.heap.size w w' :=
  doorsswap_core (fun W => wakes18_any W) cf ha ra hb rb ex ez w hs ht
end Go.Proofs.Ytjiklfffcnfdjaa
