/- Views of memory: floors. -/
import Derived.Test.YtjiklfffcnfdjaaOwnR
namespace Go.Proofs.Ytjiklfffcnfdjaa
open Go.RowKit

/-- A floor. -/
structure Flr where
  y : Int
  top : Int
  area : Int
deriving DecidableEq
def flrC (f : Flr) : List Value := [.int .i64 f.y, .int .i64 f.top, .int .i64 f.area]
abbrev SlFl := SlR flrC 3
abbrev flrV (f : Flr) : Value := .agg #[.int .i64 f.y, .int .i64 f.top, .int .i64 f.area]
end Go.Proofs.Ytjiklfffcnfdjaa
