/- Walks over the laws' helpers for slices of int: toIntS, eqIntS, markIntS, heldIntS. -/
import Derived.Test.YtcpkplgfgpmomaaOpen
namespace Go.Proofs.Ytcpkplgfgpmomaa
open Go.RowKit Go.Shelf

def mkI (k : Int) (j : Nat) : Value := .int .i64 (k + j)


end Go.Proofs.Ytcpkplgfgpmomaa
