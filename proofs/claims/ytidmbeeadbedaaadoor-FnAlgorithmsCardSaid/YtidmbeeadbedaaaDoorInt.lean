/- Walks over the laws' helpers for slices of int: toIntS, eqIntS, markIntS, heldIntS. -/
import Derived.Test.YtidmbeeadbedaaaDoorOpen
namespace Go.Proofs.YtidmbeeadbedaaaDoor
open Go.RowKit Go.Shelf

def mkI (k : Int) (j : Nat) : Value := .int .i64 (k + j)


end Go.Proofs.YtidmbeeadbedaaaDoor
