/- Walks over slices.IndexFunc and slices.ContainsFunc at []string,string: over any function value that keeps what was there. -/
import Derived.Test.YtnlagiopmkjmlaaStr
namespace Go.Proofs.Ytnlagiopmkjmlaa
open Go.RowKit Go.Shelf

def evString (x : ByteArray) : Value := .string x


end Go.Proofs.Ytnlagiopmkjmlaa
