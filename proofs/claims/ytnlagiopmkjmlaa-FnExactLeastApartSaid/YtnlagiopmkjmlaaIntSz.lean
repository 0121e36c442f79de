/- Walks over the laws' szIntS. -/
import Derived.Test.YtnlagiopmkjmlaaInt
import Derived.Test.YtnlagiopmkjmlaaApp
namespace Go.Proofs.Ytnlagiopmkjmlaa
open Go.RowKit Go.Shelf

def totInt (xs : List Int) : Nat := xs.length
theorem tot_len_ints (xs : List Int) : xs.length ≤ totInt xs := Nat.le_refl _

end Go.Proofs.Ytnlagiopmkjmlaa
