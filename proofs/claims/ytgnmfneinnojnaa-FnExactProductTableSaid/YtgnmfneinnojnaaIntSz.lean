/- Walks over the laws' szIntS. -/
import Derived.Test.YtgnmfneinnojnaaInt
import Derived.Test.YtgnmfneinnojnaaApp
namespace Go.Proofs.Ytgnmfneinnojnaa
open Go.RowKit Go.Shelf

def totInt (xs : List Int) : Nat := xs.length
theorem tot_len_ints (xs : List Int) : xs.length ≤ totInt xs := Nat.le_refl _
set_option maxRecDepth 100000 in
set_option maxHeartbeats 400000 in
theorem szIntS_any (A : Option Addr) (n c : Nat) (xs : List Int) (left : Int) (w : World) (hn : n = xs.length) (hm : n ≤ maxLen) (h0 : 0 ≤ left) (h1 : left ≤ 1048576) :
    Calls Try.prog 59 #[.slice A n c, .int .i64 left] w (Kept w (.int .i64 (szLeft left (totInt xs : Nat)))) := by
  unfold maxLen at hm
  have Hn := Lib.hid hn
  clear hn
  go_enter Try.func59, Try.ntmps59
  by_cases n0 : (left - n : Int) < 0
  · go_wp2
    go_ret
    exact ⟨ret_int (by rw [szLeft, totInt, ← Hn.out, if_pos (by omega)]), Below.refl _ _⟩
  · go_wp2
    go_ret
    exact ⟨ret_int (by rw [szLeft, totInt, ← Hn.out, if_neg (by omega)]), Below.refl _ _⟩

end Go.Proofs.Ytgnmfneinnojnaa
