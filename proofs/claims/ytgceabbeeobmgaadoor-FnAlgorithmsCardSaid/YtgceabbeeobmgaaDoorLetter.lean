/- Walks over letterOf and l13Letter: the word of one letter. -/


import Derived.Test.YtgceabbeeobmgaaDoorMark
import Derived.Test.YtgceabbeeobmgaaDoorApp
namespace Go.Proofs.YtgceabbeeobmgaaDoor

open Go.RowKit Go.Shelf

def letter (x : Int) : ByteArray := ⟨#[UInt8.ofNat (97 + x).toNat]⟩
set_option maxRecDepth 100000 in
set_option maxHeartbeats 400000 in
theorem implLetter_any (x : Int) (w : World) (h0 : 0 ≤ x) (h1 : x ≤ 100) : Calls Tryd.prog 31 #[.int .i64 x] w (Kept w (.string (letter x))) := by
  have hcv := conv_byte w (97 + x)
  rw [show (⟨#[UInt8.ofNat (97 + x).toNat]⟩ : ByteArray) = letter x from rfl] at hcv
  go_enter Tryd.func31, Tryd.ntmps31
  go_wp2
  go_ret
  exact ⟨rfl, (Below.refl _ _).alloc (Nat.le_refl _) _⟩

end Go.Proofs.YtgceabbeeobmgaaDoor
