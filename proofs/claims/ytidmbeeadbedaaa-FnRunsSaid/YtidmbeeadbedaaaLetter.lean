/- Walks over letterOf and l13Letter: the word of one letter. -/
import Derived.Test.YtidmbeeadbedaaaMg3
import Derived.Test.YtidmbeeadbedaaaMg1
namespace Go.Proofs.Ytidmbeeadbedaaa
open Go.RowKit Go.Shelf

def letter (x : Int) : ByteArray := ⟨#[UInt8.ofNat (97 + x).toNat]⟩
theorem letter_size (x : Int) : (letter x).size = 1 := rfl

set_option maxRecDepth 100000 in
set_option maxHeartbeats 400000 in
theorem implLetter_any (x : Int) (w : World) (h0 : 0 ≤ x) (h1 : x ≤ 100) : Calls Try.prog 192 #[.int .i64 x] w (Kept w (.string (letter x))) := by
  have hcv := conv_byte w (97 + x)
  rw [show (⟨#[UInt8.ofNat (97 + x).toNat]⟩ : ByteArray) = letter x from rfl] at hcv
  go_enter Try.func192, Try.ntmps192
  go_wp2
  go_ret
  exact ⟨rfl, (Below.refl _ _).alloc (Nat.le_refl _) _⟩
set_option maxRecDepth 100000 in
set_option maxHeartbeats 400000 in
theorem specLetter_any (x : Int) (w : World) (h0 : 0 ≤ x) (h1 : x ≤ 100) : Calls Try.prog 129 #[.int .i64 x] w (Kept w (.string (letter x))) := by
  have hcv := conv_byte w (97 + x)
  rw [show (⟨#[UInt8.ofNat (97 + x).toNat]⟩ : ByteArray) = letter x from rfl] at hcv
  go_enter Try.func129, Try.ntmps129
  go_wp2
  go_ret
  exact ⟨rfl, (Below.refl _ _).alloc (Nat.le_refl _) _⟩

end Go.Proofs.Ytidmbeeadbedaaa
