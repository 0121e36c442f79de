/- Merged texts: a claim has a limit of files. -/
import Derived.Test.YtnlagiopmkjmlaaMark
import Derived.Test.YtnlagiopmkjmlaaMg2
import Derived.Test.YtnlagiopmkjmlaaMg5

/- Walks over letterOf and l13Letter: the word of one letter. -/
namespace Go.Proofs.Ytnlagiopmkjmlaa
open Go.RowKit Go.Shelf

def letter (x : Int) : ByteArray := ⟨#[UInt8.ofNat (97 + x).toNat]⟩
theorem letter_size (x : Int) : (letter x).size = 1 := rfl

set_option maxRecDepth 100000 in
set_option maxHeartbeats 400000 in
theorem implLetter_any (x : Int) (w : World) (h0 : 0 ≤ x) (h1 : x ≤ 100) : Calls Try.prog 144 #[.int .i64 x] w (Kept w (.string (letter x))) := by
  have hcv := conv_byte w (97 + x)
  rw [show (⟨#[UInt8.ofNat (97 + x).toNat]⟩ : ByteArray) = letter x from rfl] at hcv
  go_enter Try.func144, Try.ntmps144
  go_wp2
  go_ret
  exact ⟨rfl, (Below.refl _ _).alloc (Nat.le_refl _) _⟩
set_option maxRecDepth 100000 in
set_option maxHeartbeats 400000 in
theorem specLetter_any (x : Int) (w : World) (h0 : 0 ≤ x) (h1 : x ≤ 100) : Calls Try.prog 70 #[.int .i64 x] w (Kept w (.string (letter x))) := by
  have hcv := conv_byte w (97 + x)
  rw [show (⟨#[UInt8.ofNat (97 + x).toNat]⟩ : ByteArray) = letter x from rfl] at hcv
  go_enter Try.func70, Try.ntmps70
  go_wp2
  go_ret
  exact ⟨rfl, (Below.refl _ _).alloc (Nat.le_refl _) _⟩

end Go.Proofs.Ytnlagiopmkjmlaa

/- Walks over slices.IndexFunc and slices.ContainsFunc at []string,string: over any function value that keeps what was there. -/
namespace Go.Proofs.Ytnlagiopmkjmlaa
open Go.RowKit Go.Shelf

def evString (x : ByteArray) : Value := .string x


end Go.Proofs.Ytnlagiopmkjmlaa
