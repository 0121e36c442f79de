/- Walks over l08Find, l16Loop, RunLoop, LoopLength, GrowsOn of the reference and loop, RunLoop, LoopLength, GrowsOn of the program: both tell the same run, length and answer. -/
import Derived.Test.YtidmbeeadbedaaaMg12
import Derived.Test.YtidmbeeadbedaaaChain
import Derived.Deep.RegionLaw
import Derived.Maps.OwnSet
import Derived.Maps.Views
namespace Go.Proofs.Ytidmbeeadbedaaa
open Go.RowKit Go.Shelf

/-- The first place of a word in a list. -/
def fnd : List ByteArray → ByteArray → Option Nat
  | [], _ => none
  | x :: xs, s => if x = s then some 0 else (fnd xs s).map (· + 1)
/-- The map holds each word of the list with its place. -/
def MapAt (D : DataW Unit) (ws : List ByteArray) : Prop := Maps.IsMap D ∧ ∀ s : ByteArray, Maps.has D (.string s.data.toList) = (fnd ws s).isSome ∧ ∀ i z, fnd ws s = some i → D.atKey (.string s.data.toList) z = .lit (.int .i64 (i : Int))
theorem key_ne {x s : ByteArray} (h : x ≠ s) : (Lit.string s.data.toList) ≠ Lit.string x.data.toList := fun e => by
  injection e with e
  apply h
  have e2 : s.data = x.data := Array.toList_inj.1 e
  cases x; cases s; simp_all
theorem MapAt.nil : MapAt (.map []) [] := ⟨⟨_, rfl⟩, fun s => ⟨rfl, fun i z hi => by cases hi⟩⟩

end Go.Proofs.Ytidmbeeadbedaaa
