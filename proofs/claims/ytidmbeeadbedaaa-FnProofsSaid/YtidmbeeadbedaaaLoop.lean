/- Walks over l08Find, l16Loop, RunLoop, LoopLength, GrowsOn of the reference and loop, RunLoop, LoopLength, GrowsOn of the program: both tell the same run, length and answer. -/
import Derived.Test.YtidmbeeadbedaaaNorm
import Derived.Test.YtidmbeeadbedaaaChain
import Derived.Deep.RegionLaw
import Derived.Maps.OwnSet
import Derived.Maps.Views
namespace Go.Proofs.Ytidmbeeadbedaaa
open Go.RowKit Go.Shelf

/-- The first place of a word in a list. -/
def fnd : List ByteArray → ByteArray → Option Nat
  | [], _ => none
  | x :: xs, s => if x = s then some 0 else (fnd xs s).map (· + 1)
theorem fnd_lt {s : ByteArray} : ∀ {ws : List ByteArray} {i : Nat}, fnd ws s = some i → i < ws.length
  | [], _, h => by cases h
  | x :: xs, i, h => by
    rw [fnd] at h
    split at h
    · injection h with h; subst h; simp
    · cases hf : fnd xs s with
      | none => rw [hf] at h; cases h
      | some j =>
        rw [hf] at h
        injection h with h
        have := fnd_lt hf
        subst h
        simpa using this
theorem fnd_snoc (x s : ByteArray) : ∀ ws : List ByteArray, fnd (ws ++ [x]) s = match fnd ws s with
    | some i => some i
    | none => if x = s then some ws.length else none
  | [] => by
    rw [List.nil_append, fnd, fnd]
    split <;> simp_all [fnd]
  | y :: ws => by
    rw [List.cons_append, fnd, fnd, fnd_snoc x s ws]
    by_cases h : y = s
    · rw [if_pos h, if_pos h]
    · rw [if_neg h, if_neg h]
      cases fnd ws s with
      | some i => rfl
      | none =>
        by_cases hx : x = s
        · simp [hx]
        · simp [hx]

/-- The map holds each word of the list with its place. -/
def MapAt (D : DataW Unit) (ws : List ByteArray) : Prop := Maps.IsMap D ∧ ∀ s : ByteArray, Maps.has D (.string s.data.toList) = (fnd ws s).isSome ∧ ∀ i z, fnd ws s = some i → D.atKey (.string s.data.toList) z = .lit (.int .i64 (i : Int))
theorem key_ne {x s : ByteArray} (h : x ≠ s) : (Lit.string s.data.toList) ≠ Lit.string x.data.toList := fun e => by
  injection e with e
  apply h
  have e2 : s.data = x.data := Array.toList_inj.1 e
  cases x; cases s; simp_all
theorem MapAt.snoc {D : DataW Unit} {ws : List ByteArray} (h : MapAt D ws) {x : ByteArray} (hx : fnd ws x = none) : MapAt (D.put (.string x.data.toList) (.lit (.int .i64 (ws.length : Int)))) (ws ++ [x]) := by
  have hk : WideAt.IsKeyLit (Lit.string x.data.toList) := trivial
  refine ⟨?_, fun s => ?_⟩
  · obtain ⟨es, rfl⟩ := h.1
    exact ⟨_, rfl⟩
  by_cases hs : x = s
  · subst hs
    rw [fnd_snoc, hx, if_pos rfl]
    refine ⟨Maps.has_put_same h.1 hk _, fun i z hi => ?_⟩
    injection hi with hi
    subst hi
    exact Maps.atKey_put_same h.1 hk _ z
  · have hf : fnd (ws ++ [x]) s = fnd ws s := by
      rw [fnd_snoc]
      cases fnd ws s with
      | some i => rfl
      | none => simp [hs]
    rw [hf, Maps.has_put_other (key_ne hs)]
    refine ⟨(h.2 s).1, fun i z hi => ?_⟩
    rw [Maps.atKey_put_other (key_ne hs)]
    exact (h.2 s).2 i z hi
theorem MapAt.nil : MapAt (.map []) [] := ⟨⟨_, rfl⟩, fun s => ⟨rfl, fun i z hi => by cases hi⟩⟩

end Go.Proofs.Ytidmbeeadbedaaa
