/- append of one element where what lies elsewhere is kept; owned rows under stores elsewhere. -/

import Derived.Test.YtgceabbeeobmgaaDoorApp2
namespace Go.Proofs.YtgceabbeeobmgaaDoor

open Go.RowKit Go.Shelf

theorem own_far3 {w : World} {base : Nat} {t : TypeId} {m n : Nat} {v : Value} {xs : List Value} (h : w.ownsRow base t m v n xs) {p : Addr} (hp : v.ownBlock ≠ some p.block) (u : Value) : (w.setCell p u).ownsRow base t m v n xs := by
  refine ⟨h.1, ?_⟩
  rcases h.2 with h2 | ⟨g, cap, cur, hv, hg, hh, r⟩
  · exact .inl h2
  · refine .inr ⟨g, cap, cur, hv, hg, ?_, r⟩
    rw [Below.heap_setCell]
    · exact hh
    · intro e
      subst hv
      exact hp (by simp [Value.ownBlock, e])
theorem own_new_ne3 {w : World} {base : Nat} {t : TypeId} {m n : Nat} {v : Value} {xs : List Value} (h : w.ownsRow base t m v n xs) {b : Nat} (hb : w.heap.size ≤ b) : v.ownBlock ≠ some b := by
  rcases h.2 with ⟨rfl, _⟩ | ⟨g, cap, cur, rfl, _, hh, _⟩
  · simp [Value.ownBlock]
  · have := (Array.getElem?_eq_some_iff.1 hh).1
    intro e
    have e2 : g = b := by simpa [Value.ownBlock] using e
    omega

end Go.Proofs.YtgceabbeeobmgaaDoor
