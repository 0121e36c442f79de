/- append of one element, onto a slice of the call's own, nil or not: where it lies afterwards; another slice lies apart from it for ever. -/


import Derived.Test.YtgceabbeeobmgaaDoorApp3
import Derived.Deep.AppendLies
namespace Go.Proofs.YtgceabbeeobmgaaDoor

open Go.RowKit Go.Shelf

theorem wpList_app5 {P : Program} {ops : Array Oper} {rest : List Oper} {o : Oper} {a : Act} {Q : Exit → Act → World → Prop} (w w0 : World) (b0 : Nat) (hb0 : w0.heap.size = b0) (hgd : o.guard = none) (s x : Operand) (t : TypeId)
    (ho : o.op = .call { callee := .builtin .append, args := #[s, x], argTypes := #[t, t] }) (base e size bytes : Nat) (z : Value) (ht : P.underlying t = some (.slice e))
    (hinfo : (P.info? e).map (fun i => (i.zero, i.size, i.bytes)) = some (some z, size, bytes)) (hzs : z.cells.size = size) (hsz : 0 < size) (v : Value) (n : Nat) (xs : List Value) (cs : Array Value)
    (hw : w = w0.alloc (.cells cs e)) (hs : a.eval s = v) (hx : a.eval x = .slice (some ⟨b0, 0, none⟩) 1 1) (hown : w0.ownsRow base e size v n xs) (hcs : cs.size = size) (h1 : ∀ u ∈ cs.toList, u.oneCell' = true)
    (hn : (n + 1) * bytes ≤ 140737488355328) (hm : n + 1 ≤ maxLen) (hbase : base ≤ b0)
    (h : ∀ g c w', w'.ownsRow base e size (.slice (some ⟨g, 0, none⟩) (n + 1) c) (n + 1) (xs ++ cs.toList) → Below base w0 w' → w0.grownBy w' v.ownBlock → (v.ownBlock = some g ∨ b0 ≤ g) → wpList P ops Q rest (a.put o.dst (.slice (some ⟨g, 0, none⟩) (n + 1) c)) w') :
    wpList P ops Q (o :: rest) a w := by
  subst hb0
  subst hw
  obtain ⟨i0, hi, hz0, hz1, hz2⟩ := info_parts hinfo
  refine wpList_append_lies _ hgd s x t ho base e i0 z size bytes ht hi hz0 hz1 hz2 hzs hsz v n xs hs (hown.alloc _) ⟨w0.heap.size, 0, none⟩ 1 1 cs.toList hx (by simpa using hcs) ?_ h1 (by omega) hm hn (by simp; omega) _ rfl ?_
  · intro j u hu
    have e' : (⟨w0.heap.size, 0, none⟩ : Addr).add j = ⟨w0.heap.size, j, none⟩ := by unfold Addr.add; split <;> simp_all
    rw [e', (Bk.new w0 e cs).cell j]
    simpa using hu
  · intro g' c' w' hown' hgrow hat hlt
    have hgb : w0.grownBy w' v.ownBlock := (World.grownBy_alloc w0 _ v.ownBlock).trans hgrow
    have hb0 : Below base w0 (w0.alloc (.cells cs e)) := (Below.refl _ _).alloc hbase _
    refine h g' c' w' hown' (hb0.grown hgrow (by simp; omega) fun k hk => ((hown.alloc (.cells cs e)).lt k hk).1) hgb ?_
    rcases hat with hat | hat
    · exact .inl hat
    · right
      rw [hat]; simp

/-- The slice v of the call's own and the slice at P lie apart. -/
def Apt (v : Value) (P : Option Addr) (w : World) : Prop := ∀ p, P = some p → v.ownBlock ≠ some p.block ∧ p.block < w.heap.size
theorem Apt.below {v : Value} {P : Option Addr} {w w' : World} {B : Nat} (h : Apt v P w) (hb : Below B w w') : Apt v P w' := fun p hp => ⟨(h p hp).1, Nat.lt_of_lt_of_le (h p hp).2 hb.size⟩
theorem Apt.next {v : Value} {P : Option Addr} {w w' : World} {g n c : Nat} (h : Apt v P w) (hg : w.grownBy w' v.ownBlock) (hat : v.ownBlock = some g ∨ w.heap.size ≤ g) : Apt (.slice (some ⟨g, 0, none⟩) n c) P w' := fun p hp => by
  obtain ⟨h1, h2⟩ := h p hp
  refine ⟨fun e => ?_, Nat.lt_of_lt_of_le h2 hg.size⟩
  have e2 : g = p.block := by simpa [Value.ownBlock] using e
  rcases hat with h3 | h3
  · rw [e2] at h3; exact h1 h3
  · omega
theorem Apt.of_own {w : World} {v : Value} {base : Nat} {t : TypeId} {m n c : Nat} {P : Option Addr} {xs : List Value} (h : w.ownsRow base t m (.slice P n c) n xs) (hv : ∀ k, v.ownBlock = some k → k < base) : Apt v P w := fun p hp => by
  rcases h.2 with ⟨h1, _⟩ | ⟨g, cap, cur, h1, hb, hh, _⟩
  · injection h1 with h1; rw [h1] at hp; cases hp
  · injection h1 with h1
    rw [h1] at hp
    injection hp with hp
    subst hp
    exact ⟨fun e => by have := hv g e; omega, (Array.getElem?_eq_some_iff.1 hh).1⟩
theorem Apt.new {v : Value} {w : World} {base : Nat} {t : TypeId} {m n : Nat} {xs : List Value} (h : w.ownsRow base t m v n xs) (o : Obj) : Apt v (some ⟨w.heap.size, 0, none⟩) (w.alloc o) := fun p hp => by
  injection hp with hp
  subst hp
  refine ⟨fun e => ?_, by simp⟩
  have := (h.lt _ e).2
  simp at this
end Go.Proofs.YtgceabbeeobmgaaDoor
