/- Merged texts: a claim has a limit of files. -/
import Derived.Test.YtidmbeeadbedaaaCrP
import Derived.Test.YtidmbeeadbedaaaSearch
import Derived.Test.YtidmbeeadbedaaaMg11
import Derived.Test.YtidmbeeadbedaaaMg1
import Derived.ArgAppend
import Derived.Maps.OwnSet

/- Walks over l04Has and CountReached of the reference. -/
namespace Go.Proofs.Ytidmbeeadbedaaa
open Go.RowKit Go.Shelf



end Go.Proofs.Ytidmbeeadbedaaa

/- A row of one-cell elements of the call's own that begins at an offset (queue = queue[1:]), and append onto it; the number of entries of a map as a function of the world. -/
namespace Go.Proofs.Ytidmbeeadbedaaa
open Go.RowKit Go.Shelf

def OwnO (w : World) (g base off : Nat) (t : TypeId) (n : Nat) (xs : List Value) (c : Nat) : Prop :=
  base ≤ g ∧ n ≤ c ∧ c ≤ maxLen ∧ xs.length = n ∧ ∃ cur, Bk w g t cur ∧ off + c ≤ cur.size ∧ ∀ j, j < n → cur[off + j]? = xs[j]?
theorem OwnO.lt {w : World} {g base off : Nat} {t : TypeId} {n : Nat} {xs : List Value} {c : Nat} (h : OwnO w g base off t n xs c) : g < w.heap.size := by
  obtain ⟨_, _, _, _, cur, hb, _⟩ := h
  exact hb.lt
theorem OwnO.of_own {w : World} {g base : Nat} {t : TypeId} {n : Nat} {xs : List Value} {c : Nat} (h : w.ownsRow base t 1 (.slice (some ⟨g, 0, none⟩) n c) n xs) : OwnO w g base 0 t n xs c := by
  rcases h.2 with ⟨h1, _⟩ | ⟨g', cap, cur, h1, hb, hh, hc, hm, hs, hx⟩
  · cases h1
  · injection h1 with h1 h2 h3
    injection h1 with h1
    injection h1 with h1
    subst h1 h3
    refine ⟨hb, hc, hm, by simpa using h.1, cur, hh, by rw [hs]; omega, fun j hj => ?_⟩
    rw [← hx, Nat.zero_add, List.getElem?_take_of_lt (by omega), Array.getElem?_toList]
theorem OwnO.cell {w : World} {g base off : Nat} {t : TypeId} {n : Nat} {xs : List Value} {c : Nat} (h : OwnO w g base off t n xs c) {j : Nat} {u : Value} (hu : xs[j]? = some u) : w.cell? ⟨g, off + j, none⟩ = some u := by
  obtain ⟨_, _, _, hl, cur, hb, _, hc⟩ := h
  have hj : j < n := by rw [← hl]; exact (List.getElem?_eq_some_iff.1 hu).1
  rw [hb.cell, hc j hj, hu]
theorem OwnO.tail {w : World} {g base off : Nat} {t : TypeId} {n : Nat} {x : Value} {xs : List Value} {c : Nat} (h : OwnO w g base off t (n + 1) (x :: xs) c) : OwnO w g base (off + 1) t n xs (c - 1) := by
  obtain ⟨hb, h1, h2, h3, cur, hk, hs, hc⟩ := h
  refine ⟨hb, by omega, by omega, by simpa using h3, cur, hk, by omega, fun j hj => ?_⟩
  have := hc (j + 1) (by omega)
  rw [List.getElem?_cons_succ] at this
  rw [← this]
  congr 1
  omega
theorem OwnO.none {w : World} {g base off : Nat} {t : TypeId} {n : Nat} {xs : List Value} {c : Nat} (h : OwnO w g base off t n xs c) : OwnO w g base off t 0 [] 0 := by
  obtain ⟨hb, h1, h2, h3, cur, hk, hs, hc⟩ := h
  exact ⟨hb, Nat.le_refl _, Nat.zero_le _, rfl, cur, hk, by omega, fun j hj => absurd hj (Nat.not_lt_zero _)⟩
theorem OwnO.below {w w' : World} {g base off : Nat} {t : TypeId} {n : Nat} {xs : List Value} {c : Nat} (h : OwnO w g base off t n xs c) (hb : Below w.heap.size w w') : OwnO w' g base off t n xs c := by
  obtain ⟨h0, h1, h2, h3, cur, hk, r⟩ := h
  exact ⟨h0, h1, h2, h3, cur, hk.below hb hk.lt, r⟩
theorem OwnO.alloc {w : World} {g base off : Nat} {t : TypeId} {n : Nat} {xs : List Value} {c : Nat} (h : OwnO w g base off t n xs c) (o : Obj) : OwnO (w.alloc o) g base off t n xs c := h.below ((Below.refl _ _).alloc (Nat.le_refl _) o)
theorem OwnO.grown {w w' : World} {g base off : Nat} {t : TypeId} {n : Nat} {xs : List Value} {c : Nat} (h : OwnO w g base off t n xs c) {row : Nat} (hg : w.grownBy w' (some row)) (hne : g ≠ row) : OwnO w' g base off t n xs c := by
  obtain ⟨h0, h1, h2, h3, cur, hk, r⟩ := h
  exact ⟨h0, h1, h2, h3, cur, hk.grownG hg hne, r⟩
/-- append of one element that lies in the newest block. -/
theorem wpList_appO {P : Program} {ops : Array Oper} {rest : List Oper} {o : Oper} {a : Act} {Q : Exit → Act → World → Prop} (w w0 : World) (hgd : o.guard = none) (s x : Operand) (t : TypeId)
    (ho : o.op = .call { callee := .builtin .append, args := #[s, x], argTypes := #[t, t] }) (base e bytes : Nat) (z : Value) (ht : P.underlying t = some (.slice e))
    (hinfo : (P.info? e).map (fun i => (i.zero, i.size, i.bytes)) = some (some z, 1, bytes)) (hzs : z.cells.size = 1) (g off n c : Nat) (xs : List Value) (u : Value)
    (hw : w = w0.alloc (.cells #[u] e)) (hs : a.eval s = .slice (some ⟨g, off, none⟩) n c) (hx : a.eval x = .slice (some ⟨w0.heap.size, 0, none⟩) 1 1) (hown : OwnO w0 g base off e n xs c) (h1 : u.oneCell' = true)
    (hn : (n + 1) * bytes ≤ 140737488355328) (hm : n + 1 ≤ maxLen) (hbase : base ≤ w0.heap.size)
    (h : ∀ g' off' c' w', OwnO w' g' base off' e (n + 1) (xs ++ [u]) c' → w0.grownBy w' (some g) → (g' = g ∨ w0.heap.size ≤ g') → wpList P ops Q rest (a.put o.dst (.slice (some ⟨g', off', none⟩) (n + 1) c')) w') :
    wpList P ops Q (o :: rest) a w := by
  subst hw
  obtain ⟨i0, hi, hz0, hz1, hz2⟩ := info_parts hinfo
  have hO := hown.alloc (.cells #[u] e)
  have hgl := hown.lt
  obtain ⟨hb, hnc, hcm, hl, cur, hk, hcs, hcc⟩ := hO
  refine wpList_append_arg _ hgd s x t ho e i0 z 1 bytes ht hi hz0 hz1 hz2 hzs (by omega) g off n c xs hs (by omega) (fun j v hj => hown.alloc _ |>.cell hj) ⟨w0.heap.size, 0, none⟩ 1 1 [u] hx rfl ?_ (by simpa using h1) ?_ hm hn ?_ ?_
  · intro j v hj
    have e' : (⟨w0.heap.size, 0, none⟩ : Addr).add j = ⟨w0.heap.size, j, none⟩ := by unfold Addr.add; split <;> simp_all
    rw [e', (Bk.new w0 e #[u]).cell j]
    simpa using hj
  · intro hr j hj
    have hj0 : j = 0 := by simpa using hj
    subst hj0
    refine ⟨?_, hk.free _⟩
    rw [hk.cell, Array.getElem?_eq_getElem (by omega)]
    rfl
  · intro hr
    have e1 : (w0.alloc (.cells #[u] e)).setCells g (off + n * 1) [u] = (w0.alloc (.cells #[u] e)).setCell ⟨g, off + n, none⟩ u := by rw [Nat.mul_one]; rfl
    rw [e1]
    have hgr : w0.grownBy ((w0.alloc (.cells #[u] e)).setCell ⟨g, off + n, none⟩ u) (some g) := by
      refine ⟨rfl, rfl, rfl, by simp, fun k hk2 hne => ?_⟩
      rw [Below.heap_setCell _ _ _ _ (fun e2 => hne (by rw [e2]))]
      exact Below.heap_alloc w0 _ k hk2
    refine h g off c _ ⟨hb, hr, hcm, by simp [hl], _, hk.put (off + n) u, by simpa using hcs, fun j hj => ?_⟩ hgr (.inl rfl)
    rw [Array.getElem?_setIfInBounds]
    by_cases hjn : j < n
    · rw [if_neg (by omega), hcc j hjn, List.getElem?_append_left (by omega)]
    · have : j = n := by omega
      subst this
      rw [if_pos rfl, if_pos (by omega), List.getElem?_append_right (by omega), hl, Nat.sub_self]
      rfl
  · intro hr v' w' hown' hg'
    obtain ⟨g', c', rfl, hg1, hg2⟩ := hown'.form (by omega)
    have hgr : w0.grownBy w' (some g) := (World.grownBy_alloc w0 _ (some g)).trans ⟨hg'.os, hg'.tape, hg'.output, hg'.size, fun k hk2 _ => hg'.block k hk2 (by simp)⟩
    have hsz : (w0.alloc (.cells #[u] e)).heap.size = w0.heap.size + 1 := by simp
    have hO9 : OwnO w' g' base 0 e (n + 1) (xs ++ [u]) c' := by
      obtain ⟨q0, q1, q2, q3, q4⟩ := OwnO.of_own hown'
      exact ⟨by omega, q1, q2, q3, q4⟩
    exact h g' 0 c' w' hO9 hgr (.inr (by omega))

/-- How many entries the map at a block has. -/
def mapLen (w : World) (b : Nat) : Nat := match w.heap[b]? with
  | some (.map es _) => es.size
  | _ => 0
theorem mapLen_eq {H : Type} {P : Program} {k : TypeId} {R : Value → Option (DataW H × List MemPlace)} {w : World} {b n : Nat} {D : DataW H} (h : w.ownsMap P k R b n D) : mapLen w b = Maps.size D := by
  obtain ⟨es, clock, hb, F, _, rfl⟩ := h
  unfold mapLen
  rw [hb]
  simp [Maps.size, length_sorted]

end Go.Proofs.Ytidmbeeadbedaaa
