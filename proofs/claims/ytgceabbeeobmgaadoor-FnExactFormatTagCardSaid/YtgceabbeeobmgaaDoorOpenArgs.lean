/- Arguments opened: slices of structs of one-cell fields and structs of an int and a slice, for the rows' proofs. -/
import Derived.Test.YtgceabbeeobmgaaDoorOpen
import Derived.Test.YtgceabbeeobmgaaDoorMark
import Derived.Test.YtgceabbeeobmgaaDoorStr
import Derived.Test.YtgceabbeeobmgaaDoorApp
namespace Go.Proofs.YtgceabbeeobmgaaDoor
open Go.ChangeShapes Go.WideShapes Go.ChangeAt Go.RowKit Go.Shelf

theorem list_of_forall {α : Type} {P : Nat → α → Prop} (n : Nat) (h : ∀ i, i < n → ∃ x, P i x) : ∃ xs : List α, xs.length = n ∧ ∀ i (hi : i < xs.length), P i xs[i] := by
  induction n with
  | zero => exact ⟨[], rfl, fun i hi => absurd hi (Nat.not_lt_zero _)⟩
  | succ n ih =>
    obtain ⟨xs, hl, hp⟩ := ih fun i hi => h i (by omega)
    obtain ⟨x, hx⟩ := h n (by omega)
    refine ⟨xs ++ [x], by simp [hl], fun i hi => ?_⟩
    by_cases e : i < xs.length
    · rw [List.getElem_append_left e]; exact hp i e
    · have : i = n := by simp at hi; omega
      subst this
      rw [List.getElem_append_right (by omega)]
      simpa [hl] using hx

section
variable {H : Type} {enc : TypeId × Value → H} {w : World}
/-- The elements' cells of a slice that came in. -/
theorem open_flat {α : Type} {f : α → List Value} {m : Nat} (hm : ∀ x, (f x).length = m) {t e : TypeId} {n c : Nat} {a : Option Addr} {d : DataW H} {p : List MemPlace} (good : α → Prop)
    (ht : Tryd.prog.underlying t = some (.slice e)) (hC : Tryd.prog.cellsOf e = m)
    (hel : ∀ (k : Nat) (cs : List Value) (x : DataW H × List MemPlace), cs.length = m → DataW.trod enc Tryd.prog w 0 (fun _ => true) true k e cs = some x → ∃ y, cs = f y ∧ good y)
    (h : DataW.Trod enc Tryd.prog w 0 (fun _ => true) true t (.slice a n c) d p) :
    ∃ xs : List α, Rd w a (xs.flatMap f) ∧ n = xs.length ∧ n ≤ maxLen ∧ ∀ x ∈ xs, good x := by
  obtain ⟨fuel, hf⟩ := h
  rcases Go.Deep.open_slice ht hf with ⟨hcs, _⟩ | ⟨x, l, cc, M, k, D, Pl, hcs, _, hl, hmx, hM, _, hi⟩
  · simp [Value.cells] at hcs
    obtain ⟨rfl, rfl, rfl⟩ := hcs
    exact ⟨[], Rd.nil _ _, rfl, by unfold maxLen; omega, by simp⟩
  · simp [Value.cells] at hcs
    obtain ⟨rfl, rfl, rfl⟩ := hcs
    have hM' : M = c := by simpa using hM
    subst hM'
    obtain ⟨xs, hlen, hp⟩ := list_of_forall (P := fun i y => good y ∧ ∀ j, j < m → w.cell? (x.add (i * m + j)) = (f y)[j]?) n fun i hin => by
      obtain ⟨cs, hc, htr⟩ := hi i (by omega)
      rw [hC] at hc
      obtain ⟨_, hcl, hat⟩ := World.cells?_some hc
      obtain ⟨y, rfl, hg⟩ := hel _ _ _ hcl htr
      exact ⟨y, hg, fun j hj => by rw [← hat j hj, Go.Deep.add_add]⟩
    refine ⟨xs, rd_of_cells fun j u hu => ?_, hlen.symm, Nat.le_trans hl hmx, fun y hy => ?_⟩
    · have hj : j < xs.length * m := by rw [← flat_len hm xs]; exact (List.getElem?_eq_some_iff.1 hu).1
      have hm0 : 0 < m := by
        rcases Nat.eq_zero_or_pos m with e0 | e0
        · rw [e0] at hj; omega
        · exact e0
      have hi' : j / m < xs.length := Nat.div_lt_of_lt_mul (by rw [Nat.mul_comm]; exact hj)
      have ej : j / m * m + j % m = j := by rw [Nat.mul_comm]; exact Nat.div_add_mod j m
      have := (hp (j / m) hi').2 (j % m) (Nat.mod_lt _ hm0)
      rw [ej] at this
      rw [this, ← flat_get hm xs (j / m) (j % m) hi' (Nat.mod_lt _ hm0), ej, hu]
    · obtain ⟨i, hi2, rfl⟩ := List.mem_iff_getElem.1 hy
      exact (hp i hi2).1
end





set_option maxRecDepth 100000 in
theorem open_strS {H : Type} {enc : TypeId × Value → H} {w : World} {a : Option Addr} {n c : Nat} {d : DataW H} {p : List MemPlace} (h : DataW.Trod enc Tryd.prog w 0 (fun _ => true) true 29 (.slice a n c) d p) : ∃ xs : List ByteArray, OpenSlStrs w a n xs := by
  have := open_flat (f := fun s : ByteArray => [Value.string s]) (m := 1) (fun _ => rfl) (fun s => s.size ≤ maxLen) Tryd.underlying29 (by kernel_rfl) (fun k cs x hl ht => by
    obtain ⟨s, q, _, z⟩ := DataW.trod_string Tryd.underlying9 ht
    exact ⟨s, q, z⟩) h
  obtain ⟨xs, h1, h2, h3, h4⟩ := this
  refine ⟨xs, ?_, h2, h3, h4⟩
  have e : xs.flatMap (fun s : ByteArray => [Value.string s]) = strs xs := by
    clear h1 h2 h3 h4
    induction xs with
    | nil => rfl
    | cons x t ih => rw [List.flatMap_cons, ih]; rfl
  rw [← e]
  exact h1



/-- A laws.Tag that came in. -/
def OpenTag (w : World) (v : Value) (z : Int × Option Addr × Nat × Nat × List ByteArray) : Prop :=
  v = .agg #[.int .i64 z.1, .slice z.2.1 z.2.2.1 z.2.2.2.1] ∧ Rd w z.2.1 (strs z.2.2.2.2) ∧ z.2.2.1 = z.2.2.2.2.length ∧ z.2.2.1 ≤ maxLen ∧ ∀ x ∈ z.2.2.2.2, (fun s : ByteArray => s.size ≤ maxLen) x
set_option maxRecDepth 100000 in
theorem open_tag {H : Type} {enc : TypeId × Value → H} {w : World} {r : Reach} {b0 : Nat} {v : Value} {d : DataW H} {p : List MemPlace} (hv : Value.okWide Tryd.prog w r b0 39 v) (h : DataW.Trod enc Tryd.prog w 0 (fun _ => true) true 39 v d p) : ∃ z, OpenTag w v z := by
  obtain ⟨c0, c1, y0, y1, m, rfl, _, _, g0, g1⟩ := Go.Joins.open_agg2 Tryd.underlying39 (by kernel_rfl) (by kernel_rfl) hv h
  obtain ⟨l, q0, _, _⟩ := DataW.trod_int Tryd.underlying3 g0
  simp at q0
  subst q0
  obtain ⟨a, n, c, e1⟩ : ∃ a n c, c1 = .slice a n c := by
    rcases Go.Deep.open_slice Tryd.underlying29 g1 with ⟨hcs, _⟩ | ⟨x, l', cc, _, _, _, _, hcs, _⟩
    · simp at hcs; exact ⟨_, _, _, hcs⟩
    · simp at hcs; exact ⟨_, _, _, hcs⟩
  subst e1
  have h1' : DataW.Trod enc Tryd.prog w 0 (fun _ => true) true 29 (.slice a n c) y1.1 y1.2 := ⟨m, by simpa [Value.cells] using g1⟩
  obtain ⟨xs, k1, k2, k3, k4⟩ := open_strS h1'
  exact ⟨(l, a, n, c, xs), rfl, k1, k2, k3, k4⟩


end Go.Proofs.YtgceabbeeobmgaaDoor
