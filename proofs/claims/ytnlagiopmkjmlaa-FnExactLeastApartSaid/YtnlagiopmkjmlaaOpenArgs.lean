/- Arguments opened: slices of structs of one-cell fields and structs of an int and a slice, for the rows' proofs. -/
import Derived.Test.YtnlagiopmkjmlaaOpen
import Derived.Test.YtnlagiopmkjmlaaMark
import Derived.Test.YtnlagiopmkjmlaaLink
import Derived.Test.YtnlagiopmkjmlaaRule
import Derived.Test.YtnlagiopmkjmlaaApp
namespace Go.Proofs.Ytnlagiopmkjmlaa
open Go.ChangeShapes Go.WideShapes Go.ChangeAt Go.RowKit Go.Shelf

theorem list_of_forall {α : Type} {P : Nat → α → Prop} (n : Nat) (h : ∀ i, i < n → ∃ x, P i x) : ∃ xs : List α, xs.length = n ∧ ∀ i (hi : i < xs.length), P i xs[i] := by
  induction n with
  | zero => exact ⟨[], rfl, fun i hi => absurd hi (Nat.not_lt_zero _)⟩
  | succ n ih =>
    obtain ⟨xs, hl, hp⟩ := ih fun i hi => h i (by omega)
    obtain ⟨x, hx⟩ := h n (by omega)
    refine ⟨xs ++ [x], by simp [hl], fun i hi => ?_⟩
    by_cases e : i < xs.length
    · rw [List.getElem_append_left e]; exact hp i e
    · have : i = n := by simp at hi; omega
      subst this
      rw [List.getElem_append_right (by omega)]
      simpa [hl] using hx

section
variable {H : Type} {enc : TypeId × Value → H} {w : World}
/-- The elements' cells of a slice that came in. -/
theorem open_flat {α : Type} {f : α → List Value} {m : Nat} (hm : ∀ x, (f x).length = m) {t e : TypeId} {n c : Nat} {a : Option Addr} {d : DataW H} {p : List MemPlace} (good : α → Prop)
    (ht : Try.prog.underlying t = some (.slice e)) (hC : Try.prog.cellsOf e = m)
    (hel : ∀ (k : Nat) (cs : List Value) (x : DataW H × List MemPlace), cs.length = m → DataW.trod enc Try.prog w 0 (fun _ => true) true k e cs = some x → ∃ y, cs = f y ∧ good y)
    (h : DataW.Trod enc Try.prog w 0 (fun _ => true) true t (.slice a n c) d p) :
    ∃ xs : List α, Rd w a (xs.flatMap f) ∧ n = xs.length ∧ n ≤ maxLen ∧ ∀ x ∈ xs, good x := by
  obtain ⟨fuel, hf⟩ := h
  rcases Go.Deep.open_slice ht hf with ⟨hcs, _⟩ | ⟨x, l, cc, M, k, D, Pl, hcs, _, hl, hmx, hM, _, hi⟩
  · simp [Value.cells] at hcs
    obtain ⟨rfl, rfl, rfl⟩ := hcs
    exact ⟨[], Rd.nil _ _, rfl, by unfold maxLen; omega, by simp⟩
  · simp [Value.cells] at hcs
    obtain ⟨rfl, rfl, rfl⟩ := hcs
    have hM' : M = c := by simpa using hM
    subst hM'
    obtain ⟨xs, hlen, hp⟩ := list_of_forall (P := fun i y => good y ∧ ∀ j, j < m → w.cell? (x.add (i * m + j)) = (f y)[j]?) n fun i hin => by
      obtain ⟨cs, hc, htr⟩ := hi i (by omega)
      rw [hC] at hc
      obtain ⟨_, hcl, hat⟩ := World.cells?_some hc
      obtain ⟨y, rfl, hg⟩ := hel _ _ _ hcl htr
      exact ⟨y, hg, fun j hj => by rw [← hat j hj, Go.Deep.add_add]⟩
    refine ⟨xs, rd_of_cells fun j u hu => ?_, hlen.symm, Nat.le_trans hl hmx, fun y hy => ?_⟩
    · have hj : j < xs.length * m := by rw [← flat_len hm xs]; exact (List.getElem?_eq_some_iff.1 hu).1
      have hm0 : 0 < m := by
        rcases Nat.eq_zero_or_pos m with e0 | e0
        · rw [e0] at hj; omega
        · exact e0
      have hi' : j / m < xs.length := Nat.div_lt_of_lt_mul (by rw [Nat.mul_comm]; exact hj)
      have ej : j / m * m + j % m = j := by rw [Nat.mul_comm]; exact Nat.div_add_mod j m
      have := (hp (j / m) hi').2 (j % m) (Nat.mod_lt _ hm0)
      rw [ej] at this
      rw [this, ← flat_get hm xs (j / m) (j % m) hi' (Nat.mod_lt _ hm0), ej, hu]
    · obtain ⟨i, hi2, rfl⟩ := List.mem_iff_getElem.1 hy
      exact (hp i hi2).1
end


/-- A slice of laws.Link that came in. -/
def OpenSlLinks (w : World) (a : Option Addr) (n : Nat) (xs : List LinkT) : Prop := Rd w a (cellsLink xs) ∧ n = xs.length ∧ n ≤ maxLen ∧ ∀ x ∈ xs, (fun _ : LinkT => True) x
set_option maxRecDepth 100000 in
theorem open_linkS {H : Type} {enc : TypeId × Value → H} {w : World} {a : Option Addr} {n c : Nat} {d : DataW H} {p : List MemPlace} (h : DataW.Trod enc Try.prog w 0 (fun _ => true) true 43 (.slice a n c) d p) : ∃ xs : List LinkT, OpenSlLinks w a n xs := by
  refine open_flat (f := encLink) (m := 3) (fun _ => rfl) (fun _ : LinkT => True) Try.underlying43 (by kernel_rfl) ?_ h
  intro k cs x hl ht
  obtain ⟨ys, k', _, _, _, hlen, hf⟩ := DataW.trod_struct Try.underlying98 ht
  match cs, hl, ys, hlen with
  | [c0, c1, c2], _, [y0, y1, y2], _ =>
    have h0 := hf 0 _ rfl
    have k0 : Try.prog.cellsOf 3 = 1 := by kernel_rfl
    have g0 : DataW.trod enc Try.prog w 0 (fun _ => true) true k' 3 [c0] = some y0 := by simpa [k0] using h0
    obtain ⟨s0, q0, _, _⟩ := DataW.trod_int Try.underlying3 g0
    simp at q0
    subst q0
    have h1 := hf 1 _ rfl
    have k1 : Try.prog.cellsOf 3 = 1 := by kernel_rfl
    have g1 : DataW.trod enc Try.prog w 0 (fun _ => true) true k' 3 [c1] = some y1 := by simpa [k1] using h1
    obtain ⟨s1, q1, _, _⟩ := DataW.trod_int Try.underlying3 g1
    simp at q1
    subst q1
    have h2 := hf 2 _ rfl
    have k2 : Try.prog.cellsOf 4 = 1 := by kernel_rfl
    have g2 : DataW.trod enc Try.prog w 0 (fun _ => true) true k' 4 [c2] = some y2 := by simpa [k2] using h2
    obtain ⟨s2, q2, _⟩ := DataW.trod_bool Try.underlying4 g2
    simp at q2
    subst q2
    exact ⟨(s0, s1, s2), rfl, trivial⟩


/-- A slice of laws.Rule that came in. -/
def OpenSlRules (w : World) (a : Option Addr) (n : Nat) (xs : List RuleT) : Prop := Rd w a (cellsRule xs) ∧ n = xs.length ∧ n ≤ maxLen ∧ ∀ x ∈ xs, (fun x : RuleT => x.1.size ≤ maxLen ∧ x.2.size ≤ maxLen) x
set_option maxRecDepth 100000 in
theorem open_ruleS {H : Type} {enc : TypeId × Value → H} {w : World} {a : Option Addr} {n c : Nat} {d : DataW H} {p : List MemPlace} (h : DataW.Trod enc Try.prog w 0 (fun _ => true) true 22 (.slice a n c) d p) : ∃ xs : List RuleT, OpenSlRules w a n xs := by
  refine open_flat (f := encRule) (m := 2) (fun _ => rfl) (fun x : RuleT => x.1.size ≤ maxLen ∧ x.2.size ≤ maxLen) Try.underlying22 (by kernel_rfl) ?_ h
  intro k cs x hl ht
  obtain ⟨ys, k', _, _, _, hlen, hf⟩ := DataW.trod_struct Try.underlying131 ht
  match cs, hl, ys, hlen with
  | [c0, c1], _, [y0, y1], _ =>
    have h0 := hf 0 _ rfl
    have k0 : Try.prog.cellsOf 9 = 1 := by kernel_rfl
    have g0 : DataW.trod enc Try.prog w 0 (fun _ => true) true k' 9 [c0] = some y0 := by simpa [k0] using h0
    obtain ⟨s0, q0, _, z0⟩ := DataW.trod_string Try.underlying9 g0
    simp at q0
    subst q0
    have h1 := hf 1 _ rfl
    have k1 : Try.prog.cellsOf 9 = 1 := by kernel_rfl
    have g1 : DataW.trod enc Try.prog w 0 (fun _ => true) true k' 9 [c1] = some y1 := by simpa [k1] using h1
    obtain ⟨s1, q1, _, z1⟩ := DataW.trod_string Try.underlying9 g1
    simp at q1
    subst q1
    exact ⟨(s0, s1), rfl, ⟨z0, z1⟩⟩


/-- A laws.System that came in. -/
def OpenSystem (w : World) (v : Value) (z : Int × Option Addr × Nat × Nat × List RuleT) : Prop :=
  v = .agg #[.int .i64 z.1, .slice z.2.1 z.2.2.1 z.2.2.2.1] ∧ Rd w z.2.1 (cellsRule z.2.2.2.2) ∧ z.2.2.1 = z.2.2.2.2.length ∧ z.2.2.1 ≤ maxLen ∧ ∀ x ∈ z.2.2.2.2, (fun x : RuleT => x.1.size ≤ maxLen ∧ x.2.size ≤ maxLen) x
set_option maxRecDepth 100000 in
theorem open_system {H : Type} {enc : TypeId × Value → H} {w : World} {r : Reach} {b0 : Nat} {v : Value} {d : DataW H} {p : List MemPlace} (hv : Value.okWide Try.prog w r b0 24 v) (h : DataW.Trod enc Try.prog w 0 (fun _ => true) true 24 v d p) : ∃ z, OpenSystem w v z := by
  obtain ⟨c0, c1, y0, y1, m, rfl, _, _, g0, g1⟩ := Go.Joins.open_agg2 Try.underlying24 (by kernel_rfl) (by kernel_rfl) hv h
  obtain ⟨l, q0, _, _⟩ := DataW.trod_int Try.underlying3 g0
  simp at q0
  subst q0
  obtain ⟨a, n, c, e1⟩ : ∃ a n c, c1 = .slice a n c := by
    rcases Go.Deep.open_slice Try.underlying22 g1 with ⟨hcs, _⟩ | ⟨x, l', cc, _, _, _, _, hcs, _⟩
    · simp at hcs; exact ⟨_, _, _, hcs⟩
    · simp at hcs; exact ⟨_, _, _, hcs⟩
  subst e1
  have h1' : DataW.Trod enc Try.prog w 0 (fun _ => true) true 22 (.slice a n c) y1.1 y1.2 := ⟨m, by simpa [Value.cells] using g1⟩
  obtain ⟨xs, k1, k2, k3, k4⟩ := open_ruleS h1'
  exact ⟨(l, a, n, c, xs), rfl, k1, k2, k3, k4⟩



/-- A laws.Link that came in. -/
def OpenLink (v : Value) (z : LinkT) : Prop := v = .agg #[.int .i64 z.1, .int .i64 z.2.1, .bool z.2.2]
set_option maxRecDepth 100000 in
theorem open_link {H : Type} {enc : TypeId × Value → H} {w : World} {r : Reach} {b0 : Nat} {v : Value} {d : DataW H} {p : List MemPlace} (hv : Value.okWide Try.prog w r b0 98 v) (h : DataW.Trod enc Try.prog w 0 (fun _ => true) true 98 v d p) : ∃ z, OpenLink v z := by
  obtain ⟨c0, c1, c2, y0, y1, y2, m, rfl, _, _, g0, g1, g2⟩ := Go.Joins.open_agg3 Try.underlying98 (by kernel_rfl) (by kernel_rfl) hv h
  obtain ⟨l0, q0, _, _⟩ := DataW.trod_int Try.underlying3 g0
  obtain ⟨l1, q1, _, _⟩ := DataW.trod_int Try.underlying3 g1
  obtain ⟨l2, q2, _⟩ := DataW.trod_bool Try.underlying4 g2
  simp at q0 q1 q2
  subst q0 q1 q2
  exact ⟨(l0, l1, l2), rfl⟩

end Go.Proofs.Ytnlagiopmkjmlaa
