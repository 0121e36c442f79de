/- Merged texts: a claim has a limit of files. -/
import Derived.Test.YtidmbeeadbedaaaApp3
import Derived.Test.YtidmbeeadbedaaaTurn
import Derived.Lib.SliceRun
import Derived.Test.YtidmbeeadbedaaaMg3
import Derived.Test.YtidmbeeadbedaaaMg1
import Derived.Lib.IndexMore
import Derived.Test.YtidmbeeadbedaaaRule
import Derived.Test.YtidmbeeadbedaaaMg2

/- clear of a slice whose elements have several cells; a row of the call's own cut short. No program, no condition. -/
namespace Go.Proofs.Ytidmbeeadbedaaa
open Go.RowKit Go.Shelf

theorem zero_mem {z : Array Value} {n : Nat} : ∀ u ∈ (Builtin.zeroCells z n).toList, u ∈ z.toList := fun u hu => by
  unfold Builtin.zeroCells at hu
  rw [Array.mem_toList_iff] at hu
  obtain ⟨i, hi, rfl⟩ := Array.mem_map.1 hu
  rw [Array.mem_range] at hi
  have h0 : 0 < z.size := by
    rcases Nat.eq_zero_or_pos z.size with h | h
    · rw [h] at hi; omega
    · exact h
  have hm : i % z.size < z.size := Nat.mod_lt _ h0
  rw [getElem!_pos z _ hm, Array.mem_toList_iff]
  exact Array.getElem_mem hm
theorem run_clear_wide {P : Program} (w : World) (t e ty : TypeId) (z : Value) (k : Nat) (ht : P.underlying t = some (.slice e)) (hv : ∀ w, (zeroValue e).run P w = .ok z w) (hz : z.cells.size = k) (h1 : ∀ u ∈ z.cells.toList, u.oneCell' = true) (b o n c : Nat) (hn : 0 < n)
    (hc : ∀ j, j < n * k → (w.cell? ⟨b, o + j, none⟩).isSome = true) (hf : ∀ j, j < n * k → w.frozen? ⟨b, o + j, none⟩ = false) :
    (Builtin.clear_ #[t] ty #[.slice (some ⟨b, o, none⟩) n c]).run P w = .ok (.tuple #[]) (w.setCells b o (Builtin.zeroCells z.cells n).toList) := by
  have hl : (Builtin.zeroCells z.cells n).toList.length = n * k := by rw [Array.length_toList, size_zeroCells, hz]
  have hst := run_storeCells_cells (P := P) b o (Builtin.zeroCells z.cells n).toList 0 w (by rw [hl]; simpa using hc) (by rw [hl]; simpa using hf) (fun v hv' => h1 v (zero_mem v hv'))
  simp only [Nat.add_zero] at hst
  obtain ⟨m, rfl⟩ : ∃ m, n = m + 1 := ⟨n - 1, by omega⟩
  simp [Builtin.clear_, run_underlying ht, hv, hst]
theorem own_setCells {base : Nat} {e : TypeId} {size g n cap : Nat} : ∀ (vs : List Value) (o : Nat) (w : World) (xs : List Value), w.ownsRow base e size (.slice (some ⟨g, 0, none⟩) n cap) n xs → ∃ ys, (w.setCells g o vs).ownsRow base e size (.slice (some ⟨g, 0, none⟩) n cap) n ys ∧ ys.take o = xs.take o ∧ w.grownBy (w.setCells g o vs) (some g)
  | [], o, w, xs, h => ⟨xs, h, rfl, grown_refl _ _⟩
  | v :: vs, o, w, xs, h => by
    have s := h.stored o v
    obtain ⟨ys, h1, h2, h3⟩ := own_setCells vs (o + 1) _ _ s.1
    refine ⟨ys, h1, ?_, grown_trans s.2 h3⟩
    have h4 := congrArg (List.take o) h2
    rw [List.take_take, List.take_take, Nat.min_eq_left (by omega)] at h4
    rw [h4, List.take_set_of_le (Nat.le_refl _)]
theorem own_short {w : World} {base : Nat} {e : TypeId} {size : Nat} {A : Option Addr} {n cap : Nat} {xs : List Value} (h : w.ownsRow base e size (.slice A n cap) n xs) {i : Nat} (hi : i ≤ n) : w.ownsRow base e size (.slice A i cap) i (xs.take (i * size)) := by
  have him : i * size ≤ n * size := Nat.mul_le_mul_right _ hi
  refine ⟨by rw [List.length_take, h.1]; omega, ?_⟩
  rcases h.2 with ⟨hv, h0⟩ | ⟨g, c, cur, hv, hb, hh, hc, hm, hs, hx⟩
  · subst h0
    obtain rfl : i = 0 := by omega
    injection hv with h1 h2 h3
    exact .inl ⟨by rw [h1, h3], rfl⟩
  · injection hv with h1 h2 h3
    subst h1 h3
    refine .inr ⟨g, cap, cur, rfl, hb, hh, by omega, hm, hs, ?_⟩
    rw [← hx, List.take_take, Nat.min_eq_left him]
theorem own_setCells_short {base : Nat} {e : TypeId} {size g n cap : Nat} {w : World} {xs : List Value} (h : w.ownsRow base e size (.slice (some ⟨g, 0, none⟩) n cap) n xs) {i : Nat} (hi : i ≤ n) (vs : List Value) : (w.setCells g (i * size) vs).ownsRow base e size (.slice (some ⟨g, 0, none⟩) i cap) i (xs.take (i * size)) ∧ w.grownBy (w.setCells g (i * size) vs) (some g) := by
  obtain ⟨ys, h1, h2, h3⟩ := own_setCells vs (i * size) w xs h
  rw [← h2]
  exact ⟨own_short h1 hi, h3⟩

end Go.Proofs.Ytidmbeeadbedaaa

/- Walk over PlacesOf of the reference, and its plain words. -/
namespace Go.Proofs.Ytidmbeeadbedaaa
open Go.RowKit Go.Shelf

/-- The word s has the part l at place i. -/
def oc (s l : ByteArray) (i : Nat) : Bool := (s.extract i (i + l.size)).toList == l.toList
theorem oc_occ {s l : ByteArray} {i : Nat} (h : i + l.size ≤ s.size) : oc s l i = Lib.occAt s.data.toList l.data.toList i := by
  rw [Lib.occAt_iff_take _ _ _ h, oc, ByteArray.toList_eq, ByteArray.toList_eq]
  congr 1
  simp [ByteArray.data_extract, List.extract_eq_take_drop]
def plc (s l : ByteArray) (q : Nat) : List Int := ((List.range q).filter (oc s l)).map fun i : Nat => (i : Int)
theorem plc_yes {s l : ByteArray} {q : Nat} (h : oc s l q = true) : plc s l (q + 1) = plc s l q ++ [(q : Int)] := by
  rw [plc, List.range_succ, List.filter_append, List.map_append]; simp [plc, h]
theorem plc_no {s l : ByteArray} {q : Nat} (h : oc s l q = false) : plc s l (q + 1) = plc s l q := by
  rw [plc, List.range_succ, List.filter_append, List.map_append]; simp [plc, h]
theorem plc_len (s l : ByteArray) (q : Nat) : (plc s l q).length ≤ q := by
  rw [plc, List.length_map]
  exact Nat.le_trans (List.length_filter_le _ _) (by rw [List.length_range]; exact Nat.le_refl _)
theorem isEmpty_eq (s : ByteArray) : s.toList.isEmpty = decide (s = ⟨#[]⟩) := by
  rw [← str_eq, show (⟨#[]⟩ : ByteArray).toList = [] by rw [ByteArray.toList_eq]]
  cases s.toList <;> rfl


end Go.Proofs.Ytidmbeeadbedaaa

/- Arguments opened: slices of structs of one-cell fields and structs of an int and a slice, for the rows' proofs. -/
namespace Go.Proofs.Ytidmbeeadbedaaa
open Go.ChangeShapes Go.WideShapes Go.ChangeAt Go.RowKit Go.Shelf

theorem list_of_forall {α : Type} {P : Nat → α → Prop} (n : Nat) (h : ∀ i, i < n → ∃ x, P i x) : ∃ xs : List α, xs.length = n ∧ ∀ i (hi : i < xs.length), P i xs[i] := by
  induction n with
  | zero => exact ⟨[], rfl, fun i hi => absurd hi (Nat.not_lt_zero _)⟩
  | succ n ih =>
    obtain ⟨xs, hl, hp⟩ := ih fun i hi => h i (by omega)
    obtain ⟨x, hx⟩ := h n (by omega)
    refine ⟨xs ++ [x], by simp [hl], fun i hi => ?_⟩
    by_cases e : i < xs.length
    · rw [List.getElem_append_left e]; exact hp i e
    · have : i = n := by simp at hi; omega
      subst this
      rw [List.getElem_append_right (by omega)]
      simpa [hl] using hx

section
variable {H : Type} {enc : TypeId × Value → H} {w : World}
/-- The elements' cells of a slice that came in. -/
theorem open_flat {α : Type} {f : α → List Value} {m : Nat} (hm : ∀ x, (f x).length = m) {t e : TypeId} {n c : Nat} {a : Option Addr} {d : DataW H} {p : List MemPlace} (good : α → Prop)
    (ht : Try.prog.underlying t = some (.slice e)) (hC : Try.prog.cellsOf e = m)
    (hel : ∀ (k : Nat) (cs : List Value) (x : DataW H × List MemPlace), cs.length = m → DataW.trod enc Try.prog w 0 (fun _ => true) true k e cs = some x → ∃ y, cs = f y ∧ good y)
    (h : DataW.Trod enc Try.prog w 0 (fun _ => true) true t (.slice a n c) d p) :
    ∃ xs : List α, Rd w a (xs.flatMap f) ∧ n = xs.length ∧ n ≤ maxLen ∧ ∀ x ∈ xs, good x := by
  obtain ⟨fuel, hf⟩ := h
  rcases Go.Deep.open_slice ht hf with ⟨hcs, _⟩ | ⟨x, l, cc, M, k, D, Pl, hcs, _, hl, hmx, hM, _, hi⟩
  · simp [Value.cells] at hcs
    obtain ⟨rfl, rfl, rfl⟩ := hcs
    exact ⟨[], Rd.nil _ _, rfl, by unfold maxLen; omega, by simp⟩
  · simp [Value.cells] at hcs
    obtain ⟨rfl, rfl, rfl⟩ := hcs
    have hM' : M = c := by simpa using hM
    subst hM'
    obtain ⟨xs, hlen, hp⟩ := list_of_forall (P := fun i y => good y ∧ ∀ j, j < m → w.cell? (x.add (i * m + j)) = (f y)[j]?) n fun i hin => by
      obtain ⟨cs, hc, htr⟩ := hi i (by omega)
      rw [hC] at hc
      obtain ⟨_, hcl, hat⟩ := World.cells?_some hc
      obtain ⟨y, rfl, hg⟩ := hel _ _ _ hcl htr
      exact ⟨y, hg, fun j hj => by rw [← hat j hj, Go.Deep.add_add]⟩
    refine ⟨xs, rd_of_cells fun j u hu => ?_, hlen.symm, Nat.le_trans hl hmx, fun y hy => ?_⟩
    · have hj : j < xs.length * m := by rw [← flat_len hm xs]; exact (List.getElem?_eq_some_iff.1 hu).1
      have hm0 : 0 < m := by
        rcases Nat.eq_zero_or_pos m with e0 | e0
        · rw [e0] at hj; omega
        · exact e0
      have hi' : j / m < xs.length := Nat.div_lt_of_lt_mul (by rw [Nat.mul_comm]; exact hj)
      have ej : j / m * m + j % m = j := by rw [Nat.mul_comm]; exact Nat.div_add_mod j m
      have := (hp (j / m) hi').2 (j % m) (Nat.mod_lt _ hm0)
      rw [ej] at this
      rw [this, ← flat_get hm xs (j / m) (j % m) hi' (Nat.mod_lt _ hm0), ej, hu]
    · obtain ⟨i, hi2, rfl⟩ := List.mem_iff_getElem.1 hy
      exact (hp i hi2).1
end




/-- A slice of laws.Rule that came in. -/
def OpenSlRules (w : World) (a : Option Addr) (n : Nat) (xs : List RuleT) : Prop := Rd w a (cellsRule xs) ∧ n = xs.length ∧ n ≤ maxLen ∧ ∀ x ∈ xs, (fun x : RuleT => x.1.size ≤ maxLen ∧ x.2.size ≤ maxLen) x
set_option maxRecDepth 100000 in
theorem open_ruleS {H : Type} {enc : TypeId × Value → H} {w : World} {a : Option Addr} {n c : Nat} {d : DataW H} {p : List MemPlace} (h : DataW.Trod enc Try.prog w 0 (fun _ => true) true 80 (.slice a n c) d p) : ∃ xs : List RuleT, OpenSlRules w a n xs := by
  refine open_flat (f := encRule) (m := 2) (fun _ => rfl) (fun x : RuleT => x.1.size ≤ maxLen ∧ x.2.size ≤ maxLen) Try.underlying80 (by kernel_rfl) ?_ h
  intro k cs x hl ht
  obtain ⟨ys, k', _, _, _, hlen, hf⟩ := DataW.trod_struct Try.underlying188 ht
  match cs, hl, ys, hlen with
  | [c0, c1], _, [y0, y1], _ =>
    have h0 := hf 0 _ rfl
    have k0 : Try.prog.cellsOf 9 = 1 := by kernel_rfl
    have g0 : DataW.trod enc Try.prog w 0 (fun _ => true) true k' 9 [c0] = some y0 := by simpa [k0] using h0
    obtain ⟨s0, q0, _, z0⟩ := DataW.trod_string Try.underlying9 g0
    simp at q0
    subst q0
    have h1 := hf 1 _ rfl
    have k1 : Try.prog.cellsOf 9 = 1 := by kernel_rfl
    have g1 : DataW.trod enc Try.prog w 0 (fun _ => true) true k' 9 [c1] = some y1 := by simpa [k1] using h1
    obtain ⟨s1, q1, _, z1⟩ := DataW.trod_string Try.underlying9 g1
    simp at q1
    subst q1
    exact ⟨(s0, s1), rfl, ⟨z0, z1⟩⟩


/-- A laws.System that came in. -/
def OpenSystem (w : World) (v : Value) (z : Int × Option Addr × Nat × Nat × List RuleT) : Prop :=
  v = .agg #[.int .i64 z.1, .slice z.2.1 z.2.2.1 z.2.2.2.1] ∧ Rd w z.2.1 (cellsRule z.2.2.2.2) ∧ z.2.2.1 = z.2.2.2.2.length ∧ z.2.2.1 ≤ maxLen ∧ ∀ x ∈ z.2.2.2.2, (fun x : RuleT => x.1.size ≤ maxLen ∧ x.2.size ≤ maxLen) x
set_option maxRecDepth 100000 in
theorem open_system {H : Type} {enc : TypeId × Value → H} {w : World} {r : Reach} {b0 : Nat} {v : Value} {d : DataW H} {p : List MemPlace} (hv : Value.okWide Try.prog w r b0 82 v) (h : DataW.Trod enc Try.prog w 0 (fun _ => true) true 82 v d p) : ∃ z, OpenSystem w v z := by
  obtain ⟨c0, c1, y0, y1, m, rfl, _, _, g0, g1⟩ := Go.Joins.open_agg2 Try.underlying82 (by kernel_rfl) (by kernel_rfl) hv h
  obtain ⟨l, q0, _, _⟩ := DataW.trod_int Try.underlying3 g0
  simp at q0
  subst q0
  obtain ⟨a, n, c, e1⟩ : ∃ a n c, c1 = .slice a n c := by
    rcases Go.Deep.open_slice Try.underlying80 g1 with ⟨hcs, _⟩ | ⟨x, l', cc, _, _, _, _, hcs, _⟩
    · simp at hcs; exact ⟨_, _, _, hcs⟩
    · simp at hcs; exact ⟨_, _, _, hcs⟩
  subst e1
  have h1' : DataW.Trod enc Try.prog w 0 (fun _ => true) true 80 (.slice a n c) y1.1 y1.2 := ⟨m, by simpa [Value.cells] using g1⟩
  obtain ⟨xs, k1, k2, k3, k4⟩ := open_ruleS h1'
  exact ⟨(l, a, n, c, xs), rfl, k1, k2, k3, k4⟩




end Go.Proofs.Ytidmbeeadbedaaa

/- A pair of a word and two steps: the laws' helpers toStep, toPair and szPair, and a pair that came in. -/
namespace Go.Proofs.Ytidmbeeadbedaaa
open Go.ChangeShapes Go.WideShapes Go.ChangeAt Go.RowKit Go.Shelf

abbrev PairT : Type := ByteArray × Int × Int × Int × Int





end Go.Proofs.Ytidmbeeadbedaaa
