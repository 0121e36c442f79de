/- Merged texts: a claim has a limit of files. -/
import Derived.Test.YtidmbeeadbedaaaChain
import Derived.Test.YtidmbeeadbedaaaProof
import Derived.Test.YtidmbeeadbedaaaMg13
import Derived.Test.YtidmbeeadbedaaaMg1
import Derived.Test.YtidmbeeadbedaaaTurn
import Derived.Lib.SliceRun
import Derived.Test.YtidmbeeadbedaaaMg2
import Derived.Test.YtidmbeeadbedaaaMg3
import Derived.Lib.IndexMore
import Derived.Test.YtidmbeeadbedaaaMg8
import Derived.Test.YtidmbeeadbedaaaMg5

/- Plain words for ShortenProof: cutting out the stretch between two places with the same word, in one pass and again and again. No walk, no condition. -/
namespace Go.Proofs.Ytidmbeeadbedaaa
open Go.RowKit Go.Shelf

def cutL {α : Type} (xs : List α) (i k : Nat) : List α := xs.take i ++ xs.drop k
theorem cutL_len {α : Type} {xs : List α} {i k : Nat} (h : i ≤ k) (hk : k ≤ xs.length) : (cutL xs i k).length = xs.length - (k - i) := by
  unfold cutL
  rw [List.length_append, List.length_take, List.length_drop]
  omega
theorem wAt_lt {Q : List ByteArray} {j : Nat} (h : j < Q.length) : wAt Q j = Q[j] := by
  unfold wAt
  rw [List.getD_eq_getElem?_getD, List.getElem?_eq_getElem h]
  rfl
theorem wAt_cut {ws : List ByteArray} {i k j : Nat} (h : i ≤ k) (hk : k ≤ ws.length) : wAt (cutL ws i k) j = if j < i then wAt ws j else wAt ws (j - i + k) := by
  unfold wAt cutL
  rw [List.getD_eq_getElem?_getD, List.getD_eq_getElem?_getD, List.getD_eq_getElem?_getD]
  by_cases hj : j < i
  · rw [if_pos hj, List.getElem?_append_left (by rw [List.length_take]; omega), List.getElem?_take_of_lt hj]
  · rw [if_neg hj, List.getElem?_append_right (by rw [List.length_take]; omega), List.length_take, List.getElem?_drop]
    congr 2
    rw [Nat.min_eq_left (by omega)]
    omega
/-- The last place so far that holds the i-th word. -/
def lastTo7 (ws : List ByteArray) (i : Nat) : Nat → Nat
  | 0 => i
  | q + 1 => if wAt ws q = wAt ws i then q else lastTo7 ws i q
def lastOf (ws : List ByteArray) (i : Nat) : Nat := lastTo7 ws i ws.length
theorem lastTo7_spec (ws : List ByteArray) (i : Nat) : ∀ q, i < q → i ≤ lastTo7 ws i q ∧ lastTo7 ws i q < q ∧ wAt ws (lastTo7 ws i q) = wAt ws i ∧ ∀ k, lastTo7 ws i q < k → k < q → wAt ws k ≠ wAt ws i
  | 0, h => absurd h (Nat.not_lt_zero _)
  | q + 1, h => by
    rw [lastTo7]
    by_cases he : wAt ws q = wAt ws i
    · rw [if_pos he]
      exact ⟨by omega, by omega, he, fun k h1 h2 => by omega⟩
    · rw [if_neg he]
      have hiq : i < q := by
        rcases Nat.lt_or_ge i q with h1 | h1
        · exact h1
        · have : i = q := by omega
          subst this
          exact absurd rfl he
      obtain ⟨h1, h2, h3, h4⟩ := lastTo7_spec ws i q hiq
      refine ⟨h1, by omega, h3, fun k h5 h6 => ?_⟩
      by_cases hk : k = q
      · rw [hk]; exact he
      · exact h4 k h5 (by omega)
theorem lastOf_spec {ws : List ByteArray} {i : Nat} (h : i < ws.length) : i ≤ lastOf ws i ∧ lastOf ws i < ws.length ∧ wAt ws (lastOf ws i) = wAt ws i ∧ ∀ k, lastOf ws i < k → k < ws.length → wAt ws k ≠ wAt ws i := lastTo7_spec ws i ws.length h
/-- One pass from place i on. -/
def shGo : Nat → Nat → List ByteArray → List LinkT → List LinkT
  | 0, _, _, ls => ls
  | f + 1, i, ws, ls => if i < ws.length then shGo f (i + 1) (cutL ws i (lastOf ws i)) (cutL ls i (lastOf ws i)) else ls
theorem shGo_go {f i : Nat} {ws : List ByteArray} {ls : List LinkT} (hf : 0 < f) (h : i < ws.length) : shGo f i ws ls = shGo (f - 1) (i + 1) (cutL ws i (lastOf ws i)) (cutL ls i (lastOf ws i)) := by
  obtain ⟨f, rfl⟩ : ∃ f', f = f' + 1 := ⟨f - 1, by omega⟩
  rw [shGo, if_pos h]; rfl
theorem shGo_end {f i : Nat} {ws : List ByteArray} {ls : List LinkT} (h : ws.length ≤ i) : shGo f i ws ls = ls := by
  cases f with
  | zero => rfl
  | succ f => rw [shGo, if_neg (by omega)]
/-- The word at place j stands nowhere behind it. -/
def noLater (ws : List ByteArray) (j : Nat) : Prop := ∀ k, j < k → k < ws.length → wAt ws k ≠ wAt ws j
/-- ShortenProof, in plain words. -/
def shpOk (l : Int) (rs : List RuleT) (s : ByteArray) (xs : List LinkT) : Bool := coOk l rs s xs
def shpL (l : Int) (rs : List RuleT) (s : ByteArray) (xs : List LinkT) : List LinkT := if coOk l rs s xs then shGo 300 0 (coL l rs s xs) xs else []
theorem shGo_len : ∀ (f i : Nat) (ws : List ByteArray) (ls : List LinkT), ls.length + 1 = ws.length → (shGo f i ws ls).length ≤ ls.length
  | 0, _, _, _, _ => Nat.le_refl _
  | f + 1, i, ws, ls, h => by
    rw [shGo]
    split
    · next hi =>
      obtain ⟨h1, h2, _, _⟩ := lastOf_spec hi
      have e1 := cutL_len (xs := ws) h1 (by omega)
      have e2 := cutL_len (xs := ls) h1 (by omega)
      have := shGo_len f (i + 1) (cutL ws i (lastOf ws i)) (cutL ls i (lastOf ws i)) (by rw [e1, e2]; omega)
      omega
    · exact Nat.le_refl _
theorem co_len {l : Int} {rs : List RuleT} {s : ByteArray} {xs : List LinkT} (h : coOk l rs s xs = true) : xs.length + 1 = (coL l rs s xs).length ∧ xs.length ≤ 200 := by
  unfold coOk at h
  unfold coL
  cases hc : coSt l rs s xs with
  | none => rw [hc] at h; cases h
  | some p =>
    unfold coSt at hc
    split at hc
    · next h2 =>
      unfold chRun at hc
      have := (chStep_inv xs (some ([s], s)) 0 (fun p hp => by injection hp with hp; subst hp; exact ⟨rfl, rfl⟩) p hc).1
      exact ⟨by dsimp only; omega, h2⟩
    · cases hc
/-- The cells of what is cut. -/
theorem strs_cut (ws : List ByteArray) (i k : Nat) : strs (cutL ws i k) = (strs ws).take (i * 1) ++ (strs ws).drop (k * 1) := by
  unfold cutL strs
  rw [List.map_append, List.map_take, List.map_drop, Nat.mul_one, Nat.mul_one]
theorem cellsLink_take (xs : List LinkT) (i : Nat) : cellsLink (xs.take i) = (cellsLink xs).take (i * 3) := by
  by_cases h : i ≤ xs.length
  · have e := cellsLink_app (xs.take i) (xs.drop i)
    rw [List.take_append_drop] at e
    rw [e, List.take_left' (by rw [cellsLink_len, List.length_take]; congr 1; omega)]
  · rw [List.take_of_length_le (by omega), List.take_of_length_le (by rw [cellsLink_len]; omega)]
theorem cellsLink_drop (xs : List LinkT) (i : Nat) : cellsLink (xs.drop i) = (cellsLink xs).drop (i * 3) := by
  by_cases h : i ≤ xs.length
  · have e := cellsLink_app (xs.take i) (xs.drop i)
    rw [List.take_append_drop] at e
    rw [e, List.drop_left' (by rw [cellsLink_len, List.length_take]; congr 1; omega)]
  · rw [List.drop_eq_nil_of_le (by omega), List.drop_eq_nil_of_le (by rw [cellsLink_len]; omega)]; rfl
theorem links_cut (ls : List LinkT) (i k : Nat) : cellsLink (cutL ls i k) = (cellsLink ls).take (i * 3) ++ (cellsLink ls).drop (k * 3) := by
  unfold cutL
  rw [cellsLink_app, cellsLink_take, cellsLink_drop]

end Go.Proofs.Ytidmbeeadbedaaa

/- clear of a slice whose elements have several cells; a row of the call's own cut short. No program, no condition. -/
namespace Go.Proofs.Ytidmbeeadbedaaa
open Go.RowKit Go.Shelf

theorem zero_mem {z : Array Value} {n : Nat} : ∀ u ∈ (Builtin.zeroCells z n).toList, u ∈ z.toList := fun u hu => by
  unfold Builtin.zeroCells at hu
  rw [Array.mem_toList_iff] at hu
  obtain ⟨i, hi, rfl⟩ := Array.mem_map.1 hu
  rw [Array.mem_range] at hi
  have h0 : 0 < z.size := by
    rcases Nat.eq_zero_or_pos z.size with h | h
    · rw [h] at hi; omega
    · exact h
  have hm : i % z.size < z.size := Nat.mod_lt _ h0
  rw [getElem!_pos z _ hm, Array.mem_toList_iff]
  exact Array.getElem_mem hm
theorem run_clear_wide {P : Program} (w : World) (t e ty : TypeId) (z : Value) (k : Nat) (ht : P.underlying t = some (.slice e)) (hv : ∀ w, (zeroValue e).run P w = .ok z w) (hz : z.cells.size = k) (h1 : ∀ u ∈ z.cells.toList, u.oneCell' = true) (b o n c : Nat) (hn : 0 < n)
    (hc : ∀ j, j < n * k → (w.cell? ⟨b, o + j, none⟩).isSome = true) (hf : ∀ j, j < n * k → w.frozen? ⟨b, o + j, none⟩ = false) :
    (Builtin.clear_ #[t] ty #[.slice (some ⟨b, o, none⟩) n c]).run P w = .ok (.tuple #[]) (w.setCells b o (Builtin.zeroCells z.cells n).toList) := by
  have hl : (Builtin.zeroCells z.cells n).toList.length = n * k := by rw [Array.length_toList, size_zeroCells, hz]
  have hst := run_storeCells_cells (P := P) b o (Builtin.zeroCells z.cells n).toList 0 w (by rw [hl]; simpa using hc) (by rw [hl]; simpa using hf) (fun v hv' => h1 v (zero_mem v hv'))
  simp only [Nat.add_zero] at hst
  obtain ⟨m, rfl⟩ : ∃ m, n = m + 1 := ⟨n - 1, by omega⟩
  simp [Builtin.clear_, run_underlying ht, hv, hst]
theorem own_setCells {base : Nat} {e : TypeId} {size g n cap : Nat} : ∀ (vs : List Value) (o : Nat) (w : World) (xs : List Value), w.ownsRow base e size (.slice (some ⟨g, 0, none⟩) n cap) n xs → ∃ ys, (w.setCells g o vs).ownsRow base e size (.slice (some ⟨g, 0, none⟩) n cap) n ys ∧ ys.take o = xs.take o ∧ w.grownBy (w.setCells g o vs) (some g)
  | [], o, w, xs, h => ⟨xs, h, rfl, grown_refl _ _⟩
  | v :: vs, o, w, xs, h => by
    have s := h.stored o v
    obtain ⟨ys, h1, h2, h3⟩ := own_setCells vs (o + 1) _ _ s.1
    refine ⟨ys, h1, ?_, grown_trans s.2 h3⟩
    have h4 := congrArg (List.take o) h2
    rw [List.take_take, List.take_take, Nat.min_eq_left (by omega)] at h4
    rw [h4, List.take_set_of_le (Nat.le_refl _)]
theorem own_short {w : World} {base : Nat} {e : TypeId} {size : Nat} {A : Option Addr} {n cap : Nat} {xs : List Value} (h : w.ownsRow base e size (.slice A n cap) n xs) {i : Nat} (hi : i ≤ n) : w.ownsRow base e size (.slice A i cap) i (xs.take (i * size)) := by
  have him : i * size ≤ n * size := Nat.mul_le_mul_right _ hi
  refine ⟨by rw [List.length_take, h.1]; omega, ?_⟩
  rcases h.2 with ⟨hv, h0⟩ | ⟨g, c, cur, hv, hb, hh, hc, hm, hs, hx⟩
  · subst h0
    obtain rfl : i = 0 := by omega
    injection hv with h1 h2 h3
    exact .inl ⟨by rw [h1, h3], rfl⟩
  · injection hv with h1 h2 h3
    subst h1 h3
    refine .inr ⟨g, cap, cur, rfl, hb, hh, by omega, hm, hs, ?_⟩
    rw [← hx, List.take_take, Nat.min_eq_left him]
theorem own_setCells_short {base : Nat} {e : TypeId} {size g n cap : Nat} {w : World} {xs : List Value} (h : w.ownsRow base e size (.slice (some ⟨g, 0, none⟩) n cap) n xs) {i : Nat} (hi : i ≤ n) (vs : List Value) : (w.setCells g (i * size) vs).ownsRow base e size (.slice (some ⟨g, 0, none⟩) i cap) i (xs.take (i * size)) ∧ w.grownBy (w.setCells g (i * size) vs) (some g) := by
  obtain ⟨ys, h1, h2, h3⟩ := own_setCells vs (i * size) w xs h
  rw [← h2]
  exact ⟨own_short h1 hi, h3⟩

end Go.Proofs.Ytidmbeeadbedaaa

/- Walk over PlacesOf of the reference, and its plain words. -/
namespace Go.Proofs.Ytidmbeeadbedaaa
open Go.RowKit Go.Shelf

/-- The word s has the part l at place i. -/
def oc (s l : ByteArray) (i : Nat) : Bool := (s.extract i (i + l.size)).toList == l.toList
def plc (s l : ByteArray) (q : Nat) : List Int := ((List.range q).filter (oc s l)).map fun i : Nat => (i : Int)
theorem plc_len (s l : ByteArray) (q : Nat) : (plc s l q).length ≤ q := by
  rw [plc, List.length_map]
  exact Nat.le_trans (List.length_filter_le _ _) (by rw [List.length_range]; exact Nat.le_refl _)
theorem isEmpty_eq (s : ByteArray) : s.toList.isEmpty = decide (s = ⟨#[]⟩) := by
  rw [← str_eq, show (⟨#[]⟩ : ByteArray).toList = [] by rw [ByteArray.toList_eq]]
  cases s.toList <;> rfl


end Go.Proofs.Ytidmbeeadbedaaa

/- A pair of a word and two steps: the laws' helpers toStep, toPair and szPair, and a pair that came in. -/
namespace Go.Proofs.Ytidmbeeadbedaaa
open Go.ChangeShapes Go.WideShapes Go.ChangeAt Go.RowKit Go.Shelf

abbrev PairT : Type := ByteArray × Int × Int × Int × Int





end Go.Proofs.Ytidmbeeadbedaaa
