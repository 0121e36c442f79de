/- Plain words for ShortenProof: cutting out the stretch between two places with the same word, in one pass and again and again. No walk, no condition. -/
import Derived.Test.YtidmbeeadbedaaaChain
import Derived.Test.YtidmbeeadbedaaaProof
import Derived.Test.YtidmbeeadbedaaaCrP
namespace Go.Proofs.Ytidmbeeadbedaaa
open Go.RowKit Go.Shelf

def cutL {α : Type} (xs : List α) (i k : Nat) : List α := xs.take i ++ xs.drop k
theorem cutL_len {α : Type} {xs : List α} {i k : Nat} (h : i ≤ k) (hk : k ≤ xs.length) : (cutL xs i k).length = xs.length - (k - i) := by
  unfold cutL
  rw [List.length_append, List.length_take, List.length_drop]
  omega
theorem cutL_same {α : Type} (xs : List α) (i : Nat) : cutL xs i i = xs := List.take_append_drop i xs
theorem wAt_lt {Q : List ByteArray} {j : Nat} (h : j < Q.length) : wAt Q j = Q[j] := by
  unfold wAt
  rw [List.getD_eq_getElem?_getD, List.getElem?_eq_getElem h]
  rfl
theorem wAt_cut {ws : List ByteArray} {i k j : Nat} (h : i ≤ k) (hk : k ≤ ws.length) : wAt (cutL ws i k) j = if j < i then wAt ws j else wAt ws (j - i + k) := by
  unfold wAt cutL
  rw [List.getD_eq_getElem?_getD, List.getD_eq_getElem?_getD, List.getD_eq_getElem?_getD]
  by_cases hj : j < i
  · rw [if_pos hj, List.getElem?_append_left (by rw [List.length_take]; omega), List.getElem?_take_of_lt hj]
  · rw [if_neg hj, List.getElem?_append_right (by rw [List.length_take]; omega), List.length_take, List.getElem?_drop]
    congr 2
    rw [Nat.min_eq_left (by omega)]
    omega
/-- The last place so far that holds the i-th word. -/
def lastTo7 (ws : List ByteArray) (i : Nat) : Nat → Nat
  | 0 => i
  | q + 1 => if wAt ws q = wAt ws i then q else lastTo7 ws i q
def lastOf (ws : List ByteArray) (i : Nat) : Nat := lastTo7 ws i ws.length
theorem lastTo7_le (ws : List ByteArray) (i : Nat) : ∀ q, lastTo7 ws i q ≤ max i q
  | 0 => Nat.le_max_left _ _
  | q + 1 => by
    rw [lastTo7]
    split
    · omega
    · have := lastTo7_le ws i q; omega
theorem lastTo7_spec (ws : List ByteArray) (i : Nat) : ∀ q, i < q → i ≤ lastTo7 ws i q ∧ lastTo7 ws i q < q ∧ wAt ws (lastTo7 ws i q) = wAt ws i ∧ ∀ k, lastTo7 ws i q < k → k < q → wAt ws k ≠ wAt ws i
  | 0, h => absurd h (Nat.not_lt_zero _)
  | q + 1, h => by
    rw [lastTo7]
    by_cases he : wAt ws q = wAt ws i
    · rw [if_pos he]
      exact ⟨by omega, by omega, he, fun k h1 h2 => by omega⟩
    · rw [if_neg he]
      have hiq : i < q := by
        rcases Nat.lt_or_ge i q with h1 | h1
        · exact h1
        · have : i = q := by omega
          subst this
          exact absurd rfl he
      obtain ⟨h1, h2, h3, h4⟩ := lastTo7_spec ws i q hiq
      refine ⟨h1, by omega, h3, fun k h5 h6 => ?_⟩
      by_cases hk : k = q
      · rw [hk]; exact he
      · exact h4 k h5 (by omega)
theorem lastOf_spec {ws : List ByteArray} {i : Nat} (h : i < ws.length) : i ≤ lastOf ws i ∧ lastOf ws i < ws.length ∧ wAt ws (lastOf ws i) = wAt ws i ∧ ∀ k, lastOf ws i < k → k < ws.length → wAt ws k ≠ wAt ws i := lastTo7_spec ws i ws.length h
theorem lastOf_eq {ws : List ByteArray} {i k : Nat} (hi : i ≤ k) (hk : k < ws.length) (he : wAt ws k = wAt ws i) (hn : ∀ k', k < k' → k' < ws.length → wAt ws k' ≠ wAt ws i) : lastOf ws i = k := by
  obtain ⟨h1, h2, h3, h4⟩ := lastOf_spec (ws := ws) (i := i) (by omega)
  rcases Nat.lt_trichotomy (lastOf ws i) k with h | h | h
  · exact absurd he (h4 k h hk)
  · exact h
  · exact absurd h3 (hn _ h h2)
/-- One pass from place i on. -/
def shGo : Nat → Nat → List ByteArray → List LinkT → List LinkT
  | 0, _, _, ls => ls
  | f + 1, i, ws, ls => if i < ws.length then shGo f (i + 1) (cutL ws i (lastOf ws i)) (cutL ls i (lastOf ws i)) else ls
theorem shGo_go {f i : Nat} {ws : List ByteArray} {ls : List LinkT} (hf : 0 < f) (h : i < ws.length) : shGo f i ws ls = shGo (f - 1) (i + 1) (cutL ws i (lastOf ws i)) (cutL ls i (lastOf ws i)) := by
  obtain ⟨f, rfl⟩ : ∃ f', f = f' + 1 := ⟨f - 1, by omega⟩
  rw [shGo, if_pos h]; rfl
theorem shGo_end {f i : Nat} {ws : List ByteArray} {ls : List LinkT} (h : ws.length ≤ i) : shGo f i ws ls = ls := by
  cases f with
  | zero => rfl
  | succ f => rw [shGo, if_neg (by omega)]
/-- The word at place j stands nowhere behind it. -/
def noLater (ws : List ByteArray) (j : Nat) : Prop := ∀ k, j < k → k < ws.length → wAt ws k ≠ wAt ws j
theorem noLater_last {ws : List ByteArray} {j : Nat} (hj : j < ws.length) (h : noLater ws j) : lastOf ws j = j := lastOf_eq (Nat.le_refl _) hj rfl h
theorem shGo_skip {ws : List ByteArray} {ls : List LinkT} : ∀ (d f i : Nat), (∀ j, i ≤ j → j < i + d → j < ws.length ∧ noLater ws j) → d ≤ f → shGo f i ws ls = shGo (f - d) (i + d) ws ls
  | 0, f, i, _, _ => rfl
  | d + 1, f, i, h, hf => by
    obtain ⟨h1, h2⟩ := h i (Nat.le_refl _) (by omega)
    rw [shGo_go (by omega) h1, noLater_last h1 h2, cutL_same, cutL_same, shGo_skip d (f - 1) (i + 1) (fun j hj1 hj2 => h j (by omega) (by omega)) (by omega)]
    congr 1 <;> omega
/-- What the reference's search for a word that occurs again tells. -/
def TwR (ws : List ByteArray) (a b : Int) : Prop := (a = -1 ∧ b = -1 ∧ ∀ j, j < ws.length → noLater ws j) ∨ ∃ i k : Nat, a = (i : Int) ∧ b = (k : Int) ∧ i < k ∧ k < ws.length ∧ wAt ws k = wAt ws i ∧ (∀ k', k < k' → k' < ws.length → wAt ws k' ≠ wAt ws i) ∧ ∀ j, j < i → noLater ws j
theorem tw_none {ws : List ByteArray} {ls : List LinkT} {i : Nat} (h : ∀ j, j < ws.length → noLater ws j) (hi : i ≤ ws.length) (hw : ws.length ≤ 250) : shGo (300 - i) i ws ls = ls := by
  rw [shGo_skip (ws.length - i) (300 - i) i (fun j _ h2 => ⟨by omega, h j (by omega)⟩) (by omega)]
  exact shGo_end (by omega)
theorem tw_some {ws : List ByteArray} {ls : List LinkT} {i0 i k : Nat} (h0 : ∀ j, j < i0 → noLater ws j) (hi0 : i0 ≤ ws.length) (hik : i < k) (hk : k < ws.length) (he : wAt ws k = wAt ws i) (hn : ∀ k', k < k' → k' < ws.length → wAt ws k' ≠ wAt ws i) (hj : ∀ j, j < i → noLater ws j) (hw : ws.length ≤ 250) :
    shGo (300 - i0) i0 ws ls = shGo (300 - (i + 1)) (i + 1) (cutL ws i k) (cutL ls i k) ∧ ∀ j, j < i + 1 → noLater (cutL ws i k) j := by
  have hii : i0 ≤ i := by
    rcases Nat.lt_or_ge i i0 with h | h
    · exact absurd he (h0 i h k hik hk)
    · exact h
  have hlast : lastOf ws i = k := lastOf_eq (by omega) hk he hn
  constructor
  · rw [shGo_skip (i - i0) (300 - i0) i0 (fun j h1 h2 => ⟨by omega, hj j (by omega)⟩) (by omega)]
    rw [show i0 + (i - i0) = i by omega, shGo_go (by omega) (by omega), hlast]
    congr 1
    omega
  · intro j hjl k' h1 h2
    rw [cutL_len (by omega) (by omega)] at h2
    rw [wAt_cut (by omega) (by omega), wAt_cut (by omega) (by omega)]
    by_cases hji : j < i
    · rw [if_pos hji]
      by_cases hki : k' < i
      · rw [if_pos hki]; exact hj j hji k' h1 (by omega)
      · rw [if_neg hki]; exact hj j hji _ (by omega) (by omega)
    · have : j = i := by omega
      subst this
      rw [if_neg (by omega), if_neg (by omega), Nat.sub_self, Nat.zero_add, he]
      exact hn _ (by omega) (by omega)
/-- ShortenProof, in plain words. -/
def shpOk (l : Int) (rs : List RuleT) (s : ByteArray) (xs : List LinkT) : Bool := coOk l rs s xs
def shpL (l : Int) (rs : List RuleT) (s : ByteArray) (xs : List LinkT) : List LinkT := if coOk l rs s xs then shGo 300 0 (coL l rs s xs) xs else []
theorem shGo_len : ∀ (f i : Nat) (ws : List ByteArray) (ls : List LinkT), ls.length + 1 = ws.length → (shGo f i ws ls).length ≤ ls.length
  | 0, _, _, _, _ => Nat.le_refl _
  | f + 1, i, ws, ls, h => by
    rw [shGo]
    split
    · next hi =>
      obtain ⟨h1, h2, _, _⟩ := lastOf_spec hi
      have e1 := cutL_len (xs := ws) h1 (by omega)
      have e2 := cutL_len (xs := ls) h1 (by omega)
      have := shGo_len f (i + 1) (cutL ws i (lastOf ws i)) (cutL ls i (lastOf ws i)) (by rw [e1, e2]; omega)
      omega
    · exact Nat.le_refl _
theorem co_len {l : Int} {rs : List RuleT} {s : ByteArray} {xs : List LinkT} (h : coOk l rs s xs = true) : xs.length + 1 = (coL l rs s xs).length ∧ xs.length ≤ 200 := by
  unfold coOk at h
  unfold coL
  cases hc : coSt l rs s xs with
  | none => rw [hc] at h; cases h
  | some p =>
    unfold coSt at hc
    split at hc
    · next h2 =>
      unfold chRun at hc
      have := (chStep_inv xs (some ([s], s)) 0 (fun p hp => by injection hp with hp; subst hp; exact ⟨rfl, rfl⟩) p hc).1
      exact ⟨by dsimp only; omega, h2⟩
    · cases hc
theorem shpL_len (l : Int) (rs : List RuleT) (s : ByteArray) (xs : List LinkT) : (shpL l rs s xs).length ≤ 1048576 := by
  unfold shpL
  split
  · next h =>
    obtain ⟨h1, h2⟩ := co_len h
    have := shGo_len 300 0 (coL l rs s xs) xs h1
    omega
  · simp
/-- The cells of what is cut. -/
theorem strs_cut (ws : List ByteArray) (i k : Nat) : strs (cutL ws i k) = (strs ws).take (i * 1) ++ (strs ws).drop (k * 1) := by
  unfold cutL strs
  rw [List.map_append, List.map_take, List.map_drop, Nat.mul_one, Nat.mul_one]
theorem cellsLink_take (xs : List LinkT) (i : Nat) : cellsLink (xs.take i) = (cellsLink xs).take (i * 3) := by
  by_cases h : i ≤ xs.length
  · have e := cellsLink_app (xs.take i) (xs.drop i)
    rw [List.take_append_drop] at e
    rw [e, List.take_left' (by rw [cellsLink_len, List.length_take]; congr 1; omega)]
  · rw [List.take_of_length_le (by omega), List.take_of_length_le (by rw [cellsLink_len]; omega)]
theorem cellsLink_drop (xs : List LinkT) (i : Nat) : cellsLink (xs.drop i) = (cellsLink xs).drop (i * 3) := by
  by_cases h : i ≤ xs.length
  · have e := cellsLink_app (xs.take i) (xs.drop i)
    rw [List.take_append_drop] at e
    rw [e, List.drop_left' (by rw [cellsLink_len, List.length_take]; congr 1; omega)]
  · rw [List.drop_eq_nil_of_le (by omega), List.drop_eq_nil_of_le (by rw [cellsLink_len]; omega)]; rfl
theorem links_cut (ls : List LinkT) (i k : Nat) : cellsLink (cutL ls i k) = (cellsLink ls).take (i * 3) ++ (cellsLink ls).drop (k * 3) := by
  unfold cutL
  rw [cellsLink_app, cellsLink_take, cellsLink_drop]

end Go.Proofs.Ytidmbeeadbedaaa
