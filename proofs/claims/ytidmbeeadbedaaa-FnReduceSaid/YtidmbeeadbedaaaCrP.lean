/- Plain words for CountReached, and for a map that holds true for each word of a list. No walk, no condition. -/
import Derived.Test.YtidmbeeadbedaaaSearchP
import Derived.Test.YtidmbeeadbedaaaStepW
namespace Go.Proofs.Ytidmbeeadbedaaa
open Go.RowKit Go.Shelf

/-- How a bool in a map reads. -/
def boolR (v : Value) : Option (DataW Unit × List MemPlace) := match v with
  | .bool b => some (.lit (.bool b), [])
  | _ => none
theorem boolR_mk (b : Bool) : boolR (.bool b) = some (.lit (.bool b), []) := rfl
theorem boolR_inv {v : Value} {b : Bool} {ps : List MemPlace} (h : boolR v = some (.lit (.bool b), ps)) : v = .bool b := by
  unfold boolR at h
  split at h
  · injection h with h
    injection h with h _
    injection h with h
    injection h with h
    rw [h]
  · cases h
/-- The map holds true for each word of the list and nothing else. -/
def MapT (D : DataW Unit) (ws : List ByteArray) : Prop := Maps.IsMap D ∧ ∀ s : ByteArray, Maps.has D (.string s.data.toList) = (fnd ws s).isSome ∧ ∀ z, (fnd ws s).isSome = true → D.atKey (.string s.data.toList) z = .lit (.bool true)
theorem fnd_snoc_some (x s : ByteArray) (ws : List ByteArray) : (fnd (ws ++ [x]) s).isSome = ((fnd ws s).isSome || decide (x = s)) := by
  rw [fnd_snoc]
  cases fnd ws s with
  | some i => rfl
  | none =>
    by_cases h : x = s
    · simp [h]
    · simp [h]
theorem MapT.snoc {D : DataW Unit} {ws : List ByteArray} (h : MapT D ws) (x : ByteArray) : MapT (D.put (.string x.data.toList) (.lit (.bool true))) (ws ++ [x]) := by
  have hk : WideAt.IsKeyLit (Lit.string x.data.toList) := trivial
  refine ⟨?_, fun s => ?_⟩
  · obtain ⟨es, rfl⟩ := h.1
    exact ⟨_, rfl⟩
  rw [fnd_snoc_some]
  by_cases hs : x = s
  · subst hs
    rw [decide_eq_true rfl, Bool.or_true]
    exact ⟨Maps.has_put_same h.1 hk _, fun z _ => Maps.atKey_put_same h.1 hk _ z⟩
  · rw [decide_eq_false hs, Bool.or_false, Maps.has_put_other (key_ne hs)]
    refine ⟨(h.2 s).1, fun z hi => ?_⟩
    rw [Maps.atKey_put_other (key_ne hs)]
    exact (h.2 s).2 z hi
theorem MapT.nil : MapT (.map []) [] := ⟨⟨_, rfl⟩, fun s => ⟨rfl, fun z hi => by cases hi⟩⟩

theorem step_good8 {l : Int} {rs : List RuleT} {cur : ByteArray} {x : StepT} (hsy : systemOk l rs = true) (hg : good8 l cur) (hx : x ∈ stepAcc rs cur cur.size) : good8 l (applyS rs cur x) := by
  obtain ⟨k, p, rfl, hk, _, hh⟩ := mem_step hx
  obtain ⟨hl4, h1, h2, h3, h4, h5⟩ := sys_rule hsy hk
  unfold hitAt at hh
  obtain ⟨hp, _⟩ := has_parts hh
  have hle : (ruleAt rs k).2.size ≤ (ruleAt rs k).1.size := by
    unfold lessW at h5
    split at h5
    · omega
    · have := of_decide_eq_true h5; omega
  have hc := hg.2.2
  have hok : replOk cur (p : Int) ((ruleAt rs k).1.size : Int) (ruleAt rs k).2 = true := by
    unfold replOk
    simp only [Bool.and_eq_true, decide_eq_true_eq]
    omega
  have e : applyS rs cur ((k : Int), (p : Int)) = cur.extract 0 p ++ (ruleAt rs k).2 ++ cur.extract (p + (ruleAt rs k).1.size) cur.size := by
    unfold applyS
    dsimp only
    rw [Int.toNat_natCast, replS_yes hok]
    congr 1
  rw [e]
  refine ⟨hl4, letters_app (letters_app (letters_ext hg.2.1 _ _) h4) (letters_ext hg.2.1 _ _), ?_⟩
  rw [ByteArray.size_append, ByteArray.size_append, ByteArray.size_extract, ByteArray.size_extract]
  omega

/-- The words that are reached, in order. -/
def wAt (Q : List ByteArray) (a : Nat) : ByteArray := Q.getD a ⟨#[]⟩
def crAdd (rs : List RuleT) (cur : ByteArray) (Q : List ByteArray) (x : StepT) : List ByteArray := match fnd Q (applyS rs cur x) with
  | some _ => Q
  | none => Q ++ [applyS rs cur x]
def crRow (rs : List RuleT) (cur : ByteArray) (Q : List ByteArray) (xs : List StepT) : List ByteArray := xs.foldl (crAdd rs cur) Q
def crGo (rs : List RuleT) : Nat → Nat → List ByteArray → List ByteArray
  | 0, _, Q => Q
  | f + 1, a, Q => if a < Q.length then crGo rs f (a + 1) (crRow rs (wAt Q a) Q (stepAcc rs (wAt Q a) (wAt Q a).size)) else Q
def crAll (rs : List RuleT) (s : ByteArray) : List ByteArray := crGo rs 131073 0 [s]
/-- CountReached, in plain words. -/
def crN (l : Int) (rs : List RuleT) (s : ByteArray) : Int := if takesOk l rs s && decide (s.size ≤ 8) then ((crAll rs s).length : Int) else -1
theorem crAdd_some {rs : List RuleT} {cur : ByteArray} {Q : List ByteArray} {x : StepT} {i : Nat} (h : fnd Q (applyS rs cur x) = some i) : crAdd rs cur Q x = Q := by rw [crAdd, h]
theorem crAdd_none {rs : List RuleT} {cur : ByteArray} {Q : List ByteArray} {x : StepT} (h : fnd Q (applyS rs cur x) = none) : crAdd rs cur Q x = Q ++ [applyS rs cur x] := by rw [crAdd, h]
theorem crRow_snoc (rs : List RuleT) (cur : ByteArray) (Q : List ByteArray) (xs : List StepT) (x : StepT) : crRow rs cur Q (xs ++ [x]) = crAdd rs cur (crRow rs cur Q xs) x := by rw [crRow, List.foldl_append]; rfl
theorem crGo_end {rs : List RuleT} {f a : Nat} {Q : List ByteArray} (h : Q.length ≤ a) : crGo rs f a Q = Q := by
  cases f with
  | zero => rfl
  | succ f => rw [crGo, if_neg (by omega)]
theorem crGo_go {rs : List RuleT} {f a : Nat} {Q : List ByteArray} (hf : 0 < f) (h : a < Q.length) : crGo rs f a Q = crGo rs (f - 1) (a + 1) (crRow rs (wAt Q a) Q (stepAcc rs (wAt Q a) (wAt Q a).size)) := by
  obtain ⟨f, rfl⟩ : ∃ f', f = f' + 1 := ⟨f - 1, by omega⟩
  rw [crGo, if_pos h]; rfl
theorem wAt_app {Q T : List ByteArray} {a : Nat} (h : a < Q.length) : wAt (Q ++ T) a = wAt Q a := by
  unfold wAt
  rw [List.getD_eq_getElem?_getD, List.getD_eq_getElem?_getD, List.getElem?_append_left h]
theorem wAt_mem {Q : List ByteArray} {a : Nat} (h : a < Q.length) : wAt Q a ∈ Q := by
  unfold wAt
  rw [List.getD_eq_getElem?_getD, List.getElem?_eq_getElem h]
  exact List.getElem_mem h
theorem wAt_cell {Q : List ByteArray} {a : Nat} (h : a < Q.length) : (strs Q)[a]? = some (.string (wAt Q a)) := by
  unfold wAt strs
  rw [List.getElem?_map, List.getElem?_eq_getElem h, List.getD_eq_getElem?_getD, List.getElem?_eq_getElem h]
  rfl
/-- All words are good and there is none twice. -/
def crGood (k : Int) (Q : List ByteArray) : Prop := Q.Nodup ∧ ∀ t ∈ Q, good8 k t
theorem crGood_len {k : Int} {Q : List ByteArray} (h : crGood k Q) : Q.length ≤ 131072 := words_few h.1 h.2
theorem crAdd_good {l : Int} {rs : List RuleT} {cur : ByteArray} {Q : List ByteArray} {x : StepT} (hsy : systemOk l rs = true) (hg : crGood l Q) (hc : good8 l cur) (hx : x ∈ stepAcc rs cur cur.size) : crGood l (crAdd rs cur Q x) ∧ ∃ T, crAdd rs cur Q x = Q ++ T := by
  cases hf : fnd Q (applyS rs cur x) with
  | some i => rw [crAdd_some hf]; exact ⟨hg, [], by simp⟩
  | none =>
    rw [crAdd_none hf]
    refine ⟨⟨?_, ?_⟩, _, rfl⟩
    · refine List.nodup_append.2 ⟨hg.1, by simp, ?_⟩
      intro t ht u hu e
      rw [List.mem_singleton] at hu
      rw [e, hu] at ht
      exact fnd_mem hf ht
    · intro t ht
      rw [List.mem_append] at ht
      rcases ht with ht | ht
      · exact hg.2 t ht
      · rw [List.mem_singleton] at ht
        rw [ht]; exact step_good8 hsy hc hx
theorem crRow_good {l : Int} {rs : List RuleT} {cur : ByteArray} (hsy : systemOk l rs = true) (hc : good8 l cur) : ∀ (xs : List StepT) (Q : List ByteArray), crGood l Q → (∀ x ∈ xs, x ∈ stepAcc rs cur cur.size) → crGood l (crRow rs cur Q xs) ∧ ∃ T, crRow rs cur Q xs = Q ++ T
  | [], Q, hg, _ => ⟨hg, [], by simp [crRow]⟩
  | x :: xs, Q, hg, hx => by
    obtain ⟨h1, T, hT⟩ := crAdd_good hsy hg hc (hx x List.mem_cons_self)
    have e : crRow rs cur Q (x :: xs) = crRow rs cur (crAdd rs cur Q x) xs := rfl
    rw [e]
    obtain ⟨h2, U, hU⟩ := crRow_good hsy hc xs _ h1 (fun y hy => hx y (List.mem_cons_of_mem _ hy))
    exact ⟨h2, T ++ U, by rw [hU, hT, List.append_assoc]⟩
theorem takes8 {l : Int} {rs : List RuleT} {s : ByteArray} (h : takesOk l rs s = true) (h8 : s.size ≤ 8) : systemOk l rs = true ∧ rulesOk l rs = true ∧ good8 l s := by
  unfold takesOk at h
  rw [Bool.and_eq_true] at h
  have hw := wordOk_out h.2
  have hro : rulesOk l rs = true := by have h2 := h.1; unfold systemOk at h2; rw [Bool.and_eq_true] at h2; exact h2.1
  exact ⟨h.1, hro, hw.2.1, hw.2.2.2, h8⟩
theorem crGood_one {k : Int} {s : ByteArray} (h : good8 k s) : crGood k [s] := ⟨by simp, fun t ht => by rw [List.mem_singleton] at ht; rw [ht]; exact h⟩

end Go.Proofs.Ytidmbeeadbedaaa
