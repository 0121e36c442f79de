/- Plain words for the pairs of a system: where one left side lies in another one, where they overlap, and the list of the pairs. No walk, no condition. -/
import Derived.Test.YtidmbeeadbedaaaMg14
import Derived.Test.YtidmbeeadbedaaaJoin
namespace Go.Proofs.Ytidmbeeadbedaaa
open Go.RowKit Go.Shelf

def encPair (x : PairT) : List Value := [.string x.1, .int .i64 x.2.1, .int .i64 x.2.2.1, .int .i64 x.2.2.2.1, .int .i64 x.2.2.2.2]
def cellsPair (xs : List PairT) : List Value := xs.flatMap encPair
theorem cellsPair_len (xs : List PairT) : (cellsPair xs).length = xs.length * 5 := by
  unfold cellsPair
  induction xs with
  | nil => rfl
  | cons x r ih => rw [List.flatMap_cons, List.length_append, ih]; simp [encPair]; omega
theorem cellsPair_app (xs ys : List PairT) : cellsPair (xs ++ ys) = cellsPair xs ++ cellsPair ys := by simp [cellsPair]
theorem cellsPair_snoc1 (xs : List PairT) (s : ByteArray) (a b c d : Int) : cellsPair (xs ++ [(s, a, b, c, d)]) = cellsPair xs ++ (#[Value.string s, .int .i64 a, .int .i64 b, .int .i64 c, .int .i64 d] : Array Value).toList := by simp [cellsPair, encPair]
theorem one_cell_pair1 (s : ByteArray) (a b c d : Int) : ∀ u ∈ (#[Value.string s, .int .i64 a, .int .i64 b, .int .i64 c, .int .i64 d] : Array Value).toList, u.oneCell' = true := by
  intro u hu
  simp at hu
  rcases hu with rfl | rfl | rfl | rfl | rfl <;> rfl
/-- The places that the program tells are those of the reference. -/
def plcI (s l : ByteArray) (q : Nat) : List Int := ((List.range q).filter (hasAt s l)).map fun i : Nat => (i : Int)
theorem plcI_yes {s l : ByteArray} {q : Nat} (h : hasAt s l q = true) : plcI s l (q + 1) = plcI s l q ++ [(q : Int)] := by
  rw [plcI, List.range_succ, List.filter_append, List.map_append]; simp [plcI, h]
theorem plcI_no {s l : ByteArray} {q : Nat} (h : hasAt s l q = false) : plcI s l (q + 1) = plcI s l q := by
  rw [plcI, List.range_succ, List.filter_append, List.map_append]; simp [plcI, h]
theorem plcI_len (s l : ByteArray) (q : Nat) : (plcI s l q).length ≤ q := by
  rw [plcI, List.length_map]
  exact Nat.le_trans (List.length_filter_le _ _) (by rw [List.length_range]; exact Nat.le_refl _)
theorem plcI_plc {s l : ByteArray} (hl : l ≠ ⟨#[]⟩) : plcI s l s.size = plc s l (s.size + 1 - l.size) := by
  have hp : 0 < l.size := by
    rcases Nat.eq_zero_or_pos l.size with h | h
    · refine absurd ?_ hl
      obtain ⟨d⟩ := l
      have hd : d = #[] := Array.eq_empty_of_size_eq_zero h
      rw [hd]
    · exact h
  unfold plcI plc
  congr 1
  have hle : s.size + 1 - l.size ≤ s.size := by omega
  obtain ⟨k, hk⟩ : ∃ k, s.size = (s.size + 1 - l.size) + k := ⟨s.size - (s.size + 1 - l.size), by omega⟩
  rw [show List.range s.size = List.range (s.size + 1 - l.size) ++ (List.range k).map (s.size + 1 - l.size + ·) by rw [← List.range_add]; rw [← hk]]
  rw [List.filter_append]
  have e2 : ((List.range k).map (s.size + 1 - l.size + ·)).filter (hasAt s l) = [] := by
    rw [List.filter_eq_nil_iff]
    intro j hj
    obtain ⟨i, _, rfl⟩ := List.mem_map.1 hj
    unfold hasAt
    rw [decide_eq_false (by omega)]
    simp
  rw [e2, List.append_nil]
  apply List.filter_congr
  intro j hj
  rw [List.mem_range] at hj
  unfold hasAt oc
  rw [decide_eq_true (by omega)]
  simp

/-- The last n letters of u are the first n of v. -/
def ovAt (u v : ByteArray) (n : Nat) : Bool := (u.extract (u.size - n) u.size).toList == (v.extract 0 n).toList
/-- The lengths from 1 to q at which u and v overlap. -/
def ovl (u v : ByteArray) (q : Nat) : List Int := ((List.range q).filter (fun i => ovAt u v (i + 1))).map fun i : Nat => ((i + 1 : Nat) : Int)
theorem ovl_yes {s l : ByteArray} {q : Nat} (h : ovAt s l (q + 1) = true) : ovl s l (q + 1) = ovl s l q ++ [((q + 1 : Nat) : Int)] := by
  rw [ovl, List.range_succ, List.filter_append, List.map_append]; simp [ovl, h]
theorem ovl_no {s l : ByteArray} {q : Nat} (h : ovAt s l (q + 1) = false) : ovl s l (q + 1) = ovl s l q := by
  rw [ovl, List.range_succ, List.filter_append, List.map_append]; simp [ovl, h]
theorem ovl_len (s l : ByteArray) (q : Nat) : (ovl s l q).length ≤ q := by
  rw [ovl, List.length_map]
  exact Nat.le_trans (List.length_filter_le _ _) (by rw [List.length_range]; exact Nat.le_refl _)
def ovN (u v : ByteArray) : Nat := min u.size v.size - 1
def ovs (u v : ByteArray) : List Int := ovl u v (ovN u v)
theorem ovs_in {u v : ByteArray} {x : Int} (h : x ∈ ovs u v) : 1 ≤ x ∧ x < u.size ∧ x < v.size := by
  obtain ⟨i, hi, rfl⟩ := List.mem_map.1 h
  have := List.mem_range.1 (List.mem_filter.1 hi).1
  unfold ovN at this
  omega
/-- The places of v in u. -/
def pls (u v : ByteArray) : List Int := plc u v (u.size + 1 - v.size)
def inP (u : ByteArray) (i j : Nat) (p : Int) : PairT := (u, (i : Int), 0, (j : Int), p)
def acP (u v : ByteArray) (i j : Nat) (n : Int) : PairT := (u ++ v.extract n.toNat v.size, (i : Int), 0, (j : Int), (u.size : Int) - n)
/-- The pairs of which one rule is inside of the other one, those that overlap, and all of the pairs of two rules. -/
def insideL (rs : List RuleT) (i j : Nat) : List PairT := if i = j then [] else (pls (ruleAt rs i).1 (ruleAt rs j).1).map (inP (ruleAt rs i).1 i j)
def acrossL (rs : List RuleT) (i j : Nat) : List PairT := (ovs (ruleAt rs i).1 (ruleAt rs j).1).map (acP (ruleAt rs i).1 (ruleAt rs j).1 i j)
def prCell (rs : List RuleT) (i j : Nat) : List PairT := insideL rs i j ++ acrossL rs i j
def prRow (rs : List RuleT) (i j : Nat) : List PairT := (List.range j).flatMap fun k => prCell rs i k
def prAcc (rs : List RuleT) (i : Nat) : List PairT := (List.range i).flatMap fun p => prRow rs p rs.length
def prTo (rs : List RuleT) (i j : Nat) : List PairT := prAcc rs i ++ prRow rs i j
theorem prTo_zero (rs : List RuleT) (i : Nat) : prTo rs i 0 = prAcc rs i := by simp [prTo, prRow]
theorem prTo_succ (rs : List RuleT) (i j : Nat) : prTo rs i (j + 1) = prTo rs i j ++ prCell rs i j := by
  rw [prTo, prRow, List.range_succ, List.flatMap_append, ← List.append_assoc]; simp [prTo, prRow]
theorem prAcc_succ (rs : List RuleT) (i : Nat) : prAcc rs (i + 1) = prTo rs i rs.length := by
  rw [prAcc, List.range_succ, List.flatMap_append]; simp [prTo, prAcc]
/-- PairsOf, in plain words. -/
def prAll (l : Int) (rs : List RuleT) : List PairT := if systemOk l rs then prAcc rs rs.length else []

/-- How many there can be. -/
theorem prCell_len {rs : List RuleT} (h8 : ∀ k, (ruleAt rs k).1.size ≤ 16) (i j : Nat) : (prCell rs i j).length ≤ 40 := by
  unfold prCell
  rw [List.length_append]
  have h1 : (insideL rs i j).length ≤ 17 := by
    unfold insideL
    split
    · simp
    · rw [List.length_map]
      have := plc_len (ruleAt rs i).1 (ruleAt rs j).1 ((ruleAt rs i).1.size + 1 - (ruleAt rs j).1.size)
      have := h8 i
      unfold pls
      omega
  have h2 : (acrossL rs i j).length ≤ 16 := by
    unfold acrossL
    rw [List.length_map]
    have := ovl_len (ruleAt rs i).1 (ruleAt rs j).1 (ovN (ruleAt rs i).1 (ruleAt rs j).1)
    have := h8 i
    unfold ovs
    unfold ovN at *
    omega
  omega
theorem prRow_len {rs : List RuleT} (h8 : ∀ k, (ruleAt rs k).1.size ≤ 16) (i : Nat) : ∀ j, (prRow rs i j).length ≤ 40 * j
  | 0 => by simp [prRow]
  | j + 1 => by
    have h1 := prRow_len h8 i j
    have h2 := prCell_len h8 i j
    have e : prRow rs i (j + 1) = prRow rs i j ++ prCell rs i j := by rw [prRow, List.range_succ, List.flatMap_append]; simp [prRow]
    rw [e, List.length_append]
    omega
theorem prAcc_len {rs : List RuleT} (h8 : ∀ k, (ruleAt rs k).1.size ≤ 16) (h12 : rs.length ≤ 12) : ∀ i, (prAcc rs i).length ≤ 480 * i
  | 0 => by simp [prAcc]
  | i + 1 => by
    have h1 := prAcc_len h8 h12 i
    have h2 := prRow_len h8 i rs.length
    rw [prAcc_succ, prTo, List.length_append]
    omega
theorem prTo_len {rs : List RuleT} (h8 : ∀ k, (ruleAt rs k).1.size ≤ 16) (h12 : rs.length ≤ 12) {i j : Nat} (hi : i ≤ 12) (hj : j ≤ 12) : (prTo rs i j).length ≤ 6240 := by
  have h1 := prAcc_len h8 h12 i
  have h2 := prRow_len h8 i j
  rw [prTo, List.length_append]
  omega
theorem rules_16 {l : Int} {rs : List RuleT} (h : rulesOk l rs = true) : ∀ k, (ruleAt rs k).1.size ≤ 16 := fun k => by
  by_cases hk : k < rs.length
  · rw [ruleAt_get hk]
    unfold rulesOk at h
    simp only [Bool.and_eq_true] at h
    have h3 := List.all_eq_true.1 h.2 _ (List.getElem_mem hk)
    unfold ruleOk sidesOk at h3
    simp only [Bool.and_eq_true] at h3
    have := (wordOk_out h3.1.1.1.1).2.2.1
    omega
  · unfold ruleAt
    rw [List.getD_eq_getElem?_getD, List.getElem?_eq_none (by omega)]
    show (0 : Nat) ≤ 16
    omega
theorem rules_ne {l : Int} {rs : List RuleT} (h : rulesOk l rs = true) {k : Nat} (hk : k < rs.length) : (ruleAt rs k).1 ≠ ⟨#[]⟩ := by
  rw [ruleAt_get hk]
  unfold rulesOk at h
  simp only [Bool.and_eq_true] at h
  have h3 := List.all_eq_true.1 h.2 _ (List.getElem_mem hk)
  unfold ruleOk at h3
  simp only [Bool.and_eq_true] at h3
  intro e
  have h4 := h3.2
  rw [e, isEmpty_eq] at h4
  simp at h4
theorem prAll_len (l : Int) (rs : List RuleT) : (prAll l rs).length ≤ 6240 := by
  unfold prAll
  split
  · next h =>
    have hro : rulesOk l rs = true := by unfold systemOk at h; rw [Bool.and_eq_true] at h; exact h.1
    have h12 := rulesOk_12 hro
    have := prAcc_len (rules_16 hro) h12 rs.length
    omega
  · simp
/-- The pairs that are not joined. -/
def joinedP (l : Int) (rs : List RuleT) (p : PairT) : Bool := joined l rs p.1 p.2.1 p.2.2.1 p.2.2.2.1 p.2.2.2.2
def opAll (l : Int) (rs : List RuleT) : List PairT := (prAll l rs).filter fun p => !joinedP l rs p
theorem opAll_len (l : Int) (rs : List RuleT) : (opAll l rs).length ≤ 6240 := Nat.le_trans (List.length_filter_le _ _) (prAll_len l rs)
def isCompl (l : Int) (rs : List RuleT) : Bool := systemOk l rs && decide ((opAll l rs).length = 0)
theorem prCell_sz {rs : List RuleT} (h8 : ∀ k, (ruleAt rs k).1.size ≤ 16) (i j : Nat) : ∀ p ∈ prCell rs i j, p.1.size ≤ 32 := fun p hp => by
  have h1 := h8 i
  have h2 := h8 j
  rcases List.mem_append.1 hp with h | h
  · unfold insideL at h
    split at h
    · cases h
    · obtain ⟨x, _, rfl⟩ := List.mem_map.1 h
      show (ruleAt rs i).1.size ≤ 32
      omega
  · obtain ⟨x, _, rfl⟩ := List.mem_map.1 h
    show ((ruleAt rs i).1 ++ (ruleAt rs j).1.extract x.toNat (ruleAt rs j).1.size).size ≤ 32
    rw [ByteArray.size_append, ByteArray.size_extract]
    omega
theorem prAll_sz (l : Int) (rs : List RuleT) : ∀ p ∈ prAll l rs, p.1.size ≤ 32 := fun p hp => by
  unfold prAll at hp
  split at hp
  · next h =>
    have hro : rulesOk l rs = true := by unfold systemOk at h; rw [Bool.and_eq_true] at h; exact h.1
    obtain ⟨i, _, hp⟩ := List.mem_flatMap.1 hp
    obtain ⟨j, _, hp⟩ := List.mem_flatMap.1 hp
    exact prCell_sz (rules_16 hro) i j p hp
  · cases hp
end Go.Proofs.Ytidmbeeadbedaaa
