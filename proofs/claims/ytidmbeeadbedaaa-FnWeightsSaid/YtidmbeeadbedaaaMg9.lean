/- Merged texts: a claim has a limit of files. -/
import Derived.Test.YtidmbeeadbedaaaMg4
import Derived.Test.YtidmbeeadbedaaaMg1
import Derived.Test.YtidmbeeadbedaaaSysOk

/- Walks over the laws' helpers for impl.Step: eqStep, eqStepS, markStepS, heldStepS and the readings of slices of them. -/
namespace Go.Proofs.Ytidmbeeadbedaaa
open Go.RowKit Go.Shelf

abbrev StepT : Type := Int × Int
def encStep (x : StepT) : List Value := [.int .i64 x.1, .int .i64 x.2]
def cellsStep (xs : List StepT) : List Value := xs.flatMap encStep
theorem info_Step : (Try.prog.info? 61).map (fun i => (i.zero, i.size, i.bytes)) = some (some (.agg #[.int .i64 0, .int .i64 0]), 2, 16) := by kernel_rfl

/-- The cells of element k. -/
theorem rd_Step {w : World} {A : Option Addr} {xs : List StepT} (h : Rd w A (cellsStep xs)) {k : Nat} (hk : k < xs.length) : ∃ b off, A = some ⟨b, off, none⟩ ∧ b < w.heap.size ∧
    w.cell? ⟨b, off + k * 2, none⟩ = some (.int .i64 xs[k].1) ∧ w.cell? ⟨b, off + k * 2 + 1, none⟩ = some (.int .i64 xs[k].2) := by
  have f0 := flat_get (enc := encStep) (m := 2) (fun _ => rfl) xs k 0 hk (by omega)
  obtain ⟨b, off, e, hb, hc⟩ := h (by intro e; unfold cellsStep at e; rw [e] at f0; cases f0)
  refine ⟨b, off, e, hb, ?_, ?_⟩
  · exact hc (k * 2) _ f0
  · exact hc (k * 2 + 1) _ (flat_get (enc := encStep) (m := 2) (fun _ => rfl) xs k 1 hk (by omega))





end Go.Proofs.Ytidmbeeadbedaaa

/- Plain words for steps: the steps of a word, the first one, the last one, and the word after a step. No walk, no condition. -/
namespace Go.Proofs.Ytidmbeeadbedaaa
open Go.RowKit Go.Shelf

/-- The word s has the part l at place p. -/
def hasAt (s l : ByteArray) (p : Nat) : Bool := decide (l.size + p ≤ s.size) && ((s.extract p (p + l.size)).toList == l.toList)
def ruleAt (rs : List RuleT) (k : Nat) : RuleT := rs.getD k (⟨#[]⟩, ⟨#[]⟩)
def hitAt (rs : List RuleT) (s : ByteArray) (p k : Nat) : Bool := hasAt s (ruleAt rs k).1 p
/-- The steps at place p with the first j rules. -/
def stepRow (rs : List RuleT) (s : ByteArray) (p j : Nat) : List StepT := ((List.range j).filter (hitAt rs s p)).map fun k : Nat => ((k : Int), (p : Int))
/-- The steps at the first i places. -/
def stepAcc (rs : List RuleT) (s : ByteArray) (i : Nat) : List StepT := (List.range i).flatMap fun p => stepRow rs s p rs.length
def stepTo (rs : List RuleT) (s : ByteArray) (i j : Nat) : List StepT := stepAcc rs s i ++ stepRow rs s i j
theorem stepRow_zero (rs : List RuleT) (s : ByteArray) (p : Nat) : stepRow rs s p 0 = [] := rfl
theorem stepAcc_zero (rs : List RuleT) (s : ByteArray) : stepAcc rs s 0 = [] := rfl
theorem stepAcc_succ (rs : List RuleT) (s : ByteArray) (i : Nat) : stepAcc rs s (i + 1) = stepTo rs s i rs.length := by
  rw [stepAcc, List.range_succ, List.flatMap_append, stepTo]; simp [stepAcc]
theorem stepRow_yes {rs : List RuleT} {s : ByteArray} {p j : Nat} (h : hitAt rs s p j = true) : stepRow rs s p (j + 1) = stepRow rs s p j ++ [((j : Int), (p : Int))] := by
  rw [stepRow, List.range_succ, List.filter_append, List.map_append]; simp [stepRow, h]
theorem stepRow_no {rs : List RuleT} {s : ByteArray} {p j : Nat} (h : hitAt rs s p j = false) : stepRow rs s p (j + 1) = stepRow rs s p j := by
  rw [stepRow, List.range_succ, List.filter_append, List.map_append]; simp [stepRow, h]
theorem cellsStep_snoc (xs : List StepT) (k p : Int) : cellsStep (xs ++ [(k, p)]) = cellsStep xs ++ [.int .i64 k, .int .i64 p] := by simp [cellsStep, encStep]
theorem rulesOk_12 {l : Int} {rs : List RuleT} (h : rulesOk l rs = true) : rs.length ≤ 12 := by
  unfold rulesOk at h
  simp only [Bool.and_eq_true, decide_eq_true_eq] at h
  exact h.1.2
theorem rulesOk_side {l : Int} {rs : List RuleT} (h : rulesOk l rs = true) {r : RuleT} (hr : r ∈ rs) : r.1.size ≤ 8 ∧ r.2.size ≤ 8 ∧ r.1.toList.isEmpty = false := by
  unfold rulesOk at h
  simp only [Bool.and_eq_true] at h
  have h2 := List.all_eq_true.1 h.2 r hr
  unfold ruleOk sidesOk at h2
  simp only [Bool.and_eq_true, decide_eq_true_eq] at h2
  exact ⟨h2.1.1.2, h2.1.2, by simpa using h2.2⟩
theorem ruleAt_get {rs : List RuleT} {k : Nat} (h : k < rs.length) : ruleAt rs k = rs[k] := by simp [ruleAt, h]

/-- The first step, by place and then by rule. -/
def firstS (rs : List RuleT) (s : ByteArray) : Option StepT := (stepAcc rs s s.size).head?
theorem stepRow_head_lt {rs : List RuleT} {s : ByteArray} {p j : Nat} (hj : j < rs.length) (hn : stepRow rs s p j = []) (h : hitAt rs s p j = true) : (stepRow rs s p rs.length).head? = some ((j : Int), (p : Int)) := by
  obtain ⟨d, hd⟩ : ∃ d, rs.length = (j + 1) + d := ⟨rs.length - (j + 1), by omega⟩
  rw [hd]
  clear hd hj
  induction d with
  | zero => rw [Nat.add_zero, stepRow_yes h, hn]; rfl
  | succ d ih =>
    rw [← Nat.add_assoc]
    cases hh : hitAt rs s p (j + 1 + d)
    · rw [stepRow_no hh, ih]
    · rw [stepRow_yes hh, List.head?_append, ih]; rfl
theorem stepAcc_head_lt {rs : List RuleT} {s : ByteArray} {i n : Nat} (hi : i < n) (hn : stepAcc rs s i = []) {x : StepT} (h : (stepRow rs s i rs.length).head? = some x) : (stepAcc rs s n).head? = some x := by
  obtain ⟨d, rfl⟩ : ∃ d, n = (i + 1) + d := ⟨n - (i + 1), by omega⟩
  clear hi
  induction d with
  | zero => rw [Nat.add_zero, stepAcc_succ, stepTo, hn]; exact h
  | succ d ih => rw [← Nat.add_assoc, stepAcc_succ, stepTo, List.head?_append, ih]; rfl
theorem firstS_some {rs : List RuleT} {s : ByteArray} {i j : Nat} (hi : i < s.size) (hj : j < rs.length) (ha : stepAcc rs s i = []) (hn : stepRow rs s i j = []) (h : hitAt rs s i j = true) : firstS rs s = some ((j : Int), (i : Int)) :=
  stepAcc_head_lt hi ha (stepRow_head_lt hj hn h)
theorem firstS_none {rs : List RuleT} {s : ByteArray} (ha : stepAcc rs s s.size = []) : firstS rs s = none := by rw [firstS, ha]; rfl
theorem stepAcc_next {rs : List RuleT} {s : ByteArray} {i : Nat} (ha : stepAcc rs s i = []) (hr : stepRow rs s i rs.length = []) : stepAcc rs s (i + 1) = [] := by rw [stepAcc_succ, stepTo, ha, hr]; rfl

/-- ReplaceAt, in plain words. -/
def replOk (s : ByteArray) (p n : Int) (by_ : ByteArray) : Bool := decide (0 ≤ p) && decide (0 ≤ n) && decide (p ≤ s.size) && decide (n ≤ (s.size : Int) - p) && decide ((s.size : Int) - n + by_.size ≤ 16)
def replS (s : ByteArray) (p n : Int) (by_ : ByteArray) : ByteArray := if replOk s p n by_ then s.extract 0 p.toNat ++ by_ ++ s.extract (p + n).toNat s.size else ⟨#[]⟩
theorem replS_no {s : ByteArray} {p n : Int} {by_ : ByteArray} (h : replOk s p n by_ = false) : replS s p n by_ = ⟨#[]⟩ := by rw [replS, h]; rfl
theorem replS_yes {s : ByteArray} {p n : Int} {by_ : ByteArray} (h : replOk s p n by_ = true) : replS s p n by_ = s.extract 0 p.toNat ++ by_ ++ s.extract (p + n).toNat s.size := by rw [replS, h]; rfl

/-- The word after a step with rule k at place p, unless it is too long. -/
def applyOk (rs : List RuleT) (s : ByteArray) (x : StepT) : Bool := replOk s x.2 (ruleAt rs x.1.toNat).1.size (ruleAt rs x.1.toNat).2
def applyS (rs : List RuleT) (s : ByteArray) (x : StepT) : ByteArray := replS s x.2 (ruleAt rs x.1.toNat).1.size (ruleAt rs x.1.toNat).2

end Go.Proofs.Ytidmbeeadbedaaa
