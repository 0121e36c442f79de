/- Merged texts: a claim has a limit of files. -/
import Derived.Test.YtnlagiopmkjmlaaMg6
import Derived.Test.YtnlagiopmkjmlaaTurn
import Derived.Deep.RegionLaw
import Derived.Test.YtnlagiopmkjmlaaNorm

/- Walks over ProofOf (the program's and the reference's) and what it calls: both hand back the same links. -/
namespace Go.Proofs.Ytnlagiopmkjmlaa
open Go.RowKit Go.Shelf

def linkOf (b : Bool) (x : StepT) : LinkT := (x.1, x.2, b)
theorem turn_links (xs : List StepT) : turnL (xs.map (linkOf false)) = xs.reverse.map (linkOf true) := by
  rw [turnL, ← List.map_reverse, List.map_map]
  rfl
/-- Do the two words have chains to the same reduced word, short enough? -/
def pfOk (l : Int) (rs : List RuleT) (u v : ByteArray) : Bool := takesOk l rs u && takesOk l rs v && ((normS rs u).toList == (normS rs v).toList) && decide ((trS l rs u).length + (trS l rs v).length ≤ 200)
/-- ProofOf, in plain words. -/
def pfL (l : Int) (rs : List RuleT) (u v : ByteArray) : List LinkT := if pfOk l rs u v then (trS l rs u).map (linkOf false) ++ (trS l rs v).reverse.map (linkOf true) else []
theorem pfL_len (l : Int) (rs : List RuleT) (u v : ByteArray) : (pfL l rs u v).length ≤ 1048576 := by
  unfold pfL
  split
  · next h =>
    unfold pfOk at h
    simp only [Bool.and_eq_true, decide_eq_true_eq] at h
    rw [List.length_append, List.length_map, List.length_map, List.length_reverse]
    omega
  · simp
theorem cellsLink_app (xs ys : List LinkT) : cellsLink (xs ++ ys) = cellsLink xs ++ cellsLink ys := by simp [cellsLink]
theorem one_cell_links (xs : List LinkT) : ∀ u ∈ cellsLink xs, u.oneCell' = true := by
  intro u hu
  obtain ⟨x, _, hx⟩ := List.mem_flatMap.1 hu
  simp [encLink] at hx
  rcases hx with rfl | rfl | rfl <;> rfl




end Go.Proofs.Ytnlagiopmkjmlaa

/- Walks over LastStep of the reference, and FarForm (the program's and the reference's). -/
namespace Go.Proofs.Ytnlagiopmkjmlaa
open Go.RowKit Go.Shelf

def bestStep (b : Option StepT) (x : StepT) : Option StepT := match b with
  | none => some x
  | some y => if y.2 < x.2 then some x else some y
/-- The first of the steps with the greatest place. -/
def bestF (xs : List StepT) : Option StepT := xs.foldl bestStep none
theorem bestF_snoc (xs : List StepT) (x : StepT) : bestF (xs ++ [x]) = bestStep (bestF xs) x := by unfold bestF; rw [List.foldl_append]; rfl
theorem fold_row {p : Int} (xs : List StepT) (h : ∀ x ∈ xs, x.2 = p) (y : StepT) (hy : y.2 = p) : xs.foldl bestStep (some y) = some y := by
  induction xs with
  | nil => rfl
  | cons x xs ih =>
    have hx := h x List.mem_cons_self
    rw [List.foldl_cons, bestStep, if_neg (by omega)]
    exact ih (fun z hz => h z (List.mem_cons_of_mem x hz))
theorem fold_later {p : Int} (xs : List StepT) (h : ∀ x ∈ xs, x.2 = p) (b : Option StepT) (hb : ∀ y, b = some y → y.2 < p) : xs.foldl bestStep b = xs.head?.or b := by
  cases xs with
  | nil => rfl
  | cons x xs =>
    have hx := h x List.mem_cons_self
    have hs : bestStep b x = some x := by
      cases b with
      | none => rfl
      | some y => have := hb y rfl; rw [bestStep, if_pos (by omega)]
    rw [List.foldl_cons, hs]
    exact fold_row xs (fun z hz => h z (List.mem_cons_of_mem x hz)) x hx
theorem row_place {rs : List RuleT} {s : ByteArray} {i j : Nat} : ∀ x ∈ stepRow rs s i j, x.2 = (i : Int) := fun x hx => by
  unfold stepRow at hx
  simp only [List.mem_map] at hx
  obtain ⟨k, -, rfl⟩ := hx
  rfl
theorem bestF_acc (rs : List RuleT) (s : ByteArray) (i : Nat) : bestF (stepAcc rs s i) = lastTo rs s i := by
  induction i with
  | zero => rfl
  | succ i ih =>
    rw [stepAcc_succ, stepTo, bestF, List.foldl_append, lastTo]
    have e : (stepAcc rs s i).foldl bestStep none = lastTo rs s i := ih
    rw [e]
    refine fold_later _ row_place _ (fun y hy => ?_)
    obtain ⟨k, p, rfl, -, hp, -⟩ := mem_step (lastTo_mem hy)
    dsimp only
    omega




end Go.Proofs.Ytnlagiopmkjmlaa

/- Walks over l16Ok, l16Step and l16Run of the reference, isRun, wordAfter, firstWord, lastWord and runSteps of the program, and RunFirst and RunFar of both. -/
namespace Go.Proofs.Ytnlagiopmkjmlaa
open Go.RowKit Go.Shelf

/-- A run, as (word, steps, code). -/
abbrev RunT : Type := ByteArray × Int × Int
def runV (r : RunT) : Value := .agg #[.string r.1, .int .i64 r.2.1, .int .i64 r.2.2]
/-- k more steps at most, n made. -/
def runR (pick : ByteArray → Option StepT) (rs : List RuleT) : Nat → Nat → ByteArray → RunT
  | 0, n, s => match pick s with
    | none => (s, n, 0)
    | some _ => (s, n, 3)
  | k + 1, n, s => match pick s with
    | none => (s, n, 0)
    | some x => if applyOk rs s x then runR pick rs k (n + 1) (applyS rs s x) else (s, n, 2)
theorem runR_none {pick : ByteArray → Option StepT} {rs : List RuleT} {k n : Nat} {s : ByteArray} (h : pick s = none) : runR pick rs k n s = (s, (n : Int), 0) := by
  cases k <;> rw [runR, h]
theorem runR_full {pick : ByteArray → Option StepT} {rs : List RuleT} {n : Nat} {s : ByteArray} {x : StepT} (h : pick s = some x) : runR pick rs 0 n s = (s, (n : Int), 3) := by rw [runR, h]
theorem runR_long {pick : ByteArray → Option StepT} {rs : List RuleT} {k n : Nat} {s : ByteArray} {x : StepT} (hk : 0 < k) (h : pick s = some x) (ho : applyOk rs s x = false) : runR pick rs k n s = (s, (n : Int), 2) := by
  obtain ⟨k, rfl⟩ : ∃ k', k = k' + 1 := ⟨k - 1, by omega⟩
  rw [runR, h]; simp [ho]
theorem runR_go {pick : ByteArray → Option StepT} {rs : List RuleT} {k n : Nat} {s : ByteArray} {x : StepT} (hk : 0 < k) (h : pick s = some x) (ho : applyOk rs s x = true) : runR pick rs k n s = runR pick rs (k - 1) (n + 1) (applyS rs s x) := by
  obtain ⟨k, rfl⟩ : ∃ k', k = k' + 1 := ⟨k - 1, by omega⟩
  rw [runR, h]; simp [ho]
def runOk (l : Int) (rs : List RuleT) (s : ByteArray) : Bool := rulesOk l rs && wordOk l s
def pickF (far : Bool) (rs : List RuleT) (s : ByteArray) : Option StepT := if far then lastS rs s else firstS rs s
/-- RunFirst and RunFar, in plain words. -/
def runAll (far : Bool) (l : Int) (rs : List RuleT) (s : ByteArray) (m : Int) : RunT := if runOk l rs s && inB m 0 500 then runR (pickF far rs) rs m.toNat 0 s else (⟨#[]⟩, 0, 4)
theorem pickF_mem {far : Bool} {rs : List RuleT} {s : ByteArray} {x : StepT} (h : pickF far rs s = some x) : x ∈ stepAcc rs s s.size := by
  cases far
  · exact firstS_mem h
  · exact lastS_mem h
theorem runOk_out {l : Int} {rs : List RuleT} {s : ByteArray} (h : runOk l rs s = true) : rulesOk l rs = true ∧ s.size ≤ 16 := by
  unfold runOk at h
  simp only [Bool.and_eq_true] at h
  exact ⟨h.1, (wordOk_out h.2).2.2.1⟩



def st16 (rs : List RuleT) (s : ByteArray) : Option StepT → ByteArray
  | some x => applyS rs s x
  | none => s
def st16Ok (rs : List RuleT) (s : ByteArray) : Option StepT → Bool
  | some x => applyOk rs s x
  | none => false





/-- The next word, and its code. -/
def nwS (rs : List RuleT) (s : ByteArray) : Option StepT → ByteArray
  | some x => if applyOk rs s x then applyS rs s x else ⟨#[]⟩
  | none => ⟨#[]⟩
def nwC (rs : List RuleT) (s : ByteArray) : Option StepT → Int
  | some x => if applyOk rs s x then 3 else 2
  | none => 0







end Go.Proofs.Ytnlagiopmkjmlaa
