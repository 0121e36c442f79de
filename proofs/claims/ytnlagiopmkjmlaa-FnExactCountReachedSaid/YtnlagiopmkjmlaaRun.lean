/- Walks over l16Ok, l16Step and l16Run of the reference, isRun, wordAfter, firstWord, lastWord and runSteps of the program, and RunFirst and RunFar of both. -/
import Derived.Test.YtnlagiopmkjmlaaFar
namespace Go.Proofs.Ytnlagiopmkjmlaa
open Go.RowKit Go.Shelf

/-- A run, as (word, steps, code). -/
abbrev RunT : Type := ByteArray × Int × Int
def runV (r : RunT) : Value := .agg #[.string r.1, .int .i64 r.2.1, .int .i64 r.2.2]
/-- k more steps at most, n made. -/
def runR (pick : ByteArray → Option StepT) (rs : List RuleT) : Nat → Nat → ByteArray → RunT
  | 0, n, s => match pick s with
    | none => (s, n, 0)
    | some _ => (s, n, 3)
  | k + 1, n, s => match pick s with
    | none => (s, n, 0)
    | some x => if applyOk rs s x then runR pick rs k (n + 1) (applyS rs s x) else (s, n, 2)
theorem runR_none {pick : ByteArray → Option StepT} {rs : List RuleT} {k n : Nat} {s : ByteArray} (h : pick s = none) : runR pick rs k n s = (s, (n : Int), 0) := by
  cases k <;> rw [runR, h]
theorem runR_full {pick : ByteArray → Option StepT} {rs : List RuleT} {n : Nat} {s : ByteArray} {x : StepT} (h : pick s = some x) : runR pick rs 0 n s = (s, (n : Int), 3) := by rw [runR, h]
theorem runR_long {pick : ByteArray → Option StepT} {rs : List RuleT} {k n : Nat} {s : ByteArray} {x : StepT} (hk : 0 < k) (h : pick s = some x) (ho : applyOk rs s x = false) : runR pick rs k n s = (s, (n : Int), 2) := by
  obtain ⟨k, rfl⟩ : ∃ k', k = k' + 1 := ⟨k - 1, by omega⟩
  rw [runR, h]; simp [ho]
theorem runR_go {pick : ByteArray → Option StepT} {rs : List RuleT} {k n : Nat} {s : ByteArray} {x : StepT} (hk : 0 < k) (h : pick s = some x) (ho : applyOk rs s x = true) : runR pick rs k n s = runR pick rs (k - 1) (n + 1) (applyS rs s x) := by
  obtain ⟨k, rfl⟩ : ∃ k', k = k' + 1 := ⟨k - 1, by omega⟩
  rw [runR, h]; simp [ho]
def runOk (l : Int) (rs : List RuleT) (s : ByteArray) : Bool := rulesOk l rs && wordOk l s
def pickF (far : Bool) (rs : List RuleT) (s : ByteArray) : Option StepT := if far then lastS rs s else firstS rs s
/-- RunFirst and RunFar, in plain words. -/
def runAll (far : Bool) (l : Int) (rs : List RuleT) (s : ByteArray) (m : Int) : RunT := if runOk l rs s && inB m 0 500 then runR (pickF far rs) rs m.toNat 0 s else (⟨#[]⟩, 0, 4)
theorem pickF_mem {far : Bool} {rs : List RuleT} {s : ByteArray} {x : StepT} (h : pickF far rs s = some x) : x ∈ stepAcc rs s s.size := by
  cases far
  · exact firstS_mem h
  · exact lastS_mem h
theorem runOk_out {l : Int} {rs : List RuleT} {s : ByteArray} (h : runOk l rs s = true) : rulesOk l rs = true ∧ s.size ≤ 16 := by
  unfold runOk at h
  simp only [Bool.and_eq_true] at h
  exact ⟨h.1, (wordOk_out h.2).2.2.1⟩



def st16 (rs : List RuleT) (s : ByteArray) : Option StepT → ByteArray
  | some x => applyS rs s x
  | none => s
def st16Ok (rs : List RuleT) (s : ByteArray) : Option StepT → Bool
  | some x => applyOk rs s x
  | none => false





/-- The next word, and its code. -/
def nwS (rs : List RuleT) (s : ByteArray) : Option StepT → ByteArray
  | some x => if applyOk rs s x then applyS rs s x else ⟨#[]⟩
  | none => ⟨#[]⟩
def nwC (rs : List RuleT) (s : ByteArray) : Option StepT → Int
  | some x => if applyOk rs s x then 3 else 2
  | none => 0







end Go.Proofs.Ytnlagiopmkjmlaa
