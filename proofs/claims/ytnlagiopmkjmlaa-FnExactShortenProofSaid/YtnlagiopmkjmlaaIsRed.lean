/- Walks over IsReduced (the program's and the reference's): each returns what isReduced says, for all arguments. -/
import Derived.Test.YtnlagiopmkjmlaaTakes
import Derived.Test.YtnlagiopmkjmlaaFirst
import Derived.Test.YtnlagiopmkjmlaaStepsS
namespace Go.Proofs.Ytnlagiopmkjmlaa
open Go.RowKit Go.Shelf

/-- IsReduced, in plain words. -/
def isReduced (l : Int) (rs : List RuleT) (s : ByteArray) : Bool := takesOk l rs s && (firstS rs s).isNone
theorem sys_rules {l : Int} {rs : List RuleT} (h : systemOk l rs = true) : rulesOk l rs = true := by
  unfold systemOk at h
  simp only [Bool.and_eq_true] at h
  exact h.1
theorem takes_rules {l : Int} {rs : List RuleT} {s : ByteArray} (h : takesOk l rs s = true) : rulesOk l rs = true := by
  unfold takesOk at h
  simp only [Bool.and_eq_true] at h
  exact sys_rules h.1
theorem steps_first {l : Int} {rs : List RuleT} {s : ByteArray} (h : rulesOk l rs = true) : decide (((stepsOf l rs s).length : Int) = 0) = (firstS rs s).isNone := by
  rw [stepsOf, h, firstS]
  cases stepAcc rs s s.size <;> simp <;> omega



end Go.Proofs.Ytnlagiopmkjmlaa
