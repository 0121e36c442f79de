/- Walks over IsReduced (the program's and the reference's): each returns what isReduced says, for all arguments. -/
import Derived.Test.YtidmbeeadbedaaaMg11
import Derived.Test.YtidmbeeadbedaaaFirst
import Derived.Test.YtidmbeeadbedaaaStepsS
namespace Go.Proofs.Ytidmbeeadbedaaa
open Go.RowKit Go.Shelf

/-- IsReduced, in plain words. -/
def isReduced (l : Int) (rs : List RuleT) (s : ByteArray) : Bool := takesOk l rs s && (firstS rs s).isNone
theorem sys_rules {l : Int} {rs : List RuleT} (h : systemOk l rs = true) : rulesOk l rs = true := by
  unfold systemOk at h
  simp only [Bool.and_eq_true] at h
  exact h.1
theorem takes_rules {l : Int} {rs : List RuleT} {s : ByteArray} (h : takesOk l rs s = true) : rulesOk l rs = true := by
  unfold takesOk at h
  simp only [Bool.and_eq_true] at h
  exact sys_rules h.1
theorem steps_first {l : Int} {rs : List RuleT} {s : ByteArray} (h : rulesOk l rs = true) : decide (((stepsOf l rs s).length : Int) = 0) = (firstS rs s).isNone := by
  rw [stepsOf, h, firstS]
  cases stepAcc rs s s.size <;> simp <;> omega


set_option maxRecDepth 100000 in
set_option maxHeartbeats 1000000 in
theorem implIsReduced_any (l : Int) (A : Option Addr) (n c : Nat) (rs : List RuleT) (s : ByteArray) (w : World) (hr : Rd w A (cellsRule rs)) (hn : n = rs.length) (hb : n ≤ 1048576) (hz : ∀ x ∈ rs, x.1.size ≤ 1048576 ∧ x.2.size ≤ 1048576) (hs : s.size ≤ 1048576) :
    Calls Try.prog 33 #[.agg #[.int .i64 l, .slice A n c], .string s] w (Kept w (.bool (isReduced l rs s))) := by
  have hW0 : Below w.heap.size w (w.alloc (.cells #[.int .i64 l, .slice A n c] 25)) := (Below.refl _ _).alloc (Nat.le_refl _) _
  have hS0 := Bk.new w 25 #[.int .i64 l, .slice A n c]
  have Hr := Lib.hid hr
  clear hr
  have Hn := Lib.hid hn
  clear hn
  have Hz := Lib.hid hz
  clear hz
  go_enter Try.func33, Try.ntmps33
  go_wp2_with fail
  with_reducible refine (implTakes_any l A n c rs s _ (Hr.out.keep hW0) Hn.out hb Hz.out hs).mono ?_
  rintro e w1 ⟨rfl, b1⟩
  have hW1 := hW0.trans (b1.mono hW0.size)
  have hS1 := hS0.below b1 hS0.lt
  have s0_1 : w1.cell? ⟨w.heap.size, 0, none⟩ = some (.int .i64 l) := by rw [hS1.cell]; rfl
  have s1_1 : w1.cell? ⟨w.heap.size, 1, none⟩ = some (.slice A n c) := by rw [hS1.cell]; rfl
  have sl_1 := hS1.lt
  clear b1
  obtain ⟨r1, hrr⟩ : ∃ r', r' = (takesOk l rs s) := ⟨_, rfl⟩
  rw [← hrr]
  have H1 := Lib.hid hrr
  clear hrr
  cases r1
  · go_wp2_with fail
    go_ret
    exact ⟨ret_bool (by rw [isReduced, ← H1.out]; rfl), hW1⟩
  go_wp2_with fail
  with_reducible refine (implFirst_any l A n c rs s _ (Hr.out.keep hW1) Hn.out hb Hz.out hs).mono ?_
  rintro e w2 ⟨rfl, b2⟩
  have hW2 := hW1.trans (b2.mono hW1.size)
  have hS2 := hS1.below b2 hS1.lt
  have s0_2 : w2.cell? ⟨w.heap.size, 0, none⟩ = some (.int .i64 l) := by rw [hS2.cell]; rfl
  have s1_2 : w2.cell? ⟨w.heap.size, 1, none⟩ = some (.slice A n c) := by rw [hS2.cell]; rfl
  have sl_2 := hS2.lt
  clear b2
  obtain ⟨f, hf⟩ : ∃ f, f = firstS rs s := ⟨_, rfl⟩
  rw [← hf]
  have hq : isReduced l rs s = f.isNone := by rw [isReduced, ← H1.out, hf]; rfl
  have Hf := Lib.hid hf
  clear hf
  have Hq := Lib.hid hq
  clear hq
  cases f
  · have hx : stepV none = .agg #[.int .i64 0, .int .i64 0] := rfl
    rw [hx, Option.isSome_none]
    go_wp2_with fail
    go_ret
    exact ⟨ret_bool (by rw [Hq.out]; rfl), hW2.alloc hW2.size _⟩
  · rename_i x
    obtain ⟨x0, x1⟩ := x
    have hx : stepV (some (x0, x1)) = .agg #[.int .i64 x0, .int .i64 x1] := rfl
    rw [hx, Option.isSome_some]
    go_wp2_with fail
    go_ret
    exact ⟨ret_bool (by rw [Hq.out]; rfl), hW2.alloc hW2.size _⟩

end Go.Proofs.Ytidmbeeadbedaaa
