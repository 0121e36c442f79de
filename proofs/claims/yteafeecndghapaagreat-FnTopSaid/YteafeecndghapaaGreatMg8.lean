/- Merged texts: a claim has a limit of files. -/
import Derived.Test.YteafeecndghapaaGreatMg6
import Derived.Test.YteafeecndghapaaGreatMg4
import Derived.Test.YteafeecndghapaaGreatMg2
import Derived.Test.YteafeecndghapaaGreatMg1

/- Walks over SystemOk (the program's and the reference's): each returns what systemOk says, for all arguments. -/
namespace Go.Proofs.YteafeecndghapaaGreat
open Go.RowKit Go.Shelf

def fallsOk (r : RuleT) : Bool := lessW r.2 r.1
/-- SystemOk, in plain words. -/
def systemOk (l : Int) (rs : List RuleT) : Bool := rulesOk l rs && rs.all fallsOk

set_option maxRecDepth 100000 in
set_option maxHeartbeats 1000000 in
theorem specSystemOk_any (l : Int) (A : Option Addr) (n c : Nat) (xs : List RuleT) (w : World) (hr : Rd w A (cellsRule xs)) (hn : n = xs.length) (hb : n ≤ 1048576) (hz : ∀ x ∈ xs, x.1.size ≤ 1048576 ∧ x.2.size ≤ 1048576) :
    Calls Tryz.prog 13 #[.agg #[.int .i64 l, .slice A n c]] w (Kept w (.bool (systemOk l xs))) := by
  subst hn
  have hW : Below w.heap.size w (w.alloc (.cells #[.int .i64 l, .slice A xs.length c] 25)) := (Below.refl _ _).alloc (Nat.le_refl _) _
  have hB := Bk.new w 25 #[.int .i64 l, .slice A xs.length c]
  have Hz := Lib.hid hz
  clear hz
  have HB := Lib.hid hB
  clear hB
  have Hr := Lib.hid hr
  clear hr
  go_enter Tryz.func13, Tryz.ntmps13
  go_wp2_with fail
  refine (specRulesOk_any l A xs.length c xs _ (Hr.out.keep hW) rfl hb Hz.out).mono ?_
  rintro e w1 ⟨rfl, b1⟩
  have hS := HB.out.below b1 HB.out.lt
  have hW1 := hW.trans (b1.mono hW.size)
  have s1 : w1.cell? ⟨w.heap.size, 1, none⟩ = some (.slice A xs.length c) := by rw [hS.cell]; rfl
  have sl := hS.lt
  obtain ⟨r1, hrr⟩ : ∃ r', r' = (rulesOk l xs) := ⟨_, rfl⟩
  rw [← hrr]
  have H1 := Lib.hid hrr
  clear hrr
  cases r1
  · go_wp2_with fail
    go_ret
    exact ⟨ret_bool (by rw [systemOk, ← H1.out]; rfl), hW1⟩
  clear hW b1
  have HS := Lib.hid hS
  clear hS
  go_wp2_with fail
  go_loopw [11] (fun i wr => ∃ (j : Nat), j ≤ xs.length ∧ i = .int .i64 j ∧ Hid ((xs.take j).all fallsOk = true) ∧ Below w.heap.size w wr) (fun i _ => xs.length - (intOf i).toNat)
  case atStart => exact ⟨0, Nat.zero_le _, rfl, by simp [Hid], hW1⟩
  case round =>
    clear hW1 s1 sl
    obtain ⟨j, hj, rfl, HA, hW⟩ := hrel
    by_cases hlt : j < xs.length
    · obtain ⟨b, o, rfl, hbl, p0, p1⟩ := rd_Rule (Hr.out.keep hW) hlt
      have hzj := Hz.out xs[j] (List.getElem_mem hlt)
      obtain ⟨⟨v0, v1⟩, hv⟩ : ∃ v, v = xs[j] := ⟨_, rfl⟩
      rw [← hv] at p0 p1 hzj
      dsimp only at hzj
      obtain ⟨z0, z1⟩ := hzj
      have Hv := Lib.hid hv
      clear hv
      go_wp2_with fail
      refine (specLess_any v1 v0 _ (by omega) (by omega)).mono ?_
      rintro e w2 ⟨rfl, rfl⟩
      have hW2 := (hW.alloc hW.size (.cells #[.string v0, .string v1] 68))
      obtain ⟨r, hrr⟩ : ∃ r', r' = lessW v1 v0 := ⟨_, rfl⟩
      rw [← hrr]
      have HR : Hid (fallsOk (v0, v1) = r) := hrr.symm
      clear hrr
      cases r
      · go_wp2_with fail
        go_ret
        refine ⟨ret_bool ?_, hW2⟩
        have hall : xs.all fallsOk = false := by
          rw [List.all_eq_false]
          exact ⟨xs[j], List.getElem_mem hlt, by rw [← Hv.out, HR.out]; simp⟩
        rw [systemOk, hall, Bool.and_false]
      · go_wp2_with fail
        go_roundw
        case rel => exact ⟨j + 1, by omega, by go_num, by unfold Hid; rw [List.take_succ_eq_append_getElem hlt, List.all_append, HA.out, List.all_cons, ← Hv.out, HR.out]; rfl, hW2⟩
        case measure => simp [intOf]; omega
    · have : j = xs.length := by omega
      subst this
      have hall : xs.all fallsOk = true := by have := HA.out; rwa [List.take_length] at this
      have Hall := Lib.hid hall
      clear hall
      go_wp2_with fail
      go_ret
      exact ⟨ret_bool (by rw [systemOk, Hall.out, ← H1.out]; rfl), hW⟩

set_option maxRecDepth 100000 in
set_option maxHeartbeats 1000000 in
theorem systemOk1_any (x : RuleT) (w : World) (hx : x.1.size ≤ 1048576 ∧ x.2.size ≤ 1048576) :
    Calls Tryz.prog 43 (#[evRule x] ++ #[]) w (Kept w (.bool (!fallsOk x))) := by
  obtain ⟨v0, v1⟩ := x
  dsimp only at hx
  obtain ⟨z0, z1⟩ := hx
  show Calls Tryz.prog 43 #[.agg #[.string v0, .string v1]] w _
  have hW : Below w.heap.size w (w.alloc (.cells #[.string v0, .string v1] 68)) := (Below.refl _ _).alloc (Nat.le_refl _) _
  go_enter Tryz.func43, Tryz.ntmps43
  go_wp2_with fail
  refine (implLess_any v1 v0 _ (by omega) (by omega)).mono ?_
  rintro e w' ⟨rfl, b1⟩
  obtain ⟨r, hrr⟩ : ∃ r', r' = (lessW v1 v0) := ⟨_, rfl⟩
  rw [← hrr]
  have HR := Lib.hid hrr
  clear hrr
  go_wp2_with fail
  go_ret
  exact ⟨ret_bool (by rw [fallsOk, ← HR.out]), hW.trans (b1.mono hW.size)⟩

theorem all_not_falls (xs : List RuleT) : (!xs.any (fun x => !fallsOk x)) = xs.all fallsOk := by
  induction xs with
  | nil => rfl
  | cons x xs ih => simp only [List.any_cons, List.all_cons, Bool.not_or, ih, Bool.not_not]

set_option maxRecDepth 100000 in
set_option maxHeartbeats 1000000 in
theorem implSystemOk_any (l : Int) (A : Option Addr) (n c : Nat) (xs : List RuleT) (w : World) (hr : Rd w A (cellsRule xs)) (hn : n = xs.length) (hb : n ≤ 1048576) (hz : ∀ x ∈ xs, x.1.size ≤ 1048576 ∧ x.2.size ≤ 1048576) :
    Calls Tryz.prog 18 #[.agg #[.int .i64 l, .slice A n c]] w (Kept w (.bool (systemOk l xs))) := by
  have hmf : ∀ (fn : Fn) (first cap : Array Value) (w : World), (Instr.makeFunc fn first cap).run Tryz.prog w = .ok (.func fn first cap) w := fun _ _ _ _ => rfl
  have eg := enters_of Tryz.func43 (by kernel_rfl) rfl
  have hW : Below w.heap.size w (w.alloc (.cells #[.int .i64 l, .slice A n c] 25)) := (Below.refl _ _).alloc (Nat.le_refl _) _
  have hB := Bk.new w 25 #[.int .i64 l, .slice A n c]
  have hrk := hr.keep hW
  clear hr
  have Hz := Lib.hid hz
  clear hz
  have Hn := Lib.hid hn
  clear hn
  have HB := Lib.hid hB
  clear hB
  go_enter Tryz.func18, Tryz.ntmps18
  go_wp2_with fail
  refine (implRulesOk_any l A n c xs _ hrk Hn.out hb Hz.out).mono ?_
  rintro e w1 ⟨rfl, b1⟩
  have hS := HB.out.below b1 HB.out.lt
  have hW1 := hW.trans (b1.mono hW.size)
  have s1 : w1.cell? ⟨w.heap.size, 1, none⟩ = some (.slice A n c) := by rw [hS.cell]; rfl
  have sl := hS.lt
  have hrk1 := hrk.keep b1
  clear hS hrk
  obtain ⟨r1, hrr⟩ : ∃ r', r' = (rulesOk l xs) := ⟨_, rfl⟩
  rw [← hrr]
  have H1 := Lib.hid hrr
  clear hrr
  cases r1
  · go_wp2_with fail
    go_ret
    exact ⟨ret_bool (by rw [systemOk, ← H1.out]; rfl), hW1⟩
  go_wp2_with fail
  refine (containsFunc_Rule A n c xs _ #[] (fun p => !fallsOk p) _ eg hrk1 Hn.out (by omega) (fun W x hx _ => systemOk1_any x W (Hz.out x hx))).mono ?_
  rintro e w2 ⟨rfl, b2⟩
  obtain ⟨r, hrr⟩ : ∃ r', r' = (xs.any (fun p => !fallsOk p)) := ⟨_, rfl⟩
  rw [← hrr]
  have HR := Lib.hid hrr
  clear hrr
  go_wp2_with fail
  go_ret
  exact ⟨ret_bool (by rw [systemOk, ← H1.out, HR.out, all_not_falls]; rfl), hW1.trans (b2.mono hW1.size)⟩

end Go.Proofs.YteafeecndghapaaGreat

/- Walks over the laws' helpers for impl.Step: eqStep, eqStepS, markStepS, heldStepS and the readings of slices of them. -/
namespace Go.Proofs.YteafeecndghapaaGreat
open Go.RowKit Go.Shelf

abbrev StepT : Type := Int × Int
def encStep (x : StepT) : List Value := [.int .i64 x.1, .int .i64 x.2]
def cellsStep (xs : List StepT) : List Value := xs.flatMap encStep
theorem info_Step : (Tryz.prog.info? 56).map (fun i => (i.zero, i.size, i.bytes)) = some (some (.agg #[.int .i64 0, .int .i64 0]), 2, 16) := by kernel_rfl

/-- The cells of element k. -/
theorem rd_Step {w : World} {A : Option Addr} {xs : List StepT} (h : Rd w A (cellsStep xs)) {k : Nat} (hk : k < xs.length) : ∃ b off, A = some ⟨b, off, none⟩ ∧ b < w.heap.size ∧
    w.cell? ⟨b, off + k * 2, none⟩ = some (.int .i64 xs[k].1) ∧ w.cell? ⟨b, off + k * 2 + 1, none⟩ = some (.int .i64 xs[k].2) := by
  have f0 := flat_get (enc := encStep) (m := 2) (fun _ => rfl) xs k 0 hk (by omega)
  obtain ⟨b, off, e, hb, hc⟩ := h (by intro e; unfold cellsStep at e; rw [e] at f0; cases f0)
  refine ⟨b, off, e, hb, ?_, ?_⟩
  · exact hc (k * 2) _ f0
  · exact hc (k * 2 + 1) _ (flat_get (enc := encStep) (m := 2) (fun _ => rfl) xs k 1 hk (by omega))





end Go.Proofs.YteafeecndghapaaGreat

/- Plain words for steps: the steps of a word, the first one, the last one, and the word after a step. No walk, no condition. -/
namespace Go.Proofs.YteafeecndghapaaGreat
open Go.RowKit Go.Shelf

/-- The word s has the part l at place p. -/
def hasAt (s l : ByteArray) (p : Nat) : Bool := decide (l.size + p ≤ s.size) && ((s.extract p (p + l.size)).toList == l.toList)
def ruleAt (rs : List RuleT) (k : Nat) : RuleT := rs.getD k (⟨#[]⟩, ⟨#[]⟩)
def hitAt (rs : List RuleT) (s : ByteArray) (p k : Nat) : Bool := hasAt s (ruleAt rs k).1 p
/-- The steps at place p with the first j rules. -/
def stepRow (rs : List RuleT) (s : ByteArray) (p j : Nat) : List StepT := ((List.range j).filter (hitAt rs s p)).map fun k : Nat => ((k : Int), (p : Int))
/-- The steps at the first i places. -/
def stepAcc (rs : List RuleT) (s : ByteArray) (i : Nat) : List StepT := (List.range i).flatMap fun p => stepRow rs s p rs.length
def stepTo (rs : List RuleT) (s : ByteArray) (i j : Nat) : List StepT := stepAcc rs s i ++ stepRow rs s i j
/-- StepsOf, in plain words. -/
def stepsOf (l : Int) (rs : List RuleT) (s : ByteArray) : List StepT := if rulesOk l rs then stepAcc rs s s.size else []

theorem stepRow_zero (rs : List RuleT) (s : ByteArray) (p : Nat) : stepRow rs s p 0 = [] := rfl
theorem stepTo_zero (rs : List RuleT) (s : ByteArray) (i : Nat) : stepTo rs s i 0 = stepAcc rs s i := by rw [stepTo, stepRow_zero, List.append_nil]
theorem stepAcc_zero (rs : List RuleT) (s : ByteArray) : stepAcc rs s 0 = [] := rfl
theorem stepAcc_succ (rs : List RuleT) (s : ByteArray) (i : Nat) : stepAcc rs s (i + 1) = stepTo rs s i rs.length := by
  rw [stepAcc, List.range_succ, List.flatMap_append, stepTo]; simp [stepAcc]
theorem stepRow_yes {rs : List RuleT} {s : ByteArray} {p j : Nat} (h : hitAt rs s p j = true) : stepRow rs s p (j + 1) = stepRow rs s p j ++ [((j : Int), (p : Int))] := by
  rw [stepRow, List.range_succ, List.filter_append, List.map_append]; simp [stepRow, h]
theorem stepRow_no {rs : List RuleT} {s : ByteArray} {p j : Nat} (h : hitAt rs s p j = false) : stepRow rs s p (j + 1) = stepRow rs s p j := by
  rw [stepRow, List.range_succ, List.filter_append, List.map_append]; simp [stepRow, h]
theorem stepTo_yes {rs : List RuleT} {s : ByteArray} {i j : Nat} (h : hitAt rs s i j = true) : stepTo rs s i (j + 1) = stepTo rs s i j ++ [((j : Int), (i : Int))] := by
  rw [stepTo, stepRow_yes h, stepTo, List.append_assoc]
theorem stepTo_no {rs : List RuleT} {s : ByteArray} {i j : Nat} (h : hitAt rs s i j = false) : stepTo rs s i (j + 1) = stepTo rs s i j := by
  rw [stepTo, stepRow_no h, stepTo]
theorem stepRow_len (rs : List RuleT) (s : ByteArray) (p j : Nat) : (stepRow rs s p j).length ≤ j := by
  rw [stepRow, List.length_map]
  exact Nat.le_trans (List.length_filter_le _ _) (by simp)
theorem stepAcc_len (rs : List RuleT) (s : ByteArray) (i : Nat) : (stepAcc rs s i).length ≤ i * rs.length := by
  induction i with
  | zero => simp [stepAcc]
  | succ i ih =>
    rw [stepAcc_succ, stepTo, List.length_append, Nat.succ_mul]
    have := stepRow_len rs s i rs.length
    omega
theorem stepTo_len (rs : List RuleT) (s : ByteArray) (i j : Nat) (hr : rs.length ≤ 12) (hj : j ≤ 12) : (stepTo rs s i j).length ≤ i * 12 + 12 := by
  rw [stepTo, List.length_append]
  have h1 := stepAcc_len rs s i
  have h2 := stepRow_len rs s i j
  have h3 : i * rs.length ≤ i * 12 := Nat.mul_le_mul_left i hr
  omega
theorem cellsStep_snoc (xs : List StepT) (k p : Int) : cellsStep (xs ++ [(k, p)]) = cellsStep xs ++ [.int .i64 k, .int .i64 p] := by simp [cellsStep, encStep]
theorem rulesOk_12 {l : Int} {rs : List RuleT} (h : rulesOk l rs = true) : rs.length ≤ 12 := by
  unfold rulesOk at h
  simp only [Bool.and_eq_true, decide_eq_true_eq] at h
  exact h.1.2
theorem rulesOk_side {l : Int} {rs : List RuleT} (h : rulesOk l rs = true) {r : RuleT} (hr : r ∈ rs) : r.1.size ≤ 8 ∧ r.2.size ≤ 8 ∧ r.1.toList.isEmpty = false := by
  unfold rulesOk at h
  simp only [Bool.and_eq_true] at h
  have h2 := List.all_eq_true.1 h.2 r hr
  unfold ruleOk sidesOk at h2
  simp only [Bool.and_eq_true, decide_eq_true_eq] at h2
  exact ⟨h2.1.1.2, h2.1.2, by simpa using h2.2⟩
theorem ruleAt_get {rs : List RuleT} {k : Nat} (h : k < rs.length) : ruleAt rs k = rs[k] := by simp [ruleAt, h]

/-- The first step, by place and then by rule. -/
def firstS (rs : List RuleT) (s : ByteArray) : Option StepT := (stepAcc rs s s.size).head?
/-- The step of the first i places with the greatest place and the least rule there. -/
def lastTo (rs : List RuleT) (s : ByteArray) : Nat → Option StepT
  | 0 => none
  | i + 1 => (stepRow rs s i rs.length).head?.or (lastTo rs s i)
def lastS (rs : List RuleT) (s : ByteArray) : Option StepT := lastTo rs s s.size

theorem stepRow_head_lt {rs : List RuleT} {s : ByteArray} {p j : Nat} (hj : j < rs.length) (hn : stepRow rs s p j = []) (h : hitAt rs s p j = true) : (stepRow rs s p rs.length).head? = some ((j : Int), (p : Int)) := by
  obtain ⟨d, hd⟩ : ∃ d, rs.length = (j + 1) + d := ⟨rs.length - (j + 1), by omega⟩
  rw [hd]
  clear hd hj
  induction d with
  | zero => rw [Nat.add_zero, stepRow_yes h, hn]; rfl
  | succ d ih =>
    rw [← Nat.add_assoc]
    cases hh : hitAt rs s p (j + 1 + d)
    · rw [stepRow_no hh, ih]
    · rw [stepRow_yes hh, List.head?_append, ih]; rfl
theorem stepAcc_head_lt {rs : List RuleT} {s : ByteArray} {i n : Nat} (hi : i < n) (hn : stepAcc rs s i = []) {x : StepT} (h : (stepRow rs s i rs.length).head? = some x) : (stepAcc rs s n).head? = some x := by
  obtain ⟨d, rfl⟩ : ∃ d, n = (i + 1) + d := ⟨n - (i + 1), by omega⟩
  clear hi
  induction d with
  | zero => rw [Nat.add_zero, stepAcc_succ, stepTo, hn]; exact h
  | succ d ih => rw [← Nat.add_assoc, stepAcc_succ, stepTo, List.head?_append, ih]; rfl
theorem firstS_some {rs : List RuleT} {s : ByteArray} {i j : Nat} (hi : i < s.size) (hj : j < rs.length) (ha : stepAcc rs s i = []) (hn : stepRow rs s i j = []) (h : hitAt rs s i j = true) : firstS rs s = some ((j : Int), (i : Int)) :=
  stepAcc_head_lt hi ha (stepRow_head_lt hj hn h)
theorem firstS_none {rs : List RuleT} {s : ByteArray} (ha : stepAcc rs s s.size = []) : firstS rs s = none := by rw [firstS, ha]; rfl
theorem stepAcc_next {rs : List RuleT} {s : ByteArray} {i : Nat} (ha : stepAcc rs s i = []) (hr : stepRow rs s i rs.length = []) : stepAcc rs s (i + 1) = [] := by rw [stepAcc_succ, stepTo, ha, hr]; rfl

/-- ReplaceAt, in plain words. -/
def replOk (s : ByteArray) (p n : Int) (by_ : ByteArray) : Bool := decide (0 ≤ p) && decide (0 ≤ n) && decide (p ≤ s.size) && decide (n ≤ (s.size : Int) - p) && decide ((s.size : Int) - n + by_.size ≤ 16)
def replS (s : ByteArray) (p n : Int) (by_ : ByteArray) : ByteArray := if replOk s p n by_ then s.extract 0 p.toNat ++ by_ ++ s.extract (p + n).toNat s.size else ⟨#[]⟩
theorem replS_no {s : ByteArray} {p n : Int} {by_ : ByteArray} (h : replOk s p n by_ = false) : replS s p n by_ = ⟨#[]⟩ := by rw [replS, h]; rfl
theorem replS_yes {s : ByteArray} {p n : Int} {by_ : ByteArray} (h : replOk s p n by_ = true) : replS s p n by_ = s.extract 0 p.toNat ++ by_ ++ s.extract (p + n).toNat s.size := by rw [replS, h]; rfl

/-- The word after a step with rule k at place p, unless it is too long. -/
def applyOk (rs : List RuleT) (s : ByteArray) (x : StepT) : Bool := replOk s x.2 (ruleAt rs x.1.toNat).1.size (ruleAt rs x.1.toNat).2
def applyS (rs : List RuleT) (s : ByteArray) (x : StepT) : ByteArray := replS s x.2 (ruleAt rs x.1.toNat).1.size (ruleAt rs x.1.toNat).2

end Go.Proofs.YteafeecndghapaaGreat
