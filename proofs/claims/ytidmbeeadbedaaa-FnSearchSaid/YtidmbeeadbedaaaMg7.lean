/- Merged texts: a claim has a limit of files. -/
import Derived.Test.YtidmbeeadbedaaaRulesOk
import Derived.Test.YtidmbeeadbedaaaLess
import Derived.Test.YtidmbeeadbedaaaMg3
import Derived.Test.YtidmbeeadbedaaaMg1

/- Walks over SystemOk (the program's and the reference's): each returns what systemOk says, for all arguments. -/
namespace Go.Proofs.Ytidmbeeadbedaaa
open Go.RowKit Go.Shelf

def fallsOk (r : RuleT) : Bool := lessW r.2 r.1
/-- SystemOk, in plain words. -/
def systemOk (l : Int) (rs : List RuleT) : Bool := rulesOk l rs && rs.all fallsOk

set_option maxRecDepth 100000 in
set_option maxHeartbeats 1000000 in
theorem specSystemOk_any (l : Int) (A : Option Addr) (n c : Nat) (xs : List RuleT) (w : World) (hr : Rd w A (cellsRule xs)) (hn : n = xs.length) (hb : n ≤ 1048576) (hz : ∀ x ∈ xs, x.1.size ≤ 1048576 ∧ x.2.size ≤ 1048576) :
    Calls Try.prog 62 #[.agg #[.int .i64 l, .slice A n c]] w (Kept w (.bool (systemOk l xs))) := by
  subst hn
  have hW : Below w.heap.size w (w.alloc (.cells #[.int .i64 l, .slice A xs.length c] 25)) := (Below.refl _ _).alloc (Nat.le_refl _) _
  have hB := Bk.new w 25 #[.int .i64 l, .slice A xs.length c]
  have Hz := Lib.hid hz
  clear hz
  have HB := Lib.hid hB
  clear hB
  have Hr := Lib.hid hr
  clear hr
  go_enter Try.func62, Try.ntmps62
  go_wp2_with fail
  refine (specRulesOk_any l A xs.length c xs _ (Hr.out.keep hW) rfl hb Hz.out).mono ?_
  rintro e w1 ⟨rfl, b1⟩
  have hS := HB.out.below b1 HB.out.lt
  have hW1 := hW.trans (b1.mono hW.size)
  have s1 : w1.cell? ⟨w.heap.size, 1, none⟩ = some (.slice A xs.length c) := by rw [hS.cell]; rfl
  have sl := hS.lt
  obtain ⟨r1, hrr⟩ : ∃ r', r' = (rulesOk l xs) := ⟨_, rfl⟩
  rw [← hrr]
  have H1 := Lib.hid hrr
  clear hrr
  cases r1
  · go_wp2_with fail
    go_ret
    exact ⟨ret_bool (by rw [systemOk, ← H1.out]; rfl), hW1⟩
  clear hW b1
  have HS := Lib.hid hS
  clear hS
  go_wp2_with fail
  go_loopw [11] (fun i wr => ∃ (j : Nat), j ≤ xs.length ∧ i = .int .i64 j ∧ Hid ((xs.take j).all fallsOk = true) ∧ Below w.heap.size w wr) (fun i _ => xs.length - (intOf i).toNat)
  case atStart => exact ⟨0, Nat.zero_le _, rfl, by simp [Hid], hW1⟩
  case round =>
    clear hW1 s1 sl
    obtain ⟨j, hj, rfl, HA, hW⟩ := hrel
    by_cases hlt : j < xs.length
    · obtain ⟨b, o, rfl, hbl, p0, p1⟩ := rd_Rule (Hr.out.keep hW) hlt
      have hzj := Hz.out xs[j] (List.getElem_mem hlt)
      obtain ⟨⟨v0, v1⟩, hv⟩ : ∃ v, v = xs[j] := ⟨_, rfl⟩
      rw [← hv] at p0 p1 hzj
      dsimp only at hzj
      obtain ⟨z0, z1⟩ := hzj
      have Hv := Lib.hid hv
      clear hv
      go_wp2_with fail
      refine (specLess_any v1 v0 _ (by omega) (by omega)).mono ?_
      rintro e w2 ⟨rfl, rfl⟩
      have hW2 := (hW.alloc hW.size (.cells #[.string v0, .string v1] 156))
      obtain ⟨r, hrr⟩ : ∃ r', r' = lessW v1 v0 := ⟨_, rfl⟩
      rw [← hrr]
      have HR : Hid (fallsOk (v0, v1) = r) := hrr.symm
      clear hrr
      cases r
      · go_wp2_with fail
        go_ret
        refine ⟨ret_bool ?_, hW2⟩
        have hall : xs.all fallsOk = false := by
          rw [List.all_eq_false]
          exact ⟨xs[j], List.getElem_mem hlt, by rw [← Hv.out, HR.out]; simp⟩
        rw [systemOk, hall, Bool.and_false]
      · go_wp2_with fail
        go_roundw
        case rel => exact ⟨j + 1, by omega, by go_num, by unfold Hid; rw [List.take_succ_eq_append_getElem hlt, List.all_append, HA.out, List.all_cons, ← Hv.out, HR.out]; rfl, hW2⟩
        case measure => simp [intOf]; omega
    · have : j = xs.length := by omega
      subst this
      have hall : xs.all fallsOk = true := by have := HA.out; rwa [List.take_length] at this
      have Hall := Lib.hid hall
      clear hall
      go_wp2_with fail
      go_ret
      exact ⟨ret_bool (by rw [systemOk, Hall.out, ← H1.out]; rfl), hW⟩

end Go.Proofs.Ytidmbeeadbedaaa

/- Plain words for steps: the steps of a word, the first one, the last one, and the word after a step. No walk, no condition. -/
namespace Go.Proofs.Ytidmbeeadbedaaa
open Go.RowKit Go.Shelf

/-- The word s has the part l at place p. -/
def hasAt (s l : ByteArray) (p : Nat) : Bool := decide (l.size + p ≤ s.size) && ((s.extract p (p + l.size)).toList == l.toList)
def ruleAt (rs : List RuleT) (k : Nat) : RuleT := rs.getD k (⟨#[]⟩, ⟨#[]⟩)
theorem rulesOk_12 {l : Int} {rs : List RuleT} (h : rulesOk l rs = true) : rs.length ≤ 12 := by
  unfold rulesOk at h
  simp only [Bool.and_eq_true, decide_eq_true_eq] at h
  exact h.1.2
theorem rulesOk_side {l : Int} {rs : List RuleT} (h : rulesOk l rs = true) {r : RuleT} (hr : r ∈ rs) : r.1.size ≤ 8 ∧ r.2.size ≤ 8 ∧ r.1.toList.isEmpty = false := by
  unfold rulesOk at h
  simp only [Bool.and_eq_true] at h
  have h2 := List.all_eq_true.1 h.2 r hr
  unfold ruleOk sidesOk at h2
  simp only [Bool.and_eq_true, decide_eq_true_eq] at h2
  exact ⟨h2.1.1.2, h2.1.2, by simpa using h2.2⟩
theorem ruleAt_get {rs : List RuleT} {k : Nat} (h : k < rs.length) : ruleAt rs k = rs[k] := by simp [ruleAt, h]

/-- ReplaceAt, in plain words. -/
def replOk (s : ByteArray) (p n : Int) (by_ : ByteArray) : Bool := decide (0 ≤ p) && decide (0 ≤ n) && decide (p ≤ s.size) && decide (n ≤ (s.size : Int) - p) && decide ((s.size : Int) - n + by_.size ≤ 16)
def replS (s : ByteArray) (p n : Int) (by_ : ByteArray) : ByteArray := if replOk s p n by_ then s.extract 0 p.toNat ++ by_ ++ s.extract (p + n).toNat s.size else ⟨#[]⟩
theorem replS_no {s : ByteArray} {p n : Int} {by_ : ByteArray} (h : replOk s p n by_ = false) : replS s p n by_ = ⟨#[]⟩ := by rw [replS, h]; rfl
theorem replS_yes {s : ByteArray} {p n : Int} {by_ : ByteArray} (h : replOk s p n by_ = true) : replS s p n by_ = s.extract 0 p.toNat ++ by_ ++ s.extract (p + n).toNat s.size := by rw [replS, h]; rfl

end Go.Proofs.Ytidmbeeadbedaaa
