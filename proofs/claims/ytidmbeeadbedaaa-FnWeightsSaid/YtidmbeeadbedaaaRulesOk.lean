/- Walks over RulesOk (the program's and the reference's): each returns what rulesOk says, for all arguments. -/
import Derived.Test.YtidmbeeadbedaaaMg6
import Derived.Test.YtidmbeeadbedaaaMg7
namespace Go.Proofs.Ytidmbeeadbedaaa
open Go.RowKit Go.Shelf

def ruleOk (l : Int) (r : RuleT) : Bool := sidesOk l r.1 r.2 && !r.1.toList.isEmpty
/-- RulesOk, in plain words. -/
def rulesOk (l : Int) (rs : List RuleT) : Bool := inB l 1 4 && decide (rs.length ≤ 12) && rs.all (ruleOk l)

set_option maxRecDepth 100000 in
set_option maxHeartbeats 1000000 in
theorem specRulesOk_any (l : Int) (A : Option Addr) (n c : Nat) (xs : List RuleT) (w : World) (hr : Rd w A (cellsRule xs)) (hn : n = xs.length) (hb : n ≤ 1048576) (hz : ∀ x ∈ xs, x.1.size ≤ 1048576 ∧ x.2.size ≤ 1048576) :
    Calls Try.prog 78 #[.agg #[.int .i64 l, .slice A n c]] w (Kept w (.bool (rulesOk l xs))) := by
  subst hn
  have hW : Below w.heap.size w (w.alloc (.cells #[.int .i64 l, .slice A xs.length c] 25)) := (Below.refl _ _).alloc (Nat.le_refl _) _
  have hB := Bk.new w 25 #[.int .i64 l, .slice A xs.length c]
  have Hz := Lib.hid hz
  clear hz
  have HB := Lib.hid hB
  clear hB
  have Hr := Lib.hid hr
  clear hr
  go_enter Try.func78, Try.ntmps78
  go_wp2_with fail
  refine (l01In_any l 1 4 _).mono ?_
  rintro e w' ⟨rfl, rfl⟩
  obtain ⟨r1, hrr⟩ : ∃ r', r' = (inB l 1 4) := ⟨_, rfl⟩
  rw [← hrr]
  have H1 := Lib.hid hrr
  clear hrr
  cases r1
  · go_wp2_with fail
    go_ret
    exact ⟨ret_bool (by rw [rulesOk, ← H1.out]; rfl), hW⟩
  by_cases h12 : xs.length ≤ 12
  · go_wp2_with fail
    go_loopw [18] (fun i wr => ∃ (j : Nat), j ≤ xs.length ∧ i = .int .i64 j ∧ Hid ((xs.take j).all (ruleOk l) = true) ∧ Bk wr w.heap.size 25 #[.int .i64 l, .slice A xs.length c] ∧ Below w.heap.size w wr) (fun i _ => xs.length - (intOf i).toNat)
    case atStart => exact ⟨0, Nat.zero_le _, rfl, by simp [Hid], HB.out, hW⟩
    case round =>
      clear hW
      obtain ⟨j, hj, rfl, HA, hS, hW⟩ := hrel
      by_cases hlt : j < xs.length
      · obtain ⟨b, o, rfl, hbl, p0, p1⟩ := rd_Rule (Hr.out.keep hW) hlt
        have hzj := Hz.out xs[j] (List.getElem_mem hlt)
        obtain ⟨⟨v0, v1⟩, hv⟩ : ∃ v, v = xs[j] := ⟨_, rfl⟩
        rw [← hv] at p0 p1 hzj
        dsimp only at hzj
        obtain ⟨z0, z1⟩ := hzj
        have s0 : wr.cell? ⟨w.heap.size, 0, none⟩ = some (.int .i64 l) := by rw [hS.cell]; rfl
        have sl := hS.lt
        have Hv := Lib.hid hv
        clear hv
        have HS := Lib.hid hS
        clear hS
        go_wp2_with fail
        refine (specSides_any l v0 v1 _ (by omega) (by omega)).mono ?_
        rintro e w1 ⟨rfl, b1⟩
        have hW2 := (hW.alloc hW.size (.cells #[.string v0, .string v1] 156))
        have hW3 := hW2.trans (b1.mono hW2.size)
        have hS3 := (HS.out.alloc (.cells #[.string v0, .string v1] 156)).below b1 (by simp; omega)
        have hR := (Bk.new wr 156 #[.string v0, .string v1]).below b1 (by simp)
        have q0 : w1.cell? ⟨wr.heap.size, 0, none⟩ = some (.string v0) := by rw [hR.cell]; rfl
        have ql := hR.lt
        clear hR
        obtain ⟨r, hrr⟩ : ∃ r', r' = (sidesOk l v0 v1) := ⟨_, rfl⟩
        rw [← hrr]
        have HR := Lib.hid hrr
        clear hrr
        cases r
        · go_wp2_with fail
          go_ret
          refine ⟨ret_bool ?_, hW3⟩
          have hall : xs.all (ruleOk l) = false := by
            rw [List.all_eq_false]
            exact ⟨xs[j], List.getElem_mem hlt, by rw [← Hv.out, ruleOk, ← HR.out]; simp⟩
          rw [rulesOk, hall, Bool.and_false]
        · by_cases h0 : v0.toList.isEmpty = true
          · have e0 := h0
            go_wp2_with fail
            go_ret
            refine ⟨ret_bool ?_, hW3⟩
            have hall : xs.all (ruleOk l) = false := by
              rw [List.all_eq_false]
              exact ⟨xs[j], List.getElem_mem hlt, by rw [← Hv.out, ruleOk]; simp [h0]⟩
            rw [rulesOk, hall, Bool.and_false]
          · have e0 : v0.toList.isEmpty = false := by simpa using h0
            go_wp2_with fail
            go_roundw
            case rel => exact ⟨j + 1, by omega, by go_num, by unfold Hid; rw [List.take_succ_eq_append_getElem hlt, List.all_append, HA.out, List.all_cons, ← Hv.out, ruleOk, ← HR.out, e0]; rfl, hS3, hW3⟩
            case measure => simp [intOf]; omega
      · have : j = xs.length := by omega
        subst this
        have hall : xs.all (ruleOk l) = true := by have := HA.out; rwa [List.take_length] at this
        have Hall := Lib.hid hall
        clear hall
        go_wp2_with fail
        go_ret
        exact ⟨ret_bool (by rw [rulesOk, Hall.out, ← H1.out, decide_eq_true h12]; rfl), hW⟩
  · go_wp2_with fail
    go_ret
    exact ⟨ret_bool (by rw [rulesOk, decide_eq_false h12]; simp), hW⟩

set_option maxRecDepth 100000 in
set_option maxHeartbeats 1000000 in
theorem rulesOk1_any (l : Int) (v : Value) (b : Nat) (x : RuleT) (w : World) (hx : x.1.size ≤ 1048576 ∧ x.2.size ≤ 1048576)
    (hS : Bk w b 25 #[.int .i64 l, v]) :
    Calls Try.prog 152 (#[evRule x] ++ #[.pointer (some ⟨b, 0, none⟩)]) w (Kept w (.bool (!ruleOk l x))) := by
  obtain ⟨v0, v1⟩ := x
  dsimp only at hx
  obtain ⟨z0, z1⟩ := hx
  show Calls Try.prog 152 #[.agg #[.string v0, .string v1], .pointer (some ⟨b, 0, none⟩)] w _
  have hW : Below w.heap.size w (w.alloc (.cells #[.string v0, .string v1] 156)) := (Below.refl _ _).alloc (Nat.le_refl _) _
  have s0 : w.cell? ⟨b, 0, none⟩ = some (.int .i64 l) := by rw [hS.cell]; rfl
  have sl := hS.lt
  have HS := Lib.hid hS
  clear hS
  go_enter Try.func152, Try.ntmps152
  go_wp2_with fail
  refine (implSides_any l v0 v1 _ (by omega) (by omega)).mono ?_
  rintro e w1 ⟨rfl, b1⟩
  have hR := (Bk.new w 156 #[.string v0, .string v1]).below b1 (by simp)
  have q0 : w1.cell? ⟨w.heap.size, 0, none⟩ = some (.string v0) := by rw [hR.cell]; rfl
  have ql := hR.lt
  clear hR
  obtain ⟨r, hrr⟩ : ∃ r', r' = (sidesOk l v0 v1) := ⟨_, rfl⟩
  rw [← hrr]
  have HR := Lib.hid hrr
  clear hrr
  have hW2 := hW.trans (b1.mono hW.size)
  cases r
  · go_wp2_with fail
    go_ret
    exact ⟨ret_bool (by rw [ruleOk, ← HR.out]; rfl), hW2⟩
  · by_cases h0 : v0.toList.isEmpty = true
    · have e0 := h0
      go_wp2_with fail
      go_ret
      exact ⟨ret_bool (by rw [ruleOk, ← HR.out, h0]; rfl), hW2⟩
    · have e0 : v0.toList.isEmpty = false := by simpa using h0
      go_wp2_with fail
      go_ret
      exact ⟨ret_bool (by rw [ruleOk, ← HR.out, e0]; rfl), hW2⟩

theorem all_not_rule (l : Int) (xs : List RuleT) : (!xs.any (fun x => !ruleOk l x)) = xs.all (ruleOk l) := by
  induction xs with
  | nil => rfl
  | cons x xs ih => simp only [List.any_cons, List.all_cons, Bool.not_or, ih, Bool.not_not]

set_option maxRecDepth 100000 in
set_option maxHeartbeats 1000000 in
theorem implRulesOk_any (l : Int) (A : Option Addr) (n c : Nat) (xs : List RuleT) (w : World) (hr : Rd w A (cellsRule xs)) (hn : n = xs.length) (hb : n ≤ 1048576) (hz : ∀ x ∈ xs, x.1.size ≤ 1048576 ∧ x.2.size ≤ 1048576) :
    Calls Try.prog 95 #[.agg #[.int .i64 l, .slice A n c]] w (Kept w (.bool (rulesOk l xs))) := by
  have hmf : ∀ (fn : Fn) (first cap : Array Value) (w : World), (Instr.makeFunc fn first cap).run Try.prog w = .ok (.func fn first cap) w := fun _ _ _ _ => rfl
  have eg := enters_of Try.func152 (by kernel_rfl) rfl
  have hW : Below w.heap.size w (w.alloc (.cells #[.int .i64 l, .slice A n c] 25)) := (Below.refl _ _).alloc (Nat.le_refl _) _
  have hrk := hr.keep hW
  have hB := Bk.new w 25 #[.int .i64 l, .slice A n c]
  clear hr
  have Hz := Lib.hid hz
  clear hz
  have Hn := Lib.hid hn
  clear hn
  have HB := Lib.hid hB
  clear hB
  go_enter Try.func95, Try.ntmps95
  go_wp2_with fail
  go_wp2_with fail
  refine (within_any l 1 4 _).mono ?_
  rintro e w' ⟨rfl, rfl⟩
  obtain ⟨r1, hrr⟩ : ∃ r', r' = (inB l 1 4) := ⟨_, rfl⟩
  rw [← hrr]
  have H1 := Lib.hid hrr
  clear hrr
  cases r1
  · go_wp2_with fail
    go_ret
    exact ⟨ret_bool (by rw [rulesOk, ← H1.out]; rfl), hW⟩
  by_cases h12 : n ≤ 12
  · go_wp2_with fail
    refine (containsFunc_Rule A n c xs _ #[.pointer (some ⟨w.heap.size, 0, none⟩)] (fun p => !ruleOk l p) _ eg hrk Hn.out (by omega) (fun W x hx hS => rulesOk1_any l (.slice A n c) w.heap.size x W (Hz.out x hx) (HB.out.below hS HB.out.lt))).mono ?_
    rintro e w1 ⟨rfl, b1⟩
    obtain ⟨r, hrr⟩ : ∃ r', r' = (xs.any (fun p => !ruleOk l p)) := ⟨_, rfl⟩
    rw [← hrr]
    have HR := Lib.hid hrr
    clear hrr
    go_wp2_with fail
    go_ret
    exact ⟨ret_bool (by rw [rulesOk, ← Hn.out, ← H1.out, decide_eq_true h12, HR.out, all_not_rule]; rfl), hW.trans (b1.mono hW.size)⟩
  · go_wp2_with fail
    go_ret
    exact ⟨ret_bool (by rw [rulesOk, ← Hn.out, decide_eq_false h12]; simp), hW⟩

end Go.Proofs.Ytidmbeeadbedaaa
