/- Walks over SystemOk (the program's and the reference's): each returns what systemOk says, for all arguments. -/
import Derived.Test.YtidmbeeadbedaaaRulesOk
import Derived.Test.YtidmbeeadbedaaaLess
namespace Go.Proofs.Ytidmbeeadbedaaa
open Go.RowKit Go.Shelf

def fallsOk (r : RuleT) : Bool := lessW r.2 r.1
/-- SystemOk, in plain words. -/
def systemOk (l : Int) (rs : List RuleT) : Bool := rulesOk l rs && rs.all fallsOk

set_option maxRecDepth 100000 in
set_option maxHeartbeats 1000000 in
theorem specSystemOk_any (l : Int) (A : Option Addr) (n c : Nat) (xs : List RuleT) (w : World) (hr : Rd w A (cellsRule xs)) (hn : n = xs.length) (hb : n ≤ 1048576) (hz : ∀ x ∈ xs, x.1.size ≤ 1048576 ∧ x.2.size ≤ 1048576) :
    Calls Try.prog 62 #[.agg #[.int .i64 l, .slice A n c]] w (Kept w (.bool (systemOk l xs))) := by
  subst hn
  have hW : Below w.heap.size w (w.alloc (.cells #[.int .i64 l, .slice A xs.length c] 25)) := (Below.refl _ _).alloc (Nat.le_refl _) _
  have hB := Bk.new w 25 #[.int .i64 l, .slice A xs.length c]
  have Hz := Lib.hid hz
  clear hz
  have HB := Lib.hid hB
  clear hB
  have Hr := Lib.hid hr
  clear hr
  go_enter Try.func62, Try.ntmps62
  go_wp2_with fail
  refine (specRulesOk_any l A xs.length c xs _ (Hr.out.keep hW) rfl hb Hz.out).mono ?_
  rintro e w1 ⟨rfl, b1⟩
  have hS := HB.out.below b1 HB.out.lt
  have hW1 := hW.trans (b1.mono hW.size)
  have s1 : w1.cell? ⟨w.heap.size, 1, none⟩ = some (.slice A xs.length c) := by rw [hS.cell]; rfl
  have sl := hS.lt
  obtain ⟨r1, hrr⟩ : ∃ r', r' = (rulesOk l xs) := ⟨_, rfl⟩
  rw [← hrr]
  have H1 := Lib.hid hrr
  clear hrr
  cases r1
  · go_wp2_with fail
    go_ret
    exact ⟨ret_bool (by rw [systemOk, ← H1.out]; rfl), hW1⟩
  clear hW b1
  have HS := Lib.hid hS
  clear hS
  go_wp2_with fail
  go_loopw [11] (fun i wr => ∃ (j : Nat), j ≤ xs.length ∧ i = .int .i64 j ∧ Hid ((xs.take j).all fallsOk = true) ∧ Below w.heap.size w wr) (fun i _ => xs.length - (intOf i).toNat)
  case atStart => exact ⟨0, Nat.zero_le _, rfl, by simp [Hid], hW1⟩
  case round =>
    clear hW1 s1 sl
    obtain ⟨j, hj, rfl, HA, hW⟩ := hrel
    by_cases hlt : j < xs.length
    · obtain ⟨b, o, rfl, hbl, p0, p1⟩ := rd_Rule (Hr.out.keep hW) hlt
      have hzj := Hz.out xs[j] (List.getElem_mem hlt)
      obtain ⟨⟨v0, v1⟩, hv⟩ : ∃ v, v = xs[j] := ⟨_, rfl⟩
      rw [← hv] at p0 p1 hzj
      dsimp only at hzj
      obtain ⟨z0, z1⟩ := hzj
      have Hv := Lib.hid hv
      clear hv
      go_wp2_with fail
      refine (specLess_any v1 v0 _ (by omega) (by omega)).mono ?_
      rintro e w2 ⟨rfl, rfl⟩
      have hW2 := (hW.alloc hW.size (.cells #[.string v0, .string v1] 156))
      obtain ⟨r, hrr⟩ : ∃ r', r' = lessW v1 v0 := ⟨_, rfl⟩
      rw [← hrr]
      have HR : Hid (fallsOk (v0, v1) = r) := hrr.symm
      clear hrr
      cases r
      · go_wp2_with fail
        go_ret
        refine ⟨ret_bool ?_, hW2⟩
        have hall : xs.all fallsOk = false := by
          rw [List.all_eq_false]
          exact ⟨xs[j], List.getElem_mem hlt, by rw [← Hv.out, HR.out]; simp⟩
        rw [systemOk, hall, Bool.and_false]
      · go_wp2_with fail
        go_roundw
        case rel => exact ⟨j + 1, by omega, by go_num, by unfold Hid; rw [List.take_succ_eq_append_getElem hlt, List.all_append, HA.out, List.all_cons, ← Hv.out, HR.out]; rfl, hW2⟩
        case measure => simp [intOf]; omega
    · have : j = xs.length := by omega
      subst this
      have hall : xs.all fallsOk = true := by have := HA.out; rwa [List.take_length] at this
      have Hall := Lib.hid hall
      clear hall
      go_wp2_with fail
      go_ret
      exact ⟨ret_bool (by rw [systemOk, Hall.out, ← H1.out]; rfl), hW⟩

set_option maxRecDepth 100000 in
set_option maxHeartbeats 1000000 in
theorem systemOk1_any (x : RuleT) (w : World) (hx : x.1.size ≤ 1048576 ∧ x.2.size ≤ 1048576) :
    Calls Try.prog 135 (#[evRule x] ++ #[]) w (Kept w (.bool (!fallsOk x))) := by
  obtain ⟨v0, v1⟩ := x
  dsimp only at hx
  obtain ⟨z0, z1⟩ := hx
  show Calls Try.prog 135 #[.agg #[.string v0, .string v1]] w _
  have hW : Below w.heap.size w (w.alloc (.cells #[.string v0, .string v1] 156)) := (Below.refl _ _).alloc (Nat.le_refl _) _
  go_enter Try.func135, Try.ntmps135
  go_wp2_with fail
  refine (implLess_any v1 v0 _ (by omega) (by omega)).mono ?_
  rintro e w' ⟨rfl, b1⟩
  obtain ⟨r, hrr⟩ : ∃ r', r' = (lessW v1 v0) := ⟨_, rfl⟩
  rw [← hrr]
  have HR := Lib.hid hrr
  clear hrr
  go_wp2_with fail
  go_ret
  exact ⟨ret_bool (by rw [fallsOk, ← HR.out]), hW.trans (b1.mono hW.size)⟩

theorem all_not_falls (xs : List RuleT) : (!xs.any (fun x => !fallsOk x)) = xs.all fallsOk := by
  induction xs with
  | nil => rfl
  | cons x xs ih => simp only [List.any_cons, List.all_cons, Bool.not_or, ih, Bool.not_not]

set_option maxRecDepth 100000 in
set_option maxHeartbeats 1000000 in
theorem implSystemOk_any (l : Int) (A : Option Addr) (n c : Nat) (xs : List RuleT) (w : World) (hr : Rd w A (cellsRule xs)) (hn : n = xs.length) (hb : n ≤ 1048576) (hz : ∀ x ∈ xs, x.1.size ≤ 1048576 ∧ x.2.size ≤ 1048576) :
    Calls Try.prog 75 #[.agg #[.int .i64 l, .slice A n c]] w (Kept w (.bool (systemOk l xs))) := by
  have hmf : ∀ (fn : Fn) (first cap : Array Value) (w : World), (Instr.makeFunc fn first cap).run Try.prog w = .ok (.func fn first cap) w := fun _ _ _ _ => rfl
  have eg := enters_of Try.func135 (by kernel_rfl) rfl
  have hW : Below w.heap.size w (w.alloc (.cells #[.int .i64 l, .slice A n c] 25)) := (Below.refl _ _).alloc (Nat.le_refl _) _
  have hB := Bk.new w 25 #[.int .i64 l, .slice A n c]
  have hrk := hr.keep hW
  clear hr
  have Hz := Lib.hid hz
  clear hz
  have Hn := Lib.hid hn
  clear hn
  have HB := Lib.hid hB
  clear hB
  go_enter Try.func75, Try.ntmps75
  go_wp2_with fail
  refine (implRulesOk_any l A n c xs _ hrk Hn.out hb Hz.out).mono ?_
  rintro e w1 ⟨rfl, b1⟩
  have hS := HB.out.below b1 HB.out.lt
  have hW1 := hW.trans (b1.mono hW.size)
  have s1 : w1.cell? ⟨w.heap.size, 1, none⟩ = some (.slice A n c) := by rw [hS.cell]; rfl
  have sl := hS.lt
  have hrk1 := hrk.keep b1
  clear hS hrk
  obtain ⟨r1, hrr⟩ : ∃ r', r' = (rulesOk l xs) := ⟨_, rfl⟩
  rw [← hrr]
  have H1 := Lib.hid hrr
  clear hrr
  cases r1
  · go_wp2_with fail
    go_ret
    exact ⟨ret_bool (by rw [systemOk, ← H1.out]; rfl), hW1⟩
  go_wp2_with fail
  refine (containsFunc_Rule A n c xs _ #[] (fun p => !fallsOk p) _ eg hrk1 Hn.out (by omega) (fun W x hx _ => systemOk1_any x W (Hz.out x hx))).mono ?_
  rintro e w2 ⟨rfl, b2⟩
  obtain ⟨r, hrr⟩ : ∃ r', r' = (xs.any (fun p => !fallsOk p)) := ⟨_, rfl⟩
  rw [← hrr]
  have HR := Lib.hid hrr
  clear hrr
  go_wp2_with fail
  go_ret
  exact ⟨ret_bool (by rw [systemOk, ← H1.out, HR.out, all_not_falls]; rfl), hW1.trans (b2.mono hW1.size)⟩

end Go.Proofs.Ytidmbeeadbedaaa
