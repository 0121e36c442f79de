/- Merged texts: a claim has a limit of files. -/
import Derived.Test.YteafeecndghapaaGreatWkC
import Derived.Test.YteafeecndghapaaGreatNorm

/- Walk over WorkOk of the reference: a work in order. -/
namespace Go.Proofs.YteafeecndghapaaGreat
open Go.RowKit Go.Shelf

def eqOk (l : Int) (x : RuleT) : Bool := wordOk l x.1 && wordOk l x.2
/-- WorkOk, in plain words. -/
def workOk (l : Int) (rs qs : List RuleT) (t : Int) : Bool := systemOk l rs && decide (qs.length ≤ 400) && inB t 0 200 && qs.all (eqOk l)

set_option maxRecDepth 100000 in
set_option maxHeartbeats 4000000 in
theorem specWorkOk_any (l : Int) (A : Option Addr) (n c : Nat) (rs : List RuleT) (Q : Option Addr) (q cq : Nat) (qs : List RuleT) (t : Int) (w : World) (hr : Rd w A (cellsRule rs)) (hn : n = rs.length) (hb : n ≤ 1048576) (hz : ∀ x ∈ rs, x.1.size ≤ 1048576 ∧ x.2.size ≤ 1048576) (hq : Rd w Q (cellsRule qs)) (hqn : q = qs.length) (hqb : q ≤ 1048576) (hy : ∀ x ∈ qs, x.1.size ≤ 1048576 ∧ x.2.size ≤ 1048576) :
    Calls Tryz.prog 95 #[.agg #[.int .i64 l, .slice A n c, .slice Q q cq, .int .i64 t]] w (Kept w (.bool (workOk l rs qs t))) := by
  subst hqn
  have hW : Below w.heap.size w (w.alloc (.cells #[.int .i64 l, .slice A n c, .slice Q qs.length cq, .int .i64 t] 86)) := (Below.refl _ _).alloc (Nat.le_refl _) _
  have hB := Bk.new w 86 #[.int .i64 l, .slice A n c, .slice Q qs.length cq, .int .i64 t]
  have Hz := Lib.hid hz
  clear hz
  have HB := Lib.hid hB
  clear hB
  have Hr := Lib.hid hr
  clear hr
  have Hn := Lib.hid hn
  clear hn
  have Hq := Lib.hid hq
  clear hq
  have Hy := Lib.hid hy
  clear hy
  go_enter Tryz.func95, Tryz.ntmps95
  go_wp2_with fail
  refine (specSystemOk_any l A n c rs _ (Hr.out.keep hW) Hn.out hb Hz.out).mono ?_
  rintro e w1 ⟨rfl, b1⟩
  have hS := HB.out.below b1 HB.out.lt
  have hW1 := hW.trans (b1.mono hW.size)
  have s0 : w1.cell? ⟨w.heap.size, 0, none⟩ = some (.int .i64 l) := by rw [hS.cell]; rfl
  have s1 : w1.cell? ⟨w.heap.size, 1, none⟩ = some (.slice A n c) := by rw [hS.cell]; rfl
  have s2 : w1.cell? ⟨w.heap.size, 2, none⟩ = some (.slice Q qs.length cq) := by rw [hS.cell]; rfl
  have s3 : w1.cell? ⟨w.heap.size, 3, none⟩ = some (.int .i64 t) := by rw [hS.cell]; rfl
  have sl := hS.lt
  clear hW b1 HB
  obtain ⟨r1, hrr⟩ : ∃ r', r' = (systemOk l rs) := ⟨_, rfl⟩
  rw [← hrr]
  have H1 := Lib.hid hrr
  clear hrr
  cases r1
  · go_wp2_with fail
    go_ret
    exact ⟨ret_bool (by rw [workOk, ← H1.out]; rfl), hW1⟩
  have HS := Lib.hid hS
  clear hS
  by_cases h4 : qs.length ≤ 400
  case neg =>
    have e4 : decide ((qs.length : Int) > 400) = true := by simp; omega
    go_wp2_with fail
    go_ret
    exact ⟨ret_bool (by rw [workOk, decide_eq_false h4, Bool.and_false, Bool.false_and, Bool.false_and]), hW1⟩
  go_wp2_with fail
  go_wp2_with fail
  refine (l01In_any t 0 200 _).mono ?_
  rintro e w' ⟨rfl, rfl⟩
  obtain ⟨r2, hrr⟩ : ∃ r', r' = (inB t 0 200) := ⟨_, rfl⟩
  rw [← hrr]
  have H2 := Lib.hid hrr
  clear hrr
  cases r2
  · go_wp2_with fail
    go_ret
    exact ⟨ret_bool (by rw [workOk, ← H2.out, Bool.and_false, Bool.false_and]), hW1⟩
  go_wp2_with fail
  go_loopw [24] (fun i wr => ∃ (j : Nat), j ≤ qs.length ∧ i = .int .i64 j ∧ Hid ((qs.take j).all (eqOk l) = true) ∧ Bk wr w.heap.size 86 #[.int .i64 l, .slice A n c, .slice Q qs.length cq, .int .i64 t] ∧ Below w.heap.size w wr) (fun i _ => qs.length - (intOf i).toNat)
  case atStart => exact ⟨0, Nat.zero_le _, rfl, by simp [Hid], HS.out, hW1⟩
  case round =>
    clear hW1 s0 s1 s2 s3 sl HS
    obtain ⟨j, hj, rfl, HA, hS, hW⟩ := hrel
    have s0 : wr.cell? ⟨w.heap.size, 0, none⟩ = some (.int .i64 l) := by rw [hS.cell]; rfl
    have sl := hS.lt
    by_cases hlt : j < qs.length
    · obtain ⟨b, o, rfl, hbl, p0, p1⟩ := rd_Rule (Hq.out.keep hW) hlt
      have hzj := Hy.out qs[j] (List.getElem_mem hlt)
      obtain ⟨⟨v0, v1⟩, hv⟩ : ∃ v, v = qs[j] := ⟨_, rfl⟩
      rw [← hv] at p0 p1 hzj
      dsimp only at hzj
      obtain ⟨z0, z1⟩ := hzj
      have hW2 := hW.alloc hW.size (.cells #[.string v0, .string v1] 68)
      have hS2 := hS.alloc (.cells #[.string v0, .string v1] 68)
      have hno : wordOk l v0 = false ∨ wordOk l v1 = false → qs.all (eqOk l) = false := fun h => by
        rw [List.all_eq_false]
        refine ⟨qs[j], List.getElem_mem hlt, ?_⟩
        rw [← hv, eqOk]
        rcases h with h | h <;> rw [h] <;> simp
      have Hv := Lib.hid hv
      clear hv
      have HW2 := Lib.hid hW2
      clear hW2
      have HS2 := Lib.hid hS2
      clear hS2
      have Hno := Lib.hid hno
      clear hno
      go_wp2_with fail
      go_wp2_with fail
      refine (specWord_any l v0 _ (by omega)).mono ?_
      rintro e w' ⟨rfl, rfl⟩
      obtain ⟨r3, hrr⟩ : ∃ r', r' = (wordOk l v0) := ⟨_, rfl⟩
      rw [← hrr]
      have H3 := Lib.hid hrr
      clear hrr
      cases r3
      · go_wp2_with fail
        go_ret
        exact ⟨ret_bool (by rw [workOk, Hno.out (.inl H3.out.symm), Bool.and_false]), HW2.out⟩
      go_wp2_with fail
      go_wp2_with fail
      refine (specWord_any l v1 _ (by omega)).mono ?_
      rintro e w' ⟨rfl, rfl⟩
      obtain ⟨r4, hrr⟩ : ∃ r', r' = (wordOk l v1) := ⟨_, rfl⟩
      rw [← hrr]
      have H4 := Lib.hid hrr
      clear hrr
      cases r4
      · go_wp2_with fail
        go_ret
        exact ⟨ret_bool (by rw [workOk, Hno.out (.inr H4.out.symm), Bool.and_false]), HW2.out⟩
      go_wp2_with fail
      go_roundw
      case rel => exact ⟨j + 1, by omega, by go_num, by unfold Hid; rw [List.take_succ_eq_append_getElem hlt, List.all_append, HA.out, List.all_cons, ← Hv.out, eqOk, ← H3.out, ← H4.out]; rfl, HS2.out, HW2.out⟩
      case measure => simp [intOf]; omega
    · have : j = qs.length := by omega
      subst this
      have hall : qs.all (eqOk l) = true := by have := HA.out; rwa [List.take_length] at this
      have Hall := Lib.hid hall
      clear hall
      go_wp2_with fail
      go_ret
      exact ⟨ret_bool (by rw [workOk, Hall.out, ← H1.out, ← H2.out, decide_eq_true h4]; rfl), hW⟩
end Go.Proofs.YteafeecndghapaaGreat

/- Walks over FirstStep and l04Trace of the reference where the rules are not in order: no step, the word itself. -/
namespace Go.Proofs.YteafeecndghapaaGreat
open Go.RowKit Go.Shelf

set_option maxRecDepth 100000 in
set_option maxHeartbeats 2000000 in
theorem specFirst0_any (l : Int) (A : Option Addr) (n c : Nat) (rs : List RuleT) (s : ByteArray) (w : World) (hr : Rd w A (cellsRule rs)) (hn : n = rs.length) (hb : n ≤ 1048576) (hz : ∀ x ∈ rs, x.1.size ≤ 1048576 ∧ x.2.size ≤ 1048576) (hs : s.size ≤ 1048576) (hro : rulesOk l rs = false) :
    Calls Tryz.prog 109 #[.agg #[.int .i64 l, .slice A n c], .string s] w (Kept w (.tuple #[.agg #[.int .i64 0, .int .i64 0], .bool false])) := by
  have hW0 : Below w.heap.size w ((w.alloc (.cells #[.int .i64 l, .slice A n c] 25)).alloc (.cells #[.int .i64 0, .int .i64 0] 56)) := ((Below.refl _ _).alloc (Nat.le_refl _) _).alloc (by simp) _
  have hR0 : Bk ((w.alloc (.cells #[.int .i64 l, .slice A n c] 25)).alloc (.cells #[.int .i64 0, .int .i64 0] 56)) (w.heap.size + 1) 56 #[.int .i64 0, .int .i64 0] := (Bk.new (w.alloc (.cells #[.int .i64 l, .slice A n c] 25)) 56 #[.int .i64 0, .int .i64 0]).cast (by simp)
  have hE : stepsOf l rs s = [] := by rw [stepsOf, hro]; rfl
  have Hr := Lib.hid hr
  clear hr
  have Hn := Lib.hid hn
  clear hn
  have Hz := Lib.hid hz
  clear hz
  have Hro := Lib.hid hro
  clear hro
  have HE := Lib.hid hE
  clear hE
  go_enter Tryz.func109, Tryz.ntmps109
  go_wp2_with fail
  refine (specSteps_any l A n c rs s _ (Hr.out.keep hW0) Hn.out hb Hz.out hs).mono ?_
  rintro e w1 ⟨B, d, rfl, hO1, b1⟩
  have hW1 := hW0.trans (b1.mono hW0.size)
  have hR1 := hR0.below b1 hR0.lt
  rw [HE.out] at hO1 ⊢
  have r0 : w1.cell? ⟨w.heap.size + 1, 0, none⟩ = some (.int .i64 0) := by rw [hR1.cell]; rfl
  have r1 : w1.cell? ⟨w.heap.size + 1, 1, none⟩ = some (.int .i64 0) := by rw [hR1.cell]; rfl
  have f0 := hR1.free 0
  have f1 := hR1.free 1
  have rl := hR1.lt
  clear hO1 hR0 hW0 b1
  go_wp2_with fail
  have hBn := (hR1.put 0 (.int .i64 0)).put 1 (.int .i64 0)
  have q0 := hBn.cell 0
  have q1 := hBn.cell 1
  refine bodyPost_ret (v := .tuple #[.agg #[.int .i64 0, .int .i64 0], .bool false]) (by simp [results, Tryz.results109, go_sem, q0, q1]) rfl ?_
  exact ⟨rfl, (hW1.setCell (by dsimp only; omega) _).setCell (by dsimp only; omega) _⟩

set_option maxRecDepth 100000 in
set_option maxHeartbeats 2000000 in
theorem specTrace0_any (l : Int) (A : Option Addr) (n c : Nat) (rs : List RuleT) (s : ByteArray) (w : World) (hr : Rd w A (cellsRule rs)) (hn : n = rs.length) (hb : n ≤ 1048576) (hz : ∀ x ∈ rs, x.1.size ≤ 1048576 ∧ x.2.size ≤ 1048576) (hs : s.size ≤ 1048576) (hro : rulesOk l rs = false) :
    Calls Tryz.prog 97 #[.agg #[.int .i64 l, .slice A n c], .string s] w (fun e w' => ∃ B m d, e = .returned (.tuple #[.slice B m d, .string s]) ∧ Below w.heap.size w w') := by
  have hW0 : Below w.heap.size w (w.alloc (.cells #[.int .i64 l, .slice A n c] 25)) := (Below.refl _ _).alloc (Nat.le_refl _) _
  have hS0 := Bk.new w 25 #[.int .i64 l, .slice A n c]
  have Hr := Lib.hid hr
  clear hr
  have Hn := Lib.hid hn
  clear hn
  have Hz := Lib.hid hz
  clear hz
  have HW0 := Lib.hid hW0
  clear hW0
  have HS0 := Lib.hid hS0
  clear hS0
  go_enter Tryz.func97, Tryz.ntmps97
  go_wp2_with fail
  go_loopw [1, 6] (fun v u wr => ∃ (B : Option Addr) (d m : Nat), v = .string s ∧ u = .slice B m d ∧ Bk wr w.heap.size 25 #[.int .i64 l, .slice A n c] ∧ Below w.heap.size w wr) (fun _ _ _ => 0)
  case atStart => exact ⟨_, _, 0, rfl, rfl, HS0.out.alloc _, HW0.out.alloc HW0.out.size _⟩
  case round =>
    clear HS0 HW0
    obtain ⟨B, d, m, rfl, rfl, hS0, hW0⟩ := hrel
    have s0_0 : wr.cell? ⟨w.heap.size, 0, none⟩ = some (.int .i64 l) := by rw [hS0.cell]; rfl
    have s1_0 : wr.cell? ⟨w.heap.size, 1, none⟩ = some (.slice A n c) := by rw [hS0.cell]; rfl
    have sl_0 := hS0.lt
    go_wp2_with fail
    with_reducible refine (specFirst0_any l A n c rs s _ (Hr.out.keep hW0) Hn.out hb Hz.out hs hro).mono ?_
    rintro e w1 ⟨rfl, b1⟩
    have hW1 := hW0.trans (b1.mono hW0.size)
    go_wp2_with fail
    go_ret2
    exact ⟨B, _, d, rfl, hW1.alloc hW1.size _⟩
end Go.Proofs.YteafeecndghapaaGreat
