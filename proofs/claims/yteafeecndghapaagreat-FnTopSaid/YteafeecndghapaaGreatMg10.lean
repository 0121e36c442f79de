/- Merged texts: a claim has a limit of files. -/
import Derived.Test.YteafeecndghapaaGreatNormP
import Derived.Test.YteafeecndghapaaGreatStepsS
import Derived.Test.YteafeecndghapaaGreatFirst
import Derived.Test.YteafeecndghapaaGreatMg9

/- Walks over ApplyStep, FirstStep of the reference and apply of the program. -/
namespace Go.Proofs.YteafeecndghapaaGreat
open Go.RowKit Go.Shelf

/-- ApplyStep, in plain words. -/
def asOk (l : Int) (rs : List RuleT) (s : ByteArray) (x : StepT) : Bool := decide (x ∈ stepsOf l rs s) && applyOk rs s x
def asS (l : Int) (rs : List RuleT) (s : ByteArray) (x : StepT) : ByteArray := if x ∈ stepsOf l rs s then applyS rs s x else ⟨#[]⟩
theorem as_no {l : Int} {rs : List RuleT} {s : ByteArray} {x : StepT} (h : ¬ x ∈ stepsOf l rs s) : asOk l rs s x = false ∧ asS l rs s x = ⟨#[]⟩ := by
  rw [asOk, asS, if_neg h, decide_eq_false h]; exact ⟨rfl, rfl⟩
theorem as_yes {l : Int} {rs : List RuleT} {s : ByteArray} {x : StepT} (h : x ∈ stepsOf l rs s) : asOk l rs s x = applyOk rs s x ∧ asS l rs s x = applyS rs s x := by
  rw [asOk, asS, if_pos h, decide_eq_true h]; exact ⟨rfl, rfl⟩
theorem steps_mem {l : Int} {rs : List RuleT} {s : ByteArray} {x : StepT} (h : x ∈ stepsOf l rs s) : rulesOk l rs = true ∧ x ∈ stepAcc rs s s.size := by
  unfold stepsOf at h
  split at h
  · next hr => exact ⟨hr, h⟩
  · cases h
theorem steps_len {l : Int} {rs : List RuleT} {s : ByteArray} (hs : s.size ≤ 1048576) : (stepsOf l rs s).length ≤ 12582912 := by
  unfold stepsOf
  split
  · next hr =>
    have h1 := rulesOk_12 hr
    have h2 := stepAcc_len rs s s.size
    have h3 : s.size * rs.length ≤ 1048576 * 12 := Nat.mul_le_mul hs h1
    omega
  · simp

set_option maxRecDepth 100000 in
set_option maxHeartbeats 2000000 in
theorem specApplyStep_any (l : Int) (A : Option Addr) (n c : Nat) (rs : List RuleT) (s : ByteArray) (x0 x1 : Int) (w : World) (hr : Rd w A (cellsRule rs)) (hn : n = rs.length) (hb : n ≤ 1048576) (hz : ∀ x ∈ rs, x.1.size ≤ 1048576 ∧ x.2.size ≤ 1048576) (hs : s.size ≤ 1048576) :
    Calls Tryz.prog 107 #[.agg #[.int .i64 l, .slice A n c], .string s, .agg #[.int .i64 x0, .int .i64 x1]] w (Kept w (.tuple #[.string (asS l rs s (x0, x1)), .bool (asOk l rs s (x0, x1))])) := by
  have hW0 : Below w.heap.size w ((w.alloc (.cells #[.int .i64 l, .slice A n c] 25)).alloc (.cells #[.int .i64 x0, .int .i64 x1] 56)) := ((Below.refl _ _).alloc (Nat.le_refl _) _).alloc (by simp) _
  have hS0 : Bk ((w.alloc (.cells #[.int .i64 l, .slice A n c] 25)).alloc (.cells #[.int .i64 x0, .int .i64 x1] 56)) w.heap.size 25 #[.int .i64 l, .slice A n c] := (Bk.new w _ _).alloc _
  have hX0 : Bk ((w.alloc (.cells #[.int .i64 l, .slice A n c] 25)).alloc (.cells #[.int .i64 x0, .int .i64 x1] 56)) (w.heap.size + 1) 56 #[.int .i64 x0, .int .i64 x1] := (Bk.new (w.alloc (.cells #[.int .i64 l, .slice A n c] 25)) 56 #[.int .i64 x0, .int .i64 x1]).cast (by simp)
  have Hr := Lib.hid hr
  clear hr
  have Hn := Lib.hid hn
  clear hn
  have Hz := Lib.hid hz
  clear hz
  go_enter Tryz.func107, Tryz.ntmps107
  go_wp2_with fail
  refine (specSteps_any l A n c rs s _ (Hr.out.keep hW0) Hn.out hb Hz.out hs).mono ?_
  rintro e w1 ⟨B, d, rfl, hO1, b1⟩
  have hW1 := hW0.trans (b1.mono hW0.size)
  have hS1 := hS0.below b1 hS0.lt
  have hX1 := hX0.below b1 hX0.lt
  have hlen := steps_len (l := l) (rs := rs) hs
  obtain ⟨L, hL⟩ : ∃ L, L = stepsOf l rs s := ⟨_, rfl⟩
  rw [← hL] at hO1 hlen ⊢
  obtain ⟨m, hm⟩ : ∃ m, m = L.length := ⟨_, rfl⟩
  rw [← hm] at hO1 hlen ⊢
  have hmx : m ≤ maxLen := by unfold maxLen; omega
  clear hS0 hX0 b1
  have HL := Lib.hid hL
  clear hL
  have Hm := Lib.hid hm
  clear hm
  have HW1 := Lib.hid hW1
  clear hW1
  have HS1 := Lib.hid hS1
  clear hS1
  have HX1 := Lib.hid hX1
  clear hX1
  have HO1 := Lib.hid hO1
  clear hO1
  have HW0 := Lib.hid hW0
  clear hW0
  go_wp2_with fail
  go_loopw [15] (fun i wr => ∃ (q : Nat), q ≤ m ∧ i = .int .i64 q ∧ Hid (¬ (x0, x1) ∈ L.take q) ∧ Bk wr w.heap.size 25 #[.int .i64 l, .slice A n c] ∧ Bk wr (w.heap.size + 1) 56 #[.int .i64 x0, .int .i64 x1] ∧ Rd wr B (cellsStep L) ∧ Below w.heap.size w wr) (fun i _ => m - (intOf i).toNat)
  case atStart => exact ⟨0, Nat.zero_le _, rfl, by simp [Hid], HS1.out, HX1.out, Rd.of_own HO1.out, HW1.out⟩
  case round =>
    clear HS1 HX1 HO1 HW1
    obtain ⟨j, hj, rfl, HA, hS0, hX0, hrd, hWr⟩ := hrel
    have k0 : wr.cell? ⟨w.heap.size + 1, 0, none⟩ = some (.int .i64 x0) := by rw [hX0.cell]; rfl
    have k1 : wr.cell? ⟨w.heap.size + 1, 1, none⟩ = some (.int .i64 x1) := by rw [hX0.cell]; rfl
    have s1 : wr.cell? ⟨w.heap.size, 1, none⟩ = some (.slice A n c) := by rw [hS0.cell]; rfl
    have sl := hS0.lt
    have xl := hX0.lt
    by_cases hlt : j < m
    · have hlt2 : j < L.length := by rw [← Hm.out]; exact hlt
      obtain ⟨b, o, rfl, hbl, p0, p1⟩ := rd_Step hrd hlt2
      obtain ⟨⟨y0, y1⟩, hy⟩ : ∃ y, y = L[j] := ⟨_, rfl⟩
      rw [← hy] at p0 p1
      dsimp only at p0 p1
      have hnext : ¬ (x0, x1) = (y0, y1) → Hid (¬ (x0, x1) ∈ L.take (j + 1)) := fun hne => by
        unfold Hid
        rw [List.take_succ_eq_append_getElem hlt2, List.mem_append, List.mem_singleton, ← hy]
        intro h
        rcases h with h | h
        · exact HA.out h
        · exact hne h
      by_cases h0 : x0 = y0
      rotate_left
      · have hne := hnext (by intro e; exact h0 (congrArg Prod.fst e))
        clear hnext
        have q0 : (x0 == y0) = false := by simp [h0]
        have Hne := Lib.hid hne
        clear hne
        have Hy := Lib.hid hy
        clear hy
        go_wp2_with fail
        go_roundw
        case rel => exact ⟨j + 1, by omega, by go_num, Hne.out, hS0.alloc _, hX0.alloc _, hrd.keep ((Below.refl _ wr).alloc (Nat.le_refl _) _), hWr.alloc hWr.size _⟩
        case measure => simp [intOf]; omega
      by_cases h1 : x1 = y1
      rotate_left
      · have hne := hnext (by intro e; exact h1 (congrArg Prod.snd e))
        clear hnext
        have q1 : (x1 == y1) = false := by simp [h1]
        have Hne := Lib.hid hne
        clear hne
        have Hy := Lib.hid hy
        clear hy
        go_wp2_with fail
        go_roundw
        case rel => exact ⟨j + 1, by omega, by go_num, Hne.out, hS0.alloc _, hX0.alloc _, hrd.keep ((Below.refl _ wr).alloc (Nat.le_refl _) _), hWr.alloc hWr.size _⟩
        case measure => simp [intOf]; omega
      have hin : (x0, x1) ∈ stepsOf l rs s := by rw [← HL.out, h0, h1, hy]; exact List.getElem_mem hlt2
      obtain ⟨hro, hma⟩ := steps_mem hin
      obtain ⟨e1, e2⟩ := as_yes hin
      obtain ⟨K, P, hxe, hK, hP, -⟩ := mem_step hma
      have hx0 : x0 = (K : Int) := congrArg Prod.fst hxe
      have hx1 : x1 = (P : Int) := congrArg Prod.snd hxe
      subst h0 h1
      clear hnext hxe hma hin
      subst hx0 hx1
      have hKn : K < n := by rw [Hn.out]; exact hK
      obtain ⟨b2, o2, rfl, hbl2, r0, r1⟩ := rd_Rule (Hr.out.keep hWr) hK
      have hzz := rulesOk_side hro (List.getElem_mem hK)
      obtain ⟨⟨v0, v1⟩, hv⟩ : ∃ v, v = rs[K] := ⟨_, rfl⟩
      rw [← hv] at r0 r1 hzz
      dsimp only at r0 r1 hzz
      obtain ⟨z0, z1, -⟩ := hzz
      have hA_ : ruleAt rs K = (v0, v1) := by rw [ruleAt_get hK, hv]
      have e3 : applyS rs s ((K : Int), (P : Int)) = replS s (P : Int) (v0.size : Int) v1 := by rw [applyS, Int.toNat_natCast, hA_]
      have e4 : applyOk rs s ((K : Int), (P : Int)) = replOk s (P : Int) (v0.size : Int) v1 := by rw [applyOk, Int.toNat_natCast, hA_]
      rw [e4] at e1
      rw [e3] at e2
      have Hy := Lib.hid hy
      clear hy
      have Hv := Lib.hid hv
      clear hv
      have HA_ := Lib.hid hA_
      clear hA_
      have E1 := Lib.hid e1
      clear e1
      have E2 := Lib.hid e2
      clear e2
      have E3 := Lib.hid e3
      clear e3
      have E4 := Lib.hid e4
      clear e4
      have Hro := Lib.hid hro
      clear hro
      go_wp2_with fail
      refine (specReplace_any s (P : Int) (v0.size : Int) v1 _ hs (by omega)).mono ?_
      rintro e w3 ⟨rfl, b3⟩
      obtain ⟨a, ha⟩ : ∃ a, a = replS s (P : Int) (v0.size : Int) v1 := ⟨_, rfl⟩
      obtain ⟨g, hg⟩ : ∃ g, g = replOk s (P : Int) (v0.size : Int) v1 := ⟨_, rfl⟩
      rw [← ha, ← hg]
      have Ha := Lib.hid ha
      clear ha
      have Hg := Lib.hid hg
      clear hg
      go_wp2_with fail
      go_ret2
      have hWa := (hWr.alloc hWr.size (.cells #[.int .i64 (K : Int), .int .i64 (P : Int)] 56))
      have hWb := (hWa.alloc hWa.size (.cells #[.string v0, .string v1] 68))
      exact ⟨by rw [E1.out, E2.out, Ha.out, Hg.out]; rfl, hWb.trans (b3.mono hWb.size)⟩
    · have : j = m := by omega
      subst this
      have hno : ¬ (x0, x1) ∈ stepsOf l rs s := by rw [← HL.out]; have := HA.out; rwa [List.take_of_length_le (by rw [← Hm.out]; omega)] at this
      obtain ⟨e1, e2⟩ := as_no hno
      have E1 := Lib.hid e1
      clear e1
      have E2 := Lib.hid e2
      clear e2
      have Hno := Lib.hid hno
      clear hno
      go_wp2_with fail
      go_ret2
      exact ⟨by rw [E1.out, E2.out]; rfl, hWr⟩

set_option maxRecDepth 100000 in
set_option maxHeartbeats 2000000 in
theorem implApply_any (l : Int) (A : Option Addr) (n c : Nat) (rs : List RuleT) (s : ByteArray) (x0 x1 : Int) (K : Nat) (w : World) (hr : Rd w A (cellsRule rs)) (hn : n = rs.length) (hb : n ≤ 1048576) (hz : ∀ x ∈ rs, x.1.size ≤ 1048576 ∧ x.2.size ≤ 1048576) (hs : s.size ≤ 1048576) (hx : x0 = (K : Int)) (hK : K < rs.length) :
    Calls Tryz.prog 27 #[.agg #[.int .i64 l, .slice A n c], .string s, .agg #[.int .i64 x0, .int .i64 x1]] w (Kept w (.tuple #[.string (applyS rs s (x0, x1)), .bool (applyOk rs s (x0, x1))])) := by
  subst hx
  have hW0 : Below w.heap.size w ((w.alloc (.cells #[.int .i64 l, .slice A n c] 25)).alloc (.cells #[.int .i64 (K : Int), .int .i64 x1] 56)) := ((Below.refl _ _).alloc (Nat.le_refl _) _).alloc (by simp) _
  have hKn : K < n := by rw [hn]; exact hK
  obtain ⟨b2, o2, rfl, hbl2, r0, r1⟩ := rd_Rule (hr.keep hW0) hK
  have hzz := hz _ (List.getElem_mem hK)
  obtain ⟨⟨v0, v1⟩, hv⟩ : ∃ v, v = rs[K] := ⟨_, rfl⟩
  rw [← hv] at r0 r1 hzz
  dsimp only at r0 r1 hzz
  obtain ⟨z0, z1⟩ := hzz
  have hA_ : ruleAt rs K = (v0, v1) := by rw [ruleAt_get hK, hv]
  have e3 : applyS rs s ((K : Int), x1) = replS s x1 (v0.size : Int) v1 := by rw [applyS, Int.toNat_natCast, hA_]
  have e4 : applyOk rs s ((K : Int), x1) = replOk s x1 (v0.size : Int) v1 := by rw [applyOk, Int.toNat_natCast, hA_]
  clear hr
  have Hv := Lib.hid hv
  clear hv
  have HA_ := Lib.hid hA_
  clear hA_
  have E3 := Lib.hid e3
  clear e3
  have E4 := Lib.hid e4
  clear e4
  have Hn := Lib.hid hn
  clear hn
  have Hz := Lib.hid hz
  clear hz
  go_enter Tryz.func27, Tryz.ntmps27
  go_wp2_with fail
  refine (implReplace_any s x1 (v0.size : Int) v1 _ hs (by omega)).mono ?_
  rintro e w3 ⟨rfl, b3⟩
  obtain ⟨a, ha⟩ : ∃ a, a = replS s x1 (v0.size : Int) v1 := ⟨_, rfl⟩
  obtain ⟨g, hg⟩ : ∃ g, g = replOk s x1 (v0.size : Int) v1 := ⟨_, rfl⟩
  rw [← ha, ← hg]
  have Ha := Lib.hid ha
  clear ha
  have Hg := Lib.hid hg
  clear hg
  go_wp2_with fail
  go_ret2
  have hWb := (hW0.alloc hW0.size (.cells #[.string v0, .string v1] 68))
  exact ⟨by rw [E3.out, E4.out, Ha.out, Hg.out]; rfl, hWb.trans (b3.mono hWb.size)⟩

set_option maxRecDepth 100000 in
set_option maxHeartbeats 2000000 in
theorem specFirst_any (l : Int) (A : Option Addr) (n c : Nat) (rs : List RuleT) (s : ByteArray) (w : World) (hr : Rd w A (cellsRule rs)) (hn : n = rs.length) (hb : n ≤ 1048576) (hz : ∀ x ∈ rs, x.1.size ≤ 1048576 ∧ x.2.size ≤ 1048576) (hs : s.size ≤ 1048576) (hro : rulesOk l rs = true) :
    Calls Tryz.prog 109 #[.agg #[.int .i64 l, .slice A n c], .string s] w (Kept w (.tuple #[stepV (firstS rs s), .bool (firstS rs s).isSome])) := by
  have hW0 : Below w.heap.size w ((w.alloc (.cells #[.int .i64 l, .slice A n c] 25)).alloc (.cells #[.int .i64 0, .int .i64 0] 56)) := ((Below.refl _ _).alloc (Nat.le_refl _) _).alloc (by simp) _
  have hR0 : Bk ((w.alloc (.cells #[.int .i64 l, .slice A n c] 25)).alloc (.cells #[.int .i64 0, .int .i64 0] 56)) (w.heap.size + 1) 56 #[.int .i64 0, .int .i64 0] := (Bk.new (w.alloc (.cells #[.int .i64 l, .slice A n c] 25)) 56 #[.int .i64 0, .int .i64 0]).cast (by simp)
  have hE : stepsOf l rs s = stepAcc rs s s.size := by rw [stepsOf, hro]; rfl
  have Hr := Lib.hid hr
  clear hr
  have Hn := Lib.hid hn
  clear hn
  have Hz := Lib.hid hz
  clear hz
  have Hro := Lib.hid hro
  clear hro
  have HE := Lib.hid hE
  clear hE
  go_enter Tryz.func109, Tryz.ntmps109
  go_wp2_with fail
  refine (specSteps_any l A n c rs s _ (Hr.out.keep hW0) Hn.out hb Hz.out hs).mono ?_
  rintro e w1 ⟨B, d, rfl, hO1, b1⟩
  have hW1 := hW0.trans (b1.mono hW0.size)
  have hR1 := hR0.below b1 hR0.lt
  have hlen := steps_len (l := l) (rs := rs) hs
  rw [HE.out] at hO1 hlen ⊢
  obtain ⟨f, hf⟩ : ∃ f, f = firstS rs s := ⟨_, rfl⟩
  have hf2 : f = (stepAcc rs s s.size).head? := hf
  rw [← hf]
  obtain ⟨L, hL⟩ : ∃ L, L = stepAcc rs s s.size := ⟨_, rfl⟩
  rw [← hL] at hO1 hlen hf2 ⊢
  have r0 : w1.cell? ⟨w.heap.size + 1, 0, none⟩ = some (.int .i64 0) := by rw [hR1.cell]; rfl
  have r1 : w1.cell? ⟨w.heap.size + 1, 1, none⟩ = some (.int .i64 0) := by rw [hR1.cell]; rfl
  have f0 := hR1.free 0
  have f1 := hR1.free 1
  have rl := hR1.lt
  have hrd := Rd.of_own hO1
  clear hO1 hR0 hW0 b1
  have HL := Lib.hid hL
  clear hL
  have Hf := Lib.hid hf
  clear hf
  cases L with
  | nil =>
    subst hf2
    have e1 : stepV ([] : List StepT).head? = .agg #[.int .i64 0, .int .i64 0] := rfl
    rw [e1]
    have Hrd := Lib.hid hrd
    clear hrd
    go_wp2_with fail
    have hBn := (hR1.put 0 (.int .i64 0)).put 1 (.int .i64 0)
    have q0 := hBn.cell 0
    have q1 := hBn.cell 1
    refine bodyPost_ret (v := .tuple #[.agg #[.int .i64 0, .int .i64 0], .bool false]) (by simp [results, Tryz.results109, go_sem, q0, q1]) rfl ?_
    exact ⟨by rw [← Hf.out]; rfl, (hW1.setCell (by dsimp only; omega) _).setCell (by dsimp only; omega) _⟩
  | cons x t =>
    obtain ⟨x0, x1⟩ := x
    subst hf2
    have e1 : stepV ((x0, x1) :: t).head? = .agg #[.int .i64 x0, .int .i64 x1] := rfl
    rw [e1]
    obtain ⟨b, o, rfl, hbl, p0, p1⟩ := rd_Step hrd (k := 0) (by simp)
    simp only [List.getElem_cons_zero, Nat.zero_mul, Nat.add_zero] at p0 p1
    obtain ⟨m, hm⟩ : ∃ m, m = ((x0, x1) :: t).length := ⟨_, rfl⟩
    have hm1 : 1 ≤ m := by rw [hm]; simp
    rw [← hm] at hlen ⊢
    have hm0 : ((m : Int) == 0) = false := by simp; omega
    clear hrd hm
    go_wp2_with fail
    have hBn := (hR1.put 0 (.int .i64 x0)).put 1 (.int .i64 x1)
    have q0 := hBn.cell 0
    have q1 := hBn.cell 1
    refine bodyPost_ret (v := .tuple #[.agg #[.int .i64 x0, .int .i64 x1], .bool true]) (by simp [results, Tryz.results109, go_sem, q0, q1]) rfl ?_
    exact ⟨by rw [← Hf.out]; rfl, (hW1.setCell (by dsimp only; omega) _).setCell (by dsimp only; omega) _⟩

end Go.Proofs.YteafeecndghapaaGreat

/- Walks over IsReduced (the program's and the reference's): each returns what isReduced says, for all arguments. -/
namespace Go.Proofs.YteafeecndghapaaGreat
open Go.RowKit Go.Shelf

theorem sys_rules {l : Int} {rs : List RuleT} (h : systemOk l rs = true) : rulesOk l rs = true := by
  unfold systemOk at h
  simp only [Bool.and_eq_true] at h
  exact h.1
end Go.Proofs.YteafeecndghapaaGreat
