/- Walks over l16Ok, l16Step and l16Run of the reference, isRun, wordAfter, firstWord, lastWord and runSteps of the program, and RunFirst and RunFar of both. -/
import Derived.Test.YtgnmfneinnojnaaFar
namespace Go.Proofs.Ytgnmfneinnojnaa
open Go.RowKit Go.Shelf

/-- A run, as (word, steps, code). -/
abbrev RunT : Type := ByteArray × Int × Int
def runV (r : RunT) : Value := .agg #[.string r.1, .int .i64 r.2.1, .int .i64 r.2.2]
/-- k more steps at most, n made. -/
def runR (pick : ByteArray → Option StepT) (rs : List RuleT) : Nat → Nat → ByteArray → RunT
  | 0, n, s => match pick s with
    | none => (s, n, 0)
    | some _ => (s, n, 3)
  | k + 1, n, s => match pick s with
    | none => (s, n, 0)
    | some x => if applyOk rs s x then runR pick rs k (n + 1) (applyS rs s x) else (s, n, 2)
theorem runR_none {pick : ByteArray → Option StepT} {rs : List RuleT} {k n : Nat} {s : ByteArray} (h : pick s = none) : runR pick rs k n s = (s, (n : Int), 0) := by
  cases k <;> rw [runR, h]
theorem runR_full {pick : ByteArray → Option StepT} {rs : List RuleT} {n : Nat} {s : ByteArray} {x : StepT} (h : pick s = some x) : runR pick rs 0 n s = (s, (n : Int), 3) := by rw [runR, h]
theorem runR_long {pick : ByteArray → Option StepT} {rs : List RuleT} {k n : Nat} {s : ByteArray} {x : StepT} (hk : 0 < k) (h : pick s = some x) (ho : applyOk rs s x = false) : runR pick rs k n s = (s, (n : Int), 2) := by
  obtain ⟨k, rfl⟩ : ∃ k', k = k' + 1 := ⟨k - 1, by omega⟩
  rw [runR, h]; simp [ho]
theorem runR_go {pick : ByteArray → Option StepT} {rs : List RuleT} {k n : Nat} {s : ByteArray} {x : StepT} (hk : 0 < k) (h : pick s = some x) (ho : applyOk rs s x = true) : runR pick rs k n s = runR pick rs (k - 1) (n + 1) (applyS rs s x) := by
  obtain ⟨k, rfl⟩ : ∃ k', k = k' + 1 := ⟨k - 1, by omega⟩
  rw [runR, h]; simp [ho]
def runOk (l : Int) (rs : List RuleT) (s : ByteArray) : Bool := rulesOk l rs && wordOk l s
def pickF (far : Bool) (rs : List RuleT) (s : ByteArray) : Option StepT := if far then lastS rs s else firstS rs s
/-- RunFirst and RunFar, in plain words. -/
def runAll (far : Bool) (l : Int) (rs : List RuleT) (s : ByteArray) (m : Int) : RunT := if runOk l rs s && inB m 0 500 then runR (pickF far rs) rs m.toNat 0 s else (⟨#[]⟩, 0, 4)
theorem pickF_mem {far : Bool} {rs : List RuleT} {s : ByteArray} {x : StepT} (h : pickF far rs s = some x) : x ∈ stepAcc rs s s.size := by
  cases far
  · exact firstS_mem h
  · exact lastS_mem h
theorem runOk_out {l : Int} {rs : List RuleT} {s : ByteArray} (h : runOk l rs s = true) : rulesOk l rs = true ∧ s.size ≤ 16 := by
  unfold runOk at h
  simp only [Bool.and_eq_true] at h
  exact ⟨h.1, (wordOk_out h.2).2.2.1⟩

set_option maxRecDepth 100000 in
set_option maxHeartbeats 1000000 in
theorem specOk16_any (l : Int) (A : Option Addr) (n c : Nat) (rs : List RuleT) (s : ByteArray) (w : World) (hr : Rd w A (cellsRule rs)) (hn : n = rs.length) (hb : n ≤ 1048576) (hz : ∀ x ∈ rs, x.1.size ≤ 1048576 ∧ x.2.size ≤ 1048576) (hs : s.size ≤ 1048576) :
    Calls Try.prog 145 #[.agg #[.int .i64 l, .slice A n c], .string s] w (Kept w (.bool (runOk l rs s))) := by
  have hW0 : Below w.heap.size w (w.alloc (.cells #[.int .i64 l, .slice A n c] 49)) := (Below.refl _ _).alloc (Nat.le_refl _) _
  have hS0 := Bk.new w 49 #[.int .i64 l, .slice A n c]
  have Hr := Lib.hid hr
  clear hr
  have Hn := Lib.hid hn
  clear hn
  have Hz := Lib.hid hz
  clear hz
  go_enter Try.func145, Try.ntmps145
  go_wp2_with fail
  with_reducible refine (specRulesOk_any l A n c rs _ (Hr.out.keep hW0) Hn.out hb Hz.out).mono ?_
  rintro e w1 ⟨rfl, b1⟩
  have hW1 := hW0.trans (b1.mono hW0.size)
  have hS1 := hS0.below b1 hS0.lt
  have s0_1 : w1.cell? ⟨w.heap.size, 0, none⟩ = some (.int .i64 l) := by rw [hS1.cell]; rfl
  have s1_1 : w1.cell? ⟨w.heap.size, 1, none⟩ = some (.slice A n c) := by rw [hS1.cell]; rfl
  have sl_1 := hS1.lt
  clear b1
  obtain ⟨r1, hrr⟩ : ∃ r', r' = (rulesOk l rs) := ⟨_, rfl⟩
  rw [← hrr]
  have H1 := Lib.hid hrr
  clear hrr
  cases r1
  · go_wp2_with fail
    go_ret
    exact ⟨ret_bool (by rw [runOk, ← H1.out]; rfl), hW1⟩
  go_wp2_with fail
  refine (specWord_any l s _ (by omega)).mono ?_
  rintro e w2 ⟨rfl, rfl⟩
  obtain ⟨r2, hrr⟩ : ∃ r', r' = (wordOk l s) := ⟨_, rfl⟩
  rw [← hrr]
  have H2 := Lib.hid hrr
  clear hrr
  go_wp2_with fail
  go_ret
  exact ⟨ret_bool (by rw [runOk, ← H1.out, ← H2.out]; rfl), hW1⟩

set_option maxRecDepth 100000 in
set_option maxHeartbeats 1000000 in
theorem implIsRun_any (l : Int) (A : Option Addr) (n c : Nat) (rs : List RuleT) (s : ByteArray) (m : Int) (w : World) (hr : Rd w A (cellsRule rs)) (hn : n = rs.length) (hb : n ≤ 1048576) (hz : ∀ x ∈ rs, x.1.size ≤ 1048576 ∧ x.2.size ≤ 1048576) (hs : s.size ≤ 1048576) :
    Calls Try.prog 93 #[.agg #[.int .i64 l, .slice A n c], .string s, .int .i64 m] w (Kept w (.bool (runOk l rs s && inB m 0 500))) := by
  have hW0 : Below w.heap.size w (w.alloc (.cells #[.int .i64 l, .slice A n c] 49)) := (Below.refl _ _).alloc (Nat.le_refl _) _
  have hS0 := Bk.new w 49 #[.int .i64 l, .slice A n c]
  have Hr := Lib.hid hr
  clear hr
  have Hn := Lib.hid hn
  clear hn
  have Hz := Lib.hid hz
  clear hz
  go_enter Try.func93, Try.ntmps93
  go_wp2_with fail
  with_reducible refine (implRulesOk_any l A n c rs _ (Hr.out.keep hW0) Hn.out hb Hz.out).mono ?_
  rintro e w1 ⟨rfl, b1⟩
  have hW1 := hW0.trans (b1.mono hW0.size)
  have hS1 := hS0.below b1 hS0.lt
  have s0_1 : w1.cell? ⟨w.heap.size, 0, none⟩ = some (.int .i64 l) := by rw [hS1.cell]; rfl
  have s1_1 : w1.cell? ⟨w.heap.size, 1, none⟩ = some (.slice A n c) := by rw [hS1.cell]; rfl
  have sl_1 := hS1.lt
  clear b1
  obtain ⟨r1, hrr⟩ : ∃ r', r' = (rulesOk l rs) := ⟨_, rfl⟩
  rw [← hrr]
  have H1 := Lib.hid hrr
  clear hrr
  cases r1
  · go_wp2_with fail
    go_ret
    exact ⟨ret_bool (by rw [runOk, ← H1.out]; rfl), hW1⟩
  go_wp2_with fail
  refine (implWord_any l s _ (by omega)).mono ?_
  rintro e w2 ⟨rfl, rfl⟩
  obtain ⟨r2, hrr⟩ : ∃ r', r' = (wordOk l s) := ⟨_, rfl⟩
  rw [← hrr]
  have H2 := Lib.hid hrr
  clear hrr
  cases r2
  · go_wp2_with fail
    go_ret
    exact ⟨ret_bool (by rw [runOk, ← H1.out, ← H2.out]; rfl), hW1⟩
  go_wp2_with fail
  refine (within_any m 0 500 _).mono ?_
  rintro e w' ⟨rfl, rfl⟩
  obtain ⟨r3, hrr⟩ : ∃ r', r' = (inB m 0 500) := ⟨_, rfl⟩
  rw [← hrr]
  have H3 := Lib.hid hrr
  clear hrr
  go_wp2_with fail
  go_ret
  exact ⟨ret_bool (by rw [runOk, ← H1.out, ← H2.out, ← H3.out]; rfl), hW1⟩

def st16 (rs : List RuleT) (s : ByteArray) : Option StepT → ByteArray
  | some x => applyS rs s x
  | none => s
def st16Ok (rs : List RuleT) (s : ByteArray) : Option StepT → Bool
  | some x => applyOk rs s x
  | none => false

set_option maxRecDepth 100000 in
set_option maxHeartbeats 2000000 in
theorem specStep16_any (l : Int) (A : Option Addr) (n c : Nat) (rs : List RuleT) (s : ByteArray) (far : Bool) (w : World) (hr : Rd w A (cellsRule rs)) (hn : n = rs.length) (hb : n ≤ 1048576) (hz : ∀ x ∈ rs, x.1.size ≤ 1048576 ∧ x.2.size ≤ 1048576) (hs : s.size ≤ 1048576) (hro : rulesOk l rs = true) :
    Calls Try.prog 146 #[.agg #[.int .i64 l, .slice A n c], .string s, .bool far] w (Kept w (.tuple #[.string (st16 rs s (pickF far rs s)), .bool (pickF far rs s).isSome, .bool (st16Ok rs s (pickF far rs s))])) := by
  have hW0 : Below w.heap.size w (w.alloc (.cells #[.int .i64 l, .slice A n c] 49)) := (Below.refl _ _).alloc (Nat.le_refl _) _
  have hS0 := Bk.new w 49 #[.int .i64 l, .slice A n c]
  have Hr := Lib.hid hr
  clear hr
  have Hn := Lib.hid hn
  clear hn
  have Hz := Lib.hid hz
  clear hz
  have Hro := Lib.hid hro
  clear hro
  go_enter Try.func146, Try.ntmps146
  go_wp2_with fail
  with_reducible refine (specFirst_any l A n c rs s _ (Hr.out.keep hW0) Hn.out hb Hz.out hs Hro.out).mono ?_
  rintro e w1 ⟨rfl, b1⟩
  have hW1 := hW0.trans (b1.mono hW0.size)
  have hS1 := hS0.below b1 hS0.lt
  have s0_1 : w1.cell? ⟨w.heap.size, 0, none⟩ = some (.int .i64 l) := by rw [hS1.cell]; rfl
  have s1_1 : w1.cell? ⟨w.heap.size, 1, none⟩ = some (.slice A n c) := by rw [hS1.cell]; rfl
  have sl_1 := hS1.lt
  clear b1
  rw [stepV_eq]
  obtain ⟨a, ha⟩ : ∃ a, a = stepX (firstS rs s) := ⟨_, rfl⟩
  obtain ⟨b, hb2⟩ : ∃ b, b = stepY (firstS rs s) := ⟨_, rfl⟩
  obtain ⟨k, hk⟩ : ∃ k, k = (firstS rs s).isSome := ⟨_, rfl⟩
  rw [← ha, ← hb2, ← hk]
  have hS2 := hS1.alloc (.cells #[.int .i64 a, .int .i64 b] 78)
  have hW2 := hW1.alloc hW1.size (.cells #[.int .i64 a, .int .i64 b] 78)
  have hX2 := Bk.new w1 78 #[.int .i64 a, .int .i64 b]
  cases far
  · obtain ⟨f, hf⟩ : ∃ f, f = firstS rs s := ⟨_, rfl⟩
    have hp : pickF false rs s = f := by rw [hf]; rfl
    rw [← hf] at ha hb2 hk
    cases f with
    | none =>
      have e1 : st16 rs s (pickF false rs s) = s := by rw [hp]; rfl
      have e2 : (pickF false rs s).isSome = false := by rw [hp]; rfl
      have e3 : st16Ok rs s (pickF false rs s) = false := by rw [hp]; rfl
      have ek : k = false := hk
      subst ek
      clear hk
      have Hf := Lib.hid hf
      clear hf
      have Hp := Lib.hid hp
      clear hp
      have Ha := Lib.hid ha
      clear ha
      have Hb2 := Lib.hid hb2
      clear hb2
      have E1 := Lib.hid e1
      clear e1
      have E2 := Lib.hid e2
      clear e2
      have E3 := Lib.hid e3
      clear e3
      go_wp2_with fail
      refine bodyPost_ret (v := .tuple #[.string s, .bool false, .bool false]) (by simp [results, Try.results146, go_sem]) rfl ?_
      exact ⟨by rw [E1.out, E2.out, E3.out], by first | exact hW2 | exact HW2.out⟩
    | some x =>
      obtain ⟨x0, x1⟩ := x
      have hmem := pickF_mem hp
      obtain ⟨ea, eo⟩ := as_first Hro.out hmem
      obtain ⟨nx, hnx⟩ : ∃ nx, nx = applyS rs s (x0, x1) := ⟨_, rfl⟩
      obtain ⟨no, hno⟩ : ∃ no, no = applyOk rs s (x0, x1) := ⟨_, rfl⟩
      rw [← hnx] at ea
      rw [← hno] at eo
      have e1 : st16 rs s (pickF false rs s) = nx := by rw [hp, hnx]; rfl
      have e2 : (pickF false rs s).isSome = true := by rw [hp]; rfl
      have e3 : st16Ok rs s (pickF false rs s) = no := by rw [hp, hno]; rfl
      have ek : k = true := hk
      have eA : a = x0 := ha
      have eB : b = x1 := hb2
      subst ek eA eB
      clear hmem ha hb2 hk
      have Hf := Lib.hid hf
      clear hf
      have Hp := Lib.hid hp
      clear hp
      have Hnx := Lib.hid hnx
      clear hnx
      have Hno := Lib.hid hno
      clear hno
      have Ea := Lib.hid ea
      clear ea
      have Eo := Lib.hid eo
      clear eo
      have E1 := Lib.hid e1
      clear e1
      have E2 := Lib.hid e2
      clear e2
      have E3 := Lib.hid e3
      clear e3
      have HW2 := Lib.hid hW2
      clear hW2
      have HS2 := Lib.hid hS2
      clear hS2
      go_wp2_with fail
      with_reducible refine (specApplyStep_any l A n c rs s a b _ (Hr.out.keep HW2.out) Hn.out hb Hz.out hs).mono ?_
      rintro e w5 ⟨rfl, b5⟩
      rw [Ea.out, Eo.out]
      go_wp2_with fail
      refine bodyPost_ret (v := .tuple #[.string nx, .bool true, .bool no]) (by simp [results, Try.results146, go_sem]) rfl ?_
      exact ⟨by rw [E1.out, E2.out, E3.out], HW2.out.trans (b5.mono HW2.out.size)⟩
  · skip
    have Ha := Lib.hid ha
    clear ha
    have Hb2 := Lib.hid hb2
    clear hb2
    have Hk := Lib.hid hk
    clear hk
    have HS2 := Lib.hid hS2
    clear hS2
    have HW2 := Lib.hid hW2
    clear hW2
    have HX2 := Lib.hid hX2
    clear hX2
    go_wp2_with fail
    with_reducible refine (specLast_any l A n c rs s _ (Hr.out.keep HW2.out) Hn.out hb Hz.out hs Hro.out).mono ?_
    rintro e w3 ⟨rfl, b3⟩
    rw [stepV_eq]
    obtain ⟨f, hf⟩ : ∃ f, f = lastS rs s := ⟨_, rfl⟩
    have hp : pickF true rs s = f := by rw [hf]; rfl
    rw [← hf]
    obtain ⟨a2, ha2⟩ : ∃ a, a = stepX f := ⟨_, rfl⟩
    obtain ⟨b2, hb3⟩ : ∃ b, b = stepY f := ⟨_, rfl⟩
    obtain ⟨k2, hk2⟩ : ∃ k, k = f.isSome := ⟨_, rfl⟩
    rw [← ha2, ← hb3, ← hk2]
    have hW3 := HW2.out.trans (b3.mono HW2.out.size)
    have hS3 := HS2.out.below b3 HS2.out.lt
    have hX3 := HX2.out.below b3 HX2.out.lt
    have y0 : w3.cell? ⟨w1.heap.size, 0, none⟩ = some (.int .i64 a) := by rw [hX3.cell]; rfl
    have y1 : w3.cell? ⟨w1.heap.size, 1, none⟩ = some (.int .i64 b) := by rw [hX3.cell]; rfl
    have f0 := hX3.free 0
    have f1 := hX3.free 1
    have yl := hX3.lt
    have t0 : w3.cell? ⟨w.heap.size, 0, none⟩ = some (.int .i64 l) := by rw [hS3.cell]; rfl
    have t1 : w3.cell? ⟨w.heap.size, 1, none⟩ = some (.slice A n c) := by rw [hS3.cell]; rfl
    have hS4 := (hS3.far (p := ⟨w1.heap.size, 0, none⟩) (by dsimp only; omega) (.int .i64 a2)).far (p := ⟨w1.heap.size, 1, none⟩) (by dsimp only; omega) (.int .i64 b2)
    have hW4 := (hW3.setCell (p := ⟨w1.heap.size, 0, none⟩) (by dsimp only; omega) (.int .i64 a2)).setCell (p := ⟨w1.heap.size, 1, none⟩) (by dsimp only; omega) (.int .i64 b2)
    clear b3 HW2 HS2 HX2
    cases f with
    | none =>
      have e1 : st16 rs s (pickF true rs s) = s := by rw [hp]; rfl
      have e2 : (pickF true rs s).isSome = false := by rw [hp]; rfl
      have e3 : st16Ok rs s (pickF true rs s) = false := by rw [hp]; rfl
      have ek : k2 = false := hk2
      subst ek
      clear hk2
      have Hf := Lib.hid hf
      clear hf
      have Hp := Lib.hid hp
      clear hp
      have Ha2 := Lib.hid ha2
      clear ha2
      have Hb3 := Lib.hid hb3
      clear hb3
      have E1 := Lib.hid e1
      clear e1
      have E2 := Lib.hid e2
      clear e2
      have E3 := Lib.hid e3
      clear e3
      go_wp2_with fail
      refine bodyPost_ret (v := .tuple #[.string s, .bool false, .bool false]) (by simp [results, Try.results146, go_sem]) rfl ?_
      exact ⟨by rw [E1.out, E2.out, E3.out], by first | exact hW4 | exact HW4.out⟩
    | some x =>
      obtain ⟨x0, x1⟩ := x
      have hmem := pickF_mem hp
      obtain ⟨ea, eo⟩ := as_first Hro.out hmem
      obtain ⟨nx, hnx⟩ : ∃ nx, nx = applyS rs s (x0, x1) := ⟨_, rfl⟩
      obtain ⟨no, hno⟩ : ∃ no, no = applyOk rs s (x0, x1) := ⟨_, rfl⟩
      rw [← hnx] at ea
      rw [← hno] at eo
      have e1 : st16 rs s (pickF true rs s) = nx := by rw [hp, hnx]; rfl
      have e2 : (pickF true rs s).isSome = true := by rw [hp]; rfl
      have e3 : st16Ok rs s (pickF true rs s) = no := by rw [hp, hno]; rfl
      have ek : k2 = true := hk2
      have eA : a2 = x0 := ha2
      have eB : b2 = x1 := hb3
      subst ek eA eB
      clear hmem ha2 hb3 hk2
      have Hf := Lib.hid hf
      clear hf
      have Hp := Lib.hid hp
      clear hp
      have Hnx := Lib.hid hnx
      clear hnx
      have Hno := Lib.hid hno
      clear hno
      have Ea := Lib.hid ea
      clear ea
      have Eo := Lib.hid eo
      clear eo
      have E1 := Lib.hid e1
      clear e1
      have E2 := Lib.hid e2
      clear e2
      have E3 := Lib.hid e3
      clear e3
      have HW4 := Lib.hid hW4
      clear hW4
      have HS4 := Lib.hid hS4
      clear hS4
      go_wp2_with fail
      with_reducible refine (specApplyStep_any l A n c rs s a2 b2 _ (Hr.out.keep HW4.out) Hn.out hb Hz.out hs).mono ?_
      rintro e w5 ⟨rfl, b5⟩
      rw [Ea.out, Eo.out]
      go_wp2_with fail
      refine bodyPost_ret (v := .tuple #[.string nx, .bool true, .bool no]) (by simp [results, Try.results146, go_sem]) rfl ?_
      exact ⟨by rw [E1.out, E2.out, E3.out], HW4.out.trans (b5.mono HW4.out.size)⟩




/-- The next word, and its code. -/
def nwS (rs : List RuleT) (s : ByteArray) : Option StepT → ByteArray
  | some x => if applyOk rs s x then applyS rs s x else ⟨#[]⟩
  | none => ⟨#[]⟩
def nwC (rs : List RuleT) (s : ByteArray) : Option StepT → Int
  | some x => if applyOk rs s x then 3 else 2
  | none => 0

set_option maxRecDepth 100000 in
set_option maxHeartbeats 2000000 in
theorem implAfter_any (l : Int) (A : Option Addr) (n c : Nat) (rs : List RuleT) (s : ByteArray) (f : Option StepT) (w : World) (hr : Rd w A (cellsRule rs)) (hn : n = rs.length) (hb : n ≤ 1048576) (hz : ∀ x ∈ rs, x.1.size ≤ 1048576 ∧ x.2.size ≤ 1048576) (hs : s.size ≤ 1048576) (hf : ∀ x, f = some x → x ∈ stepAcc rs s s.size) :
    Calls Try.prog 176 #[.agg #[.int .i64 l, .slice A n c], .string s, .agg #[.int .i64 (stepX f), .int .i64 (stepY f)], .bool f.isSome] w (Kept w (.tuple #[.string (nwS rs s f), .int .i64 (nwC rs s f)])) := by
  obtain ⟨x0, h0⟩ : ∃ x0, x0 = stepX f := ⟨_, rfl⟩
  obtain ⟨x1, h1⟩ : ∃ x1, x1 = stepY f := ⟨_, rfl⟩
  rw [← h0, ← h1]
  have hW0 : Below w.heap.size w ((w.alloc (.cells #[.int .i64 l, .slice A n c] 49)).alloc (.cells #[.int .i64 x0, .int .i64 x1] 78)) := ((Below.refl _ _).alloc (Nat.le_refl _) _).alloc (by simp) _
  cases f with
  | none =>
    clear h0 h1 hf hn
    have e1 : nwS rs s none = ⟨#[]⟩ := rfl
    have e2 : nwC rs s none = 0 := rfl
    rw [e1, e2, Option.isSome_none]
    have E1 := Lib.hid e1
    clear e1
    have E2 := Lib.hid e2
    clear e2
    go_enter Try.func176, Try.ntmps176
    go_wp2_with fail
    go_ret2
    exact ⟨rfl, hW0⟩
  | some x =>
    obtain ⟨y0, y1⟩ := x
    have hmem := hf _ rfl
    obtain ⟨K, P, hxe, hK, -, -⟩ := mem_step hmem
    have hy0 : x0 = (K : Int) := h0.trans (congrArg Prod.fst hxe)
    have e0 : applyS rs s (x0, x1) = applyS rs s (y0, y1) := by rw [h0, h1]; rfl
    have e1 : applyOk rs s (x0, x1) = applyOk rs s (y0, y1) := by rw [h0, h1]; rfl
    clear h0 h1 hf hmem hxe
    rw [Option.isSome_some]
    obtain ⟨nx, hnx⟩ : ∃ nx, nx = applyS rs s (y0, y1) := ⟨_, rfl⟩
    obtain ⟨no, hno⟩ : ∃ no, no = applyOk rs s (y0, y1) := ⟨_, rfl⟩
    have e2 : nwS rs s (some (y0, y1)) = if no then nx else ⟨#[]⟩ := by rw [nwS, ← hno, ← hnx]
    have e3 : nwC rs s (some (y0, y1)) = if no then 3 else 2 := by rw [nwC, ← hno]
    rw [← hnx] at e0
    rw [← hno] at e1
    have Hy0 := Lib.hid hy0
    clear hy0
    have E0 := Lib.hid e0
    clear e0
    have E1 := Lib.hid e1
    clear e1
    have Hnx := Lib.hid hnx
    clear hnx
    have Hno := Lib.hid hno
    clear hno
    have Hn := Lib.hid hn
    clear hn
    have Hz := Lib.hid hz
    clear hz
    have Hr := Lib.hid hr
    clear hr
    have E2 := Lib.hid e2
    clear e2
    have E3 := Lib.hid e3
    clear e3
    go_enter Try.func176, Try.ntmps176
    go_wp2_with fail
    with_reducible refine (implApply_any l A n c rs s x0 x1 K _ (Hr.out.keep hW0) Hn.out hb Hz.out hs Hy0.out hK).mono ?_
    rintro e w3 ⟨rfl, b3⟩
    rw [E0.out, E1.out]
    have hW3 := hW0.trans (b3.mono hW0.size)
    cases no
    · go_wp2_with fail
      go_ret2
      exact ⟨by rw [E2.out, E3.out]; rfl, hW3⟩
    · go_wp2_with fail
      go_ret2
      exact ⟨by rw [E2.out, E3.out]; rfl, hW3⟩

set_option maxRecDepth 100000 in
set_option maxHeartbeats 2000000 in
theorem implfirstWord_any (l : Int) (A : Option Addr) (n c : Nat) (rs : List RuleT) (s : ByteArray) (w : World) (hr : Rd w A (cellsRule rs)) (hn : n = rs.length) (hb : n ≤ 1048576) (hz : ∀ x ∈ rs, x.1.size ≤ 1048576 ∧ x.2.size ≤ 1048576) (hs : s.size ≤ 1048576) :
    Calls Try.prog 148 #[.agg #[.int .i64 l, .slice A n c], .string s] w (Kept w (.tuple #[.string (nwS rs s (firstS rs s)), .int .i64 (nwC rs s (firstS rs s))])) := by
  have hW0 : Below w.heap.size w (w.alloc (.cells #[.int .i64 l, .slice A n c] 49)) := (Below.refl _ _).alloc (Nat.le_refl _) _
  have hS0 := Bk.new w 49 #[.int .i64 l, .slice A n c]
  have Hr := Lib.hid hr
  clear hr
  have Hn := Lib.hid hn
  clear hn
  have Hz := Lib.hid hz
  clear hz
  go_enter Try.func148, Try.ntmps148
  go_wp2_with fail
  with_reducible refine (implFirst_any l A n c rs s _ (Hr.out.keep hW0) Hn.out hb Hz.out hs).mono ?_
  rintro e w1 ⟨rfl, b1⟩
  have hW1 := hW0.trans (b1.mono hW0.size)
  have hS1 := hS0.below b1 hS0.lt
  have s0_1 : w1.cell? ⟨w.heap.size, 0, none⟩ = some (.int .i64 l) := by rw [hS1.cell]; rfl
  have s1_1 : w1.cell? ⟨w.heap.size, 1, none⟩ = some (.slice A n c) := by rw [hS1.cell]; rfl
  have sl_1 := hS1.lt
  clear b1
  rw [stepV_eq]
  obtain ⟨f, hf⟩ : ∃ f, f = firstS rs s := ⟨_, rfl⟩
  rw [← hf]
  have hmem : ∀ x, f = some x → x ∈ stepAcc rs s s.size := fun x hx => firstS_mem (hf ▸ hx)
  obtain ⟨x0, h0⟩ : ∃ x0, x0 = stepX f := ⟨_, rfl⟩
  obtain ⟨x1, h1⟩ : ∃ x1, x1 = stepY f := ⟨_, rfl⟩
  obtain ⟨k, hk⟩ : ∃ k, k = f.isSome := ⟨_, rfl⟩
  rw [← h0, ← h1, ← hk]
  have hW2 := hW1.alloc hW1.size (.cells #[.int .i64 x0, .int .i64 x1] 78)
  have Hf := Lib.hid hf
  clear hf
  have Hmem := Lib.hid hmem
  clear hmem
  have H0 := Lib.hid h0
  clear h0
  have H1 := Lib.hid h1
  clear h1
  have Hk := Lib.hid hk
  clear hk
  go_wp2_with fail
  rw [H0.out, H1.out, Hk.out]
  have hW2' : Below w.heap.size w (w1.alloc (.cells #[.int .i64 (stepX f), .int .i64 (stepY f)] 78)) := by rw [← H0.out, ← H1.out]; exact hW2
  with_reducible refine (implAfter_any l A n c rs s f _ (Hr.out.keep hW2') Hn.out hb Hz.out hs Hmem.out).mono ?_
  rintro e w3 ⟨rfl, b3⟩
  obtain ⟨a, ha⟩ : ∃ a, a = nwS rs s f := ⟨_, rfl⟩
  obtain ⟨b, hb2⟩ : ∃ b, b = nwC rs s f := ⟨_, rfl⟩
  rw [← ha, ← hb2]
  have Ha := Lib.hid ha
  clear ha
  have Hb2 := Lib.hid hb2
  clear hb2
  go_wp2_with fail
  go_ret2
  exact ⟨by rw [Ha.out, Hb2.out, Hf.out]; rfl, hW2'.trans (b3.mono hW2'.size)⟩





end Go.Proofs.Ytgnmfneinnojnaa
