/- Walks over l16Ok, l16Step and l16Run of the reference, isRun, wordAfter, firstWord, lastWord and runSteps of the program, and RunFirst and RunFar of both. -/
import Derived.Test.YtidmbeeadbedaaaNorm
namespace Go.Proofs.Ytidmbeeadbedaaa
open Go.RowKit Go.Shelf

/-- A run, as (word, steps, code). -/
abbrev RunT : Type := ByteArray × Int × Int
def runV (r : RunT) : Value := .agg #[.string r.1, .int .i64 r.2.1, .int .i64 r.2.2]
/-- k more steps at most, n made. -/
def runR (pick : ByteArray → Option StepT) (rs : List RuleT) : Nat → Nat → ByteArray → RunT
  | 0, n, s => match pick s with
    | none => (s, n, 0)
    | some _ => (s, n, 3)
  | k + 1, n, s => match pick s with
    | none => (s, n, 0)
    | some x => if applyOk rs s x then runR pick rs k (n + 1) (applyS rs s x) else (s, n, 2)
theorem runR_none {pick : ByteArray → Option StepT} {rs : List RuleT} {k n : Nat} {s : ByteArray} (h : pick s = none) : runR pick rs k n s = (s, (n : Int), 0) := by
  cases k <;> rw [runR, h]
theorem runR_full {pick : ByteArray → Option StepT} {rs : List RuleT} {n : Nat} {s : ByteArray} {x : StepT} (h : pick s = some x) : runR pick rs 0 n s = (s, (n : Int), 3) := by rw [runR, h]
theorem runR_long {pick : ByteArray → Option StepT} {rs : List RuleT} {k n : Nat} {s : ByteArray} {x : StepT} (hk : 0 < k) (h : pick s = some x) (ho : applyOk rs s x = false) : runR pick rs k n s = (s, (n : Int), 2) := by
  obtain ⟨k, rfl⟩ : ∃ k', k = k' + 1 := ⟨k - 1, by omega⟩
  rw [runR, h]; simp [ho]
theorem runR_go {pick : ByteArray → Option StepT} {rs : List RuleT} {k n : Nat} {s : ByteArray} {x : StepT} (hk : 0 < k) (h : pick s = some x) (ho : applyOk rs s x = true) : runR pick rs k n s = runR pick rs (k - 1) (n + 1) (applyS rs s x) := by
  obtain ⟨k, rfl⟩ : ∃ k', k = k' + 1 := ⟨k - 1, by omega⟩
  rw [runR, h]; simp [ho]
def runOk (l : Int) (rs : List RuleT) (s : ByteArray) : Bool := rulesOk l rs && wordOk l s
def pickF (far : Bool) (rs : List RuleT) (s : ByteArray) : Option StepT := if far then lastS rs s else firstS rs s
/-- RunFirst and RunFar, in plain words. -/
def runAll (far : Bool) (l : Int) (rs : List RuleT) (s : ByteArray) (m : Int) : RunT := if runOk l rs s && inB m 0 500 then runR (pickF far rs) rs m.toNat 0 s else (⟨#[]⟩, 0, 4)
set_option maxRecDepth 100000 in
set_option maxHeartbeats 1000000 in
theorem implIsRun_any (l : Int) (A : Option Addr) (n c : Nat) (rs : List RuleT) (s : ByteArray) (m : Int) (w : World) (hr : Rd w A (cellsRule rs)) (hn : n = rs.length) (hb : n ≤ 1048576) (hz : ∀ x ∈ rs, x.1.size ≤ 1048576 ∧ x.2.size ≤ 1048576) (hs : s.size ≤ 1048576) :
    Calls Try.prog 97 #[.agg #[.int .i64 l, .slice A n c], .string s, .int .i64 m] w (Kept w (.bool (runOk l rs s && inB m 0 500))) := by
  have hW0 : Below w.heap.size w (w.alloc (.cells #[.int .i64 l, .slice A n c] 25)) := (Below.refl _ _).alloc (Nat.le_refl _) _
  have hS0 := Bk.new w 25 #[.int .i64 l, .slice A n c]
  have Hr := Lib.hid hr
  clear hr
  have Hn := Lib.hid hn
  clear hn
  have Hz := Lib.hid hz
  clear hz
  go_enter Try.func97, Try.ntmps97
  go_wp2_with fail
  with_reducible refine (implRulesOk_any l A n c rs _ (Hr.out.keep hW0) Hn.out hb Hz.out).mono ?_
  rintro e w1 ⟨rfl, b1⟩
  have hW1 := hW0.trans (b1.mono hW0.size)
  have hS1 := hS0.below b1 hS0.lt
  have s0_1 : w1.cell? ⟨w.heap.size, 0, none⟩ = some (.int .i64 l) := by rw [hS1.cell]; rfl
  have s1_1 : w1.cell? ⟨w.heap.size, 1, none⟩ = some (.slice A n c) := by rw [hS1.cell]; rfl
  have sl_1 := hS1.lt
  clear b1
  obtain ⟨r1, hrr⟩ : ∃ r', r' = (rulesOk l rs) := ⟨_, rfl⟩
  rw [← hrr]
  have H1 := Lib.hid hrr
  clear hrr
  cases r1
  · go_wp2_with fail
    go_ret
    exact ⟨ret_bool (by rw [runOk, ← H1.out]; rfl), hW1⟩
  go_wp2_with fail
  refine (implWord_any l s _ (by omega)).mono ?_
  rintro e w2 ⟨rfl, rfl⟩
  obtain ⟨r2, hrr⟩ : ∃ r', r' = (wordOk l s) := ⟨_, rfl⟩
  rw [← hrr]
  have H2 := Lib.hid hrr
  clear hrr
  cases r2
  · go_wp2_with fail
    go_ret
    exact ⟨ret_bool (by rw [runOk, ← H1.out, ← H2.out]; rfl), hW1⟩
  go_wp2_with fail
  refine (within_any m 0 500 _).mono ?_
  rintro e w' ⟨rfl, rfl⟩
  obtain ⟨r3, hrr⟩ : ∃ r', r' = (inB m 0 500) := ⟨_, rfl⟩
  rw [← hrr]
  have H3 := Lib.hid hrr
  clear hrr
  go_wp2_with fail
  go_ret
  exact ⟨ret_bool (by rw [runOk, ← H1.out, ← H2.out, ← H3.out]; rfl), hW1⟩

def st16 (rs : List RuleT) (s : ByteArray) : Option StepT → ByteArray
  | some x => applyS rs s x
  | none => s
/-- The next word, and its code. -/
def nwS (rs : List RuleT) (s : ByteArray) : Option StepT → ByteArray
  | some x => if applyOk rs s x then applyS rs s x else ⟨#[]⟩
  | none => ⟨#[]⟩
def nwC (rs : List RuleT) (s : ByteArray) : Option StepT → Int
  | some x => if applyOk rs s x then 3 else 2
  | none => 0

set_option maxRecDepth 100000 in
set_option maxHeartbeats 2000000 in
theorem implAfter_any (l : Int) (A : Option Addr) (n c : Nat) (rs : List RuleT) (s : ByteArray) (f : Option StepT) (w : World) (hr : Rd w A (cellsRule rs)) (hn : n = rs.length) (hb : n ≤ 1048576) (hz : ∀ x ∈ rs, x.1.size ≤ 1048576 ∧ x.2.size ≤ 1048576) (hs : s.size ≤ 1048576) (hf : ∀ x, f = some x → x ∈ stepAcc rs s s.size) :
    Calls Try.prog 154 #[.agg #[.int .i64 l, .slice A n c], .string s, .agg #[.int .i64 (stepX f), .int .i64 (stepY f)], .bool f.isSome] w (Kept w (.tuple #[.string (nwS rs s f), .int .i64 (nwC rs s f)])) := by
  obtain ⟨x0, h0⟩ : ∃ x0, x0 = stepX f := ⟨_, rfl⟩
  obtain ⟨x1, h1⟩ : ∃ x1, x1 = stepY f := ⟨_, rfl⟩
  rw [← h0, ← h1]
  have hW0 : Below w.heap.size w ((w.alloc (.cells #[.int .i64 l, .slice A n c] 25)).alloc (.cells #[.int .i64 x0, .int .i64 x1] 61)) := ((Below.refl _ _).alloc (Nat.le_refl _) _).alloc (by simp) _
  cases f with
  | none =>
    clear h0 h1 hf hn
    have e1 : nwS rs s none = ⟨#[]⟩ := rfl
    have e2 : nwC rs s none = 0 := rfl
    rw [e1, e2, Option.isSome_none]
    have E1 := Lib.hid e1
    clear e1
    have E2 := Lib.hid e2
    clear e2
    go_enter Try.func154, Try.ntmps154
    go_wp2_with fail
    go_ret2
    exact ⟨rfl, hW0⟩
  | some x =>
    obtain ⟨y0, y1⟩ := x
    have hmem := hf _ rfl
    obtain ⟨K, P, hxe, hK, -, -⟩ := mem_step hmem
    have hy0 : x0 = (K : Int) := h0.trans (congrArg Prod.fst hxe)
    have e0 : applyS rs s (x0, x1) = applyS rs s (y0, y1) := by rw [h0, h1]; rfl
    have e1 : applyOk rs s (x0, x1) = applyOk rs s (y0, y1) := by rw [h0, h1]; rfl
    clear h0 h1 hf hmem hxe
    rw [Option.isSome_some]
    obtain ⟨nx, hnx⟩ : ∃ nx, nx = applyS rs s (y0, y1) := ⟨_, rfl⟩
    obtain ⟨no, hno⟩ : ∃ no, no = applyOk rs s (y0, y1) := ⟨_, rfl⟩
    have e2 : nwS rs s (some (y0, y1)) = if no then nx else ⟨#[]⟩ := by rw [nwS, ← hno, ← hnx]
    have e3 : nwC rs s (some (y0, y1)) = if no then 3 else 2 := by rw [nwC, ← hno]
    rw [← hnx] at e0
    rw [← hno] at e1
    have Hy0 := Lib.hid hy0
    clear hy0
    have E0 := Lib.hid e0
    clear e0
    have E1 := Lib.hid e1
    clear e1
    have Hnx := Lib.hid hnx
    clear hnx
    have Hno := Lib.hid hno
    clear hno
    have Hn := Lib.hid hn
    clear hn
    have Hz := Lib.hid hz
    clear hz
    have Hr := Lib.hid hr
    clear hr
    have E2 := Lib.hid e2
    clear e2
    have E3 := Lib.hid e3
    clear e3
    go_enter Try.func154, Try.ntmps154
    go_wp2_with fail
    with_reducible refine (implApply_any l A n c rs s x0 x1 K _ (Hr.out.keep hW0) Hn.out hb Hz.out hs Hy0.out hK).mono ?_
    rintro e w3 ⟨rfl, b3⟩
    rw [E0.out, E1.out]
    have hW3 := hW0.trans (b3.mono hW0.size)
    cases no
    · go_wp2_with fail
      go_ret2
      exact ⟨by rw [E2.out, E3.out]; rfl, hW3⟩
    · go_wp2_with fail
      go_ret2
      exact ⟨by rw [E2.out, E3.out]; rfl, hW3⟩

set_option maxRecDepth 100000 in
set_option maxHeartbeats 2000000 in
theorem implfirstWord_any (l : Int) (A : Option Addr) (n c : Nat) (rs : List RuleT) (s : ByteArray) (w : World) (hr : Rd w A (cellsRule rs)) (hn : n = rs.length) (hb : n ≤ 1048576) (hz : ∀ x ∈ rs, x.1.size ≤ 1048576 ∧ x.2.size ≤ 1048576) (hs : s.size ≤ 1048576) :
    Calls Try.prog 99 #[.agg #[.int .i64 l, .slice A n c], .string s] w (Kept w (.tuple #[.string (nwS rs s (firstS rs s)), .int .i64 (nwC rs s (firstS rs s))])) := by
  have hW0 : Below w.heap.size w (w.alloc (.cells #[.int .i64 l, .slice A n c] 25)) := (Below.refl _ _).alloc (Nat.le_refl _) _
  have hS0 := Bk.new w 25 #[.int .i64 l, .slice A n c]
  have Hr := Lib.hid hr
  clear hr
  have Hn := Lib.hid hn
  clear hn
  have Hz := Lib.hid hz
  clear hz
  go_enter Try.func99, Try.ntmps99
  go_wp2_with fail
  with_reducible refine (implFirst_any l A n c rs s _ (Hr.out.keep hW0) Hn.out hb Hz.out hs).mono ?_
  rintro e w1 ⟨rfl, b1⟩
  have hW1 := hW0.trans (b1.mono hW0.size)
  have hS1 := hS0.below b1 hS0.lt
  have s0_1 : w1.cell? ⟨w.heap.size, 0, none⟩ = some (.int .i64 l) := by rw [hS1.cell]; rfl
  have s1_1 : w1.cell? ⟨w.heap.size, 1, none⟩ = some (.slice A n c) := by rw [hS1.cell]; rfl
  have sl_1 := hS1.lt
  clear b1
  rw [stepV_eq]
  obtain ⟨f, hf⟩ : ∃ f, f = firstS rs s := ⟨_, rfl⟩
  rw [← hf]
  have hmem : ∀ x, f = some x → x ∈ stepAcc rs s s.size := fun x hx => firstS_mem (hf ▸ hx)
  obtain ⟨x0, h0⟩ : ∃ x0, x0 = stepX f := ⟨_, rfl⟩
  obtain ⟨x1, h1⟩ : ∃ x1, x1 = stepY f := ⟨_, rfl⟩
  obtain ⟨k, hk⟩ : ∃ k, k = f.isSome := ⟨_, rfl⟩
  rw [← h0, ← h1, ← hk]
  have hW2 := hW1.alloc hW1.size (.cells #[.int .i64 x0, .int .i64 x1] 61)
  have Hf := Lib.hid hf
  clear hf
  have Hmem := Lib.hid hmem
  clear hmem
  have H0 := Lib.hid h0
  clear h0
  have H1 := Lib.hid h1
  clear h1
  have Hk := Lib.hid hk
  clear hk
  go_wp2_with fail
  rw [H0.out, H1.out, Hk.out]
  have hW2' : Below w.heap.size w (w1.alloc (.cells #[.int .i64 (stepX f), .int .i64 (stepY f)] 61)) := by rw [← H0.out, ← H1.out]; exact hW2
  with_reducible refine (implAfter_any l A n c rs s f _ (Hr.out.keep hW2') Hn.out hb Hz.out hs Hmem.out).mono ?_
  rintro e w3 ⟨rfl, b3⟩
  obtain ⟨a, ha⟩ : ∃ a, a = nwS rs s f := ⟨_, rfl⟩
  obtain ⟨b, hb2⟩ : ∃ b, b = nwC rs s f := ⟨_, rfl⟩
  rw [← ha, ← hb2]
  have Ha := Lib.hid ha
  clear ha
  have Hb2 := Lib.hid hb2
  clear hb2
  go_wp2_with fail
  go_ret2
  exact ⟨by rw [Ha.out, Hb2.out, Hf.out]; rfl, hW2'.trans (b3.mono hW2'.size)⟩

set_option maxRecDepth 100000 in
set_option maxHeartbeats 2000000 in
theorem impllastWord_any (l : Int) (A : Option Addr) (n c : Nat) (rs : List RuleT) (s : ByteArray) (w : World) (hr : Rd w A (cellsRule rs)) (hn : n = rs.length) (hb : n ≤ 1048576) (hz : ∀ x ∈ rs, x.1.size ≤ 1048576 ∧ x.2.size ≤ 1048576) (hs : s.size ≤ 1048576) :
    Calls Try.prog 105 #[.agg #[.int .i64 l, .slice A n c], .string s] w (Kept w (.tuple #[.string (nwS rs s (lastS rs s)), .int .i64 (nwC rs s (lastS rs s))])) := by
  have hW0 : Below w.heap.size w (w.alloc (.cells #[.int .i64 l, .slice A n c] 25)) := (Below.refl _ _).alloc (Nat.le_refl _) _
  have hS0 := Bk.new w 25 #[.int .i64 l, .slice A n c]
  have Hr := Lib.hid hr
  clear hr
  have Hn := Lib.hid hn
  clear hn
  have Hz := Lib.hid hz
  clear hz
  go_enter Try.func105, Try.ntmps105
  go_wp2_with fail
  with_reducible refine (implLast_any l A n c rs s _ (Hr.out.keep hW0) Hn.out hb Hz.out hs).mono ?_
  rintro e w1 ⟨rfl, b1⟩
  have hW1 := hW0.trans (b1.mono hW0.size)
  have hS1 := hS0.below b1 hS0.lt
  have s0_1 : w1.cell? ⟨w.heap.size, 0, none⟩ = some (.int .i64 l) := by rw [hS1.cell]; rfl
  have s1_1 : w1.cell? ⟨w.heap.size, 1, none⟩ = some (.slice A n c) := by rw [hS1.cell]; rfl
  have sl_1 := hS1.lt
  clear b1
  rw [stepV_eq]
  obtain ⟨f, hf⟩ : ∃ f, f = lastS rs s := ⟨_, rfl⟩
  rw [← hf]
  have hmem : ∀ x, f = some x → x ∈ stepAcc rs s s.size := fun x hx => lastS_mem (hf ▸ hx)
  obtain ⟨x0, h0⟩ : ∃ x0, x0 = stepX f := ⟨_, rfl⟩
  obtain ⟨x1, h1⟩ : ∃ x1, x1 = stepY f := ⟨_, rfl⟩
  obtain ⟨k, hk⟩ : ∃ k, k = f.isSome := ⟨_, rfl⟩
  rw [← h0, ← h1, ← hk]
  have hW2 := hW1.alloc hW1.size (.cells #[.int .i64 x0, .int .i64 x1] 61)
  have Hf := Lib.hid hf
  clear hf
  have Hmem := Lib.hid hmem
  clear hmem
  have H0 := Lib.hid h0
  clear h0
  have H1 := Lib.hid h1
  clear h1
  have Hk := Lib.hid hk
  clear hk
  go_wp2_with fail
  rw [H0.out, H1.out, Hk.out]
  have hW2' : Below w.heap.size w (w1.alloc (.cells #[.int .i64 (stepX f), .int .i64 (stepY f)] 61)) := by rw [← H0.out, ← H1.out]; exact hW2
  with_reducible refine (implAfter_any l A n c rs s f _ (Hr.out.keep hW2') Hn.out hb Hz.out hs Hmem.out).mono ?_
  rintro e w3 ⟨rfl, b3⟩
  obtain ⟨a, ha⟩ : ∃ a, a = nwS rs s f := ⟨_, rfl⟩
  obtain ⟨b, hb2⟩ : ∃ b, b = nwC rs s f := ⟨_, rfl⟩
  rw [← ha, ← hb2]
  have Ha := Lib.hid ha
  clear ha
  have Hb2 := Lib.hid hb2
  clear hb2
  go_wp2_with fail
  go_ret2
  exact ⟨by rw [Ha.out, Hb2.out, Hf.out]; rfl, hW2'.trans (b3.mono hW2'.size)⟩

set_option maxRecDepth 100000 in
set_option maxHeartbeats 2000000 in
theorem runSteps_any (pick : ByteArray → Option StepT) (rs : List RuleT) (s : ByteArray) (M : Nat) (g : FuncId) (u : Value) (w : World) (eg : ∀ args w, (callFunc g args).run Try.prog w = .ok (.enter g args) w) (hs : s.size ≤ 1048576) (hM : M ≤ 500) (hp : ∀ s x, pick s = some x → x ∈ stepAcc rs s s.size)
    (hg : ∀ (W : World) (s : ByteArray), s.size ≤ 1048576 → Below w.heap.size w W → Calls Try.prog g #[u, .string s] W (Kept W (.tuple #[.string (nwS rs s (pick s)), .int .i64 (nwC rs s (pick s))]))) :
    Calls Try.prog 98 #[.string s, .int .i64 (M : Int), .func (.func g) #[u] #[]] w (Kept w (runV (runR pick rs M 0 s))) := by
  have hW0 : Below w.heap.size w (w.alloc (.cells #[.string ⟨#[]⟩, .int .i64 0, .int .i64 0] 67)) := (Below.refl _ _).alloc (Nat.le_refl _) _
  have hR0 := Bk.new w 67 #[.string ⟨#[]⟩, .int .i64 0, .int .i64 0]
  have Hg := Lib.hid hg
  clear hg
  have Hp := Lib.hid hp
  clear hp
  have HW0 := Lib.hid hW0
  clear hW0
  have HR0 := Lib.hid hR0
  clear hR0
  go_enter Try.func98, Try.ntmps98
  go_wp2_with fail
  go_loopw [0, 7] (fun v i wr => ∃ (cur : ByteArray) (k : Nat), v = .string cur ∧ i = .int .i64 k ∧ k ≤ M ∧ cur.size ≤ 1048576 ∧ Hid (runR pick rs M 0 s = runR pick rs (M - k) k cur) ∧ Bk wr w.heap.size 67 #[.string ⟨#[]⟩, .int .i64 0, .int .i64 0] ∧ Below w.heap.size w wr) (fun _ i _ => M - (intOf i).toNat)
  case atStart => exact ⟨s, 0, rfl, rfl, Nat.zero_le _, hs, by unfold Hid; rw [Nat.sub_zero], HR0.out, HW0.out⟩
  case round =>
    clear HR0 HW0
    obtain ⟨cur, k, rfl, rfl, hk, hcs, HE, hR0, hW0⟩ := hrel
    go_wp2_with fail
    refine (Hg.out _ cur hcs hW0).mono ?_
    rintro e w2 ⟨rfl, b2⟩
    have hW2 := hW0.trans (b2.mono hW0.size)
    have hR2 := hR0.below b2 hR0.lt
    clear b2 hR0 hW0
    have r0 : w2.cell? ⟨w.heap.size, 0, none⟩ = some (.string ⟨#[]⟩) := by rw [hR2.cell]; rfl
    have r1 : w2.cell? ⟨w.heap.size, 1, none⟩ = some (.int .i64 0) := by rw [hR2.cell]; rfl
    have r2 : w2.cell? ⟨w.heap.size, 2, none⟩ = some (.int .i64 0) := by rw [hR2.cell]; rfl
    have f0 := hR2.free 0
    have f1 := hR2.free 1
    have f2 := hR2.free 2
    have rl := hR2.lt
    obtain ⟨f, hf⟩ : ∃ f, f = pick cur := ⟨_, rfl⟩
    rw [← hf]
    cases f with
    | none =>
      have hE2 : runR pick rs M 0 s = (cur, (k : Int), 0) := by rw [HE.out, runR_none hf.symm]
      have g1 : nwS rs cur none = ⟨#[]⟩ := rfl
      have g2 : nwC rs cur none = 0 := rfl
      rw [g1, g2]
      have Hf := Lib.hid hf
      clear hf
      have HE2 := Lib.hid hE2
      clear hE2
      have G1 := Lib.hid g1
      clear g1
      have G2 := Lib.hid g2
      clear g2
      go_wp2_with fail
      have hBn := ((hR2.put 0 (.string cur)).put 1 (.int .i64 (k : Int))).put 2 (.int .i64 0)
      have q0 := hBn.cell 0
      have q1 := hBn.cell 1
      have q2 := hBn.cell 2
      refine bodyPost_ret (v := .agg #[.string cur, .int .i64 (k : Int), .int .i64 0]) (by simp [results, Try.results98, go_sem, q0, q1, q2]) rfl ?_
      exact ⟨by rw [HE2.out]; rfl, ((hW2.setCell (p := ⟨w.heap.size, 0, none⟩) (by dsimp only; omega) _).setCell (p := ⟨w.heap.size, 1, none⟩) (by dsimp only; omega) _).setCell (p := ⟨w.heap.size, 2, none⟩) (by dsimp only; omega) _⟩
    | some x =>
      have hsz := apply_size (Hp.out _ _ hf.symm)
      obtain ⟨nx, hnx⟩ : ∃ nx, nx = applyS rs cur x := ⟨_, rfl⟩
      obtain ⟨no, hno⟩ : ∃ no, no = applyOk rs cur x := ⟨_, rfl⟩
      have g1 : nwS rs cur (some x) = if no then nx else ⟨#[]⟩ := by rw [nwS, ← hno, ← hnx]
      have g2 : nwC rs cur (some x) = if no then 3 else 2 := by rw [nwC, ← hno]
      rw [← hnx] at hsz
      by_cases hkM : k = M
      · subst hkM
        have hE2 : runR pick rs k 0 s = (cur, (k : Int), 3) := by rw [HE.out, Nat.sub_self, runR_full hf.symm]
        cases no
        · rw [g1, g2, if_neg (by simp), if_neg (by simp)]
          clear g1 g2
          have Hf := Lib.hid hf
          clear hf
          have HE2 := Lib.hid hE2
          clear hE2
          have Hnx := Lib.hid hnx
          clear hnx
          have Hno := Lib.hid hno
          clear hno
          go_wp2_with fail
          have hBn := ((hR2.put 0 (.string cur)).put 1 (.int .i64 (k : Int))).put 2 (.int .i64 3)
          have q0 := hBn.cell 0
          have q1 := hBn.cell 1
          have q2 := hBn.cell 2
          refine bodyPost_ret (v := .agg #[.string cur, .int .i64 (k : Int), .int .i64 3]) (by simp [results, Try.results98, go_sem, q0, q1, q2]) rfl ?_
          exact ⟨by rw [HE2.out]; rfl, ((hW2.setCell (p := ⟨w.heap.size, 0, none⟩) (by dsimp only; omega) _).setCell (p := ⟨w.heap.size, 1, none⟩) (by dsimp only; omega) _).setCell (p := ⟨w.heap.size, 2, none⟩) (by dsimp only; omega) _⟩
        · rw [g1, g2, if_pos rfl, if_pos rfl]
          clear g1 g2
          have Hf := Lib.hid hf
          clear hf
          have HE2 := Lib.hid hE2
          clear hE2
          have Hnx := Lib.hid hnx
          clear hnx
          have Hno := Lib.hid hno
          clear hno
          go_wp2_with fail
          have hBn := ((hR2.put 0 (.string cur)).put 1 (.int .i64 (k : Int))).put 2 (.int .i64 3)
          have q0 := hBn.cell 0
          have q1 := hBn.cell 1
          have q2 := hBn.cell 2
          refine bodyPost_ret (v := .agg #[.string cur, .int .i64 (k : Int), .int .i64 3]) (by simp [results, Try.results98, go_sem, q0, q1, q2]) rfl ?_
          exact ⟨by rw [HE2.out]; rfl, ((hW2.setCell (p := ⟨w.heap.size, 0, none⟩) (by dsimp only; omega) _).setCell (p := ⟨w.heap.size, 1, none⟩) (by dsimp only; omega) _).setCell (p := ⟨w.heap.size, 2, none⟩) (by dsimp only; omega) _⟩
      have hq : ((k : Int) == (M : Int)) = false := by simp; omega
      cases no
      · have hE2 : runR pick rs M 0 s = (cur, (k : Int), 2) := by rw [HE.out, runR_long (by omega) hf.symm hno.symm]
        rw [g1, g2, if_neg (by simp), if_neg (by simp)]
        clear g1 g2
        have Hf := Lib.hid hf
        clear hf
        have HE2 := Lib.hid hE2
        clear hE2
        have Hnx := Lib.hid hnx
        clear hnx
        have Hno := Lib.hid hno
        clear hno
        go_wp2_with fail
        have hBn := ((hR2.put 0 (.string cur)).put 1 (.int .i64 (k : Int))).put 2 (.int .i64 2)
        have q0 := hBn.cell 0
        have q1 := hBn.cell 1
        have q2 := hBn.cell 2
        refine bodyPost_ret (v := .agg #[.string cur, .int .i64 (k : Int), .int .i64 2]) (by simp [results, Try.results98, go_sem, q0, q1, q2]) rfl ?_
        exact ⟨by rw [HE2.out]; rfl, ((hW2.setCell (p := ⟨w.heap.size, 0, none⟩) (by dsimp only; omega) _).setCell (p := ⟨w.heap.size, 1, none⟩) (by dsimp only; omega) _).setCell (p := ⟨w.heap.size, 2, none⟩) (by dsimp only; omega) _⟩
      · have hE2 : runR pick rs M 0 s = runR pick rs (M - (k + 1)) (k + 1) nx := by rw [HE.out, runR_go (by omega) hf.symm hno.symm, ← hnx]; rfl
        rw [g1, g2, if_pos rfl, if_pos rfl]
        clear g1 g2
        have Hf := Lib.hid hf
        clear hf
        have HE2 := Lib.hid hE2
        clear hE2
        have Hnx := Lib.hid hnx
        clear hnx
        have Hno := Lib.hid hno
        clear hno
        clear r0 r1 r2 f0 f1 f2 rl
        go_wp2_with fail
        go_roundw
        case rel => exact ⟨nx, k + 1, rfl, by go_num, by omega, by omega, HE2.out, hR2, hW2⟩
        case measure => simp [intOf] <;> omega

set_option maxRecDepth 100000 in
set_option maxHeartbeats 1000000 in
theorem implRunFirst_any (l : Int) (A : Option Addr) (n c : Nat) (rs : List RuleT) (s : ByteArray) (m : Int) (w : World) (hr : Rd w A (cellsRule rs)) (hn : n = rs.length) (hb : n ≤ 1048576) (hz : ∀ x ∈ rs, x.1.size ≤ 1048576 ∧ x.2.size ≤ 1048576) (hs : s.size ≤ 1048576) :
    Calls Try.prog 39 #[.agg #[.int .i64 l, .slice A n c], .string s, .int .i64 m] w (Kept w (runV (runAll false l rs s m))) := by
  have hmf : ∀ (fn : Fn) (first cap : Array Value) (w : World), (Instr.makeFunc fn first cap).run Try.prog w = .ok (.func fn first cap) w := fun _ _ _ _ => rfl
  have eg := enters_of Try.func99 (by kernel_rfl) rfl
  have hW0 : Below w.heap.size w ((w.alloc (.cells #[.int .i64 l, .slice A n c] 25)).alloc (.cells #[.string ⟨#[]⟩, .int .i64 0, .int .i64 0] 67)) := ((Below.refl _ _).alloc (Nat.le_refl _) _).alloc (by simp) _
  have hS0 : Bk ((w.alloc (.cells #[.int .i64 l, .slice A n c] 25)).alloc (.cells #[.string ⟨#[]⟩, .int .i64 0, .int .i64 0] 67)) w.heap.size 25 #[.int .i64 l, .slice A n c] := (Bk.new w _ _).alloc _
  have hR0 : Bk ((w.alloc (.cells #[.int .i64 l, .slice A n c] 25)).alloc (.cells #[.string ⟨#[]⟩, .int .i64 0, .int .i64 0] 67)) (w.heap.size + 1) 67 #[.string ⟨#[]⟩, .int .i64 0, .int .i64 0] := (Bk.new (w.alloc (.cells #[.int .i64 l, .slice A n c] 25)) 67 #[.string ⟨#[]⟩, .int .i64 0, .int .i64 0]).cast (by simp)
  have Hr := Lib.hid hr
  clear hr
  have Hn := Lib.hid hn
  clear hn
  have Hz := Lib.hid hz
  clear hz
  have Eg := Lib.hid eg
  clear eg
  go_enter Try.func39, Try.ntmps39
  go_wp2_with fail
  refine (implIsRun_any l A n c rs s m _ (Hr.out.keep hW0) Hn.out hb Hz.out hs).mono ?_
  rintro e w1 ⟨rfl, b1⟩
  have hW1 := hW0.trans (b1.mono hW0.size)
  have hS1 := hS0.below b1 hS0.lt
  have hR1 := hR0.below b1 hR0.lt
  clear b1 hS0 hR0 hW0
  have r0 : w1.cell? ⟨w.heap.size + 1, 0, none⟩ = some (.string ⟨#[]⟩) := by rw [hR1.cell]; rfl
  have r1 : w1.cell? ⟨w.heap.size + 1, 1, none⟩ = some (.int .i64 0) := by rw [hR1.cell]; rfl
  have r2 : w1.cell? ⟨w.heap.size + 1, 2, none⟩ = some (.int .i64 0) := by rw [hR1.cell]; rfl
  have f0 := hR1.free 0
  have f1 := hR1.free 1
  have f2 := hR1.free 2
  have rl := hR1.lt
  have s0 : w1.cell? ⟨w.heap.size, 0, none⟩ = some (.int .i64 l) := by rw [hS1.cell]; rfl
  have s1 : w1.cell? ⟨w.heap.size, 1, none⟩ = some (.slice A n c) := by rw [hS1.cell]; rfl
  have sl := hS1.lt
  obtain ⟨o1, ho1⟩ : ∃ o1, o1 = (runOk l rs s && inB m 0 500) := ⟨_, rfl⟩
  rw [← ho1]
  cases o1
  · have e1 : runAll false l rs s m = (⟨#[]⟩, 0, 4) := by rw [runAll, ← ho1]; rfl
    have E1 := Lib.hid e1
    clear e1
    have Ho1 := Lib.hid ho1
    clear ho1
    go_wp2_with fail
    have hBn := ((hR1.put 0 (.string ⟨#[]⟩)).put 1 (.int .i64 0)).put 2 (.int .i64 4)
    have q0 := hBn.cell 0
    have q1 := hBn.cell 1
    have q2 := hBn.cell 2
    refine bodyPost_ret (v := .agg #[.string ⟨#[]⟩, .int .i64 0, .int .i64 4]) (by simp [results, Try.results39, go_sem, q0, q1, q2]) rfl ?_
    exact ⟨by rw [E1.out]; rfl, ((hW1.setCell (p := ⟨w.heap.size + 1, 0, none⟩) (by dsimp only; omega) _).setCell (p := ⟨w.heap.size + 1, 1, none⟩) (by dsimp only; omega) _).setCell (p := ⟨w.heap.size + 1, 2, none⟩) (by dsimp only; omega) _⟩
  have h1 := ho1
  rw [eq_comm, Bool.and_eq_true] at h1
  obtain ⟨hm1, hm2⟩ := inB_out h1.2.symm
  obtain ⟨M, rfl⟩ := Int.eq_ofNat_of_zero_le hm1
  have e1 : runAll false l rs s (M : Int) = runR (firstS rs) rs M 0 s := by rw [runAll, ← ho1, Int.toNat_natCast]; rfl
  clear h1
  have E1 := Lib.hid e1
  clear e1
  have Ho1 := Lib.hid ho1
  clear ho1
  have HR1 := Lib.hid hR1
  clear hR1
  have HS1 := Lib.hid hS1
  clear hS1
  clear r0 r1 r2 f0 f1 f2 rl
  go_wp2_with fail
  refine (runSteps_any (firstS rs) rs s M 99 (.agg #[.int .i64 l, .slice A n c]) _ Eg.out hs (by omega) (fun s x hx => firstS_mem hx) (fun W s' hs' hB => implfirstWord_any l A n c rs s' W ((Hr.out.keep hW1).keep hB) Hn.out hb Hz.out hs')).mono ?_
  rintro e w2 ⟨rfl, b2⟩
  have hW2 := hW1.trans (b2.mono hW1.size)
  have hR2 := HR1.out.below b2 HR1.out.lt
  clear b2
  have r0 : w2.cell? ⟨w.heap.size + 1, 0, none⟩ = some (.string ⟨#[]⟩) := by rw [hR2.cell]; rfl
  have r1 : w2.cell? ⟨w.heap.size + 1, 1, none⟩ = some (.int .i64 0) := by rw [hR2.cell]; rfl
  have r2 : w2.cell? ⟨w.heap.size + 1, 2, none⟩ = some (.int .i64 0) := by rw [hR2.cell]; rfl
  have f0 := hR2.free 0
  have f1 := hR2.free 1
  have f2 := hR2.free 2
  have rl := hR2.lt
  obtain ⟨⟨v0, v1, v2⟩, hv⟩ : ∃ v, v = runR (firstS rs) rs M 0 s := ⟨_, rfl⟩
  rw [← hv]
  have e2 : runV (v0, v1, v2) = .agg #[.string v0, .int .i64 v1, .int .i64 v2] := rfl
  rw [e2]
  have Hv := Lib.hid hv
  clear hv
  have E2 := Lib.hid e2
  clear e2
  go_wp2_with fail
  have hBn := ((hR2.put 0 (.string v0)).put 1 (.int .i64 v1)).put 2 (.int .i64 v2)
  have q0 := hBn.cell 0
  have q1 := hBn.cell 1
  have q2 := hBn.cell 2
  refine bodyPost_ret (v := .agg #[.string v0, .int .i64 v1, .int .i64 v2]) (by simp [results, Try.results39, go_sem, q0, q1, q2]) rfl ?_
  exact ⟨by rw [E1.out, ← Hv.out]; rfl, ((hW2.setCell (p := ⟨w.heap.size + 1, 0, none⟩) (by dsimp only; omega) _).setCell (p := ⟨w.heap.size + 1, 1, none⟩) (by dsimp only; omega) _).setCell (p := ⟨w.heap.size + 1, 2, none⟩) (by dsimp only; omega) _⟩

set_option maxRecDepth 100000 in
set_option maxHeartbeats 1000000 in
theorem implRunFar_any (l : Int) (A : Option Addr) (n c : Nat) (rs : List RuleT) (s : ByteArray) (m : Int) (w : World) (hr : Rd w A (cellsRule rs)) (hn : n = rs.length) (hb : n ≤ 1048576) (hz : ∀ x ∈ rs, x.1.size ≤ 1048576 ∧ x.2.size ≤ 1048576) (hs : s.size ≤ 1048576) :
    Calls Try.prog 45 #[.agg #[.int .i64 l, .slice A n c], .string s, .int .i64 m] w (Kept w (runV (runAll true l rs s m))) := by
  have hmf : ∀ (fn : Fn) (first cap : Array Value) (w : World), (Instr.makeFunc fn first cap).run Try.prog w = .ok (.func fn first cap) w := fun _ _ _ _ => rfl
  have eg := enters_of Try.func105 (by kernel_rfl) rfl
  have hW0 : Below w.heap.size w ((w.alloc (.cells #[.int .i64 l, .slice A n c] 25)).alloc (.cells #[.string ⟨#[]⟩, .int .i64 0, .int .i64 0] 67)) := ((Below.refl _ _).alloc (Nat.le_refl _) _).alloc (by simp) _
  have hS0 : Bk ((w.alloc (.cells #[.int .i64 l, .slice A n c] 25)).alloc (.cells #[.string ⟨#[]⟩, .int .i64 0, .int .i64 0] 67)) w.heap.size 25 #[.int .i64 l, .slice A n c] := (Bk.new w _ _).alloc _
  have hR0 : Bk ((w.alloc (.cells #[.int .i64 l, .slice A n c] 25)).alloc (.cells #[.string ⟨#[]⟩, .int .i64 0, .int .i64 0] 67)) (w.heap.size + 1) 67 #[.string ⟨#[]⟩, .int .i64 0, .int .i64 0] := (Bk.new (w.alloc (.cells #[.int .i64 l, .slice A n c] 25)) 67 #[.string ⟨#[]⟩, .int .i64 0, .int .i64 0]).cast (by simp)
  have Hr := Lib.hid hr
  clear hr
  have Hn := Lib.hid hn
  clear hn
  have Hz := Lib.hid hz
  clear hz
  have Eg := Lib.hid eg
  clear eg
  go_enter Try.func45, Try.ntmps45
  go_wp2_with fail
  refine (implIsRun_any l A n c rs s m _ (Hr.out.keep hW0) Hn.out hb Hz.out hs).mono ?_
  rintro e w1 ⟨rfl, b1⟩
  have hW1 := hW0.trans (b1.mono hW0.size)
  have hS1 := hS0.below b1 hS0.lt
  have hR1 := hR0.below b1 hR0.lt
  clear b1 hS0 hR0 hW0
  have r0 : w1.cell? ⟨w.heap.size + 1, 0, none⟩ = some (.string ⟨#[]⟩) := by rw [hR1.cell]; rfl
  have r1 : w1.cell? ⟨w.heap.size + 1, 1, none⟩ = some (.int .i64 0) := by rw [hR1.cell]; rfl
  have r2 : w1.cell? ⟨w.heap.size + 1, 2, none⟩ = some (.int .i64 0) := by rw [hR1.cell]; rfl
  have f0 := hR1.free 0
  have f1 := hR1.free 1
  have f2 := hR1.free 2
  have rl := hR1.lt
  have s0 : w1.cell? ⟨w.heap.size, 0, none⟩ = some (.int .i64 l) := by rw [hS1.cell]; rfl
  have s1 : w1.cell? ⟨w.heap.size, 1, none⟩ = some (.slice A n c) := by rw [hS1.cell]; rfl
  have sl := hS1.lt
  obtain ⟨o1, ho1⟩ : ∃ o1, o1 = (runOk l rs s && inB m 0 500) := ⟨_, rfl⟩
  rw [← ho1]
  cases o1
  · have e1 : runAll true l rs s m = (⟨#[]⟩, 0, 4) := by rw [runAll, ← ho1]; rfl
    have E1 := Lib.hid e1
    clear e1
    have Ho1 := Lib.hid ho1
    clear ho1
    go_wp2_with fail
    have hBn := ((hR1.put 0 (.string ⟨#[]⟩)).put 1 (.int .i64 0)).put 2 (.int .i64 4)
    have q0 := hBn.cell 0
    have q1 := hBn.cell 1
    have q2 := hBn.cell 2
    refine bodyPost_ret (v := .agg #[.string ⟨#[]⟩, .int .i64 0, .int .i64 4]) (by simp [results, Try.results45, go_sem, q0, q1, q2]) rfl ?_
    exact ⟨by rw [E1.out]; rfl, ((hW1.setCell (p := ⟨w.heap.size + 1, 0, none⟩) (by dsimp only; omega) _).setCell (p := ⟨w.heap.size + 1, 1, none⟩) (by dsimp only; omega) _).setCell (p := ⟨w.heap.size + 1, 2, none⟩) (by dsimp only; omega) _⟩
  have h1 := ho1
  rw [eq_comm, Bool.and_eq_true] at h1
  obtain ⟨hm1, hm2⟩ := inB_out h1.2.symm
  obtain ⟨M, rfl⟩ := Int.eq_ofNat_of_zero_le hm1
  have e1 : runAll true l rs s (M : Int) = runR (lastS rs) rs M 0 s := by rw [runAll, ← ho1, Int.toNat_natCast]; rfl
  clear h1
  have E1 := Lib.hid e1
  clear e1
  have Ho1 := Lib.hid ho1
  clear ho1
  have HR1 := Lib.hid hR1
  clear hR1
  have HS1 := Lib.hid hS1
  clear hS1
  clear r0 r1 r2 f0 f1 f2 rl
  go_wp2_with fail
  refine (runSteps_any (lastS rs) rs s M 105 (.agg #[.int .i64 l, .slice A n c]) _ Eg.out hs (by omega) (fun s x hx => lastS_mem hx) (fun W s' hs' hB => impllastWord_any l A n c rs s' W ((Hr.out.keep hW1).keep hB) Hn.out hb Hz.out hs')).mono ?_
  rintro e w2 ⟨rfl, b2⟩
  have hW2 := hW1.trans (b2.mono hW1.size)
  have hR2 := HR1.out.below b2 HR1.out.lt
  clear b2
  have r0 : w2.cell? ⟨w.heap.size + 1, 0, none⟩ = some (.string ⟨#[]⟩) := by rw [hR2.cell]; rfl
  have r1 : w2.cell? ⟨w.heap.size + 1, 1, none⟩ = some (.int .i64 0) := by rw [hR2.cell]; rfl
  have r2 : w2.cell? ⟨w.heap.size + 1, 2, none⟩ = some (.int .i64 0) := by rw [hR2.cell]; rfl
  have f0 := hR2.free 0
  have f1 := hR2.free 1
  have f2 := hR2.free 2
  have rl := hR2.lt
  obtain ⟨⟨v0, v1, v2⟩, hv⟩ : ∃ v, v = runR (lastS rs) rs M 0 s := ⟨_, rfl⟩
  rw [← hv]
  have e2 : runV (v0, v1, v2) = .agg #[.string v0, .int .i64 v1, .int .i64 v2] := rfl
  rw [e2]
  have Hv := Lib.hid hv
  clear hv
  have E2 := Lib.hid e2
  clear e2
  go_wp2_with fail
  have hBn := ((hR2.put 0 (.string v0)).put 1 (.int .i64 v1)).put 2 (.int .i64 v2)
  have q0 := hBn.cell 0
  have q1 := hBn.cell 1
  have q2 := hBn.cell 2
  refine bodyPost_ret (v := .agg #[.string v0, .int .i64 v1, .int .i64 v2]) (by simp [results, Try.results45, go_sem, q0, q1, q2]) rfl ?_
  exact ⟨by rw [E1.out, ← Hv.out]; rfl, ((hW2.setCell (p := ⟨w.heap.size + 1, 0, none⟩) (by dsimp only; omega) _).setCell (p := ⟨w.heap.size + 1, 1, none⟩) (by dsimp only; omega) _).setCell (p := ⟨w.heap.size + 1, 2, none⟩) (by dsimp only; omega) _⟩

end Go.Proofs.Ytidmbeeadbedaaa
