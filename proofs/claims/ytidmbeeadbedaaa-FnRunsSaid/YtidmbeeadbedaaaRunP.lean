/- Plain words for the law FnRuns: a run can be stopped and continued, a loop comes back, an ordered system ends always. No walk, no condition. -/
import Derived.Test.YtidmbeeadbedaaaWor
import Derived.Test.YtidmbeeadbedaaaLoop
import Derived.Test.YtidmbeeadbedaaaMg11
import Derived.Test.YtidmbeeadbedaaaMg12
namespace Go.Proofs.Ytidmbeeadbedaaa
open Go.RowKit Go.Shelf

variable {pick : ByteArray → Option StepT} {rs : List RuleT}

theorem worAt_shift (pick : ByteArray → Option StepT) (rs : List RuleT) (s : ByteArray) : ∀ j, worAt pick rs (j + 1) s = worAt pick rs j (st16 rs s (pick s))
  | 0 => rfl
  | j + 1 => by rw [worAt, worAt_shift pick rs s j, ← worAt]
theorem worAt_add (pick : ByteArray → Option StepT) (rs : List RuleT) (s : ByteArray) (i : Nat) : ∀ j, worAt pick rs (i + j) s = worAt pick rs j (worAt pick rs i s)
  | 0 => rfl
  | j + 1 => by rw [← Nat.add_assoc, worAt, worAt_add pick rs s i j, ← worAt]
/-- A step can be made from s. -/
def Goes (pick : ByteArray → Option StepT) (rs : List RuleT) (s : ByteArray) : Prop := ∃ x, pick s = some x ∧ applyOk rs s x = true
theorem runR_word : ∀ (k n : Nat) (s : ByteArray), ∃ t, t ≤ k ∧ (runR pick rs k n s).1 = worAt pick rs t s ∧ (runR pick rs k n s).2.1 = ((n + t : Nat) : Int) ∧ (∀ j, j < t → Goes pick rs (worAt pick rs j s)) ∧
    (((runR pick rs k n s).2.2 = 0 ∧ pick (worAt pick rs t s) = none) ∨ ((runR pick rs k n s).2.2 = 3 ∧ t = k) ∨ ((runR pick rs k n s).2.2 = 2 ∧ ∃ x, pick (worAt pick rs t s) = some x ∧ applyOk rs (worAt pick rs t s) x = false))
  | 0, n, s => by
    cases h : pick s with
    | none => rw [runR_none h]; exact ⟨0, Nat.le_refl _, rfl, rfl, fun j hj => absurd hj (Nat.not_lt_zero _), .inl ⟨rfl, h⟩⟩
    | some x => rw [runR_full h]; exact ⟨0, Nat.le_refl _, rfl, rfl, fun j hj => absurd hj (Nat.not_lt_zero _), .inr (.inl ⟨rfl, rfl⟩)⟩
  | k + 1, n, s => by
    cases h : pick s with
    | none => rw [runR_none h]; exact ⟨0, Nat.zero_le _, rfl, rfl, fun j hj => absurd hj (Nat.not_lt_zero _), .inl ⟨rfl, h⟩⟩
    | some x =>
      cases ho : applyOk rs s x with
      | false => rw [runR_long (by omega) h ho]; exact ⟨0, Nat.zero_le _, rfl, rfl, fun j hj => absurd hj (Nat.not_lt_zero _), .inr (.inr ⟨rfl, x, h, ho⟩)⟩
      | true =>
        rw [runR_go (by omega) h ho]
        have e : k + 1 - 1 = k := rfl
        rw [e]
        obtain ⟨t, h1, h2, h3, h4, h5⟩ := runR_word k (n + 1) (applyS rs s x)
        have es : st16 rs s (pick s) = applyS rs s x := by rw [h]; rfl
        have sh : ∀ j, worAt pick rs (j + 1) s = worAt pick rs j (applyS rs s x) := fun j => by rw [worAt_shift, es]
        refine ⟨t + 1, by omega, by rw [h2, sh], by rw [h3]; congr 1; omega, fun j hj => ?_, ?_⟩
        · cases j with
          | zero => exact ⟨x, h, ho⟩
          | succ j => rw [sh]; exact h4 j (by omega)
        · rw [sh]
          rcases h5 with h5 | ⟨h5, h6⟩ | h5
          · exact .inl h5
          · exact .inr (.inl ⟨h5, by omega⟩)
          · exact .inr (.inr h5)
theorem runR_off : ∀ (k n : Nat) (s : ByteArray), runR pick rs k n s = ((runR pick rs k 0 s).1, (runR pick rs k 0 s).2.1 + n, (runR pick rs k 0 s).2.2)
  | 0, n, s => by
    cases h : pick s with
    | none => rw [runR_none h, runR_none h]; simp
    | some x => rw [runR_full h, runR_full h]; simp
  | k + 1, n, s => by
    cases h : pick s with
    | none => rw [runR_none h, runR_none h]; simp
    | some x =>
      cases ho : applyOk rs s x with
      | false => rw [runR_long (by omega) h ho, runR_long (by omega) h ho]; simp
      | true =>
        rw [runR_go (by omega) h ho, runR_go (by omega) h ho, Nat.add_sub_cancel, runR_off k (n + 1), runR_off k (0 + 1)]
        simp
        omega
/-- A run with more steps goes on where the shorter one stopped. -/
theorem runR_add (b : Nat) : ∀ (a n : Nat) (s : ByteArray), ((runR pick rs a n s).2.2 ≠ 3 → runR pick rs (a + b) n s = runR pick rs a n s) ∧ ((runR pick rs a n s).2.2 = 3 → runR pick rs (a + b) n s = runR pick rs b (n + a) (runR pick rs a n s).1)
  | 0, n, s => by
    cases h : pick s with
    | none => rw [runR_none h, runR_none h]; exact ⟨fun _ => rfl, fun h => absurd h (by simp)⟩
    | some x => rw [runR_full h, Nat.zero_add]; exact ⟨fun h => absurd rfl h, fun _ => rfl⟩
  | a + 1, n, s => by
    cases h : pick s with
    | none => rw [runR_none h, runR_none h]; exact ⟨fun _ => rfl, fun h => absurd h (by simp)⟩
    | some x =>
      cases ho : applyOk rs s x with
      | false => rw [runR_long (by omega) h ho, runR_long (by omega) h ho]; exact ⟨fun _ => rfl, fun h => absurd h (by simp)⟩
      | true =>
        rw [runR_go (k := a + 1) (by omega) h ho, runR_go (k := a + 1 + b) (by omega) h ho]
        have e : a + 1 + b - 1 = a + b := by omega
        rw [e, Nat.add_sub_cancel]
        obtain ⟨h1, h2⟩ := runR_add b a (n + 1) (applyS rs s x)
        refine ⟨h1, fun h3 => ?_⟩
        rw [h2 h3]
        congr 1
        omega
/-- Where all steps can be made, the run makes them. -/
theorem runR_all {k n : Nat} {s : ByteArray} (h : ∀ j, j < k → Goes pick rs (worAt pick rs j s)) : (runR pick rs k n s).1 = worAt pick rs k s := by
  obtain ⟨t, h1, h2, h3, h4, h5⟩ := runR_word (pick := pick) (rs := rs) k n s
  rcases Nat.lt_or_ge t k with hl | hl
  · obtain ⟨x, hx, ho⟩ := h t hl
    rcases h5 with ⟨-, h5⟩ | ⟨-, h5⟩ | ⟨-, y, h5, h6⟩
    · rw [hx] at h5; cases h5
    · omega
    · rw [hx] at h5; injection h5 with h5; subst h5; rw [ho] at h6; cases h6
  · have : t = k := by omega
    rw [h2, this]

theorem apply_word {l : Int} {rs : List RuleT} {s : ByteArray} {x : StepT} (hro : rulesOk l rs = true) (hw : wordOk l s = true) (hx : x ∈ stepAcc rs s s.size) (ho : applyOk rs s x = true) : wordOk l (applyS rs s x) = true := by
  obtain ⟨k, p, rfl, hk, hp, hh⟩ := mem_step hx
  obtain ⟨w1, w2, w3, w4⟩ := wordOk_out hw
  have hsz := applyS_size rs s k p
  unfold applyOk at ho
  dsimp only at ho
  rw [Int.toNat_natCast] at ho
  refine wordOk_mk w1 w2 hsz ?_
  unfold applyS
  dsimp only
  rw [Int.toNat_natCast, replS_yes ho]
  refine letters_app (letters_app (letters_ext w4 _ _) ?_) (letters_ext w4 _ _)
  rw [ruleAt_get hk]
  unfold rulesOk at hro
  simp only [Bool.and_eq_true] at hro
  have h1 := List.all_eq_true.1 hro.2 rs[k] (List.getElem_mem hk)
  unfold ruleOk sidesOk at h1
  simp only [Bool.and_eq_true] at h1
  exact (wordOk_out h1.1.1.1.2).2.2.2
theorem worAt_word {l : Int} {rs : List RuleT} {pick : ByteArray → Option StepT} (hp : ∀ s x, pick s = some x → x ∈ stepAcc rs s s.size) (hro : rulesOk l rs = true) {s : ByteArray} (hw : wordOk l s = true) : ∀ t, (∀ j, j < t → Goes pick rs (worAt pick rs j s)) → wordOk l (worAt pick rs t s) = true
  | 0, _ => hw
  | t + 1, h => by
    have h1 := worAt_word hp hro hw t (fun j hj => h j (by omega))
    obtain ⟨x, hx, ho⟩ := h t (by omega)
    rw [worAt, hx]
    exact apply_word hro h1 (hp _ _ hx) ho

/-- What a run from the left is. -/
theorem runF_out {l : Int} {s : ByteArray} {m : Nat} (hro : rulesOk l rs = true) (hw : wordOk l s = true) (hm : m ≤ 500) : runAll false l rs s (m : Int) = runR (firstS rs) rs m 0 s := by
  unfold runAll runOk
  have : inB (m : Int) 0 500 = true := by
    unfold inB
    rw [Bool.and_eq_true, decide_eq_true_eq, decide_eq_true_eq]; omega
  rw [hro, hw, this, Int.toNat_natCast]
  rfl
theorem runFar_zero {l : Int} {s : ByteArray} (hro : rulesOk l rs = true) (hw : wordOk l s = true) : (runAll true l rs s 0).1 = s := by
  unfold runAll runOk
  have : inB 0 0 500 = true := rfl
  rw [hro, hw, this]
  have e : (if (true && true && true) = true then runR (pickF true rs) rs (0 : Int).toNat 0 s else (⟨#[]⟩, 0, 4)) = runR (pickF true rs) rs 0 0 s := rfl
  rw [e]
  obtain ⟨t, h1, h2, -⟩ := runR_word (pick := pickF true rs) (rs := rs) 0 0 s
  have : t = 0 := by omega
  rw [h2, this]
  rfl
theorem wor_out {l : Int} {s : ByteArray} {m : Nat} (hro : rulesOk l rs = true) (hw : wordOk l s = true) (hm : m ≤ 500) : worL l rs s (m : Int) = worTo (firstS rs) rs s (runR (firstS rs) rs m 0 s).2.1.toNat := by
  unfold worL runOk
  have : inB (m : Int) 0 500 = true := by
    unfold inB
    rw [Bool.and_eq_true, decide_eq_true_eq, decide_eq_true_eq]; omega
  rw [hro, hw, this, Int.toNat_natCast]
  rfl
/-- The words of a run: their number and the last one. -/
theorem wor_last {l : Int} {s : ByteArray} {m : Nat} (hro : rulesOk l rs = true) (hw : wordOk l s = true) (hm : m ≤ 500) : ((worL l rs s (m : Int)).length : Int) = (runAll false l rs s (m : Int)).2.1 + 1 ∧ (worL l rs s (m : Int))[(runAll false l rs s (m : Int)).2.1.toNat]? = some (runAll false l rs s (m : Int)).1 ∧ (runAll false l rs s (m : Int)).2.2 ≠ 4 ∧ 0 ≤ (runAll false l rs s (m : Int)).2.1 ∧ (runAll false l rs s (m : Int)).2.1 ≤ (m : Int) := by
  rw [wor_out hro hw hm, runF_out hro hw hm, worTo_len]
  obtain ⟨t, h1, h2, h3, h4, h5⟩ := runR_word (pick := firstS rs) (rs := rs) m 0 s
  rw [h3, h2]
  refine ⟨by omega, ?_, ?_, by omega, by omega⟩
  · unfold worTo
    rw [List.getElem?_map, List.getElem?_range (by omega)]
    have e : ((0 + t : Nat) : Int).toNat = t := by omega
    rw [e]; rfl
  · rcases h5 with ⟨h5, -⟩ | ⟨h5, -⟩ | ⟨h5, -⟩ <;> rw [h5] <;> decide
/-- Stopped and continued. -/
theorem run_stop {l : Int} {s : ByteArray} {a b : Nat} (hro : rulesOk l rs = true) (hw : wordOk l s = true) (hm : a + b ≤ 500) (h : (runAll false l rs s (a : Int)).2.2 ≠ 3) : runAll false l rs s ((a : Int) + (b : Int)) = runAll false l rs s (a : Int) := by
  have e : (a : Int) + (b : Int) = ((a + b : Nat) : Int) := rfl
  rw [e, runF_out hro hw hm]
  rw [runF_out hro hw (by omega)] at h ⊢
  exact (runR_add b a 0 s).1 h
theorem run_on {l : Int} {s : ByteArray} {a b : Nat} (hro : rulesOk l rs = true) (hw : wordOk l s = true) (hm : a + b ≤ 500) (h : (runAll false l rs s (a : Int)).2.2 = 3) :
    (runAll false l rs (runAll false l rs s (a : Int)).1 (b : Int)).1 = (runAll false l rs s ((a : Int) + (b : Int))).1 ∧ (runAll false l rs (runAll false l rs s (a : Int)).1 (b : Int)).2.1 + (a : Int) = (runAll false l rs s ((a : Int) + (b : Int))).2.1 ∧ (runAll false l rs (runAll false l rs s (a : Int)).1 (b : Int)).2.2 = (runAll false l rs s ((a : Int) + (b : Int))).2.2 ∧
      (runAll false l rs (runAll false l rs s (a : Int)).1 (b : Int)).2.1 ≤ 500 ∧ 0 ≤ (runAll false l rs (runAll false l rs s (a : Int)).1 (b : Int)).2.1 := by
  have e : (a : Int) + (b : Int) = ((a + b : Nat) : Int) := rfl
  rw [e, runF_out hro hw hm]
  rw [runF_out hro hw (by omega)] at h ⊢
  obtain ⟨t, h1, h2, h3, h4, h5⟩ := runR_word (pick := firstS rs) (rs := rs) a 0 s
  have hw2 : wordOk l (runR (firstS rs) rs a 0 s).1 = true := by
    rw [h2]; exact worAt_word (fun _ _ => firstS_mem) hro hw t h4
  rw [runF_out hro hw2 (by omega), (runR_add b a 0 s).2 h, Nat.zero_add, runR_off b a]
  obtain ⟨t2, g1, -, g3, -⟩ := runR_word (pick := firstS rs) (rs := rs) b 0 (runR (firstS rs) rs a 0 s).1
  exact ⟨rfl, rfl, rfl, by omega, by omega⟩
theorem run_word {l : Int} {s : ByteArray} {m : Nat} (hro : rulesOk l rs = true) (hw : wordOk l s = true) (hm : m ≤ 500) : wordOk l (runAll false l rs s (m : Int)).1 = true := by
  rw [runF_out hro hw hm]
  obtain ⟨t, h1, h2, h3, h4, h5⟩ := runR_word (pick := firstS rs) (rs := rs) m 0 s
  rw [h2]
  exact worAt_word (fun _ _ => firstS_mem) hro hw t h4

/-- What the search for a loop tells. -/
theorem lpGo_word {s : ByteArray} : ∀ (k n : Nat), (∀ j, j < n → Goes (firstS rs) rs (worAt (firstS rs) rs j s)) → ∃ (ws : List ByteArray) (r : RunT), lpGo rs k n (worTo (firstS rs) rs s n) (worAt (firstS rs) rs n s) = (ws, r) ∧
    (r.2.2 = 1 → ∃ t, t < n + k ∧ ws = worTo (firstS rs) rs s t ∧ r.1 = worAt (firstS rs) rs (t + 1) s ∧ r.2.1 = ((t + 1 : Nat) : Int) ∧ (fnd ws r.1).isSome = true ∧ ∀ j, j < t + 1 → Goes (firstS rs) rs (worAt (firstS rs) rs j s))
  | 0, n, h => ⟨_, _, rfl, fun h => absurd h (by simp)⟩
  | k + 1, n, h => by
    cases hf : firstS rs (worAt (firstS rs) rs n s) with
    | none => rw [lpGo_none (by omega) hf]; exact ⟨_, _, rfl, fun h => absurd h (by simp)⟩
    | some x =>
      cases ho : applyOk rs (worAt (firstS rs) rs n s) x with
      | false => rw [lpGo_long (by omega) hf ho]; exact ⟨_, _, rfl, fun h => absurd h (by simp)⟩
      | true =>
        have hy : worAt (firstS rs) rs (n + 1) s = applyS rs (worAt (firstS rs) rs n s) x := by rw [worAt, hf]; rfl
        have hg : ∀ j, j < n + 1 → Goes (firstS rs) rs (worAt (firstS rs) rs j s) := fun j hj => by
          by_cases hj2 : j < n
          · exact h j hj2
          · have : j = n := by omega
            rw [this]
            exact ⟨x, hf, ho⟩
        cases hm : fnd (worTo (firstS rs) rs s n) (worAt (firstS rs) rs (n + 1) s) with
        | some i =>
          rw [lpGo_hit (by omega) hf ho hy hm]
          exact ⟨_, _, rfl, fun _ => ⟨n, by omega, rfl, rfl, rfl, by dsimp only; rw [hm]; rfl, hg⟩⟩
        | none =>
          rw [lpGo_go (by omega) hf ho hy hm, ← worTo_succ]
          obtain ⟨ws, r, e, h2⟩ := lpGo_word k (n + 1) hg
          refine ⟨ws, r, e, fun hc => ?_⟩
          obtain ⟨t, a, b⟩ := h2 hc
          exact ⟨t, by omega, b⟩
theorem loop_out {l : Int} {s : ByteArray} (hro : rulesOk l rs = true) (hw : wordOk l s = true) : ((lpRun l rs s).2.2 = 1 → 0 < lpLen l rs s ∧ lpLen l rs s ≤ 500 ∧ wordOk l (lpRun l rs s).1 = true ∧ (runAll false l rs (lpRun l rs s).1 (lpLen l rs s)).1 = (lpRun l rs s).1) ∧ ((lpRun l rs s).2.2 ≠ 1 → lpLen l rs s = 0) := by
  have e : lpAll l rs s = lpGo rs 500 0 [s] s := by unfold lpAll runOk; rw [hro, hw]; rfl
  have e0 : lpGo rs 500 0 [s] s = lpGo rs 500 0 (worTo (firstS rs) rs s 0) (worAt (firstS rs) rs 0 s) := rfl
  obtain ⟨ws, r, h1, h2⟩ := lpGo_word (rs := rs) (s := s) 500 0 (fun j hj => absurd hj (Nat.not_lt_zero _))
  unfold lpLen lpN lpRun
  rw [e, e0, h1]
  dsimp only
  refine ⟨fun hc => ?_, fun hc => if_neg hc⟩
  obtain ⟨t, t1, t2, t3, t4, t5, t6⟩ := h2 hc
  rw [if_pos hc]
  cases hf : fnd ws r.1 with
  | none => rw [hf] at t5; cases t5
  | some i =>
    have hi := fnd_lt hf
    have hfi : fndI ws r.1 = (i : Int) := by unfold fndI; rw [hf]
    rw [t2, worTo_len] at hi
    rw [hfi, t4]
    have hi2 : worAt (firstS rs) rs i s = r.1 := by
      have h5 : ws[i]? = some r.1 := fnd_at hf
      rw [t2] at h5
      unfold worTo at h5
      rw [List.getElem?_map, List.getElem?_range (by omega)] at h5
      injection h5
    have hwr : wordOk l r.1 = true := by rw [t3]; exact worAt_word (fun _ _ => firstS_mem) hro hw (t + 1) t6
    have en : ((t + 1 : Nat) : Int) - (i : Int) = ((t + 1 - i : Nat) : Int) := by omega
    refine ⟨by omega, by omega, hwr, ?_⟩
    rw [en, runF_out hro hwr (by omega)]
    have hgo : ∀ j, j < t + 1 - i → Goes (firstS rs) rs (worAt (firstS rs) rs j r.1) := fun j hj => by
      rw [← hi2, ← worAt_add]
      exact t6 (i + j) (by omega)
    rw [runR_all hgo]
    have e3 : worAt (firstS rs) rs (t + 1 - i) r.1 = worAt (firstS rs) rs (i + (t + 1 - i)) s := by rw [worAt_add, hi2]
    rw [e3, t3]
    congr 1
    omega

/-- A run of an ordered system: it ends at the reduced form, or it is stopped. -/
theorem run_sys {l : Int} {s : ByteArray} {m : Nat} (hsy : systemOk l rs = true) (hw : wordOk l s = true) (hm : m ≤ 500) : (runAll false l rs s (m : Int)).2.2 = 3 ∨ ((runAll false l rs s (m : Int)).2.2 = 0 ∧ (runAll false l rs s (m : Int)).1 = normS rs s) := by
  have hro := sys_rules hsy
  rw [runF_out hro hw hm]
  obtain ⟨t, h1, h2, h3, h4, h5⟩ := runR_word (pick := firstS rs) (rs := rs) m 0 s
  have hn : ∀ t, (∀ j, j < t → Goes (firstS rs) rs (worAt (firstS rs) rs j s)) → normS rs s = normS rs (worAt (firstS rs) rs t s) := by
    intro t
    induction t with
    | zero => intro _; rfl
    | succ t ih =>
      intro h
      obtain ⟨x, hx, ho⟩ := h t (by omega)
      rw [ih (fun j hj => h j (by omega)), normS_some hsy hx, worAt, hx]
      rfl
  rcases h5 with ⟨h5, h6⟩ | ⟨h5, -⟩ | ⟨-, x, h6, h7⟩
  · right
    rw [h2, hn t h4, normS_none h6]
    exact ⟨h5, rfl⟩
  · exact .inl h5
  · have := (step_good hsy (worAt_word (fun _ _ => firstS_mem) hro hw t h4) (firstS_mem h6)).1
    rw [this] at h7
    cases h7
theorem fnd_none {y : ByteArray} {ws : List ByteArray} (h : ¬ y ∈ ws) : fnd ws y = none := by
  refine fnd_miss fun j z _ hz e => h ?_
  rw [← e]
  exact List.mem_of_getElem? hz
theorem lpGo_sys {l : Int} (hsy : systemOk l rs = true) : ∀ (k n : Nat) (ws : List ByteArray) (s : ByteArray), wordOk l s = true → val4 s ≤ k → (∀ t ∈ ws, val4 s ≤ val4 t) → (lpGo rs k n ws s).2.2.2 = 0
  | 0, n, ws, s, _, hv, _ => by have := val4_pos s; omega
  | k + 1, n, ws, s, hw, hv, ht => by
    cases hf : firstS rs s with
    | none => rw [lpGo_none (by omega) hf]
    | some x =>
      have hm := firstS_mem hf
      obtain ⟨ho, hw2, -⟩ := step_good hsy hw hm
      have hlt := step_val hsy hm
      have hn : fnd ws (applyS rs s x) = none := fnd_none fun h => by have := ht _ h; omega
      rw [lpGo_go (by omega) hf ho rfl hn]
      refine lpGo_sys hsy k (n + 1) _ _ hw2 (by omega) fun t h => ?_
      rcases List.mem_append.1 h with h | h
      · have := ht t h; omega
      · rw [List.mem_singleton.1 h]; exact Nat.le_refl _
theorem ends_sys {l : Int} (hsy : systemOk l rs = true) : endsB l rs 2 = true := by
  obtain ⟨h1, h4, -⟩ := sys_in hsy
  have hro := sys_rules hsy
  unfold endsB
  rw [Bool.and_eq_true, Bool.not_eq_true', List.any_eq_false]
  refine ⟨?_, fun s hs => ?_⟩
  · unfold searchOk
    rw [hro]
    have : l = 1 ∨ l = 2 ∨ l = 3 ∨ l = 4 := by omega
    rcases this with rfl | rfl | rfl | rfl <;> rfl
  · have e2 : (2 : Int).toNat = 2 := rfl
    rw [e2] at hs
    have g := upTo_good h1 h4 (k := 2) (by omega) s hs
    have hz := upTo_size 2 s hs
    have hw : wordOk l s = true := wordOk_mk h1 h4 (by omega) g.2.1
    have hv : val4 s ≤ 500 := by
      have h1 := V4_hi 1 s.data.toList (fun b hb => (letters_in g.1 g.2.1 b hb).2)
      rw [bytes_len] at h1
      have h2 : 4 ^ s.size ≤ 4 ^ 2 := Nat.pow_le_pow_right (by omega) hz
      unfold val4
      omega
    unfold endsP lpRun lpAll runOk
    rw [hro, hw]
    have := lpGo_sys hsy 500 0 [s] s hw hv (fun t ht => by rw [List.mem_singleton.1 ht]; exact Nat.le_refl _)
    rw [if_pos (show (true && true) = true from rfl), this]
    decide

end Go.Proofs.Ytidmbeeadbedaaa
