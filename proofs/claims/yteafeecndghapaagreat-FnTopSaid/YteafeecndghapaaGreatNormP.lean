/- Plain words for reduction: a number of a word that every step of an ordered system lowers, and the steps from a word to the end with what they lead to. No walk, no condition. -/
import Derived.Test.YteafeecndghapaaGreatMg9
namespace Go.Proofs.YteafeecndghapaaGreat
open Go.RowKit Go.Shelf

def V4 (a : Nat) (bs : List UInt8) : Nat := bs.foldl (fun a b => a * 4 + (b.toNat - 97)) a
/-- The number of a word, by length and then by letters. -/
def val4 (s : ByteArray) : Nat := V4 1 s.data.toList
theorem V4_append (a : Nat) (xs ys : List UInt8) : V4 a (xs ++ ys) = V4 (V4 a xs) ys := List.foldl_append
theorem V4_cons (a : Nat) (y : UInt8) (ys : List UInt8) : V4 a (y :: ys) = V4 (a * 4 + (y.toNat - 97)) ys := by unfold V4; rw [List.foldl_cons]
theorem V4_lt {a b : Nat} (h : a < b) (ys : List UInt8) : V4 a ys < V4 b ys := by
  induction ys generalizing a b with
  | nil => exact h
  | cons y ys ih => rw [V4_cons, V4_cons]; exact ih (by omega)
theorem V4_lo (a : Nat) (ys : List UInt8) : a * 4 ^ ys.length ≤ V4 a ys := by
  induction ys generalizing a with
  | nil => simp [V4]
  | cons y ys ih =>
    rw [V4_cons, List.length_cons, Nat.pow_succ]
    have h1 := ih (a * 4 + (y.toNat - 97))
    have h2 : (a * 4) * 4 ^ ys.length ≤ (a * 4 + (y.toNat - 97)) * 4 ^ ys.length := Nat.mul_le_mul_right _ (by omega)
    have h3 : a * (4 ^ ys.length * 4) = (a * 4) * 4 ^ ys.length := by rw [Nat.mul_comm (4 ^ ys.length) 4, Nat.mul_assoc]
    omega
theorem V4_hi (a : Nat) (ys : List UInt8) (h : ∀ b ∈ ys, b.toNat ≤ 100) : V4 a ys < (a + 1) * 4 ^ ys.length := by
  induction ys generalizing a with
  | nil => simp [V4]
  | cons y ys ih =>
    rw [V4_cons, List.length_cons, Nat.pow_succ]
    have h1 := ih (a * 4 + (y.toNat - 97)) (fun b hb => h b (List.mem_cons_of_mem _ hb))
    have h0 := h y List.mem_cons_self
    have h2 : (a * 4 + (y.toNat - 97) + 1) * 4 ^ ys.length ≤ ((a + 1) * 4) * 4 ^ ys.length := Nat.mul_le_mul_right _ (by omega)
    have h3 : (a + 1) * (4 ^ ys.length * 4) = ((a + 1) * 4) * 4 ^ ys.length := by rw [Nat.mul_comm (4 ^ ys.length) 4, Nat.mul_assoc]
    omega
theorem V4_short {a : Nat} (ha : 1 ≤ a) (r l : List UInt8) (hr : ∀ b ∈ r, b.toNat ≤ 100) (h : r.length < l.length) : V4 a r < V4 a l := by
  have h1 := V4_hi a r hr
  have h2 := V4_lo a l
  have h3 : (a + 1) * 4 ^ r.length ≤ (a * 4) * 4 ^ r.length := Nat.mul_le_mul_right _ (by omega)
  have h4 : (a * 4) * 4 ^ r.length = a * 4 ^ (r.length + 1) := by rw [Nat.pow_succ, Nat.mul_comm (4 ^ r.length) 4, Nat.mul_assoc]
  have h5 : a * 4 ^ (r.length + 1) ≤ a * 4 ^ l.length := Nat.mul_le_mul_left _ (Nat.pow_le_pow_right (by omega) h)
  omega
theorem V4_less {a : Nat} (r l : List UInt8) (hr : ∀ b ∈ r, 97 ≤ b.toNat ∧ b.toNat ≤ 100) (hl : ∀ b ∈ l, 97 ≤ b.toNat ∧ b.toNat ≤ 100) (h : r.length = l.length) (hb : Op.bytesLess r l = true) : V4 a r < V4 a l := by
  induction r generalizing a l with
  | nil => cases l with
    | nil => simp [Op.bytesLess] at hb
    | cons y l => simp at h
  | cons x r ih => cases l with
    | nil => simp at h
    | cons y l =>
      have hx := hr x List.mem_cons_self
      have hy := hl y List.mem_cons_self
      have hxh := fun b hb => hr b (List.mem_cons_of_mem x hb)
      have hyh := fun b hb => hl b (List.mem_cons_of_mem y hb)
      simp only [List.length_cons, Nat.add_right_cancel_iff] at h
      rw [V4_cons, V4_cons]
      simp only [Op.bytesLess, Bool.or_eq_true, decide_eq_true_eq, Bool.and_eq_true, beq_iff_eq] at hb
      rcases hb with hb | ⟨he, hb⟩
      · have hlt : x.toNat < y.toNat := hb
        have h1 := V4_hi (a * 4 + (x.toNat - 97)) r (fun b hb => (hxh b hb).2)
        have h2 := V4_lo (a * 4 + (y.toNat - 97)) l
        rw [h] at h1
        have h3 : (a * 4 + (x.toNat - 97) + 1) * 4 ^ l.length ≤ (a * 4 + (y.toNat - 97)) * 4 ^ l.length := Nat.mul_le_mul_right _ (by omega)
        omega
      · subst he
        exact ih l hxh hyh h hb
theorem V4_pos {a : Nat} (ha : 1 ≤ a) (ys : List UInt8) : 1 ≤ V4 a ys := by
  have h := V4_lo a ys
  have : 1 * 1 ≤ a * 4 ^ ys.length := Nat.mul_le_mul ha (Nat.pow_pos (by omega))
  omega
/-- A letter of a good word. -/
theorem letters_in {k : Int} {s : ByteArray} (hk : k ≤ 4) (h : lettersOk k s = true) : ∀ b ∈ s.data.toList, 97 ≤ b.toNat ∧ b.toNat ≤ 100 := fun b hb => by
  have := inB_out (List.all_eq_true.1 h b hb).symm
  omega
theorem wordOk_out {k : Int} {s : ByteArray} (h : wordOk k s = true) : 1 ≤ k ∧ k ≤ 4 ∧ s.size ≤ 16 ∧ lettersOk k s = true := by
  unfold wordOk at h
  simp only [Bool.and_eq_true, decide_eq_true_eq] at h
  have := inB_out h.1.1.symm
  exact ⟨this.1, this.2, h.1.2, h.2⟩
theorem less_V4 {k : Int} {u v : ByteArray} {a : Nat} (ha : 1 ≤ a) (hk : k ≤ 4) (hu : lettersOk k u = true) (hv : lettersOk k v = true) (h : lessW u v = true) : V4 a u.data.toList < V4 a v.data.toList := by
  have h1 := letters_in hk hu
  have h2 := letters_in hk hv
  have e1 := bytes_len u
  have e2 := bytes_len v
  unfold lessW at h
  split at h
  · next hs =>
    rw [ByteArray.toList_eq, ByteArray.toList_eq] at h
    exact V4_less _ _ h1 h2 (by rw [e1, e2, hs]) h
  · exact V4_short ha _ _ (fun b hb => (h1 b hb).2) (by rw [e1, e2]; simpa using h)

/-- What a rule of an ordered system tells. -/
theorem sys_rule {l : Int} {rs : List RuleT} (h : systemOk l rs = true) {k : Nat} (hk : k < rs.length) : l ≤ 4 ∧ (ruleAt rs k).1.size ≤ 8 ∧ (ruleAt rs k).2.size ≤ 8 ∧ lettersOk l (ruleAt rs k).1 = true ∧ lettersOk l (ruleAt rs k).2 = true ∧ lessW (ruleAt rs k).2 (ruleAt rs k).1 = true := by
  rw [ruleAt_get hk]
  unfold systemOk rulesOk at h
  simp only [Bool.and_eq_true] at h
  have h1 := List.all_eq_true.1 h.1.2 rs[k] (List.getElem_mem hk)
  have h2 := List.all_eq_true.1 h.2 rs[k] (List.getElem_mem hk)
  unfold ruleOk sidesOk at h1
  simp only [Bool.and_eq_true, decide_eq_true_eq] at h1
  have a1 := wordOk_out h1.1.1.1.1
  have a2 := wordOk_out h1.1.1.1.2
  exact ⟨a1.2.1, h1.1.1.2, h1.1.2, a1.2.2.2, a2.2.2.2, h2⟩

theorem mem_step {rs : List RuleT} {s : ByteArray} {n : Nat} {x : StepT} (h : x ∈ stepAcc rs s n) : ∃ k p : Nat, x = ((k : Int), (p : Int)) ∧ k < rs.length ∧ p < n ∧ hitAt rs s p k = true := by
  unfold stepAcc stepRow at h
  simp only [List.mem_flatMap, List.mem_range, List.mem_map, List.mem_filter] at h
  obtain ⟨p, hp, k, ⟨hk, hh⟩, e⟩ := h
  exact ⟨k, p, e.symm, hk, hp, hh⟩
theorem firstS_mem {rs : List RuleT} {s : ByteArray} {x : StepT} (h : firstS rs s = some x) : x ∈ stepAcc rs s s.size := List.mem_of_head? h
theorem lastTo_mem {rs : List RuleT} {s : ByteArray} {n : Nat} {x : StepT} (h : lastTo rs s n = some x) : x ∈ stepAcc rs s n := by
  induction n with
  | zero => cases h
  | succ n ih =>
    rw [stepAcc_succ, stepTo, List.mem_append]
    rw [lastTo, Option.or_eq_some_iff] at h
    rcases h with h | h
    · exact .inr (List.mem_of_head? h)
    · exact .inl (ih h.2)
theorem lastS_mem {rs : List RuleT} {s : ByteArray} {x : StepT} (h : lastS rs s = some x) : x ∈ stepAcc rs s s.size := lastTo_mem h

theorem has_parts {s l : ByteArray} {p : Nat} (h : hasAt s l p = true) : p + l.size ≤ s.size ∧ s.data.toList = (s.extract 0 p).data.toList ++ l.data.toList ++ (s.extract (p + l.size) s.size).data.toList := by
  unfold hasAt at h
  rw [Bool.and_eq_true, decide_eq_true_eq, beq_iff_eq, ByteArray.toList_eq, ByteArray.toList_eq] at h
  have hs := bytes_len s
  refine ⟨by omega, ?_⟩
  rw [← h.2]
  simp only [ByteArray.data_extract, Array.toList_extract]
  have hd : s.data.size = s.size := rfl
  rw [List.extract_eq_take_drop, List.extract_eq_take_drop, List.extract_eq_take_drop]
  simp only [List.drop_zero, Nat.sub_zero, Nat.add_sub_cancel_left]
  have e3 : (s.data.toList.drop (p + l.size)).take (s.size - (p + l.size)) = s.data.toList.drop (p + l.size) := by
    apply List.take_of_length_le
    rw [List.length_drop]; omega
  rw [e3, List.append_assoc]
  have e4 : List.take l.size (List.drop p s.data.toList) ++ List.drop (p + l.size) s.data.toList = List.drop p s.data.toList := by
    rw [← List.drop_drop, List.take_append_drop]
  rw [e4, List.take_append_drop]
theorem applyS_size (rs : List RuleT) (s : ByteArray) (k p : Nat) : (applyS rs s ((k : Int), (p : Int))).size ≤ 16 := by
  unfold applyS
  cases h : replOk s ((p : Nat) : Int) (((ruleAt rs ((k : Int)).toNat).1.size : Nat) : Int) (ruleAt rs ((k : Int)).toNat).2
  · rw [replS_no h]; exact Nat.zero_le _
  · exact replS_size h

theorem val4_empty : val4 ⟨#[]⟩ = 1 := rfl
theorem val4_pos (s : ByteArray) : 1 ≤ val4 s := V4_pos (Nat.le_refl 1) _
/-- A step of an ordered system lowers the word's number. -/
theorem step_val {l : Int} {rs : List RuleT} {s : ByteArray} {x : StepT} (h : systemOk l rs = true) (hx : x ∈ stepAcc rs s s.size) : val4 (applyS rs s x) < val4 s := by
  obtain ⟨k, p, rfl, hk, hp, hh⟩ := mem_step hx
  obtain ⟨hl, -, -, h1, h2, h3⟩ := sys_rule h hk
  obtain ⟨hsz, hparts⟩ := has_parts hh
  unfold applyS
  dsimp only
  rw [Int.toNat_natCast]
  have e0 : val4 s = V4 (V4 (V4 1 (s.extract 0 p).data.toList) (ruleAt rs k).1.data.toList) (s.extract (p + (ruleAt rs k).1.size) s.size).data.toList := by
    rw [val4, hparts, V4_append, V4_append]
  cases hr : replOk s ((p : Nat) : Int) (((ruleAt rs k).1.size : Nat) : Int) (ruleAt rs k).2
  · rw [replS_no hr, val4_empty]
    have hs1 : 1 ≤ s.data.toList.length := by rw [bytes_len]; omega
    have h5 := V4_lo 1 s.data.toList
    have h6 : 4 ^ 1 ≤ 4 ^ s.data.toList.length := Nat.pow_le_pow_right (by omega) hs1
    unfold val4
    omega
  · rw [val4, replS_bytes hr, V4_append, V4_append, e0]
    exact V4_lt (less_V4 (V4_pos (Nat.le_refl 1) _) hl h2 h1 h3) _

/-- At most f steps, each chosen by pick: the steps and what they lead to. -/
def runF (pick : ByteArray → Option StepT) (rs : List RuleT) : Nat → ByteArray → List StepT × ByteArray
  | 0, s => ([], s)
  | f + 1, s => match pick s with
    | none => ([], s)
    | some x => (x :: (runF pick rs f (applyS rs s x)).1, (runF pick rs f (applyS rs s x)).2)
theorem runF_none {pick : ByteArray → Option StepT} {rs : List RuleT} {f : Nat} {s : ByteArray} (h : pick s = none) : runF pick rs f s = ([], s) := by
  cases f with
  | zero => rfl
  | succ f => rw [runF, h]
theorem runF_some {pick : ByteArray → Option StepT} {rs : List RuleT} {f : Nat} {s : ByteArray} {x : StepT} (h : pick s = some x) : runF pick rs (f + 1) s = (x :: (runF pick rs f (applyS rs s x)).1, (runF pick rs f (applyS rs s x)).2) := by rw [runF, h]
theorem runF_enough {pick : ByteArray → Option StepT} {rs : List RuleT} (hp : ∀ s x, pick s = some x → val4 (applyS rs s x) < val4 s) : ∀ (n : Nat) (s : ByteArray) (f g : Nat), val4 s ≤ n → val4 s ≤ f → val4 s ≤ g → runF pick rs f s = runF pick rs g s := by
  intro n
  induction n with
  | zero => intro s f g h; have := val4_pos s; omega
  | succ n ih =>
    intro s f g hn hf hg
    have h1 := val4_pos s
    obtain ⟨f, rfl⟩ : ∃ f', f = f' + 1 := ⟨f - 1, by omega⟩
    obtain ⟨g, rfl⟩ : ∃ g', g = g' + 1 := ⟨g - 1, by omega⟩
    cases h : pick s with
    | none => rw [runF_none h, runF_none h]
    | some x =>
      have := hp s x h
      rw [runF_some h, runF_some h, ih (applyS rs s x) f g (by omega) (by omega) (by omega)]
/-- The steps to the end and what they lead to. -/
def endF (pick : ByteArray → Option StepT) (rs : List RuleT) (s : ByteArray) : List StepT × ByteArray := runF pick rs (val4 s) s
theorem endF_none {pick : ByteArray → Option StepT} {rs : List RuleT} {s : ByteArray} (h : pick s = none) : endF pick rs s = ([], s) := runF_none h
theorem endF_some {pick : ByteArray → Option StepT} {rs : List RuleT} (hp : ∀ s x, pick s = some x → val4 (applyS rs s x) < val4 s) {s : ByteArray} {x : StepT} (h : pick s = some x) : endF pick rs s = (x :: (endF pick rs (applyS rs s x)).1, (endF pick rs (applyS rs s x)).2) := by
  have h1 := val4_pos s
  have h2 := hp s x h
  obtain ⟨f, hf⟩ : ∃ f', val4 s = f' + 1 := ⟨val4 s - 1, by omega⟩
  have e : runF pick rs f (applyS rs s x) = endF pick rs (applyS rs s x) := runF_enough hp (val4 s) _ _ _ (by omega) (by omega) (Nat.le_refl _)
  rw [endF, hf, runF_some h, e]
theorem first_val {l : Int} {rs : List RuleT} (h : systemOk l rs = true) : ∀ s x, firstS rs s = some x → val4 (applyS rs s x) < val4 s := fun _ _ hx => step_val h (firstS_mem hx)
theorem last_val {l : Int} {rs : List RuleT} (h : systemOk l rs = true) : ∀ s x, lastS rs s = some x → val4 (applyS rs s x) < val4 s := fun _ _ hx => step_val h (lastS_mem hx)
/-- The number of a good word. -/
theorem val4_le {k : Int} {s : ByteArray} (h : wordOk k s = true) : val4 s ≤ 8589934592 := by
  obtain ⟨-, hk, hs, hl⟩ := wordOk_out h
  have h1 := V4_hi 1 s.data.toList (fun b hb => (letters_in hk hl b hb).2)
  rw [bytes_len] at h1
  have h2 : 4 ^ s.size ≤ 4 ^ 16 := Nat.pow_le_pow_right (by omega) hs
  unfold val4
  omega
/-- The reduced form of a word. -/
def normS (rs : List RuleT) (s : ByteArray) : ByteArray := (endF (firstS rs) rs s).2
def farS (rs : List RuleT) (s : ByteArray) : ByteArray := (endF (lastS rs) rs s).2
def traceS (rs : List RuleT) (s : ByteArray) : List StepT := (endF (firstS rs) rs s).1

end Go.Proofs.YteafeecndghapaaGreat
