/- The plain theory of rewriting joined to the program's words: a complete system has one reduced form for connected words. No walk, no condition. -/
import Derived.Test.YteafeecndghapaaGreatMg17
import Derived.Test.YteafeecndghapaaGreatMg14
import Derived.Test.YteafeecndghapaaGreatMg15
import Derived.Test.YteafeecndghapaaGreatApLink
namespace Go.Proofs.YteafeecndghapaaGreat
open Go.RowKit Go.Shelf

/-- The rules as lists of bytes. -/
def rl (rs : List RuleT) : RL := rs.map fun r => (r.1.data.toList, r.2.data.toList)
theorem rl_mem {rs : List RuleT} {q : WL × WL} (h : q ∈ rl rs) : ∃ k, k < rs.length ∧ q = ((ruleAt rs k).1.data.toList, (ruleAt rs k).2.data.toList) := by
  obtain ⟨r, hr, rfl⟩ := List.mem_map.1 h
  obtain ⟨k, hk, rfl⟩ := List.mem_iff_getElem.1 hr
  exact ⟨k, hk, by rw [ruleAt_get hk]⟩
theorem rl_in {rs : List RuleT} {k : Nat} (h : k < rs.length) : ((ruleAt rs k).1.data.toList, (ruleAt rs k).2.data.toList) ∈ rl rs := by
  rw [ruleAt_get h]
  exact List.mem_map.2 ⟨rs[k], List.getElem_mem h, rfl⟩
theorem rl_falls {l : Int} {rs : List RuleT} (h : systemOk l rs = true) : Falls (rl rs) := by
  intro q hq
  obtain ⟨k, hk, rfl⟩ := rl_mem hq
  obtain ⟨h1, -, -, h2, h3, h4⟩ := sys_rule h hk
  exact fun s hs => less_V4 hs h1 h3 h2 h4
theorem take_extract (s : ByteArray) (p : Nat) : (s.extract 0 p).data.toList = s.data.toList.take p := by
  rw [ByteArray.data_extract, Array.toList_extract, List.extract_eq_take_drop, List.drop_zero, Nat.sub_zero]
theorem drop_extract (s : ByteArray) (p : Nat) : (s.extract p s.size).data.toList = s.data.toList.drop p := by
  rw [ByteArray.data_extract, Array.toList_extract, List.extract_eq_take_drop]
  exact List.take_of_length_le (by rw [List.length_drop, bytes_len]; exact Nat.le_refl _)
theorem mid_extract (s : ByteArray) (p n : Nat) : (s.extract p (p + n)).data.toList = (s.data.toList.drop p).take n := by
  rw [ByteArray.data_extract, Array.toList_extract, List.extract_eq_take_drop, Nat.add_sub_cancel_left]
theorem hasAt_parts {s l : ByteArray} {a b : WL} (h : s.data.toList = a ++ l.data.toList ++ b) : hasAt s l a.length = true := by
  have hs := bytes_len s
  have hl := bytes_len l
  rw [h, List.length_append, List.length_append, hl] at hs
  unfold hasAt
  rw [Bool.and_eq_true, decide_eq_true_eq, beq_iff_eq, ByteArray.toList_eq, ByteArray.toList_eq, mid_extract, h, List.append_assoc, List.drop_left, ← hl, List.take_left]
  exact ⟨by omega, rfl⟩
theorem repl_parts {s l r : ByteArray} {a b : WL} (h : s.data.toList = a ++ l.data.toList ++ b) (ho : replOk s (a.length : Nat) (l.size : Nat) r = true) : (replS s (a.length : Nat) (l.size : Nat) r).data.toList = a ++ r.data.toList ++ b := by
  rw [replS_bytes ho, take_extract, drop_extract, h, List.append_assoc a, List.take_left]
  have e : a.length + l.size = (a ++ l.data.toList).length := by rw [List.length_append, bytes_len]
  rw [e, ← List.append_assoc a l.data.toList b, List.drop_left, List.append_assoc]
theorem step_in {rs : List RuleT} {s : ByteArray} {k : Nat} {a b : WL} (hk : k < rs.length) (hne : (ruleAt rs k).1.data.toList ≠ []) (h : s.data.toList = a ++ (ruleAt rs k).1.data.toList ++ b) : ((k : Int), (a.length : Int)) ∈ stepAcc rs s s.size := by
  have hs := bytes_len s
  have hp := List.length_pos_iff.2 hne
  rw [h, List.length_append, List.length_append] at hs
  unfold stepAcc stepRow
  simp only [List.mem_flatMap, List.mem_range, List.mem_map, List.mem_filter]
  exact ⟨a.length, by omega, k, ⟨hk, hasAt_parts h⟩, rfl⟩
theorem left_ne {l : Int} {rs : List RuleT} (h : rulesOk l rs = true) {k : Nat} (hk : k < rs.length) : (ruleAt rs k).1.data.toList ≠ [] := by
  have := rules_ne h hk
  intro e
  refine this ?_
  generalize (ruleAt rs k).1 = z at e
  obtain ⟨⟨d⟩⟩ := z
  cases e
  rfl
theorem step_red {l : Int} {rs : List RuleT} {s : ByteArray} {x : StepT} (hx : x ∈ stepAcc rs s s.size) (ho : applyOk rs s x = true) : Red (rl rs) s.data.toList (applyS rs s x).data.toList := by
  obtain ⟨k, p, rfl, hk, hp, hh⟩ := mem_step hx
  obtain ⟨hsz, hparts⟩ := has_parts hh
  unfold applyOk at ho
  dsimp only at ho
  rw [Int.toNat_natCast] at ho
  refine ⟨_, _, _, rl_in hk, hparts, ?_⟩
  unfold applyS
  dsimp only
  rw [Int.toNat_natCast, replS_bytes ho]
theorem irr_of_none {l : Int} {rs : List RuleT} {s : ByteArray} (hro : rulesOk l rs = true) (h : stepAcc rs s s.size = []) : Irr (rl rs) s.data.toList := by
  rintro v ⟨a, b, q, hq, h1, -⟩
  obtain ⟨k, hk, rfl⟩ := rl_mem hq
  have := step_in hk (left_ne hro hk) h1
  rw [h] at this
  cases this
theorem end_star {l : Int} {rs : List RuleT} {pick : ByteArray → Option StepT} (hsy : systemOk l rs = true) (hp : ∀ s x, pick s = some x → x ∈ stepAcc rs s s.size) : ∀ (n : Nat) (s : ByteArray), val4 s ≤ n → wordOk l s = true → Star (rl rs) s.data.toList (endF pick rs s).2.data.toList := by
  have hv : ∀ s x, pick s = some x → val4 (applyS rs s x) < val4 s := fun s x h => step_val hsy (hp s x h)
  intro n
  induction n with
  | zero => intro s h; have := val4_pos s; omega
  | succ n ih =>
    intro s hn hw
    cases h : pick s with
    | none => rw [endF_none h]; exact .refl _
    | some x =>
      have h1 := hv s x h
      obtain ⟨h0, h2, -⟩ := step_good hsy hw (hp s x h)
      rw [endF_some hv h]
      exact .step (step_red (l := l) (hp s x h) h0) (ih _ (by omega) h2)
theorem norm_star {l : Int} {rs : List RuleT} {s : ByteArray} (hsy : systemOk l rs = true) (hw : wordOk l s = true) : Star (rl rs) s.data.toList (normS rs s).data.toList :=
  end_star hsy (fun _ _ => firstS_mem) _ s (Nat.le_refl _) hw
theorem far_star {l : Int} {rs : List RuleT} {s : ByteArray} (hsy : systemOk l rs = true) (hw : wordOk l s = true) : Star (rl rs) s.data.toList (farS rs s).data.toList :=
  end_star hsy (fun _ _ => lastS_mem) _ s (Nat.le_refl _) hw
theorem bytes_inj {s t : ByteArray} (h : s.data.toList = t.data.toList) : s = t := by
  cases s; cases t; simp_all
/-- Where each critical pair is connected, the reduced form is the one of the theory. -/
theorem norm_nfL {l : Int} {rs : List RuleT} {s : ByteArray} (hsy : systemOk l rs = true) (hC : Crit (rl rs)) (hw : wordOk l s = true) : (normS rs s).data.toList = nfL (rl rs) s.data.toList :=
  nf_only (rl_falls hsy) hC (norm_star hsy hw) (irr_of_none (sys_rules hsy) (first_none.1 (norm_good hsy hw).2.1))
theorem far_nfL {l : Int} {rs : List RuleT} {s : ByteArray} (hsy : systemOk l rs = true) (hC : Crit (rl rs)) (hw : wordOk l s = true) : (farS rs s).data.toList = nfL (rl rs) s.data.toList :=
  nf_only (rl_falls hsy) hC (far_star hsy hw) (irr_of_none (sys_rules hsy) (last_none.1 (far_good hsy hw).2.1))

theorem as_out {l : Int} {rs : List RuleT} {s : ByteArray} {x : StepT} (h : asOk l rs s x = true) : x ∈ stepAcc rs s s.size ∧ applyOk rs s x = true ∧ asS l rs s x = applyS rs s x := by
  by_cases hx : x ∈ stepsOf l rs s
  · obtain ⟨a, b⟩ := as_yes hx
    exact ⟨(steps_mem hx).2, by rw [← a]; exact h, b⟩
  · rw [(as_no hx).1] at h; cases h
/-- Both sides of a joined pair are connected below its word. -/
theorem joined_cb {l : Int} {rs : List RuleT} {s : ByteArray} {x0 x1 y0 y1 : Int} (h : joined l rs s x0 x1 y0 y1 = true) : CB (rl rs) s.data.toList (applyS rs s (x0, x1)).data.toList (applyS rs s (y0, y1)).data.toList := by
  unfold joined pairOk at h
  simp only [Bool.and_eq_true, beq_iff_eq] at h
  obtain ⟨⟨⟨⟨⟨hsy, h1⟩, h2⟩, h3⟩, h4⟩, h5⟩ := h
  obtain ⟨m1, o1, e1⟩ := as_out h1
  obtain ⟨m2, o2, e2⟩ := as_out h2
  rw [e1] at h3 h5
  rw [e2] at h4 h5
  have w1 := (takes_sys h3).2
  have w2 := (takes_sys h4).2
  rw [nfS, nfS, if_pos h3, if_pos h4, ByteArray.toList_eq, ByteArray.toList_eq] at h5
  have s1 := norm_star hsy w1
  have s2 := norm_star hsy w2
  rw [h5] at s1
  have hF := rl_falls hsy
  exact (CB.of_star hF s1 ((step_red (l := l) m1 o1).prec hF)).trans (CB.of_star hF s2 ((step_red (l := l) m2 o2).prec hF)).symm

theorem compl_out {l : Int} {rs : List RuleT} (h : isCompl l rs = true) : systemOk l rs = true ∧ ∀ p ∈ prAcc rs rs.length, joinedP l rs p = true := by
  unfold isCompl at h
  rw [Bool.and_eq_true, decide_eq_true_eq] at h
  refine ⟨h.1, fun p hp => ?_⟩
  have h2 := List.eq_nil_of_length_eq_zero h.2
  unfold opAll prAll at h2
  rw [if_pos h.1, List.filter_eq_nil_iff] at h2
  simpa using h2 p hp
theorem pr_cell {rs : List RuleT} {i j : Nat} (hi : i < rs.length) (hj : j < rs.length) {p : PairT} (h : p ∈ prCell rs i j) : p ∈ prAcc rs rs.length := by
  unfold prAcc prRow
  simp only [List.mem_flatMap, List.mem_range]
  exact ⟨i, hi, j, hj, h⟩
theorem pls_has {s l : ByteArray} {a b : WL} (h : s.data.toList = a ++ l.data.toList ++ b) : ((a.length : Nat) : Int) ∈ pls s l := by
  have hs := bytes_len s
  have hl := bytes_len l
  have h0 := h
  rw [h, List.length_append, List.length_append, hl] at hs
  unfold pls plc
  refine List.mem_map.2 ⟨a.length, List.mem_filter.2 ⟨List.mem_range.2 (by omega), ?_⟩, rfl⟩
  have := hasAt_parts h0
  unfold hasAt at this
  rw [Bool.and_eq_true] at this
  exact this.2
theorem ovs_has {u v : ByteArray} {x y z : WL} (hx : x ≠ []) (hy : y ≠ []) (hz : z ≠ []) (hu : u.data.toList = x ++ y) (hv : v.data.toList = y ++ z) : ((y.length : Nat) : Int) ∈ ovs u v := by
  have h1 := bytes_len u
  have h2 := bytes_len v
  rw [hu, List.length_append] at h1
  rw [hv, List.length_append] at h2
  have p1 := List.length_pos_iff.2 hx
  have p2 := List.length_pos_iff.2 hy
  have p3 := List.length_pos_iff.2 hz
  unfold ovs ovl ovN
  refine List.mem_map.2 ⟨y.length - 1, List.mem_filter.2 ⟨List.mem_range.2 (by omega), ?_⟩, by congr 1; omega⟩
  have e : y.length - 1 + 1 = y.length := by omega
  rw [e]
  unfold ovAt
  rw [beq_iff_eq, ByteArray.toList_eq, ByteArray.toList_eq, drop_extract, take_extract, hu, hv, List.take_left]
  have e2 : u.size - y.length = x.length := by omega
  rw [e2, List.drop_left]
theorem repl_ok {s r : ByteArray} {p n : Nat} (h1 : p + n ≤ s.size) (h2 : s.size - n + r.size ≤ 16) : replOk s (p : Nat) (n : Nat) r = true := by
  unfold replOk
  simp only [Bool.and_eq_true, decide_eq_true_eq]
  omega
theorem right_le {l : Int} {rs : List RuleT} (hsy : systemOk l rs = true) {k : Nat} (hk : k < rs.length) : (ruleAt rs k).2.size ≤ (ruleAt rs k).1.size := by
  obtain ⟨-, -, -, -, -, h5⟩ := sys_rule hsy hk
  unfold lessW at h5
  split at h5
  · omega
  · have := of_decide_eq_true h5; omega
/-- What a step makes of a word that is known in parts. -/
theorem apply_parts {l : Int} {rs : List RuleT} (hsy : systemOk l rs = true) {s : ByteArray} {k : Nat} (hk : k < rs.length) (hs : s.size ≤ 16) {a b : WL} (h : s.data.toList = a ++ (ruleAt rs k).1.data.toList ++ b) : (applyS rs s ((k : Int), (a.length : Int))).data.toList = a ++ (ruleAt rs k).2.data.toList ++ b := by
  have h1 := bytes_len s
  rw [h, List.length_append, List.length_append, bytes_len] at h1
  have h2 := right_le hsy hk
  unfold applyS
  dsimp only
  rw [Int.toNat_natCast]
  exact repl_parts h (repl_ok (by omega) (by omega))
theorem compl_crit {l : Int} {rs : List RuleT} (h : isCompl l rs = true) : Crit (rl rs) := by
  obtain ⟨hsy, hJ⟩ := compl_out h
  constructor
  · intro q hq p hp x z e
    obtain ⟨i, hi, rfl⟩ := rl_mem hq
    obtain ⟨j, hj, rfl⟩ := rl_mem hp
    dsimp only at e ⊢
    obtain ⟨-, g1, -, -, -, -⟩ := sys_rule hsy hi
    by_cases hij : i = j
    · subst hij
      have h1 := congrArg List.length e
      rw [List.length_append, List.length_append] at h1
      have hx : x = [] := List.eq_nil_of_length_eq_zero (by omega)
      have hz : z = [] := List.eq_nil_of_length_eq_zero (by omega)
      subst hx hz
      rw [List.nil_append, List.append_nil]
      exact .refl _
    · have hm : inP (ruleAt rs i).1 i j x.length ∈ prCell rs i j := by
        unfold prCell insideL
        rw [if_neg hij, List.mem_append]
        exact .inl (List.mem_map.2 ⟨_, pls_has e, rfl⟩)
      have h2 := joined_cb (hJ _ (pr_cell hi hj hm))
      unfold inP at h2
      dsimp only at h2
      have a1 := apply_parts hsy (s := (ruleAt rs i).1) hi (by omega) (a := []) (b := []) (by rw [List.nil_append, List.append_nil])
      have a2 := apply_parts hsy (s := (ruleAt rs i).1) hj (by omega) e
      rw [List.nil_append, List.append_nil] at a1
      rw [a2] at h2
      have e0 : ((([] : WL).length : Nat) : Int) = 0 := rfl
      rw [e0] at a1
      rw [a1] at h2
      exact h2
  · intro q hq p hp x y z hx hy hz e1 e2
    obtain ⟨i, hi, rfl⟩ := rl_mem hq
    obtain ⟨j, hj, rfl⟩ := rl_mem hp
    dsimp only at e1 e2 ⊢
    obtain ⟨-, g1, -, -, -, -⟩ := sys_rule hsy hi
    obtain ⟨-, g2, -, -, -, -⟩ := sys_rule hsy hj
    have l1 := bytes_len (ruleAt rs i).1
    have l2 := bytes_len (ruleAt rs j).1
    rw [e1, List.length_append] at l1
    rw [e2, List.length_append] at l2
    have hm : acP (ruleAt rs i).1 (ruleAt rs j).1 i j y.length ∈ prCell rs i j := by
      unfold prCell acrossL
      rw [List.mem_append]
      exact .inr (List.mem_map.2 ⟨_, ovs_has hx hy hz e1 e2, rfl⟩)
    have h2 := joined_cb (hJ _ (pr_cell hi hj hm))
    unfold acP at h2
    dsimp only at h2
    rw [Int.toNat_natCast] at h2
    obtain ⟨W, hW⟩ : ∃ W, W = (ruleAt rs i).1 ++ (ruleAt rs j).1.extract y.length (ruleAt rs j).1.size := ⟨_, rfl⟩
    rw [← hW] at h2
    have hWd : W.data.toList = x ++ y ++ z := by
      rw [hW, ByteArray.data_append, Array.toList_append, drop_extract, e1, e2, List.drop_left]
    have hWs : W.size ≤ 16 := by
      rw [← bytes_len, hWd, List.length_append, List.length_append]
      omega
    have a1 := apply_parts hsy (s := W) hi hWs (a := []) (b := z) (by rw [hWd, e1, List.nil_append])
    have a2 := apply_parts hsy (s := W) hj hWs (a := x) (b := []) (by rw [hWd, e2, List.append_nil, List.append_assoc])
    rw [List.nil_append] at a1
    rw [List.append_nil] at a2
    have e0 : ((([] : WL).length : Nat) : Int) = 0 := rfl
    rw [e0] at a1
    have e3 : (((ruleAt rs i).1.size : Nat) : Int) - (y.length : Nat) = (x.length : Nat) := by omega
    rw [e3, a1, a2, hWd] at h2
    exact h2

/-- A link leads forward or backward by one step. -/
theorem link_red {rs : List RuleT} {s : ByteArray} {x : LinkT} (h : linkOk rs s x = true) : Red (rl rs) s.data.toList (linkS rs s x).data.toList ∨ Red (rl rs) (linkS rs s x).data.toList s.data.toList := by
  have hh : linkHit rs s x = true := by unfold linkOk at h; rw [Bool.and_eq_true] at h; exact h.1
  obtain ⟨e1, e2⟩ := link_yes hh
  rw [e1] at h
  rw [e2]
  unfold linkHit at hh
  simp only [Bool.and_eq_true] at hh
  obtain ⟨⟨b1, b2⟩, b3⟩ := hh
  have i1 := inB_out b1.symm
  have i2 := inB_out b2.symm
  obtain ⟨-, hp⟩ := has_parts b3
  obtain ⟨k, hk⟩ : ∃ k : Nat, x.1 = (k : Int) := ⟨x.1.toNat, by omega⟩
  obtain ⟨p, hpl⟩ : ∃ p : Nat, x.2.1 = (p : Int) := ⟨x.2.1.toNat, by omega⟩
  rw [hpl] at h hp ⊢
  rw [Int.toNat_natCast] at hp
  have hb := replS_bytes h
  have hkl : k < rs.length := by omega
  unfold linkFrom at hp hb ⊢
  unfold linkTo at hb ⊢
  rw [hk, Int.toNat_natCast] at hp hb ⊢
  rw [hb]
  cases hx : x.2.2 with
  | false =>
    rw [hx] at hp
    simp only [Bool.false_eq_true, if_false] at hp ⊢
    exact .inl ⟨_, _, _, rl_in hkl, hp, rfl⟩
  | true =>
    rw [hx] at hp
    simp only [if_true] at hp ⊢
    exact .inr ⟨_, _, _, rl_in hkl, rfl, hp⟩

end Go.Proofs.YteafeecndghapaaGreat
