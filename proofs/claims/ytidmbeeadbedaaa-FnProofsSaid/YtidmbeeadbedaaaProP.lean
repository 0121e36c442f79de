/- Plain words for the law FnProofs: a chain that is turned leads back, a shortened one leads to the same word without coming back, and in a complete system the ends of a chain have one reduced form. No walk, no condition. -/
import Derived.Test.YtidmbeeadbedaaaMg14
import Derived.Test.YtidmbeeadbedaaaTurn
import Derived.Test.YtidmbeeadbedaaaProof
import Derived.Test.YtidmbeeadbedaaaSeaP
namespace Go.Proofs.Ytidmbeeadbedaaa
open Go.RowKit Go.Shelf

/-- The links lead from a word to another one over the words told. -/
inductive Chn (rs : List RuleT) : ByteArray → List LinkT → List ByteArray → ByteArray → Prop
  | nil (u : ByteArray) : Chn rs u [] [u] u
  | cons {u e : ByteArray} {x : LinkT} {xs : List LinkT} {ws : List ByteArray} : linkOk rs u x = true → Chn rs (linkS rs u x) xs ws e → Chn rs u (x :: xs) (u :: ws) e
variable {l : Int} {rs : List RuleT}
theorem run_chn (hro : rulesOk l rs = true) : ∀ (xs : List LinkT) (u : ByteArray) (pre ws : List ByteArray) (e : ByteArray), xs.foldl (chStep l rs) (some (pre ++ [u], u)) = some (ws, e) → ∃ vs, ws = pre ++ vs ∧ Chn rs u xs vs e
  | [], u, pre, ws, e, h => by
    injection h with h
    injection h with h1 h2
    subst h1 h2
    exact ⟨[u], rfl, .nil u⟩
  | x :: xs, u, pre, ws, e, h => by
    rw [List.foldl_cons, chStep] at h
    obtain ⟨a1, a2⟩ := al_yes (s := u) (x := x) hro
    dsimp only at h
    rw [a1, a2] at h
    cases ho : linkOk rs u x with
    | false => rw [ho] at h; rw [if_neg (by simp), chRun_none] at h; cases h
    | true =>
      rw [ho, if_pos rfl] at h
      obtain ⟨vs, h1, h2⟩ := run_chn hro xs (linkS rs u x) (pre ++ [u]) ws e h
      exact ⟨u :: vs, by rw [h1, List.append_assoc]; rfl, .cons ho h2⟩
theorem chn_run (hro : rulesOk l rs = true) {u e : ByteArray} {xs : List LinkT} {vs : List ByteArray} (h : Chn rs u xs vs e) : ∀ pre : List ByteArray, xs.foldl (chStep l rs) (some (pre ++ [u], u)) = some (pre ++ vs, e) := by
  induction h with
  | nil u => intro pre; rfl
  | @cons u e x xs ws ho _ ih =>
    intro pre
    obtain ⟨a1, a2⟩ := al_yes (s := u) (x := x) hro
    rw [List.foldl_cons, chStep]
    dsimp only
    rw [a1, a2, ho, if_pos rfl, ih (pre ++ [u]), List.append_assoc]
    rfl
theorem co_chn (hro : rulesOk l rs = true) {u : ByteArray} {xs : List LinkT} (h : coOk l rs u xs = true) : ∃ e, Chn rs u xs (coL l rs u xs) e ∧ xs.length ≤ 200 := by
  unfold coOk coSt at h
  by_cases hl : xs.length ≤ 200
  · rw [if_pos hl] at h
    cases hr : chRun l rs u xs with
    | none => rw [hr] at h; cases h
    | some p =>
      obtain ⟨ws, e⟩ := p
      obtain ⟨vs, h1, h2⟩ := run_chn hro xs u [] ws e hr
      rw [List.nil_append] at h1
      subst h1
      refine ⟨e, ?_, hl⟩
      unfold coL coSt
      rw [if_pos hl, hr]
      exact h2
  · rw [if_neg hl] at h; cases h
theorem chn_co (hro : rulesOk l rs = true) {u e : ByteArray} {xs : List LinkT} {ws : List ByteArray} (h : Chn rs u xs ws e) (hl : xs.length ≤ 200) : coOk l rs u xs = true ∧ coL l rs u xs = ws ∧ prOk l rs u e xs = true := by
  have h1 : chRun l rs u xs = some (ws, e) := chn_run hro h []
  unfold coOk coL prOk coSt
  rw [if_pos hl, h1]
  exact ⟨rfl, rfl, by simp⟩
theorem Chn.len {u e : ByteArray} {xs : List LinkT} {ws : List ByteArray} (h : Chn rs u xs ws e) : ws.length = xs.length + 1 := by
  induction h with
  | nil => rfl
  | cons _ _ ih => rw [List.length_cons, ih, List.length_cons]
theorem Chn.head {u e : ByteArray} {xs : List LinkT} {ws : List ByteArray} (h : Chn rs u xs ws e) : ∃ t, ws = u :: t := by
  cases h with
  | nil => exact ⟨[], rfl⟩
  | cons _ _ => exact ⟨_, rfl⟩
theorem Chn.last {u e : ByteArray} {xs : List LinkT} {ws : List ByteArray} (h : Chn rs u xs ws e) : ws[xs.length]? = some e := by
  induction h with
  | nil => rfl
  | cons _ _ ih => rw [List.length_cons, List.getElem?_cons_succ]; exact ih
theorem Chn.snoc {u e : ByteArray} {xs : List LinkT} {ws : List ByteArray} {x : LinkT} (h : Chn rs u xs ws e) (hx : linkOk rs e x = true) : Chn rs u (xs ++ [x]) (ws ++ [linkS rs e x]) (linkS rs e x) := by
  induction h with
  | nil => exact .cons hx (.nil _)
  | cons ho _ ih => exact .cons ho (ih hx)
theorem Chn.app {u e f : ByteArray} {xs ys : List LinkT} {ws vs : List ByteArray} (h : Chn rs u xs ws e) (k : Chn rs e ys vs f) : Chn rs u (xs ++ ys) (ws ++ vs.tail) f := by
  induction h with
  | nil u =>
    obtain ⟨t, rfl⟩ := k.head
    exact k
  | cons ho _ ih => exact .cons ho (ih k)
theorem linkS_size {s : ByteArray} {x : LinkT} (h : linkOk rs s x = true) : (linkS rs s x).size ≤ 16 := by
  have hh : linkHit rs s x = true := by unfold linkOk at h; rw [Bool.and_eq_true] at h; exact h.1
  obtain ⟨e1, e2⟩ := link_yes hh
  rw [e1] at h
  rw [e2]
  unfold linkHit at hh
  simp only [Bool.and_eq_true] at hh
  have i2 := inB_out hh.1.2.symm
  obtain ⟨p, hpl⟩ : ∃ p : Nat, x.2.1 = (p : Int) := ⟨x.2.1.toNat, by omega⟩
  rw [hpl] at h ⊢
  exact replS_size h
theorem Chn.word {u e : ByteArray} {xs : List LinkT} {ws : List ByteArray} (hro : rulesOk l rs = true) (h : Chn rs u xs ws e) (hu : wordOk l u = true) : wordOk l e = true ∧ ∀ v ∈ ws, wordOk l v = true := by
  induction h with
  | nil u => exact ⟨hu, fun v hv => by rw [List.mem_singleton.1 hv]; exact hu⟩
  | cons ho _ ih =>
    obtain ⟨w1, w2, w3, w4⟩ := wordOk_out hu
    obtain ⟨h1, h2⟩ := ih (wordOk_mk w1 w2 (linkS_size ho) (link_letters hro w4 ho))
    refine ⟨h1, fun v hv => ?_⟩
    rcases List.mem_cons.1 hv with rfl | hv
    · exact hu
    · exact h2 v hv
theorem flip_link {u : ByteArray} {x : LinkT} (hu : u.size ≤ 16) (h : linkOk rs u x = true) : linkOk rs (linkS rs u x) (flipL x) = true ∧ linkS rs (linkS rs u x) (flipL x) = u := by
  obtain ⟨y, -, h1, h2, h3⟩ := link_back (lim := (u.size : Int)) hu (Int.le_refl _) h
  rw [h2] at h1 h3
  exact ⟨h3, h1⟩
theorem turn_cons (x : LinkT) (xs : List LinkT) : turnL (x :: xs) = turnL xs ++ [flipL x] := by unfold turnL; rw [List.reverse_cons, List.map_append]; rfl
/-- A chain that is turned leads back. -/
theorem Chn.turn {u e : ByteArray} {xs : List LinkT} {ws : List ByteArray} (h : Chn rs u xs ws e) (hu : u.size ≤ 16) : Chn rs e (turnL xs) ws.reverse u := by
  induction h with
  | nil u => exact .nil u
  | @cons u e x xs ws ho _ ih =>
    obtain ⟨f1, f2⟩ := flip_link hu ho
    have h1 := (ih (linkS_size ho)).snoc f1
    rw [f2] at h1
    rw [turn_cons, List.reverse_cons]
    exact h1
theorem Chn.split {u e : ByteArray} {xs : List LinkT} {ws : List ByteArray} (h : Chn rs u xs ws e) : ∀ i, i ≤ xs.length → Chn rs u (xs.take i) (ws.take (i + 1)) (wAt ws i) ∧ Chn rs (wAt ws i) (xs.drop i) (ws.drop i) e := by
  induction h with
  | nil u =>
    intro i hi
    have : i = 0 := by simpa using hi
    subst this
    exact ⟨.nil u, .nil u⟩
  | @cons u e x xs ws ho hc ih =>
    intro i hi
    cases i with
    | zero => exact ⟨.nil u, .cons ho hc⟩
    | succ i =>
      obtain ⟨h1, h2⟩ := ih i (by simpa using hi)
      exact ⟨.cons ho h1, h2⟩
theorem Chn.cut {u e : ByteArray} {xs : List LinkT} {ws : List ByteArray} (h : Chn rs u xs ws e) {i k : Nat} (hik : i ≤ k) (hk : k < ws.length) (he : wAt ws k = wAt ws i) : Chn rs u (cutL xs i k) (cutL ws i k) e := by
  have hl := h.len
  obtain ⟨h1, -⟩ := h.split i (by omega)
  obtain ⟨-, h2⟩ := h.split k (by omega)
  rw [he] at h2
  have h3 := h1.app h2
  have e1 : ws.take (i + 1) ++ (ws.drop k).tail = cutL ws i k := by
    unfold cutL
    have hi : i < ws.length := by omega
    rw [List.take_succ_eq_append_getElem hi, List.append_assoc, List.drop_eq_getElem_cons hk, List.tail_cons]
    have e2 : ws[i] = ws[k] := by rw [← wAt_lt hi, ← wAt_lt hk, he]
    rw [e2]
    rfl
  rw [e1] at h3
  exact h3
/-- What is left of a chain whose returns are cut out. -/
theorem short_chn {u e : ByteArray} : ∀ (f i : Nat) (ws : List ByteArray) (xs : List LinkT), Chn rs u xs ws e → (∀ j, j < i → noLater ws j) → ws.length ≤ i + f → ∃ vs, Chn rs u (shGo f i ws xs) vs e ∧ ∀ j, j < vs.length → noLater vs j
  | 0, i, ws, xs, h, hn, hf => ⟨ws, h, fun j hj => hn j (by omega)⟩
  | f + 1, i, ws, xs, h, hn, hf => by
    rw [shGo]
    by_cases hi : i < ws.length
    · rw [if_pos hi]
      obtain ⟨a1, a2, a3, a4⟩ := lastOf_spec hi
      have hc := h.cut a1 a2 a3
      have hlen := cutL_len (xs := ws) a1 (Nat.le_of_lt a2)
      refine short_chn f (i + 1) _ _ hc (fun j hj k hjk hk => ?_) (by omega)
      rw [hlen] at hk
      rw [wAt_cut a1 (Nat.le_of_lt a2), wAt_cut a1 (Nat.le_of_lt a2)]
      by_cases hji : j < i
      · rw [if_pos hji]
        by_cases hki : k < i
        · rw [if_pos hki]; exact hn j hji k hjk (by omega)
        · rw [if_neg hki]; exact hn j hji _ (by omega) (by omega)
      · have : j = i := by omega
        subst this
        rw [if_neg (by omega), if_neg (by omega), Nat.sub_self, Nat.zero_add, a3]
        exact a4 _ (by omega) (by omega)
    · rw [if_neg hi]
      exact ⟨ws, h, fun j hj => hn j (by omega)⟩
/-- What the shortened chain is. -/
theorem short_good2 (hro : rulesOk l rs = true) {u e : ByteArray} {xs : List LinkT} (h : Chn rs u xs (coL l rs u xs) e) (hok : coOk l rs u xs = true) (hl : xs.length ≤ 200) : ∃ vs, Chn rs u (shpL l rs u xs) vs e ∧ (∀ j k, j < k → k < vs.length → wAt vs k ≠ wAt vs j) ∧ (shpL l rs u xs).length ≤ xs.length := by
  have hn := h.len
  obtain ⟨vs, h1, h2⟩ := short_chn 300 0 _ _ h (fun j hj => absurd hj (Nat.not_lt_zero _)) (by omega)
  have hs := shGo_len 300 0 (coL l rs u xs) xs hn.symm
  unfold shpL
  rw [hok, if_pos rfl]
  exact ⟨vs, h1, fun j k hjk hk => h2 j (by omega) k hjk hk, hs⟩
/-- No word of the list is greater than its peak. -/
theorem pk_max (ws : List ByteArray) : ∀ n i, i < n → lessW (ws.getD (pkTo ws n) ⟨#[]⟩) (ws.getD i ⟨#[]⟩) = false
  | 0, i, h => absurd h (Nat.not_lt_zero _)
  | n + 1, i, h => by
    rw [pkTo]
    cases hc : lessW (ws.getD (pkTo ws n) ⟨#[]⟩) (ws.getD n ⟨#[]⟩) with
    | false =>
      rw [if_neg (by simp)]
      by_cases hi : i < n
      · exact pk_max ws n i hi
      · have : i = n := by omega
        subst this; exact hc
    | true =>
      rw [if_pos rfl]
      by_cases hi : i < n
      · have := pk_max ws n i hi
        cases hg : lessW (ws.getD n ⟨#[]⟩) (ws.getD i ⟨#[]⟩) with
        | false => rfl
        | true => rw [lessW_trans _ _ _ hc hg] at this; cases this
      · have : i = n := by omega
        subst this; exact lessW_irrefl _
/-- A step is a link forward. -/
theorem step_link {s : ByteArray} {x : StepT} (hx : x ∈ stepAcc rs s s.size) (ho : applyOk rs s x = true) : linkOk rs s (linkOf false x) = true ∧ linkS rs s (linkOf false x) = applyS rs s x := by
  obtain ⟨k, p, rfl, hk, hp, hh⟩ := mem_step hx
  have h1 : linkHit rs s (linkOf false ((k : Int), (p : Int))) = true := by
    unfold linkHit linkOf inB
    dsimp only
    unfold linkFrom
    simp only [Bool.false_eq_true, if_false]
    rw [Int.toNat_natCast, Int.toNat_natCast]
    unfold hitAt at hh
    rw [hh]
    simp only [Bool.and_eq_true, decide_eq_true_eq, and_true]
    omega
  obtain ⟨e1, e2⟩ := link_yes h1
  rw [e1, e2]
  exact ⟨ho, rfl⟩
theorem trace_chn (hsy : systemOk l rs = true) : ∀ (n : Nat) (s : ByteArray), val4 s ≤ n → wordOk l s = true → ∃ ws, Chn rs s ((traceS rs s).map (linkOf false)) ws (normS rs s) := by
  intro n
  induction n with
  | zero => intro s h; have := val4_pos s; omega
  | succ n ih =>
    intro s hn hw
    unfold traceS normS
    cases h : firstS rs s with
    | none => rw [endF_none h]; exact ⟨[s], .nil s⟩
    | some x =>
      have hm := firstS_mem h
      have h1 := first_val hsy s x h
      obtain ⟨h0, h2, -⟩ := step_good hsy hw hm
      rw [endF_some (first_val hsy) h]
      obtain ⟨f1, f2⟩ := step_link hm h0
      obtain ⟨ws, hc⟩ := ih _ (by omega) h2
      refine ⟨s :: ws, .cons f1 ?_⟩
      rw [f2]
      exact hc
/-- A proof that is found is one. -/
theorem found_good {u v : ByteArray} (h : pfOk l rs u v = true) : prOk l rs u v (pfL l rs u v) = true := by
  have h0 := h
  unfold pfOk at h
  simp only [Bool.and_eq_true, decide_eq_true_eq, beq_iff_eq] at h
  obtain ⟨⟨⟨t1, t2⟩, hn⟩, hl⟩ := h
  obtain ⟨hsy, w1⟩ := takes_sys t1
  obtain ⟨-, w2⟩ := takes_sys t2
  obtain ⟨ws, c1⟩ := trace_chn hsy _ u (Nat.le_refl _) w1
  obtain ⟨vs, c2⟩ := trace_chn hsy _ v (Nat.le_refl _) w2
  have c3 := c2.turn (wordOk_out w2).2.2.1
  rw [turn_links] at c3
  have e : normS rs u = normS rs v := bytes_inj (by rw [← ByteArray.toList_eq, ← ByteArray.toList_eq]; exact hn)
  rw [← e] at c3
  have e1 : trS l rs u = traceS rs u := by rw [trS, if_pos t1]
  have e2 : trS l rs v = traceS rs v := by rw [trS, if_pos t2]
  unfold pfL
  rw [h0, if_pos rfl, e1, e2]
  rw [e1, e2] at hl
  exact (chn_co (sys_rules hsy) (c1.app c3) (by rw [List.length_append, List.length_map, List.length_map, List.length_reverse]; exact hl)).2.2
/-- In a complete system the ends of a chain have one reduced form. -/
theorem chn_nf (hsy : systemOk l rs = true) (hC : Crit (rl rs)) {u e : ByteArray} {xs : List LinkT} {ws : List ByteArray} (h : Chn rs u xs ws e) : nfL (rl rs) u.data.toList = nfL (rl rs) e.data.toList := by
  induction h with
  | nil => rfl
  | cons ho _ ih =>
    rw [← ih]
    rcases link_red ho with h1 | h1
    · exact conf (rl_falls hsy) hC h1
    · exact (conf (rl_falls hsy) hC h1).symm
theorem chn_norm (h : isCompl l rs = true) {u e : ByteArray} {xs : List LinkT} {ws : List ByteArray} (hc : Chn rs u xs ws e) (hu : wordOk l u = true) (he : wordOk l e = true) : normS rs u = normS rs e := by
  obtain ⟨hsy, -⟩ := compl_out h
  have hC := compl_crit h
  exact bytes_inj (by rw [norm_nfL hsy hC hu, norm_nfL hsy hC he, chn_nf hsy hC hc])
/-- Where a complete system finds no proof between the ends of a chain, the traces are long. -/
theorem not_found {u e : ByteArray} {xs : List LinkT} {ws : List ByteArray} (hsy : systemOk l rs = true) (hc : Chn rs u xs ws e) (hu : wordOk l u = true) (h : pfOk l rs u e = false) (hf : (trS l rs u).length + (trS l rs e).length ≤ 200) : isCompl l rs = false := by
  cases hi : isCompl l rs with
  | false => rfl
  | true =>
    have he := (hc.word (sys_rules hsy) hu).1
    have hn := chn_norm hi hc hu he
    unfold pfOk at h
    rw [takes_mk hsy hu, takes_mk hsy he, hn, decide_eq_true hf] at h
    simp at h
/-- How many links lead back. -/
def backN (xs : List LinkT) : Nat := xs.countP (·.2.2)
theorem back_turn (xs : List LinkT) : backN (turnL xs) + backN xs = xs.length := by
  induction xs with
  | nil => rfl
  | cons x xs ih =>
    unfold backN at ih ⊢
    rw [turn_cons, List.countP_append, List.countP_cons, List.countP_cons, List.countP_nil, List.length_cons]
    unfold flipL
    obtain ⟨a, b, c⟩ := x
    cases c <;> simp <;> omega

end Go.Proofs.Ytidmbeeadbedaaa
