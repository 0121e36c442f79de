/- Merged texts: a claim has a limit of files. -/
import Derived.Test.YtidmbeeadbedaaaTrace
import Derived.Test.YtidmbeeadbedaaaFar
import Derived.Test.YtidmbeeadbedaaaCrP
import Derived.Test.YtidmbeeadbedaaaIsRed
import Derived.Test.YtidmbeeadbedaaaMg14
import Derived.Test.YtidmbeeadbedaaaMkD

/- Plain words for the law FnReduce: reduction ends at a reduced word that is not greater, by the steps that are told; few words are reached. No walk, no condition. -/
namespace Go.Proofs.Ytidmbeeadbedaaa
open Go.RowKit Go.Shelf

theorem fnd_at {ws : List ByteArray} {s : ByteArray} : ∀ {i : Nat}, fnd ws s = some i → ws[i]? = some s := by
  induction ws with
  | nil => intro i h; cases h
  | cons x t ih =>
    intro i h
    rw [fnd] at h
    by_cases e : x = s
    · rw [if_pos e] at h
      injection h with h
      subst h
      rw [e]; rfl
    · rw [if_neg e] at h
      cases hf : fnd t s with
      | none => rw [hf] at h; cases h
      | some j =>
        rw [hf] at h
        injection h with h
        subst h
        exact ih hf
theorem wordOk_mk {k : Int} {s : ByteArray} (h1 : 1 ≤ k) (h4 : k ≤ 4) (hs : s.size ≤ 16) (hl : lettersOk k s = true) : wordOk k s = true := by
  unfold wordOk inB
  simp only [Bool.and_eq_true, decide_eq_true_eq]
  exact ⟨⟨⟨h1, h4⟩, hs⟩, hl⟩
theorem sys_in {l : Int} {rs : List RuleT} (h : systemOk l rs = true) : 1 ≤ l ∧ l ≤ 4 ∧ rs.length ≤ 12 := by
  have h1 := sys_rules h
  have h2 := rulesOk_12 h1
  unfold rulesOk at h1
  simp only [Bool.and_eq_true] at h1
  have := inB_out h1.1.1.symm
  exact ⟨this.1, this.2, h2⟩
/-- A step of an ordered system from a good word: it can be made, it leads to a good word that is no longer. -/
theorem step_good {l : Int} {rs : List RuleT} {s : ByteArray} {x : StepT} (hsy : systemOk l rs = true) (hw : wordOk l s = true) (hx : x ∈ stepAcc rs s s.size) : applyOk rs s x = true ∧ wordOk l (applyS rs s x) = true ∧ (applyS rs s x).size ≤ s.size := by
  obtain ⟨k, p, rfl, hk, _, hh⟩ := mem_step hx
  obtain ⟨hl4, h1, h2, h3, h4, h5⟩ := sys_rule hsy hk
  obtain ⟨w1, w2, w3, w4⟩ := wordOk_out hw
  unfold hitAt at hh
  obtain ⟨hp, _⟩ := has_parts hh
  have hle : (ruleAt rs k).2.size ≤ (ruleAt rs k).1.size := by
    unfold lessW at h5
    split at h5
    · omega
    · have := of_decide_eq_true h5; omega
  have hok : replOk s (p : Int) ((ruleAt rs k).1.size : Int) (ruleAt rs k).2 = true := by
    unfold replOk
    simp only [Bool.and_eq_true, decide_eq_true_eq]
    omega
  have e : applyS rs s ((k : Int), (p : Int)) = s.extract 0 p ++ (ruleAt rs k).2 ++ s.extract (p + (ruleAt rs k).1.size) s.size := by
    unfold applyS
    dsimp only
    rw [Int.toNat_natCast, replS_yes hok]
    congr 1
  have hsz : (applyS rs s ((k : Int), (p : Int))).size ≤ s.size := by
    rw [e, ByteArray.size_append, ByteArray.size_append, ByteArray.size_extract, ByteArray.size_extract]
    omega
  refine ⟨?_, wordOk_mk w1 w2 (by omega) ?_, hsz⟩
  · unfold applyOk
    dsimp only
    rw [Int.toNat_natCast]
    exact hok
  · rw [e]
    exact letters_app (letters_app (letters_ext w4 _ _) h4) (letters_ext w4 _ _)

/-- What the end of a run of an ordered system is, whichever steps are made. -/
theorem end_good {l : Int} {rs : List RuleT} {pick : ByteArray → Option StepT} (hsy : systemOk l rs = true) (hp : ∀ s x, pick s = some x → x ∈ stepAcc rs s s.size) : ∀ (n : Nat) (s : ByteArray), val4 s ≤ n → wordOk l s = true →
    wordOk l (endF pick rs s).2 = true ∧ pick (endF pick rs s).2 = none ∧ (endF pick rs s).2.size ≤ s.size ∧ (((endF pick rs s).1 = [] ∧ (endF pick rs s).2 = s ∧ pick s = none) ∨ ((endF pick rs s).1 ≠ [] ∧ val4 (endF pick rs s).2 < val4 s ∧ (pick s).isSome = true)) := by
  have hv : ∀ s x, pick s = some x → val4 (applyS rs s x) < val4 s := fun s x h => step_val hsy (hp s x h)
  intro n
  induction n with
  | zero => intro s h; have := val4_pos s; omega
  | succ n ih =>
    intro s hn hw
    cases h : pick s with
    | none => rw [endF_none h]; exact ⟨hw, h, Nat.le_refl _, .inl ⟨rfl, rfl, rfl⟩⟩
    | some x =>
      have h1 := hv s x h
      obtain ⟨-, h2, h3⟩ := step_good hsy hw (hp s x h)
      obtain ⟨a, b, c, d⟩ := ih (applyS rs s x) (by omega) h2
      rw [endF_some hv h]
      refine ⟨a, b, by dsimp only; omega, .inr ⟨by simp, ?_, rfl⟩⟩
      rcases d with ⟨-, d, -⟩ | ⟨-, d, -⟩
      · dsimp only; rw [d]; exact h1
      · dsimp only; omega
theorem norm_good {l : Int} {rs : List RuleT} {s : ByteArray} (hsy : systemOk l rs = true) (hw : wordOk l s = true) :
    wordOk l (normS rs s) = true ∧ firstS rs (normS rs s) = none ∧ (normS rs s).size ≤ s.size ∧ ((traceS rs s = [] ∧ normS rs s = s ∧ firstS rs s = none) ∨ (traceS rs s ≠ [] ∧ val4 (normS rs s) < val4 s ∧ (firstS rs s).isSome = true)) :=
  end_good hsy (fun _ _ => firstS_mem) _ s (Nat.le_refl _) hw
theorem far_good {l : Int} {rs : List RuleT} {s : ByteArray} (hsy : systemOk l rs = true) (hw : wordOk l s = true) :
    wordOk l (farS rs s) = true ∧ lastS rs (farS rs s) = none ∧ (farS rs s).size ≤ s.size ∧ (((endF (lastS rs) rs s).1 = [] ∧ farS rs s = s ∧ lastS rs s = none) ∨ ((endF (lastS rs) rs s).1 ≠ [] ∧ val4 (farS rs s) < val4 s ∧ (lastS rs s).isSome = true)) :=
  end_good hsy (fun _ _ => lastS_mem) _ s (Nat.le_refl _) hw

theorem first_none {rs : List RuleT} {s : ByteArray} : firstS rs s = none ↔ stepAcc rs s s.size = [] := by
  unfold firstS
  exact List.head?_eq_none_iff
theorem lastTo_none {rs : List RuleT} {s : ByteArray} : ∀ n, lastTo rs s n = none ↔ stepAcc rs s n = []
  | 0 => by simp [lastTo, stepAcc_zero]
  | n + 1 => by
    rw [lastTo, stepAcc_succ, stepTo, Option.or_eq_none_iff, lastTo_none n, List.head?_eq_none_iff, List.append_eq_nil_iff]
    exact And.comm
theorem last_none {rs : List RuleT} {s : ByteArray} : lastS rs s = none ↔ stepAcc rs s s.size = [] := lastTo_none _
theorem last_first {rs : List RuleT} {s : ByteArray} : (lastS rs s).isSome = (firstS rs s).isSome := by
  rw [Bool.eq_iff_iff, ← Bool.not_eq_false, ← Bool.not_eq_false, Option.isSome_eq_false_iff, Option.isSome_eq_false_iff, Option.isNone_iff_eq_none, Option.isNone_iff_eq_none, last_none, first_none]

theorem not_less_of_val {k : Int} {u v : ByteArray} (hu : wordOk k u = true) (hv : wordOk k v = true) (h : val4 v ≤ val4 u) : lessW u v = false := by
  cases e : lessW u v with
  | false => rfl
  | true =>
    have := less_V4 (a := 1) (Nat.le_refl _) (wordOk_out hu).2.1 (wordOk_out hu).2.2.2 (wordOk_out hv).2.2.2 e
    unfold val4 at h
    omega
theorem norm_not_less {l : Int} {rs : List RuleT} {s : ByteArray} (hsy : systemOk l rs = true) (hw : wordOk l s = true) : lessW s (normS rs s) = false := by
  obtain ⟨a, -, -, d⟩ := norm_good hsy hw
  refine not_less_of_val hw a ?_
  rcases d with ⟨-, d, -⟩ | ⟨-, d, -⟩
  · rw [d]; exact Nat.le_refl _
  · omega
theorem far_not_less {l : Int} {rs : List RuleT} {s : ByteArray} (hsy : systemOk l rs = true) (hw : wordOk l s = true) : lessW s (farS rs s) = false := by
  obtain ⟨a, -, -, d⟩ := far_good hsy hw
  refine not_less_of_val hw a ?_
  rcases d with ⟨-, d, -⟩ | ⟨-, d, -⟩
  · rw [d]; exact Nat.le_refl _
  · omega
theorem takes_mk {l : Int} {rs : List RuleT} {s : ByteArray} (hsy : systemOk l rs = true) (hw : wordOk l s = true) : takesOk l rs s = true := by
  unfold takesOk; rw [hsy, hw]; rfl
theorem norm_reduced {l : Int} {rs : List RuleT} {s : ByteArray} (hsy : systemOk l rs = true) (hw : wordOk l s = true) : isReduced l rs (normS rs s) = true := by
  obtain ⟨a, b, -, -⟩ := norm_good hsy hw
  unfold isReduced
  rw [takes_mk hsy a, b]; rfl
theorem far_reduced {l : Int} {rs : List RuleT} {s : ByteArray} (hsy : systemOk l rs = true) (hw : wordOk l s = true) : isReduced l rs (farS rs s) = true := by
  obtain ⟨a, b, -, -⟩ := far_good hsy hw
  unfold isReduced
  rw [takes_mk hsy a, first_none.2 (last_none.1 b)]; rfl
theorem norm_same {l : Int} {rs : List RuleT} {s : ByteArray} (hsy : systemOk l rs = true) (hw : wordOk l s = true) : normS rs s = s ↔ (traceS rs s).length = 0 := by
  obtain ⟨-, -, -, d⟩ := norm_good hsy hw
  rcases d with ⟨a, b, -⟩ | ⟨a, b, -⟩
  · rw [a, b]; simp
  · constructor
    · intro e; rw [e] at b; omega
    · intro e; exact absurd (List.eq_nil_of_length_eq_zero e) a
theorem norm_steps {l : Int} {rs : List RuleT} {s : ByteArray} (hsy : systemOk l rs = true) (hw : wordOk l s = true) : stepsOf l rs (normS rs s) = [] := by
  obtain ⟨-, b, -, -⟩ := norm_good hsy hw
  unfold stepsOf
  rw [if_pos (sys_rules hsy)]
  exact first_none.1 b
theorem trace_some {l : Int} {rs : List RuleT} {s : ByteArray} (hsy : systemOk l rs = true) (hw : wordOk l s = true) : (firstS rs s).isSome = decide (0 < (traceS rs s).length) := by
  obtain ⟨-, -, -, d⟩ := norm_good hsy hw
  rcases d with ⟨a, -, b⟩ | ⟨a, -, b⟩
  · rw [a, b]; rfl
  · rw [b]
    exact (decide_eq_true (List.length_pos_iff.2 a)).symm

/-- Steps that are told, one after the other. -/
def rstGo (l : Int) (rs : List RuleT) : ByteArray → List StepT → ByteArray × Bool
  | s, [] => (s, true)
  | s, x :: xs => if asOk l rs s x then rstGo l rs (asS l rs s x) xs else (⟨#[]⟩, false)
def rstS (l : Int) (rs : List RuleT) (s : ByteArray) (xs : List StepT) : ByteArray × Bool := if 1000 < xs.length then (⟨#[]⟩, false) else rstGo l rs s xs
theorem rst_trace {l : Int} {rs : List RuleT} (hsy : systemOk l rs = true) : ∀ (n : Nat) (s : ByteArray), val4 s ≤ n → wordOk l s = true → rstGo l rs s (traceS rs s) = (normS rs s, true) := by
  intro n
  induction n with
  | zero => intro s h; have := val4_pos s; omega
  | succ n ih =>
    intro s hn hw
    unfold traceS normS
    cases h : firstS rs s with
    | none => rw [endF_none h]; rfl
    | some x =>
      have hm := firstS_mem h
      have h1 := first_val hsy s x h
      obtain ⟨h0, h2, -⟩ := step_good hsy hw hm
      rw [endF_some (first_val hsy) h]
      obtain ⟨a, b⟩ := as_first (sys_rules hsy) hm
      rw [rstGo, b, h0, if_pos rfl, a]
      exact ih _ (by omega) h2
theorem rstS_trace {l : Int} {rs : List RuleT} {s : ByteArray} (hsy : systemOk l rs = true) (hw : wordOk l s = true) (h : (traceS rs s).length ≤ 1000) : rstS l rs s (traceS rs s) = (normS rs s, true) := by
  unfold rstS
  rw [if_neg (by omega)]
  exact rst_trace hsy _ s (Nat.le_refl _) hw

/-- The place of a word among all words of four letters. -/
def W4 (bs : List UInt8) : Nat := bs.foldl (fun a b => a * 4 + (b.toNat - 96)) 0
theorem W4_snoc (bs : List UInt8) (b : UInt8) : W4 (bs ++ [b]) = W4 bs * 4 + (b.toNat - 96) := by unfold W4; rw [List.foldl_append]; rfl
def G4 : Nat → Nat
  | 0 => 0
  | n + 1 => G4 n * 4 + 4
theorem G4_mono {n m : Nat} (h : n ≤ m) : G4 n ≤ G4 m := by
  induction m with
  | zero => rw [Nat.le_zero.1 h]; exact Nat.le_refl _
  | succ m ih =>
    rcases Nat.lt_or_ge n (m + 1) with h1 | h1
    · have := ih (by omega); rw [G4]; omega
    · rw [Nat.le_antisymm h h1]; exact Nat.le_refl _
theorem snoc_ind {P : List UInt8 → Prop} (h0 : P []) (h1 : ∀ bs b, P bs → P (bs ++ [b])) : ∀ (n : Nat) (bs : List UInt8), bs.length = n → P bs
  | 0, bs, h => by rw [List.eq_nil_of_length_eq_zero h]; exact h0
  | n + 1, bs, h => by
    have hne : bs ≠ [] := by intro e; rw [e] at h; simp at h
    rw [← List.dropLast_concat_getLast hne]
    exact h1 _ _ (snoc_ind h0 h1 n _ (by rw [List.length_dropLast, h]; rfl))
theorem W4_le (bs : List UInt8) (h : ∀ b ∈ bs, 97 ≤ b.toNat ∧ b.toNat ≤ 100) : W4 bs ≤ G4 bs.length := by
  revert h
  refine snoc_ind (P := fun bs => (∀ b ∈ bs, 97 ≤ b.toNat ∧ b.toNat ≤ 100) → W4 bs ≤ G4 bs.length) (fun _ => Nat.le_refl _) (fun bs b ih h => ?_) _ bs rfl
  have h1 := ih (fun c hc => h c (List.mem_append_left _ hc))
  have h2 := h b (List.mem_append_right _ (List.mem_singleton.2 rfl))
  rw [W4_snoc, List.length_append, List.length_singleton, G4]
  omega
theorem W4_inj : ∀ (xs ys : List UInt8), (∀ b ∈ xs, 97 ≤ b.toNat ∧ b.toNat ≤ 100) → (∀ b ∈ ys, 97 ≤ b.toNat ∧ b.toNat ≤ 100) → W4 xs = W4 ys → xs = ys := by
  intro xs
  refine snoc_ind (P := fun xs => ∀ ys, (∀ b ∈ xs, 97 ≤ b.toNat ∧ b.toNat ≤ 100) → (∀ b ∈ ys, 97 ≤ b.toNat ∧ b.toNat ≤ 100) → W4 xs = W4 ys → xs = ys) ?_ ?_ _ xs rfl
  · intro ys _ hy h
    by_cases hne : ys = []
    · exact hne.symm
    · rw [← List.dropLast_concat_getLast hne, W4_snoc] at h
      have := hy _ (List.getLast_mem hne)
      have e : W4 [] = 0 := rfl
      omega
  · intro bs b ih ys hx hy h
    by_cases hne : ys = []
    · subst hne
      rw [W4_snoc] at h
      have := hx b (List.mem_append_right _ (List.mem_singleton.2 rfl))
      have e : W4 [] = 0 := rfl
      omega
    · rw [← List.dropLast_concat_getLast hne, W4_snoc, W4_snoc] at h
      have h1 := hx b (List.mem_append_right _ (List.mem_singleton.2 rfl))
      have h2 := hy _ (List.getLast_mem hne)
      have h3 := ih ys.dropLast (fun c hc => hx c (List.mem_append_left _ hc)) (fun c hc => hy c (List.dropLast_subset ys hc)) (by omega)
      have h4 : b = ys.getLast hne := UInt8.toNat_inj.1 (by omega)
      rw [h3, h4, List.dropLast_concat_getLast hne]
theorem words_few8 {k : Int} {ws : List ByteArray} (hn : ws.Nodup) (h : ∀ s ∈ ws, good8 k s) : ws.length ≤ 87381 := by
  have h1 := pig 87381 (ws.map fun s => W4 s.data.toList) (by
    rw [List.nodup_iff_pairwise_ne] at *
    rw [List.pairwise_map]
    refine List.Pairwise.imp_of_mem ?_ hn
    intro a b ha hb hne he
    refine hne ?_
    have := W4_inj _ _ (letters_in (h a ha).1 (h a ha).2.1) (letters_in (h b hb).1 (h b hb).2.1) he
    cases a; cases b; simp_all) (by
    intro x hx
    obtain ⟨s, hs, rfl⟩ := List.mem_map.1 hx
    have h2 := W4_le _ (letters_in (h s hs).1 (h s hs).2.1)
    have h3 := (h s hs).2.2
    rw [bytes_len] at h2
    have h4 := G4_mono h3
    have h5 : G4 8 = 87380 := rfl
    omega)
  rwa [List.length_map] at h1
theorem crGo_good {l : Int} {rs : List RuleT} (hsy : systemOk l rs = true) : ∀ (f a : Nat) (Q : List ByteArray), crGood l Q → crGood l (crGo rs f a Q) ∧ Q.length ≤ (crGo rs f a Q).length
  | 0, _, Q, h => ⟨h, Nat.le_refl _⟩
  | f + 1, a, Q, h => by
    rw [crGo]
    by_cases ha : a < Q.length
    · rw [if_pos ha]
      obtain ⟨h1, T, h2⟩ := crRow_good hsy (h.2 _ (wAt_mem ha)) (stepAcc rs (wAt Q a) (wAt Q a).size) Q h (fun _ hx => hx)
      obtain ⟨h3, h4⟩ := crGo_good hsy f (a + 1) _ h1
      refine ⟨h3, ?_⟩
      rw [h2, List.length_append] at h4
      rw [h2]
      omega
    · rw [if_neg ha]; exact ⟨h, Nat.le_refl _⟩
theorem crN_in {l : Int} {rs : List RuleT} {s : ByteArray} (hsy : systemOk l rs = true) (hw : wordOk l s = true) (h8 : s.size ≤ 8) : 1 ≤ crN l rs s ∧ crN l rs s ≤ 100000 := by
  have hg : good8 l s := ⟨(wordOk_out hw).2.1, (wordOk_out hw).2.2.2, h8⟩
  obtain ⟨h1, h2⟩ := crGo_good hsy 131073 0 [s] (crGood_one hg)
  unfold crN
  rw [takes_mk hsy hw, decide_eq_true h8, Bool.and_self, if_pos rfl]
  unfold crAll
  have := words_few8 h1.1 h1.2
  rw [List.length_singleton] at h2
  omega

end Go.Proofs.Ytidmbeeadbedaaa

/- What the laws' walks share: a system that the law holds in a variable, over rules in memory of its own. -/
namespace Go.Proofs.Ytidmbeeadbedaaa
open Go.RowKit Go.Shelf

/-- The variable b holds the system; its rules can be read; all that was there at w is as it was. -/
structure SysSt (w W : World) (b : Nat) (l : Int) (B : Option Addr) (k d : Nat) (rs : List RuleT) : Prop where
  bk : Bk W b 25 #[.int .i64 l, .slice B k d]
  rd : Rd W B (cellsRule rs)
  low : Below w.heap.size w W
theorem SysSt.below {w W W' : World} {b : Nat} {l : Int} {B : Option Addr} {k d : Nat} {rs : List RuleT} (h : SysSt w W b l B k d rs) (hb : Below W.heap.size W W') : SysSt w W' b l B k d rs :=
  ⟨h.bk.below hb h.bk.lt, h.rd.keep hb, h.low.trans (hb.mono h.low.size)⟩
theorem SysSt.alloc {w W : World} {b : Nat} {l : Int} {B : Option Addr} {k d : Nat} {rs : List RuleT} (h : SysSt w W b l B k d rs) (o : Obj) : SysSt w (W.alloc o) b l B k d rs := h.below ((Below.refl _ _).alloc (Nat.le_refl _) o)
theorem SysSt.drew {w W : World} {b : Nat} {l : Int} {B : Option Addr} {k d : Nat} {rs : List RuleT} (h : SysSt w W b l B k d rs) : SysSt w W.drew b l B k d rs := h.below (Below.refl _ _).drew
theorem SysSt.new {w W : World} {l : Int} {B : Option Addr} {k d : Nat} {rs : List RuleT} (hO : W.ownsRow w.heap.size 156 2 (.slice B k d) k (cellsRule rs)) (hb : Below w.heap.size w W) : SysSt w (W.alloc (.cells #[.int .i64 l, .slice B k d] 25)) W.heap.size l B k d rs :=
  ⟨Bk.new _ _ _, (Rd.of_own hO).keep ((Below.refl _ _).alloc (Nat.le_refl _) _), hb.alloc hb.size _⟩
theorem sys_sizes {l : Int} {rs : List RuleT} (h : rulesOk l rs = true) : ∀ x ∈ rs, x.1.size ≤ 1048576 ∧ x.2.size ≤ 1048576 := fun x hx => by
  have := rulesOk_side h hx
  omega

end Go.Proofs.Ytidmbeeadbedaaa
