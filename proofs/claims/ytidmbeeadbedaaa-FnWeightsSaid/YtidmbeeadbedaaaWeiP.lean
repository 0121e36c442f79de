/- Plain words for the law FnWeights: the kept weights are a group, whose order divides that of all weights; a link keeps them. No walk, no condition. -/
import Derived.Test.YtidmbeeadbedaaaLa
import Derived.Test.YtidmbeeadbedaaaMg3
import Derived.Test.YtidmbeeadbedaaaProof
import Derived.Test.YtidmbeeadbedaaaBxI
import Derived.Test.YtidmbeeadbedaaaMg20
namespace Go.Proofs.Ytidmbeeadbedaaa
open Go.RowKit Go.Shelf

theorem wsum_app (xs : List Int) (a b : List UInt8) : wsum xs (a ++ b) = wsum xs a + wsum xs b := by
  unfold wsum
  rw [List.map_append, List.sum_append]
/-- A link keeps a weight that the rules keep. -/
theorem link_weight {l : Int} {rs : List RuleT} {m : Int} {ws : List Int} {s : ByteArray} {x : LinkT} (hk : keepsAll m ws rs = true) (h : linkOk rs s x = true) : weightV m ws (linkS rs s x) = weightV m ws s := by
  obtain ⟨k, p, b, a, c, rfl, hkl, -, h1, h2⟩ := link_parts h
  have h3 := List.all_eq_true.1 hk rs[k] (List.getElem_mem hkl)
  unfold keepR weightV at h3
  have h4 := of_decide_eq_true h3
  unfold weightV
  rw [h1, h2, wsum_app, wsum_app, wsum_app, wsum_app]
  unfold linkFrom linkTo
  dsimp only
  rw [Int.toNat_natCast, ruleAt_get hkl]
  have e : ∀ A B C D : Int, A % m = B % m → (C + A + D) % m = (C + B + D) % m := fun A B C D h => by
    rw [Int.add_emod (C + A), Int.add_emod C, h, ← Int.add_emod C, ← Int.add_emod]
  cases b with
  | false => simp only [Bool.false_eq_true, if_false]; exact e _ _ _ _ h4.symm
  | true => simp only [if_true]; exact e _ _ _ _ h4
theorem step_weight {l : Int} {rs : List RuleT} {m : Int} {ws : List Int} {s : ByteArray} {x : StepT} (hk : keepsAll m ws rs = true) (hx : x ∈ stepAcc rs s s.size) (ho : applyOk rs s x = true) : weightV m ws (applyS rs s x) = weightV m ws s := by
  obtain ⟨k, p, rfl, hkl, hp, hh⟩ := mem_step hx
  obtain ⟨hsz, hparts⟩ := has_parts hh
  have h3 := List.all_eq_true.1 hk rs[k] (List.getElem_mem hkl)
  unfold keepR weightV at h3
  have h4 := of_decide_eq_true h3
  unfold applyOk at ho
  dsimp only at ho
  rw [Int.toNat_natCast] at ho
  unfold weightV applyS
  dsimp only
  rw [Int.toNat_natCast, replS_bytes ho, hparts, wsum_app, wsum_app, wsum_app, wsum_app, ruleAt_get hkl]
  rw [Int.add_emod (_ + _), Int.add_emod (wsum ws _) (wsum ws rs[k].2.data.toList), ← h4, ← Int.add_emod (wsum ws _) (wsum ws rs[k].1.data.toList), ← Int.add_emod]
theorem norm_weight {l : Int} {rs : List RuleT} {m : Int} {ws : List Int} (hsy : systemOk l rs = true) (hk : keepsAll m ws rs = true) : ∀ (n : Nat) (s : ByteArray), val4 s ≤ n → wordOk l s = true → weightV m ws (normS rs s) = weightV m ws s := by
  intro n
  induction n with
  | zero => intro s h; have := val4_pos s; omega
  | succ n ih =>
    intro s hn hw
    cases h : firstS rs s with
    | none => rw [normS_none h]
    | some x =>
      have hm := firstS_mem h
      have h1 := step_val hsy hm
      obtain ⟨h0, h2, -⟩ := step_good hsy hw hm
      rw [normS_some hsy h, ih _ (by omega) h2, step_weight (l := l) hk hm h0]

/-- Digits below m, L of them. -/
def Dig (m L : Nat) (l : List Int) : Prop := l.length = L ∧ ∀ d ∈ l, 0 ≤ d ∧ d < (m : Int)
theorem box_dig {m L : Nat} (hm : 0 < m) : ∀ l, l ∈ boxes m L ↔ Dig m L l := by
  induction L with
  | zero =>
    intro l
    rw [boxes_zero, List.mem_singleton]
    constructor
    · rintro rfl; exact ⟨rfl, fun d hd => by cases hd⟩
    · rintro ⟨h, -⟩; exact List.eq_nil_of_length_eq_zero h
  | succ L ih =>
    intro l
    rw [boxes_succ hm, List.mem_flatten]
    constructor
    · rintro ⟨q, hq, hl⟩
      obtain ⟨a, ha, rfl⟩ := List.mem_map.1 hq
      obtain ⟨x, hx, rfl⟩ := List.mem_map.1 hl
      obtain ⟨h1, h2⟩ := (ih a).1 ha
      have hx2 := List.mem_range.1 hx
      refine ⟨by rw [List.length_append, h1]; rfl, fun d hd => ?_⟩
      rcases List.mem_append.1 hd with hd | hd
      · exact h2 d hd
      · rw [List.mem_singleton.1 hd]; omega
    · rintro ⟨h1, h2⟩
      have hne : l ≠ [] := by intro e; rw [e] at h1; simp at h1
      have hd := h2 _ (List.getLast_mem hne)
      refine ⟨_, List.mem_map.2 ⟨l.dropLast, (ih _).2 ⟨by rw [List.length_dropLast, h1]; rfl, fun d hd => h2 d (List.dropLast_subset l hd)⟩, rfl⟩, List.mem_map.2 ⟨(l.getLast hne).toNat, List.mem_range.2 (by omega), ?_⟩⟩
      have e : (((l.getLast hne).toNat : Nat) : Int) = l.getLast hne := by omega
      rw [e]
      exact List.dropLast_concat_getLast hne
theorem boxes_nodup {m L : Nat} (hm : 0 < m) : (boxes m L).Nodup := by
  unfold boxes
  rw [List.nodup_iff_pairwise_ne, List.pairwise_map]
  have h := List.nodup_iff_pairwise_ne.1 (List.nodup_range (n := m ^ L))
  refine List.Pairwise.imp_of_mem ?_ h
  intro a b ha hb hne he
  refine hne ?_
  have h1 := numOf_box hm L a (List.mem_range.1 ha)
  have h2 := numOf_box hm L b (List.mem_range.1 hb)
  rw [← h1, ← h2, he]
theorem add_dig {m L : Nat} (hm : 0 < m) {a b : List Int} (ha : Dig m L a) (hb : Dig m L b) : Dig m L (addS (m : Int) a b) := by
  unfold addS
  refine ⟨by rw [List.length_zipWith, ha.1, hb.1, Nat.min_self], fun d hd => ?_⟩
  obtain ⟨i, hi, rfl⟩ := List.mem_iff_getElem.1 hd
  rw [List.getElem_zipWith]
  exact ⟨Int.emod_nonneg _ (by omega), Int.emod_lt_of_pos _ (by omega)⟩
theorem add_snoc {m : Int} {a b : List Int} {x y : Int} (h : a.length = b.length) : addS m (a ++ [x]) (b ++ [y]) = addS m a b ++ [(x + y) % m] := by
  unfold addS
  rw [List.zipWith_append h]
  rfl
/-- The negative digits. -/
def negS (m : Int) (a : List Int) : List Int := a.map fun x => (-x) % m
theorem neg_dig {m L : Nat} (hm : 0 < m) {a : List Int} (ha : Dig m L a) : Dig m L (negS (m : Int) a) := by
  unfold negS
  refine ⟨by rw [List.length_map, ha.1], fun d hd => ?_⟩
  obtain ⟨x, -, rfl⟩ := List.mem_map.1 hd
  exact ⟨Int.emod_nonneg _ (by omega), Int.emod_lt_of_pos _ (by omega)⟩
theorem add_neg {m L : Nat} (hm : 0 < m) {a b : List Int} (ha : Dig m L a) (hb : Dig m L b) : addS (m : Int) (addS (m : Int) a (negS (m : Int) b)) b = a ∧ addS (m : Int) (addS (m : Int) a b) (negS (m : Int) b) = a := by
  have key : ∀ x y : Int, 0 ≤ x → x < m → ((x + (-y) % m) % m + y) % (m : Int) = x ∧ ((x + y) % m + (-y) % m) % (m : Int) = x := fun x y h0 h1 => by
    constructor
    · have e : x + (-y) % (m : Int) + y = (-y) % (m : Int) + (x + y) := by generalize (-y) % (m : Int) = t; omega
      have e2 : -y + (x + y) = x := by omega
      rw [Int.emod_add_emod, e, Int.emod_add_emod, e2, Int.emod_eq_of_lt h0 h1]
    · rw [← Int.add_emod, Int.add_neg_cancel_right, Int.emod_eq_of_lt h0 h1]
  have hl : a.length = b.length := by rw [ha.1, hb.1]
  unfold addS negS
  constructor
  · apply List.ext_getElem (by simp [hl])
    intro i h1 h2
    simp only [List.getElem_zipWith, List.getElem_map]
    have := ha.2 a[i] (List.getElem_mem h2)
    exact (key _ _ this.1 this.2).1
  · apply List.ext_getElem (by simp [hl])
    intro i h1 h2
    simp only [List.getElem_zipWith, List.getElem_map]
    have := ha.2 a[i] (List.getElem_mem h2)
    exact (key _ _ this.1 this.2).2
/-- To add some digits turns the list of all digits round. -/
theorem boxes_turn {m L : Nat} (hm : 0 < m) {b : List Int} (hb : Dig m L b) : ((boxes m L).map fun a => addS (m : Int) a b).Perm (boxes m L) := by
  refine perm_of_nodup ?_ (boxes_nodup hm) fun a => ?_
  · rw [List.nodup_iff_pairwise_ne, List.pairwise_map]
    refine List.Pairwise.imp_of_mem ?_ (List.nodup_iff_pairwise_ne.1 (boxes_nodup hm))
    intro x y hx hy hne he
    refine hne ?_
    rw [← (add_neg hm ((box_dig hm x).1 hx) hb).2, ← (add_neg hm ((box_dig hm y).1 hy) hb).2, he]
  · rw [List.mem_map, box_dig hm]
    constructor
    · rintro ⟨x, hx, rfl⟩
      exact add_dig hm ((box_dig hm x).1 hx) hb
    · intro ha
      exact ⟨_, (box_dig hm _).2 (add_dig hm ha (neg_dig hm hb)), (add_neg hm ha hb).1⟩

/-- Members of a group of digits. -/
structure Grp (m L : Nat) (P : List Int → Bool) : Prop where
  zero : P (List.replicate L 0) = true
  add : ∀ a b, Dig m L a → Dig m L b → P b = true → P (addS (m : Int) a b) = P a
theorem Grp.low {m L : Nat} {P : List Int → Bool} (hm : 0 < m) (h : Grp m (L + 1) P) : Grp m L (fun l => P (l ++ [0])) := by
  have d0 : ∀ l, Dig m L l → Dig m (L + 1) (l ++ [0]) := fun l hl => ⟨by rw [List.length_append, hl.1]; rfl, fun d hd => by
    rcases List.mem_append.1 hd with hd | hd
    · exact hl.2 d hd
    · rw [List.mem_singleton.1 hd]; omega⟩
  refine ⟨?_, fun a b ha hb hP => ?_⟩
  · have := h.zero
    rwa [List.replicate_succ'] at this
  · have := h.add (a ++ [0]) (b ++ [0]) (d0 a ha) (d0 b hb) hP
    rw [add_snoc (by rw [ha.1, hb.1]), Int.add_zero, Int.zero_emod] at this
    exact this
theorem swap_count {α β γ : Type} (P : γ → Bool) (f : α → β → γ) (xs : List β) : ∀ ls : List α, ((ls.map fun l => xs.map (f l)).flatten).countP P = (xs.map fun x => ls.countP fun l => P (f l x)).sum
  | [] => by
    rw [List.map_nil, List.flatten_nil, List.countP_nil]
    induction xs with
    | nil => rfl
    | cons x xs ih => rw [List.map_cons, List.sum_cons, ← ih]; rfl
  | l :: ls => by
    rw [List.map_cons, List.flatten_cons, List.countP_append, swap_count P f xs ls]
    induction xs with
    | nil => rfl
    | cons x xs ih =>
      rw [List.map_cons, List.map_cons, List.map_cons, List.sum_cons, List.sum_cons, List.countP_cons, List.countP_cons]
      omega
theorem sum_if {β : Type} (g : β → Nat) (p : β → Bool) (c : Nat) : ∀ xs : List β, (∀ x ∈ xs, g x = if p x then c else 0) → (xs.map g).sum = c * xs.countP p
  | [], _ => by simp
  | x :: xs, h => by
    rw [List.map_cons, List.sum_cons, sum_if g p c xs (fun y hy => h y (List.mem_cons_of_mem _ hy)), h x List.mem_cons_self, List.countP_cons]
    cases p x
    · simp
    · simp [Nat.mul_add, Nat.add_comm]
/-- A group of digits below m, m at most four. -/
theorem small_dvd {m : Nat} (h1 : 1 ≤ m) (h4 : m ≤ 4) (p : Nat → Bool) (h0 : p 0 = true) (ha : ∀ x y, x < m → y < m → p x = true → p y = true → p ((x + y) % m) = true) : (List.range m).countP p ∣ m := by
  have : m = 1 ∨ m = 2 ∨ m = 3 ∨ m = 4 := by omega
  rcases this with rfl | rfl | rfl | rfl
  · simp [List.range_succ, h0]
  · cases e1 : p 1 <;> simp [List.range_succ, h0, e1]
  · have a1 := ha 1 1 (by omega) (by omega)
    have a2 := ha 2 2 (by omega) (by omega)
    have r1 : (1 + 1) % 3 = 2 := rfl
    have r2 : (2 + 2) % 3 = 1 := rfl
    rw [r1] at a1
    rw [r2] at a2
    cases e1 : p 1 <;> cases e2 : p 2 <;> simp_all [List.range_succ]
  · have a1 := ha 1 1 (by omega) (by omega)
    have a2 := ha 1 2 (by omega) (by omega)
    have a3 := ha 3 3 (by omega) (by omega)
    have a4 := ha 2 3 (by omega) (by omega)
    have r1 : (1 + 1) % 4 = 2 := rfl
    have r2 : (1 + 2) % 4 = 3 := rfl
    have r3 : (3 + 3) % 4 = 2 := rfl
    have r4 : (2 + 3) % 4 = 1 := rfl
    rw [r1] at a1
    rw [r2] at a2
    rw [r3] at a3
    rw [r4] at a4
    cases e1 : p 1 <;> cases e2 : p 2 <;> cases e3 : p 3 <;> simp_all [List.range_succ] <;> decide
theorem grp_dvd {m : Nat} (h1 : 1 ≤ m) (h4 : m ≤ 4) : ∀ (L : Nat) (P : List Int → Bool), Grp m L P → (boxes m L).countP P ∣ m ^ L
  | 0, P, h => by
    have := h.zero
    rw [boxes_zero]
    simp only [List.replicate_zero] at this
    simp [this]
  | L + 1, P, h => by
    have hl := h.low (by omega)
    have ih := grp_dvd h1 h4 L _ hl
    have hx1 : ∀ l x, Dig m L l → x < m → Dig m (L + 1) (l ++ [((x : Nat) : Int)]) := fun l x hl hx => ⟨by rw [List.length_append, hl.1]; rfl, fun d hd => by
      rcases List.mem_append.1 hd with hd | hd
      · exact hl.2 d hd
      · rw [List.mem_singleton.1 hd]; omega⟩
    obtain ⟨p, hp⟩ : ∃ p : Nat → Bool, p = fun x => (boxes m L).any fun l => P (l ++ [((x : Nat) : Int)]) := ⟨_, rfl⟩
    have hpx : ∀ x, p x = true ↔ ∃ l, Dig m L l ∧ P (l ++ [((x : Nat) : Int)]) = true := fun x => by
      rw [hp]
      simp only [List.any_eq_true]
      exact ⟨fun ⟨l, a, b⟩ => ⟨l, (box_dig (by omega) l).1 a, b⟩, fun ⟨l, a, b⟩ => ⟨l, (box_dig (by omega) l).2 a, b⟩⟩
    have hz : Dig m L (List.replicate L 0) := ⟨List.length_replicate, fun d hd => by rw [List.eq_of_mem_replicate hd]; omega⟩
    have hp0 : p 0 = true := (hpx 0).2 ⟨_, hz, hl.zero⟩
    have hpa : ∀ x y, x < m → y < m → p x = true → p y = true → p ((x + y) % m) = true := fun x y hx hy px py => by
      obtain ⟨a, a1, a2⟩ := (hpx x).1 px
      obtain ⟨b, b1, b2⟩ := (hpx y).1 py
      refine (hpx _).2 ⟨addS (m : Int) a b, add_dig (by omega) a1 b1, ?_⟩
      have := h.add _ _ (hx1 a x a1 hx) (hx1 b y b1 hy) b2
      rw [add_snoc (by rw [a1.1, b1.1]), a2] at this
      have e : (((x + y) % m : Nat) : Int) = ((x : Int) + (y : Int)) % (m : Int) := by rw [← Int.natCast_add, ← Int.natCast_emod]
      rw [e]
      exact this
    have hd := small_dvd h1 h4 p hp0 hpa
    rw [boxes_succ (by omega), swap_count P (fun (l : List Int) (x : Nat) => l ++ [((x : Nat) : Int)])]
    rw [sum_if _ p ((boxes m L).countP fun l => P (l ++ [0])) (List.range m) ?_, Nat.pow_succ]
    · exact Nat.mul_dvd_mul ih hd
    · intro x hx
      have hxm := List.mem_range.1 hx
      cases hpe : p x with
      | false =>
        simp only [Bool.false_eq_true, if_false]
        rw [List.countP_eq_zero]
        intro l hlm hPl
        have := (hpx x).2 ⟨l, (box_dig (by omega) l).1 hlm, hPl⟩
        rw [hpe] at this
        cases this
      | true =>
        simp only [if_true]
        obtain ⟨b, b1, b2⟩ := (hpx x).1 hpe
        rw [← (boxes_turn (by omega) b1).countP_eq, List.countP_map]
        apply List.countP_congr
        intro l hlm
        have hld := (box_dig (by omega) l).1 hlm
        have := h.add (l ++ [0]) (b ++ [((x : Nat) : Int)]) (by have := hx1 l 0 hld (by omega); exact this) (hx1 b x b1 hxm) b2
        rw [add_snoc (by rw [hld.1, b1.1]), Int.zero_add, Int.emod_eq_of_lt (by omega) (by omega)] at this
        simp only [Function.comp]
        rw [this]

theorem wsum_zero (L : Nat) (bs : List UInt8) : wsum (List.replicate L 0) bs = 0 := by
  unfold wsum
  induction bs with
  | nil => rfl
  | cons b bs ih =>
    rw [List.map_cons, List.sum_cons, ih, List.getD_eq_getElem?_getD, List.getElem?_replicate]
    split <;> simp
theorem wsum_add {m : Int} {a b : List Int} (h : a.length = b.length) (bs : List UInt8) : wsum (addS m a b) bs % m = (wsum a bs + wsum b bs) % m := by
  unfold wsum
  induction bs with
  | nil => simp
  | cons c bs ih =>
    rw [List.map_cons, List.sum_cons, List.map_cons, List.sum_cons, List.map_cons, List.sum_cons]
    have e : (addS m a b).getD (c.toNat - 97) 0 % m = (a.getD (c.toNat - 97) 0 + b.getD (c.toNat - 97) 0) % m := by
      unfold addS
      rw [List.getD_eq_getElem?_getD, List.getD_eq_getElem?_getD, List.getD_eq_getElem?_getD, List.getElem?_zipWith]
      rcases Nat.lt_or_ge (c.toNat - 97) a.length with hl | hl
      · rw [List.getElem?_eq_getElem hl, List.getElem?_eq_getElem (h ▸ hl)]
        simp [Int.emod_emod_of_dvd]
      · rw [List.getElem?_eq_none hl, List.getElem?_eq_none (h ▸ hl)]
        simp
    rw [Int.add_emod, e, ih, ← Int.add_emod]
    congr 1
    omega
theorem keeps_grp (m L : Nat) (rs : List RuleT) : Grp m L (fun ws => keepsAll (m : Int) ws rs) := by
  constructor
  · unfold keepsAll
    rw [List.all_eq_true]
    intro r _
    unfold keepR weightV
    rw [wsum_zero, wsum_zero]
    simp
  · intro a b ha hb hP
    unfold keepsAll at hP ⊢
    rw [Bool.eq_iff_iff, List.all_eq_true, List.all_eq_true]
    rw [List.all_eq_true] at hP
    refine forall_congr' fun r => forall_congr' fun hr => ?_
    have hb2 := hP r hr
    unfold keepR weightV at hb2 ⊢
    rw [decide_eq_true_eq] at hb2 ⊢
    have hl : a.length = b.length := by rw [ha.1, hb.1]
    rw [wsum_add hl, wsum_add hl, decide_eq_true_eq]
    constructor
    · intro e
      have h1 : (wsum a r.1.data.toList + wsum b r.1.data.toList - wsum b r.1.data.toList) % (m : Int) = (wsum a r.2.data.toList + wsum b r.2.data.toList - wsum b r.2.data.toList) % (m : Int) := by
        rw [Int.sub_emod, e, hb2, ← Int.sub_emod]
      rwa [Int.add_sub_cancel, Int.add_sub_cancel] at h1
    · intro e
      rw [Int.add_emod, e, hb2, ← Int.add_emod]
/-- How many weights are kept. -/
theorem kept_dvd {L m : Nat} {rs : List RuleT} (hro : rulesOk (L : Int) rs = true) (h1 : 1 ≤ m) (h4 : m ≤ 4) : 1 ≤ cwN (L : Int) rs (m : Int) ∧ ∃ q : Nat, ((m : Int) ^ L) = cwN (L : Int) rs (m : Int) * (q : Int) := by
  have e : cwN (L : Int) rs (m : Int) = ((boxes m L).countP (fun ws => keepsAll (m : Int) ws rs) : Nat) := by
    unfold cwN keptL
    rw [hro, decide_eq_true (by omega : (1 : Int) ≤ (m : Int)), decide_eq_true (by omega : (m : Int) ≤ 6), Int.toNat_natCast, Int.toNat_natCast, List.countP_eq_length_filter]
    rfl
  rw [e]
  have hg := keeps_grp m L rs
  obtain ⟨q, hq⟩ := grp_dvd h1 h4 L _ hg
  have hz : List.replicate L 0 ∈ boxes m L := (box_dig (by omega) _).2 ⟨List.length_replicate, fun d hd => by rw [List.eq_of_mem_replicate hd]; omega⟩
  have hp : 0 < (boxes m L).countP (fun ws => keepsAll (m : Int) ws rs) := List.countP_pos_iff.2 ⟨_, hz, hg.zero⟩
  refine ⟨by omega, q, ?_⟩
  rw [← Int.natCast_pow, hq, Int.natCast_mul]

end Go.Proofs.Ytidmbeeadbedaaa
