/- Plain words for the law FnSearch: the search tells distances, which are the same both ways and obey the triangle. No walk, no condition. -/
import Derived.Test.YtidmbeeadbedaaaShort
import Derived.Test.YtidmbeeadbedaaaMg11
import Derived.Test.YtidmbeeadbedaaaFwP
import Derived.Test.YtidmbeeadbedaaaMg14
namespace Go.Proofs.Ytidmbeeadbedaaa
open Go.RowKit Go.Shelf

theorem lk_in {rs : List RuleT} {s : ByteArray} {lim : Int} {k p : Nat} {b : Bool} (hk : k < rs.length) (hp : p ≤ s.size) (h1 : linkOk rs s ((k : Int), (p : Int), b) = true) (h2 : ((linkS rs s ((k : Int), (p : Int), b)).size : Int) ≤ lim) : ((k : Int), (p : Int), b) ∈ lkAll rs s lim := by
  unfold lkAll lkAcc
  refine List.mem_flatMap.2 ⟨p, List.mem_range.2 (by omega), ?_⟩
  unfold lkRow
  refine List.mem_flatMap.2 ⟨k, List.mem_range.2 hk, ?_⟩
  unfold lkCell
  cases b with
  | false =>
    refine List.mem_map.2 ⟨0, List.mem_filter.2 ⟨by simp, ?_⟩, rfl⟩
    unfold lkHit
    rw [Bool.and_eq_true, decide_eq_true_eq]
    exact ⟨h1, h2⟩
  | true =>
    refine List.mem_map.2 ⟨1, List.mem_filter.2 ⟨by simp, ?_⟩, rfl⟩
    unfold lkHit
    rw [Bool.and_eq_true, decide_eq_true_eq]
    exact ⟨h1, h2⟩
/-- A link's parts. -/
theorem link_parts {rs : List RuleT} {s : ByteArray} {x : LinkT} (h : linkOk rs s x = true) : ∃ (k p : Nat) (b : Bool) (a c : WL), x = ((k : Int), (p : Int), b) ∧ k < rs.length ∧ p = a.length ∧ s.data.toList = a ++ (linkFrom rs x).data.toList ++ c ∧ (linkS rs s x).data.toList = a ++ (linkTo rs x).data.toList ++ c := by
  have hh : linkHit rs s x = true := by unfold linkOk at h; rw [Bool.and_eq_true] at h; exact h.1
  obtain ⟨e1, e2⟩ := link_yes hh
  rw [e1] at h
  rw [e2]
  unfold linkHit at hh
  simp only [Bool.and_eq_true] at hh
  obtain ⟨⟨b1, b2⟩, b3⟩ := hh
  have i1 := inB_out b1.symm
  have i2 := inB_out b2.symm
  obtain ⟨hle, hp⟩ := has_parts b3
  obtain ⟨x0, x1, b⟩ := x
  dsimp only at *
  obtain ⟨k, rfl⟩ : ∃ k : Nat, x0 = (k : Int) := ⟨x0.toNat, by omega⟩
  obtain ⟨p, rfl⟩ : ∃ p : Nat, x1 = (p : Int) := ⟨x1.toNat, by omega⟩
  rw [Int.toNat_natCast] at hp hle
  refine ⟨k, p, b, _, _, rfl, by omega, ?_, hp, replS_bytes h⟩
  rw [take_extract, List.length_take, bytes_len]
  omega
theorem link_mk {rs : List RuleT} {s : ByteArray} {k : Nat} {b : Bool} {a c : WL} (hk : k < rs.length) (h : s.data.toList = a ++ (linkFrom rs ((k : Int), (a.length : Int), b)).data.toList ++ c) (hs : s.size - (linkFrom rs ((k : Int), (a.length : Int), b)).size + (linkTo rs ((k : Int), (a.length : Int), b)).size ≤ 16) :
    linkOk rs s ((k : Int), (a.length : Int), b) = true ∧ (linkS rs s ((k : Int), (a.length : Int), b)).data.toList = a ++ (linkTo rs ((k : Int), (a.length : Int), b)).data.toList ++ c := by
  have h1 := bytes_len s
  have h0 := h
  rw [h, List.length_append, List.length_append, bytes_len] at h1
  have hh : linkHit rs s ((k : Int), (a.length : Int), b) = true := by
    unfold linkHit inB
    simp only [Bool.and_eq_true, decide_eq_true_eq]
    exact ⟨⟨⟨by omega, by omega⟩, by omega, by omega⟩, by rw [Int.toNat_natCast]; exact hasAt_parts h0⟩
  obtain ⟨e1, e2⟩ := link_yes hh
  rw [e1, e2]
  have ho : replOk s (((a.length : Nat) : Int)) ((linkFrom rs ((k : Int), (a.length : Int), b)).size : Nat) (linkTo rs ((k : Int), (a.length : Int), b)) = true := repl_ok (by omega) hs
  exact ⟨ho, repl_parts h0 ho⟩
/-- From the word behind a link there is a link back. -/
theorem link_back {rs : List RuleT} {s : ByteArray} {lim : Int} {x : LinkT} (hs : s.size ≤ 16) (hl : (s.size : Int) ≤ lim) (h : linkOk rs s x = true) : ∃ y ∈ lkAll rs (linkS rs s x) lim, linkS rs (linkS rs s x) y = s ∧ y = (x.1, x.2.1, !x.2.2) ∧ linkOk rs (linkS rs s x) y = true := by
  obtain ⟨k, p, b, a, c, rfl, hk, rfl, h1, h2⟩ := link_parts h
  have f1 : linkFrom rs ((k : Int), (a.length : Int), !b) = linkTo rs ((k : Int), (a.length : Int), b) := by cases b <;> rfl
  have f2 : linkTo rs ((k : Int), (a.length : Int), !b) = linkFrom rs ((k : Int), (a.length : Int), b) := by cases b <;> rfl
  obtain ⟨v, hv⟩ : ∃ v, v = linkS rs s ((k : Int), (a.length : Int), b) := ⟨_, rfl⟩
  rw [← hv] at h2 ⊢
  have l1 := bytes_len s
  have l2 := bytes_len v
  rw [h1, List.length_append, List.length_append, bytes_len] at l1
  rw [h2, List.length_append, List.length_append, bytes_len] at l2
  obtain ⟨o1, o2⟩ := link_mk (rs := rs) (s := v) (k := k) (b := !b) (a := a) (c := c) hk (by rw [f1]; exact h2) (by rw [f1, f2]; omega)
  have e : linkS rs v ((k : Int), (a.length : Int), !b) = s := bytes_inj (by rw [o2, f2, h1])
  exact ⟨_, lk_in hk (by omega) o1 (by rw [e]; exact hl), e, rfl, o1⟩

/-- There is a way of n links from u to v over words of at most lim letters. -/
inductive WayF (rs : List RuleT) (lim : Int) (u : ByteArray) : Nat → ByteArray → Prop
  | refl : WayF rs lim u 0 u
  | step {n : Nat} {v : ByteArray} {x : LinkT} : WayF rs lim u n v → x ∈ lkAll rs v lim → WayF rs lim u (n + 1) (linkS rs v x)
abbrev Way (rs : List RuleT) (lim : Int) (n : Nat) (u v : ByteArray) : Prop := WayF rs lim u n v
theorem Way.refl {rs : List RuleT} {lim : Int} (u : ByteArray) : Way rs lim 0 u u := WayF.refl
theorem Way.step {rs : List RuleT} {lim : Int} {n : Nat} {u v : ByteArray} {x : LinkT} (h : Way rs lim n u v) (hx : x ∈ lkAll rs v lim) : Way rs lim (n + 1) u (linkS rs v x) := WayF.step h hx
theorem WayF.trans {rs : List RuleT} {lim : Int} {n m : Nat} {u v w : ByteArray} (h : Way rs lim n u v) (k : Way rs lim m v w) : Way rs lim (n + m) u w := by
  induction k with
  | refl => exact h
  | step _ hx ih => exact .step ih hx
theorem WayF.size {rs : List RuleT} {lim : Int} {n : Nat} {u v : ByteArray} (h : Way rs lim n u v) (hu : (u.size : Int) ≤ lim) : (v.size : Int) ≤ lim := by
  induction h with
  | refl => exact hu
  | step _ hx _ => exact (lk_mem hx).2
theorem WayF.back {rs : List RuleT} {lim : Int} (hl : lim ≤ 8) {n : Nat} {u v : ByteArray} (h : Way rs lim n u v) (hu : (u.size : Int) ≤ lim) : Way rs lim n v u := by
  induction h with
  | refl => exact .refl _
  | @step n v x h hx ih =>
    have hv := WayF.size h hu
    obtain ⟨y, hy, e, -, -⟩ := link_back (lim := lim) (by omega) hv (lk_mem hx).1
    have w1 : Way rs lim 1 (linkS rs v x) v := by
      have := Way.step (.refl (linkS rs v x)) hy
      rwa [e] at this
    have := WayF.trans w1 ih
    rwa [Nat.add_comm] at this

/-- How the search's list stands before the a-th word is looked at. -/
structure SrInv (rs : List RuleT) (lim : Int) (a : Nat) (S : List SrT) : Prop where
  mono : ∀ i j, i ≤ j → j < S.length → (srAt S i).2.2.2 ≤ (srAt S j).2.2.2
  near : ∀ j, j < S.length → a < S.length → (srAt S j).2.2.2 ≤ (srAt S a).2.2.2 + 1
  done : ∀ i, i < a → i < S.length → ∀ x ∈ lkAll rs (srAt S i).1 lim, ∃ k, k < S.length ∧ (srAt S k).1 = linkS rs (srAt S i).1 x ∧ (srAt S k).2.2.2 ≤ (srAt S i).2.2.2 + 1
theorem srWords_at {S : List SrT} {i : Nat} {s : ByteArray} (h : (srWords S)[i]? = some s) : i < S.length ∧ (srAt S i).1 = s := by
  unfold srWords at h
  rw [List.getElem?_map] at h
  cases hg : S[i]? with
  | none => rw [hg] at h; cases h
  | some z =>
    rw [hg] at h
    injection h with h
    refine ⟨(List.getElem?_eq_some_iff.1 hg).1, ?_⟩
    unfold srAt
    rw [List.getD_eq_getElem?_getD, hg]
    exact h
/-- Within the a-th round: the list stays in order, and the links told so far are there. -/
theorem srRow_inv {rs : List RuleT} {a : Nat} : ∀ (xs : List LinkT) (S : List SrT), a < S.length →
    (∀ i j, i ≤ j → j < S.length → (srAt S i).2.2.2 ≤ (srAt S j).2.2.2) → (∀ j, j < S.length → (srAt S j).2.2.2 ≤ (srAt S a).2.2.2 + 1) →
    ∃ T, srRow rs a S xs = S ++ T ∧ (∀ i j, i ≤ j → j < (S ++ T).length → (srAt (S ++ T) i).2.2.2 ≤ (srAt (S ++ T) j).2.2.2) ∧ (∀ j, j < (S ++ T).length → (srAt (S ++ T) j).2.2.2 ≤ (srAt S a).2.2.2 + 1) ∧
      ∀ x ∈ xs, ∃ k, k < (S ++ T).length ∧ (srAt (S ++ T) k).1 = linkS rs (srAt S a).1 x
  | [], S, ha, h1, h2 => ⟨[], by rw [List.append_nil]; rfl, by rw [List.append_nil]; exact h1, by rw [List.append_nil]; exact h2, fun x hx => by cases hx⟩
  | x :: xs, S, ha, h1, h2 => by
    have e : srRow rs a S (x :: xs) = srRow rs a (srAdd rs a S x) xs := rfl
    rw [e]
    cases hf : fnd (srWords S) (linkS rs (srAt S a).1 x) with
    | some i =>
      rw [srAdd_some hf]
      obtain ⟨T, t1, t2, t3, t4⟩ := srRow_inv xs S ha h1 h2
      refine ⟨T, t1, t2, t3, fun y hy => ?_⟩
      rcases List.mem_cons.1 hy with rfl | hy
      · obtain ⟨k1, k2⟩ := srWords_at (fnd_at hf)
        exact ⟨i, by rw [List.length_append]; omega, by rw [srAt_app k1]; exact k2⟩
      · exact t4 y hy
    | none =>
      rw [srAdd_none hf]
      obtain ⟨z, hz⟩ : ∃ z, z = (linkS rs (srAt S a).1 x, (a : Int), x, (srAt S a).2.2.2 + 1) := ⟨_, rfl⟩
      rw [← hz]
      have la : srAt (S ++ [z]) a = srAt S a := srAt_app ha
      have at_ : ∀ j, j < (S ++ [z]).length → (j < S.length ∧ srAt (S ++ [z]) j = srAt S j) ∨ (j = S.length ∧ srAt (S ++ [z]) j = z) := fun j hj => by
        rw [List.length_append, List.length_singleton] at hj
        by_cases hlt : j < S.length
        · exact .inl ⟨hlt, srAt_app hlt⟩
        · have : j = S.length := by omega
          subst this
          exact .inr ⟨rfl, srAt_last S z⟩
      have hz4 : z.2.2.2 = (srAt S a).2.2.2 + 1 := by rw [hz]
      obtain ⟨T, t1, t2, t3, t4⟩ := srRow_inv (rs := rs) (a := a) xs (S ++ [z]) (by rw [List.length_append]; omega)
        (fun i j hij hj => by
          rcases at_ j hj with ⟨b1, b2⟩ | ⟨b1, b2⟩
          · rw [b2, srAt_app (by omega)]; exact h1 i j hij b1
          · rw [b2, hz4]
            rcases at_ i (by omega) with ⟨c1, c2⟩ | ⟨c1, c2⟩
            · rw [c2]; exact h2 i c1
            · rw [c2, hz4]; exact Int.le_refl _)
        (fun j hj => by
          rw [la]
          rcases at_ j hj with ⟨b1, b2⟩ | ⟨b1, b2⟩
          · rw [b2]; exact h2 j b1
          · rw [b2, hz4]; exact Int.le_refl _)
      rw [List.append_assoc] at t1 t2 t3 t4
      rw [la] at t3 t4
      refine ⟨[z] ++ T, t1, t2, t3, fun y hy => ?_⟩
      rcases List.mem_cons.1 hy with rfl | hy
      · refine ⟨S.length, by simp only [List.length_append, List.length_singleton]; omega, ?_⟩
        rw [← List.append_assoc, srAt_app (by rw [List.length_append]; simp), srAt_last S z, hz]
      · exact t4 y hy
theorem srGo_inv {l : Int} {rs : List RuleT} {lim : Int} (hro : rulesOk l rs = true) (hl : lim ≤ 8) : ∀ (f a : Nat) (S : List SrT), a + f = 131073 → srGood l S → SrInv rs lim a S → (∃ T, srGo rs lim f a S = S ++ T) ∧ SrInv rs lim (srGo rs lim f a S).length (srGo rs lim f a S)
  | 0, a, S, hf, hg, h => by
    have := srGood_len hg
    refine ⟨⟨[], by rw [List.append_nil]; rfl⟩, ?_⟩
    rw [srGo]
    exact ⟨h.mono, fun j _ hj => absurd hj (Nat.lt_irrefl _), fun i hi hi2 => h.done i (by omega) hi2⟩
  | f + 1, a, S, hf, hg, h => by
    rw [srGo]
    by_cases ha : a < S.length
    · rw [if_pos ha]
      obtain ⟨T, t1, t2, t3, t4⟩ := srRow_inv (rs := rs) (a := a) (lkAll rs (srAt S a).1 lim) S ha h.mono (fun j hj => h.near j hj ha)
      obtain ⟨hg2, -⟩ := srRow_good hro hl (lkAll rs (srAt S a).1 lim) S hg ha (fun _ hx => hx)
      rw [t1] at hg2 ⊢
      have hn : SrInv rs lim (a + 1) (S ++ T) := by
        refine ⟨t2, fun j hj ha1 => ?_, fun i hi hi2 x hx => ?_⟩
        · have h1 := t3 j hj
          have h2 := t2 a (a + 1) (by omega) ha1
          rw [srAt_app ha] at h2
          omega
        · by_cases hia : i < a
          · rw [srAt_app (by omega)] at hx ⊢
            obtain ⟨k, k1, k2, k3⟩ := h.done i hia (by omega) x hx
            exact ⟨k, by rw [List.length_append]; omega, by rw [srAt_app k1]; exact k2, by rw [srAt_app k1]; exact k3⟩
          · have : i = a := by omega
            subst this
            rw [srAt_app ha] at hx ⊢
            obtain ⟨k, k1, k2⟩ := t4 x hx
            exact ⟨k, k1, k2, t3 k k1⟩
      obtain ⟨⟨T2, e2⟩, h3⟩ := srGo_inv hro hl f (a + 1) (S ++ T) (by omega) hg2 hn
      exact ⟨⟨T ++ T2, by rw [e2, List.append_assoc]⟩, h3⟩
    · rw [if_neg ha]
      refine ⟨⟨[], by rw [List.append_nil]⟩, ?_⟩
      exact ⟨h.mono, fun j _ hj => absurd hj (Nat.lt_irrefl _), fun i hi hi2 => h.done i (by omega) hi2⟩
theorem srAll_inv {l : Int} {rs : List RuleT} {s : ByteArray} {lim : Int} (hro : rulesOk l rs = true) (hl : lim ≤ 8) (hg : good8 l s) : (∃ T, srAll rs s lim = (s, -1, (0, 0, false), 0) :: T) ∧ SrInv rs lim (srAll rs s lim).length (srAll rs s lim) := by
  have h0 : srGood l [(s, -1, (0, 0, false), 0)] := ⟨by simp [srWords], fun t ht => by simp [srWords] at ht; rw [ht]; exact hg, fun i hi => by
    have : i = 0 := by simp at hi; omega
    subst this
    exact ⟨Int.le_refl (0 : Int), Int.le_refl (0 : Int)⟩⟩
  obtain ⟨⟨T, e⟩, h⟩ := srGo_inv hro hl 131073 0 _ rfl h0 ⟨fun i j hij hj => by
    have h1 : j = 0 := by simp at hj; omega
    have h2 : i = 0 := by omega
    subst h1 h2
    exact Int.le_refl _, fun j hj _ => by
    have h1 : j = 0 := by simp at hj; omega
    subst h1
    omega, fun i hi => absurd hi (Nat.not_lt_zero _)⟩
  exact ⟨⟨T, e⟩, h⟩
/-- Every word on a way is in the list, and not further away than the way is long. -/
theorem sr_reach {l : Int} {rs : List RuleT} {s v : ByteArray} {lim : Int} {n : Nat} (hro : rulesOk l rs = true) (hl : lim ≤ 8) (hg : good8 l s) (h : Way rs lim n s v) : ∃ k, k < (srAll rs s lim).length ∧ (srAt (srAll rs s lim) k).1 = v ∧ (srAt (srAll rs s lim) k).2.2.2 ≤ n := by
  obtain ⟨⟨T, e⟩, hI⟩ := srAll_inv hro hl hg
  induction h with
  | refl => exact ⟨0, by rw [e]; simp, by rw [e]; rfl, by rw [e]; exact Int.le_refl _⟩
  | @step n v x _ hx ih =>
    obtain ⟨k, k1, k2, k3⟩ := ih
    rw [← k2] at hx
    obtain ⟨j, j1, j2, j3⟩ := hI.done k k1 k1 x hx
    exact ⟨j, j1, by rw [j2, k2], by omega⟩

/-- Every word but the first one was reached by a link from an earlier one. -/
def srPar (rs : List RuleT) (lim : Int) (S : List SrT) : Prop := ∀ i, i < S.length → (i = 0 ∧ (srAt S i).2.2.2 = 0) ∨ ∃ j, j < i ∧ (srAt S i).2.1 = (j : Int) ∧ (srAt S i).2.2.1 ∈ lkAll rs (srAt S j).1 lim ∧ (srAt S i).1 = linkS rs (srAt S j).1 (srAt S i).2.2.1 ∧ (srAt S i).2.2.2 = (srAt S j).2.2.2 + 1
theorem srPar_row {rs : List RuleT} {lim : Int} {a : Nat} {w : ByteArray} : ∀ (xs : List LinkT) (S : List SrT), a < S.length → (srAt S a).1 = w → (∀ x ∈ xs, x ∈ lkAll rs w lim) → srPar rs lim S → srPar rs lim (srRow rs a S xs)
  | [], _, _, _, _, h => h
  | x :: xs, S, ha, hw, hx, h => by
    have e : srRow rs a S (x :: xs) = srRow rs a (srAdd rs a S x) xs := rfl
    rw [e]
    cases hf : fnd (srWords S) (linkS rs (srAt S a).1 x) with
    | some i =>
      rw [srAdd_some hf]
      exact srPar_row xs S ha hw (fun y hy => hx y (List.mem_cons_of_mem _ hy)) h
    | none =>
      rw [srAdd_none hf]
      obtain ⟨z, hz⟩ : ∃ z, z = (linkS rs (srAt S a).1 x, (a : Int), x, (srAt S a).2.2.2 + 1) := ⟨_, rfl⟩
      rw [← hz]
      refine srPar_row xs (S ++ [z]) (by rw [List.length_append]; omega) (by rw [srAt_app ha]; exact hw) (fun y hy => hx y (List.mem_cons_of_mem _ hy)) ?_
      intro i hi
      rw [List.length_append, List.length_singleton] at hi
      by_cases hlt : i < S.length
      · rw [srAt_app hlt]
        rcases h i hlt with h1 | ⟨j, h1, h2, h3, h4, h5⟩
        · exact .inl h1
        · exact .inr ⟨j, h1, h2, by rw [srAt_app (by omega)]; exact h3, by rw [srAt_app (by omega)]; exact h4, by rw [srAt_app (by omega)]; exact h5⟩
      · have : i = S.length := by omega
        subst this
        rw [srAt_last S z]
        refine .inr ⟨a, ha, by rw [hz], ?_, ?_, ?_⟩
        · rw [srAt_app ha, hz, hw]; exact hx x List.mem_cons_self
        · rw [srAt_app ha, hz]
        · rw [srAt_app ha, hz]
theorem srPar_go {rs : List RuleT} {lim : Int} : ∀ (f a : Nat) (S : List SrT), srPar rs lim S → srPar rs lim (srGo rs lim f a S)
  | 0, _, _, h => h
  | f + 1, a, S, h => by
    rw [srGo]
    split
    · next hlt => exact srPar_go f (a + 1) _ (srPar_row _ S hlt rfl (fun _ hx => hx) h)
    · exact h
theorem srAll_par (rs : List RuleT) (s : ByteArray) (lim : Int) : srPar rs lim (srAll rs s lim) := srPar_go _ _ _ (fun i hi => by
  have : i = 0 := by simp at hi; omega
  subst this
  exact .inl ⟨rfl, rfl⟩)
theorem sr_way {l : Int} {rs : List RuleT} {s : ByteArray} {lim : Int} (hro : rulesOk l rs = true) (hl : lim ≤ 8) (hg : good8 l s) : ∀ (n i : Nat), i < n → i < (srAll rs s lim).length → Way rs lim (srAt (srAll rs s lim) i).2.2.2.toNat s (srAt (srAll rs s lim) i).1 := by
  obtain ⟨⟨T, e⟩, -⟩ := srAll_inv hro hl hg
  have hG := srAll_good (rs := rs) hro hl hg
  have hp := srAll_par rs s lim
  intro n
  induction n with
  | zero => intro i h; exact absurd h (Nat.not_lt_zero _)
  | succ n ih =>
    intro i hin hi
    rcases hp i hi with ⟨h1, h2⟩ | ⟨j, h1, h2, h3, h4, h5⟩
    · subst h1
      rw [h2]
      have e0 : (srAt (srAll rs s lim) 0).1 = s := by rw [e]; rfl
      rw [e0]
      exact .refl _
    · have w := ih j (by omega) (by omega)
      have h0 := (hG.2.2 j (by omega)).1
      rw [h4, h5]
      have e1 : ((srAt (srAll rs s lim) j).2.2.2 + 1).toNat = (srAt (srAll rs s lim) j).2.2.2.toNat + 1 := by omega
      rw [e1]
      exact .step w h3

/-- A word that the search takes. -/
def In15 (l : Int) (rs : List RuleT) (lim : Int) (s : ByteArray) : Prop := searched l rs s lim = true
theorem In15.out {l : Int} {rs : List RuleT} {lim : Int} {s : ByteArray} (h : In15 l rs lim s) : rulesOk l rs = true ∧ good8 l s ∧ lim ≤ 8 ∧ searchOk l rs lim = true ∧ word15 l s lim = true ∧ wordOk l s = true ∧ (s.size : Int) ≤ lim := by
  unfold In15 searched at h
  rw [Bool.and_eq_true] at h
  obtain ⟨a, b, c⟩ := searched_out h.1 h.2
  have h2 := h.2
  unfold word15 at h2
  rw [Bool.and_eq_true, decide_eq_true_eq] at h2
  exact ⟨a, b, c, h.1, h.2, h2.1, h2.2⟩
theorem In15.mk {l : Int} {rs : List RuleT} {lim : Int} {s : ByteArray} (h1 : searchOk l rs lim = true) (h2 : wordOk l s = true) (h3 : (s.size : Int) ≤ lim) : In15 l rs lim s := by
  unfold In15 searched word15
  rw [h1, h2, decide_eq_true h3]; rfl
theorem dist_eq {l : Int} {rs : List RuleT} {lim : Int} {u v : ByteArray} (hu : In15 l rs lim u) (hv : In15 l rs lim v) : distB l rs u v lim = match fnd (srWords (srAll rs u lim)) v with
  | some i => (srAt (srAll rs u lim) i).2.2.2
  | none => -1 := by
  obtain ⟨-, -, -, a, b, -⟩ := hu.out
  obtain ⟨-, -, -, -, c, -⟩ := hv.out
  unfold distB
  rw [a, b, c]
  rfl
/-- A way tells a distance. -/
theorem way_dist {l : Int} {rs : List RuleT} {lim : Int} {u v : ByteArray} {n : Nat} (hu : In15 l rs lim u) (hv : In15 l rs lim v) (h : Way rs lim n u v) : 0 ≤ distB l rs u v lim ∧ distB l rs u v lim ≤ n := by
  obtain ⟨hro, hg, hl, -⟩ := hu.out
  obtain ⟨k, k1, k2, k3⟩ := sr_reach hro hl hg h
  have hG := srAll_good (rs := rs) hro hl hg
  have hf := sr_find hG k1
  rw [k2] at hf
  rw [dist_eq hu hv, hf]
  exact ⟨(hG.2.2 k k1).1, k3⟩
/-- A distance tells a way. -/
theorem dist_way {l : Int} {rs : List RuleT} {lim : Int} {u v : ByteArray} (hu : In15 l rs lim u) (hv : In15 l rs lim v) (h : 0 ≤ distB l rs u v lim) : Way rs lim (distB l rs u v lim).toNat u v := by
  obtain ⟨hro, hg, hl, -⟩ := hu.out
  rw [dist_eq hu hv] at h ⊢
  cases hf : fnd (srWords (srAll rs u lim)) v with
  | none => rw [hf] at h; exact absurd h (by simp)
  | some i =>
    obtain ⟨k1, k2⟩ := srWords_at (fnd_at hf)
    have := sr_way hro hl hg (i + 1) i (by omega) k1
    rwa [k2] at this
theorem dist_sym {l : Int} {rs : List RuleT} {lim : Int} {u v : ByteArray} (hu : In15 l rs lim u) (hv : In15 l rs lim v) (h : 0 ≤ distB l rs u v lim) : distB l rs v u lim = distB l rs u v lim := by
  have hl := hu.out.2.2.1
  have w1 := (dist_way hu hv h).back hl hu.out.2.2.2.2.2.2
  obtain ⟨a1, a2⟩ := way_dist hv hu w1
  have w2 := (dist_way hv hu a1).back hl hv.out.2.2.2.2.2.2
  obtain ⟨b1, b2⟩ := way_dist hu hv w2
  omega
theorem dist_tri {l : Int} {rs : List RuleT} {lim : Int} {u v w : ByteArray} (hu : In15 l rs lim u) (hv : In15 l rs lim v) (hw : In15 l rs lim w) (h1 : 0 ≤ distB l rs u v lim) (h2 : 0 ≤ distB l rs v w lim) : 0 ≤ distB l rs u w lim ∧ distB l rs u w lim ≤ distB l rs u v lim + distB l rs v w lim := by
  obtain ⟨a, b⟩ := way_dist hu hw ((dist_way hu hv h1).trans (dist_way hv hw h2))
  exact ⟨a, by omega⟩
/-- The words of the list are those to which there is a way. -/
theorem eq_mem {l : Int} {rs : List RuleT} {lim : Int} {u v : ByteArray} (hu : In15 l rs lim u) : v ∈ eqL l rs u lim ↔ ∃ n, Way rs lim n u v := by
  obtain ⟨hro, hg, hl, -⟩ := hu.out
  unfold eqL
  rw [if_pos (show searched l rs u lim = true from hu), (srtW_perm _).mem_iff]
  constructor
  · intro h
    obtain ⟨i, hi, e⟩ := List.mem_iff_getElem.1 h
    obtain ⟨k1, k2⟩ := srWords_at (List.getElem?_eq_some_iff.2 ⟨hi, e⟩)
    have := sr_way hro hl hg (i + 1) i (by omega) k1
    rw [k2] at this
    exact ⟨_, this⟩
  · rintro ⟨n, h⟩
    obtain ⟨k, k1, k2, -⟩ := sr_reach hro hl hg h
    rw [← k2]
    exact srAt_word k1
theorem eq_in {l : Int} {rs : List RuleT} {lim : Int} {u v : ByteArray} (hu : In15 l rs lim u) (h : v ∈ eqL l rs u lim) : In15 l rs lim v ∧ 0 ≤ distB l rs u v lim := by
  obtain ⟨hro, hg, hl, hs, -, hw, hz⟩ := hu.out
  obtain ⟨n, w⟩ := (eq_mem hu).1 h
  have hv : In15 l rs lim v := by
    unfold eqL at h
    rw [if_pos (show searched l rs u lim = true from hu), (srtW_perm _).mem_iff] at h
    have g := (srAll_good (rs := rs) hro hl hg).2.1 v h
    exact In15.mk hs (wordOk_mk (wordOk_out hw).1 g.1 (by have := g.2.2; omega) g.2.1) (w.size hz)
  exact ⟨hv, (way_dist hu hv w).1⟩
theorem eq_self {l : Int} {rs : List RuleT} {lim : Int} {u : ByteArray} (hu : In15 l rs lim u) : u ∈ eqL l rs u lim := (eq_mem hu).2 ⟨0, .refl u⟩
theorem perm_of_nodup {α : Type} [DecidableEq α] {xs ys : List α} (hx : xs.Nodup) (hy : ys.Nodup) (h : ∀ a, a ∈ xs ↔ a ∈ ys) : xs.Perm ys := by
  rw [List.perm_iff_count]
  intro a
  by_cases ha : a ∈ xs
  · rw [List.Nodup.count hx, List.Nodup.count hy, if_pos ha, if_pos ((h a).1 ha)]
  · rw [List.count_eq_zero_of_not_mem ha, List.count_eq_zero_of_not_mem (fun hb => ha ((h a).2 hb))]
theorem eq_nodup {l : Int} {rs : List RuleT} {lim : Int} {u : ByteArray} (hu : In15 l rs lim u) : (eqL l rs u lim).Nodup := by
  obtain ⟨hro, hg, hl, -⟩ := hu.out
  unfold eqL
  rw [if_pos (show searched l rs u lim = true from hu)]
  exact (srtW_perm _).nodup_iff.2 (srAll_good (rs := rs) hro hl hg).1
theorem eq_sorted {l : Int} {rs : List RuleT} {lim : Int} {u : ByteArray} (hu : In15 l rs lim u) : (eqL l rs u lim).Pairwise leW := by
  unfold eqL
  rw [if_pos (show searched l rs u lim = true from hu)]
  exact srtW_sorted _
theorem eq_same {l : Int} {rs : List RuleT} {lim : Int} {u v : ByteArray} (hu : In15 l rs lim u) (h : v ∈ eqL l rs u lim) : eqL l rs v lim = eqL l rs u lim := by
  obtain ⟨hv, -⟩ := eq_in hu h
  obtain ⟨n, w⟩ := (eq_mem hu).1 h
  have hl := hu.out.2.2.1
  have wb := w.back hl hu.out.2.2.2.2.2.2
  refine sorted_one (perm_of_nodup (eq_nodup hv) (eq_nodup hu) fun a => ?_) (eq_sorted hv) (eq_sorted hu)
  rw [eq_mem hv, eq_mem hu]
  exact ⟨fun ⟨m, k⟩ => ⟨_, w.trans k⟩, fun ⟨m, k⟩ => ⟨_, wb.trans k⟩⟩
theorem eq_less {l : Int} {rs : List RuleT} {lim : Int} {u : ByteArray} (hu : In15 l rs lim u) {i : Nat} (hi : i + 1 < (eqL l rs u lim).length) : lessW ((eqL l rs u lim)[i]'(by omega)) (eqL l rs u lim)[i + 1] = true := by
  have h1 : leW ((eqL l rs u lim)[i]'(by omega)) (eqL l rs u lim)[i + 1] := List.pairwise_iff_getElem.1 (eq_sorted hu) i (i + 1) _ _ (by omega)
  cases h : lessW ((eqL l rs u lim)[i]'(by omega)) (eqL l rs u lim)[i + 1] with
  | true => rfl
  | false =>
    have e := lessW_total _ _ h h1
    have hn := List.nodup_iff_pairwise_ne.1 (eq_nodup hu)
    exact absurd e (List.pairwise_iff_getElem.1 hn i (i + 1) (by omega) hi (by omega))

/-- The furthest word is as far as any. -/
theorem fw_max {S : List SrT} : ∀ (j i : Nat), i < j → j ≤ S.length → (srAt S i).2.2.2 ≤ (srAt S (fwTo S j)).2.2.2
  | 0, i, h, _ => absurd h (Nat.not_lt_zero _)
  | j + 1, i, h, hj => by
    rw [fwTo, fwStep]
    have h0 : i < j → (srAt S i).2.2.2 ≤ (srAt S (fwTo S j)).2.2.2 := fun hi => fw_max j i hi (by omega)
    split
    · next hc =>
      by_cases hi : i < j
      · have := h0 hi
        rcases hc with hc | ⟨hc, -⟩ <;> omega
      · have : i = j := by omega
        subst this; exact Int.le_refl _
    · next hc =>
      by_cases hi : i < j
      · exact h0 hi
      · have : i = j := by omega
        subst this
        have := fun h => hc (Or.inl h)
        omega
theorem fw_in {l : Int} {rs : List RuleT} {lim : Int} {u : ByteArray} (hu : In15 l rs lim u) : In15 l rs lim (fwS l rs u lim) ∧ distB l rs u (fwS l rs u lim) lim = fwF l rs u lim ∧ ∀ x ∈ eqL l rs u lim, distB l rs u x lim ≤ fwF l rs u lim := by
  obtain ⟨hro, hg, hl, -⟩ := hu.out
  have hG := srAll_good (rs := rs) hro hl hg
  have h1 : fwAt rs u lim < (srAll rs u lim).length := fwTo_lt (srAll_pos rs u lim) (srAll rs u lim).length (Nat.le_refl _)
  have e1 : fwS l rs u lim = (srAt (srAll rs u lim) (fwAt rs u lim)).1 := by unfold fwS; rw [if_pos (show searched l rs u lim = true from hu)]
  have e2 : fwF l rs u lim = (srAt (srAll rs u lim) (fwAt rs u lim)).2.2.2 := by unfold fwF; rw [if_pos (show searched l rs u lim = true from hu)]
  have hm : fwS l rs u lim ∈ eqL l rs u lim := by
    rw [e1]; unfold eqL
    rw [if_pos (show searched l rs u lim = true from hu), (srtW_perm _).mem_iff]
    exact srAt_word h1
  obtain ⟨a, -⟩ := eq_in hu hm
  refine ⟨a, ?_, fun x hx => ?_⟩
  · rw [dist_eq hu a, e1, sr_find hG h1, e2]
  · obtain ⟨b, b0⟩ := eq_in hu hx
    rw [dist_eq hu b] at b0 ⊢
    cases hf : fnd (srWords (srAll rs u lim)) x with
    | none => rw [hf] at b0; exact absurd b0 (by simp)
    | some i =>
      obtain ⟨k1, k2⟩ := srWords_at (fnd_at hf)
      rw [e2]
      exact fw_max _ i k1 (Nat.le_refl _)

/-- The chain that is told leads to the word. -/
theorem chRun_app {l : Int} {rs : List RuleT} {s : ByteArray} (xs : List LinkT) (x : LinkT) : chRun l rs s (xs ++ [x]) = chStep l rs (chRun l rs s xs) x := by unfold chRun; rw [List.foldl_append]; rfl
theorem back_chain {l : Int} {rs : List RuleT} {s : ByteArray} {lim : Int} (hro : rulesOk l rs = true) (hl : lim ≤ 8) (hg : good8 l s) : ∀ (k i : Nat), i < (srAll rs s lim).length → (srAt (srAll rs s lim) i).2.2.2 = (k : Int) → ∃ ws, chRun l rs s (srBack (srAll rs s lim) k i).reverse = some (ws, (srAt (srAll rs s lim) i).1) := by
  obtain ⟨⟨T, e⟩, -⟩ := srAll_inv hro hl hg
  have hG := srAll_good (rs := rs) hro hl hg
  have hp := srAll_par rs s lim
  intro k
  induction k with
  | zero =>
    intro i hi h0
    rcases hp i hi with ⟨h1, -⟩ | ⟨j, h1, h2, h3, h4, h5⟩
    · subst h1
      have e0 : (srAt (srAll rs s lim) 0).1 = s := by rw [e]; rfl
      rw [e0]
      exact ⟨[s], rfl⟩
    · have := (hG.2.2 j (by omega)).1
      omega
  | succ k ih =>
    intro i hi h0
    rcases hp i hi with ⟨h1, h2⟩ | ⟨j, h1, h2, h3, h4, h5⟩
    · omega
    · obtain ⟨ws, hw⟩ := ih j (by omega) (by omega)
      rw [srBack, List.reverse_cons, h2, Int.toNat_natCast, chRun_app, hw]
      obtain ⟨a1, a2⟩ := al_yes (s := (srAt (srAll rs s lim) j).1) (x := (srAt (srAll rs s lim) i).2.2.1) hro
      rw [chStep, a1, a2, (lk_mem h3).1, if_pos rfl, ← h4]
      exact ⟨_, rfl⟩
def G2 : Nat → Nat
  | 0 => 0
  | n + 1 => G2 n * 4 + 2
theorem G2_mono {n m : Nat} (h : n ≤ m) : G2 n ≤ G2 m := by
  induction m with
  | zero => rw [Nat.le_zero.1 h]; exact Nat.le_refl _
  | succ m ih =>
    rcases Nat.lt_or_ge n (m + 1) with h1 | h1
    · have := ih (by omega); rw [G2]; omega
    · rw [Nat.le_antisymm h h1]; exact Nat.le_refl _
theorem W4_le2 (bs : List UInt8) (h : ∀ b ∈ bs, 97 ≤ b.toNat ∧ b.toNat ≤ 98) : W4 bs ≤ G2 bs.length := by
  revert h
  refine snoc_ind (P := fun bs => (∀ b ∈ bs, 97 ≤ b.toNat ∧ b.toNat ≤ 98) → W4 bs ≤ G2 bs.length) (fun _ => Nat.le_refl _) (fun bs b ih h => ?_) _ bs rfl
  have h1 := ih (fun c hc => h c (List.mem_append_left _ hc))
  have h2 := h b (List.mem_append_right _ (List.mem_singleton.2 rfl))
  rw [W4_snoc, List.length_append, List.length_singleton, G2]
  omega
theorem letters_two {s : ByteArray} (h : lettersOk 2 s = true) : ∀ b ∈ s.data.toList, 97 ≤ b.toNat ∧ b.toNat ≤ 98 := fun b hb => by
  have := inB_out (List.all_eq_true.1 h b hb).symm
  omega
theorem words_few2 {ws : List ByteArray} (hn : ws.Nodup) (h : ∀ s ∈ ws, lettersOk 2 s = true ∧ s.size ≤ 4) : ws.length ≤ 171 := by
  have h1 := pig 171 (ws.map fun s => W4 s.data.toList) (by
    rw [List.nodup_iff_pairwise_ne] at *
    rw [List.pairwise_map]
    refine List.Pairwise.imp_of_mem ?_ hn
    intro a b ha hb hne he
    refine hne ?_
    exact bytes_inj (W4_inj _ _ (letters_in (by decide) (h a ha).1) (letters_in (by decide) (h b hb).1) he)) (by
    intro x hx
    obtain ⟨s, hs, rfl⟩ := List.mem_map.1 hx
    have h2 := W4_le2 _ (letters_two (h s hs).1)
    have h3 := (h s hs).2
    rw [bytes_len] at h2
    have h4 := G2_mono h3
    have h5 : G2 4 = 170 := rfl
    omega)
  rwa [List.length_map] at h1
theorem sr_few {rs : List RuleT} {u : ByteArray} {lim : Int} (hu : In15 2 rs lim u) (h4 : lim ≤ 4) : (srAll rs u lim).length ≤ 171 := by
  obtain ⟨hro, hg, hl, -, -, -, hz⟩ := hu.out
  rw [← srWords_len]
  refine words_few2 (srAll_good (rs := rs) hro hl hg).1 fun s hs => ?_
  obtain ⟨i, hi, e⟩ := List.mem_iff_getElem.1 hs
  obtain ⟨k1, k2⟩ := srWords_at (List.getElem?_eq_some_iff.2 ⟨hi, e⟩)
  have w := sr_way hro hl hg (i + 1) i (by omega) k1
  rw [k2] at w
  have := w.size hz
  exact ⟨((srAll_good (rs := rs) hro hl hg).2.1 s hs).2.1, by omega⟩
/-- What the shortest chain is. -/
theorem short_good {rs : List RuleT} {u v : ByteArray} {lim : Int} (hu : In15 2 rs lim u) (hv : In15 2 rs lim v) (h4 : lim ≤ 4) (h : 0 ≤ distB 2 rs u v lim) : shOk 2 rs u v lim = true ∧ ((shC 2 rs u v lim).length : Int) = distB 2 rs u v lim ∧ prOk 2 rs u v (shC 2 rs u v lim) = true := by
  have hd := dist_short 2 rs u v lim
  have hok : shOk 2 rs u v lim = true := by
    cases e : shOk 2 rs u v lim with
    | true => rfl
    | false => rw [e] at hd; rw [hd] at h; exact absurd h (by simp)
  rw [hok, if_pos rfl] at hd
  refine ⟨hok, hd.symm, ?_⟩
  obtain ⟨hro, hg, hl, -⟩ := hu.out
  have hG := srAll_good (rs := rs) hro hl hg
  have hd2 := dist_eq hu hv
  cases hf : fnd (srWords (srAll rs u lim)) v with
  | none => rw [hf] at hd2; rw [hd2] at h; exact absurd h (by simp)
  | some i =>
    rw [hf] at hd2
    obtain ⟨k1, k2⟩ := srWords_at (fnd_at hf)
    have hi := hG.2.2 i k1
    have hc : shC 2 rs u v lim = srChain (srAll rs u lim) i := by
      unfold shC shR
      rw [show searched 2 rs u lim = true from hu, show searched 2 rs v lim = true from hv, Bool.and_self, if_pos rfl, hf]
    obtain ⟨ws, hw⟩ := back_chain hro hl hg (srAt (srAll rs u lim) i).2.2.2.toNat i k1 (by omega)
    have hlen := srChain_len (srAll rs u lim) i
    have hfew := sr_few hu h4
    unfold prOk coSt
    rw [hc, if_pos (by rw [hlen]; omega)]
    unfold srChain
    rw [hw, k2]
    simp
/-- Where a word is at distance one there is a link. -/
theorem one_link {l : Int} {rs : List RuleT} {u v : ByteArray} {lim : Int} (hu : In15 l rs lim u) (hv : In15 l rs lim v) (h : distB l rs u v lim = 1) : 0 < (loL l rs u lim).length := by
  have w := dist_way hu hv (by omega)
  rw [h] at w
  obtain ⟨-, -, -, hs, -, hw, -⟩ := hu.out
  have e : loL l rs u lim = lkAll rs u lim := by
    unfold loL loOk
    rw [hs, hw]; rfl
  rw [e]
  have e1 : (1 : Int).toNat = 0 + 1 := rfl
  rw [e1] at w
  cases w with
  | step w hx =>
    cases w with
    | refl => exact List.length_pos_of_mem hx
theorem searchOk_two {rs : List RuleT} {m : Nat} (hro : rulesOk 2 rs = true) (h4 : m ≤ 4) : searchOk 2 rs (m : Int) = true := by
  unfold searchOk
  rw [hro, Int.toNat_natCast]
  have h1 : inB (m : Int) 0 8 = true := by
    unfold inB
    rw [Bool.and_eq_true, decide_eq_true_eq, decide_eq_true_eq]
    omega
  rw [h1]
  have : m = 0 ∨ m = 1 ∨ m = 2 ∨ m = 3 ∨ m = 4 := by omega
  rcases this with rfl | rfl | rfl | rfl | rfl <;> rfl

end Go.Proofs.Ytidmbeeadbedaaa
