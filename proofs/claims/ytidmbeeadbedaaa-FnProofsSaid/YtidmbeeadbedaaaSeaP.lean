/- Plain words for the law FnSearch: the search tells distances, which are the same both ways and obey the triangle. No walk, no condition. -/
import Derived.Test.YtidmbeeadbedaaaMg12
import Derived.Test.YtidmbeeadbedaaaLess
import Derived.Test.YtidmbeeadbedaaaConfB
namespace Go.Proofs.Ytidmbeeadbedaaa
open Go.RowKit Go.Shelf

theorem lk_in {rs : List RuleT} {s : ByteArray} {lim : Int} {k p : Nat} {b : Bool} (hk : k < rs.length) (hp : p ≤ s.size) (h1 : linkOk rs s ((k : Int), (p : Int), b) = true) (h2 : ((linkS rs s ((k : Int), (p : Int), b)).size : Int) ≤ lim) : ((k : Int), (p : Int), b) ∈ lkAll rs s lim := by
  unfold lkAll lkAcc
  refine List.mem_flatMap.2 ⟨p, List.mem_range.2 (by omega), ?_⟩
  unfold lkRow
  refine List.mem_flatMap.2 ⟨k, List.mem_range.2 hk, ?_⟩
  unfold lkCell
  cases b with
  | false =>
    refine List.mem_map.2 ⟨0, List.mem_filter.2 ⟨by simp, ?_⟩, rfl⟩
    unfold lkHit
    rw [Bool.and_eq_true, decide_eq_true_eq]
    exact ⟨h1, h2⟩
  | true =>
    refine List.mem_map.2 ⟨1, List.mem_filter.2 ⟨by simp, ?_⟩, rfl⟩
    unfold lkHit
    rw [Bool.and_eq_true, decide_eq_true_eq]
    exact ⟨h1, h2⟩
/-- A link's parts. -/
theorem link_parts {rs : List RuleT} {s : ByteArray} {x : LinkT} (h : linkOk rs s x = true) : ∃ (k p : Nat) (b : Bool) (a c : WL), x = ((k : Int), (p : Int), b) ∧ k < rs.length ∧ p = a.length ∧ s.data.toList = a ++ (linkFrom rs x).data.toList ++ c ∧ (linkS rs s x).data.toList = a ++ (linkTo rs x).data.toList ++ c := by
  have hh : linkHit rs s x = true := by unfold linkOk at h; rw [Bool.and_eq_true] at h; exact h.1
  obtain ⟨e1, e2⟩ := link_yes hh
  rw [e1] at h
  rw [e2]
  unfold linkHit at hh
  simp only [Bool.and_eq_true] at hh
  obtain ⟨⟨b1, b2⟩, b3⟩ := hh
  have i1 := inB_out b1.symm
  have i2 := inB_out b2.symm
  obtain ⟨hle, hp⟩ := has_parts b3
  obtain ⟨x0, x1, b⟩ := x
  dsimp only at *
  obtain ⟨k, rfl⟩ : ∃ k : Nat, x0 = (k : Int) := ⟨x0.toNat, by omega⟩
  obtain ⟨p, rfl⟩ : ∃ p : Nat, x1 = (p : Int) := ⟨x1.toNat, by omega⟩
  rw [Int.toNat_natCast] at hp hle
  refine ⟨k, p, b, _, _, rfl, by omega, ?_, hp, replS_bytes h⟩
  rw [take_extract, List.length_take, bytes_len]
  omega
theorem link_mk {rs : List RuleT} {s : ByteArray} {k : Nat} {b : Bool} {a c : WL} (hk : k < rs.length) (h : s.data.toList = a ++ (linkFrom rs ((k : Int), (a.length : Int), b)).data.toList ++ c) (hs : s.size - (linkFrom rs ((k : Int), (a.length : Int), b)).size + (linkTo rs ((k : Int), (a.length : Int), b)).size ≤ 16) :
    linkOk rs s ((k : Int), (a.length : Int), b) = true ∧ (linkS rs s ((k : Int), (a.length : Int), b)).data.toList = a ++ (linkTo rs ((k : Int), (a.length : Int), b)).data.toList ++ c := by
  have h1 := bytes_len s
  have h0 := h
  rw [h, List.length_append, List.length_append, bytes_len] at h1
  have hh : linkHit rs s ((k : Int), (a.length : Int), b) = true := by
    unfold linkHit inB
    simp only [Bool.and_eq_true, decide_eq_true_eq]
    exact ⟨⟨⟨by omega, by omega⟩, by omega, by omega⟩, by rw [Int.toNat_natCast]; exact hasAt_parts h0⟩
  obtain ⟨e1, e2⟩ := link_yes hh
  rw [e1, e2]
  have ho : replOk s (((a.length : Nat) : Int)) ((linkFrom rs ((k : Int), (a.length : Int), b)).size : Nat) (linkTo rs ((k : Int), (a.length : Int), b)) = true := repl_ok (by omega) hs
  exact ⟨ho, repl_parts h0 ho⟩
/-- From the word behind a link there is a link back. -/
theorem link_back {rs : List RuleT} {s : ByteArray} {lim : Int} {x : LinkT} (hs : s.size ≤ 16) (hl : (s.size : Int) ≤ lim) (h : linkOk rs s x = true) : ∃ y ∈ lkAll rs (linkS rs s x) lim, linkS rs (linkS rs s x) y = s ∧ y = (x.1, x.2.1, !x.2.2) ∧ linkOk rs (linkS rs s x) y = true := by
  obtain ⟨k, p, b, a, c, rfl, hk, rfl, h1, h2⟩ := link_parts h
  have f1 : linkFrom rs ((k : Int), (a.length : Int), !b) = linkTo rs ((k : Int), (a.length : Int), b) := by cases b <;> rfl
  have f2 : linkTo rs ((k : Int), (a.length : Int), !b) = linkFrom rs ((k : Int), (a.length : Int), b) := by cases b <;> rfl
  obtain ⟨v, hv⟩ : ∃ v, v = linkS rs s ((k : Int), (a.length : Int), b) := ⟨_, rfl⟩
  rw [← hv] at h2 ⊢
  have l1 := bytes_len s
  have l2 := bytes_len v
  rw [h1, List.length_append, List.length_append, bytes_len] at l1
  rw [h2, List.length_append, List.length_append, bytes_len] at l2
  obtain ⟨o1, o2⟩ := link_mk (rs := rs) (s := v) (k := k) (b := !b) (a := a) (c := c) hk (by rw [f1]; exact h2) (by rw [f1, f2]; omega)
  have e : linkS rs v ((k : Int), (a.length : Int), !b) = s := bytes_inj (by rw [o2, f2, h1])
  exact ⟨_, lk_in hk (by omega) o1 (by rw [e]; exact hl), e, rfl, o1⟩

/-- There is a way of n links from u to v over words of at most lim letters. -/
inductive WayF (rs : List RuleT) (lim : Int) (u : ByteArray) : Nat → ByteArray → Prop
  | refl : WayF rs lim u 0 u
  | step {n : Nat} {v : ByteArray} {x : LinkT} : WayF rs lim u n v → x ∈ lkAll rs v lim → WayF rs lim u (n + 1) (linkS rs v x)
abbrev Way (rs : List RuleT) (lim : Int) (n : Nat) (u v : ByteArray) : Prop := WayF rs lim u n v
theorem Way.refl {rs : List RuleT} {lim : Int} (u : ByteArray) : Way rs lim 0 u u := WayF.refl
theorem Way.step {rs : List RuleT} {lim : Int} {n : Nat} {u v : ByteArray} {x : LinkT} (h : Way rs lim n u v) (hx : x ∈ lkAll rs v lim) : Way rs lim (n + 1) u (linkS rs v x) := WayF.step h hx
theorem WayF.trans {rs : List RuleT} {lim : Int} {n m : Nat} {u v w : ByteArray} (h : Way rs lim n u v) (k : Way rs lim m v w) : Way rs lim (n + m) u w := by
  induction k with
  | refl => exact h
  | step _ hx ih => exact .step ih hx
theorem WayF.size {rs : List RuleT} {lim : Int} {n : Nat} {u v : ByteArray} (h : Way rs lim n u v) (hu : (u.size : Int) ≤ lim) : (v.size : Int) ≤ lim := by
  induction h with
  | refl => exact hu
  | step _ hx _ => exact (lk_mem hx).2
theorem WayF.back {rs : List RuleT} {lim : Int} (hl : lim ≤ 8) {n : Nat} {u v : ByteArray} (h : Way rs lim n u v) (hu : (u.size : Int) ≤ lim) : Way rs lim n v u := by
  induction h with
  | refl => exact .refl _
  | @step n v x h hx ih =>
    have hv := WayF.size h hu
    obtain ⟨y, hy, e, -, -⟩ := link_back (lim := lim) (by omega) hv (lk_mem hx).1
    have w1 : Way rs lim 1 (linkS rs v x) v := by
      have := Way.step (.refl (linkS rs v x)) hy
      rwa [e] at this
    have := WayF.trans w1 ih
    rwa [Nat.add_comm] at this

/-- A word that the search takes. -/
def In15 (l : Int) (rs : List RuleT) (lim : Int) (s : ByteArray) : Prop := searched l rs s lim = true
theorem In15.out {l : Int} {rs : List RuleT} {lim : Int} {s : ByteArray} (h : In15 l rs lim s) : rulesOk l rs = true ∧ good8 l s ∧ lim ≤ 8 ∧ searchOk l rs lim = true ∧ word15 l s lim = true ∧ wordOk l s = true ∧ (s.size : Int) ≤ lim := by
  unfold In15 searched at h
  rw [Bool.and_eq_true] at h
  obtain ⟨a, b, c⟩ := searched_out h.1 h.2
  have h2 := h.2
  unfold word15 at h2
  rw [Bool.and_eq_true, decide_eq_true_eq] at h2
  exact ⟨a, b, c, h.1, h.2, h2.1, h2.2⟩
theorem In15.mk {l : Int} {rs : List RuleT} {lim : Int} {s : ByteArray} (h1 : searchOk l rs lim = true) (h2 : wordOk l s = true) (h3 : (s.size : Int) ≤ lim) : In15 l rs lim s := by
  unfold In15 searched word15
  rw [h1, h2, decide_eq_true h3]; rfl
def G2 : Nat → Nat
  | 0 => 0
  | n + 1 => G2 n * 4 + 2
end Go.Proofs.Ytidmbeeadbedaaa
