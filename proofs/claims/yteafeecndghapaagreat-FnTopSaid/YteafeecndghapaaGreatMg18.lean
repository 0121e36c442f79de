/- Merged texts: a claim has a limit of files. -/
import Derived.Test.YteafeecndghapaaGreatMg13
import Derived.Maps.OwnSet
import Derived.Test.YteafeecndghapaaGreatMg12
import Derived.Test.YteafeecndghapaaGreatMg3
import Derived.Test.YteafeecndghapaaGreatMg2
import Derived.Test.YteafeecndghapaaGreatMg4
import Derived.Test.YteafeecndghapaaGreatConfB
import Derived.Test.YteafeecndghapaaGreatMg14
import Derived.Test.YteafeecndghapaaGreatNorm
import Derived.Deep.RegionLaw

/- Plain words for the law FnSearch: the search tells distances, which are the same both ways and obey the triangle. No walk, no condition. -/
namespace Go.Proofs.YteafeecndghapaaGreat
open Go.RowKit Go.Shelf

theorem lk_in {rs : List RuleT} {s : ByteArray} {lim : Int} {k p : Nat} {b : Bool} (hk : k < rs.length) (hp : p ≤ s.size) (h1 : linkOk rs s ((k : Int), (p : Int), b) = true) (h2 : ((linkS rs s ((k : Int), (p : Int), b)).size : Int) ≤ lim) : ((k : Int), (p : Int), b) ∈ lkAll rs s lim := by
  unfold lkAll lkAcc
  refine List.mem_flatMap.2 ⟨p, List.mem_range.2 (by omega), ?_⟩
  unfold lkRow
  refine List.mem_flatMap.2 ⟨k, List.mem_range.2 hk, ?_⟩
  unfold lkCell
  cases b with
  | false =>
    refine List.mem_map.2 ⟨0, List.mem_filter.2 ⟨by simp, ?_⟩, rfl⟩
    unfold lkHit
    rw [Bool.and_eq_true, decide_eq_true_eq]
    exact ⟨h1, h2⟩
  | true =>
    refine List.mem_map.2 ⟨1, List.mem_filter.2 ⟨by simp, ?_⟩, rfl⟩
    unfold lkHit
    rw [Bool.and_eq_true, decide_eq_true_eq]
    exact ⟨h1, h2⟩
/-- A link's parts. -/
theorem link_parts {rs : List RuleT} {s : ByteArray} {x : LinkT} (h : linkOk rs s x = true) : ∃ (k p : Nat) (b : Bool) (a c : WL), x = ((k : Int), (p : Int), b) ∧ k < rs.length ∧ p = a.length ∧ s.data.toList = a ++ (linkFrom rs x).data.toList ++ c ∧ (linkS rs s x).data.toList = a ++ (linkTo rs x).data.toList ++ c := by
  have hh : linkHit rs s x = true := by unfold linkOk at h; rw [Bool.and_eq_true] at h; exact h.1
  obtain ⟨e1, e2⟩ := link_yes hh
  rw [e1] at h
  rw [e2]
  unfold linkHit at hh
  simp only [Bool.and_eq_true] at hh
  obtain ⟨⟨b1, b2⟩, b3⟩ := hh
  have i1 := inB_out b1.symm
  have i2 := inB_out b2.symm
  obtain ⟨hle, hp⟩ := has_parts b3
  obtain ⟨x0, x1, b⟩ := x
  dsimp only at *
  obtain ⟨k, rfl⟩ : ∃ k : Nat, x0 = (k : Int) := ⟨x0.toNat, by omega⟩
  obtain ⟨p, rfl⟩ : ∃ p : Nat, x1 = (p : Int) := ⟨x1.toNat, by omega⟩
  rw [Int.toNat_natCast] at hp hle
  refine ⟨k, p, b, _, _, rfl, by omega, ?_, hp, replS_bytes h⟩
  rw [take_extract, List.length_take, bytes_len]
  omega
theorem link_mk {rs : List RuleT} {s : ByteArray} {k : Nat} {b : Bool} {a c : WL} (hk : k < rs.length) (h : s.data.toList = a ++ (linkFrom rs ((k : Int), (a.length : Int), b)).data.toList ++ c) (hs : s.size - (linkFrom rs ((k : Int), (a.length : Int), b)).size + (linkTo rs ((k : Int), (a.length : Int), b)).size ≤ 16) :
    linkOk rs s ((k : Int), (a.length : Int), b) = true ∧ (linkS rs s ((k : Int), (a.length : Int), b)).data.toList = a ++ (linkTo rs ((k : Int), (a.length : Int), b)).data.toList ++ c := by
  have h1 := bytes_len s
  have h0 := h
  rw [h, List.length_append, List.length_append, bytes_len] at h1
  have hh : linkHit rs s ((k : Int), (a.length : Int), b) = true := by
    unfold linkHit inB
    simp only [Bool.and_eq_true, decide_eq_true_eq]
    exact ⟨⟨⟨by omega, by omega⟩, by omega, by omega⟩, by rw [Int.toNat_natCast]; exact hasAt_parts h0⟩
  obtain ⟨e1, e2⟩ := link_yes hh
  rw [e1, e2]
  have ho : replOk s (((a.length : Nat) : Int)) ((linkFrom rs ((k : Int), (a.length : Int), b)).size : Nat) (linkTo rs ((k : Int), (a.length : Int), b)) = true := repl_ok (by omega) hs
  exact ⟨ho, repl_parts h0 ho⟩
/-- From the word behind a link there is a link back. -/
theorem link_back {rs : List RuleT} {s : ByteArray} {lim : Int} {x : LinkT} (hs : s.size ≤ 16) (hl : (s.size : Int) ≤ lim) (h : linkOk rs s x = true) : ∃ y ∈ lkAll rs (linkS rs s x) lim, linkS rs (linkS rs s x) y = s ∧ y = (x.1, x.2.1, !x.2.2) ∧ linkOk rs (linkS rs s x) y = true := by
  obtain ⟨k, p, b, a, c, rfl, hk, rfl, h1, h2⟩ := link_parts h
  have f1 : linkFrom rs ((k : Int), (a.length : Int), !b) = linkTo rs ((k : Int), (a.length : Int), b) := by cases b <;> rfl
  have f2 : linkTo rs ((k : Int), (a.length : Int), !b) = linkFrom rs ((k : Int), (a.length : Int), b) := by cases b <;> rfl
  obtain ⟨v, hv⟩ : ∃ v, v = linkS rs s ((k : Int), (a.length : Int), b) := ⟨_, rfl⟩
  rw [← hv] at h2 ⊢
  have l1 := bytes_len s
  have l2 := bytes_len v
  rw [h1, List.length_append, List.length_append, bytes_len] at l1
  rw [h2, List.length_append, List.length_append, bytes_len] at l2
  obtain ⟨o1, o2⟩ := link_mk (rs := rs) (s := v) (k := k) (b := !b) (a := a) (c := c) hk (by rw [f1]; exact h2) (by rw [f1, f2]; omega)
  have e : linkS rs v ((k : Int), (a.length : Int), !b) = s := bytes_inj (by rw [o2, f2, h1])
  exact ⟨_, lk_in hk (by omega) o1 (by rw [e]; exact hl), e, rfl, o1⟩

/-- There is a way of n links from u to v over words of at most lim letters. -/
inductive WayF (rs : List RuleT) (lim : Int) (u : ByteArray) : Nat → ByteArray → Prop
  | refl : WayF rs lim u 0 u
  | step {n : Nat} {v : ByteArray} {x : LinkT} : WayF rs lim u n v → x ∈ lkAll rs v lim → WayF rs lim u (n + 1) (linkS rs v x)
abbrev Way (rs : List RuleT) (lim : Int) (n : Nat) (u v : ByteArray) : Prop := WayF rs lim u n v
theorem Way.refl {rs : List RuleT} {lim : Int} (u : ByteArray) : Way rs lim 0 u u := WayF.refl
theorem Way.step {rs : List RuleT} {lim : Int} {n : Nat} {u v : ByteArray} {x : LinkT} (h : Way rs lim n u v) (hx : x ∈ lkAll rs v lim) : Way rs lim (n + 1) u (linkS rs v x) := WayF.step h hx
theorem WayF.trans {rs : List RuleT} {lim : Int} {n m : Nat} {u v w : ByteArray} (h : Way rs lim n u v) (k : Way rs lim m v w) : Way rs lim (n + m) u w := by
  induction k with
  | refl => exact h
  | step _ hx ih => exact .step ih hx
theorem WayF.size {rs : List RuleT} {lim : Int} {n : Nat} {u v : ByteArray} (h : Way rs lim n u v) (hu : (u.size : Int) ≤ lim) : (v.size : Int) ≤ lim := by
  induction h with
  | refl => exact hu
  | step _ hx _ => exact (lk_mem hx).2
theorem WayF.back {rs : List RuleT} {lim : Int} (hl : lim ≤ 8) {n : Nat} {u v : ByteArray} (h : Way rs lim n u v) (hu : (u.size : Int) ≤ lim) : Way rs lim n v u := by
  induction h with
  | refl => exact .refl _
  | @step n v x h hx ih =>
    have hv := WayF.size h hu
    obtain ⟨y, hy, e, -, -⟩ := link_back (lim := lim) (by omega) hv (lk_mem hx).1
    have w1 : Way rs lim 1 (linkS rs v x) v := by
      have := Way.step (.refl (linkS rs v x)) hy
      rwa [e] at this
    have := WayF.trans w1 ih
    rwa [Nat.add_comm] at this

/-- A word that the search takes. -/
def In15 (l : Int) (rs : List RuleT) (lim : Int) (s : ByteArray) : Prop := searched l rs s lim = true
theorem In15.out {l : Int} {rs : List RuleT} {lim : Int} {s : ByteArray} (h : In15 l rs lim s) : rulesOk l rs = true ∧ good8 l s ∧ lim ≤ 8 ∧ searchOk l rs lim = true ∧ word15 l s lim = true ∧ wordOk l s = true ∧ (s.size : Int) ≤ lim := by
  unfold In15 searched at h
  rw [Bool.and_eq_true] at h
  obtain ⟨a, b, c⟩ := searched_out h.1 h.2
  have h2 := h.2
  unfold word15 at h2
  rw [Bool.and_eq_true, decide_eq_true_eq] at h2
  exact ⟨a, b, c, h.1, h.2, h2.1, h2.2⟩
theorem In15.mk {l : Int} {rs : List RuleT} {lim : Int} {s : ByteArray} (h1 : searchOk l rs lim = true) (h2 : wordOk l s = true) (h3 : (s.size : Int) ≤ lim) : In15 l rs lim s := by
  unfold In15 searched word15
  rw [h1, h2, decide_eq_true h3]; rfl
end Go.Proofs.YteafeecndghapaaGreat

/- Plain words for the law FnProofs: a chain that is turned leads back, a shortened one leads to the same word without coming back, and in a complete system the ends of a chain have one reduced form. No walk, no condition. -/
namespace Go.Proofs.YteafeecndghapaaGreat
open Go.RowKit Go.Shelf

/-- The links lead from a word to another one over the words told. -/
inductive Chn (rs : List RuleT) : ByteArray → List LinkT → List ByteArray → ByteArray → Prop
  | nil (u : ByteArray) : Chn rs u [] [u] u
  | cons {u e : ByteArray} {x : LinkT} {xs : List LinkT} {ws : List ByteArray} : linkOk rs u x = true → Chn rs (linkS rs u x) xs ws e → Chn rs u (x :: xs) (u :: ws) e
variable {l : Int} {rs : List RuleT}
theorem run_chn (hro : rulesOk l rs = true) : ∀ (xs : List LinkT) (u : ByteArray) (pre ws : List ByteArray) (e : ByteArray), xs.foldl (chStep l rs) (some (pre ++ [u], u)) = some (ws, e) → ∃ vs, ws = pre ++ vs ∧ Chn rs u xs vs e
  | [], u, pre, ws, e, h => by
    injection h with h
    injection h with h1 h2
    subst h1 h2
    exact ⟨[u], rfl, .nil u⟩
  | x :: xs, u, pre, ws, e, h => by
    rw [List.foldl_cons, chStep] at h
    obtain ⟨a1, a2⟩ := al_yes (s := u) (x := x) hro
    dsimp only at h
    rw [a1, a2] at h
    cases ho : linkOk rs u x with
    | false => rw [ho] at h; rw [if_neg (by simp), chRun_none] at h; cases h
    | true =>
      rw [ho, if_pos rfl] at h
      obtain ⟨vs, h1, h2⟩ := run_chn hro xs (linkS rs u x) (pre ++ [u]) ws e h
      exact ⟨u :: vs, by rw [h1, List.append_assoc]; rfl, .cons ho h2⟩
theorem co_chn (hro : rulesOk l rs = true) {u : ByteArray} {xs : List LinkT} (h : coOk l rs u xs = true) : ∃ e, Chn rs u xs (coL l rs u xs) e ∧ xs.length ≤ 200 := by
  unfold coOk coSt at h
  by_cases hl : xs.length ≤ 200
  · rw [if_pos hl] at h
    cases hr : chRun l rs u xs with
    | none => rw [hr] at h; cases h
    | some p =>
      obtain ⟨ws, e⟩ := p
      obtain ⟨vs, h1, h2⟩ := run_chn hro xs u [] ws e hr
      rw [List.nil_append] at h1
      subst h1
      refine ⟨e, ?_, hl⟩
      unfold coL coSt
      rw [if_pos hl, hr]
      exact h2
  · rw [if_neg hl] at h; cases h
theorem Chn.len {u e : ByteArray} {xs : List LinkT} {ws : List ByteArray} (h : Chn rs u xs ws e) : ws.length = xs.length + 1 := by
  induction h with
  | nil => rfl
  | cons _ _ ih => rw [List.length_cons, ih, List.length_cons]
theorem Chn.head {u e : ByteArray} {xs : List LinkT} {ws : List ByteArray} (h : Chn rs u xs ws e) : ∃ t, ws = u :: t := by
  cases h with
  | nil => exact ⟨[], rfl⟩
  | cons _ _ => exact ⟨_, rfl⟩
theorem Chn.last {u e : ByteArray} {xs : List LinkT} {ws : List ByteArray} (h : Chn rs u xs ws e) : ws[xs.length]? = some e := by
  induction h with
  | nil => rfl
  | cons _ _ ih => rw [List.length_cons, List.getElem?_cons_succ]; exact ih
theorem Chn.snoc {u e : ByteArray} {xs : List LinkT} {ws : List ByteArray} {x : LinkT} (h : Chn rs u xs ws e) (hx : linkOk rs e x = true) : Chn rs u (xs ++ [x]) (ws ++ [linkS rs e x]) (linkS rs e x) := by
  induction h with
  | nil => exact .cons hx (.nil _)
  | cons ho _ ih => exact .cons ho (ih hx)
theorem Chn.app {u e f : ByteArray} {xs ys : List LinkT} {ws vs : List ByteArray} (h : Chn rs u xs ws e) (k : Chn rs e ys vs f) : Chn rs u (xs ++ ys) (ws ++ vs.tail) f := by
  induction h with
  | nil u =>
    obtain ⟨t, rfl⟩ := k.head
    exact k
  | cons ho _ ih => exact .cons ho (ih k)
theorem linkS_size {s : ByteArray} {x : LinkT} (h : linkOk rs s x = true) : (linkS rs s x).size ≤ 16 := by
  have hh : linkHit rs s x = true := by unfold linkOk at h; rw [Bool.and_eq_true] at h; exact h.1
  obtain ⟨e1, e2⟩ := link_yes hh
  rw [e1] at h
  rw [e2]
  unfold linkHit at hh
  simp only [Bool.and_eq_true] at hh
  have i2 := inB_out hh.1.2.symm
  obtain ⟨p, hpl⟩ : ∃ p : Nat, x.2.1 = (p : Int) := ⟨x.2.1.toNat, by omega⟩
  rw [hpl] at h ⊢
  exact replS_size h
theorem Chn.word {u e : ByteArray} {xs : List LinkT} {ws : List ByteArray} (hro : rulesOk l rs = true) (h : Chn rs u xs ws e) (hu : wordOk l u = true) : wordOk l e = true ∧ ∀ v ∈ ws, wordOk l v = true := by
  induction h with
  | nil u => exact ⟨hu, fun v hv => by rw [List.mem_singleton.1 hv]; exact hu⟩
  | cons ho _ ih =>
    obtain ⟨w1, w2, w3, w4⟩ := wordOk_out hu
    obtain ⟨h1, h2⟩ := ih (wordOk_mk w1 w2 (linkS_size ho) (link_letters hro w4 ho))
    refine ⟨h1, fun v hv => ?_⟩
    rcases List.mem_cons.1 hv with rfl | hv
    · exact hu
    · exact h2 v hv
theorem flip_link {u : ByteArray} {x : LinkT} (hu : u.size ≤ 16) (h : linkOk rs u x = true) : linkOk rs (linkS rs u x) (flipL x) = true ∧ linkS rs (linkS rs u x) (flipL x) = u := by
  obtain ⟨y, -, h1, h2, h3⟩ := link_back (lim := (u.size : Int)) hu (Int.le_refl _) h
  rw [h2] at h1 h3
  exact ⟨h3, h1⟩
theorem turn_cons (x : LinkT) (xs : List LinkT) : turnL (x :: xs) = turnL xs ++ [flipL x] := by unfold turnL; rw [List.reverse_cons, List.map_append]; rfl
/-- A chain that is turned leads back. -/
theorem Chn.turn {u e : ByteArray} {xs : List LinkT} {ws : List ByteArray} (h : Chn rs u xs ws e) (hu : u.size ≤ 16) : Chn rs e (turnL xs) ws.reverse u := by
  induction h with
  | nil u => exact .nil u
  | @cons u e x xs ws ho _ ih =>
    obtain ⟨f1, f2⟩ := flip_link hu ho
    have h1 := (ih (linkS_size ho)).snoc f1
    rw [f2] at h1
    rw [turn_cons, List.reverse_cons]
    exact h1
theorem Chn.split {u e : ByteArray} {xs : List LinkT} {ws : List ByteArray} (h : Chn rs u xs ws e) : ∀ i, i ≤ xs.length → Chn rs u (xs.take i) (ws.take (i + 1)) (wAt ws i) ∧ Chn rs (wAt ws i) (xs.drop i) (ws.drop i) e := by
  induction h with
  | nil u =>
    intro i hi
    have : i = 0 := by simpa using hi
    subst this
    exact ⟨.nil u, .nil u⟩
  | @cons u e x xs ws ho hc ih =>
    intro i hi
    cases i with
    | zero => exact ⟨.nil u, .cons ho hc⟩
    | succ i =>
      obtain ⟨h1, h2⟩ := ih i (by simpa using hi)
      exact ⟨.cons ho h1, h2⟩
theorem Chn.cut {u e : ByteArray} {xs : List LinkT} {ws : List ByteArray} (h : Chn rs u xs ws e) {i k : Nat} (hik : i ≤ k) (hk : k < ws.length) (he : wAt ws k = wAt ws i) : Chn rs u (cutL xs i k) (cutL ws i k) e := by
  have hl := h.len
  obtain ⟨h1, -⟩ := h.split i (by omega)
  obtain ⟨-, h2⟩ := h.split k (by omega)
  rw [he] at h2
  have h3 := h1.app h2
  have e1 : ws.take (i + 1) ++ (ws.drop k).tail = cutL ws i k := by
    unfold cutL
    have hi : i < ws.length := by omega
    rw [List.take_succ_eq_append_getElem hi, List.append_assoc, List.drop_eq_getElem_cons hk, List.tail_cons]
    have e2 : ws[i] = ws[k] := by rw [← wAt_lt hi, ← wAt_lt hk, he]
    rw [e2]
    rfl
  rw [e1] at h3
  exact h3
/-- In a complete system the ends of a chain have one reduced form. -/
theorem chn_nf (hsy : systemOk l rs = true) (hC : Crit (rl rs)) {u e : ByteArray} {xs : List LinkT} {ws : List ByteArray} (h : Chn rs u xs ws e) : nfL (rl rs) u.data.toList = nfL (rl rs) e.data.toList := by
  induction h with
  | nil => rfl
  | cons ho _ ih =>
    rw [← ih]
    rcases link_red ho with h1 | h1
    · exact conf (rl_falls hsy) hC h1
    · exact (conf (rl_falls hsy) hC h1).symm
theorem chn_norm (h : isCompl l rs = true) {u e : ByteArray} {xs : List LinkT} {ws : List ByteArray} (hc : Chn rs u xs ws e) (hu : wordOk l u = true) (he : wordOk l e = true) : normS rs u = normS rs e := by
  obtain ⟨hsy, -⟩ := compl_out h
  have hC := compl_crit h
  exact bytes_inj (by rw [norm_nfL hsy hC hu, norm_nfL hsy hC he, chn_nf hsy hC hc])
end Go.Proofs.YteafeecndghapaaGreat
