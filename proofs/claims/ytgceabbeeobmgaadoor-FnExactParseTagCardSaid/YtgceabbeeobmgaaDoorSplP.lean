/- Plain words: a text cut at its blanks; that the library's split at one blank is the same. No walk, no condition. -/


import Derived.Test.YtgceabbeeobmgaaDoorFmt
import Derived.Lib.Replace
namespace Go.Proofs.YtgceabbeeobmgaaDoor

open Go.RowKit Go.Shelf

def spl : List UInt8 → List (List UInt8)
  | [] => [[]]
  | b :: l => if b = 32 then [] :: spl l else match spl l with
    | h :: t => (b :: h) :: t
    | [] => [[b]]
theorem spl_ne : ∀ l, spl l ≠ []
  | [] => by simp [spl]
  | b :: l => by
    rw [spl]
    split
    · simp
    · split <;> simp
theorem spl_blank : ∀ {l A x}, spl l = A ++ [x] → spl (l ++ [32]) = A ++ [x] ++ [[]]
  | [], A, x, h => by
    rw [spl] at h
    have : A = [] ∧ x = [] := by
      cases A with
      | nil => simpa using h.symm
      | cons a A => simp at h
    obtain ⟨rfl, rfl⟩ := this
    rfl
  | b :: l, A, x, h => by
    rw [List.cons_append, spl]
    rw [spl] at h
    by_cases hb : b = 32
    · rw [if_pos hb] at h ⊢
      cases A with
      | nil => exact absurd (by simpa using (congrArg List.tail h)) (spl_ne l)
      | cons a A =>
        rw [List.cons_append] at h
        injection h with h1 h2
        rw [spl_blank h2, ← h1]
        rfl
    · rw [if_neg hb] at h ⊢
      cases hs : spl l with
      | nil => exact absurd hs (spl_ne l)
      | cons y t =>
        rw [hs] at h
        dsimp only at h
        cases A with
        | nil =>
          have h' : (b :: y) :: t = [x] := h
          injection h' with h1 h2
          subst h2
          rw [spl_blank (A := []) (x := y) (by rw [hs]; rfl), ← h1]
          rfl
        | cons a A =>
          rw [List.cons_append] at h
          injection h with h1 h2
          rw [spl_blank (A := y :: A) (x := x) (by rw [hs, h2]; rfl), ← h1]
          rfl
theorem spl_other : ∀ {l A x} {c : UInt8}, c ≠ 32 → spl l = A ++ [x] → spl (l ++ [c]) = A ++ [x ++ [c]]
  | [], A, x, c, hc, h => by
    rw [spl] at h
    have : A = [] ∧ x = [] := by
      cases A with
      | nil => simpa using h.symm
      | cons a A => simp at h
    obtain ⟨rfl, rfl⟩ := this
    rw [List.nil_append, spl, if_neg hc]
    rfl
  | b :: l, A, x, c, hc, h => by
    rw [List.cons_append, spl]
    rw [spl] at h
    by_cases hb : b = 32
    · rw [if_pos hb] at h ⊢
      cases A with
      | nil => exact absurd (by simpa using (congrArg List.tail h)) (spl_ne l)
      | cons a A =>
        rw [List.cons_append] at h
        injection h with h1 h2
        rw [spl_other hc h2, ← h1]
        rfl
    · rw [if_neg hb] at h ⊢
      cases hs : spl l with
      | nil => exact absurd hs (spl_ne l)
      | cons y t =>
        rw [hs] at h
        dsimp only at h
        cases A with
        | nil =>
          have h' : (b :: y) :: t = [x] := h
          injection h' with h1 h2
          subst h2
          rw [spl_other hc (A := []) (x := y) (by rw [hs]; rfl), ← h1]
          rfl
        | cons a A =>
          rw [List.cons_append] at h
          injection h with h1 h2
          rw [spl_other hc (A := y :: A) (x := x) (by rw [hs, h2]; rfl), ← h1]
          rfl
theorem spl_len : ∀ l, (spl l).length ≤ l.length + 1
  | [] => by simp [spl]
  | b :: l => by
    have ih := spl_len l
    rw [spl]
    split
    · simp; omega
    · cases hs : spl l with
      | nil => exact absurd hs (spl_ne l)
      | cons y t => rw [hs] at ih; simp at ih ⊢; omega
theorem spl_mem : ∀ l, ∀ x ∈ spl l, x.length ≤ l.length
  | [] => by simp [spl]
  | b :: l => by
    have ih := spl_mem l
    rw [spl]
    split
    · intro x hx
      rcases List.mem_cons.1 hx with rfl | hx
      · simp
      · have := ih x hx; simp; omega
    · cases hs : spl l with
      | nil => exact absurd hs (spl_ne l)
      | cons y t =>
        rw [hs] at ih
        intro x hx
        rcases List.mem_cons.1 hx with rfl | hx
        · have := ih y (List.mem_cons_self); simp; omega
        · have := ih x (List.mem_cons_of_mem _ hx); simp; omega
theorem index_cons_ne {b c : UInt8} (l : List UInt8) (h : b ≠ c) : Lib.index (b :: l) [c] = if Lib.index l [c] == -1 then -1 else Lib.index l [c] + 1 := by
  rw [Lib.index, if_neg]
  intro hp
  simp [List.isPrefixOf] at hp
  exact h hp.symm
theorem index_cons_eq (c : UInt8) (l : List UInt8) : Lib.index (c :: l) [c] = 0 := by
  rw [Lib.index, if_pos]
  simp [List.isPrefixOf]
/-- The library's cut at one byte. -/
theorem splitK_spl : ∀ l : List UInt8, Lib.splitK [32] 0 (Lib.count l [32]) l = spl l
  | [] => by
    have : Lib.count [] [32] = 0 := by rw [Lib.count_one]; rfl
    rw [this]; rfl
  | b :: l => by
    have ih := splitK_spl l
    by_cases hb : b = 32
    · subst hb
      rw [Lib.count_cons_eq, spl, if_pos rfl, Nat.add_comm, Lib.splitK, index_cons_eq, if_neg (by decide)]
      simp only [Int.toNat_zero, Nat.add_zero, List.take_zero, List.length_singleton, Nat.zero_add, List.drop_succ_cons, List.drop_zero]
      rw [ih]
    · rw [Lib.count_cons_ne _ _ _ hb, spl, if_neg hb]
      cases hk : Lib.count l [32] with
      | zero =>
        rw [hk] at ih
        rw [← ih]
        rfl
      | succ k =>
        rw [hk] at ih
        have hne : ¬ (Lib.index l [32] == -1) = true := fun e => by
          have h1 := beq_iff_eq.1 e
          rw [Lib.splitK, if_pos e] at ih
          have h2 := Lib.count_one 32 l
          rw [hk] at h2
          have h3 := Lib.index_of_count (s := l) (old := [32]) (by rw [hk]; omega)
          obtain ⟨i, hi⟩ := h3
          omega
        obtain ⟨i, hi⟩ : ∃ i : Nat, Lib.index l [32] = i := Lib.index_of_count (by rw [hk]; omega)
        rw [Lib.splitK, if_neg hne, hi] at ih
        rw [Lib.splitK, index_cons_ne l hb, if_neg hne, hi, if_neg (by simp; omega), ← ih]
        have e : ((i : Int) + 1).toNat = i + 1 := by omega
        simp [e]
def toBA (l : List UInt8) : ByteArray := ⟨l.toArray⟩
theorem toBA_data (s : ByteArray) : toBA s.data.toList = s := by
  obtain ⟨⟨l⟩⟩ := s
  rfl
theorem toBA_size (l : List UInt8) : (toBA l).size = l.length := by
  show l.toArray.size = _
  simp
/-- A text cut at its blanks. -/
def splW (s : ByteArray) : List ByteArray := (spl s.data.toList).map toBA
theorem splW_lib (s : ByteArray) : Lib.splitB ⟨#[32]⟩ 0 (Lib.countB s ⟨#[32]⟩) s = splW s := by
  have h := Lib.splitB_data ⟨#[32]⟩ 0 (Lib.countB s ⟨#[32]⟩) s
  have e : (Lib.splitB ⟨#[32]⟩ 0 (Lib.countB s ⟨#[32]⟩) s).map (fun x => toBA x.data.toList) = splW s := by
    rw [splW, ← splitK_spl]
    have h2 := congrArg (List.map toBA) h
    rw [List.map_map] at h2
    exact h2
  rw [← e]
  conv => lhs; rw [← List.map_id (Lib.splitB _ _ _ _)]
  exact List.map_congr_left fun x _ => (toBA_data x).symm
theorem splW_len (s : ByteArray) : (splW s).length ≤ s.size + 1 := by
  rw [splW, List.length_map]
  exact spl_len s.data.toList
theorem splW_ne (s : ByteArray) : 0 < (splW s).length := by
  rw [splW, List.length_map]
  exact List.length_pos_iff.2 (spl_ne _)
theorem splW_mem (s : ByteArray) : ∀ x ∈ splW s, x.size ≤ s.size := fun x hx => by
  obtain ⟨y, hy, rfl⟩ := List.mem_map.1 hx
  rw [toBA_size]
  exact spl_mem _ y hy
theorem splW_count (s : ByteArray) : Lib.countB s ⟨#[32]⟩ + 1 = (splW s).length := by
  rw [← splW_lib]
  exact (Lib.splitB_all ⟨#[32]⟩ (by decide) 0 _ s rfl).symm

end Go.Proofs.YtgceabbeeobmgaaDoor
