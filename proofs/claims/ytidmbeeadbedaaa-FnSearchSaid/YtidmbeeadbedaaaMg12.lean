/- Merged texts: a claim has a limit of files. -/
import Derived.Test.YtidmbeeadbedaaaMkB
import Derived.Test.YtidmbeeadbedaaaSearchP
import Derived.Test.YtidmbeeadbedaaaMg8
import Derived.Test.YtidmbeeadbedaaaMg7
import Derived.Deep.RegionHeld3
import Derived.Test.YtidmbeeadbedaaaRepl
import Derived.Test.YtidmbeeadbedaaaMg9

/- A slice of bytes that came in, opened. -/
namespace Go.Proofs.Ytidmbeeadbedaaa
open Go.ChangeShapes Go.WideShapes Go.ChangeAt Go.RowKit Go.Shelf

section
variable {H : Type} {enc : TypeId × Value → H} {w : World} {base : Nat} {spare : Nat → Bool} {held : Bool}
/-- A slice of bytes that came in. -/
theorem open_byteS {a : Option Addr} {n c : Nat} {d : DataW H} {p : List MemPlace} (h : DataW.Trod enc Try.prog w 0 (fun _ => true) true 22 (.slice a n c) d p) :
    ∃ zs : List Int, Rd w a (u8c zs) ∧ n = zs.length ∧ n ≤ maxLen ∧ ∀ z ∈ zs, (Lit.int .u8 z).wf = true := by
  obtain ⟨fuel, hf⟩ := h
  rcases open_ints Try.underlying22 Try.underlying5 (by kernel_rfl) hf with ⟨hcs, _⟩ | ⟨x, l, cc, zs, hcs, _, hl, hm, hz, _, hcell, hwz⟩
  · simp [Value.cells] at hcs
    obtain ⟨rfl, rfl, rfl⟩ := hcs
    exact ⟨[], Rd.nil _ _, rfl, by unfold maxLen; omega, by simp⟩
  · simp [Value.cells] at hcs
    obtain ⟨rfl, rfl, rfl⟩ := hcs
    have hz' : zs.length = c := by simpa using hz
    refine ⟨zs.take n, rd_of_cells fun j u hu => ?_, by rw [List.length_take]; omega, Nat.le_trans hl hm, fun z hz => hwz z (List.mem_of_mem_take hz)⟩
    simp only [u8c, List.getElem?_map, List.getElem?_take] at hu
    split at hu
    · have hj : j < zs.length := by omega
      rw [hcell j hj]
      simp [hj] at hu ⊢
      exact hu
    · simp at hu
end
theorem byte_wf {z : Int} (h : (Lit.int .u8 z).wf = true) : 0 ≤ z ∧ z ≤ 255 := by
  have e1 : IntKind.u8.min = 0 := rfl
  have e2 : IntKind.u8.max = 255 := rfl
  simp [Lit.wf, e1, e2] at h
  exact h

end Go.Proofs.Ytidmbeeadbedaaa

/- Plain words for CountReached, and for a map that holds true for each word of a list. No walk, no condition. -/
namespace Go.Proofs.Ytidmbeeadbedaaa
open Go.RowKit Go.Shelf

/-- The map holds true for each word of the list and nothing else. -/
def MapT (D : DataW Unit) (ws : List ByteArray) : Prop := Maps.IsMap D ∧ ∀ s : ByteArray, Maps.has D (.string s.data.toList) = (fnd ws s).isSome ∧ ∀ z, (fnd ws s).isSome = true → D.atKey (.string s.data.toList) z = .lit (.bool true)
theorem fnd_snoc_some (x s : ByteArray) (ws : List ByteArray) : (fnd (ws ++ [x]) s).isSome = ((fnd ws s).isSome || decide (x = s)) := by
  rw [fnd_snoc]
  cases fnd ws s with
  | some i => rfl
  | none =>
    by_cases h : x = s
    · simp [h]
    · simp [h]
theorem MapT.snoc {D : DataW Unit} {ws : List ByteArray} (h : MapT D ws) (x : ByteArray) : MapT (D.put (.string x.data.toList) (.lit (.bool true))) (ws ++ [x]) := by
  have hk : WideAt.IsKeyLit (Lit.string x.data.toList) := trivial
  refine ⟨?_, fun s => ?_⟩
  · obtain ⟨es, rfl⟩ := h.1
    exact ⟨_, rfl⟩
  rw [fnd_snoc_some]
  by_cases hs : x = s
  · subst hs
    rw [decide_eq_true rfl, Bool.or_true]
    exact ⟨Maps.has_put_same h.1 hk _, fun z _ => Maps.atKey_put_same h.1 hk _ z⟩
  · rw [decide_eq_false hs, Bool.or_false, Maps.has_put_other (key_ne hs)]
    refine ⟨(h.2 s).1, fun z hi => ?_⟩
    rw [Maps.atKey_put_other (key_ne hs)]
    exact (h.2 s).2 z hi
theorem MapT.nil : MapT (.map []) [] := ⟨⟨_, rfl⟩, fun s => ⟨rfl, fun z hi => by cases hi⟩⟩

end Go.Proofs.Ytidmbeeadbedaaa

/- Plain words for the law FnReduce: reduction ends at a reduced word that is not greater, by the steps that are told; few words are reached. No walk, no condition. -/
namespace Go.Proofs.Ytidmbeeadbedaaa
open Go.RowKit Go.Shelf

theorem fnd_at {ws : List ByteArray} {s : ByteArray} : ∀ {i : Nat}, fnd ws s = some i → ws[i]? = some s := by
  induction ws with
  | nil => intro i h; cases h
  | cons x t ih =>
    intro i h
    rw [fnd] at h
    by_cases e : x = s
    · rw [if_pos e] at h
      injection h with h
      subst h
      rw [e]; rfl
    · rw [if_neg e] at h
      cases hf : fnd t s with
      | none => rw [hf] at h; cases h
      | some j =>
        rw [hf] at h
        injection h with h
        subst h
        exact ih hf
theorem wordOk_mk {k : Int} {s : ByteArray} (h1 : 1 ≤ k) (h4 : k ≤ 4) (hs : s.size ≤ 16) (hl : lettersOk k s = true) : wordOk k s = true := by
  unfold wordOk inB
  simp only [Bool.and_eq_true, decide_eq_true_eq]
  exact ⟨⟨⟨h1, h4⟩, hs⟩, hl⟩
theorem sys_in {l : Int} {rs : List RuleT} (h : systemOk l rs = true) : 1 ≤ l ∧ l ≤ 4 ∧ rs.length ≤ 12 := by
  have h1 := sys_rules h
  have h2 := rulesOk_12 h1
  unfold rulesOk at h1
  simp only [Bool.and_eq_true] at h1
  have := inB_out h1.1.1.symm
  exact ⟨this.1, this.2, h2⟩
/-- The place of a word among all words of four letters. -/
def W4 (bs : List UInt8) : Nat := bs.foldl (fun a b => a * 4 + (b.toNat - 96)) 0
theorem W4_snoc (bs : List UInt8) (b : UInt8) : W4 (bs ++ [b]) = W4 bs * 4 + (b.toNat - 96) := by unfold W4; rw [List.foldl_append]; rfl
theorem snoc_ind {P : List UInt8 → Prop} (h0 : P []) (h1 : ∀ bs b, P bs → P (bs ++ [b])) : ∀ (n : Nat) (bs : List UInt8), bs.length = n → P bs
  | 0, bs, h => by rw [List.eq_nil_of_length_eq_zero h]; exact h0
  | n + 1, bs, h => by
    have hne : bs ≠ [] := by intro e; rw [e] at h; simp at h
    rw [← List.dropLast_concat_getLast hne]
    exact h1 _ _ (snoc_ind h0 h1 n _ (by rw [List.length_dropLast, h]; rfl))
theorem W4_inj : ∀ (xs ys : List UInt8), (∀ b ∈ xs, 97 ≤ b.toNat ∧ b.toNat ≤ 100) → (∀ b ∈ ys, 97 ≤ b.toNat ∧ b.toNat ≤ 100) → W4 xs = W4 ys → xs = ys := by
  intro xs
  refine snoc_ind (P := fun xs => ∀ ys, (∀ b ∈ xs, 97 ≤ b.toNat ∧ b.toNat ≤ 100) → (∀ b ∈ ys, 97 ≤ b.toNat ∧ b.toNat ≤ 100) → W4 xs = W4 ys → xs = ys) ?_ ?_ _ xs rfl
  · intro ys _ hy h
    by_cases hne : ys = []
    · exact hne.symm
    · rw [← List.dropLast_concat_getLast hne, W4_snoc] at h
      have := hy _ (List.getLast_mem hne)
      have e : W4 [] = 0 := rfl
      omega
  · intro bs b ih ys hx hy h
    by_cases hne : ys = []
    · subst hne
      rw [W4_snoc] at h
      have := hx b (List.mem_append_right _ (List.mem_singleton.2 rfl))
      have e : W4 [] = 0 := rfl
      omega
    · rw [← List.dropLast_concat_getLast hne, W4_snoc, W4_snoc] at h
      have h1 := hx b (List.mem_append_right _ (List.mem_singleton.2 rfl))
      have h2 := hy _ (List.getLast_mem hne)
      have h3 := ih ys.dropLast (fun c hc => hx c (List.mem_append_left _ hc)) (fun c hc => hy c (List.dropLast_subset ys hc)) (by omega)
      have h4 : b = ys.getLast hne := UInt8.toNat_inj.1 (by omega)
      rw [h3, h4, List.dropLast_concat_getLast hne]
end Go.Proofs.Ytidmbeeadbedaaa
