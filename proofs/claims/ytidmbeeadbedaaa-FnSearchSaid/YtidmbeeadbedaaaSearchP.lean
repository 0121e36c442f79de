/- Plain words for the search: what is reached from a word, in which order, and how many words there can be. No walk, no condition. -/
import Derived.Test.YtidmbeeadbedaaaLoop
import Derived.Test.YtidmbeeadbedaaaLinks
import Derived.Test.YtidmbeeadbedaaaMg8
namespace Go.Proofs.Ytidmbeeadbedaaa
open Go.RowKit Go.Shelf

theorem V4_inj : ∀ (xs ys : List UInt8) (a b : Nat), (∀ c ∈ xs, 97 ≤ c.toNat ∧ c.toNat ≤ 100) → (∀ c ∈ ys, 97 ≤ c.toNat ∧ c.toNat ≤ 100) → xs.length = ys.length → V4 a xs = V4 b ys → a = b ∧ xs = ys
  | [], [], a, b, _, _, _, h => ⟨h, rfl⟩
  | [], y :: ys, _, _, _, _, hl, _ => by simp at hl
  | x :: xs, [], _, _, _, _, hl, _ => by simp at hl
  | x :: xs, y :: ys, a, b, hx, hy, hl, h => by
    rw [V4_cons, V4_cons] at h
    obtain ⟨e, e2⟩ := V4_inj xs ys _ _ (fun c hc => hx c (List.mem_cons_of_mem _ hc)) (fun c hc => hy c (List.mem_cons_of_mem _ hc)) (by simpa using hl) h
    have h1 := hx x List.mem_cons_self
    have h2 := hy y List.mem_cons_self
    have e3 : x.toNat = y.toNat := by omega
    exact ⟨by omega, by rw [e2, UInt8.toNat_inj.1 e3]⟩
/-- A word of at most eight good letters. -/
def good8 (k : Int) (s : ByteArray) : Prop := k ≤ 4 ∧ lettersOk k s = true ∧ s.size ≤ 8
theorem good8_lt {k : Int} {s : ByteArray} (h : good8 k s) : val4 s < 131072 := by
  have h1 := V4_hi 1 s.data.toList (fun b hb => (letters_in h.1 h.2.1 b hb).2)
  rw [bytes_len] at h1
  have h2 : 4 ^ s.size ≤ 4 ^ 8 := Nat.pow_le_pow_right (by omega) h.2.2
  have h3 : (4 : Nat) ^ 8 = 65536 := by decide
  unfold val4
  omega
theorem good8_inj {k : Int} {s t : ByteArray} (hs : good8 k s) (ht : good8 k t) (h : val4 s = val4 t) : s = t := by
  have a := fun b hb => letters_in hs.1 hs.2.1 b hb
  have b := fun b hb => letters_in ht.1 ht.2.1 b hb
  have hl : s.data.toList.length = t.data.toList.length := by
    rcases Nat.lt_trichotomy s.data.toList.length t.data.toList.length with h1 | h1 | h1
    · have := V4_short (a := 1) (Nat.le_refl _) _ _ (fun c hc => (a c hc).2) h1
      unfold val4 at h; omega
    · exact h1
    · have := V4_short (a := 1) (Nat.le_refl _) _ _ (fun c hc => (b c hc).2) h1
      unfold val4 at h; omega
  obtain ⟨_, e⟩ := V4_inj _ _ 1 1 a b hl h
  cases s; cases t; simp_all
theorem pig : ∀ (N : Nat) (L : List Nat), L.Nodup → (∀ x ∈ L, x < N) → L.length ≤ N
  | 0, L, _, h => by
    cases L with
    | nil => exact Nat.le_refl _
    | cons x r => exact absurd (h x List.mem_cons_self) (Nat.not_lt_zero _)
  | N + 1, L, hn, h => by
    by_cases hm : N ∈ L
    · have h1 := pig N (L.erase N) (hn.erase N) (fun x hx => by
        have h2 := (hn.mem_erase_iff).1 hx
        have h3 := h x h2.2
        omega)
      rw [List.length_erase_of_mem hm] at h1
      omega
    · have := pig N L hn (fun x hx => by
        have h3 := h x hx
        have : x ≠ N := fun e => hm (e ▸ hx)
        omega)
      omega
theorem words_few {k : Int} {ws : List ByteArray} (hn : ws.Nodup) (h : ∀ s ∈ ws, good8 k s) : ws.length ≤ 131072 := by
  have h1 := pig 131072 (ws.map val4) (by
    rw [List.nodup_iff_pairwise_ne] at *
    rw [List.pairwise_map]
    exact hn.imp_of_mem fun ha hb hne e => hne (good8_inj (h _ ha) (h _ hb) e)) (fun x hx => by
    obtain ⟨s, hs, rfl⟩ := List.mem_map.1 hx
    exact good8_lt (h s hs))
  rwa [List.length_map] at h1
theorem fnd_mem {y : ByteArray} : ∀ {ws : List ByteArray}, fnd ws y = none → ¬ y ∈ ws
  | [], _, h => by cases h
  | x :: ws, h, hm => by
    rw [fnd] at h
    split at h
    · cases h
    · next hne =>
      rcases List.mem_cons.1 hm with e | hm
      · exact hne e.symm
      · have : fnd ws y = none := by
          cases hf : fnd ws y with
          | none => rfl
          | some i => rw [hf] at h; cases h
        exact fnd_mem this hm

/-- A word that is reached, the place of that before it, the link, and how far it is. -/
abbrev SrT : Type := ByteArray × Int × LinkT × Int
def srWords (S : List SrT) : List ByteArray := S.map (·.1)
def srAt (S : List SrT) (a : Nat) : SrT := S.getD a (⟨#[]⟩, 0, (0, 0, false), 0)
def srAdd (rs : List RuleT) (a : Nat) (S : List SrT) (x : LinkT) : List SrT := match fnd (srWords S) (linkS rs (srAt S a).1 x) with
  | some _ => S
  | none => S ++ [(linkS rs (srAt S a).1 x, (a : Int), x, (srAt S a).2.2.2 + 1)]
def srRow (rs : List RuleT) (a : Nat) (S : List SrT) (xs : List LinkT) : List SrT := xs.foldl (srAdd rs a) S
def srGo (rs : List RuleT) (lim : Int) : Nat → Nat → List SrT → List SrT
  | 0, _, S => S
  | f + 1, a, S => if a < S.length then srGo rs lim f (a + 1) (srRow rs a S (lkAll rs (srAt S a).1 lim)) else S
def srAll (rs : List RuleT) (s : ByteArray) (lim : Int) : List SrT := srGo rs lim 131073 0 [(s, -1, (0, 0, false), 0)]
theorem srWords_len (S : List SrT) : (srWords S).length = S.length := by simp [srWords]
theorem srAdd_some {rs : List RuleT} {a : Nat} {S : List SrT} {x : LinkT} {i : Nat} (h : fnd (srWords S) (linkS rs (srAt S a).1 x) = some i) : srAdd rs a S x = S := by rw [srAdd, h]
theorem srAdd_none {rs : List RuleT} {a : Nat} {S : List SrT} {x : LinkT} (h : fnd (srWords S) (linkS rs (srAt S a).1 x) = none) : srAdd rs a S x = S ++ [(linkS rs (srAt S a).1 x, (a : Int), x, (srAt S a).2.2.2 + 1)] := by rw [srAdd, h]
theorem srAt_app {S T : List SrT} {a : Nat} (h : a < S.length) : srAt (S ++ T) a = srAt S a := by
  unfold srAt
  rw [List.getD_eq_getElem?_getD, List.getD_eq_getElem?_getD, List.getElem?_append_left h]
theorem srRow_snoc (rs : List RuleT) (a : Nat) (S : List SrT) (xs : List LinkT) (x : LinkT) : srRow rs a S (xs ++ [x]) = srAdd rs a (srRow rs a S xs) x := by rw [srRow, List.foldl_append]; rfl
theorem srGo_end {rs : List RuleT} {lim : Int} {f a : Nat} {S : List SrT} (h : S.length ≤ a) : srGo rs lim f a S = S := by
  cases f with
  | zero => rfl
  | succ f => rw [srGo, if_neg (by omega)]
theorem srGo_go {rs : List RuleT} {lim : Int} {f a : Nat} {S : List SrT} (hf : 0 < f) (h : a < S.length) : srGo rs lim f a S = srGo rs lim (f - 1) (a + 1) (srRow rs a S (lkAll rs (srAt S a).1 lim)) := by
  obtain ⟨f, rfl⟩ : ∃ f', f = f' + 1 := ⟨f - 1, by omega⟩
  rw [srGo, if_pos h]; rfl

theorem letters_app {k : Int} {a b : ByteArray} (ha : lettersOk k a = true) (hb : lettersOk k b = true) : lettersOk k (a ++ b) = true := by
  unfold lettersOk at *
  rw [ByteArray.data_append, Array.toList_append, List.all_append, ha, hb]; rfl
theorem letters_ext {k : Int} {s : ByteArray} (h : lettersOk k s = true) (i j : Nat) : lettersOk k (s.extract i j) = true := by
  unfold lettersOk at *
  rw [List.all_eq_true] at *
  intro b hb
  refine h b ?_
  rw [ByteArray.data_extract, Array.toList_extract, List.extract_eq_take_drop] at hb
  exact List.mem_of_mem_drop (List.mem_of_mem_take hb)
theorem link_letters {l : Int} {rs : List RuleT} {s : ByteArray} {x : LinkT} (hro : rulesOk l rs = true) (hs : lettersOk l s = true) (h : linkOk rs s x = true) : lettersOk l (linkS rs s x) = true := by
  have hh : linkHit rs s x = true := by
    unfold linkOk at h
    rw [Bool.and_eq_true] at h
    exact h.1
  have hr : replOk s x.2.1 (linkFrom rs x).size (linkTo rs x) = true := by
    unfold linkOk at h
    rw [Bool.and_eq_true] at h
    exact h.2
  rw [(link_yes hh).2, replS_yes hr]
  have hb : lettersOk l (linkTo rs x) = true := by
    have h1 := hh
    unfold linkHit at h1
    rw [Bool.and_eq_true, Bool.and_eq_true] at h1
    have h2 := inB_out h1.1.1.symm
    have hk : x.1.toNat < rs.length := by omega
    have hm : rs[x.1.toNat] ∈ rs := List.getElem_mem hk
    unfold rulesOk at hro
    simp only [Bool.and_eq_true] at hro
    have h3 := List.all_eq_true.1 hro.2 _ hm
    unfold ruleOk sidesOk at h3
    simp only [Bool.and_eq_true] at h3
    have e : ruleAt rs x.1.toNat = rs[x.1.toNat] := ruleAt_get hk
    unfold linkTo
    rw [e]
    split
    · exact (wordOk_out h3.1.1.1.1).2.2.2
    · exact (wordOk_out h3.1.1.1.2).2.2.2
  exact letters_app (letters_app (letters_ext hs _ _) hb) (letters_ext hs _ _)
theorem lk_mem {rs : List RuleT} {s : ByteArray} {lim : Int} {x : LinkT} (h : x ∈ lkAll rs s lim) : linkOk rs s x = true ∧ ((linkS rs s x).size : Int) ≤ lim := by
  unfold lkAll lkAcc at h
  obtain ⟨p, _, h⟩ := List.mem_flatMap.1 h
  unfold lkRow at h
  obtain ⟨k, _, h⟩ := List.mem_flatMap.1 h
  unfold lkCell at h
  obtain ⟨b, hb, rfl⟩ := List.mem_map.1 h
  have h2 := (List.mem_filter.1 hb).2
  unfold lkHit at h2
  rw [Bool.and_eq_true, decide_eq_true_eq] at h2
  exact h2
/-- All words that are reached are good and there is none twice. -/
def srGood (k : Int) (S : List SrT) : Prop := (srWords S).Nodup ∧ (∀ t ∈ srWords S, good8 k t) ∧ ∀ i, i < S.length → 0 ≤ (srAt S i).2.2.2 ∧ (srAt S i).2.2.2 ≤ (i : Int)
theorem srAt_word {S : List SrT} {a : Nat} (h : a < S.length) : (srAt S a).1 ∈ srWords S := by
  unfold srAt
  rw [List.getD_eq_getElem?_getD, List.getElem?_eq_getElem h]
  exact List.mem_map.2 ⟨S[a], List.getElem_mem h, rfl⟩
theorem srAdd_good {l : Int} {rs : List RuleT} {lim : Int} {a : Nat} {S : List SrT} {x : LinkT} (hro : rulesOk l rs = true) (hl : lim ≤ 8) (hg : srGood l S) (ha : a < S.length) (hx : x ∈ lkAll rs (srAt S a).1 lim) : srGood l (srAdd rs a S x) ∧ ∃ T, srAdd rs a S x = S ++ T := by
  cases hf : fnd (srWords S) (linkS rs (srAt S a).1 x) with
  | some i => rw [srAdd_some hf]; exact ⟨hg, [], by simp⟩
  | none =>
    rw [srAdd_none hf]
    have hw := hg.2.1 _ (srAt_word ha)
    obtain ⟨h1, h2⟩ := lk_mem hx
    have hy : good8 l (linkS rs (srAt S a).1 x) := ⟨hw.1, link_letters hro hw.2.1 h1, by omega⟩
    refine ⟨⟨?_, ?_, ?_⟩, _, rfl⟩
    · rw [srWords, List.map_append]
      refine List.nodup_append.2 ⟨hg.1, by simp, ?_⟩
      intro t ht u hu e
      simp only [List.map_cons, List.map_nil, List.mem_singleton] at hu
      rw [e, hu] at ht
      exact fnd_mem hf ht
    · intro t ht
      rw [srWords, List.map_append, List.mem_append] at ht
      rcases ht with ht | ht
      · exact hg.2.1 t ht
      · simp only [List.map_cons, List.map_nil, List.mem_singleton] at ht
        rw [ht]; exact hy
    · intro i hi
      rw [List.length_append] at hi
      by_cases hlt : i < S.length
      · rw [srAt_app hlt]; exact hg.2.2 i hlt
      · have hi2 : i = S.length := by simp at hi; omega
        have h5 := hg.2.2 a ha
        have e : srAt (S ++ [(linkS rs (srAt S a).1 x, (a : Int), x, (srAt S a).2.2.2 + 1)]) i = (linkS rs (srAt S a).1 x, (a : Int), x, (srAt S a).2.2.2 + 1) := by
          unfold srAt
          rw [hi2, List.getD_eq_getElem?_getD, List.getElem?_append_right (Nat.le_refl _), Nat.sub_self]
          rfl
        rw [e]
        dsimp only
        omega
theorem srRow_good {l : Int} {rs : List RuleT} {lim : Int} {a : Nat} (hro : rulesOk l rs = true) (hl : lim ≤ 8) : ∀ (xs : List LinkT) (S : List SrT), srGood l S → a < S.length → (∀ x ∈ xs, x ∈ lkAll rs (srAt S a).1 lim) → srGood l (srRow rs a S xs) ∧ ∃ T, srRow rs a S xs = S ++ T
  | [], S, hg, _, _ => ⟨hg, [], by simp [srRow]⟩
  | x :: xs, S, hg, ha, hx => by
    obtain ⟨h1, T, hT⟩ := srAdd_good hro hl hg ha (hx x List.mem_cons_self)
    have e : srRow rs a S (x :: xs) = srRow rs a (srAdd rs a S x) xs := rfl
    rw [e]
    have ha2 : a < (srAdd rs a S x).length := by rw [hT, List.length_append]; omega
    have hw : srAt (srAdd rs a S x) a = srAt S a := by rw [hT]; exact srAt_app ha
    obtain ⟨h2, U, hU⟩ := srRow_good hro hl xs _ h1 ha2 (fun y hy => by rw [hw]; exact hx y (List.mem_cons_of_mem _ hy))
    exact ⟨h2, T ++ U, by rw [hU, hT, List.append_assoc]⟩
theorem srGood_len {l : Int} {S : List SrT} (h : srGood l S) : S.length ≤ 131072 := by
  have := words_few h.1 h.2.1
  rwa [srWords_len] at this

end Go.Proofs.Ytidmbeeadbedaaa
