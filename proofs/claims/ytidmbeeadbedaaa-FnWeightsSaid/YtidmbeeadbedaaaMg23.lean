/- Merged texts: a claim has a limit of files. -/
import Derived.Test.YtidmbeeadbedaaaWeiP
import Derived.Test.YtidmbeeadbedaaaMg20
import Derived.Test.YtidmbeeadbedaaaMg4
import Derived.Test.YtidmbeeadbedaaaChain

/- More plain words for the law FnWeights: what a chain and what different weights tell. No walk, no condition. -/
namespace Go.Proofs.Ytidmbeeadbedaaa
open Go.RowKit Go.Shelf

variable {l : Int} {rs : List RuleT}
theorem chain_weight {m : Int} {ws : List Int} (hk : keepsAll m ws rs = true) {u e : ByteArray} {xs : List LinkT} {vs : List ByteArray} (h : Chn rs u xs vs e) : ∀ v ∈ vs, weightV m ws u = weightV m ws v := by
  induction h with
  | nil u => intro v hv; rw [List.mem_singleton.1 hv]
  | cons ho _ ih =>
    intro v hv
    rcases List.mem_cons.1 hv with rfl | hv
    · rfl
    · rw [← ih v hv, link_weight (l := 0) hk ho]
theorem wa_same {m : Int} {u v : ByteArray} (h : ∀ ws, keepsAll m ws rs = true → weightV m ws u = weightV m ws v) : waL l rs m u v = [] ∧ waOk l rs m u v = false := by
  refine wa_none ?_
  unfold waF
  split
  · rw [List.find?_eq_none]
    intro ws hws
    have hk := (List.mem_filter.1 hws).2
    unfold apartW
    rw [h ws hk]
    simp
  · rfl
theorem la_same {u v : ByteArray} (h : ∀ (m : Int) ws, keepsAll m ws rs = true → weightV m ws u = weightV m ws v) : laN l rs u v = 0 := la_none fun y _ _ => (wa_same (h y)).2
theorem apart_facts {L M : Nat} {s v : ByteArray} (hsy : systemOk (L : Int) rs = true) (h1 : 1 ≤ M) (h4 : M ≤ 4) (hs : wordOk (L : Int) s = true) (hv : wordOk (L : Int) v = true) (h : waOk (L : Int) rs (M : Int) s v = true) :
    wOk (M : Int) (waL (L : Int) rs (M : Int) s v) s = true ∧ wOk (M : Int) (waL (L : Int) rs (M : Int) s v) v = true ∧ wRes (M : Int) (waL (L : Int) rs (M : Int) s v) s ≠ wRes (M : Int) (waL (L : Int) rs (M : Int) s v) v ∧ addOk (M : Int) (waL (L : Int) rs (M : Int) s v) (waL (L : Int) rs (M : Int) s v) = true ∧
      keepsW (L : Int) rs (M : Int) (waL (L : Int) rs (M : Int) s v) = true ∧ keepsW (L : Int) rs (M : Int) (addW (M : Int) (waL (L : Int) rs (M : Int) s v) (waL (L : Int) rs (M : Int) s v)) = true ∧ pfOk (L : Int) rs s v = false ∧ 1 < M := by
  obtain ⟨q1, q4, -⟩ := sys_in hsy
  cases hf : waF (L : Int) rs (M : Int) s v with
  | none => rw [(wa_none hf).2] at h; cases h
  | some a =>
    rw [(wa_some hf).1]
    unfold waF at hf
    split at hf
    · have hmem := List.mem_of_find?_eq_some hf
      have hap := List.find?_some hf
      have hk := (List.mem_filter.1 hmem).2
      obtain ⟨hl, hb⟩ := kept_mem (by omega) hmem
      rw [Int.toNat_natCast] at hl
      have hne : weightV (M : Int) a s ≠ weightV (M : Int) a v := by
        unfold apartW at hap
        simpa using hap
      have hd : Dig M L a := ⟨hl, fun d hd => by
        obtain ⟨i, hi, rfl⟩ := List.mem_iff_getElem.1 hd
        exact hb i hi⟩
      have wts : ∀ b : List Int, Dig M L b → wtsOk (M : Int) b = true := fun b hb => by
        unfold wtsOk inB
        simp only [Bool.and_eq_true, decide_eq_true_eq, List.all_eq_true]
        refine ⟨⟨⟨by omega, by omega⟩, by rw [hb.1]; omega, by rw [hb.1]; omega⟩, fun x hx => ?_⟩
        have := hb.2 x hx
        omega
      have hw1 : wOk (M : Int) a s = true := by unfold wOk; rw [wts a hd, hl, hs]; rfl
      have hw2 : wOk (M : Int) a v = true := by unfold wOk; rw [wts a hd, hl, hv]; rfl
      have hao : addOk (M : Int) a a = true := by unfold addOk; rw [wts a hd]; simp
      have hks : ∀ b : List Int, Dig M L b → keepsAll (M : Int) b rs = true → keepsW (L : Int) rs (M : Int) b = true := fun b hb hk => by
        unfold keepsW
        rw [sys_rules hsy, wts b hb, hb.1, hk]
        simp
      have hg := keeps_grp M L rs
      have hkk : keepsAll (M : Int) (addS (M : Int) a a) rs = true := by
        have := hg.add a a hd hd hk
        rw [this]; exact hk
      refine ⟨hw1, hw2, ?_, hao, hks a hd hk, ?_, ?_, ?_⟩
      · unfold wRes
        rw [if_pos hw1, if_pos hw2]
        exact hne
      · rw [addW_yes hao]
        exact hks _ (add_dig (by omega) hd hd) hkk
      · cases hp : pfOk (L : Int) rs s v with
        | false => rfl
        | true =>
          unfold pfOk at hp
          simp only [Bool.and_eq_true, beq_iff_eq] at hp
          have e : normS rs s = normS rs v := bytes_inj (by rw [← ByteArray.toList_eq, ← ByteArray.toList_eq]; exact hp.1.2)
          refine absurd ?_ hne
          rw [← norm_weight hsy hk _ s (Nat.le_refl _) hs, ← norm_weight hsy hk _ v (Nat.le_refl _) hv, e]
      · rcases Nat.lt_or_ge 1 M with h5 | h5
        · exact h5
        · have : M = 1 := by omega
          subst this
          refine absurd ?_ hne
          unfold weightV
          rw [show ((1 : Nat) : Int) = 1 from rfl, Int.emod_one, Int.emod_one]
    · cases hf

end Go.Proofs.Ytidmbeeadbedaaa

/- What the walk of FnSearch needs besides: distances are small, a cell of a row, and the law's own comparison of two lists of words. -/
namespace Go.Proofs.Ytidmbeeadbedaaa
open Go.RowKit Go.Shelf

theorem rd_get {w : World} {b off : Nat} {xs : List Value} (h : Rd w (some ⟨b, off, none⟩) xs) {j : Nat} {u : Value} (hu : xs[j]? = some u) : w.cell? ⟨b, off + j, none⟩ = some u := by
  obtain ⟨b', off', e, -, hc⟩ := h (by intro e; rw [e] at hu; cases hu)
  have e2 : b = b' ∧ off = off' := by
    injection e with e
    injection e with e1 e2
    exact ⟨e1, e2⟩
  obtain ⟨rfl, rfl⟩ := e2
  exact hc j u hu
theorem rd_some {w : World} {A : Option Addr} {xs : List Value} (h : Rd w A xs) (hx : 0 < xs.length) : ∃ b off, A = some ⟨b, off, none⟩ := by
  obtain ⟨b, off, e, -⟩ := h (by intro e; rw [e] at hx; exact absurd hx (Nat.not_lt_zero _))
  exact ⟨b, off, e⟩
theorem strs_at {ws : List ByteArray} {j : Nat} (h : j < ws.length) : (strs ws)[j]? = some (.string ws[j]) := by simp [strs, h]

end Go.Proofs.Ytidmbeeadbedaaa
