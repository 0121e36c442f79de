/- Plain words for the program's search: what its map holds of each word that is reached. No walk, no condition. -/
import Derived.Test.YtidmbeeadbedaaaMg10
namespace Go.Proofs.Ytidmbeeadbedaaa
open Go.RowKit Go.Shelf

/-- From which word the i-th word was reached. -/
def srFromW (S : List SrT) (i : Nat) : ByteArray := if (srAt S i).2.1 = -1 then ⟨#[45]⟩ else (srAt S (srAt S i).2.1.toNat).1
abbrev ArrT : Type := ByteArray × LinkT × Int
def arrOf (S : List SrT) (i : Nat) : ArrT := (srFromW S i, (srAt S i).2.2.1, (srAt S i).2.2.2)
def arrV (x : ArrT) : Value := .agg #[.string x.1, .int .i64 x.2.1.1, .int .i64 x.2.1.2.1, .bool x.2.1.2.2, .int .i64 x.2.2]
def encA (x : ArrT) : DataW Unit := .agg [.lit (.string x.1.data.toList), .lit (.int .i64 x.2.1.1), .lit (.int .i64 x.2.1.2.1), .lit (.bool x.2.1.2.2), .lit (.int .i64 x.2.2)]
/-- How an arrival in the map reads. -/
def arrR (v : Value) : Option (DataW Unit × List MemPlace) := match v with
  | .agg cs => match cs.toList with
    | [.string f, .int .i64 a, .int .i64 b, .bool k, .int .i64 d] => some (encA (f, (a, b, k), d), [])
    | _ => none
  | _ => none
theorem arrR_mk (x : ArrT) : arrR (arrV x) = some (encA x, []) := rfl
theorem arrR_inv {v : Value} {x : ArrT} {ps : List MemPlace} (h : arrR v = some (encA x, ps)) : v = arrV x := by
  unfold arrR at h
  split at h
  · next cs =>
    split at h
    · next f a b k d he =>
      injection h with h
      injection h with h _
      obtain ⟨x0, ⟨x1, x2, x3⟩, x4⟩ := x
      simp only [encA, DataW.agg.injEq, List.cons.injEq, DataW.lit.injEq, Lit.string.injEq, Lit.int.injEq, Lit.bool.injEq, true_and, and_true] at h
      obtain ⟨h0, h1, h2, h3, h4⟩ := h
      have hf : f = x0 := by cases f; cases x0; simp_all
      subst hf h1 h2 h3 h4
      unfold arrV
      congr 1
      apply Array.toList_inj.1
      rw [he]
    · cases h
  · cases h
/-- Each word but the first was reached from one before it, by one link more. -/
def srWf (S : List SrT) : Prop := ∀ i, i < S.length → (i = 0 ∧ (srAt S i).2.1 = -1 ∧ (srAt S i).2.2.2 = 0) ∨ (0 ≤ (srAt S i).2.1 ∧ (srAt S i).2.1 < (i : Int) ∧ (srAt S i).2.2.2 = (srAt S (srAt S i).2.1.toNat).2.2.2 + 1)
theorem srAt_last (S : List SrT) (t : SrT) : srAt (S ++ [t]) S.length = t := by
  unfold srAt
  rw [List.getD_eq_getElem?_getD, List.getElem?_append_right (Nat.le_refl _), Nat.sub_self]
  rfl
theorem srWf_snoc {S : List SrT} {a : Nat} {y : ByteArray} {x : LinkT} (h : srWf S) (ha : a < S.length) : srWf (S ++ [(y, (a : Int), x, (srAt S a).2.2.2 + 1)]) := fun i hi => by
  rw [List.length_append] at hi
  by_cases hlt : i < S.length
  · rw [srAt_app hlt]
    rcases h i hlt with h1 | ⟨h1, h2, h3⟩
    · exact .inl h1
    · refine .inr ⟨h1, h2, ?_⟩
      rw [srAt_app (by omega)]
      exact h3
  · have hi2 : i = S.length := by simp at hi; omega
    subst hi2
    rw [srAt_last]
    refine .inr ⟨by dsimp only; omega, by dsimp only; omega, ?_⟩
    dsimp only
    rw [Int.toNat_natCast, srAt_app ha]
theorem srWf_add {rs : List RuleT} {a : Nat} {S : List SrT} {x : LinkT} (h : srWf S) (ha : a < S.length) : srWf (srAdd rs a S x) := by
  cases hf : fnd (srWords S) (linkS rs (srAt S a).1 x) with
  | some i => rw [srAdd_some hf]; exact h
  | none => rw [srAdd_none hf]; exact srWf_snoc h ha
theorem srFromW_app {S T : List SrT} {i : Nat} (h : srWf S) (hi : i < S.length) : srFromW (S ++ T) i = srFromW S i := by
  unfold srFromW
  rw [srAt_app hi]
  split
  · rfl
  · next hne =>
    rcases h i hi with h1 | ⟨h1, h2, _⟩
    · exact absurd h1.2.1 hne
    · rw [srAt_app (by omega)]
theorem arrOf_app {S T : List SrT} {i : Nat} (h : srWf S) (hi : i < S.length) : arrOf (S ++ T) i = arrOf S i := by
  unfold arrOf
  rw [srFromW_app h hi, srAt_app hi]
theorem arrOf_last {S : List SrT} {a : Nat} {y : ByteArray} {x : LinkT} {f : Int} (ha : a < S.length) : arrOf (S ++ [(y, (a : Int), x, f)]) S.length = ((srAt S a).1, x, f) := by
  unfold arrOf srFromW
  rw [srAt_last]
  dsimp only
  rw [if_neg (by omega), Int.toNat_natCast, srAt_app ha]
/-- The map holds what is known of each word that is reached. -/
def MapSr (D : DataW Unit) (S : List SrT) : Prop := Maps.IsMap D ∧ ∀ s : ByteArray, Maps.has D (.string s.data.toList) = (fnd (srWords S) s).isSome ∧ ∀ i z, fnd (srWords S) s = some i → D.atKey (.string s.data.toList) z = encA (arrOf S i)
theorem MapSr.snoc {D : DataW Unit} {S : List SrT} (h : MapSr D S) (hw : srWf S) {a : Nat} {y : ByteArray} {x : LinkT} {f : Int} (ha : a < S.length) (hy : fnd (srWords S) y = none) : MapSr (D.put (.string y.data.toList) (encA ((srAt S a).1, x, f))) (S ++ [(y, (a : Int), x, f)]) := by
  have hk : WideAt.IsKeyLit (Lit.string y.data.toList) := trivial
  have hws : srWords (S ++ [(y, (a : Int), x, f)]) = srWords S ++ [y] := by simp [srWords]
  refine ⟨?_, fun s => ?_⟩
  · obtain ⟨es, rfl⟩ := h.1
    exact ⟨_, rfl⟩
  rw [hws]
  by_cases hs : y = s
  · subst hs
    rw [fnd_snoc, hy, if_pos rfl]
    refine ⟨Maps.has_put_same h.1 hk _, fun i z hi => ?_⟩
    injection hi with hi
    subst hi
    rw [Maps.atKey_put_same h.1 hk, srWords_len, arrOf_last ha]
  · have hf : fnd (srWords S ++ [y]) s = fnd (srWords S) s := by
      rw [fnd_snoc]
      cases fnd (srWords S) s with
      | some i => rfl
      | none => simp [hs]
    rw [hf, Maps.has_put_other (key_ne hs)]
    refine ⟨(h.2 s).1, fun i z hi => ?_⟩
    rw [Maps.atKey_put_other (key_ne hs), (h.2 s).2 i z hi, arrOf_app hw (by rw [← srWords_len]; exact fnd_lt hi)]
theorem MapSr.first (s : ByteArray) : MapSr ((DataW.map []).put (.string s.data.toList) (encA (⟨#[45]⟩, (0, 0, false), 0))) [(s, -1, (0, 0, false), 0)] := by
  have hk : WideAt.IsKeyLit (Lit.string s.data.toList) := trivial
  refine ⟨⟨_, rfl⟩, fun t => ?_⟩
  have hws : srWords [(s, -1, (0, 0, false), 0)] = [s] := rfl
  rw [hws]
  by_cases hs : s = t
  · subst hs
    have hf : fnd [s] s = some 0 := by rw [fnd, if_pos rfl]
    rw [hf]
    refine ⟨Maps.has_put_same ⟨_, rfl⟩ hk _, fun i z hi => ?_⟩
    injection hi with hi
    subst hi
    rw [Maps.atKey_put_same ⟨_, rfl⟩ hk]
    rfl
  · have hf : fnd [s] t = none := by rw [fnd, if_neg hs]; rfl
    rw [hf, Maps.has_put_other (key_ne hs)]
    exact ⟨rfl, fun i z hi => by cases hi⟩

theorem fnd_nodup {ws : List ByteArray} (hn : ws.Nodup) {a : Nat} (h : a < ws.length) : fnd ws ws[a] = some a := by
  refine fnd_hit h (fun k y hk hy e => ?_) (List.getElem?_eq_getElem h)
  have hk2 : k < ws.length := by omega
  have h1 := (List.pairwise_iff_getElem.1 hn) k a hk2 h hk
  rw [List.getElem?_eq_getElem hk2] at hy
  injection hy with hy
  exact h1 (hy.trans e)

end Go.Proofs.Ytidmbeeadbedaaa
