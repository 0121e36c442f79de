/- Merged texts: a claim has a limit of files. -/
import Derived.Test.YtidmbeeadbedaaaMg9
import Derived.Test.YtidmbeeadbedaaaSearchOk
import Derived.Test.YtidmbeeadbedaaaMg8
import Derived.Test.YtidmbeeadbedaaaMg1

/- Plain words for the program's search: what its map holds of each word that is reached. No walk, no condition. -/
namespace Go.Proofs.Ytidmbeeadbedaaa
open Go.RowKit Go.Shelf

/-- From which word the i-th word was reached. -/
def srFromW (S : List SrT) (i : Nat) : ByteArray := if (srAt S i).2.1 = -1 then ⟨#[45]⟩ else (srAt S (srAt S i).2.1.toNat).1
abbrev ArrT : Type := ByteArray × LinkT × Int
def arrOf (S : List SrT) (i : Nat) : ArrT := (srFromW S i, (srAt S i).2.2.1, (srAt S i).2.2.2)
def encA (x : ArrT) : DataW Unit := .agg [.lit (.string x.1.data.toList), .lit (.int .i64 x.2.1.1), .lit (.int .i64 x.2.1.2.1), .lit (.bool x.2.1.2.2), .lit (.int .i64 x.2.2)]
/-- Each word but the first was reached from one before it, by one link more. -/
def srWf (S : List SrT) : Prop := ∀ i, i < S.length → (i = 0 ∧ (srAt S i).2.1 = -1 ∧ (srAt S i).2.2.2 = 0) ∨ (0 ≤ (srAt S i).2.1 ∧ (srAt S i).2.1 < (i : Int) ∧ (srAt S i).2.2.2 = (srAt S (srAt S i).2.1.toNat).2.2.2 + 1)
theorem srAt_last (S : List SrT) (t : SrT) : srAt (S ++ [t]) S.length = t := by
  unfold srAt
  rw [List.getD_eq_getElem?_getD, List.getElem?_append_right (Nat.le_refl _), Nat.sub_self]
  rfl
theorem srFromW_app {S T : List SrT} {i : Nat} (h : srWf S) (hi : i < S.length) : srFromW (S ++ T) i = srFromW S i := by
  unfold srFromW
  rw [srAt_app hi]
  split
  · rfl
  · next hne =>
    rcases h i hi with h1 | ⟨h1, h2, _⟩
    · exact absurd h1.2.1 hne
    · rw [srAt_app (by omega)]
theorem arrOf_app {S T : List SrT} {i : Nat} (h : srWf S) (hi : i < S.length) : arrOf (S ++ T) i = arrOf S i := by
  unfold arrOf
  rw [srFromW_app h hi, srAt_app hi]
theorem arrOf_last {S : List SrT} {a : Nat} {y : ByteArray} {x : LinkT} {f : Int} (ha : a < S.length) : arrOf (S ++ [(y, (a : Int), x, f)]) S.length = ((srAt S a).1, x, f) := by
  unfold arrOf srFromW
  rw [srAt_last]
  dsimp only
  rw [if_neg (by omega), Int.toNat_natCast, srAt_app ha]
/-- The map holds what is known of each word that is reached. -/
def MapSr (D : DataW Unit) (S : List SrT) : Prop := Maps.IsMap D ∧ ∀ s : ByteArray, Maps.has D (.string s.data.toList) = (fnd (srWords S) s).isSome ∧ ∀ i z, fnd (srWords S) s = some i → D.atKey (.string s.data.toList) z = encA (arrOf S i)
theorem MapSr.snoc {D : DataW Unit} {S : List SrT} (h : MapSr D S) (hw : srWf S) {a : Nat} {y : ByteArray} {x : LinkT} {f : Int} (ha : a < S.length) (hy : fnd (srWords S) y = none) : MapSr (D.put (.string y.data.toList) (encA ((srAt S a).1, x, f))) (S ++ [(y, (a : Int), x, f)]) := by
  have hk : WideAt.IsKeyLit (Lit.string y.data.toList) := trivial
  have hws : srWords (S ++ [(y, (a : Int), x, f)]) = srWords S ++ [y] := by simp [srWords]
  refine ⟨?_, fun s => ?_⟩
  · obtain ⟨es, rfl⟩ := h.1
    exact ⟨_, rfl⟩
  rw [hws]
  by_cases hs : y = s
  · subst hs
    rw [fnd_snoc, hy, if_pos rfl]
    refine ⟨Maps.has_put_same h.1 hk _, fun i z hi => ?_⟩
    injection hi with hi
    subst hi
    rw [Maps.atKey_put_same h.1 hk, srWords_len, arrOf_last ha]
  · have hf : fnd (srWords S ++ [y]) s = fnd (srWords S) s := by
      rw [fnd_snoc]
      cases fnd (srWords S) s with
      | some i => rfl
      | none => simp [hs]
    rw [hf, Maps.has_put_other (key_ne hs)]
    refine ⟨(h.2 s).1, fun i z hi => ?_⟩
    rw [Maps.atKey_put_other (key_ne hs), (h.2 s).2 i z hi, arrOf_app hw (by rw [← srWords_len]; exact fnd_lt hi)]
theorem MapSr.first (s : ByteArray) : MapSr ((DataW.map []).put (.string s.data.toList) (encA (⟨#[45]⟩, (0, 0, false), 0))) [(s, -1, (0, 0, false), 0)] := by
  have hk : WideAt.IsKeyLit (Lit.string s.data.toList) := trivial
  refine ⟨⟨_, rfl⟩, fun t => ?_⟩
  have hws : srWords [(s, -1, (0, 0, false), 0)] = [s] := rfl
  rw [hws]
  by_cases hs : s = t
  · subst hs
    have hf : fnd [s] s = some 0 := by rw [fnd, if_pos rfl]
    rw [hf]
    refine ⟨Maps.has_put_same ⟨_, rfl⟩ hk _, fun i z hi => ?_⟩
    injection hi with hi
    subst hi
    rw [Maps.atKey_put_same ⟨_, rfl⟩ hk]
    rfl
  · have hf : fnd [s] t = none := by rw [fnd, if_neg hs]; rfl
    rw [hf, Maps.has_put_other (key_ne hs)]
    exact ⟨rfl, fun i z hi => by cases hi⟩

end Go.Proofs.Ytidmbeeadbedaaa

/- Walks over TurnProof (the program's and the reference's): both hand back the links turned round. -/
namespace Go.Proofs.Ytidmbeeadbedaaa
open Go.RowKit Go.Shelf

/-- The cells zs are those of n links, the q-th of them F q. -/
def At (zs : List Value) (n : Nat) (F : Nat → LinkT) : Prop := zs.length = n * 3 ∧ ∀ q, q < n → zs[q * 3]? = some (.int .i64 (F q).1) ∧ zs[q * 3 + 1]? = some (.int .i64 (F q).2.1) ∧ zs[q * 3 + 2]? = some (.bool (F q).2.2)

theorem At.all {zs : List Value} {n : Nat} {F : Nat → LinkT} (h : At zs n F) {ls : List LinkT} (hl : ls.length = n) (hF : ∀ q (hq : q < ls.length), F q = ls[q]) : zs = cellsLink ls := by
  apply List.ext_getElem?
  intro j
  rcases Nat.lt_or_ge j (n * 3) with hj | hj
  · have hq : j / 3 < n := by omega
    obtain ⟨h0, h1, h2⟩ := h.2 (j / 3) hq
    have hq2 : j / 3 < ls.length := by omega
    rw [hF _ hq2] at h0 h1 h2
    have hr : j % 3 = 0 ∨ j % 3 = 1 ∨ j % 3 = 2 := by omega
    rcases hr with hr | hr | hr
    · have e : j = j / 3 * 3 := by omega
      rw [e, h0]
      exact (flat_get (enc := encLink) (m := 3) (fun _ => rfl) ls (j / 3) 0 hq2 (by omega)).symm
    · have e : j = j / 3 * 3 + 1 := by omega
      rw [e, h1]
      exact (flat_get (enc := encLink) (m := 3) (fun _ => rfl) ls (j / 3) 1 hq2 (by omega)).symm
    · have e : j = j / 3 * 3 + 2 := by omega
      rw [e, h2]
      exact (flat_get (enc := encLink) (m := 3) (fun _ => rfl) ls (j / 3) 2 hq2 (by omega)).symm
  · rw [List.getElem?_eq_none (by rw [h.1]; exact hj), List.getElem?_eq_none (by rw [cellsLink_len, hl]; exact hj)]
theorem At.congr {zs : List Value} {n : Nat} {F G : Nat → LinkT} (h : At zs n F) (e : ∀ q, q < n → F q = G q) : At zs n G := ⟨h.1, fun q hq => by rw [← e q hq]; exact h.2 q hq⟩

theorem own_form {w : World} {base : Nat} {t : TypeId} {m n : Nat} {v : Value} {xs : List Value} (h : w.ownsRow base t m v n xs) : ∃ A c, v = .slice A n c := by
  rcases h.2 with ⟨h1, h2⟩ | ⟨g, cap, cur, hv, _⟩
  · exact ⟨none, 0, by rw [h1, h2]⟩
  · exact ⟨_, _, hv⟩

end Go.Proofs.Ytidmbeeadbedaaa
