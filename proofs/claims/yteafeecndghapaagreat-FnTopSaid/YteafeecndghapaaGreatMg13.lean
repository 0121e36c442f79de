/- Merged texts: a claim has a limit of files. -/
import Derived.Test.YteafeecndghapaaGreatMg12
import Derived.Test.YteafeecndghapaaGreatMg11
import Derived.Test.YteafeecndghapaaGreatMg1
import Derived.Maps.OwnSet
import Derived.Test.YteafeecndghapaaGreatMg3
import Derived.Test.YteafeecndghapaaGreatMg2
import Derived.Test.YteafeecndghapaaGreatMg4
import Derived.Test.YteafeecndghapaaGreatMg8

/- Plain words for the program's search: what its map holds of each word that is reached. No walk, no condition. -/
namespace Go.Proofs.YteafeecndghapaaGreat
open Go.RowKit Go.Shelf

/-- From which word the i-th word was reached. -/
def srFromW (S : List SrT) (i : Nat) : ByteArray := if (srAt S i).2.1 = -1 then ⟨#[45]⟩ else (srAt S (srAt S i).2.1.toNat).1
abbrev ArrT : Type := ByteArray × LinkT × Int
def arrOf (S : List SrT) (i : Nat) : ArrT := (srFromW S i, (srAt S i).2.2.1, (srAt S i).2.2.2)
def encA (x : ArrT) : DataW Unit := .agg [.lit (.string x.1.data.toList), .lit (.int .i64 x.2.1.1), .lit (.int .i64 x.2.1.2.1), .lit (.bool x.2.1.2.2), .lit (.int .i64 x.2.2)]
/-- Each word but the first was reached from one before it, by one link more. -/
def srWf (S : List SrT) : Prop := ∀ i, i < S.length → (i = 0 ∧ (srAt S i).2.1 = -1 ∧ (srAt S i).2.2.2 = 0) ∨ (0 ≤ (srAt S i).2.1 ∧ (srAt S i).2.1 < (i : Int) ∧ (srAt S i).2.2.2 = (srAt S (srAt S i).2.1.toNat).2.2.2 + 1)
theorem srAt_last (S : List SrT) (t : SrT) : srAt (S ++ [t]) S.length = t := by
  unfold srAt
  rw [List.getD_eq_getElem?_getD, List.getElem?_append_right (Nat.le_refl _), Nat.sub_self]
  rfl
theorem srFromW_app {S T : List SrT} {i : Nat} (h : srWf S) (hi : i < S.length) : srFromW (S ++ T) i = srFromW S i := by
  unfold srFromW
  rw [srAt_app hi]
  split
  · rfl
  · next hne =>
    rcases h i hi with h1 | ⟨h1, h2, _⟩
    · exact absurd h1.2.1 hne
    · rw [srAt_app (by omega)]
theorem arrOf_app {S T : List SrT} {i : Nat} (h : srWf S) (hi : i < S.length) : arrOf (S ++ T) i = arrOf S i := by
  unfold arrOf
  rw [srFromW_app h hi, srAt_app hi]
theorem arrOf_last {S : List SrT} {a : Nat} {y : ByteArray} {x : LinkT} {f : Int} (ha : a < S.length) : arrOf (S ++ [(y, (a : Int), x, f)]) S.length = ((srAt S a).1, x, f) := by
  unfold arrOf srFromW
  rw [srAt_last]
  dsimp only
  rw [if_neg (by omega), Int.toNat_natCast, srAt_app ha]
/-- The map holds what is known of each word that is reached. -/
def MapSr (D : DataW Unit) (S : List SrT) : Prop := Maps.IsMap D ∧ ∀ s : ByteArray, Maps.has D (.string s.data.toList) = (fnd (srWords S) s).isSome ∧ ∀ i z, fnd (srWords S) s = some i → D.atKey (.string s.data.toList) z = encA (arrOf S i)
theorem MapSr.snoc {D : DataW Unit} {S : List SrT} (h : MapSr D S) (hw : srWf S) {a : Nat} {y : ByteArray} {x : LinkT} {f : Int} (ha : a < S.length) (hy : fnd (srWords S) y = none) : MapSr (D.put (.string y.data.toList) (encA ((srAt S a).1, x, f))) (S ++ [(y, (a : Int), x, f)]) := by
  have hk : WideAt.IsKeyLit (Lit.string y.data.toList) := trivial
  have hws : srWords (S ++ [(y, (a : Int), x, f)]) = srWords S ++ [y] := by simp [srWords]
  refine ⟨?_, fun s => ?_⟩
  · obtain ⟨es, rfl⟩ := h.1
    exact ⟨_, rfl⟩
  rw [hws]
  by_cases hs : y = s
  · subst hs
    rw [fnd_snoc, hy, if_pos rfl]
    refine ⟨Maps.has_put_same h.1 hk _, fun i z hi => ?_⟩
    injection hi with hi
    subst hi
    rw [Maps.atKey_put_same h.1 hk, srWords_len, arrOf_last ha]
  · have hf : fnd (srWords S ++ [y]) s = fnd (srWords S) s := by
      rw [fnd_snoc]
      cases fnd (srWords S) s with
      | some i => rfl
      | none => simp [hs]
    rw [hf, Maps.has_put_other (key_ne hs)]
    refine ⟨(h.2 s).1, fun i z hi => ?_⟩
    rw [Maps.atKey_put_other (key_ne hs), (h.2 s).2 i z hi, arrOf_app hw (by rw [← srWords_len]; exact fnd_lt hi)]
theorem MapSr.first (s : ByteArray) : MapSr ((DataW.map []).put (.string s.data.toList) (encA (⟨#[45]⟩, (0, 0, false), 0))) [(s, -1, (0, 0, false), 0)] := by
  have hk : WideAt.IsKeyLit (Lit.string s.data.toList) := trivial
  refine ⟨⟨_, rfl⟩, fun t => ?_⟩
  have hws : srWords [(s, -1, (0, 0, false), 0)] = [s] := rfl
  rw [hws]
  by_cases hs : s = t
  · subst hs
    have hf : fnd [s] s = some 0 := by rw [fnd, if_pos rfl]
    rw [hf]
    refine ⟨Maps.has_put_same ⟨_, rfl⟩ hk _, fun i z hi => ?_⟩
    injection hi with hi
    subst hi
    rw [Maps.atKey_put_same ⟨_, rfl⟩ hk]
    rfl
  · have hf : fnd [s] t = none := by rw [fnd, if_neg hs]; rfl
    rw [hf, Maps.has_put_other (key_ne hs)]
    exact ⟨rfl, fun i z hi => by cases hi⟩

end Go.Proofs.YteafeecndghapaaGreat

/- Walks over TurnProof (the program's and the reference's): both hand back the links turned round. -/
namespace Go.Proofs.YteafeecndghapaaGreat
open Go.RowKit Go.Shelf

def flipL (x : LinkT) : LinkT := (x.1, x.2.1, !x.2.2)
/-- TurnProof, in plain words. -/
def turnL (ls : List LinkT) : List LinkT := ls.reverse.map flipL
/-- MadeSl with a slice that is not nil. -/
def MadeSlN (w : World) (t : TypeId) (m n : Nat) (xs : List Value) (e : Ending) (w' : World) : Prop :=
  ∃ a c, e = .returned (.slice (some a) n c) ∧ w'.ownsRow w.heap.size t m (.slice (some a) n c) n xs ∧ Below w.heap.size w w'


/-- The cells zs are those of n links, the q-th of them F q. -/
def At (zs : List Value) (n : Nat) (F : Nat → LinkT) : Prop := zs.length = n * 3 ∧ ∀ q, q < n → zs[q * 3]? = some (.int .i64 (F q).1) ∧ zs[q * 3 + 1]? = some (.int .i64 (F q).2.1) ∧ zs[q * 3 + 2]? = some (.bool (F q).2.2)

theorem At.all {zs : List Value} {n : Nat} {F : Nat → LinkT} (h : At zs n F) {ls : List LinkT} (hl : ls.length = n) (hF : ∀ q (hq : q < ls.length), F q = ls[q]) : zs = cellsLink ls := by
  apply List.ext_getElem?
  intro j
  rcases Nat.lt_or_ge j (n * 3) with hj | hj
  · have hq : j / 3 < n := by omega
    obtain ⟨h0, h1, h2⟩ := h.2 (j / 3) hq
    have hq2 : j / 3 < ls.length := by omega
    rw [hF _ hq2] at h0 h1 h2
    have hr : j % 3 = 0 ∨ j % 3 = 1 ∨ j % 3 = 2 := by omega
    rcases hr with hr | hr | hr
    · have e : j = j / 3 * 3 := by omega
      rw [e, h0]
      exact (flat_get (enc := encLink) (m := 3) (fun _ => rfl) ls (j / 3) 0 hq2 (by omega)).symm
    · have e : j = j / 3 * 3 + 1 := by omega
      rw [e, h1]
      exact (flat_get (enc := encLink) (m := 3) (fun _ => rfl) ls (j / 3) 1 hq2 (by omega)).symm
    · have e : j = j / 3 * 3 + 2 := by omega
      rw [e, h2]
      exact (flat_get (enc := encLink) (m := 3) (fun _ => rfl) ls (j / 3) 2 hq2 (by omega)).symm
  · rw [List.getElem?_eq_none (by rw [h.1]; exact hj), List.getElem?_eq_none (by rw [cellsLink_len, hl]; exact hj)]
theorem At.congr {zs : List Value} {n : Nat} {F G : Nat → LinkT} (h : At zs n F) (e : ∀ q, q < n → F q = G q) : At zs n G := ⟨h.1, fun q hq => by rw [← e q hq]; exact h.2 q hq⟩

theorem own_drew1 {w : World} {base : Nat} {t : TypeId} {m n : Nat} {v : Value} {xs : List Value} (h : w.ownsRow base t m v n xs) : w.drew.ownsRow base t m v n xs := h
theorem own_form {w : World} {base : Nat} {t : TypeId} {m n : Nat} {v : Value} {xs : List Value} (h : w.ownsRow base t m v n xs) : ∃ A c, v = .slice A n c := by
  rcases h.2 with ⟨h1, h2⟩ | ⟨g, cap, cur, hv, _⟩
  · exact ⟨none, 0, by rw [h1, h2]⟩
  · exact ⟨_, _, hv⟩


end Go.Proofs.YteafeecndghapaaGreat

/- Plain words for EqualWords: the order of words, an insertion into a sorted list, that every sorted list of the same words is one and the same, and the list of equal words. No walk, no condition. -/
namespace Go.Proofs.YteafeecndghapaaGreat
open Go.RowKit Go.Shelf

theorem bytesLess_is : ∀ (x y : List UInt8), Op.bytesLess x y = decide (x < y)
  | [], [] => by simp [Op.bytesLess]
  | _ :: _, [] => by simp [Op.bytesLess]
  | [], _ :: _ => by simp [Op.bytesLess]
  | a :: x, b :: y => by
    rw [Op.bytesLess, bytesLess_is x y]
    simp only [List.cons_lt_cons_iff]
    by_cases h1 : a < b <;> by_cases h2 : a = b <;> by_cases h3 : x < y <;> simp [h1, h2, h3]
theorem ba_one {a b : ByteArray} (h : a.toList = b.toList) : a = b := by
  rw [Lib.toList_data, Lib.toList_data] at h
  obtain ⟨⟨a⟩⟩ := a
  obtain ⟨⟨b⟩⟩ := b
  exact congrArg (fun l => ByteArray.mk ⟨l⟩) h
theorem lessW_total (x y : ByteArray) (h1 : lessW x y = false) (h2 : lessW y x = false) : x = y := by
  unfold lessW at *
  by_cases a : x.size = y.size
  · rw [if_pos a, bytesLess_is] at h1
    rw [if_pos a.symm, bytesLess_is] at h2
    simp only [decide_eq_false_iff_not, List.not_lt] at *
    exact ba_one (List.le_antisymm h2 h1)
  · rw [if_neg a] at h1
    rw [if_neg (by omega)] at h2
    simp only [decide_eq_false_iff_not] at *
    omega
end Go.Proofs.YteafeecndghapaaGreat

/- A rule that OrientRule hands back is in order. -/
namespace Go.Proofs.YteafeecndghapaaGreat
open Go.RowKit Go.Shelf

theorem less_left {x y : ByteArray} (h : lessW x y = true) : y.toList.isEmpty = false := by
  cases hy : y.toList with
  | cons a l => rfl
  | nil =>
    exfalso
    have hs : y.size = 0 := by
      rw [ByteArray.toList_eq] at hy
      have := congrArg List.length hy
      rw [bytes_len] at this
      exact this
    unfold lessW at h
    by_cases e : x.size = y.size
    · rw [if_pos e, hy] at h
      have hx : x.toList = [] := by
        rw [ByteArray.toList_eq]
        exact List.length_eq_zero_iff.1 (by rw [bytes_len]; omega)
      rw [hx] at h
      cases h
    · rw [if_neg e] at h
      have := of_decide_eq_true h
      omega
theorem sides_swap {l : Int} {x y : ByteArray} (h : sidesOk l x y = true) : sidesOk l y x = true := by
  unfold sidesOk at h ⊢
  simp only [Bool.and_eq_true] at h ⊢
  exact ⟨⟨⟨h.1.1.2, h.1.1.1⟩, h.2⟩, h.1.2⟩
theorem orient_good {l : Int} {x y o1 o2 : ByteArray} (h : orientR l x y = ((o1, o2), true)) : ruleOk l (o1, o2) = true ∧ fallsOk (o1, o2) = true := by
  unfold orientR at h
  by_cases h1 : (!sidesOk l x y || x.toList == y.toList) = true
  · rw [if_pos h1] at h
    injection h with _ h
    cases h
  · rw [if_neg h1] at h
    have h2 : sidesOk l x y = true ∧ x ≠ y := by
      constructor
      · cases hs : sidesOk l x y with
        | true => rfl
        | false => rw [hs] at h1; exact absurd rfl h1
      · rintro rfl
        exact h1 (by simp)
    by_cases h3 : lessW x y = true
    · rw [if_pos h3] at h
      injection h with h _
      injection h with e1 e2
      subst e1 e2
      refine ⟨?_, h3⟩
      unfold ruleOk
      rw [sides_swap h2.1, less_left h3]
      rfl
    · rw [if_neg h3] at h
      injection h with h _
      injection h with e1 e2
      subst e1 e2
      have h4 : lessW y x = true := by
        cases h5 : lessW y x with
        | true => rfl
        | false => exact absurd (lessW_total x y (by simpa using h3) h5) h2.2
      refine ⟨?_, h4⟩
      unfold ruleOk
      rw [h2.1, less_left h4]
      rfl
theorem sys_of_all {l : Int} {rs : List RuleT} (h1 : 1 ≤ l) (h4 : l ≤ 4) (hn : rs.length ≤ 12) (h : ∀ r ∈ rs, ruleOk l r = true ∧ fallsOk r = true) : systemOk l rs = true := by
  unfold systemOk rulesOk inB
  rw [decide_eq_true h1, decide_eq_true h4, decide_eq_true hn, List.all_eq_true.2 fun r hr => (h r hr).1, List.all_eq_true.2 fun r hr => (h r hr).2]
  rfl

end Go.Proofs.YteafeecndghapaaGreat
