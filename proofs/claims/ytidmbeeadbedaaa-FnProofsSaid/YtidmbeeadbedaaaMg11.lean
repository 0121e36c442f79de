/- Merged texts: a claim has a limit of files. -/
import Derived.Test.YtidmbeeadbedaaaMg6
import Derived.Test.YtidmbeeadbedaaaChain
import Derived.Test.YtidmbeeadbedaaaTrace
import Derived.Test.YtidmbeeadbedaaaLoop
import Derived.Test.YtidmbeeadbedaaaNormP
import Derived.Deep.AppendLies

/- Walks over SearchOk (the program's and the reference's): each returns what searchOk says, for all arguments. -/
namespace Go.Proofs.Ytidmbeeadbedaaa
open Go.RowKit Go.Shelf

/-- SearchOk, in plain words. -/
def searchOk (l : Int) (rs : List RuleT) (m : Int) : Bool := rulesOk l rs && inB m 0 8 && decide (l ^ m.toNat ≤ 1024)
end Go.Proofs.Ytidmbeeadbedaaa

/- Walks over l15Links and LinksOf of the reference, links and LinksOf of the program: both hand back the same links. -/
namespace Go.Proofs.Ytidmbeeadbedaaa
open Go.RowKit Go.Shelf

def lkHit (rs : List RuleT) (s : ByteArray) (lim : Int) (p k : Nat) (b : Bool) : Bool := linkOk rs s ((k : Int), (p : Int), b) && decide (((linkS rs s ((k : Int), (p : Int), b)).size : Int) ≤ lim)
/-- The links at place p with rule k, of the first j directions. -/
def lkCell (rs : List RuleT) (s : ByteArray) (lim : Int) (p k j : Nat) : List LinkT := ((List.range j).filter (fun b => lkHit rs s lim p k (b == 1))).map fun b : Nat => ((k : Int), (p : Int), b == 1)
def lkRow (rs : List RuleT) (s : ByteArray) (lim : Int) (p j : Nat) : List LinkT := (List.range j).flatMap fun k => lkCell rs s lim p k 2
def lkAcc (rs : List RuleT) (s : ByteArray) (lim : Int) (i : Nat) : List LinkT := (List.range i).flatMap fun p => lkRow rs s lim p rs.length
/-- The links of a word. -/
def lkAll (rs : List RuleT) (s : ByteArray) (lim : Int) : List LinkT := lkAcc rs s lim (s.size + 1)
theorem cellsLink_snoc (xs : List LinkT) (a b : Int) (c : Bool) : cellsLink (xs ++ [(a, b, c)]) = cellsLink xs ++ [.int .i64 a, .int .i64 b, .bool c] := by simp [cellsLink, encLink]
theorem one_cell_link (a b : Int) (c : Bool) : ∀ u ∈ (#[Value.int .i64 a, Value.int .i64 b, Value.bool c] : Array Value).toList, u.oneCell' = true := by
  intro u hu
  simp at hu
  rcases hu with rfl | rfl | rfl <;> rfl
end Go.Proofs.Ytidmbeeadbedaaa

/- Plain words for the search: what is reached from a word, in which order, and how many words there can be. No walk, no condition. -/
namespace Go.Proofs.Ytidmbeeadbedaaa
open Go.RowKit Go.Shelf

/-- A word of at most eight good letters. -/
def good8 (k : Int) (s : ByteArray) : Prop := k ≤ 4 ∧ lettersOk k s = true ∧ s.size ≤ 8
/-- A word that is reached, the place of that before it, the link, and how far it is. -/
abbrev SrT : Type := ByteArray × Int × LinkT × Int
def srWords (S : List SrT) : List ByteArray := S.map (·.1)
def srAt (S : List SrT) (a : Nat) : SrT := S.getD a (⟨#[]⟩, 0, (0, 0, false), 0)
theorem srWords_len (S : List SrT) : (srWords S).length = S.length := by simp [srWords]
theorem srAt_app {S T : List SrT} {a : Nat} (h : a < S.length) : srAt (S ++ T) a = srAt S a := by
  unfold srAt
  rw [List.getD_eq_getElem?_getD, List.getD_eq_getElem?_getD, List.getElem?_append_left h]
theorem letters_app {k : Int} {a b : ByteArray} (ha : lettersOk k a = true) (hb : lettersOk k b = true) : lettersOk k (a ++ b) = true := by
  unfold lettersOk at *
  rw [ByteArray.data_append, Array.toList_append, List.all_append, ha, hb]; rfl
theorem letters_ext {k : Int} {s : ByteArray} (h : lettersOk k s = true) (i j : Nat) : lettersOk k (s.extract i j) = true := by
  unfold lettersOk at *
  rw [List.all_eq_true] at *
  intro b hb
  refine h b ?_
  rw [ByteArray.data_extract, Array.toList_extract, List.extract_eq_take_drop] at hb
  exact List.mem_of_mem_drop (List.mem_of_mem_take hb)
theorem link_letters {l : Int} {rs : List RuleT} {s : ByteArray} {x : LinkT} (hro : rulesOk l rs = true) (hs : lettersOk l s = true) (h : linkOk rs s x = true) : lettersOk l (linkS rs s x) = true := by
  have hh : linkHit rs s x = true := by
    unfold linkOk at h
    rw [Bool.and_eq_true] at h
    exact h.1
  have hr : replOk s x.2.1 (linkFrom rs x).size (linkTo rs x) = true := by
    unfold linkOk at h
    rw [Bool.and_eq_true] at h
    exact h.2
  rw [(link_yes hh).2, replS_yes hr]
  have hb : lettersOk l (linkTo rs x) = true := by
    have h1 := hh
    unfold linkHit at h1
    rw [Bool.and_eq_true, Bool.and_eq_true] at h1
    have h2 := inB_out h1.1.1.symm
    have hk : x.1.toNat < rs.length := by omega
    have hm : rs[x.1.toNat] ∈ rs := List.getElem_mem hk
    unfold rulesOk at hro
    simp only [Bool.and_eq_true] at hro
    have h3 := List.all_eq_true.1 hro.2 _ hm
    unfold ruleOk sidesOk at h3
    simp only [Bool.and_eq_true] at h3
    have e : ruleAt rs x.1.toNat = rs[x.1.toNat] := ruleAt_get hk
    unfold linkTo
    rw [e]
    split
    · exact (wordOk_out h3.1.1.1.1).2.2.2
    · exact (wordOk_out h3.1.1.1.2).2.2.2
  exact letters_app (letters_app (letters_ext hs _ _) hb) (letters_ext hs _ _)
theorem lk_mem {rs : List RuleT} {s : ByteArray} {lim : Int} {x : LinkT} (h : x ∈ lkAll rs s lim) : linkOk rs s x = true ∧ ((linkS rs s x).size : Int) ≤ lim := by
  unfold lkAll lkAcc at h
  obtain ⟨p, _, h⟩ := List.mem_flatMap.1 h
  unfold lkRow at h
  obtain ⟨k, _, h⟩ := List.mem_flatMap.1 h
  unfold lkCell at h
  obtain ⟨b, hb, rfl⟩ := List.mem_map.1 h
  have h2 := (List.mem_filter.1 hb).2
  unfold lkHit at h2
  rw [Bool.and_eq_true, decide_eq_true_eq] at h2
  exact h2
end Go.Proofs.Ytidmbeeadbedaaa

/- Walks over l15Search of the reference: the words that are reached, in order, with what is known of each. -/
namespace Go.Proofs.Ytidmbeeadbedaaa
open Go.RowKit Go.Shelf

/-- A row of the call's own in block g. -/
def OwnG (w : World) (g base : Nat) (t : TypeId) (m n : Nat) (xs : List Value) (c : Nat) : Prop := w.ownsRow base t m (.slice (some ⟨g, 0, none⟩) n c) n xs ∧ g < w.heap.size
theorem OwnG.grown {w w' : World} {g base : Nat} {t : TypeId} {m n : Nat} {xs : List Value} {c : Nat} (h : OwnG w g base t m n xs c) {row : Nat} (hg : w.grownBy w' (some row)) (hne : g ≠ row) : OwnG w' g base t m n xs c :=
  ⟨h.1.kept hg (.inr (by simp [Value.ownBlock]; exact hne)), Nat.lt_of_lt_of_le h.2 hg.size⟩
theorem OwnG.below {w w' : World} {g base : Nat} {t : TypeId} {m n : Nat} {xs : List Value} {c : Nat} (h : OwnG w g base t m n xs c) (hb : Below w.heap.size w w') : OwnG w' g base t m n xs c :=
  ⟨own_keep h.1 hb (Nat.le_refl _), Nat.lt_of_lt_of_le h.2 hb.size⟩
theorem OwnG.rd {w : World} {g base : Nat} {t : TypeId} {m n : Nat} {xs : List Value} {c : Nat} (h : OwnG w g base t m n xs c) : Rd w (some ⟨g, 0, none⟩) xs := Rd.of_own h.1
theorem OwnG.new (w : World) (t : TypeId) (cs : Array Value) (base n m : Nat) (hb : base ≤ w.heap.size) (hs : cs.size = n * m) (hm : n ≤ maxLen) : OwnG (w.alloc (.cells cs t)) w.heap.size base t m n cs.toList n :=
  ⟨own_of_bk (Bk.new w t cs) hb hs hm, by simp⟩
theorem OwnG.cast {w : World} {g g' base : Nat} {t : TypeId} {m n : Nat} {xs : List Value} {c : Nat} (h : OwnG w g base t m n xs c) (e : g = g') : OwnG w g' base t m n xs c := e ▸ h
theorem OwnG.alloc {w : World} {g base : Nat} {t : TypeId} {m n : Nat} {xs : List Value} {c : Nat} (h : OwnG w g base t m n xs c) (o : Obj) : OwnG (w.alloc o) g base t m n xs c := h.below ((Below.refl _ _).alloc (Nat.le_refl _) o)
theorem OwnG.cell {w : World} {g base : Nat} {t : TypeId} {m n : Nat} {xs : List Value} {c : Nat} (h : OwnG w g base t m n xs c) {j : Nat} {u : Value} (hu : xs[j]? = some u) : w.cell? ⟨g, j, none⟩ = some u := by
  obtain ⟨b, o, e, _, hc⟩ := h.rd (by intro e; rw [e] at hu; cases hu)
  injection e with e
  injection e with e1 e2
  subst e1 e2
  have := hc j u hu
  rwa [Nat.zero_add] at this

end Go.Proofs.Ytidmbeeadbedaaa

/- Walks over l15Word and DistanceBetween of the reference and isSearched of the program. -/
namespace Go.Proofs.Ytidmbeeadbedaaa
open Go.RowKit Go.Shelf

def word15 (l : Int) (s : ByteArray) (lim : Int) : Bool := wordOk l s && decide ((s.size : Int) ≤ lim)
def searched (l : Int) (rs : List RuleT) (s : ByteArray) (lim : Int) : Bool := searchOk l rs lim && word15 l s lim
theorem searched_out {l : Int} {rs : List RuleT} {s : ByteArray} {lim : Int} (h : searchOk l rs lim = true) (h2 : word15 l s lim = true) : rulesOk l rs = true ∧ good8 l s ∧ lim ≤ 8 := by
  unfold searchOk at h
  unfold word15 at h2
  simp only [Bool.and_eq_true, decide_eq_true_eq] at h h2
  have h3 := inB_out h.1.2.symm
  have h4 := wordOk_out h2.1
  exact ⟨h.1.1, ⟨h4.2.1, h4.2.2.2, by omega⟩, by omega⟩
end Go.Proofs.Ytidmbeeadbedaaa

/- Plain words for the program's search: what its map holds of each word that is reached. No walk, no condition. -/
namespace Go.Proofs.Ytidmbeeadbedaaa
open Go.RowKit Go.Shelf

/-- From which word the i-th word was reached. -/
def srFromW (S : List SrT) (i : Nat) : ByteArray := if (srAt S i).2.1 = -1 then ⟨#[45]⟩ else (srAt S (srAt S i).2.1.toNat).1
abbrev ArrT : Type := ByteArray × LinkT × Int
def arrOf (S : List SrT) (i : Nat) : ArrT := (srFromW S i, (srAt S i).2.2.1, (srAt S i).2.2.2)
def encA (x : ArrT) : DataW Unit := .agg [.lit (.string x.1.data.toList), .lit (.int .i64 x.2.1.1), .lit (.int .i64 x.2.1.2.1), .lit (.bool x.2.1.2.2), .lit (.int .i64 x.2.2)]
/-- Each word but the first was reached from one before it, by one link more. -/
def srWf (S : List SrT) : Prop := ∀ i, i < S.length → (i = 0 ∧ (srAt S i).2.1 = -1 ∧ (srAt S i).2.2.2 = 0) ∨ (0 ≤ (srAt S i).2.1 ∧ (srAt S i).2.1 < (i : Int) ∧ (srAt S i).2.2.2 = (srAt S (srAt S i).2.1.toNat).2.2.2 + 1)
theorem srAt_last (S : List SrT) (t : SrT) : srAt (S ++ [t]) S.length = t := by
  unfold srAt
  rw [List.getD_eq_getElem?_getD, List.getElem?_append_right (Nat.le_refl _), Nat.sub_self]
  rfl
theorem srFromW_app {S T : List SrT} {i : Nat} (h : srWf S) (hi : i < S.length) : srFromW (S ++ T) i = srFromW S i := by
  unfold srFromW
  rw [srAt_app hi]
  split
  · rfl
  · next hne =>
    rcases h i hi with h1 | ⟨h1, h2, _⟩
    · exact absurd h1.2.1 hne
    · rw [srAt_app (by omega)]
theorem arrOf_app {S T : List SrT} {i : Nat} (h : srWf S) (hi : i < S.length) : arrOf (S ++ T) i = arrOf S i := by
  unfold arrOf
  rw [srFromW_app h hi, srAt_app hi]
theorem arrOf_last {S : List SrT} {a : Nat} {y : ByteArray} {x : LinkT} {f : Int} (ha : a < S.length) : arrOf (S ++ [(y, (a : Int), x, f)]) S.length = ((srAt S a).1, x, f) := by
  unfold arrOf srFromW
  rw [srAt_last]
  dsimp only
  rw [if_neg (by omega), Int.toNat_natCast, srAt_app ha]
/-- The map holds what is known of each word that is reached. -/
def MapSr (D : DataW Unit) (S : List SrT) : Prop := Maps.IsMap D ∧ ∀ s : ByteArray, Maps.has D (.string s.data.toList) = (fnd (srWords S) s).isSome ∧ ∀ i z, fnd (srWords S) s = some i → D.atKey (.string s.data.toList) z = encA (arrOf S i)
theorem MapSr.snoc {D : DataW Unit} {S : List SrT} (h : MapSr D S) (hw : srWf S) {a : Nat} {y : ByteArray} {x : LinkT} {f : Int} (ha : a < S.length) (hy : fnd (srWords S) y = none) : MapSr (D.put (.string y.data.toList) (encA ((srAt S a).1, x, f))) (S ++ [(y, (a : Int), x, f)]) := by
  have hk : WideAt.IsKeyLit (Lit.string y.data.toList) := trivial
  have hws : srWords (S ++ [(y, (a : Int), x, f)]) = srWords S ++ [y] := by simp [srWords]
  refine ⟨?_, fun s => ?_⟩
  · obtain ⟨es, rfl⟩ := h.1
    exact ⟨_, rfl⟩
  rw [hws]
  by_cases hs : y = s
  · subst hs
    rw [fnd_snoc, hy, if_pos rfl]
    refine ⟨Maps.has_put_same h.1 hk _, fun i z hi => ?_⟩
    injection hi with hi
    subst hi
    rw [Maps.atKey_put_same h.1 hk, srWords_len, arrOf_last ha]
  · have hf : fnd (srWords S ++ [y]) s = fnd (srWords S) s := by
      rw [fnd_snoc]
      cases fnd (srWords S) s with
      | some i => rfl
      | none => simp [hs]
    rw [hf, Maps.has_put_other (key_ne hs)]
    refine ⟨(h.2 s).1, fun i z hi => ?_⟩
    rw [Maps.atKey_put_other (key_ne hs), (h.2 s).2 i z hi, arrOf_app hw (by rw [← srWords_len]; exact fnd_lt hi)]
theorem MapSr.first (s : ByteArray) : MapSr ((DataW.map []).put (.string s.data.toList) (encA (⟨#[45]⟩, (0, 0, false), 0))) [(s, -1, (0, 0, false), 0)] := by
  have hk : WideAt.IsKeyLit (Lit.string s.data.toList) := trivial
  refine ⟨⟨_, rfl⟩, fun t => ?_⟩
  have hws : srWords [(s, -1, (0, 0, false), 0)] = [s] := rfl
  rw [hws]
  by_cases hs : s = t
  · subst hs
    have hf : fnd [s] s = some 0 := by rw [fnd, if_pos rfl]
    rw [hf]
    refine ⟨Maps.has_put_same ⟨_, rfl⟩ hk _, fun i z hi => ?_⟩
    injection hi with hi
    subst hi
    rw [Maps.atKey_put_same ⟨_, rfl⟩ hk]
    rfl
  · have hf : fnd [s] t = none := by rw [fnd, if_neg hs]; rfl
    rw [hf, Maps.has_put_other (key_ne hs)]
    exact ⟨rfl, fun i z hi => by cases hi⟩

end Go.Proofs.Ytidmbeeadbedaaa
