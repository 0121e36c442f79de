/- Merged texts: a claim has a limit of files. -/
import Derived.Test.YteafeecndghapaaGreatMg11
import Derived.Test.YteafeecndghapaaGreatChain
import Derived.Deep.RegionLaw
import Derived.Maps.OwnSet
import Derived.Maps.Views
import Derived.Test.YteafeecndghapaaGreatMg6
import Derived.Test.YteafeecndghapaaGreatNorm
import Derived.Test.YteafeecndghapaaGreatNormP
import Derived.Deep.AppendLies

/- Walks over l08Find, l16Loop, RunLoop, LoopLength, GrowsOn of the reference and loop, RunLoop, LoopLength, GrowsOn of the program: both tell the same run, length and answer. -/
namespace Go.Proofs.YteafeecndghapaaGreat
open Go.RowKit Go.Shelf

/-- The first place of a word in a list. -/
def fnd : List ByteArray → ByteArray → Option Nat
  | [], _ => none
  | x :: xs, s => if x = s then some 0 else (fnd xs s).map (· + 1)
theorem fnd_lt {s : ByteArray} : ∀ {ws : List ByteArray} {i : Nat}, fnd ws s = some i → i < ws.length
  | [], _, h => by cases h
  | x :: xs, i, h => by
    rw [fnd] at h
    split at h
    · injection h with h; subst h; simp
    · cases hf : fnd xs s with
      | none => rw [hf] at h; cases h
      | some j =>
        rw [hf] at h
        injection h with h
        have := fnd_lt hf
        subst h
        simpa using this
theorem fnd_snoc (x s : ByteArray) : ∀ ws : List ByteArray, fnd (ws ++ [x]) s = match fnd ws s with
    | some i => some i
    | none => if x = s then some ws.length else none
  | [] => by
    rw [List.nil_append, fnd, fnd]
    split <;> simp_all [fnd]
  | y :: ws => by
    rw [List.cons_append, fnd, fnd, fnd_snoc x s ws]
    by_cases h : y = s
    · rw [if_pos h, if_pos h]
    · rw [if_neg h, if_neg h]
      cases fnd ws s with
      | some i => rfl
      | none =>
        by_cases hx : x = s
        · simp [hx]
        · simp [hx]

/-- The map holds each word of the list with its place. -/
def MapAt (D : DataW Unit) (ws : List ByteArray) : Prop := Maps.IsMap D ∧ ∀ s : ByteArray, Maps.has D (.string s.data.toList) = (fnd ws s).isSome ∧ ∀ i z, fnd ws s = some i → D.atKey (.string s.data.toList) z = .lit (.int .i64 (i : Int))
theorem key_ne {x s : ByteArray} (h : x ≠ s) : (Lit.string s.data.toList) ≠ Lit.string x.data.toList := fun e => by
  injection e with e
  apply h
  have e2 : s.data = x.data := Array.toList_inj.1 e
  cases x; cases s; simp_all
theorem MapAt.snoc {D : DataW Unit} {ws : List ByteArray} (h : MapAt D ws) {x : ByteArray} (hx : fnd ws x = none) : MapAt (D.put (.string x.data.toList) (.lit (.int .i64 (ws.length : Int)))) (ws ++ [x]) := by
  have hk : WideAt.IsKeyLit (Lit.string x.data.toList) := trivial
  refine ⟨?_, fun s => ?_⟩
  · obtain ⟨es, rfl⟩ := h.1
    exact ⟨_, rfl⟩
  by_cases hs : x = s
  · subst hs
    rw [fnd_snoc, hx, if_pos rfl]
    refine ⟨Maps.has_put_same h.1 hk _, fun i z hi => ?_⟩
    injection hi with hi
    subst hi
    exact Maps.atKey_put_same h.1 hk _ z
  · have hf : fnd (ws ++ [x]) s = fnd ws s := by
      rw [fnd_snoc]
      cases fnd ws s with
      | some i => rfl
      | none => simp [hs]
    rw [hf, Maps.has_put_other (key_ne hs)]
    refine ⟨(h.2 s).1, fun i z hi => ?_⟩
    rw [Maps.atKey_put_other (key_ne hs)]
    exact (h.2 s).2 i z hi
theorem MapAt.nil : MapAt (.map []) [] := ⟨⟨_, rfl⟩, fun s => ⟨rfl, fun i z hi => by cases hi⟩⟩

end Go.Proofs.YteafeecndghapaaGreat

/- Walks over SearchOk (the program's and the reference's): each returns what searchOk says, for all arguments. -/
namespace Go.Proofs.YteafeecndghapaaGreat
open Go.RowKit Go.Shelf

/-- SearchOk, in plain words. -/
def searchOk (l : Int) (rs : List RuleT) (m : Int) : Bool := rulesOk l rs && inB m 0 8 && decide (l ^ m.toNat ≤ 1024)
end Go.Proofs.YteafeecndghapaaGreat

/- Walks over l15Links and LinksOf of the reference, links and LinksOf of the program: both hand back the same links. -/
namespace Go.Proofs.YteafeecndghapaaGreat
open Go.RowKit Go.Shelf

def lkHit (rs : List RuleT) (s : ByteArray) (lim : Int) (p k : Nat) (b : Bool) : Bool := linkOk rs s ((k : Int), (p : Int), b) && decide (((linkS rs s ((k : Int), (p : Int), b)).size : Int) ≤ lim)
/-- The links at place p with rule k, of the first j directions. -/
def lkCell (rs : List RuleT) (s : ByteArray) (lim : Int) (p k j : Nat) : List LinkT := ((List.range j).filter (fun b => lkHit rs s lim p k (b == 1))).map fun b : Nat => ((k : Int), (p : Int), b == 1)
def lkRow (rs : List RuleT) (s : ByteArray) (lim : Int) (p j : Nat) : List LinkT := (List.range j).flatMap fun k => lkCell rs s lim p k 2
def lkAcc (rs : List RuleT) (s : ByteArray) (lim : Int) (i : Nat) : List LinkT := (List.range i).flatMap fun p => lkRow rs s lim p rs.length
/-- The links of a word. -/
def lkAll (rs : List RuleT) (s : ByteArray) (lim : Int) : List LinkT := lkAcc rs s lim (s.size + 1)
theorem cellsLink_snoc (xs : List LinkT) (a b : Int) (c : Bool) : cellsLink (xs ++ [(a, b, c)]) = cellsLink xs ++ [.int .i64 a, .int .i64 b, .bool c] := by simp [cellsLink, encLink]
theorem one_cell_link (a b : Int) (c : Bool) : ∀ u ∈ (#[Value.int .i64 a, Value.int .i64 b, Value.bool c] : Array Value).toList, u.oneCell' = true := by
  intro u hu
  simp at hu
  rcases hu with rfl | rfl | rfl <;> rfl
end Go.Proofs.YteafeecndghapaaGreat

/- Plain words for the search: what is reached from a word, in which order, and how many words there can be. No walk, no condition. -/
namespace Go.Proofs.YteafeecndghapaaGreat
open Go.RowKit Go.Shelf

/-- A word of at most eight good letters. -/
def good8 (k : Int) (s : ByteArray) : Prop := k ≤ 4 ∧ lettersOk k s = true ∧ s.size ≤ 8
/-- A word that is reached, the place of that before it, the link, and how far it is. -/
abbrev SrT : Type := ByteArray × Int × LinkT × Int
def srWords (S : List SrT) : List ByteArray := S.map (·.1)
def srAt (S : List SrT) (a : Nat) : SrT := S.getD a (⟨#[]⟩, 0, (0, 0, false), 0)
theorem srWords_len (S : List SrT) : (srWords S).length = S.length := by simp [srWords]
theorem srAt_app {S T : List SrT} {a : Nat} (h : a < S.length) : srAt (S ++ T) a = srAt S a := by
  unfold srAt
  rw [List.getD_eq_getElem?_getD, List.getD_eq_getElem?_getD, List.getElem?_append_left h]
theorem letters_app {k : Int} {a b : ByteArray} (ha : lettersOk k a = true) (hb : lettersOk k b = true) : lettersOk k (a ++ b) = true := by
  unfold lettersOk at *
  rw [ByteArray.data_append, Array.toList_append, List.all_append, ha, hb]; rfl
theorem letters_ext {k : Int} {s : ByteArray} (h : lettersOk k s = true) (i j : Nat) : lettersOk k (s.extract i j) = true := by
  unfold lettersOk at *
  rw [List.all_eq_true] at *
  intro b hb
  refine h b ?_
  rw [ByteArray.data_extract, Array.toList_extract, List.extract_eq_take_drop] at hb
  exact List.mem_of_mem_drop (List.mem_of_mem_take hb)
theorem link_letters {l : Int} {rs : List RuleT} {s : ByteArray} {x : LinkT} (hro : rulesOk l rs = true) (hs : lettersOk l s = true) (h : linkOk rs s x = true) : lettersOk l (linkS rs s x) = true := by
  have hh : linkHit rs s x = true := by
    unfold linkOk at h
    rw [Bool.and_eq_true] at h
    exact h.1
  have hr : replOk s x.2.1 (linkFrom rs x).size (linkTo rs x) = true := by
    unfold linkOk at h
    rw [Bool.and_eq_true] at h
    exact h.2
  rw [(link_yes hh).2, replS_yes hr]
  have hb : lettersOk l (linkTo rs x) = true := by
    have h1 := hh
    unfold linkHit at h1
    rw [Bool.and_eq_true, Bool.and_eq_true] at h1
    have h2 := inB_out h1.1.1.symm
    have hk : x.1.toNat < rs.length := by omega
    have hm : rs[x.1.toNat] ∈ rs := List.getElem_mem hk
    unfold rulesOk at hro
    simp only [Bool.and_eq_true] at hro
    have h3 := List.all_eq_true.1 hro.2 _ hm
    unfold ruleOk sidesOk at h3
    simp only [Bool.and_eq_true] at h3
    have e : ruleAt rs x.1.toNat = rs[x.1.toNat] := ruleAt_get hk
    unfold linkTo
    rw [e]
    split
    · exact (wordOk_out h3.1.1.1.1).2.2.2
    · exact (wordOk_out h3.1.1.1.2).2.2.2
  exact letters_app (letters_app (letters_ext hs _ _) hb) (letters_ext hs _ _)
theorem lk_mem {rs : List RuleT} {s : ByteArray} {lim : Int} {x : LinkT} (h : x ∈ lkAll rs s lim) : linkOk rs s x = true ∧ ((linkS rs s x).size : Int) ≤ lim := by
  unfold lkAll lkAcc at h
  obtain ⟨p, _, h⟩ := List.mem_flatMap.1 h
  unfold lkRow at h
  obtain ⟨k, _, h⟩ := List.mem_flatMap.1 h
  unfold lkCell at h
  obtain ⟨b, hb, rfl⟩ := List.mem_map.1 h
  have h2 := (List.mem_filter.1 hb).2
  unfold lkHit at h2
  rw [Bool.and_eq_true, decide_eq_true_eq] at h2
  exact h2
end Go.Proofs.YteafeecndghapaaGreat

/- Walks over l15Search of the reference: the words that are reached, in order, with what is known of each. -/
namespace Go.Proofs.YteafeecndghapaaGreat
open Go.RowKit Go.Shelf

/-- A row of the call's own in block g. -/
def OwnG (w : World) (g base : Nat) (t : TypeId) (m n : Nat) (xs : List Value) (c : Nat) : Prop := w.ownsRow base t m (.slice (some ⟨g, 0, none⟩) n c) n xs ∧ g < w.heap.size
theorem OwnG.grown {w w' : World} {g base : Nat} {t : TypeId} {m n : Nat} {xs : List Value} {c : Nat} (h : OwnG w g base t m n xs c) {row : Nat} (hg : w.grownBy w' (some row)) (hne : g ≠ row) : OwnG w' g base t m n xs c :=
  ⟨h.1.kept hg (.inr (by simp [Value.ownBlock]; exact hne)), Nat.lt_of_lt_of_le h.2 hg.size⟩
theorem OwnG.below {w w' : World} {g base : Nat} {t : TypeId} {m n : Nat} {xs : List Value} {c : Nat} (h : OwnG w g base t m n xs c) (hb : Below w.heap.size w w') : OwnG w' g base t m n xs c :=
  ⟨own_keep h.1 hb (Nat.le_refl _), Nat.lt_of_lt_of_le h.2 hb.size⟩
theorem OwnG.rd {w : World} {g base : Nat} {t : TypeId} {m n : Nat} {xs : List Value} {c : Nat} (h : OwnG w g base t m n xs c) : Rd w (some ⟨g, 0, none⟩) xs := Rd.of_own h.1
theorem OwnG.new (w : World) (t : TypeId) (cs : Array Value) (base n m : Nat) (hb : base ≤ w.heap.size) (hs : cs.size = n * m) (hm : n ≤ maxLen) : OwnG (w.alloc (.cells cs t)) w.heap.size base t m n cs.toList n :=
  ⟨own_of_bk (Bk.new w t cs) hb hs hm, by simp⟩
theorem OwnG.cast {w : World} {g g' base : Nat} {t : TypeId} {m n : Nat} {xs : List Value} {c : Nat} (h : OwnG w g base t m n xs c) (e : g = g') : OwnG w g' base t m n xs c := e ▸ h
theorem OwnG.alloc {w : World} {g base : Nat} {t : TypeId} {m n : Nat} {xs : List Value} {c : Nat} (h : OwnG w g base t m n xs c) (o : Obj) : OwnG (w.alloc o) g base t m n xs c := h.below ((Below.refl _ _).alloc (Nat.le_refl _) o)
theorem OwnG.cell {w : World} {g base : Nat} {t : TypeId} {m n : Nat} {xs : List Value} {c : Nat} (h : OwnG w g base t m n xs c) {j : Nat} {u : Value} (hu : xs[j]? = some u) : w.cell? ⟨g, j, none⟩ = some u := by
  obtain ⟨b, o, e, _, hc⟩ := h.rd (by intro e; rw [e] at hu; cases hu)
  injection e with e
  injection e with e1 e2
  subst e1 e2
  have := hc j u hu
  rwa [Nat.zero_add] at this


end Go.Proofs.YteafeecndghapaaGreat

/- Walks over l15Word and DistanceBetween of the reference and isSearched of the program. -/
namespace Go.Proofs.YteafeecndghapaaGreat
open Go.RowKit Go.Shelf

def word15 (l : Int) (s : ByteArray) (lim : Int) : Bool := wordOk l s && decide ((s.size : Int) ≤ lim)
def searched (l : Int) (rs : List RuleT) (s : ByteArray) (lim : Int) : Bool := searchOk l rs lim && word15 l s lim
theorem searched_out {l : Int} {rs : List RuleT} {s : ByteArray} {lim : Int} (h : searchOk l rs lim = true) (h2 : word15 l s lim = true) : rulesOk l rs = true ∧ good8 l s ∧ lim ≤ 8 := by
  unfold searchOk at h
  unfold word15 at h2
  simp only [Bool.and_eq_true, decide_eq_true_eq] at h h2
  have h3 := inB_out h.1.2.symm
  have h4 := wordOk_out h2.1
  exact ⟨h.1.1, ⟨h4.2.1, h4.2.2.2, by omega⟩, by omega⟩
end Go.Proofs.YteafeecndghapaaGreat
