/- The three given algorithms, run in plain words: they add, sort and double. No walk, no condition. -/

import Derived.Test.YtgceabbeeobmgaaDoorAlg
namespace Go.Proofs.YtgceabbeeobmgaaDoor

open Go.RowKit Go.Shelf

def bL (l : List UInt8) : ByteArray := ⟨l.toArray⟩
theorem bL_data (l : List UInt8) : (bL l).data.toList = l := by simp [bL]
theorem bL_size (l : List UInt8) : (bL l).size = l.length := by
  show l.toArray.size = _
  simp
theorem bL_of (s : ByteArray) : bL s.data.toList = s := by
  obtain ⟨⟨l⟩⟩ := s
  rfl
abbrev OrdL := List UInt8 × List UInt8 × Bool
def toO (o : OrdL) : OrderT := (bL o.1, bL o.2.1, o.2.2)
def rpL (s l r : List UInt8) : List UInt8 := if l = [] then r ++ s else Lib.replace s l r 1
theorem rp1_L (s l r : List UInt8) : rp1 (bL s) (bL l) (bL r) = bL (rpL s l r) := by
  unfold rp1 rpL
  rw [bL_size]
  by_cases h : l = []
  · subst h
    rw [if_pos (show ([] : List UInt8).length = 0 from rfl), if_pos rfl]
    apply ba_eq
    rw [ByteArray.data_append, Array.toList_append, bL_data, bL_data, bL_data]
  · rw [if_neg (fun e => h (List.eq_nil_of_length_eq_zero e)), if_neg h, bL_data, bL_data, bL_data]
    rfl
def aiL (xs : List OrdL) (s : List UInt8) : Int := idxI (fun o : OrdL => Lib.contains s o.1) xs
theorem ai_L (xs : List OrdL) (s : List UInt8) : ai (xs.map toO) (bL s) = aiL xs s := by
  unfold ai aiL idxI
  rw [List.findIdx?_map]
  have e : ((fun o : OrderT => has18 (bL s) o.1) ∘ toO) = (fun o : OrdL => Lib.contains s o.1) := by
    funext o
    show has18 (bL s) (bL o.1) = _
    rw [has18, bL_data, bL_data]
  rw [e]
def ordL (xs : List OrdL) (i : Int) : OrdL := xs.getD i.toNat ([], [], false)
theorem ord_L (xs : List OrdL) (i : Int) : ordAt (xs.map toO) i = toO (ordL xs i) := by
  unfold ordAt ordL
  rw [List.getD_eq_getElem?_getD, List.getD_eq_getElem?_getD, List.getElem?_map]
  cases xs[i.toNat]? <;> rfl
def arunL (xs : List OrdL) (most : Nat) : Nat → List UInt8 → List Int → List UInt8 × List Int × Int
  | 0, s, u => (s, u, 3)
  | f + 1, s, u =>
    if aiL xs s < 0 then (s, u, 0)
    else if u.length = most then (s, u, 3)
    else if 16 < (rpL s (ordL xs (aiL xs s)).1 (ordL xs (aiL xs s)).2.1).length then (s, u, 2)
    else if (ordL xs (aiL xs s)).2.2 = true then (rpL s (ordL xs (aiL xs s)).1 (ordL xs (aiL xs s)).2.1, u ++ [aiL xs s], 0)
    else arunL xs most f (rpL s (ordL xs (aiL xs s)).1 (ordL xs (aiL xs s)).2.1) (u ++ [aiL xs s])
theorem arun_L (xs : List OrdL) (most : Nat) : ∀ (f : Nat) (s : List UInt8) (u : List Int), arun (xs.map toO) most f (bL s) u = (bL (arunL xs most f s u).1, (arunL xs most f s u).2.1, (arunL xs most f s u).2.2)
  | 0, s, u => rfl
  | f + 1, s, u => by
    have hrp : rp1 (bL s) (ordAt (xs.map toO) (aiL xs s)).1 (ordAt (xs.map toO) (aiL xs s)).2.1 = bL (rpL s (ordL xs (aiL xs s)).1 (ordL xs (aiL xs s)).2.1) := by
      rw [ord_L]
      exact rp1_L _ _ _
    have hlast : (ordAt (xs.map toO) (aiL xs s)).2.2 = (ordL xs (aiL xs s)).2.2 := by rw [ord_L]; rfl
    rw [arun, arunL, ai_L, hrp, hlast, bL_size]
    split
    · rfl
    · split
      · rfl
      · split
        · rfl
        · split
          · rfl
          · exact arun_L xs most f _ _
theorem aruns_L (xs : List OrdL) (most : Nat) (s : List UInt8) : aruns (xs.map toO) most (bL s) = (bL (arunL xs most (most + 1) s []).1, (arunL xs most (most + 1) s []).2.1, (arunL xs most (most + 1) s []).2.2) := arun_L xs most _ s []

def addL : List OrdL := [([98], [], false)]
def sortL18 : List OrdL := [([98, 97], [97, 98], false)]
def dblL : List OrdL := [([99, 97], [97, 97, 99], false), ([99], [], true), ([], [99], false)]
def aN (m : Nat) : List UInt8 := List.replicate m 97
def bN (m : Nat) : List UInt8 := List.replicate m 98
theorem add_all : ((List.range 5).all fun m => (List.range 5).all fun n => decide (arunL addL 500 501 (aN m ++ [98] ++ aN n) [] = (aN (m + n), [0], 0))) = true := by decide +kernel
theorem dbl_all : ((List.range 5).all fun m => decide ((arunL dblL 500 501 (aN m) []).1 = aN (2 * m)) && decide ((arunL dblL 500 501 (aN m) []).2.2 = 0) && decide ((arunL dblL 500 501 (aN m) []).2.1.length = m + 2) && decide ((arunL dblL 500 501 (aN m) []).2.1[0]? = some 2) && decide ((arunL dblL 500 501 (aN m) []).2.1[m + 1]? = some 1)) = true := by decide +kernel
/-- The words of k letters of two. -/
def lv2 : Nat → List (List UInt8)
  | 0 => [[]]
  | k + 1 => (lv2 k).flatMap fun l => [97 :: l, 98 :: l]
theorem lv2_mem : ∀ l : List UInt8, (∀ b ∈ l, b = 97 ∨ b = 98) → l ∈ lv2 l.length
  | [], _ => by simp [lv2]
  | b :: l, h => by
    have ih := lv2_mem l (fun c hc => h c (List.mem_cons_of_mem _ hc))
    rw [List.length_cons, lv2, List.mem_flatMap]
    refine ⟨l, ih, ?_⟩
    rcases h b List.mem_cons_self with rfl | rfl <;> simp
def srtOk (l : List UInt8) : Bool := decide ((arunL sortL18 500 501 l []).1 = aN (l.count 97) ++ bN (l.count 98)) && decide ((arunL sortL18 500 501 l []).2.2 = 0)
theorem sort_all : ((List.range 9).all fun k => (lv2 k).all srtOk) = true := by decide +kernel

end Go.Proofs.YtgceabbeeobmgaaDoor
