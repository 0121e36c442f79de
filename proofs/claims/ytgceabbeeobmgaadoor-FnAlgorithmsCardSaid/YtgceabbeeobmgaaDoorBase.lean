/- Words for memory and small lemmas that all texts of this seat use: a slice that reads as a list of cells (Rd), a block that is known whole (Bk), what a call that makes a slice leaves (MadeSl). No condition. -/










import Derived.Test.YtgceabbeeobmgaaDoorRows
import Derived.WalkKit
import Derived.WalkSpells
import Derived.WalkLawsBesides
import Derived.Deep.QuietTactic
import Derived.BigQuiet
import Derived.Lib.Hide
import Derived.Deep.AppendLies
import Derived.Maps.AppendAt
import Derived.Shelf.Abstract
namespace Go.Proofs.YtgceabbeeobmgaaDoor

open Go.RowKit Go.Shelf

theorem ret_int {k : IntKind} {a b : Int} (h : a = b) : Ending.returned (.int k a) = .returned (.int k b) := by rw [h]
theorem ret_bool {a b : Bool} (h : a = b) : Ending.returned (.bool a) = .returned (.bool b) := by rw [h]

/-- Block g is just the cells cs of element type t, none of them frozen. -/
def Bk (w : World) (g : Nat) (t : TypeId) (cs : Array Value) : Prop := w.heap[g]? = some (.cells cs t (0, 0))

theorem Bk.lt {w : World} {g : Nat} {t : TypeId} {cs : Array Value} (h : Bk w g t cs) : g < w.heap.size := by
  rcases Nat.lt_or_ge g w.heap.size with hl | hl
  · exact hl
  · unfold Bk at h
    rw [Array.getElem?_eq_none hl] at h
    cases h
theorem Bk.cell {w : World} {g : Nat} {t : TypeId} {cs : Array Value} (h : Bk w g t cs) (i : Nat) : w.cell? ⟨g, i, none⟩ = cs[i]? := cell_of_row w g i cs t (0, 0) h
theorem Bk.free {w : World} {g : Nat} {t : TypeId} {cs : Array Value} (h : Bk w g t cs) (i : Nat) : w.frozen? ⟨g, i, none⟩ = false := frozen_of_row w g i cs t h
theorem Bk.new (w : World) (t : TypeId) (cs : Array Value) : Bk (w.alloc (.cells cs t)) w.heap.size t cs := heap_alloc_new w _
theorem Bk.drew {w : World} {g : Nat} {t : TypeId} {cs : Array Value} (h : Bk w g t cs) : Bk w.drew g t cs := h
theorem Bk.alloc {w : World} {g : Nat} {t : TypeId} {cs : Array Value} (h : Bk w g t cs) (o : Obj) : Bk (w.alloc o) g t cs := (Below.heap_alloc w o g h.lt).trans h
theorem Bk.put {w : World} {g : Nat} {t : TypeId} {cs : Array Value} (h : Bk w g t cs) (i : Nat) (u : Value) : Bk (w.setCell ⟨g, i, none⟩ u) g t (cs.setIfInBounds i u) :=
  heap_setCell_same w g i cs t u h
theorem Bk.far {w : World} {g : Nat} {t : TypeId} {cs : Array Value} (h : Bk w g t cs) {p : Addr} (hp : g ≠ p.block) (u : Value) : Bk (w.setCell p u) g t cs := (Below.heap_setCell w p u g hp).trans h
theorem Bk.below {w w' : World} {g B : Nat} {t : TypeId} {cs : Array Value} (h : Bk w g t cs) (hb : Below B w w') (hg : g < B) : Bk w' g t cs := (hb.block g hg).trans h
theorem Bk.grown {w w' : World} {g : Nat} {t : TypeId} {cs : Array Value} {row : Option Nat} (h : Bk w g t cs) (hb : w.grownBy w' row) (hg : some g ≠ row) : Bk w' g t cs := (hb.block g h.lt hg).trans h

/-- The slice at A reads as the cells xs (all of its elements' cells, one behind the other); no cells, no address asked. -/
def Rd (w : World) (A : Option Addr) (xs : List Value) : Prop :=
  xs ≠ [] → ∃ b off, A = some ⟨b, off, none⟩ ∧ b < w.heap.size ∧ ∀ j u, xs[j]? = some u → w.cell? ⟨b, off + j, none⟩ = some u

theorem Rd.nil (w : World) (A : Option Addr) : Rd w A [] := fun h => absurd rfl h
theorem Rd.keep {w w' : World} {A : Option Addr} {xs : List Value} (h : Rd w A xs) (hb : Below w.heap.size w w') : Rd w' A xs := fun hn => by
  obtain ⟨b, off, e, hl, hc⟩ := h hn
  exact ⟨b, off, e, Nat.lt_of_lt_of_le hl hb.size, fun j u hu => (hb.cell (p := ⟨b, off + j, none⟩) hl).trans (hc j u hu)⟩
theorem Rd.grown {w w' : World} {A : Option Addr} {xs : List Value} {row : Option Nat} (h : Rd w A xs) (hg : w.grownBy w' row) (hr : ∀ a, A = some a → row ≠ some a.block) : Rd w' A xs := fun hn => by
  obtain ⟨b, off, e, hl, hc⟩ := h hn
  refine ⟨b, off, e, Nat.lt_of_lt_of_le hl hg.size, fun j u hu => ?_⟩
  exact (World.cell?_of_block (w := w) (a := ⟨b, off + j, none⟩) (hg.block b hl (fun e' => hr _ e e'.symm))).trans (hc j u hu)
theorem Rd.of_own {w : World} {base : Nat} {t : TypeId} {m : Nat} {A : Option Addr} {n c : Nat} {xs : List Value} (h : w.ownsRow base t m (.slice A n c) n xs) : Rd w A xs := fun hn => by
  rcases h.2 with ⟨_, hz⟩ | ⟨g, cap, cur, hv, _, hh, _⟩
  · have hl := h.1
    rw [hz, Nat.zero_mul] at hl
    exact absurd (List.eq_nil_of_length_eq_zero hl) hn
  · have hA : A = some ⟨g, 0, none⟩ := by injection hv
    subst hA
    refine ⟨g, 0, rfl, (Array.getElem?_eq_some_iff.1 hh).1, fun j u hu => ?_⟩
    have := h.cells (g := g) rfl j u hu
    have e : (⟨g, 0, none⟩ : Addr).add j = ⟨g, j, none⟩ := by unfold Addr.add; split <;> simp_all
    rw [e] at this
    rw [Nat.zero_add]
    exact this

/-- What a call leaves that hands back a slice in memory of its own: xs are its cells, n elements of m cells each; all that was there is as it was. -/
def MadeSl (w : World) (t : TypeId) (m n : Nat) (xs : List Value) (e : Ending) (w' : World) : Prop :=
  ∃ A c, e = .returned (.slice A n c) ∧ w'.ownsRow w.heap.size t m (.slice A n c) n xs ∧ Below w.heap.size w w'

theorem own_keep {w w' : World} {base B : Nat} {t : TypeId} {m : Nat} {v : Value} {n : Nat} {xs : List Value} (h : w.ownsRow base t m v n xs) (hb : Below B w w') (hB : w.heap.size ≤ B) : w'.ownsRow base t m v n xs := by
  refine ⟨h.1, ?_⟩
  rcases h.2 with h2 | ⟨g, cap, cur, hv, hg, hh, r⟩
  · exact .inl h2
  · have := (Array.getElem?_eq_some_iff.1 hh).1
    exact .inr ⟨g, cap, cur, hv, hg, (hb.block g (by omega)).trans hh, r⟩

/-- A new row known as a block is an owned row. -/
theorem own_of_bk {w : World} {base g : Nat} {t : TypeId} {m : Nat} {n : Nat} {cs : Array Value} (h : Bk w g t cs) (hb : base ≤ g) (hs : cs.size = n * m) (hm : n ≤ maxLen) :
    w.ownsRow base t m (.slice (some ⟨g, 0, none⟩) n n) n cs.toList :=
  ⟨by simpa using hs, .inr ⟨g, n, cs, rfl, hb, h, Nat.le_refl _, hm, hs, List.take_of_length_le (by rw [Array.length_toList, hs]; exact Nat.le_refl _)⟩⟩

/-- The first k cells of the row cur are those of xs. -/
def Pre (cur : Array Value) (xs : List Value) (k : Nat) : Prop := cur.size = xs.length ∧ ∀ j, j < k → cur[j]? = xs[j]?
theorem Pre.zero {cur : Array Value} {xs : List Value} (h : cur.size = xs.length) : Pre cur xs 0 := ⟨h, fun _ hj => absurd hj (Nat.not_lt_zero _)⟩
theorem Pre.put {cur : Array Value} {xs : List Value} {k : Nat} (h : Pre cur xs k) {u : Value} (hu : xs[k]? = some u) : Pre (cur.setIfInBounds k u) xs (k + 1) := by
  have hk : k < xs.length := (List.getElem?_eq_some_iff.1 hu).1
  refine ⟨by simpa using h.1, fun j hj => ?_⟩
  rw [Array.getElem?_setIfInBounds]
  by_cases e : k = j
  · subst e
    rw [if_pos rfl, if_pos (by rw [h.1]; exact hk), hu]
  · rw [if_neg e]
    exact h.2 j (by omega)
theorem Pre.all {cur : Array Value} {xs : List Value} {k : Nat} (h : Pre cur xs k) (hk : k = xs.length) : cur.toList = xs := by
  subst hk
  apply List.ext_getElem?
  intro j
  rw [Array.getElem?_toList]
  rcases Nat.lt_or_ge j xs.length with hj | hj
  · exact h.2 j hj
  · rw [List.getElem?_eq_none hj, Array.getElem?_eq_none (by rw [h.1]; exact hj)]

theorem info_int : (Tryd.prog.info? 3).map (fun i => (i.zero, i.size, i.bytes)) = some (some (.int .i64 0), 1, 8) := by kernel_rfl

def ints (zs : List Int) : List Value := zs.map (Value.int .i64)

/-- The first k elements agree. -/
def Same {α : Type} (xs ys : List α) (k : Nat) : Prop := ∀ j, j < k → xs[j]? = ys[j]?
theorem Same.all {α : Type} {xs ys : List α} (h : Same xs ys xs.length) (hl : xs.length = ys.length) : xs = ys := by
  apply List.ext_getElem?
  intro j
  rcases Nat.lt_or_ge j xs.length with hj | hj
  · exact h j hj
  · rw [List.getElem?_eq_none hj, List.getElem?_eq_none (by omega)]
theorem range_map_get (f : Nat → Value) (n j : Nat) (h : j < n) : ((List.range n).map f)[j]? = some (f j) := by simp [h]

/-- The first j cells read f. -/
def Told (ys : List Value) (f : Nat → Value) (j : Nat) : Prop := ∀ i, i < j → ys[i]? = some (f i)
theorem Told.zero (ys : List Value) (f : Nat → Value) : Told ys f 0 := fun _ h => absurd h (Nat.not_lt_zero _)
theorem Told.put {ys : List Value} {f : Nat → Value} {j : Nat} (h : Told ys f j) (hl : j < ys.length) : Told (ys.set j (f j)) f (j + 1) := by
  intro i hi
  rw [List.getElem?_set]
  by_cases e : j = i
  · subst e; simp [hl]
  · rw [if_neg e]; exact h i (by omega)
theorem Told.all {ys : List Value} {f : Nat → Value} {j : Nat} (h : Told ys f j) (hl : ys.length = j) : ys = (List.range j).map f := by
  apply List.ext_getElem?
  intro i
  rcases Nat.lt_or_ge i j with hi | hi
  · rw [h i hi, range_map_get f j i hi]
  · rw [List.getElem?_eq_none (by omega), List.getElem?_eq_none (by simpa using hi)]

def inB (n lo hi : Int) : Bool := decide (lo ≤ n) && decide (n ≤ hi)

theorem all_snoc {α : Type} {xs : List α} {p : α → Bool} {j : Nat} {d v : α} (h : j < xs.length) (hA : (xs.take j).all p = true) (hv : v = xs.getD j d) (hp : p v = true) : Hid ((xs.take (j + 1)).all p = true) := by
  subst hv
  have e : xs.getD j d = xs[j] := by simp [h]
  rw [e] at hp
  unfold Hid
  rw [List.take_succ_eq_append_getElem h, List.all_append, hA]
  simp [hp]
theorem all_miss {α : Type} {xs : List α} {p : α → Bool} {j : Nat} {d v : α} (h : j < xs.length) (hv : v = xs.getD j d) (hp : p v = false) : xs.all p = false := by
  subst hv
  have e : xs.getD j d = xs[j] := by simp [h]
  rw [e] at hp
  rw [List.all_eq_false]
  exact ⟨xs[j], List.getElem_mem h, by simp [hp]⟩

/-- What a call leaves that turns nothing of what was there. -/
def Kept (w : World) (v : Value) (e : Ending) (w' : World) : Prop := e = .returned v ∧ Below w.heap.size w w'

/-- slices.IndexFunc's result. -/
def idxI {α : Type} (p : α → Bool) (xs : List α) : Int := match xs.findIdx? p with | some i => i | none => -1

theorem idx_hit {α : Type} {p : α → Bool} {xs : List α} {j : Nat} (h : j < xs.length) (hA : (xs.take j).all (fun x => !p x) = true) (hp : p xs[j] = true) : idxI p xs = j := by
  have : xs.findIdx? p = some j := by
    rw [List.findIdx?_eq_some_iff_getElem]
    refine ⟨h, hp, fun i hi => ?_⟩
    have := List.all_eq_true.1 hA xs[i] (List.mem_take_iff_getElem.2 ⟨i, by omega, rfl⟩)
    simpa using this
  unfold idxI
  rw [this]
theorem idx_miss {α : Type} {p : α → Bool} {xs : List α} (hA : xs.all (fun x => !p x) = true) : idxI p xs = -1 := by
  have : xs.findIdx? p = none := by
    rw [List.findIdx?_eq_none_iff]
    intro x hx
    have := List.all_eq_true.1 hA x hx
    simpa using this
  unfold idxI
  rw [this]

theorem findIdx_bool {α : Type} (p : α → Bool) (xs : List α) : decide (0 ≤ idxI p xs) = xs.any p := by
  unfold idxI
  cases h : xs.findIdx? p with
  | none =>
    have h2 := List.findIdx?_eq_none_iff.1 h
    simp
    intro x hx
    simpa using h2 x hx
  | some i =>
    obtain ⟨hi, h2, _⟩ := List.findIdx?_eq_some_iff_getElem.1 h
    simp
    exact ⟨xs[i], by simp, h2⟩

theorem inB_out {n lo hi : Int} (h : true = inB n lo hi) : lo ≤ n ∧ n ≤ hi := by simpa [inB] using h.symm

theorem not_any_not {α : Type} (xs : List α) (p : α → Bool) : (!xs.any (fun x => !p x)) = xs.all p := by
  rw [List.all_eq_not_any_not]

end Go.Proofs.YtgceabbeeobmgaaDoor
