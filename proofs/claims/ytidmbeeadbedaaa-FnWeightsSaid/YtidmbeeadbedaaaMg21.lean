/- Merged texts: a claim has a limit of files. -/
import Derived.Test.YtidmbeeadbedaaaBxP
import Derived.Test.YtidmbeeadbedaaaKeeps
import Derived.Test.YtidmbeeadbedaaaMg2
import Derived.Test.YtidmbeeadbedaaaMg14
import Derived.RangeFuncFrom

/- Walk over l14All of the reference: the lists of weights that are kept, as a slice of slices. -/
namespace Go.Proofs.Ytidmbeeadbedaaa
open Go.RowKit Go.Shelf

/-- The lists of weights that all rules keep, in order. -/
def keptL (l : Int) (rs : List RuleT) (m : Int) : List (List Int) := (boxes m.toNat l.toNat).filter (fun ws => keepsAll m ws rs)

/-- A slice of ints that begins a block of its own. -/
def El (b0 : Nat) (w : World) (v : Value) (l : List Int) : Prop := ∃ (g c : Nat) (cur : Array Value), v = .slice (some ⟨g, 0, none⟩) l.length c ∧ Bk w g 3 cur ∧ cur.toList.take l.length = ints l ∧ b0 ≤ g ∧ l.length ≤ c ∧ c ≤ maxLen ∧ cur.size = c * 1
def Els (b0 : Nat) (w : World) (vs : List Value) (ls : List (List Int)) : Prop := vs.length = ls.length ∧ ∀ (i : Nat) (l : List Int), ls[i]? = some l → ∃ v, vs[i]? = some v ∧ El b0 w v l
theorem El.below {b0 : Nat} {w w' : World} {v : Value} {l : List Int} (h : El b0 w v l) (hb : Below w.heap.size w w') : El b0 w' v l := by
  obtain ⟨g, c, cur, e, hB, ht, hx⟩ := h
  exact ⟨g, c, cur, e, hB.below hb hB.lt, ht, hx⟩
theorem El.grown {b0 : Nat} {w w' : World} {v : Value} {l : List Int} {row : Option Nat} (h : El b0 w v l) (hg : w.grownBy w' row) (hr : ∀ k, row = some k → ∃ cs, Bk w k 73 cs) : El b0 w' v l := by
  obtain ⟨g, c, cur, e, hB, ht, hx⟩ := h
  refine ⟨g, c, cur, e, hB.grown hg (fun e2 => ?_), ht, hx⟩
  obtain ⟨cs, h2⟩ := hr g e2.symm
  unfold Bk at hB h2
  rw [hB] at h2
  injection h2 with h2
  injection h2 with _ h2
  exact absurd h2 (by decide)
theorem Els.below {b0 : Nat} {w w' : World} {vs : List Value} {ls : List (List Int)} (h : Els b0 w vs ls) (hb : Below w.heap.size w w') : Els b0 w' vs ls := ⟨h.1, fun i l hl => by
  obtain ⟨v, hv, he⟩ := h.2 i l hl
  exact ⟨v, hv, he.below hb⟩⟩
theorem Els.grown {b0 : Nat} {w w' : World} {vs : List Value} {ls : List (List Int)} {row : Option Nat} (h : Els b0 w vs ls) (hg : w.grownBy w' row) (hr : ∀ k, row = some k → ∃ cs, Bk w k 73 cs) : Els b0 w' vs ls := ⟨h.1, fun i l hl => by
  obtain ⟨v, hv, he⟩ := h.2 i l hl
  exact ⟨v, hv, he.grown hg hr⟩⟩
theorem Els.nil (b0 : Nat) (w : World) : Els b0 w [] [] := ⟨rfl, fun i l h => by cases h⟩
theorem El.rd {b0 : Nat} {w : World} {g n c : Nat} {l : List Int} (h : El b0 w (.slice (some ⟨g, 0, none⟩) n c) l) : Rd w (some ⟨g, 0, none⟩) (ints l) := fun _ => by
  obtain ⟨g', c', cur, e, hB, ht, _⟩ := h
  injection e with e1 e2 e3
  injection e1 with e1
  injection e1 with e1
  subst e1
  refine ⟨g, 0, rfl, hB.lt, fun j u hu => ?_⟩
  rw [hB.cell, Nat.zero_add, ← Array.getElem?_toList]
  rw [← ht] at hu
  have hj : j < l.length := by
    have h := (List.getElem?_eq_some_iff.1 hu).1
    rw [List.length_take] at h
    omega
  rwa [List.getElem?_take_of_lt hj] at hu
theorem boxes_get {b L k : Nat} (hk : k < b ^ L) : (boxes b L)[k]? = some (boxAt b L k) := by simp [boxes, hk]
end Go.Proofs.Ytidmbeeadbedaaa

/- A range over a function whose iterator turns, between two rounds, the very memory that it hands out. The contract (StopsM) tells each round what the handed memory holds (Mem); in return what the caller carries from round to round must abide the turn of any block that is new since the loop began (NewOk). The body may go on or return. No condition. -/
namespace Go.Proofs.Ytidmbeeadbedaaa
open Go.RowKit

variable {F : Fence} {n : Nat} {P : Program}

/-- What is said of the world stays so when a block from B on is turned. -/
def NewOk {β : Type} (B : Nat) (I : β → World → Prop) : Prop :=
  ∀ s W W' row, I s W → W.grownBy W' row → (∀ r, row = some r → B ≤ r) → I s W'
theorem newOk_put {β : Type} {B : Nat} {I : β → World → Prop} (h : NewOk B I) {s : β} {W : World} {l : Nat} (o' : Obj) (hs : I s W) (hB : B ≤ l) : I s (W.putObj l o') :=
  h s W _ (some l) hs (grownBy_putObj' W l o') (fun r e => by cases e; exact hB)
theorem newOk_alloc {β : Type} {B : Nat} {I : β → World → Prop} (h : NewOk B I) {s : β} {W : World} (o : Obj) (hs : I s W) : I s (W.alloc o) :=
  h s W _ none hs (World.grownBy_alloc W o none) (fun r e => by cases e)
theorem grown_old {W W' : World} {row : Option Nat} {B k : Nat} {o : Obj} (hg : W.grownBy W' row) (hr : ∀ r, row = some r → B ≤ r) (hk : W.heap[k]? = some o) (hkB : k < B) : W'.heap[k]? = some o :=
  (hg.block k (Array.getElem?_eq_some_iff.1 hk).1 (fun e => by have := hr k e.symm; omega)).trans hk

/-- The blocks of cells from B on lie as they lay. -/
def CellsFrom (B : Nat) (W W' : World) : Prop := ∀ k o, B ≤ k → W.heap[k]? = some o → o.isCells = true → W'.heap[k]? = some o
theorem CellsFrom.trans {B : Nat} {W1 W2 W3 : World} (h : CellsFrom B W1 W2) (k : CellsFrom B W2 W3) : CellsFrom B W1 W3 := fun i o hB hi hc => k i o hB (h i o hB hi hc) hc
theorem CellsFrom.put {B : Nat} {W : World} {l : Nat} {o : Obj} (o' : Obj) (h : W.heap[l]? = some o) (hc : o.isCells = false) : CellsFrom B W (W.putObj l o') := fun i q _ hi hq =>
  (World.putObj_heap_other (fun e => by rw [← e, hi] at h; cases h; rw [hq] at hc; cases hc)).trans hi

/-- The iterator's contract. -/
def StopsM {α : Type} (F : Fence) (n : Nat) (P : Program) (g : Nat) (lb : Array Value) (encs : α → Array Value) (Mem : List α → α → World → Prop) (S : List α → Prop) (N B : Nat) (w : World) : Prop :=
  ∀ (l : Nat) (J Jx : List α → World → Prop) (W : World), Below w.heap.size w W → NewOk W.heap.size J →
    (∀ pre x W1, J pre W1 → Mem pre x W1 → pre.length < N → YieldAt F (n - 1) P l (encs x) W1 fun e W' =>
      (e = .returned (.bool true) ∧ J (pre ++ [x]) W' ∧ CellsFrom B W1 W') ∨ (e = .returned (.bool false) ∧ Jx (pre ++ [x]) W')) →
    J [] W →
    CallsIn F n P g (#[.func (.yield l) #[] #[]] ++ lb) W fun e W' => (∃ v, e = .returned v) ∧ ((∃ xs, S xs ∧ J xs W') ∨ (∃ pre, Jx pre W'))

/-- How a round's body may be left: it goes on, or it returns. -/
def endsM {α : Type} (B : Nat) (I Ix : List α → World → Prop) (xs : List α) (W : World) : Exit → Act → World → Prop
  | .normal, _, W' => KeepsOthers W W' ∧ CellsFrom B W W' ∧ I xs W'
  | .ret, _, W' => KeepsOthers W W' ∧ Ix xs W'
  | _, _, _ => False

theorem rangeFunc_mem {α : Type} {g : Operand} {ps : Array Tmp} {assign body : Code} {Q : Exit → Act → World → Prop} {a : Act} {w : World}
    (hro : F.round = none) (h1 : 1 ≤ n) {gf : Nat} {lb : Array Value} (hg : a.eval g = .func (.func gf) #[] lb) (hFg : F.fn gf) (eg : ∀ args w, (callFunc gf args).run P w = .ok (.enter gf args) w)
    {encs : α → Array Value} {Mem : List α → α → World → Prop} {S : List α → Prop} {N B : Nat} (hseq : StopsM F (n - 1) P gf lb encs Mem S N B w)
    (hMem : ∀ (pre : List α) (x : α) (W : World) (l : Nat) (o o' : Obj), W.heap[l]? = some o → o.isCells = false → Mem pre x W → Mem pre x (W.putObj l o')) (hps : ∀ x, (encs x).size = ps.size)
    (I Ix : List α → World → Prop) (hI : NewOk w.heap.size I) (hIx : ∀ (s : List α) (W : World) (l : Nat) (o o' : Obj), w.heap.size ≤ l → W.heap[l]? = some o → o.isCells = false → Ix s W → Ix s (W.putObj l o')) (h0 : I [] w) (a₁ : α → Act)
    (hassign : ∀ (l : Nat) (x : α) (W : World) (K : Act → World → Prop), K (a₁ x) W →
      assign.wpIn (F.inRound l) (n - 1 - 1) P (Exit.then K (fun _ _ _ => False)) { tmps := (ps.zip (encs x)).foldl (fun t (p, v) => t.setIfInBounds p v) a.tmps, defers := [] } W)
    (hbody : ∀ (l : Nat) (pre : List α) (x : α) (W : World), I pre W → Mem pre x W → pre.length < N → body.wpIn (F.inRound l) (n - 1 - 1) P (endsM B I Ix (pre ++ [x]) W) (a₁ x) W)
    (hdone : ∀ (D : Nat) (xs : List α) (W : World), w.heap.size ≤ D → S xs → I xs W → W.heap[D]? = some (.deferred (some [])) → Q .normal { a with defers := { target := .collected D, args := #[] } :: a.defers } W)
    (hstop : ∀ (D : Nat) (pre : List α) (W : World), w.heap.size ≤ D → Ix pre W → W.heap[D]? = some (.deferred (some [])) → Code.ret.wpIn F n P Q { a with defers := { target := .collected D, args := #[] } :: a.defers } W) :
    (Code.rangeFunc g ps assign body).wpIn F n P Q a w := by
  refine wpIn_rangeFunc fun fn hfn => ?_
  rw [hro]
  let D := w.heap.size
  let L := w.heap.size + 1
  let mk : LoopState → Option Code → Loop := fun st pe => { state := st, pending := pe, fn, tmps := a.tmps, params := ps, assign, body, defers := D }
  let V := (w.alloc (.deferred (some []))).alloc (.loop (mk .ready none))
  have hsD : (w.alloc (.deferred (some []))).heap.size = L := World.size_alloc _ _
  have hsV : V.heap.size = w.heap.size + 2 := (World.size_alloc _ _).trans (by rw [hsD])
  have hL : V.heap[L]? = some (.loop (mk .ready none)) := by
    have h := World.alloc_heap_new (w.alloc (.deferred (some []))) (.loop (mk .ready none))
    rwa [hsD] at h
  have hD : V.heap[D]? = some (.deferred (some [])) := (Below.heap_alloc _ _ _ (by rw [hsD]; exact Nat.lt_succ_self _)).trans (World.alloc_heap_new w _)
  have hbV : Below w.heap.size w V := ((Below.refl _ w).alloc (Nat.le_refl _) _).alloc (by rw [hsD]; exact Nat.le_succ _) _
  have hDL : D < V.heap.size := by show w.heap.size < _; omega
  have hLL : L < V.heap.size := by show w.heap.size + 1 < _; omega
  have hne : L ≠ D := Nat.succ_ne_self _
  refine ⟨L, [{ target := .collected D, args := #[] }], V, { target := .fn (.func gf) lb, args := #[.func (.yield L) #[] #[]] }, V, gf, #[.func (.yield L) #[] #[]] ++ lb, V,
    run_enterLoop_outer _ _ _ _ _, ?_, ?_, ?_, fun _ => h1, ?_⟩
  · simp only [resolve, hg]
    simp [go_sem]
  · intro f' hf'
    simp [Target.leads] at hf'
    subst hf'
    exact hFg
  · simp [invoke, go_sem, eg]
  · have lift : ∀ {row : Option Nat}, (∀ r, row = some r → V.heap.size ≤ r) → ∀ r, row = some r → w.heap.size ≤ r := fun h r e => by have := h r e; omega
    refine (hseq L (fun pre W => I pre W ∧ W.heap[L]? = some (.loop (mk .ready none)) ∧ W.heap[D]? = some (.deferred (some [])))
      (fun pre W => Ix pre W ∧ W.heap[L]? = some (.loop (mk .done (some .ret))) ∧ W.heap[D]? = some (.deferred (some []))) V hbV
      (fun s A B row h hg hr => ⟨hI s A B row h.1 hg (lift hr), grown_old hg hr h.2.1 hLL, grown_old hg hr h.2.2 hDL⟩)
      ?_ ⟨newOk_alloc hI _ (newOk_alloc hI _ h0), hL, hD⟩).mono ?_
    · rintro pre x W ⟨hi, hl, hk⟩ hm hlen
      have hy := run_yield (P := P) (args := encs x) hl (hps x)
      refine ⟨fn, _, assign, body, hy, roundIn_of_wpIn hfn (hassign _ x W _ ⟨_, run_beginRound hl rfl, ?_⟩)⟩
      have hl2 : (W.putObj L (.loop (mk .busy none))).heap[L]? = some (.loop (mk .busy none)) := World.putObj_heap_same (Array.getElem?_eq_some_iff.1 hl).1
      have hk2 : (W.putObj L (.loop (mk .busy none))).heap[D]? = some (.deferred (some [])) := (World.putObj_heap_other hne.symm).trans hk
      refine wpIn_mono (hbody _ pre x _ (newOk_put hI _ hi (Nat.le_succ _)) (hMem pre x W _ _ _ hl rfl hm) hlen) ?_
      have fin : ∀ (jump : Option Code) (st : LoopState) (W3 : World), (if jump.isNone then LoopState.ready else .done) = st → KeepsOthers (W.putObj L (.loop (mk .busy none))) W3 →
          (Instr.endRound L jump).run P W3 = .ok (.bool jump.isNone) (W3.putObj L (.loop (mk st jump))) ∧ W3.heap[L]? = some (.loop (mk .busy none)) ∧
          (W3.putObj L (.loop (mk st jump))).heap[L]? = some (.loop (mk st jump)) ∧ (W3.putObj L (.loop (mk st jump))).heap[D]? = some (.deferred (some [])) := fun jump st W3 hst hk3 => by
        have hl3 := hk3.same _ _ hl2 rfl
        have he := run_endRound (P := P) jump hl3
        rw [hst] at he
        exact ⟨he, hl3, World.putObj_heap_same (Array.getElem?_eq_some_iff.1 hl3).1, (World.putObj_heap_other hne.symm).trans (hk3.same _ _ hk2 rfl)⟩
      rintro e a3 W3 hp
      cases e with
      | normal =>
        obtain ⟨hk3, hc3, hi3⟩ := hp
        obtain ⟨hr, hl3, hl4, hk4⟩ := fin none .ready W3 rfl hk3
        refine ⟨_, _, hr, .inl ⟨rfl, ⟨newOk_put hI _ hi3 (Nat.le_succ _), hl4, hk4⟩, ?_⟩⟩
        have hc : CellsFrom B W (W3.putObj L (.loop (mk .ready none))) := ((CellsFrom.put _ hl rfl).trans hc3).trans (CellsFrom.put _ hl3 rfl)
        exact hc
      | ret =>
        obtain ⟨hk3, hi3⟩ := hp
        obtain ⟨hr, hl3, hl4, hk4⟩ := fin (some .ret) .done W3 rfl hk3
        exact ⟨_, _, hr, .inr ⟨rfl, hIx _ _ _ _ _ (Nat.le_succ _) hl3 rfl hi3, hl4, hk4⟩⟩
      | exit id => exact hp.elim
      | goto t => exact hp.elim
      | panic ch => exact hp.elim
      | outgrown => exact hp.elim
    · rintro e W2 ⟨⟨v, rfl⟩, (⟨xs, hS, hi, hl, hk⟩ | ⟨pre, hi, hl, hk⟩)⟩
      · exact ⟨none, _, run_endLoop (P := P) hl (by simp [mk]), hdone _ xs _ (Nat.le_refl _) hS (newOk_put hI _ hi (Nat.le_succ _)) ((World.putObj_heap_other hne.symm).trans hk)⟩
      · exact ⟨some .ret, _, run_endLoop (P := P) hl (by simp [mk]), hstop _ pre _ (Nat.le_refl _) (hIx _ _ _ _ _ (Nat.le_succ _) hl rfl hi) ((World.putObj_heap_other hne.symm).trans hk)⟩

end Go.Proofs.Ytidmbeeadbedaaa
