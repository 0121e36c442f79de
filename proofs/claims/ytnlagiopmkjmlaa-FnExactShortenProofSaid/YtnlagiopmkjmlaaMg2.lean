/- Merged texts: a claim has a limit of files. -/
import Derived.Test.YtnlagiopmkjmlaaBase
import Derived.Test.YtnlagiopmkjmlaaMark
import Derived.Test.YtnlagiopmkjmlaaMg1

/- append of one element, as a law of the walk; what appends and results of two need. -/
namespace Go.Proofs.Ytnlagiopmkjmlaa
open Go.RowKit Go.Shelf

theorem one_cell1 (v : Int) : ∀ u ∈ (#[Value.int .i64 v] : Array Value).toList, u.oneCell' = true := by intro u hu; simp at hu; subst hu; rfl

/-- 'append(v, x)' of one element that lies in the newest block, onto a slice of the call's own. -/
theorem wpList_app1 {P : Program} {ops : Array Oper} {rest : List Oper} {o : Oper} {a : Act} {Q : Exit → Act → World → Prop} (w w0 : World) (hgd : o.guard = none) (s x : Operand) (t : TypeId)
    (ho : o.op = .call { callee := .builtin .append, args := #[s, x], argTypes := #[t, t] }) (base e size bytes : Nat) (z : Value) (ht : P.underlying t = some (.slice e))
    (hinfo : (P.info? e).map (fun i => (i.zero, i.size, i.bytes)) = some (some z, size, bytes)) (hzs : z.cells.size = size) (hsz : 0 < size) (v : Value) (n : Nat) (xs : List Value) (cs : Array Value)
    (hw : w = w0.alloc (.cells cs e)) (hs : a.eval s = v) (hx : a.eval x = .slice (some ⟨w0.heap.size, 0, none⟩) 1 1) (hown : w0.ownsRow base e size v n xs) (hcs : cs.size = size) (h1 : ∀ u ∈ cs.toList, u.oneCell' = true)
    (hn : (n + 1) * bytes ≤ 140737488355328) (hm : n + 1 ≤ maxLen) (hbase : base ≤ w0.heap.size)
    (h : ∀ A c w', w'.ownsRow base e size (.slice A (n + 1) c) (n + 1) (xs ++ cs.toList) → Below base w0 w' → wpList P ops Q rest (a.put o.dst (.slice A (n + 1) c)) w') :
    wpList P ops Q (o :: rest) a w := by
  subst hw
  obtain ⟨i0, hi, hz0, hz1, hz2⟩ := info_parts hinfo
  refine wpList_append_own _ hgd s x t ho base e i0 z size bytes ht hi hz0 hz1 hz2 hzs hsz v n xs hs (hown.alloc _) ⟨w0.heap.size, 0, none⟩ 1 1 cs.toList hx (by simpa using hcs) ?_ h1 hm hn (by simp; omega) ?_
  · intro j u hu
    have e' : (⟨w0.heap.size, 0, none⟩ : Addr).add j = ⟨w0.heap.size, j, none⟩ := by unfold Addr.add; split <;> simp_all
    rw [e', (Bk.new w0 e cs).cell j]
    simpa using hu
  · intro v' w' hown' hgrow _
    have hform : ∃ A c, v' = .slice A (n + 1) c := by
      rcases hown'.2 with ⟨_, h0⟩ | ⟨g, cap, cur, hv, _⟩
      · omega
      · exact ⟨_, _, hv⟩
    obtain ⟨A, c, rfl⟩ := hform
    refine h A c w' hown' ?_
    have hb0 : Below base w0 (w0.alloc (.cells cs e)) := (Below.refl _ _).alloc hbase _
    exact hb0.grown hgrow (by simp; omega) fun k hk => ((hown.alloc (.cells cs e)).lt k hk).1

/-- A slice of the call's own and a bool. -/
def MadeSlB (w : World) (t : TypeId) (m n : Nat) (xs : List Value) (b : Bool) (e : Ending) (w' : World) : Prop :=
  ∃ A c, e = .returned (.tuple #[.slice A n c, .bool b]) ∧ w'.ownsRow w.heap.size t m (.slice A n c) n xs ∧ Below w.heap.size w w'

theorem take_next {α : Type} {xs : List α} {j : Nat} {x : α} (h : xs[j]? = some x) : xs.take (j + 1) = xs.take j ++ [x] := by
  rw [List.take_add_one, h]; rfl
theorem ints_snoc (xs : List Int) (x : Int) : ints (xs ++ [x]) = ints xs ++ [.int .i64 x] := by simp [ints]
/-- What has been appended to the first j numbers. -/
theorem ints_next {w : World} {base : Nat} {t : TypeId} {v : Value} {xs : List Int} {j : Nat} {x : Int} (h : w.ownsRow base t 1 v (j + 1) (ints (xs.take j) ++ (#[Value.int .i64 x] : Array Value).toList)) (hx : xs[j]? = some x) :
    w.ownsRow base t 1 v (j + 1) (ints (xs.take (j + 1))) := by
  rw [take_next hx, ints_snoc]
  exact h

/-- What is left of a size after t more. -/
def szLeft (left : Int) (t : Nat) : Int := if left - t < 0 then -1 else left - t
/-- A slice of int that came in. -/
def OpenSlInts (w : World) (A : Option Addr) (n : Nat) (zs : List Int) : Prop := Rd w A (ints zs) ∧ n = zs.length ∧ n ≤ maxLen ∧ ∀ z ∈ zs, (Lit.int .i64 z).wf = true

theorem mem_sum {α : Type} (f : α → Nat) (xs : List α) (x : α) (h : x ∈ xs) : f x ≤ (xs.map f).sum := by
  induction xs with
  | nil => cases h
  | cons y t ih =>
    rw [List.map_cons, List.sum_cons]
    rcases List.mem_cons.1 h with e | e
    · subst e; omega
    · have := ih e; omega
theorem Rd.drew {w : World} {A : Option Addr} {xs : List Value} (h : Rd w A xs) : Rd w.drew A xs := h
theorem own_bk_ne {w : World} {base : Nat} {e t : TypeId} {size n g : Nat} {v : Value} {xs : List Value} {cs : Array Value} (h : w.ownsRow base e size v n xs) (hg : Bk w g t cs) (hne : e ≠ t) : some g ≠ v.ownBlock := by
  rcases h.2 with ⟨rfl, _⟩ | ⟨g', cap, cur, rfl, _, hh, _⟩
  · simp [Value.ownBlock]
  · intro he
    have e' : g = g' := by simpa [Value.ownBlock] using he
    subst e'
    unfold Bk at hg
    rw [hh] at hg
    injection hg with hg
    injection hg with _ ht
    exact hne ht

end Go.Proofs.Ytnlagiopmkjmlaa

/- Walks over the laws' helpers for impl.Step: eqStep, eqStepS, markStepS, heldStepS and the readings of slices of them. -/
namespace Go.Proofs.Ytnlagiopmkjmlaa
open Go.RowKit Go.Shelf

abbrev StepT : Type := Int × Int
def encStep (x : StepT) : List Value := [.int .i64 x.1, .int .i64 x.2]
def cellsStep (xs : List StepT) : List Value := xs.flatMap encStep
theorem encStep_len (x : StepT) : (encStep x).length = 2 := rfl
theorem cellsStep_len (xs : List StepT) : (cellsStep xs).length = xs.length * 2 := flat_len (enc := encStep) (m := 2) (fun _ => rfl) xs
theorem info_Step : (Try.prog.info? 106).map (fun i => (i.zero, i.size, i.bytes)) = some (some (.agg #[.int .i64 0, .int .i64 0]), 2, 16) := by kernel_rfl

/-- The cells of element k. -/
theorem rd_Step {w : World} {A : Option Addr} {xs : List StepT} (h : Rd w A (cellsStep xs)) {k : Nat} (hk : k < xs.length) : ∃ b off, A = some ⟨b, off, none⟩ ∧ b < w.heap.size ∧
    w.cell? ⟨b, off + k * 2, none⟩ = some (.int .i64 xs[k].1) ∧ w.cell? ⟨b, off + k * 2 + 1, none⟩ = some (.int .i64 xs[k].2) := by
  have f0 := flat_get (enc := encStep) (m := 2) (fun _ => rfl) xs k 0 hk (by omega)
  obtain ⟨b, off, e, hb, hc⟩ := h (by intro e; unfold cellsStep at e; rw [e] at f0; cases f0)
  refine ⟨b, off, e, hb, ?_, ?_⟩
  · exact hc (k * 2) _ f0
  · exact hc (k * 2 + 1) _ (flat_get (enc := encStep) (m := 2) (fun _ => rfl) xs k 1 hk (by omega))

set_option maxRecDepth 100000 in
set_option maxHeartbeats 400000 in
theorem eqStep_any (x0 : Int) (x1 : Int) (y0 : Int) (y1 : Int) (w : World) :
    Calls Try.prog 134 #[.agg #[.int .i64 x0, .int .i64 x1], .agg #[.int .i64 y0, .int .i64 y1]] w (Kept w (.bool (decide (x0 = y0) && decide (x1 = y1)))) := by
  have e0 : (x0 == y0) = decide (x0 = y0) := rfl
  have i0 : (x0 != y0) = !decide (x0 = y0) := rfl
  have e1 : (x1 == y1) = decide (x1 = y1) := rfl
  have i1 : (x1 != y1) = !decide (x1 = y1) := rfl
  generalize decide (x0 = y0) = b0 at *
  generalize decide (x1 = y1) = b1 at *
  go_enter Try.func134, Try.ntmps134
  cases b0
  · go_wp2
    go_ret
    exact ⟨rfl, ((Below.refl _ _).alloc (Nat.le_refl _) _).alloc (by simp) _⟩
  cases b1
  · go_wp2
    go_ret
    exact ⟨rfl, ((Below.refl _ _).alloc (Nat.le_refl _) _).alloc (by simp) _⟩
  · go_wp2
    go_ret
    exact ⟨rfl, ((Below.refl _ _).alloc (Nat.le_refl _) _).alloc (by simp) _⟩




end Go.Proofs.Ytnlagiopmkjmlaa

/- Walks over within, l01In, allWithin, slices.IndexFunc and ContainsFunc at []int, and both WeightsOk: each returns what wtsOk says, for all arguments. -/
namespace Go.Proofs.Ytnlagiopmkjmlaa
open Go.RowKit Go.Shelf

set_option maxHeartbeats 400000 in
theorem l01In_any (n lo hi : Int) (w : World) :
    Calls Try.prog 98 #[.int .i64 n, .int .i64 lo, .int .i64 hi] w fun e w' => e = .returned (.bool (inB n lo hi)) ∧ w = w' := by
  unfold inB
  by_cases h1 : lo ≤ n <;> by_cases h2 : n ≤ hi
  all_goals
    go_enter Try.func98, Try.ntmps98
    go_wp2
    go_ret
    exact ⟨by simp [*], rfl⟩

set_option maxHeartbeats 400000 in
theorem within_any (n lo hi : Int) (w : World) :
    Calls Try.prog 101 #[.int .i64 n, .int .i64 lo, .int .i64 hi] w fun e w' => e = .returned (.bool (inB n lo hi)) ∧ w = w' := by
  unfold inB
  by_cases h1 : lo ≤ n <;> by_cases h2 : n ≤ hi
  all_goals
    go_enter Try.func101, Try.ntmps101
    go_wp2
    go_ret
    exact ⟨by simp [*], rfl⟩

/-- WeightsOk, in plain words. -/
def wtsOk (m : Int) (zs : List Int) : Bool := inB m 1 12 && inB zs.length 1 4 && zs.all (fun x => inB x 0 (m - 1))

end Go.Proofs.Ytnlagiopmkjmlaa

/- Walks over both AddWeights: each returns the sums, for all arguments. -/
namespace Go.Proofs.Ytnlagiopmkjmlaa
open Go.RowKit Go.Shelf

def addOk (m : Int) (xs ys : List Int) : Bool := wtsOk m xs && wtsOk m ys && decide (xs.length = ys.length)
def addS (m : Int) (xs ys : List Int) : List Int := List.zipWith (fun x y => (x + y) % m) xs ys
/-- The sums, or nothing. -/
def addW (m : Int) (xs ys : List Int) : List Int := if addOk m xs ys then addS m xs ys else []
theorem addW_no {m : Int} {xs ys : List Int} (h : addOk m xs ys = false) : addW m xs ys = [] := by unfold addW; rw [h]; rfl
theorem addW_yes {m : Int} {xs ys : List Int} (h : addOk m xs ys = true) : addW m xs ys = addS m xs ys := by unfold addW; rw [h]; rfl

theorem addW_len (m : Int) (xs ys : List Int) : (addW m xs ys).length ≤ 1048576 := by
  unfold addW
  split
  · next h =>
    unfold addOk wtsOk at h
    simp only [Bool.and_eq_true] at h
    have := inB_out h.1.1.1.2.symm
    unfold addS
    rw [List.length_zipWith]
    omega
  · simp

theorem wts_bounds {m : Int} {xs : List Int} (h : wtsOk m xs = true) : 1 ≤ m ∧ m ≤ 12 ∧ 1 ≤ xs.length ∧ xs.length ≤ 4 ∧ ∀ k (hk : k < xs.length), 0 ≤ xs[k] ∧ xs[k] ≤ m - 1 := by
  unfold wtsOk at h
  simp only [Bool.and_eq_true, List.all_eq_true] at h
  obtain ⟨⟨h1, h2⟩, h3⟩ := h
  have h1 := inB_out h1.symm
  have h2 := inB_out h2.symm
  refine ⟨h1.1, h1.2, by omega, by omega, fun k hk => ?_⟩
  have := inB_out (h3 xs[k] (List.getElem_mem hk)).symm
  omega



end Go.Proofs.Ytnlagiopmkjmlaa
