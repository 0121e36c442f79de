/- Merged texts: a claim has a limit of files. -/
import Derived.Test.YteafeecndghapaaGreatMkB
import Derived.Test.YteafeecndghapaaGreatMg12
import Derived.Test.YteafeecndghapaaGreatMg10
import Derived.Test.YteafeecndghapaaGreatNorm
import Derived.Test.YteafeecndghapaaGreatMg11
import Derived.Test.YteafeecndghapaaGreatDrw
import Derived.Test.YteafeecndghapaaGreatMg4
import Derived.Test.YteafeecndghapaaGreatMg2
import Derived.Test.YteafeecndghapaaGreatMg1
import Derived.Test.YteafeecndghapaaGreatChain
import Derived.Test.YteafeecndghapaaGreatMg13
import Derived.Deep.RegionLaw
import Derived.Lib.SliceRun
import Derived.Lib.IndexMore
import Derived.Test.YteafeecndghapaaGreatMg8

/- A slice of bytes that came in, opened. -/
namespace Go.Proofs.YteafeecndghapaaGreat
open Go.ChangeShapes Go.WideShapes Go.ChangeAt Go.RowKit Go.Shelf

section
variable {H : Type} {enc : TypeId × Value → H} {w : World} {base : Nat} {spare : Nat → Bool} {held : Bool}
/-- A slice of bytes that came in. -/
theorem open_byteS {a : Option Addr} {n c : Nat} {d : DataW H} {p : List MemPlace} (h : DataW.Trod enc Tryz.prog w 0 (fun _ => true) true 22 (.slice a n c) d p) :
    ∃ zs : List Int, Rd w a (u8c zs) ∧ n = zs.length ∧ n ≤ maxLen ∧ ∀ z ∈ zs, (Lit.int .u8 z).wf = true := by
  obtain ⟨fuel, hf⟩ := h
  rcases open_ints Tryz.underlying22 Tryz.underlying5 (by kernel_rfl) hf with ⟨hcs, _⟩ | ⟨x, l, cc, zs, hcs, _, hl, hm, hz, _, hcell, hwz⟩
  · simp [Value.cells] at hcs
    obtain ⟨rfl, rfl, rfl⟩ := hcs
    exact ⟨[], Rd.nil _ _, rfl, by unfold maxLen; omega, by simp⟩
  · simp [Value.cells] at hcs
    obtain ⟨rfl, rfl, rfl⟩ := hcs
    have hz' : zs.length = c := by simpa using hz
    refine ⟨zs.take n, rd_of_cells fun j u hu => ?_, by rw [List.length_take]; omega, Nat.le_trans hl hm, fun z hz => hwz z (List.mem_of_mem_take hz)⟩
    simp only [u8c, List.getElem?_map, List.getElem?_take] at hu
    split at hu
    · have hj : j < zs.length := by omega
      rw [hcell j hj]
      simp [hj] at hu ⊢
      exact hu
    · simp at hu
end
theorem byte_wf {z : Int} (h : (Lit.int .u8 z).wf = true) : 0 ≤ z ∧ z ≤ 255 := by
  have e1 : IntKind.u8.min = 0 := rfl
  have e2 : IntKind.u8.max = 255 := rfl
  simp [Lit.wf, e1, e2] at h
  exact h

end Go.Proofs.YteafeecndghapaaGreat

/- Plain words for CountReached, and for a map that holds true for each word of a list. No walk, no condition. -/
namespace Go.Proofs.YteafeecndghapaaGreat
open Go.RowKit Go.Shelf

/-- The map holds true for each word of the list and nothing else. -/
def MapT (D : DataW Unit) (ws : List ByteArray) : Prop := Maps.IsMap D ∧ ∀ s : ByteArray, Maps.has D (.string s.data.toList) = (fnd ws s).isSome ∧ ∀ z, (fnd ws s).isSome = true → D.atKey (.string s.data.toList) z = .lit (.bool true)
theorem fnd_snoc_some (x s : ByteArray) (ws : List ByteArray) : (fnd (ws ++ [x]) s).isSome = ((fnd ws s).isSome || decide (x = s)) := by
  rw [fnd_snoc]
  cases fnd ws s with
  | some i => rfl
  | none =>
    by_cases h : x = s
    · simp [h]
    · simp [h]
theorem MapT.snoc {D : DataW Unit} {ws : List ByteArray} (h : MapT D ws) (x : ByteArray) : MapT (D.put (.string x.data.toList) (.lit (.bool true))) (ws ++ [x]) := by
  have hk : WideAt.IsKeyLit (Lit.string x.data.toList) := trivial
  refine ⟨?_, fun s => ?_⟩
  · obtain ⟨es, rfl⟩ := h.1
    exact ⟨_, rfl⟩
  rw [fnd_snoc_some]
  by_cases hs : x = s
  · subst hs
    rw [decide_eq_true rfl, Bool.or_true]
    exact ⟨Maps.has_put_same h.1 hk _, fun z _ => Maps.atKey_put_same h.1 hk _ z⟩
  · rw [decide_eq_false hs, Bool.or_false, Maps.has_put_other (key_ne hs)]
    refine ⟨(h.2 s).1, fun z hi => ?_⟩
    rw [Maps.atKey_put_other (key_ne hs)]
    exact (h.2 s).2 z hi
theorem MapT.nil : MapT (.map []) [] := ⟨⟨_, rfl⟩, fun s => ⟨rfl, fun z hi => by cases hi⟩⟩

/-- The words that are reached, in order. -/
def wAt (Q : List ByteArray) (a : Nat) : ByteArray := Q.getD a ⟨#[]⟩
end Go.Proofs.YteafeecndghapaaGreat

/- Plain words for the law FnReduce: reduction ends at a reduced word that is not greater, by the steps that are told; few words are reached. No walk, no condition. -/
namespace Go.Proofs.YteafeecndghapaaGreat
open Go.RowKit Go.Shelf

theorem wordOk_mk {k : Int} {s : ByteArray} (h1 : 1 ≤ k) (h4 : k ≤ 4) (hs : s.size ≤ 16) (hl : lettersOk k s = true) : wordOk k s = true := by
  unfold wordOk inB
  simp only [Bool.and_eq_true, decide_eq_true_eq]
  exact ⟨⟨⟨h1, h4⟩, hs⟩, hl⟩
theorem sys_in {l : Int} {rs : List RuleT} (h : systemOk l rs = true) : 1 ≤ l ∧ l ≤ 4 ∧ rs.length ≤ 12 := by
  have h1 := sys_rules h
  have h2 := rulesOk_12 h1
  unfold rulesOk at h1
  simp only [Bool.and_eq_true] at h1
  have := inB_out h1.1.1.symm
  exact ⟨this.1, this.2, h2⟩
/-- A step of an ordered system from a good word: it can be made, it leads to a good word that is no longer. -/
theorem step_good {l : Int} {rs : List RuleT} {s : ByteArray} {x : StepT} (hsy : systemOk l rs = true) (hw : wordOk l s = true) (hx : x ∈ stepAcc rs s s.size) : applyOk rs s x = true ∧ wordOk l (applyS rs s x) = true ∧ (applyS rs s x).size ≤ s.size := by
  obtain ⟨k, p, rfl, hk, _, hh⟩ := mem_step hx
  obtain ⟨hl4, h1, h2, h3, h4, h5⟩ := sys_rule hsy hk
  obtain ⟨w1, w2, w3, w4⟩ := wordOk_out hw
  unfold hitAt at hh
  obtain ⟨hp, _⟩ := has_parts hh
  have hle : (ruleAt rs k).2.size ≤ (ruleAt rs k).1.size := by
    unfold lessW at h5
    split at h5
    · omega
    · have := of_decide_eq_true h5; omega
  have hok : replOk s (p : Int) ((ruleAt rs k).1.size : Int) (ruleAt rs k).2 = true := by
    unfold replOk
    simp only [Bool.and_eq_true, decide_eq_true_eq]
    omega
  have e : applyS rs s ((k : Int), (p : Int)) = s.extract 0 p ++ (ruleAt rs k).2 ++ s.extract (p + (ruleAt rs k).1.size) s.size := by
    unfold applyS
    dsimp only
    rw [Int.toNat_natCast, replS_yes hok]
    congr 1
  have hsz : (applyS rs s ((k : Int), (p : Int))).size ≤ s.size := by
    rw [e, ByteArray.size_append, ByteArray.size_append, ByteArray.size_extract, ByteArray.size_extract]
    omega
  refine ⟨?_, wordOk_mk w1 w2 (by omega) ?_, hsz⟩
  · unfold applyOk
    dsimp only
    rw [Int.toNat_natCast]
    exact hok
  · rw [e]
    exact letters_app (letters_app (letters_ext w4 _ _) h4) (letters_ext w4 _ _)

/-- What the end of a run of an ordered system is, whichever steps are made. -/
theorem end_good {l : Int} {rs : List RuleT} {pick : ByteArray → Option StepT} (hsy : systemOk l rs = true) (hp : ∀ s x, pick s = some x → x ∈ stepAcc rs s s.size) : ∀ (n : Nat) (s : ByteArray), val4 s ≤ n → wordOk l s = true →
    wordOk l (endF pick rs s).2 = true ∧ pick (endF pick rs s).2 = none ∧ (endF pick rs s).2.size ≤ s.size ∧ (((endF pick rs s).1 = [] ∧ (endF pick rs s).2 = s ∧ pick s = none) ∨ ((endF pick rs s).1 ≠ [] ∧ val4 (endF pick rs s).2 < val4 s ∧ (pick s).isSome = true)) := by
  have hv : ∀ s x, pick s = some x → val4 (applyS rs s x) < val4 s := fun s x h => step_val hsy (hp s x h)
  intro n
  induction n with
  | zero => intro s h; have := val4_pos s; omega
  | succ n ih =>
    intro s hn hw
    cases h : pick s with
    | none => rw [endF_none h]; exact ⟨hw, h, Nat.le_refl _, .inl ⟨rfl, rfl, rfl⟩⟩
    | some x =>
      have h1 := hv s x h
      obtain ⟨-, h2, h3⟩ := step_good hsy hw (hp s x h)
      obtain ⟨a, b, c, d⟩ := ih (applyS rs s x) (by omega) h2
      rw [endF_some hv h]
      refine ⟨a, b, by dsimp only; omega, .inr ⟨by simp, ?_, rfl⟩⟩
      rcases d with ⟨-, d, -⟩ | ⟨-, d, -⟩
      · dsimp only; rw [d]; exact h1
      · dsimp only; omega
theorem norm_good {l : Int} {rs : List RuleT} {s : ByteArray} (hsy : systemOk l rs = true) (hw : wordOk l s = true) :
    wordOk l (normS rs s) = true ∧ firstS rs (normS rs s) = none ∧ (normS rs s).size ≤ s.size ∧ ((traceS rs s = [] ∧ normS rs s = s ∧ firstS rs s = none) ∨ (traceS rs s ≠ [] ∧ val4 (normS rs s) < val4 s ∧ (firstS rs s).isSome = true)) :=
  end_good hsy (fun _ _ => firstS_mem) _ s (Nat.le_refl _) hw
theorem far_good {l : Int} {rs : List RuleT} {s : ByteArray} (hsy : systemOk l rs = true) (hw : wordOk l s = true) :
    wordOk l (farS rs s) = true ∧ lastS rs (farS rs s) = none ∧ (farS rs s).size ≤ s.size ∧ (((endF (lastS rs) rs s).1 = [] ∧ farS rs s = s ∧ lastS rs s = none) ∨ ((endF (lastS rs) rs s).1 ≠ [] ∧ val4 (farS rs s) < val4 s ∧ (lastS rs s).isSome = true)) :=
  end_good hsy (fun _ _ => lastS_mem) _ s (Nat.le_refl _) hw

theorem first_none {rs : List RuleT} {s : ByteArray} : firstS rs s = none ↔ stepAcc rs s s.size = [] := by
  unfold firstS
  exact List.head?_eq_none_iff
theorem lastTo_none {rs : List RuleT} {s : ByteArray} : ∀ n, lastTo rs s n = none ↔ stepAcc rs s n = []
  | 0 => by simp [lastTo, stepAcc_zero]
  | n + 1 => by
    rw [lastTo, stepAcc_succ, stepTo, Option.or_eq_none_iff, lastTo_none n, List.head?_eq_none_iff, List.append_eq_nil_iff]
    exact And.comm
theorem last_none {rs : List RuleT} {s : ByteArray} : lastS rs s = none ↔ stepAcc rs s s.size = [] := lastTo_none _
theorem takes_mk {l : Int} {rs : List RuleT} {s : ByteArray} (hsy : systemOk l rs = true) (hw : wordOk l s = true) : takesOk l rs s = true := by
  unfold takesOk; rw [hsy, hw]; rfl
end Go.Proofs.YteafeecndghapaaGreat

/- What the laws' walks share: a system that the law holds in a variable, over rules in memory of its own. -/
namespace Go.Proofs.YteafeecndghapaaGreat
open Go.RowKit Go.Shelf

/-- The variable b holds the system; its rules can be read; all that was there at w is as it was. -/
structure SysSt (w W : World) (b : Nat) (l : Int) (B : Option Addr) (k d : Nat) (rs : List RuleT) : Prop where
  bk : Bk W b 25 #[.int .i64 l, .slice B k d]
  rd : Rd W B (cellsRule rs)
  low : Below w.heap.size w W
theorem SysSt.below {w W W' : World} {b : Nat} {l : Int} {B : Option Addr} {k d : Nat} {rs : List RuleT} (h : SysSt w W b l B k d rs) (hb : Below W.heap.size W W') : SysSt w W' b l B k d rs :=
  ⟨h.bk.below hb h.bk.lt, h.rd.keep hb, h.low.trans (hb.mono h.low.size)⟩
theorem SysSt.alloc {w W : World} {b : Nat} {l : Int} {B : Option Addr} {k d : Nat} {rs : List RuleT} (h : SysSt w W b l B k d rs) (o : Obj) : SysSt w (W.alloc o) b l B k d rs := h.below ((Below.refl _ _).alloc (Nat.le_refl _) o)
theorem SysSt.drew {w W : World} {b : Nat} {l : Int} {B : Option Addr} {k d : Nat} {rs : List RuleT} (h : SysSt w W b l B k d rs) : SysSt w W.drew b l B k d rs := h.below (Below.refl _ _).drew
theorem SysSt.new {w W : World} {l : Int} {B : Option Addr} {k d : Nat} {rs : List RuleT} (hO : W.ownsRow w.heap.size 68 2 (.slice B k d) k (cellsRule rs)) (hb : Below w.heap.size w W) : SysSt w (W.alloc (.cells #[.int .i64 l, .slice B k d] 25)) W.heap.size l B k d rs :=
  ⟨Bk.new _ _ _, (Rd.of_own hO).keep ((Below.refl _ _).alloc (Nat.le_refl _) _), hb.alloc hb.size _⟩
theorem sys_sizes {l : Int} {rs : List RuleT} (h : rulesOk l rs = true) : ∀ x ∈ rs, x.1.size ≤ 1048576 ∧ x.2.size ≤ 1048576 := fun x hx => by
  have := rulesOk_side h hx
  omega

end Go.Proofs.YteafeecndghapaaGreat

/- Plain words for ShortenProof: cutting out the stretch between two places with the same word, in one pass and again and again. No walk, no condition. -/
namespace Go.Proofs.YteafeecndghapaaGreat
open Go.RowKit Go.Shelf

def cutL {α : Type} (xs : List α) (i k : Nat) : List α := xs.take i ++ xs.drop k
theorem wAt_lt {Q : List ByteArray} {j : Nat} (h : j < Q.length) : wAt Q j = Q[j] := by
  unfold wAt
  rw [List.getD_eq_getElem?_getD, List.getElem?_eq_getElem h]
  rfl
end Go.Proofs.YteafeecndghapaaGreat

/- clear of a slice whose elements have several cells; a row of the call's own cut short. No program, no condition. -/
namespace Go.Proofs.YteafeecndghapaaGreat
open Go.RowKit Go.Shelf

theorem zero_mem {z : Array Value} {n : Nat} : ∀ u ∈ (Builtin.zeroCells z n).toList, u ∈ z.toList := fun u hu => by
  unfold Builtin.zeroCells at hu
  rw [Array.mem_toList_iff] at hu
  obtain ⟨i, hi, rfl⟩ := Array.mem_map.1 hu
  rw [Array.mem_range] at hi
  have h0 : 0 < z.size := by
    rcases Nat.eq_zero_or_pos z.size with h | h
    · rw [h] at hi; omega
    · exact h
  have hm : i % z.size < z.size := Nat.mod_lt _ h0
  rw [getElem!_pos z _ hm, Array.mem_toList_iff]
  exact Array.getElem_mem hm
theorem run_clear_wide {P : Program} (w : World) (t e ty : TypeId) (z : Value) (k : Nat) (ht : P.underlying t = some (.slice e)) (hv : ∀ w, (zeroValue e).run P w = .ok z w) (hz : z.cells.size = k) (h1 : ∀ u ∈ z.cells.toList, u.oneCell' = true) (b o n c : Nat) (hn : 0 < n)
    (hc : ∀ j, j < n * k → (w.cell? ⟨b, o + j, none⟩).isSome = true) (hf : ∀ j, j < n * k → w.frozen? ⟨b, o + j, none⟩ = false) :
    (Builtin.clear_ #[t] ty #[.slice (some ⟨b, o, none⟩) n c]).run P w = .ok (.tuple #[]) (w.setCells b o (Builtin.zeroCells z.cells n).toList) := by
  have hl : (Builtin.zeroCells z.cells n).toList.length = n * k := by rw [Array.length_toList, size_zeroCells, hz]
  have hst := run_storeCells_cells (P := P) b o (Builtin.zeroCells z.cells n).toList 0 w (by rw [hl]; simpa using hc) (by rw [hl]; simpa using hf) (fun v hv' => h1 v (zero_mem v hv'))
  simp only [Nat.add_zero] at hst
  obtain ⟨m, rfl⟩ : ∃ m, n = m + 1 := ⟨n - 1, by omega⟩
  simp [Builtin.clear_, run_underlying ht, hv, hst]
theorem own_setCells {base : Nat} {e : TypeId} {size g n cap : Nat} : ∀ (vs : List Value) (o : Nat) (w : World) (xs : List Value), w.ownsRow base e size (.slice (some ⟨g, 0, none⟩) n cap) n xs → ∃ ys, (w.setCells g o vs).ownsRow base e size (.slice (some ⟨g, 0, none⟩) n cap) n ys ∧ ys.take o = xs.take o ∧ w.grownBy (w.setCells g o vs) (some g)
  | [], o, w, xs, h => ⟨xs, h, rfl, grown_refl _ _⟩
  | v :: vs, o, w, xs, h => by
    have s := h.stored o v
    obtain ⟨ys, h1, h2, h3⟩ := own_setCells vs (o + 1) _ _ s.1
    refine ⟨ys, h1, ?_, grown_trans s.2 h3⟩
    have h4 := congrArg (List.take o) h2
    rw [List.take_take, List.take_take, Nat.min_eq_left (by omega)] at h4
    rw [h4, List.take_set_of_le (Nat.le_refl _)]
theorem own_short {w : World} {base : Nat} {e : TypeId} {size : Nat} {A : Option Addr} {n cap : Nat} {xs : List Value} (h : w.ownsRow base e size (.slice A n cap) n xs) {i : Nat} (hi : i ≤ n) : w.ownsRow base e size (.slice A i cap) i (xs.take (i * size)) := by
  have him : i * size ≤ n * size := Nat.mul_le_mul_right _ hi
  refine ⟨by rw [List.length_take, h.1]; omega, ?_⟩
  rcases h.2 with ⟨hv, h0⟩ | ⟨g, c, cur, hv, hb, hh, hc, hm, hs, hx⟩
  · subst h0
    obtain rfl : i = 0 := by omega
    injection hv with h1 h2 h3
    exact .inl ⟨by rw [h1, h3], rfl⟩
  · injection hv with h1 h2 h3
    subst h1 h3
    refine .inr ⟨g, cap, cur, rfl, hb, hh, by omega, hm, hs, ?_⟩
    rw [← hx, List.take_take, Nat.min_eq_left him]
theorem own_setCells_short {base : Nat} {e : TypeId} {size g n cap : Nat} {w : World} {xs : List Value} (h : w.ownsRow base e size (.slice (some ⟨g, 0, none⟩) n cap) n xs) {i : Nat} (hi : i ≤ n) (vs : List Value) : (w.setCells g (i * size) vs).ownsRow base e size (.slice (some ⟨g, 0, none⟩) i cap) i (xs.take (i * size)) ∧ w.grownBy (w.setCells g (i * size) vs) (some g) := by
  obtain ⟨ys, h1, h2, h3⟩ := own_setCells vs (i * size) w xs h
  rw [← h2]
  exact ⟨own_short h1 hi, h3⟩

end Go.Proofs.YteafeecndghapaaGreat

/- Walk over PlacesOf of the reference, and its plain words. -/
namespace Go.Proofs.YteafeecndghapaaGreat
open Go.RowKit Go.Shelf

/-- The word s has the part l at place i. -/
def oc (s l : ByteArray) (i : Nat) : Bool := (s.extract i (i + l.size)).toList == l.toList
def plc (s l : ByteArray) (q : Nat) : List Int := ((List.range q).filter (oc s l)).map fun i : Nat => (i : Int)
theorem plc_yes {s l : ByteArray} {q : Nat} (h : oc s l q = true) : plc s l (q + 1) = plc s l q ++ [(q : Int)] := by
  rw [plc, List.range_succ, List.filter_append, List.map_append]; simp [plc, h]
theorem plc_no {s l : ByteArray} {q : Nat} (h : oc s l q = false) : plc s l (q + 1) = plc s l q := by
  rw [plc, List.range_succ, List.filter_append, List.map_append]; simp [plc, h]
theorem plc_len (s l : ByteArray) (q : Nat) : (plc s l q).length ≤ q := by
  rw [plc, List.length_map]
  exact Nat.le_trans (List.length_filter_le _ _) (by rw [List.length_range]; exact Nat.le_refl _)
theorem isEmpty_eq (s : ByteArray) : s.toList.isEmpty = decide (s = ⟨#[]⟩) := by
  rw [← str_eq, show (⟨#[]⟩ : ByteArray).toList = [] by rw [ByteArray.toList_eq]]
  cases s.toList <;> rfl

set_option maxRecDepth 100000 in
set_option maxHeartbeats 1000000 in
theorem specPlaces_any (s l : ByteArray) (w : World) (hs : s.size ≤ 1048576) (hl : l.size ≤ 1048576) (hne : l ≠ ⟨#[]⟩) :
    Calls Tryz.prog 105 #[.string s, .string l] w (MadeSl w 3 1 (plc s l (s.size + 1 - l.size)).length (ints (plc s l (s.size + 1 - l.size)))) := by
  have hq := isEmpty_eq l
  rw [decide_eq_false hne] at hq
  have hO0 := own_of_bk (base := w.heap.size) (m := 1) (n := 0) (Bk.new w 3 #[]) (Nat.le_refl _) rfl (by unfold maxLen; omega)
  have hW0 : Below w.heap.size w (w.alloc (.cells #[] 3)) := (Below.refl _ _).alloc (Nat.le_refl _) _
  obtain ⟨N, hN⟩ : ∃ N, N = s.size + 1 - l.size := ⟨_, rfl⟩
  rw [← hN]
  have HO0 := Lib.hid hO0
  clear hO0
  have HW0 := Lib.hid hW0
  clear hW0
  have HN := Lib.hid hN
  clear hN
  go_enter Tryz.func105, Tryz.ntmps105
  go_wp2_with fail
  go_loopw [5, 6] (fun v i wr => ∃ (q : Nat) (B : Option Addr) (d z : Nat), q ≤ N ∧ i = .int .i64 q ∧ v = .slice B z d ∧ Hid (z = (plc s l q).length) ∧ wr.ownsRow w.heap.size 3 1 (.slice B z d) z (ints (plc s l q)) ∧ Below w.heap.size w wr) (fun _ i _ => N - (intOf i).toNat)
  case atStart => exact ⟨0, _, _, 0, Nat.zero_le _, rfl, rfl, Lib.hid rfl, HO0.out, HW0.out⟩
  case round =>
    clear HO0 HW0
    obtain ⟨q, B, d, z, hqN, rfl, rfl, HZ, hown, hW⟩ := hrel
    have hz : z ≤ q := by rw [HZ.out]; exact plc_len s l q
    have hN' := HN.out
    by_cases hlt : q < N
    · have hr : q + l.size ≤ s.size := by omega
      have hri : (q : Int) + (l.size : Int) ≤ (s.size : Int) := by omega
      have hsum : IntKind.i64.wrap ((q : Int) + (l.size : Int)) = (q : Int) + (l.size : Int) := IntWalk.i64_in _ ⟨by omega, by omega⟩
      have g4 : (0 : Int) ≤ (q : Int) + (l.size : Int) := by omega
      have g5 : ((q : Int) + (l.size : Int)).toNat = q + l.size := by omega
      have g7 : (q : Int) ≤ (q : Int) + (l.size : Int) := by omega
      have hws := hW.size
      cases h5 : (s.extract q (q + l.size)).toList == l.toList
      · have e1 := plc_no (s := s) (l := l) (q := q) h5
        clear hN'
        have E1 := Lib.hid e1
        clear e1
        go_wp2_with fail
        go_roundw
        case rel => exact ⟨q + 1, B, d, z, by omega, by go_num, rfl, Lib.hid (by rw [E1.out]; exact HZ.out), by rw [E1.out]; exact hown, hW⟩
        case measure => simp [intOf] <;> omega
      · have e1 := plc_yes (s := s) (l := l) (q := q) h5
        clear hN'
        have E1 := Lib.hid e1
        clear e1
        go_wp2_with (at_builtin; refine wpList_app1 _ _ rfl _ _ 97 rfl w.heap.size 3 1 8 _ Tryz.underlying97 info_int rfl (by omega) _ _ _ _ rfl rfl rfl hown rfl (one_cell1 _) (by omega) (by unfold maxLen; omega) (by omega) ?_; intro A5 c5 w5 hO5 hW5)
        have hO6 : w5.ownsRow w.heap.size 3 1 (.slice A5 (z + 1) c5) (z + 1) (ints (plc s l (q + 1))) := by rw [E1.out, ints_snoc]; exact hO5
        clear hO5
        go_wp2_with fail
        go_roundw
        case rel => exact ⟨q + 1, A5, c5, z + 1, by omega, by go_num, rfl, Lib.hid (by rw [E1.out, List.length_append, ← HZ.out]; rfl), hO6, hW.trans hW5⟩
        case measure => simp [intOf] <;> omega
    · have : q = N := by omega
      subst this
      have hr : ¬ (q + l.size ≤ s.size) := by omega
      have hri : ¬ ((q : Int) + (l.size : Int) ≤ (s.size : Int)) := by omega
      have hsum : IntKind.i64.wrap ((q : Int) + (l.size : Int)) = (q : Int) + (l.size : Int) := IntWalk.i64_in _ ⟨by omega, by omega⟩
      clear hN'
      go_wp2_with fail
      go_ret
      rw [← HZ.out]
      exact ⟨B, d, rfl, hown, hW⟩

end Go.Proofs.YteafeecndghapaaGreat

/- A pair of a word and two steps: the laws' helpers toStep, toPair and szPair, and a pair that came in. -/
namespace Go.Proofs.YteafeecndghapaaGreat
open Go.ChangeShapes Go.WideShapes Go.ChangeAt Go.RowKit Go.Shelf

abbrev PairT : Type := ByteArray × Int × Int × Int × Int





end Go.Proofs.YteafeecndghapaaGreat
