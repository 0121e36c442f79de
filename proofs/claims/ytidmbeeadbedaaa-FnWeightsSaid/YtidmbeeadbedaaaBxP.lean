/- The lists of weights in lexicographic order: boxAt b L k is the k-th list of L digits to base b. Plain Lean. -/
import Derived.Test.YtidmbeeadbedaaaWgt
namespace Go.Proofs.Ytidmbeeadbedaaa
open Go.RowKit Go.Shelf

def boxAt (b : Nat) : Nat → Nat → List Int
  | 0, _ => []
  | L + 1, k => boxAt b L (k / b) ++ [((k % b : Nat) : Int)]

theorem boxAt_len (b : Nat) : ∀ (L k : Nat), (boxAt b L k).length = L
  | 0, _ => rfl
  | L + 1, k => by rw [boxAt, List.length_append, boxAt_len b L]; rfl

theorem boxAt_mem {b : Nat} (hb : 0 < b) : ∀ (L k : Nat), ∀ d ∈ boxAt b L k, 0 ≤ d ∧ d < (b : Int)
  | 0, _, d, h => by cases h
  | L + 1, k, d, h => by
    rw [boxAt, List.mem_append] at h
    rcases h with h | h
    · exact boxAt_mem hb L _ d h
    · obtain rfl := List.mem_singleton.1 h
      have := Nat.mod_lt k hb
      omega

theorem boxAt_zero (b : Nat) : ∀ L, boxAt b L 0 = List.replicate L 0
  | 0 => rfl
  | L + 1 => by
    rw [boxAt, Nat.zero_div, boxAt_zero b L, Nat.zero_mod]
    show List.replicate L (0 : Int) ++ [0] = _
    rw [← List.replicate_succ']

theorem boxAt_zeros {b : Nat} (hb : 0 < b) (c q : Nat) : ∀ j, boxAt b (c + j) (q * b ^ j) = boxAt b c q ++ List.replicate j 0
  | 0 => by simp
  | j + 1 => by
    have e1 : q * b ^ (j + 1) / b = q * b ^ j := by rw [Nat.pow_succ, ← Nat.mul_assoc, Nat.mul_div_cancel _ hb]
    have e2 : q * b ^ (j + 1) % b = 0 := by rw [Nat.pow_succ, ← Nat.mul_assoc, Nat.mul_mod_left]
    rw [← Nat.add_assoc, boxAt, e1, e2, boxAt_zeros hb c q j, List.append_assoc, List.replicate_succ']
    rfl

/-- A digit that is not the last one: the next list has the next digit there. -/
theorem boxAt_next {b : Nat} (hb : 0 < b) (c q : Nat) (h : q % b + 1 < b) : boxAt b (c + 1) (q + 1) = boxAt b c (q / b) ++ [((q % b : Nat) : Int) + 1] := by
  have hq := Nat.div_add_mod q b
  have e1 : (q + 1) / b = q / b := by
    rw [Nat.div_eq_of_lt_le]
    · rw [Nat.mul_comm]; omega
    · rw [Nat.add_mul, Nat.mul_comm]; omega
  have e2 : (q + 1) % b = q % b + 1 := by
    have h2 := Nat.div_add_mod (q + 1) b
    rw [e1] at h2
    omega
  rw [boxAt, e1, e2]
  rfl
theorem boxAt_carry {b q : Nat} (hb : 0 < b) (h : q % b + 1 = b) : (q / b + 1) * b = q + 1 := by
  have hq := Nat.div_add_mod q b
  rw [Nat.add_mul, Nat.mul_comm]
  omega

theorem boxAt_get (b c q j d : Nat) (hd : d = q % b) : (ints (boxAt b (c + 1) q ++ List.replicate j 0)).toArray[c]? = some (.int .i64 (d : Int)) := by
  rw [boxAt, hd, List.getElem?_toArray, List.append_assoc]
  simp only [ints, List.map_append, List.map_cons, List.map_nil]
  rw [List.getElem?_append_right (by simp [boxAt_len])]
  simp [boxAt_len]
theorem boxAt_set (b c q j : Nat) (v : Int) : (ints (boxAt b (c + 1) q ++ List.replicate j 0)).toArray.setIfInBounds c (.int .i64 v) = (ints (boxAt b c (q / b) ++ [v] ++ List.replicate j 0)).toArray := by
  rw [boxAt, List.setIfInBounds_toArray, List.append_assoc, List.append_assoc]
  simp only [ints, List.map_append, List.map_cons, List.map_nil]
  rw [List.set_append_right _ _ (by simp [boxAt_len])]
  simp [boxAt_len]
theorem zeros_snoc (X : List Int) (j : Nat) : X ++ [0] ++ List.replicate j 0 = X ++ List.replicate (j + 1) 0 := by
  rw [List.append_assoc, List.replicate_succ]
  rfl
theorem made_zeros {L : Nat} (h1 : 1 ≤ L) (h2 : L ≤ 4) : madeCells #[Value.int IntKind.i64 0] L = (ints (List.replicate L 0)).toArray := by
  obtain rfl | rfl | rfl | rfl : L = 1 ∨ L = 2 ∨ L = 3 ∨ L = 4 := by omega
  all_goals first | kernel_rfl | decide | simp [madeCells, ints]

theorem box_lt {b c q : Nat} (hb : 0 < b) (h : q < b ^ (c + 1)) : q / b < b ^ c := by
  rw [Nat.div_lt_iff_lt_mul hb, ← Nat.pow_succ]
  exact h
theorem box_carry {b j q k d : Nat} (hb : 0 < b) (hd : d = q % b) (hdd : d + 1 = b) (hq : (q + 1) * b ^ j = k + 1) : (q / b + 1) * b ^ (j + 1) = k + 1 := by
  rw [Nat.pow_succ, Nat.mul_comm (b ^ j), ← Nat.mul_assoc, boxAt_carry hb (by rw [← hd]; exact hdd), hq]
theorem box_end {b j q k L : Nat} (hcj : 0 + j = L) (hq : (q + 1) * b ^ j = k + 1) (hlt : q < b ^ 0) : k + 1 = b ^ L := by
  have h0 : q = 0 := by simpa using hlt
  have hj : j = L := by omega
  subst h0 hj
  simpa using hq.symm
theorem box_step {b c j q k L d : Nat} (hb : 0 < b) (hcj : c + 1 + j = L) (hd : d = q % b) (hq : (q + 1) * b ^ j = k + 1) (hlt : q < b ^ (c + 1)) (hdd : d + 1 < b) : k + 1 < b ^ L := by
  have h1 := box_lt hb hlt
  have h2 : q + 1 < b ^ (c + 1) := by
    have h3 := Nat.div_add_mod q b
    have h4 : (q / b + 1) * b ≤ b ^ (c + 1) := by rw [Nat.pow_succ]; exact Nat.mul_le_mul_right _ h1
    rw [Nat.add_mul, Nat.mul_comm, Nat.one_mul] at h4
    omega
  rw [← hq, ← hcj, Nat.pow_add]
  exact Nat.mul_lt_mul_of_pos_right h2 (Nat.pow_pos hb)
theorem box_list {b c j q k L d : Nat} (hb : 0 < b) (hcj : c + 1 + j = L) (hd : d = q % b) (hq : (q + 1) * b ^ j = k + 1) (hdd : d + 1 < b) : boxAt b c (q / b) ++ [(d : Int) + 1] ++ List.replicate j 0 = boxAt b L (k + 1) := by
  rw [hd, ← boxAt_next hb c q (by omega), ← boxAt_zeros hb, hcj, hq]

/-- What number a list of digits is. -/
def numOf (b : Nat) (l : List Value) : Nat := l.foldl (fun a v => a * b + (intOf v).toNat) 0
theorem numOf_box {b : Nat} (hb : 0 < b) : ∀ (L k : Nat), k < b ^ L → numOf b (ints (boxAt b L k)) = k
  | 0, k, h => by
    have : k = 0 := by simpa using h
    subst this
    rfl
  | L + 1, k, h => by
    have h2 : k / b < b ^ L := by rw [Nat.div_lt_iff_lt_mul hb, ← Nat.pow_succ]; exact h
    have ih := numOf_box hb L (k / b) h2
    have hk := Nat.div_add_mod k b
    unfold numOf at ih ⊢
    rw [boxAt]
    simp only [ints, List.map_append, List.map_cons, List.map_nil, List.foldl_append, List.foldl_cons, List.foldl_nil] at ih ⊢
    rw [ih]
    show k / b * b + ((k % b : Nat) : Int).toNat = k
    rw [Int.toNat_natCast, Nat.mul_comm]
    exact hk
def cellsAt (w : World) (g : Nat) : List Value := match w.heap[g]? with
  | some (.cells cs _ _) => cs.toList
  | _ => []
theorem cellsAt_bk {w : World} {g : Nat} {t : TypeId} {cs : Array Value} (h : Bk w g t cs) : cellsAt w g = cs.toList := by
  unfold cellsAt
  rw [h]

/-- All lists of L digits, in their order. -/
def boxes (b L : Nat) : List (List Int) := (List.range (b ^ L)).map (boxAt b L)
theorem boxes_len (b L : Nat) : (boxes b L).length = b ^ L := by rw [boxes, List.length_map, List.length_range]
theorem range_mul {α : Type} (f : Nat → α) (b : Nat) (hb : 0 < b) : ∀ n : Nat, (List.range (n * b)).map f = ((List.range n).map (fun q => (List.range b).map (fun x => f (q * b + x)))).flatten
  | 0 => by simp
  | n + 1 => by
    rw [List.range_succ, List.map_append, List.flatten_append, ← range_mul f b hb n, Nat.add_mul, Nat.one_mul, List.range_add, List.map_append, List.map_map]
    simp [Function.comp_def]
theorem boxes_zero (b : Nat) : boxes b 0 = [[]] := by simp [boxes, boxAt, List.range_succ]
theorem boxes_succ {b : Nat} (hb : 0 < b) (L : Nat) : boxes b (L + 1) = ((boxes b L).map (fun l => (List.range b).map (fun x => l ++ [((x : Nat) : Int)]))).flatten := by
  rw [boxes, Nat.pow_succ, range_mul _ b hb, boxes, List.map_map]
  congr 1
  refine List.map_congr_left fun q _ => ?_
  refine List.map_congr_left fun x hx => ?_
  have hx := List.mem_range.1 hx
  have e1 : (q * b + x) / b = q := by rw [Nat.mul_comm, Nat.mul_add_div hb, Nat.div_eq_of_lt hx, Nat.add_zero]
  have e2 : (q * b + x) % b = x := by rw [Nat.mul_comm, Nat.mul_add_mod, Nat.mod_eq_of_lt hx]
  rw [boxAt, e1, e2]

end Go.Proofs.Ytidmbeeadbedaaa
