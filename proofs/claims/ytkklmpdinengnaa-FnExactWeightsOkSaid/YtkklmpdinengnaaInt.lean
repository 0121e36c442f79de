/- Walks over the laws' helpers for slices of int: toIntS, eqIntS, markIntS, heldIntS. -/
import Derived.Test.YtkklmpdinengnaaOpen
namespace Go.Proofs.Ytkklmpdinengnaa
open Go.RowKit Go.Shelf

theorem ints_get (zs : List Int) (k : Nat) (h : k < zs.length) : (ints zs)[k]? = some (.int .i64 zs[k]) := by simp [ints, h]
theorem ints_len (zs : List Int) : (ints zs).length = zs.length := by simp [ints]

set_option maxHeartbeats 400000 in
theorem toIntS_any (A : Option Addr) (n c : Nat) (zs : List Int) (w : World) (hr : Rd w A (ints zs)) (hn : n = zs.length) (hb : n ≤ 1048576) :
    Calls Try.prog 16 #[.slice A n c] w (MadeSl w 3 1 n (ints zs)) := by
  subst hn
  obtain ⟨i0, hi, hz0, hz1, hz2⟩ := info_parts info_int
  have hmk := fun (W : World) => run_make (P := Try.prog) W 22 3 i0 (.int .i64 0) Try.underlying22 hi hz0 .i64 .i64 zs.length zs.length (by omega) (by omega) (by rw [hz2]; omega) (by omega)
  go_enter Try.func16, Try.ntmps16
  go_wp2
  generalize hM : madeCells #[Value.int IntKind.i64 0] zs.length = M
  have hMs : M.size = (ints zs).length := by rw [← hM, size_madeCells, ints_len]
  go_loopw [4] (fun i wr => ∃ (k : Nat) (cur : Array Value), k ≤ zs.length ∧ i = .int .i64 k ∧ Bk wr w.heap.size 3 cur ∧ Pre cur (ints zs) k ∧ Below w.heap.size w wr) (fun i _ => zs.length - (intOf i).toNat)
  case atStart => exact ⟨0, M, Nat.zero_le _, rfl, Bk.new _ _ _, Pre.zero hMs, (Below.refl _ _).alloc (Nat.le_refl _) _⟩
  case round =>
    obtain ⟨k, cur, hk, rfl, hB, hP, hW⟩ := hrel
    clear hM hmk
    by_cases hlt : k < zs.length
    · have hz := ints_get zs k hlt
      obtain ⟨b, off, rfl, hbl, hcell⟩ := hr (by intro e; rw [e] at hz; cases hz)
      have hc := (hW.cell (p := ⟨b, off + k, none⟩) hbl).trans (hcell k _ hz)
      have hfr := hB.free k
      have hold : wr.cell? ⟨w.heap.size, k, none⟩ = some (cur[k]'(by rw [hP.1, ints_len]; exact hlt)) := by rw [hB.cell]; simp
      go_wp2
      go_roundw
      case rel => exact ⟨k + 1, _, by omega, by go_num, hB.put k _, hP.put hz, hW.setCell (Nat.le_refl _) _⟩
      case measure => simp [intOf]; omega
    · have : k = zs.length := by omega
      subst this
      go_wp2
      go_ret
      exact ⟨_, _, rfl, own_of_pre hB hP (ints_len zs).symm (Nat.le_refl _) (by simp [ints_len]) (by unfold maxLen; omega), hW⟩

/-- The first k elements agree. -/
def Same {α : Type} (xs ys : List α) (k : Nat) : Prop := ∀ j, j < k → xs[j]? = ys[j]?
theorem Same.snoc {α : Type} {xs ys : List α} {k : Nat} (h : Same xs ys k) (h1 : k < xs.length) (h2 : k < ys.length) (he : xs[k] = ys[k]) : Same xs ys (k + 1) := by
  intro j hj
  by_cases e : j = k
  · subst e; rw [List.getElem?_eq_getElem h1, List.getElem?_eq_getElem h2, he]
  · exact h j (by omega)
theorem Same.all {α : Type} {xs ys : List α} (h : Same xs ys xs.length) (hl : xs.length = ys.length) : xs = ys := by
  apply List.ext_getElem?
  intro j
  rcases Nat.lt_or_ge j xs.length with hj | hj
  · exact h j hj
  · rw [List.getElem?_eq_none hj, List.getElem?_eq_none (by omega)]
theorem ne_at {α : Type} {xs ys : List α} {k : Nat} {h1 : k < xs.length} {h2 : k < ys.length} (he : ¬ xs[k] = ys[k]) : ¬ xs = ys := by
  intro e; subst e; exact he rfl

/-- What reads memory and computes: the result, and the world but for draws. -/
def Quiet (w : World) (v : Value) (e : Ending) (w' : World) : Prop := e = .returned v ∧ ∃ q, w' = w.drewN q

set_option maxHeartbeats 400000 in
theorem eqIntS_any (A B : Option Addr) (n m c d : Nat) (xs ys : List Int) (w : World) (hx : Rd w A (ints xs)) (hy : Rd w B (ints ys)) (hn : n = xs.length) (hm : m = ys.length) (hb : n ≤ 1048576) (hbm : m ≤ 9223372036854775807) :
    Calls Try.prog 18 #[.slice A n c, .slice B m d] w (Quiet w (.bool (decide (xs = ys)))) := by
  subst hn hm
  by_cases hl : xs.length = ys.length
  · have hd : ((xs.length : Int) != ys.length) = false := by simp [hl]
    have HL := Lib.hid hl
    have h1 : xs.length ≤ ys.length := by omega
    have h2 : ys.length ≤ xs.length := by omega
    clear hl
    go_enter Try.func18, Try.ntmps18
    go_wp2
    go_loopw [5] (fun i wr => ∃ (k q : Nat), k ≤ xs.length ∧ i = .int .i64 k ∧ wr = w.drewN q ∧ Same xs ys k) (fun i _ => xs.length - (intOf i).toNat)
    case atStart => exact ⟨0, 0, Nat.zero_le _, rfl, rfl, fun _ h => absurd h (Nat.not_lt_zero _)⟩
    case round =>
      obtain ⟨k, q, hk, rfl, rfl, hS⟩ := hrel
      clear hd
      by_cases hlt : k < xs.length
      · have hlt2 : k < ys.length := by have := HL.out; omega
        have hz1 := ints_get xs k hlt
        have hz2 := ints_get ys k hlt2
        obtain ⟨b1, o1, rfl, hb1, hc1⟩ := hx (by intro e; rw [e] at hz1; cases hz1)
        obtain ⟨b2, o2, rfl, hb2, hc2⟩ := hy (by intro e; rw [e] at hz2; cases hz2)
        have c1 := hc1 k _ hz1
        have c2 := hc2 k _ hz2
        by_cases he : xs[k] = ys[k]
        · have hd : (xs[k] != ys[k]) = false := by simp [he]
          have HE := Lib.hid he
          clear he hz1 hz2 hc1 hc2 hx hy
          go_wp2
          go_quiet (fail)
          go_wp2
          go_roundw
          case rel => exact ⟨k + 1, _, by omega, by go_num, rfl, hS.snoc hlt hlt2 HE.out⟩
          case measure => simp [intOf]; omega
        · have hd : (xs[k] != ys[k]) = true := by simp [he]
          have HE := Lib.hid he
          clear he hz1 hz2 hc1 hc2 hx hy
          go_wp2
          go_quiet (fail)
          go_wp2
          go_ret
          exact ⟨ret_bool (by symm; rw [decide_eq_false_iff_not]; exact ne_at HE.out), _, World.drewN_drewN _ _ _⟩
      · have : k = xs.length := by omega
        subst this
        go_wp2
        go_ret
        exact ⟨ret_bool (by symm; rw [decide_eq_true_iff]; exact hS.all HL.out), _, rfl⟩
  · have hd : ((xs.length : Int) != ys.length) = true := by simp; omega
    go_enter Try.func18, Try.ntmps18
    go_wp2
    go_ret
    exact ⟨ret_bool (by simp; intro e; exact hl (by rw [e])), 0, rfl⟩


/-- A call that writes marks over an owned slice of n elements of m cells: the cells read f afterwards; nothing else has turned. -/
def Marks (w : World) (base : Nat) (t : TypeId) (m : Nat) (A : Option Addr) (n c : Nat) (k : Int) (f : Nat → Value) (e : Ending) (w' : World) : Prop :=
  e = .returned (.int .i64 (k + (n * m : Nat))) ∧ w'.ownsRow base t m (.slice A n c) n ((List.range (n * m)).map f) ∧ w.grownBy w' (Value.slice A n c).ownBlock

theorem range_map_get (f : Nat → Value) (n j : Nat) (h : j < n) : ((List.range n).map f)[j]? = some (f j) := by simp [h]

/-- The first j cells read f. -/
def Told (ys : List Value) (f : Nat → Value) (j : Nat) : Prop := ∀ i, i < j → ys[i]? = some (f i)
theorem Told.zero (ys : List Value) (f : Nat → Value) : Told ys f 0 := fun _ h => absurd h (Nat.not_lt_zero _)
theorem Told.put {ys : List Value} {f : Nat → Value} {j : Nat} (h : Told ys f j) (hl : j < ys.length) : Told (ys.set j (f j)) f (j + 1) := by
  intro i hi
  rw [List.getElem?_set]
  by_cases e : j = i
  · subst e; simp [hl]
  · rw [if_neg e]; exact h i (by omega)
theorem Told.all {ys : List Value} {f : Nat → Value} {j : Nat} (h : Told ys f j) (hl : ys.length = j) : ys = (List.range j).map f := by
  apply List.ext_getElem?
  intro i
  rcases Nat.lt_or_ge i j with hi | hi
  · rw [h i hi, range_map_get f j i hi]
  · rw [List.getElem?_eq_none (by omega), List.getElem?_eq_none (by simpa using hi)]

def mkI (k : Int) (j : Nat) : Value := .int .i64 (k + j)

theorem own_some {w : World} {base : Nat} {t : TypeId} {m : Nat} {A : Option Addr} {n c : Nat} {xs : List Value} (h : w.ownsRow base t m (.slice A n c) n xs) (hn : 0 < n) : ∃ g, A = some ⟨g, 0, none⟩ ∧ base ≤ g ∧ g < w.heap.size := by
  rcases h.2 with ⟨_, hz⟩ | ⟨g, cap, cur, hv, hb, hh, _⟩
  · omega
  · exact ⟨g, by injection hv, hb, (Array.getElem?_eq_some_iff.1 hh).1⟩

theorem grown_trans {a b c : World} {row : Option Nat} (h : a.grownBy b row) (k : b.grownBy c row) : a.grownBy c row :=
  ⟨k.os.trans h.os, k.tape.trans h.tape, k.output.trans h.output, Nat.le_trans h.size k.size, fun i hi hr => (k.block i (Nat.lt_of_lt_of_le hi h.size) hr).trans (h.block i hi hr)⟩
theorem grown_refl (a : World) (row : Option Nat) : a.grownBy a row := ⟨rfl, rfl, rfl, Nat.le_refl _, fun _ _ _ => rfl⟩

set_option maxHeartbeats 400000 in
theorem markIntS_any (A : Option Addr) (n c : Nat) (zs : List Value) (k : Int) (base : Nat) (w : World) (ho : w.ownsRow base 3 1 (.slice A n c) n zs) (h0 : 0 ≤ k) (hk : k + n ≤ 4611686018427387904) :
    Calls Try.prog 30 #[.slice A n c, .int .i64 k] w (Marks w base 3 1 A n c k (mkI k)) := by
  go_enter Try.func30, Try.ntmps30
  go_wp2
  go_loopw [1, 5] (fun kk i wr => ∃ (j : Nat) (ys : List Value), j ≤ n ∧ i = .int .i64 j ∧ kk = .int .i64 (k + j) ∧ wr.ownsRow base 3 1 (.slice A n c) n ys ∧ Told ys (mkI k) j ∧ w.grownBy wr (Value.slice A n c).ownBlock) (fun _ i _ => n - (intOf i).toNat)
  case atStart => exact ⟨0, zs, Nat.zero_le _, rfl, by simp, ho, Told.zero _ _, grown_refl _ _⟩
  case round =>
    obtain ⟨j, ys, hj, rfl, rfl, hO, hT, hG⟩ := hrel
    by_cases hlt : j < n
    · obtain ⟨g, rfl, hbg, hlt'⟩ := own_some hO (by omega)
      have hys : j < ys.length := by have := hO.1; omega
      have hst := hO.stored j (mkI k j)
      have hc : wr.cell? ⟨g, j, none⟩ = some ys[j] := by rw [hO.cellAt j (by omega)]; simp
      have hfr := hO.frozenAt j
      clear ho hO
      go_wp2
      go_roundw
      case rel => exact ⟨j + 1, _, by omega, by go_num, by go_num, hst.1, hT.put hys, grown_trans hG hst.2⟩
      case measure => simp [intOf]; omega
    · have : j = n := by omega
      subst this
      go_wp2
      go_ret
      have e := hT.all (j := j) (by have := hO.1; omega)
      exact ⟨ret_int (by simp), by rw [Nat.mul_one, ← e]; exact hO, hG⟩

set_option maxHeartbeats 400000 in
theorem heldIntS_any (A : Option Addr) (n c : Nat) (k : Int) (w : World) (hr : Rd w A ((List.range n).map (mkI k))) (h0 : 0 ≤ k) (hk : k + n ≤ 4611686018427387904) :
    Calls Try.prog 31 #[.slice A n c, .int .i64 k] w (fun e w' => e = .returned (.int .i64 (k + n)) ∧ w = w') := by
  go_enter Try.func31, Try.ntmps31
  go_wp2
  go_loop [1, 5] (fun kk i => ∃ (j : Nat), j ≤ n ∧ i = .int .i64 j ∧ kk = .int .i64 (k + j)) (fun _ i => n - (intOf i).toNat)
  case atStart => exact ⟨0, Nat.zero_le _, rfl, by simp⟩
  case round =>
    obtain ⟨j, hj, rfl, rfl⟩ := hrel
    by_cases hlt : j < n
    · have hz := range_map_get (mkI k) n j hlt
      obtain ⟨b, o, rfl, hb, hc⟩ := hr (by intro e; rw [e] at hz; cases hz)
      have c1 : w.cell? ⟨b, o + j, none⟩ = some (.int .i64 (k + j)) := hc j _ hz
      clear hc hr hz
      go_wp2
      go_round
      case rel => exact ⟨j + 1, by omega, by go_num, by go_num⟩
      case measure => simp [intOf]; omega
    · have : j = n := by omega
      subst this
      go_wp2
      go_ret
      exact ⟨rfl, rfl⟩

end Go.Proofs.Ytkklmpdinengnaa
