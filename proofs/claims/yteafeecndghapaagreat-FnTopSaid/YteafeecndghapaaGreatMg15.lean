/- Merged texts: a claim has a limit of files. -/
import Derived.Test.YteafeecndghapaaGreatMg14
import Derived.Test.YteafeecndghapaaGreatJoin
import Derived.Test.YteafeecndghapaaGreatMg13

/- Plain words for the pairs of a system: where one left side lies in another one, where they overlap, and the list of the pairs. No walk, no condition. -/
namespace Go.Proofs.YteafeecndghapaaGreat
open Go.RowKit Go.Shelf

def encPair (x : PairT) : List Value := [.string x.1, .int .i64 x.2.1, .int .i64 x.2.2.1, .int .i64 x.2.2.2.1, .int .i64 x.2.2.2.2]
def cellsPair (xs : List PairT) : List Value := xs.flatMap encPair
theorem cellsPair_len (xs : List PairT) : (cellsPair xs).length = xs.length * 5 := by
  unfold cellsPair
  induction xs with
  | nil => rfl
  | cons x r ih => rw [List.flatMap_cons, List.length_append, ih]; simp [encPair]; omega
theorem cellsPair_app (xs ys : List PairT) : cellsPair (xs ++ ys) = cellsPair xs ++ cellsPair ys := by simp [cellsPair]
theorem cellsPair_snoc1 (xs : List PairT) (s : ByteArray) (a b c d : Int) : cellsPair (xs ++ [(s, a, b, c, d)]) = cellsPair xs ++ (#[Value.string s, .int .i64 a, .int .i64 b, .int .i64 c, .int .i64 d] : Array Value).toList := by simp [cellsPair, encPair]
theorem one_cell_pair1 (s : ByteArray) (a b c d : Int) : ∀ u ∈ (#[Value.string s, .int .i64 a, .int .i64 b, .int .i64 c, .int .i64 d] : Array Value).toList, u.oneCell' = true := by
  intro u hu
  simp at hu
  rcases hu with rfl | rfl | rfl | rfl | rfl <;> rfl
theorem one_cell_pairs (xs : List PairT) : ∀ u ∈ cellsPair xs, u.oneCell' = true := by
  intro u hu
  obtain ⟨x, _, hx⟩ := List.mem_flatMap.1 hu
  simp [encPair] at hx
  rcases hx with rfl | rfl | rfl | rfl | rfl <;> rfl

/-- The places that the program tells are those of the reference. -/
def plcI (s l : ByteArray) (q : Nat) : List Int := ((List.range q).filter (hasAt s l)).map fun i : Nat => (i : Int)
theorem plcI_yes {s l : ByteArray} {q : Nat} (h : hasAt s l q = true) : plcI s l (q + 1) = plcI s l q ++ [(q : Int)] := by
  rw [plcI, List.range_succ, List.filter_append, List.map_append]; simp [plcI, h]
theorem plcI_no {s l : ByteArray} {q : Nat} (h : hasAt s l q = false) : plcI s l (q + 1) = plcI s l q := by
  rw [plcI, List.range_succ, List.filter_append, List.map_append]; simp [plcI, h]
theorem plcI_len (s l : ByteArray) (q : Nat) : (plcI s l q).length ≤ q := by
  rw [plcI, List.length_map]
  exact Nat.le_trans (List.length_filter_le _ _) (by rw [List.length_range]; exact Nat.le_refl _)
theorem plcI_plc {s l : ByteArray} (hl : l ≠ ⟨#[]⟩) : plcI s l s.size = plc s l (s.size + 1 - l.size) := by
  have hp : 0 < l.size := by
    rcases Nat.eq_zero_or_pos l.size with h | h
    · refine absurd ?_ hl
      obtain ⟨d⟩ := l
      have hd : d = #[] := Array.eq_empty_of_size_eq_zero h
      rw [hd]
    · exact h
  unfold plcI plc
  congr 1
  have hle : s.size + 1 - l.size ≤ s.size := by omega
  obtain ⟨k, hk⟩ : ∃ k, s.size = (s.size + 1 - l.size) + k := ⟨s.size - (s.size + 1 - l.size), by omega⟩
  rw [show List.range s.size = List.range (s.size + 1 - l.size) ++ (List.range k).map (s.size + 1 - l.size + ·) by rw [← List.range_add]; rw [← hk]]
  rw [List.filter_append]
  have e2 : ((List.range k).map (s.size + 1 - l.size + ·)).filter (hasAt s l) = [] := by
    rw [List.filter_eq_nil_iff]
    intro j hj
    obtain ⟨i, _, rfl⟩ := List.mem_map.1 hj
    unfold hasAt
    rw [decide_eq_false (by omega)]
    simp
  rw [e2, List.append_nil]
  apply List.filter_congr
  intro j hj
  rw [List.mem_range] at hj
  unfold hasAt oc
  rw [decide_eq_true (by omega)]
  simp

/-- The last n letters of u are the first n of v. -/
def ovAt (u v : ByteArray) (n : Nat) : Bool := (u.extract (u.size - n) u.size).toList == (v.extract 0 n).toList
/-- The lengths from 1 to q at which u and v overlap. -/
def ovl (u v : ByteArray) (q : Nat) : List Int := ((List.range q).filter (fun i => ovAt u v (i + 1))).map fun i : Nat => ((i + 1 : Nat) : Int)
theorem ovl_yes {s l : ByteArray} {q : Nat} (h : ovAt s l (q + 1) = true) : ovl s l (q + 1) = ovl s l q ++ [((q + 1 : Nat) : Int)] := by
  rw [ovl, List.range_succ, List.filter_append, List.map_append]; simp [ovl, h]
theorem ovl_no {s l : ByteArray} {q : Nat} (h : ovAt s l (q + 1) = false) : ovl s l (q + 1) = ovl s l q := by
  rw [ovl, List.range_succ, List.filter_append, List.map_append]; simp [ovl, h]
theorem ovl_len (s l : ByteArray) (q : Nat) : (ovl s l q).length ≤ q := by
  rw [ovl, List.length_map]
  exact Nat.le_trans (List.length_filter_le _ _) (by rw [List.length_range]; exact Nat.le_refl _)
def ovN (u v : ByteArray) : Nat := min u.size v.size - 1
def ovs (u v : ByteArray) : List Int := ovl u v (ovN u v)
theorem ovs_in {u v : ByteArray} {x : Int} (h : x ∈ ovs u v) : 1 ≤ x ∧ x < u.size ∧ x < v.size := by
  obtain ⟨i, hi, rfl⟩ := List.mem_map.1 h
  have := List.mem_range.1 (List.mem_filter.1 hi).1
  unfold ovN at this
  omega
/-- The places of v in u. -/
def pls (u v : ByteArray) : List Int := plc u v (u.size + 1 - v.size)
def inP (u : ByteArray) (i j : Nat) (p : Int) : PairT := (u, (i : Int), 0, (j : Int), p)
def acP (u v : ByteArray) (i j : Nat) (n : Int) : PairT := (u ++ v.extract n.toNat v.size, (i : Int), 0, (j : Int), (u.size : Int) - n)
/-- The pairs of which one rule is inside of the other one, those that overlap, and all of the pairs of two rules. -/
def insideL (rs : List RuleT) (i j : Nat) : List PairT := if i = j then [] else (pls (ruleAt rs i).1 (ruleAt rs j).1).map (inP (ruleAt rs i).1 i j)
def acrossL (rs : List RuleT) (i j : Nat) : List PairT := (ovs (ruleAt rs i).1 (ruleAt rs j).1).map (acP (ruleAt rs i).1 (ruleAt rs j).1 i j)
def prCell (rs : List RuleT) (i j : Nat) : List PairT := insideL rs i j ++ acrossL rs i j
def prRow (rs : List RuleT) (i j : Nat) : List PairT := (List.range j).flatMap fun k => prCell rs i k
def prAcc (rs : List RuleT) (i : Nat) : List PairT := (List.range i).flatMap fun p => prRow rs p rs.length
def prTo (rs : List RuleT) (i j : Nat) : List PairT := prAcc rs i ++ prRow rs i j
theorem prTo_zero (rs : List RuleT) (i : Nat) : prTo rs i 0 = prAcc rs i := by simp [prTo, prRow]
theorem prTo_succ (rs : List RuleT) (i j : Nat) : prTo rs i (j + 1) = prTo rs i j ++ prCell rs i j := by
  rw [prTo, prRow, List.range_succ, List.flatMap_append, ← List.append_assoc]; simp [prTo, prRow]
theorem prAcc_succ (rs : List RuleT) (i : Nat) : prAcc rs (i + 1) = prTo rs i rs.length := by
  rw [prAcc, List.range_succ, List.flatMap_append]; simp [prTo, prAcc]
/-- PairsOf, in plain words. -/
def prAll (l : Int) (rs : List RuleT) : List PairT := if systemOk l rs then prAcc rs rs.length else []

/-- How many there can be. -/
theorem prCell_len {rs : List RuleT} (h8 : ∀ k, (ruleAt rs k).1.size ≤ 16) (i j : Nat) : (prCell rs i j).length ≤ 40 := by
  unfold prCell
  rw [List.length_append]
  have h1 : (insideL rs i j).length ≤ 17 := by
    unfold insideL
    split
    · simp
    · rw [List.length_map]
      have := plc_len (ruleAt rs i).1 (ruleAt rs j).1 ((ruleAt rs i).1.size + 1 - (ruleAt rs j).1.size)
      have := h8 i
      unfold pls
      omega
  have h2 : (acrossL rs i j).length ≤ 16 := by
    unfold acrossL
    rw [List.length_map]
    have := ovl_len (ruleAt rs i).1 (ruleAt rs j).1 (ovN (ruleAt rs i).1 (ruleAt rs j).1)
    have := h8 i
    unfold ovs
    unfold ovN at *
    omega
  omega
theorem prRow_len {rs : List RuleT} (h8 : ∀ k, (ruleAt rs k).1.size ≤ 16) (i : Nat) : ∀ j, (prRow rs i j).length ≤ 40 * j
  | 0 => by simp [prRow]
  | j + 1 => by
    have h1 := prRow_len h8 i j
    have h2 := prCell_len h8 i j
    have e : prRow rs i (j + 1) = prRow rs i j ++ prCell rs i j := by rw [prRow, List.range_succ, List.flatMap_append]; simp [prRow]
    rw [e, List.length_append]
    omega
theorem prAcc_len {rs : List RuleT} (h8 : ∀ k, (ruleAt rs k).1.size ≤ 16) (h12 : rs.length ≤ 12) : ∀ i, (prAcc rs i).length ≤ 480 * i
  | 0 => by simp [prAcc]
  | i + 1 => by
    have h1 := prAcc_len h8 h12 i
    have h2 := prRow_len h8 i rs.length
    rw [prAcc_succ, prTo, List.length_append]
    omega
theorem prTo_len {rs : List RuleT} (h8 : ∀ k, (ruleAt rs k).1.size ≤ 16) (h12 : rs.length ≤ 12) {i j : Nat} (hi : i ≤ 12) (hj : j ≤ 12) : (prTo rs i j).length ≤ 6240 := by
  have h1 := prAcc_len h8 h12 i
  have h2 := prRow_len h8 i j
  rw [prTo, List.length_append]
  omega
theorem rules_16 {l : Int} {rs : List RuleT} (h : rulesOk l rs = true) : ∀ k, (ruleAt rs k).1.size ≤ 16 := fun k => by
  by_cases hk : k < rs.length
  · rw [ruleAt_get hk]
    unfold rulesOk at h
    simp only [Bool.and_eq_true] at h
    have h3 := List.all_eq_true.1 h.2 _ (List.getElem_mem hk)
    unfold ruleOk sidesOk at h3
    simp only [Bool.and_eq_true] at h3
    have := (wordOk_out h3.1.1.1.1).2.2.1
    omega
  · unfold ruleAt
    rw [List.getD_eq_getElem?_getD, List.getElem?_eq_none (by omega)]
    show (0 : Nat) ≤ 16
    omega
theorem rules_ne {l : Int} {rs : List RuleT} (h : rulesOk l rs = true) {k : Nat} (hk : k < rs.length) : (ruleAt rs k).1 ≠ ⟨#[]⟩ := by
  rw [ruleAt_get hk]
  unfold rulesOk at h
  simp only [Bool.and_eq_true] at h
  have h3 := List.all_eq_true.1 h.2 _ (List.getElem_mem hk)
  unfold ruleOk at h3
  simp only [Bool.and_eq_true] at h3
  intro e
  have h4 := h3.2
  rw [e, isEmpty_eq] at h4
  simp at h4
theorem prAll_len (l : Int) (rs : List RuleT) : (prAll l rs).length ≤ 6240 := by
  unfold prAll
  split
  · next h =>
    have hro : rulesOk l rs = true := by unfold systemOk at h; rw [Bool.and_eq_true] at h; exact h.1
    have h12 := rulesOk_12 hro
    have := prAcc_len (rules_16 hro) h12 rs.length
    omega
  · simp
/-- The pairs that are not joined. -/
def joinedP (l : Int) (rs : List RuleT) (p : PairT) : Bool := joined l rs p.1 p.2.1 p.2.2.1 p.2.2.2.1 p.2.2.2.2
def opAll (l : Int) (rs : List RuleT) : List PairT := (prAll l rs).filter fun p => !joinedP l rs p
theorem opAll_len (l : Int) (rs : List RuleT) : (opAll l rs).length ≤ 6240 := Nat.le_trans (List.length_filter_le _ _) (prAll_len l rs)
def isCompl (l : Int) (rs : List RuleT) : Bool := systemOk l rs && decide ((opAll l rs).length = 0)
theorem prCell_sz {rs : List RuleT} (h8 : ∀ k, (ruleAt rs k).1.size ≤ 16) (i j : Nat) : ∀ p ∈ prCell rs i j, p.1.size ≤ 32 := fun p hp => by
  have h1 := h8 i
  have h2 := h8 j
  rcases List.mem_append.1 hp with h | h
  · unfold insideL at h
    split at h
    · cases h
    · obtain ⟨x, _, rfl⟩ := List.mem_map.1 h
      show (ruleAt rs i).1.size ≤ 32
      omega
  · obtain ⟨x, _, rfl⟩ := List.mem_map.1 h
    show ((ruleAt rs i).1 ++ (ruleAt rs j).1.extract x.toNat (ruleAt rs j).1.size).size ≤ 32
    rw [ByteArray.size_append, ByteArray.size_extract]
    omega
theorem prAll_sz (l : Int) (rs : List RuleT) : ∀ p ∈ prAll l rs, p.1.size ≤ 32 := fun p hp => by
  unfold prAll at hp
  split at hp
  · next h =>
    have hro : rulesOk l rs = true := by unfold systemOk at h; rw [Bool.and_eq_true] at h; exact h.1
    obtain ⟨i, _, hp⟩ := List.mem_flatMap.1 hp
    obtain ⟨j, _, hp⟩ := List.mem_flatMap.1 hp
    exact prCell_sz (rules_16 hro) i j p hp
  · cases hp
end Go.Proofs.YteafeecndghapaaGreat

/- Walks over PlacesOf of the program and OverlapsOf of both. -/
namespace Go.Proofs.YteafeecndghapaaGreat
open Go.RowKit Go.Shelf

set_option maxRecDepth 100000 in
set_option maxHeartbeats 1000000 in
theorem implPlaces_any (s l : ByteArray) (w : World) (hs : s.size ≤ 1048576) (hl : l.size ≤ 1048576) (hne : l ≠ ⟨#[]⟩) :
    Calls Tryz.prog 85 #[.string s, .string l] w (MadeSl w 3 1 (pls s l).length (ints (pls s l))) := by
  have hq := isEmpty_eq l
  rw [decide_eq_false hne] at hq
  have hE : pls s l = plcI s l s.size := (plcI_plc hne).symm
  rw [hE]
  clear hE
  go_enter Tryz.func85, Tryz.ntmps85
  go_wp2_with fail
  go_loopw [5, 11] (fun v i wr => ∃ (q : Nat) (B : Option Addr) (d z : Nat), q ≤ s.size ∧ i = .int .i64 q ∧ v = .slice B z d ∧ Hid (z = (plcI s l q).length) ∧ wr.ownsRow w.heap.size 3 1 (.slice B z d) z (ints (plcI s l q)) ∧ Below w.heap.size w wr) (fun _ i _ => s.size - (intOf i).toNat)
  case atStart => exact ⟨0, none, 0, 0, Nat.zero_le _, rfl, rfl, Lib.hid rfl, World.ownsRow_nil _ _ _ _, Below.refl _ _⟩
  case round =>
    obtain ⟨q, B, d, z, hqN, rfl, rfl, HZ, hown, hW⟩ := hrel
    have hz : z ≤ q := by rw [HZ.out]; exact plcI_len s l q
    by_cases hlt : q < s.size
    · have hws := hW.size
      have zx : (s.extract q s.size).size ≤ 1048576 := by simp; omega
      obtain ⟨r, hrr⟩ : ∃ r', r' = hasAt s l q := ⟨_, rfl⟩
      have hpr : hasPre (s.extract q s.size) l = r := by rw [hasPre_at s l q (by omega)]; exact hrr.symm
      have Hrr := Lib.hid hrr
      clear hrr
      have Hpr := Lib.hid hpr
      clear hpr
      have Hown := Lib.hid hown
      clear hown
      go_wp2_with fail
      refine (hasPrefix_any (s.extract q s.size) l _ (by omega) (by omega)).mono ?_
      rintro e w2 ⟨rfl, b2⟩
      rw [Hpr.out]
      have hW2 := hW.trans (b2.mono hws)
      have hown2 := own_keep Hown.out b2 (Nat.le_refl _)
      have hws2 := hW2.size
      clear b2 Hown hW
      cases r
      · have e1 := plcI_no (s := s) (l := l) (q := q) Hrr.out.symm
        have E1 := Lib.hid e1
        clear e1
        go_wp2_with fail
        go_roundw
        case rel => exact ⟨q + 1, B, d, z, by omega, by go_num, rfl, Lib.hid (by rw [E1.out]; exact HZ.out), by rw [E1.out]; exact hown2, hW2⟩
        case measure => simp [intOf] <;> omega
      · have e1 := plcI_yes (s := s) (l := l) (q := q) Hrr.out.symm
        have E1 := Lib.hid e1
        clear e1
        go_wp2_with (at_builtin; refine wpList_app1 _ w2 rfl _ _ 97 rfl w.heap.size 3 1 8 _ Tryz.underlying97 info_int rfl (by omega) _ _ _ _ rfl rfl rfl hown2 rfl (one_cell1 _) (by omega) (by unfold maxLen; omega) (by omega) ?_; intro A5 c5 w5 hO5 hW5)
        have hO6 : w5.ownsRow w.heap.size 3 1 (.slice A5 (z + 1) c5) (z + 1) (ints (plcI s l (q + 1))) := by rw [E1.out, ints_snoc]; exact hO5
        clear hO5
        go_wp2_with fail
        go_roundw
        case rel => exact ⟨q + 1, A5, c5, z + 1, by omega, by go_num, rfl, Lib.hid (by rw [E1.out, List.length_append, ← HZ.out]; rfl), hO6, hW2.trans hW5⟩
        case measure => simp [intOf] <;> omega
    · have : q = s.size := by omega
      subst this
      go_wp2_with fail
      go_ret
      rw [← HZ.out]
      exact ⟨B, d, rfl, hown, hW⟩

set_option maxRecDepth 100000 in
set_option maxHeartbeats 1000000 in
theorem specOverlaps_any (s l : ByteArray) (w : World) (hs : s.size ≤ 1048576) (hl : l.size ≤ 1048576) :
    Calls Tryz.prog 106 #[.string s, .string l] w (MadeSl w 3 1 (ovs s l).length (ints (ovs s l))) := by
  have hO0 := own_of_bk (base := w.heap.size) (m := 1) (n := 0) (Bk.new w 3 #[]) (Nat.le_refl _) rfl (by unfold maxLen; omega)
  have hW0 : Below w.heap.size w (w.alloc (.cells #[] 3)) := (Below.refl _ _).alloc (Nat.le_refl _) _
  obtain ⟨N, hN⟩ : ∃ N, N = ovN s l := ⟨_, rfl⟩
  have hNs : N = min s.size l.size - 1 := hN
  have hE : ovs s l = ovl s l N := by rw [hN]; rfl
  rw [hE]
  clear hE
  have HO0 := Lib.hid hO0
  clear hO0
  have HW0 := Lib.hid hW0
  clear hW0
  have HN := Lib.hid hN
  clear hN
  have HNs := Lib.hid hNs
  clear hNs
  go_enter Tryz.func106, Tryz.ntmps106
  go_wp2_with fail
  go_loopw [5, 6] (fun v i wr => ∃ (q : Nat) (B : Option Addr) (d z : Nat), q ≤ N ∧ i = .int .i64 ((q + 1 : Nat) : Int) ∧ v = .slice B z d ∧ Hid (z = (ovl s l q).length) ∧ wr.ownsRow w.heap.size 3 1 (.slice B z d) z (ints (ovl s l q)) ∧ Below w.heap.size w wr) (fun _ i _ => N + 1 - (intOf i).toNat)
  case atStart => exact ⟨0, _, _, 0, Nat.zero_le _, rfl, rfl, Lib.hid rfl, HO0.out, HW0.out⟩
  case round =>
    clear HO0 HW0
    obtain ⟨q, B, d, z, hqN, rfl, rfl, HZ, hown, hW⟩ := hrel
    have hz : z ≤ q := by rw [HZ.out]; exact ovl_len s l q
    have hN' := HNs.out
    obtain ⟨r, hr⟩ : ∃ r, r = q + 1 := ⟨_, rfl⟩
    rw [← hr]
    by_cases hlt : r < s.size ∧ r < l.size
    · obtain ⟨hr1, hr2⟩ := hlt
      have hi1 : (r : Int) < (s.size : Int) := by omega
      have hi2 : (r : Int) < (l.size : Int) := by omega
      have hsub : IntKind.i64.wrap ((s.size : Int) - (r : Int)) = (s.size : Int) - (r : Int) := IntWalk.i64_in _ ⟨by omega, by omega⟩
      have hadd : IntKind.i64.wrap ((r : Int) + 1) = (r : Int) + 1 := IntWalk.i64_in _ ⟨by omega, by omega⟩
      have g4 : (0 : Int) ≤ (s.size : Int) - (r : Int) := by omega
      have g5 : ((s.size : Int) - (r : Int)).toNat = s.size - r := by omega
      have g6 : (s.size : Int) - (r : Int) ≤ (s.size : Int) := by omega
      have g7 : s.size - r ≤ s.size := by omega
      have hws := hW.size
      have hqr : q < N := by omega
      have hzb : z ≤ 1048576 := by omega
      cases h5 : (s.extract (s.size - r) s.size).toList == (l.extract 0 r).toList
      · have e1 := ovl_no (s := s) (l := l) (q := q) (by rw [ovAt, ← hr]; exact h5)
        rw [← hr] at e1
        clear hN'
        have E1 := Lib.hid e1
        clear e1
        have Hr := Lib.hid hr
        clear hr
        go_wp2_with fail
        go_region
        all_goals
          go_wp2_with fail
          go_roundw
          case rel => exact ⟨r, B, d, z, by have := Hr.out; omega, by go_num, rfl, Lib.hid (by rw [E1.out]; exact HZ.out), by rw [E1.out]; exact hown, hW.drew⟩
          case measure => have := Hr.out; simp [intOf] <;> omega
      · have e1 := ovl_yes (s := s) (l := l) (q := q) (by rw [ovAt, ← hr]; exact h5)
        rw [← hr] at e1
        clear hN'
        have E1 := Lib.hid e1
        clear e1
        have Hr := Lib.hid hr
        clear hr
        go_wp2_with fail
        go_region
        all_goals
          go_wp2_with (at_builtin; refine wpList_app1 _ wr.drew rfl _ _ 97 rfl w.heap.size 3 1 8 _ Tryz.underlying97 info_int rfl (by omega) _ _ _ _ rfl rfl rfl (own_drew1 hown) rfl (one_cell1 _) (by omega) (by unfold maxLen; omega) hws ?_; intro A5 c5 w5 hO5 hW5)
          have hO6 : w5.ownsRow w.heap.size 3 1 (.slice A5 (z + 1) c5) (z + 1) (ints (ovl s l r)) := by rw [E1.out, ints_snoc]; exact hO5
          clear hO5
          go_wp2_with fail
          go_roundw
          case rel => exact ⟨r, A5, c5, z + 1, by have := Hr.out; omega, by go_num, rfl, Lib.hid (by rw [E1.out, List.length_append, ← HZ.out]; rfl), hO6, (hW.drew).trans hW5⟩
          case measure => have := Hr.out; simp [intOf] <;> omega
    · have : q = N := by omega
      subst this
      clear hN'
      by_cases hr1 : r < s.size
      · have hr2 : ¬ r < l.size := fun h => hlt ⟨hr1, h⟩
        have hi1 : (r : Int) < (s.size : Int) := by omega
        have hi2 : ¬ (r : Int) < (l.size : Int) := by omega
        clear hlt
        go_wp2_with fail
        go_ret
        rw [← HZ.out]
        exact ⟨B, d, rfl, hown, hW⟩
      · have hi1 : ¬ (r : Int) < (s.size : Int) := by omega
        clear hlt
        go_wp2_with fail
        go_ret
        rw [← HZ.out]
        exact ⟨B, d, rfl, hown, hW⟩

set_option maxRecDepth 100000 in
set_option maxHeartbeats 1000000 in
theorem implOverlaps_any (s l : ByteArray) (w : World) (hs : s.size ≤ 1048576) (hl : l.size ≤ 1048576) :
    Calls Tryz.prog 86 #[.string s, .string l] w (MadeSl w 3 1 (ovs s l).length (ints (ovs s l))) := by
  obtain ⟨N, hN⟩ : ∃ N, N = ovN s l := ⟨_, rfl⟩
  have hNs : N = min s.size l.size - 1 := hN
  have hE : ovs s l = ovl s l N := by rw [hN]; rfl
  rw [hE]
  clear hE
  have HN := Lib.hid hN
  clear hN
  have HNs := Lib.hid hNs
  clear hNs
  rcases (show (l.size : Int) < (s.size : Int) ∨ (s.size : Int) ≤ (l.size : Int) by omega) with hls | hls
  all_goals
    go_enter Tryz.func86, Tryz.ntmps86
    go_wp2_with fail
    go_loopw [5, 6] (fun v i wr => ∃ (q : Nat) (B : Option Addr) (d z : Nat), q ≤ N ∧ i = .int .i64 ((q + 1 : Nat) : Int) ∧ v = .slice B z d ∧ Hid (z = (ovl s l q).length) ∧ wr.ownsRow w.heap.size 3 1 (.slice B z d) z (ints (ovl s l q)) ∧ Below w.heap.size w wr) (fun _ i _ => N + 1 - (intOf i).toNat)
    case atStart => exact ⟨0, none, 0, 0, Nat.zero_le _, rfl, rfl, Lib.hid rfl, World.ownsRow_nil _ _ _ _, Below.refl _ _⟩
    case round =>
      obtain ⟨q, B, d, z, hqN, rfl, rfl, HZ, hown, hW⟩ := hrel
      have hz : z ≤ q := by rw [HZ.out]; exact ovl_len s l q
      have hN' := HNs.out
      obtain ⟨r, hr⟩ : ∃ r, r = q + 1 := ⟨_, rfl⟩
      rw [← hr]
      by_cases hlt : r < s.size ∧ r < l.size
      · obtain ⟨hr1, hr2⟩ := hlt
        have hi0 : (r : Int) < min (s.size : Int) (l.size : Int) := by omega
        have hi2 : (r : Int) < (l.size : Int) := by omega
        have hsub : IntKind.i64.wrap ((s.size : Int) - (r : Int)) = (s.size : Int) - (r : Int) := IntWalk.i64_in _ ⟨by omega, by omega⟩
        have hadd : IntKind.i64.wrap ((r : Int) + 1) = (r : Int) + 1 := IntWalk.i64_in _ ⟨by omega, by omega⟩
        have g4 : (0 : Int) ≤ (s.size : Int) - (r : Int) := by omega
        have g5 : ((s.size : Int) - (r : Int)).toNat = s.size - r := by omega
        have g6 : (s.size : Int) - (r : Int) ≤ (s.size : Int) := by omega
        have g7 : s.size - r ≤ s.size := by omega
        have hws := hW.size
        have hqr : q < N := by omega
        have hzb : z ≤ 1048576 := by omega
        cases h5 : (s.extract (s.size - r) s.size).toList == (l.extract 0 r).toList
        · have e1 := ovl_no (s := s) (l := l) (q := q) (by rw [ovAt, ← hr]; exact h5)
          rw [← hr] at e1
          clear hN'
          have E1 := Lib.hid e1
          clear e1
          have Hr := Lib.hid hr
          clear hr
          go_wp2_with fail
          go_region
          all_goals
            go_wp2_with fail
            go_roundw
            case rel => exact ⟨r, B, d, z, by have := Hr.out; omega, by go_num, rfl, Lib.hid (by rw [E1.out]; exact HZ.out), by rw [E1.out]; exact hown, hW.drew⟩
            case measure => have := Hr.out; simp [intOf] <;> omega
        · have e1 := ovl_yes (s := s) (l := l) (q := q) (by rw [ovAt, ← hr]; exact h5)
          rw [← hr] at e1
          clear hN'
          have E1 := Lib.hid e1
          clear e1
          have Hr := Lib.hid hr
          clear hr
          go_wp2_with fail
          go_region
          all_goals
            go_wp2_with (at_builtin; refine wpList_app1 _ wr.drew rfl _ _ 97 rfl w.heap.size 3 1 8 _ Tryz.underlying97 info_int rfl (by omega) _ _ _ _ rfl rfl rfl (own_drew1 hown) rfl (one_cell1 _) (by omega) (by unfold maxLen; omega) hws ?_; intro A5 c5 w5 hO5 hW5)
            have hO6 : w5.ownsRow w.heap.size 3 1 (.slice A5 (z + 1) c5) (z + 1) (ints (ovl s l r)) := by rw [E1.out, ints_snoc]; exact hO5
            clear hO5
            go_wp2_with fail
            go_roundw
            case rel => exact ⟨r, A5, c5, z + 1, by have := Hr.out; omega, by go_num, rfl, Lib.hid (by rw [E1.out, List.length_append, ← HZ.out]; rfl), hO6, (hW.drew).trans hW5⟩
            case measure => have := Hr.out; simp [intOf] <;> omega
      · have : q = N := by omega
        subst this
        clear hN'
        have hi0 : ¬ (r : Int) < min (s.size : Int) (l.size : Int) := by omega
        clear hlt
        go_wp2_with fail
        all_goals
          go_ret
          rw [← HZ.out]
          exact ⟨B, d, rfl, hown, hW⟩

end Go.Proofs.YteafeecndghapaaGreat
