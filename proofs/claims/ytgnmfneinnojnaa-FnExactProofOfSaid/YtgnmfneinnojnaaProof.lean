/- Walks over ProofOf (the program's and the reference's) and what it calls: both hand back the same links. -/
import Derived.Test.YtgnmfneinnojnaaTrace
import Derived.Test.YtgnmfneinnojnaaTurn
import Derived.Deep.RegionLaw
namespace Go.Proofs.Ytgnmfneinnojnaa
open Go.RowKit Go.Shelf

def linkOf (b : Bool) (x : StepT) : LinkT := (x.1, x.2, b)
theorem turn_links (xs : List StepT) : turnL (xs.map (linkOf false)) = xs.reverse.map (linkOf true) := by
  rw [turnL, ← List.map_reverse, List.map_map]
  rfl
/-- Do the two words have chains to the same reduced word, short enough? -/
def pfOk (l : Int) (rs : List RuleT) (u v : ByteArray) : Bool := takesOk l rs u && takesOk l rs v && ((normS rs u).toList == (normS rs v).toList) && decide ((trS l rs u).length + (trS l rs v).length ≤ 200)
/-- ProofOf, in plain words. -/
def pfL (l : Int) (rs : List RuleT) (u v : ByteArray) : List LinkT := if pfOk l rs u v then (trS l rs u).map (linkOf false) ++ (trS l rs v).reverse.map (linkOf true) else []
theorem pfL_len (l : Int) (rs : List RuleT) (u v : ByteArray) : (pfL l rs u v).length ≤ 1048576 := by
  unfold pfL
  split
  · next h =>
    unfold pfOk at h
    simp only [Bool.and_eq_true, decide_eq_true_eq] at h
    rw [List.length_append, List.length_map, List.length_map, List.length_reverse]
    omega
  · simp
theorem cellsLink_app (xs ys : List LinkT) : cellsLink (xs ++ ys) = cellsLink xs ++ cellsLink ys := by simp [cellsLink]
theorem one_cell_links (xs : List LinkT) : ∀ u ∈ cellsLink xs, u.oneCell' = true := by
  intro u hu
  obtain ⟨x, _, hx⟩ := List.mem_flatMap.1 hu
  simp [encLink] at hx
  rcases hx with rfl | rfl | rfl <;> rfl

set_option maxRecDepth 100000 in
set_option maxHeartbeats 2000000 in
theorem specL12_any (A : Option Addr) (n c : Nat) (xs : List StepT) (w : World) (hr : Rd w A (cellsStep xs)) (hn : n = xs.length) (hb : n ≤ 1048576) :
    Calls Try.prog 119 #[.slice A n c] w (MadeSl w 131 3 n (cellsLink (xs.map (linkOf false)))) := by
  have hO0 := own_of_bk (base := w.heap.size) (m := 3) (n := 0) (Bk.new w 131 #[]) (Nat.le_refl _) rfl (by unfold maxLen; omega)
  have hW0 : Below w.heap.size w (w.alloc (.cells #[] 131)) := (Below.refl _ _).alloc (Nat.le_refl _) _
  have Hr := Lib.hid hr
  clear hr
  have Hn := Lib.hid hn
  clear hn
  have HO0 := Lib.hid hO0
  clear hO0
  have HW0 := Lib.hid hW0
  clear hW0
  go_enter Try.func119, Try.ntmps119
  go_wp2_with fail
  go_loopw [3, 9] (fun v i wr => ∃ (j : Nat) (B : Option Addr) (d : Nat), j ≤ n ∧ i = .int .i64 j ∧ v = .slice B j d ∧ wr.ownsRow w.heap.size 131 3 (.slice B j d) j (cellsLink ((xs.take j).map (linkOf false))) ∧ Below w.heap.size w wr) (fun _ i _ => n - (intOf i).toNat)
  case atStart => exact ⟨0, _, _, Nat.zero_le _, rfl, rfl, HO0.out, HW0.out⟩
  case round =>
    clear HO0 HW0
    obtain ⟨j, B, d, hj, rfl, rfl, hown, hW0⟩ := hrel
    by_cases hlt : j < n
    · have hlt2 : j < xs.length := by rw [← Hn.out]; exact hlt
      obtain ⟨b, o, rfl, hbl, p0, p1⟩ := rd_Step (Hr.out.keep hW0) hlt2
      have hT : (xs.take (j + 1)).map (linkOf false) = (xs.take j).map (linkOf false) ++ [linkOf false xs[j]] := by rw [List.take_succ_eq_append_getElem hlt2, List.map_append]; rfl
      obtain ⟨⟨x0, x1⟩, hx⟩ : ∃ x, x = xs[j] := ⟨_, rfl⟩
      rw [← hx] at p0 p1 hT
      dsimp only at p0 p1
      rw [show linkOf false (x0, x1) = (x0, x1, false) from rfl] at hT
      have hWa := hW0.alloc hW0.size (.cells #[.int .i64 x0, .int .i64 x1] 78)
      have hoa := own_keep hown ((Below.refl _ wr).alloc (Nat.le_refl _) (.cells #[.int .i64 x0, .int .i64 x1] 78)) (Nat.le_refl _)
      have hsz := hW0.size
      clear hown
      have Hx := Lib.hid hx
      clear hx
      have HT := Lib.hid hT
      clear hT
      have HWa := Lib.hid hWa
      clear hWa
      go_wp2_with (at_builtin; refine wpList_app3 _ (wr.alloc (.cells #[.int .i64 x0, .int .i64 x1] 78)) rfl _ _ 64 rfl w.heap.size 131 3 24 _ Try.underlying64 info_Link rfl (by omega) _ _ _ _ rfl rfl (by simp [go_sem]) hoa rfl (one_cell_link1 _ _ _) (by omega) (by unfold maxLen; omega) (by simp; omega) ?_; intro A5 c5 w5 hO5 hW5 hK5)
      have hW6 := HWa.out.trans hW5
      have hO6 : w5.ownsRow w.heap.size 131 3 (.slice A5 (j + 1) c5) (j + 1) (cellsLink ((xs.take (j + 1)).map (linkOf false))) := by rw [HT.out, cellsLink_snoc1]; exact hO5
      clear hO5 hoa hK5
      go_wp2_with fail
      go_roundw
      case rel => exact ⟨j + 1, A5, c5, by omega, by go_num, rfl, hO6, hW6⟩
      case measure => simp [intOf] <;> omega
    · have : j = n := by omega
      subst this
      have hT : xs.take j = xs := List.take_of_length_le (by rw [← Hn.out]; exact Nat.le_refl _)
      rw [hT] at hown
      have HT := Lib.hid hT
      clear hT
      go_wp2_with fail
      go_ret
      exact ⟨B, d, rfl, hown, hW0⟩

set_option maxRecDepth 100000 in
set_option maxHeartbeats 2000000 in
theorem specProofOf_any (l : Int) (A : Option Addr) (n c : Nat) (rs : List RuleT) (u v : ByteArray) (w : World) (hr : Rd w A (cellsRule rs)) (hn : n = rs.length) (hb : n ≤ 1048576) (hz : ∀ x ∈ rs, x.1.size ≤ 1048576 ∧ x.2.size ≤ 1048576) (hs : u.size ≤ 1048576) (hv : v.size ≤ 1048576) :
    Calls Try.prog 57 #[.agg #[.int .i64 l, .slice A n c], .string u, .string v] w (MadeSlB w 131 3 (pfL l rs u v).length (cellsLink (pfL l rs u v)) (pfOk l rs u v)) := by
  have hW0 : Below w.heap.size w (w.alloc (.cells #[.int .i64 l, .slice A n c] 49)) := (Below.refl _ _).alloc (Nat.le_refl _) _
  have hS0 := Bk.new w 49 #[.int .i64 l, .slice A n c]
  have l1 := trS_len l rs u
  have l2 := trS_len l rs v
  have Hr := Lib.hid hr
  clear hr
  have Hn := Lib.hid hn
  clear hn
  have Hz := Lib.hid hz
  clear hz
  go_enter Try.func57, Try.ntmps57
  go_wp2_with fail
  with_reducible refine (specTraceOf_any l A n c rs u _ (Hr.out.keep hW0) Hn.out hb Hz.out hs).mono ?_
  rintro e w1 ⟨B1, d1, rfl, hO1', b1⟩
  have hW1 := hW0.trans (b1.mono hW0.size)
  have hS1 := hS0.below b1 hS0.lt
  have hO1 := own_mono hO1' hW0.size
  clear hO1'
  obtain ⟨X, hX⟩ : ∃ X, X = trS l rs u := ⟨_, rfl⟩
  obtain ⟨m1, hm1⟩ : ∃ m, m = X.length := ⟨_, rfl⟩
  obtain ⟨k1, hk1⟩ : ∃ k, k = takesOk l rs u := ⟨_, rfl⟩
  rw [← hX] at hO1 l1 ⊢
  rw [← hm1] at hO1 l1 ⊢
  rw [← hk1]
  have s0_1 : w1.cell? ⟨w.heap.size, 0, none⟩ = some (.int .i64 l) := by rw [hS1.cell]; rfl
  have s1_1 : w1.cell? ⟨w.heap.size, 1, none⟩ = some (.slice A n c) := by rw [hS1.cell]; rfl
  have sl_1 := hS1.lt
  clear hS0 hW0 b1
  have HO1 := Lib.hid hO1
  clear hO1
  have HX := Lib.hid hX
  clear hX
  have Hm1 := Lib.hid hm1
  clear hm1
  have Hk1 := Lib.hid hk1
  clear hk1
  go_wp2_with fail
  with_reducible refine (specTraceOf_any l A n c rs v _ (Hr.out.keep hW1) Hn.out hb Hz.out hv).mono ?_
  rintro e w2 ⟨B2, d2, rfl, hO2', b2⟩
  have hO12 := own_keep HO1.out b2 (Nat.le_refl _)
  have hW2 := hW1.trans (b2.mono hW1.size)
  have hS2 := hS1.below b2 hS1.lt
  have hO2 := own_mono hO2' hW1.size
  clear hO2'
  obtain ⟨Y, hY⟩ : ∃ X, X = trS l rs v := ⟨_, rfl⟩
  obtain ⟨m2, hm2⟩ : ∃ m, m = Y.length := ⟨_, rfl⟩
  obtain ⟨k2, hk2⟩ : ∃ k, k = takesOk l rs v := ⟨_, rfl⟩
  rw [← hY] at hO2 l2 ⊢
  rw [← hm2] at hO2 l2 ⊢
  rw [← hk2]
  clear HO1 s0_1 s1_1 sl_1 hS1 hW1 b2
  have s0_2 : w2.cell? ⟨w.heap.size, 0, none⟩ = some (.int .i64 l) := by rw [hS2.cell]; rfl
  have s1_2 : w2.cell? ⟨w.heap.size, 1, none⟩ = some (.slice A n c) := by rw [hS2.cell]; rfl
  have sl_2 := hS2.lt
  have HO12 := Lib.hid hO12
  clear hO12
  have HO2 := Lib.hid hO2
  clear hO2
  have HY := Lib.hid hY
  clear hY
  have Hm2 := Lib.hid hm2
  clear hm2
  have Hk2 := Lib.hid hk2
  clear hk2
  have hsum : IntKind.i64.wrap ((m1 : Int) + (m2 : Int)) = (m1 : Int) + (m2 : Int) := IntWalk.i64_in _ ⟨by omega, by omega⟩
  by_cases hall : k1 = true ∧ k2 = true ∧ m1 + m2 ≤ 200
  rotate_left
  · have e0 : pfOk l rs u v = false := by
      rw [pfOk, ← Hk1.out, ← Hk2.out, ← HX.out, ← HY.out, ← Hm1.out, ← Hm2.out]
      cases k1
      · rfl
      · cases k2
        · rfl
        · rw [decide_eq_false (p := m1 + m2 ≤ 200) (by simpa using hall), Bool.and_false]
    have e1 : pfL l rs u v = [] := by rw [pfL, e0]; rfl
    have E0 := Lib.hid e0
    clear e0
    have E1 := Lib.hid e1
    clear e1
    cases k1
    · clear hall
      cases k2 <;>
      · go_wp2_with fail
        go_ret2
        rw [E0.out, E1.out]
        exact ⟨none, 0, rfl, World.ownsRow_nil _ _ _ _, hW2⟩
    · cases k2
      · clear hall
        go_wp2_with fail
        go_ret2
        rw [E0.out, E1.out]
        exact ⟨none, 0, rfl, World.ownsRow_nil _ _ _ _, hW2⟩
      · have h200n : ¬ (m1 + m2 ≤ 200) := by simpa using hall
        have h200 : (200 : Int) < (m1 : Int) + (m2 : Int) := by omega
        clear hall
        go_wp2_with fail
        go_ret2
        rw [E0.out, E1.out]
        exact ⟨none, 0, rfl, World.ownsRow_nil _ _ _ _, hW2⟩
  obtain ⟨rfl, rfl, h200⟩ := hall
  have h200' : ¬ (200 : Int) < (m1 : Int) + (m2 : Int) := by omega
  have hnu : nfS l rs u = normS rs u := by rw [nfS, ← Hk1.out]; rfl
  have hnv : nfS l rs v = normS rs v := by rw [nfS, ← Hk2.out]; rfl
  have Hnu := Lib.hid hnu
  clear hnu
  have Hnv := Lib.hid hnv
  clear hnv
  go_wp2_with fail
  with_reducible refine (specNormalForm_any l A n c rs u _ (Hr.out.keep hW2) Hn.out hb Hz.out hs).mono ?_
  rintro e w3 ⟨rfl, b3⟩
  have hO13 := own_keep HO12.out b3 (Nat.le_refl _)
  have hO23 := own_keep HO2.out b3 (Nat.le_refl _)
  have hW3 := hW2.trans (b3.mono hW2.size)
  have hS3 := hS2.below b3 hS2.lt
  rw [← Hk1.out, Hnu.out]
  clear HO12 HO2 s0_2 s1_2 sl_2 hS2 hW2 b3
  have s0_3 : w3.cell? ⟨w.heap.size, 0, none⟩ = some (.int .i64 l) := by rw [hS3.cell]; rfl
  have s1_3 : w3.cell? ⟨w.heap.size, 1, none⟩ = some (.slice A n c) := by rw [hS3.cell]; rfl
  have sl_3 := hS3.lt
  have HO13 := Lib.hid hO13
  clear hO13
  have HO23 := Lib.hid hO23
  clear hO23
  obtain ⟨x, hrr⟩ : ∃ r', r' = (normS rs u) := ⟨_, rfl⟩
  rw [← hrr]
  have Hx := Lib.hid hrr
  clear hrr
  go_wp2_with fail
  with_reducible refine (specNormalForm_any l A n c rs v _ (Hr.out.keep hW3) Hn.out hb Hz.out hv).mono ?_
  rintro e w4 ⟨rfl, b4⟩
  have hO14 := own_keep HO13.out b4 (Nat.le_refl _)
  have hO24 := own_keep HO23.out b4 (Nat.le_refl _)
  have hW4 := hW3.trans (b4.mono hW3.size)
  rw [← Hk2.out, Hnv.out]
  clear HO13 HO23 s0_3 s1_3 sl_3 hS3 hW3 b4
  have HO14 := Lib.hid hO14
  clear hO14
  have HO24 := Lib.hid hO24
  clear hO24
  obtain ⟨y, hrr⟩ : ∃ r', r' = (normS rs v) := ⟨_, rfl⟩
  rw [← hrr]
  have Hy := Lib.hid hrr
  clear hrr
  have hpo : pfOk l rs u v = (x.toList == y.toList) := by
    rw [pfOk, ← Hk1.out, ← Hk2.out, ← HX.out, ← HY.out, ← Hm1.out, ← Hm2.out, ← Hx.out, ← Hy.out, decide_eq_true h200]
    simp
  cases hq : x.toList == y.toList
  · have e0 : pfOk l rs u v = false := by rw [hpo, hq]
    have e1 : pfL l rs u v = [] := by rw [pfL, e0]; rfl
    clear hpo
    have E0 := Lib.hid e0
    clear e0
    have E1 := Lib.hid e1
    clear e1
    go_wp2_with fail
    go_ret2
    rw [E0.out, E1.out]
    exact ⟨none, 0, rfl, World.ownsRow_nil _ _ _ _, hW4⟩
  have e0 : pfOk l rs u v = true := by rw [hpo, hq]
  have e1 : pfL l rs u v = X.map (linkOf false) ++ Y.reverse.map (linkOf true) := by rw [pfL, e0, HX.out, HY.out]; rfl
  clear hpo
  have E0 := Lib.hid e0
  clear e0
  have E1 := Lib.hid e1
  clear e1
  go_wp2_with fail
  with_reducible refine (specL12_any B1 m1 d1 X _ (Rd.of_own HO14.out) Hm1.out (by omega)).mono ?_
  rintro e w5 ⟨B5, d5, rfl, hO5', b5⟩
  have hO25 := own_keep HO24.out b5 (Nat.le_refl _)
  have hW5 := hW4.trans (b5.mono hW4.size)
  have hO5 := own_mono hO5' hW4.size
  clear hO5'
  clear HO14 HO24 hW4 b5
  have HO5 := Lib.hid hO5
  clear hO5
  have HO25 := Lib.hid hO25
  clear hO25
  go_wp2_with fail
  with_reducible refine (specL12_any B2 m2 d2 Y _ (Rd.of_own HO25.out) Hm2.out (by omega)).mono ?_
  rintro e w6 ⟨B6, d6, rfl, hO6, b6⟩
  have hO56 := own_keep HO5.out b6 (Nat.le_refl _)
  have hW6 := hW5.trans (b6.mono hW5.size)
  clear HO5 HO25 hW5 b6
  have hm6 : m2 = (Y.map (linkOf false)).length := by rw [List.length_map]; exact Hm2.out
  have HO6 := Lib.hid hO6
  clear hO6
  have HO56 := Lib.hid hO56
  clear hO56
  have Hm6 := Lib.hid hm6
  clear hm6
  go_wp2_with fail
  with_reducible refine (specTurnProof_N B6 m2 d6 (Y.map (linkOf false)) _ (Rd.of_own HO6.out) Hm6.out (by omega)).mono ?_
  rintro e w7 ⟨a7, d7, rfl, hO7, b7⟩
  have hO57 := own_keep HO56.out b7 (Nat.le_refl _)
  have hW7 := hW6.trans (b7.mono hW6.size)
  have hl7 : (turnL (Y.map (linkOf false))).length = m2 := by rw [turnL_len, ← Hm6.out]
  rw [hl7] at hO7 ⊢
  rw [turn_links] at hO7
  clear HO6 HO56 hW6 b7
  obtain ⟨Z, hZ⟩ : ∃ Z, Z = Y.reverse.map (linkOf true) := ⟨_, rfl⟩
  rw [← hZ] at hO7
  have hR7 : Rd w7 (some a7) (cellsLink Z) := Rd.of_own hO7
  have hl7 : (cellsLink Z).length = m2 * 3 := hO7.1
  have hPL : (pfL l rs u v).length = m1 + m2 := by rw [E1.out, List.length_append, List.length_map, List.length_map, List.length_reverse, ← Hm1.out, ← Hm2.out]
  have hPC : cellsLink (pfL l rs u v) = cellsLink (X.map (linkOf false)) ++ cellsLink Z := by rw [E1.out, cellsLink_app, hZ]
  obtain ⟨i0, hi, hz0, hz1, hz2⟩ := info_parts info_Link
  have hcells : ∀ j u, (cellsLink Z)[j]? = some u → w7.cell? (a7.add j) = some u := by
    intro j u hu
    obtain ⟨b, o, e, hl, hc⟩ := hR7 (by intro e; rw [e] at hu; cases hu)
    injection e with e
    subst e
    have e' : (⟨b, o, none⟩ : Addr).add j = ⟨b, o + j, none⟩ := by unfold Addr.add; split <;> simp_all
    rw [e', ← hc j u hu]
  clear hR7
  have HO7 := Lib.hid hO7
  clear hO7
  have HO57 := Lib.hid hO57
  clear hO57
  have HZ := Lib.hid hZ
  clear hZ
  have HPL := Lib.hid hPL
  clear hPL
  have HPC := Lib.hid hPC
  clear hPC
  have Hcells := Lib.hid hcells
  clear hcells
  go_wp2_with (at_builtin; refine wpList_append_own _ rfl _ _ 64 rfl w.heap.size 131 i0 _ 3 24 Try.underlying64 hi hz0 hz1 hz2 rfl (by omega) (.slice B5 m1 d5) m1 _ rfl HO57.out a7 m2 d7 (cellsLink Z) rfl hl7 Hcells.out (one_cell_links Z) (by unfold maxLen; omega) (by omega) hW7.size ?_; intro v' w' hO hG hX)
  obtain ⟨A5, c5, rfl⟩ := own_form hO
  have hW8 := hW7.grown hG hW7.size fun k hk => (HO57.out.lt k hk).1
  clear hG hX
  have HO := Lib.hid hO
  clear hO
  have HW8 := Lib.hid hW8
  clear hW8
  go_wp2_with fail
  go_ret2
  rw [E0.out, HPL.out, HPC.out]
  exact ⟨A5, c5, rfl, HO.out, HW8.out⟩

set_option maxRecDepth 100000 in
set_option maxHeartbeats 4000000 in
theorem implProofOf_any (l : Int) (A : Option Addr) (n c : Nat) (rs : List RuleT) (u v : ByteArray) (w : World) (hr : Rd w A (cellsRule rs)) (hn : n = rs.length) (hb : n ≤ 1048576) (hz : ∀ x ∈ rs, x.1.size ≤ 1048576 ∧ x.2.size ≤ 1048576) (hs : u.size ≤ 1048576) (hv : v.size ≤ 1048576) :
    Calls Try.prog 58 #[.agg #[.int .i64 l, .slice A n c], .string u, .string v] w (MadeSlB w 131 3 (pfL l rs u v).length (cellsLink (pfL l rs u v)) (pfOk l rs u v)) := by
  have hW0 : Below w.heap.size w (w.alloc (.cells #[.int .i64 l, .slice A n c] 49)) := (Below.refl _ _).alloc (Nat.le_refl _) _
  have hS0 := Bk.new w 49 #[.int .i64 l, .slice A n c]
  have l1 := trS_len l rs u
  have l2 := trS_len l rs v
  have Hr := Lib.hid hr
  clear hr
  have Hn := Lib.hid hn
  clear hn
  have Hz := Lib.hid hz
  clear hz
  go_enter Try.func58, Try.ntmps58
  go_wp2_with fail
  with_reducible refine (implTraceOf_any l A n c rs u _ (Hr.out.keep hW0) Hn.out hb Hz.out hs).mono ?_
  rintro e w1 ⟨B1, d1, rfl, hO1', b1⟩
  have hW1 := hW0.trans (b1.mono hW0.size)
  have hS1 := hS0.below b1 hS0.lt
  have hO1 := own_mono hO1' hW0.size
  clear hO1'
  obtain ⟨X, hX⟩ : ∃ X, X = trS l rs u := ⟨_, rfl⟩
  obtain ⟨m1, hm1⟩ : ∃ m, m = X.length := ⟨_, rfl⟩
  obtain ⟨k1, hk1⟩ : ∃ k, k = takesOk l rs u := ⟨_, rfl⟩
  rw [← hX] at hO1 l1 ⊢
  rw [← hm1] at hO1 l1 ⊢
  rw [← hk1]
  have s0_1 : w1.cell? ⟨w.heap.size, 0, none⟩ = some (.int .i64 l) := by rw [hS1.cell]; rfl
  have s1_1 : w1.cell? ⟨w.heap.size, 1, none⟩ = some (.slice A n c) := by rw [hS1.cell]; rfl
  have sl_1 := hS1.lt
  clear hS0 hW0 b1
  have HO1 := Lib.hid hO1
  clear hO1
  have HX := Lib.hid hX
  clear hX
  have Hm1 := Lib.hid hm1
  clear hm1
  have Hk1 := Lib.hid hk1
  clear hk1
  go_wp2_with fail
  with_reducible refine (implTraceOf_any l A n c rs v _ (Hr.out.keep hW1) Hn.out hb Hz.out hv).mono ?_
  rintro e w2 ⟨B2, d2, rfl, hO2', b2⟩
  have hO12 := own_keep HO1.out b2 (Nat.le_refl _)
  have hW2 := hW1.trans (b2.mono hW1.size)
  have hS2 := hS1.below b2 hS1.lt
  have hO2 := own_mono hO2' hW1.size
  clear hO2'
  obtain ⟨Y, hY⟩ : ∃ X, X = trS l rs v := ⟨_, rfl⟩
  obtain ⟨m2, hm2⟩ : ∃ m, m = Y.length := ⟨_, rfl⟩
  obtain ⟨k2, hk2⟩ : ∃ k, k = takesOk l rs v := ⟨_, rfl⟩
  rw [← hY] at hO2 l2 ⊢
  rw [← hm2] at hO2 l2 ⊢
  rw [← hk2]
  clear HO1 s0_1 s1_1 sl_1 hS1 hW1 b2
  have s0_2 : w2.cell? ⟨w.heap.size, 0, none⟩ = some (.int .i64 l) := by rw [hS2.cell]; rfl
  have s1_2 : w2.cell? ⟨w.heap.size, 1, none⟩ = some (.slice A n c) := by rw [hS2.cell]; rfl
  have sl_2 := hS2.lt
  have HO12 := Lib.hid hO12
  clear hO12
  have HO2 := Lib.hid hO2
  clear hO2
  have HY := Lib.hid hY
  clear hY
  have Hm2 := Lib.hid hm2
  clear hm2
  have Hk2 := Lib.hid hk2
  clear hk2
  have hsum : IntKind.i64.wrap ((m1 : Int) + (m2 : Int)) = (m1 : Int) + (m2 : Int) := IntWalk.i64_in _ ⟨by omega, by omega⟩
  by_cases hok : k1 = true ∧ k2 = true
  rotate_left
  · have e0 : pfOk l rs u v = false := by
      rw [pfOk, ← Hk1.out, ← Hk2.out]
      cases k1
      · rfl
      · cases k2
        · rfl
        · exact absurd ⟨rfl, rfl⟩ hok
    have e1 : pfL l rs u v = [] := by rw [pfL, e0]; rfl
    have E0 := Lib.hid e0
    clear e0
    have E1 := Lib.hid e1
    clear e1
    cases k1
    · clear hok
      cases k2 <;>
      · go_wp2_with fail
        go_region
        go_wp2_with fail
        go_ret2
        rw [E0.out, E1.out]
        exact ⟨none, 0, rfl, World.ownsRow_nil _ _ _ _, hW2.drew⟩
    · cases k2
      · clear hok
        go_wp2_with fail
        go_region
        go_wp2_with fail
        go_ret2
        rw [E0.out, E1.out]
        exact ⟨none, 0, rfl, World.ownsRow_nil _ _ _ _, hW2.drew⟩
      · exact absurd ⟨rfl, rfl⟩ hok
  obtain ⟨rfl, rfl⟩ := hok
  have hsy := (takes_sys Hk1.out.symm).1
  obtain ⟨x, hx⟩ : ∃ x, normS rs u = x := ⟨_, rfl⟩
  obtain ⟨y, hy⟩ : ∃ y, normS rs v = y := ⟨_, rfl⟩
  have hV0 : Below w2.heap.size w2 w2.drew := (Below.refl _ _).drew
  have zS : w2.drew.cell? ⟨w.heap.size, 0, none⟩ = some (.int .i64 l) ∧ w2.drew.cell? ⟨w.heap.size, 1, none⟩ = some (.slice A n c) := ⟨s0_2, s1_2⟩
  have eS : ∀ W, Below w2.heap.size w2 W → W.cell? ⟨w.heap.size, 0, none⟩ = some (.int .i64 l) ∧ W.cell? ⟨w.heap.size, 1, none⟩ = some (.slice A n c) := fun W h => ⟨(h.cell (p := ⟨w.heap.size, 0, none⟩) hS2.lt).trans s0_2, (h.cell (p := ⟨w.heap.size, 1, none⟩) hS2.lt).trans s1_2⟩
  have eR : ∀ W, Below w2.heap.size w2 W → Rd W A (cellsRule rs) := fun W h => Hr.out.keep (hW2.trans (h.mono hW2.size))
  have hpo : pfOk l rs u v = ((x.toList == y.toList) && decide (m1 + m2 ≤ 200)) := by
    rw [pfOk, ← Hk1.out, ← Hk2.out, ← HX.out, ← HY.out, ← Hm1.out, ← Hm2.out, hx, hy]
    simp
  clear hS2 sl_2
  have Hsy := Lib.hid hsy
  clear hsy
  have Hx := Lib.hid hx
  clear hx
  have Hy := Lib.hid hy
  clear hy
  have ZS := Lib.hid zS
  clear zS
  have ES := Lib.hid eS
  clear eS
  have ER := Lib.hid eR
  clear eR
  have Hpo := Lib.hid hpo
  clear hpo
  cases hq : x.toList == y.toList
  · have e0 : pfOk l rs u v = false := by rw [Hpo.out, hq]; rfl
    have e1 : pfL l rs u v = [] := by rw [pfL, e0]; rfl
    have E0 := Lib.hid e0
    clear e0
    have E1 := Lib.hid e1
    clear e1
    go_wp2_with fail
    refine wp_region_held_drew (S := (fun W => W.cell? ⟨w.heap.size, 0, none⟩ = some (.int .i64 l) ∧ W.cell? ⟨w.heap.size, 1, none⟩ = some (.slice A n c))) (by kernel_rfl) (ZS.out) (fun hHeld => ?_)
    refine wpAnyH_take (i := 0) (oi := ?oi467) (v := ?val467) ?hi467 ?hs467 ?hf467 ?hr467 ?hQ467 ?hy467 ?hS467 ?hrest467
    case hi467 => (simp only [List.getElem?_toArray, List.getElem?_cons_succ, List.getElem?_cons_zero] <;> exact rfl)
    case hs467 => kernel_rfl
    case hf467 => kernel_rfl
    case hr467 => kernel_rfl
    case hQ467 => exact fun _ _ _ h => h
    case hS467 => assumption
    case hy467 => (refine Or.inl ⟨by rfl, ?_⟩; intro w hSw; (try dsimp only at hSw); (try obtain ⟨z0, z1⟩ := hSw); go_simp; try with_reducible rfl)
    simp only [Act.put, List.setIfInBounds_toArray, List.set_cons_zero, List.set_cons_succ]
    refine wpAnyH_take (i := 1) (oi := ?oi476) (v := ?val476) ?hi476 ?hs476 ?hf476 ?hr476 ?hQ476 ?hy476 ?hS476 ?hrest476
    case hi476 => (simp only [List.getElem?_toArray, List.getElem?_cons_succ, List.getElem?_cons_zero] <;> exact rfl)
    case hs476 => kernel_rfl
    case hf476 => kernel_rfl
    case hr476 => kernel_rfl
    case hQ476 => exact fun _ _ _ h => h
    case hS476 => assumption
    case hy476 => (refine Or.inl ⟨by rfl, ?_⟩; intro w hSw; (try dsimp only at hSw); (try obtain ⟨z0, z1⟩ := hSw); go_simp; try with_reducible rfl)
    simp only [Act.put, List.setIfInBounds_toArray, List.set_cons_zero, List.set_cons_succ]
    refine wpAnyH_take (i := 2) (oi := ?oi485) (v := ?val485) ?hi485 ?hs485 ?hf485 ?hr485 ?hQ485 ?hy485 ?hS485 ?hrest485
    case hi485 => (simp only [List.getElem?_toArray, List.getElem?_cons_succ, List.getElem?_cons_zero] <;> exact rfl)
    case hs485 => kernel_rfl
    case hf485 => kernel_rfl
    case hr485 => kernel_rfl
    case hQ485 => exact fun _ _ _ h => h
    case hS485 => assumption
    case hy485 => (refine Or.inl ⟨by rfl, ?_⟩; intro w hSw; (try dsimp only at hSw); (try obtain ⟨z0, z1⟩ := hSw); go_simp; try with_reducible rfl)
    simp only [Act.put, List.setIfInBounds_toArray, List.set_cons_zero, List.set_cons_succ]
    refine wpAnyH_take (i := 3) (oi := ?oi494) (v := ?val494) ?hi494 ?hs494 ?hf494 ?hr494 ?hQ494 ?hy494 ?hS494 ?hrest494
    case hi494 => (simp only [List.getElem?_toArray, List.getElem?_cons_succ, List.getElem?_cons_zero] <;> exact rfl)
    case hs494 => kernel_rfl
    case hf494 => kernel_rfl
    case hr494 => kernel_rfl
    case hQ494 => exact fun _ _ _ h => h
    case hS494 => assumption
    case hy494 => (refine Or.inl ⟨by rfl, ?_⟩; intro w hSw; (try dsimp only at hSw); (try obtain ⟨z0, z1⟩ := hSw); go_simp; try with_reducible rfl)
    simp only [Act.put, List.setIfInBounds_toArray, List.set_cons_zero, List.set_cons_succ]
    refine wpAnyH_take (i := 4) (oi := ?oi503) (v := ?val503) ?hi503 ?hs503 ?hf503 ?hr503 ?hQ503 ?hy503 ?hS503 ?hrest503
    case hi503 => (simp only [List.getElem?_toArray, List.getElem?_cons_succ, List.getElem?_cons_zero] <;> exact rfl)
    case hs503 => kernel_rfl
    case hf503 => kernel_rfl
    case hr503 => kernel_rfl
    case hQ503 => exact fun _ _ _ h => h
    case hS503 => assumption
    case hy503 => (refine Or.inl ⟨by rfl, ?_⟩; intro w hSw; (try dsimp only at hSw); (try obtain ⟨z0, z1⟩ := hSw); go_simp; try with_reducible rfl)
    simp only [Act.put, List.setIfInBounds_toArray, List.set_cons_zero, List.set_cons_succ]
    refine wpAnyH_take (i := 5) (oi := ?oi512) (v := ?val512) ?hi512 ?hs512 ?hf512 ?hr512 ?hQ512 ?hy512 ?hS512 ?hrest512
    case hi512 => (simp only [List.getElem?_toArray, List.getElem?_cons_succ, List.getElem?_cons_zero] <;> exact rfl)
    case hs512 => kernel_rfl
    case hf512 => kernel_rfl
    case hr512 => kernel_rfl
    case hQ512 => exact fun _ _ _ h => h
    case hS512 => assumption
    case hy512 => (refine Or.inl ⟨by rfl, ?_⟩; intro w hSw; (try dsimp only at hSw); (try obtain ⟨z0, z1⟩ := hSw); go_simp; try with_reducible rfl)
    simp only [Act.put, List.setIfInBounds_toArray, List.set_cons_zero, List.set_cons_succ]
    refine wpAnyH_take (i := 6) (oi := ?oi521) (v := ?val521) ?hi521 ?hs521 ?hf521 ?hr521 ?hQ521 ?hy521 ?hS521 ?hrest521
    case hi521 => (simp only [List.getElem?_toArray, List.getElem?_cons_succ, List.getElem?_cons_zero] <;> exact rfl)
    case hs521 => kernel_rfl
    case hf521 => kernel_rfl
    case hr521 => kernel_rfl
    case hQ521 => exact fun _ _ _ h => h
    case hS521 => assumption
    case hy521 => (refine Or.inl ⟨by rfl, ?_⟩; intro w hSw; (try dsimp only at hSw); (try obtain ⟨z0, z1⟩ := hSw); go_simp; try with_reducible rfl)
    simp only [Act.put, List.setIfInBounds_toArray, List.set_cons_zero, List.set_cons_succ]
    refine wpAnyH_take (i := 7) (oi := ?oi530) (v := ?val530) ?hi530 ?hs530 ?hf530 ?hr530 ?hQ530 ?hy530 ?hS530 ?hrest530
    case hi530 => (simp only [List.getElem?_toArray, List.getElem?_cons_succ, List.getElem?_cons_zero] <;> exact rfl)
    case hs530 => kernel_rfl
    case hf530 => kernel_rfl
    case hr530 => kernel_rfl
    case hQ530 => exact fun _ _ _ h => h
    case hS530 => assumption
    case hy530 => (refine Or.inl ⟨by rfl, ?_⟩; intro w hSw; (try dsimp only at hSw); (try obtain ⟨z0, z1⟩ := hSw); go_simp; try with_reducible rfl)
    simp only [Act.put, List.setIfInBounds_toArray, List.set_cons_zero, List.set_cons_succ]
    refine wpAnyH_take (i := 8) (oi := ?oi539) (v := ?val539) ?hi539 ?hs539 ?hf539 ?hr539 ?hQ539 ?hy539 ?hS539 ?hrest539
    case hi539 => (simp only [List.getElem?_toArray, List.getElem?_cons_succ, List.getElem?_cons_zero] <;> exact rfl)
    case hs539 => kernel_rfl
    case hf539 => kernel_rfl
    case hr539 => kernel_rfl
    case hQ539 => exact fun _ _ _ h => h
    case hS539 => assumption
    case hy539 => (refine Or.inl ⟨by rfl, ?_⟩; intro w hSw; (try dsimp only at hSw); (try obtain ⟨z0, z1⟩ := hSw); go_simp; try with_reducible rfl)
    simp only [Act.put, List.setIfInBounds_toArray, List.set_cons_zero, List.set_cons_succ]
    refine wpAnyH_take (i := 10) (oi := ?oi548) (v := ?val548) ?hi548 ?hs548 ?hf548 ?hr548 ?hQ548 ?hy548 ?hS548 ?hrest548
    case hi548 => (simp only [List.getElem?_toArray, List.getElem?_cons_succ, List.getElem?_cons_zero] <;> exact rfl)
    case hs548 => kernel_rfl
    case hf548 => kernel_rfl
    case hr548 => kernel_rfl
    case hQ548 => exact fun _ _ _ h => h
    case hS548 => assumption
    case hy548 => (refine Or.inl ⟨by rfl, ?_⟩; intro w hSw; (try dsimp only at hSw); (try obtain ⟨z0, z1⟩ := hSw); go_simp; try with_reducible rfl)
    simp only [Act.put, List.setIfInBounds_toArray, List.set_cons_zero, List.set_cons_succ]
    refine wpAnyH_take (i := 11) (oi := ?oi557) (v := ?val557) ?hi557 ?hs557 ?hf557 ?hr557 ?hQ557 ?hy557 ?hS557 ?hrest557
    case hi557 => (simp only [List.getElem?_toArray, List.getElem?_cons_succ, List.getElem?_cons_zero] <;> exact rfl)
    case hs557 => kernel_rfl
    case hf557 => kernel_rfl
    case hr557 => kernel_rfl
    case hQ557 => exact fun _ _ _ h => h
    case hS557 => assumption
    case hy557 => (refine Or.inl ⟨by rfl, ?_⟩; intro w hSw; (try dsimp only at hSw); (try obtain ⟨z0, z1⟩ := hSw); go_simp; try with_reducible rfl)
    simp only [Act.put, List.setIfInBounds_toArray, List.set_cons_zero, List.set_cons_succ]
    refine wpAnyH_ready (rs := [9]) (by kernel_rfl) (by simp) ?_
    refine AllReadyH.cons rfl (fun K hK => ?_) AllReadyH.nil
    (go_simp; ((with_reducible refine (implNormal_any l A n c rs u _ (ER.out _ hV0) Hn.out hb Hz.out hs Hsy.out).mono ?_); rintro e y1 ⟨rfl, c1⟩; rw [Hx.out]; have hV1 := hV0.trans (c1.mono hV0.size)))
    refine hK.out _ _ (ES.out _ hV1) (fun hHeld2 => ?_)
    clear hK K hHeld
    have hHeld := hHeld2
    clear hHeld2
    first | simp only [Act.put, List.setIfInBounds_toArray, List.set_cons_zero, List.set_cons_succ] | skip
    refine wpAnyH_ready (rs := [12]) (by kernel_rfl) (by simp) ?_
    refine AllReadyH.cons rfl (fun K hK => ?_) AllReadyH.nil
    (go_simp; ((with_reducible refine (implNormal_any l A n c rs v _ (ER.out _ hV1) Hn.out hb Hz.out hv Hsy.out).mono ?_); rintro e y2 ⟨rfl, c2⟩; rw [Hy.out]; have hV2 := hV1.trans (c2.mono hV1.size)))
    refine hK.out _ _ (ES.out _ hV2) (fun hHeld2 => ?_)
    clear hK K hHeld
    have hHeld := hHeld2
    clear hHeld2
    first | simp only [Act.put, List.setIfInBounds_toArray, List.set_cons_zero, List.set_cons_succ] | skip
    refine wpAnyH_take (i := 13) (oi := ?oi582) (v := ?val582) ?hi582 ?hs582 ?hf582 ?hr582 ?hQ582 ?hy582 ?hS582 ?hrest582
    case hi582 => (simp only [List.getElem?_toArray, List.getElem?_cons_succ, List.getElem?_cons_zero] <;> exact rfl)
    case hs582 => kernel_rfl
    case hf582 => kernel_rfl
    case hr582 => kernel_rfl
    case hQ582 => exact fun _ _ _ h => h
    case hS582 => assumption
    case hy582 => (refine Or.inl ⟨by rfl, ?_⟩; intro w hSw; (try dsimp only at hSw); (try obtain ⟨z0, z1⟩ := hSw); go_simp; try with_reducible rfl)
    simp only [Act.put, List.setIfInBounds_toArray, List.set_cons_zero, List.set_cons_succ]
    refine wpAnyH_take (i := 14) (oi := ?oi591) (v := ?val591) ?hi591 ?hs591 ?hf591 ?hr591 ?hQ591 ?hy591 ?hS591 ?hrest591
    case hi591 => (simp only [List.getElem?_toArray, List.getElem?_cons_succ, List.getElem?_cons_zero] <;> exact rfl)
    case hs591 => kernel_rfl
    case hf591 => kernel_rfl
    case hr591 => kernel_rfl
    case hQ591 => exact fun _ _ _ h => h
    case hS591 => assumption
    case hy591 => (refine Or.inl ⟨by rfl, ?_⟩; intro w hSw; (try dsimp only at hSw); (try obtain ⟨z0, z1⟩ := hSw); go_simp; try with_reducible rfl)
    simp only [Act.put, List.setIfInBounds_toArray, List.set_cons_zero, List.set_cons_succ]
    refine wpAnyH_take (i := 15) (oi := ?oi600) (v := ?val600) ?hi600 ?hs600 ?hf600 ?hr600 ?hQ600 ?hy600 ?hS600 ?hrest600
    case hi600 => (simp only [List.getElem?_toArray, List.getElem?_cons_succ, List.getElem?_cons_zero] <;> exact rfl)
    case hs600 => kernel_rfl
    case hf600 => kernel_rfl
    case hr600 => kernel_rfl
    case hQ600 => exact fun _ _ _ h => h
    case hS600 => assumption
    case hy600 => (refine Or.inl ⟨by rfl, ?_⟩; intro w hSw; (try dsimp only at hSw); (try obtain ⟨z0, z1⟩ := hSw); go_simp; try with_reducible rfl)
    simp only [Act.put, List.setIfInBounds_toArray, List.set_cons_zero, List.set_cons_succ]
    refine wpAnyH_take (i := 16) (oi := ?oi609) (v := undef) ?hi609 ?hs609 ?hf609 ?hr609 ?hQ609 ?hy609 ?hS609 ?hrest609
    case hi609 => (simp only [List.getElem?_toArray, List.getElem?_cons_succ, List.getElem?_cons_zero] <;> exact rfl)
    case hs609 => kernel_rfl
    case hf609 => kernel_rfl
    case hr609 => kernel_rfl
    case hQ609 => exact fun _ _ _ h => h
    case hS609 => assumption
    case hy609 => exact Or.inr ⟨by rfl, rfl⟩
    simp only [Act.put, List.setIfInBounds_toArray, List.set_cons_zero, List.set_cons_succ]
    refine wpAnyH_take (i := 17) (oi := ?oi618) (v := undef) ?hi618 ?hs618 ?hf618 ?hr618 ?hQ618 ?hy618 ?hS618 ?hrest618
    case hi618 => (simp only [List.getElem?_toArray, List.getElem?_cons_succ, List.getElem?_cons_zero] <;> exact rfl)
    case hs618 => kernel_rfl
    case hf618 => kernel_rfl
    case hr618 => kernel_rfl
    case hQ618 => exact fun _ _ _ h => h
    case hS618 => assumption
    case hy618 => exact Or.inr ⟨by rfl, rfl⟩
    simp only [Act.put, List.setIfInBounds_toArray, List.set_cons_zero, List.set_cons_succ]
    refine wpAnyH_take (i := 18) (oi := ?oi627) (v := undef) ?hi627 ?hs627 ?hf627 ?hr627 ?hQ627 ?hy627 ?hS627 ?hrest627
    case hi627 => (simp only [List.getElem?_toArray, List.getElem?_cons_succ, List.getElem?_cons_zero] <;> exact rfl)
    case hs627 => kernel_rfl
    case hf627 => kernel_rfl
    case hr627 => kernel_rfl
    case hQ627 => exact fun _ _ _ h => h
    case hS627 => assumption
    case hy627 => exact Or.inr ⟨by rfl, rfl⟩
    simp only [Act.put, List.setIfInBounds_toArray, List.set_cons_zero, List.set_cons_succ]
    refine wpAnyH_take (i := 19) (oi := ?oi636) (v := undef) ?hi636 ?hs636 ?hf636 ?hr636 ?hQ636 ?hy636 ?hS636 ?hrest636
    case hi636 => (simp only [List.getElem?_toArray, List.getElem?_cons_succ, List.getElem?_cons_zero] <;> exact rfl)
    case hs636 => kernel_rfl
    case hf636 => kernel_rfl
    case hr636 => kernel_rfl
    case hQ636 => exact fun _ _ _ h => h
    case hS636 => assumption
    case hy636 => exact Or.inr ⟨by rfl, rfl⟩
    simp only [Act.put, List.setIfInBounds_toArray, List.set_cons_zero, List.set_cons_succ]
    refine wpAnyH_take (i := 20) (oi := ?oi645) (v := undef) ?hi645 ?hs645 ?hf645 ?hr645 ?hQ645 ?hy645 ?hS645 ?hrest645
    case hi645 => (simp only [List.getElem?_toArray, List.getElem?_cons_succ, List.getElem?_cons_zero] <;> exact rfl)
    case hs645 => kernel_rfl
    case hf645 => kernel_rfl
    case hr645 => kernel_rfl
    case hQ645 => exact fun _ _ _ h => h
    case hS645 => assumption
    case hy645 => exact Or.inr ⟨by rfl, rfl⟩
    simp only [Act.put, List.setIfInBounds_toArray, List.set_cons_zero, List.set_cons_succ]
    refine wpAnyH_take (i := 21) (oi := ?oi654) (v := undef) ?hi654 ?hs654 ?hf654 ?hr654 ?hQ654 ?hy654 ?hS654 ?hrest654
    case hi654 => (simp only [List.getElem?_toArray, List.getElem?_cons_succ, List.getElem?_cons_zero] <;> exact rfl)
    case hs654 => kernel_rfl
    case hf654 => kernel_rfl
    case hr654 => kernel_rfl
    case hQ654 => exact fun _ _ _ h => h
    case hS654 => assumption
    case hy654 => exact Or.inr ⟨by rfl, rfl⟩
    simp only [Act.put, List.setIfInBounds_toArray, List.set_cons_zero, List.set_cons_succ]
    refine wpAnyH_take (i := 22) (oi := ?oi663) (v := ?val663) ?hi663 ?hs663 ?hf663 ?hr663 ?hQ663 ?hy663 ?hS663 ?hrest663
    case hi663 => (simp only [List.getElem?_toArray, List.getElem?_cons_succ, List.getElem?_cons_zero] <;> exact rfl)
    case hs663 => kernel_rfl
    case hf663 => kernel_rfl
    case hr663 => kernel_rfl
    case hQ663 => exact fun _ _ _ h => h
    case hS663 => assumption
    case hy663 => (refine Or.inl ⟨by rfl, ?_⟩; intro w hSw; (try dsimp only at hSw); (try obtain ⟨z0, z1⟩ := hSw); go_simp; try with_reducible rfl)
    simp only [Act.put, List.setIfInBounds_toArray, List.set_cons_zero, List.set_cons_succ]
    refine wpAnyH_done (by kernel_rfl) ?_ _
    go_wp2_with fail
    go_ret2
    rw [E0.out, E1.out]
    exact ⟨none, 0, rfl, World.ownsRow_nil _ _ _ _, hW2.trans (hV2.mono hW2.size)⟩
  · by_cases h200 : m1 + m2 ≤ 200
    rotate_left
    · have e0 : pfOk l rs u v = false := by rw [Hpo.out, hq, decide_eq_false h200]; rfl
      have e1 : pfL l rs u v = [] := by rw [pfL, e0]; rfl
      have h200' : (200 : Int) < (m1 : Int) + (m2 : Int) := by omega
      have E0 := Lib.hid e0
      clear e0
      have E1 := Lib.hid e1
      clear e1
      go_wp2_with fail
      refine wp_region_held_drew (S := (fun W => W.cell? ⟨w.heap.size, 0, none⟩ = some (.int .i64 l) ∧ W.cell? ⟨w.heap.size, 1, none⟩ = some (.slice A n c))) (by kernel_rfl) (ZS.out) (fun hHeld => ?_)
      refine wpAnyH_take (i := 0) (oi := ?oi688) (v := ?val688) ?hi688 ?hs688 ?hf688 ?hr688 ?hQ688 ?hy688 ?hS688 ?hrest688
      case hi688 => (simp only [List.getElem?_toArray, List.getElem?_cons_succ, List.getElem?_cons_zero] <;> exact rfl)
      case hs688 => kernel_rfl
      case hf688 => kernel_rfl
      case hr688 => kernel_rfl
      case hQ688 => exact fun _ _ _ h => h
      case hS688 => assumption
      case hy688 => (refine Or.inl ⟨by rfl, ?_⟩; intro w hSw; (try dsimp only at hSw); (try obtain ⟨z0, z1⟩ := hSw); go_simp; try with_reducible rfl)
      simp only [Act.put, List.setIfInBounds_toArray, List.set_cons_zero, List.set_cons_succ]
      refine wpAnyH_take (i := 1) (oi := ?oi697) (v := ?val697) ?hi697 ?hs697 ?hf697 ?hr697 ?hQ697 ?hy697 ?hS697 ?hrest697
      case hi697 => (simp only [List.getElem?_toArray, List.getElem?_cons_succ, List.getElem?_cons_zero] <;> exact rfl)
      case hs697 => kernel_rfl
      case hf697 => kernel_rfl
      case hr697 => kernel_rfl
      case hQ697 => exact fun _ _ _ h => h
      case hS697 => assumption
      case hy697 => (refine Or.inl ⟨by rfl, ?_⟩; intro w hSw; (try dsimp only at hSw); (try obtain ⟨z0, z1⟩ := hSw); go_simp; try with_reducible rfl)
      simp only [Act.put, List.setIfInBounds_toArray, List.set_cons_zero, List.set_cons_succ]
      refine wpAnyH_take (i := 2) (oi := ?oi706) (v := ?val706) ?hi706 ?hs706 ?hf706 ?hr706 ?hQ706 ?hy706 ?hS706 ?hrest706
      case hi706 => (simp only [List.getElem?_toArray, List.getElem?_cons_succ, List.getElem?_cons_zero] <;> exact rfl)
      case hs706 => kernel_rfl
      case hf706 => kernel_rfl
      case hr706 => kernel_rfl
      case hQ706 => exact fun _ _ _ h => h
      case hS706 => assumption
      case hy706 => (refine Or.inl ⟨by rfl, ?_⟩; intro w hSw; (try dsimp only at hSw); (try obtain ⟨z0, z1⟩ := hSw); go_simp; try with_reducible rfl)
      simp only [Act.put, List.setIfInBounds_toArray, List.set_cons_zero, List.set_cons_succ]
      refine wpAnyH_take (i := 3) (oi := ?oi715) (v := ?val715) ?hi715 ?hs715 ?hf715 ?hr715 ?hQ715 ?hy715 ?hS715 ?hrest715
      case hi715 => (simp only [List.getElem?_toArray, List.getElem?_cons_succ, List.getElem?_cons_zero] <;> exact rfl)
      case hs715 => kernel_rfl
      case hf715 => kernel_rfl
      case hr715 => kernel_rfl
      case hQ715 => exact fun _ _ _ h => h
      case hS715 => assumption
      case hy715 => (refine Or.inl ⟨by rfl, ?_⟩; intro w hSw; (try dsimp only at hSw); (try obtain ⟨z0, z1⟩ := hSw); go_simp; try with_reducible rfl)
      simp only [Act.put, List.setIfInBounds_toArray, List.set_cons_zero, List.set_cons_succ]
      refine wpAnyH_take (i := 4) (oi := ?oi724) (v := ?val724) ?hi724 ?hs724 ?hf724 ?hr724 ?hQ724 ?hy724 ?hS724 ?hrest724
      case hi724 => (simp only [List.getElem?_toArray, List.getElem?_cons_succ, List.getElem?_cons_zero] <;> exact rfl)
      case hs724 => kernel_rfl
      case hf724 => kernel_rfl
      case hr724 => kernel_rfl
      case hQ724 => exact fun _ _ _ h => h
      case hS724 => assumption
      case hy724 => (refine Or.inl ⟨by rfl, ?_⟩; intro w hSw; (try dsimp only at hSw); (try obtain ⟨z0, z1⟩ := hSw); go_simp; try with_reducible rfl)
      simp only [Act.put, List.setIfInBounds_toArray, List.set_cons_zero, List.set_cons_succ]
      refine wpAnyH_take (i := 5) (oi := ?oi733) (v := ?val733) ?hi733 ?hs733 ?hf733 ?hr733 ?hQ733 ?hy733 ?hS733 ?hrest733
      case hi733 => (simp only [List.getElem?_toArray, List.getElem?_cons_succ, List.getElem?_cons_zero] <;> exact rfl)
      case hs733 => kernel_rfl
      case hf733 => kernel_rfl
      case hr733 => kernel_rfl
      case hQ733 => exact fun _ _ _ h => h
      case hS733 => assumption
      case hy733 => (refine Or.inl ⟨by rfl, ?_⟩; intro w hSw; (try dsimp only at hSw); (try obtain ⟨z0, z1⟩ := hSw); go_simp; try with_reducible rfl)
      simp only [Act.put, List.setIfInBounds_toArray, List.set_cons_zero, List.set_cons_succ]
      refine wpAnyH_take (i := 6) (oi := ?oi742) (v := ?val742) ?hi742 ?hs742 ?hf742 ?hr742 ?hQ742 ?hy742 ?hS742 ?hrest742
      case hi742 => (simp only [List.getElem?_toArray, List.getElem?_cons_succ, List.getElem?_cons_zero] <;> exact rfl)
      case hs742 => kernel_rfl
      case hf742 => kernel_rfl
      case hr742 => kernel_rfl
      case hQ742 => exact fun _ _ _ h => h
      case hS742 => assumption
      case hy742 => (refine Or.inl ⟨by rfl, ?_⟩; intro w hSw; (try dsimp only at hSw); (try obtain ⟨z0, z1⟩ := hSw); go_simp; try with_reducible rfl)
      simp only [Act.put, List.setIfInBounds_toArray, List.set_cons_zero, List.set_cons_succ]
      refine wpAnyH_take (i := 7) (oi := ?oi751) (v := ?val751) ?hi751 ?hs751 ?hf751 ?hr751 ?hQ751 ?hy751 ?hS751 ?hrest751
      case hi751 => (simp only [List.getElem?_toArray, List.getElem?_cons_succ, List.getElem?_cons_zero] <;> exact rfl)
      case hs751 => kernel_rfl
      case hf751 => kernel_rfl
      case hr751 => kernel_rfl
      case hQ751 => exact fun _ _ _ h => h
      case hS751 => assumption
      case hy751 => (refine Or.inl ⟨by rfl, ?_⟩; intro w hSw; (try dsimp only at hSw); (try obtain ⟨z0, z1⟩ := hSw); go_simp; try with_reducible rfl)
      simp only [Act.put, List.setIfInBounds_toArray, List.set_cons_zero, List.set_cons_succ]
      refine wpAnyH_take (i := 8) (oi := ?oi760) (v := ?val760) ?hi760 ?hs760 ?hf760 ?hr760 ?hQ760 ?hy760 ?hS760 ?hrest760
      case hi760 => (simp only [List.getElem?_toArray, List.getElem?_cons_succ, List.getElem?_cons_zero] <;> exact rfl)
      case hs760 => kernel_rfl
      case hf760 => kernel_rfl
      case hr760 => kernel_rfl
      case hQ760 => exact fun _ _ _ h => h
      case hS760 => assumption
      case hy760 => (refine Or.inl ⟨by rfl, ?_⟩; intro w hSw; (try dsimp only at hSw); (try obtain ⟨z0, z1⟩ := hSw); go_simp; try with_reducible rfl)
      simp only [Act.put, List.setIfInBounds_toArray, List.set_cons_zero, List.set_cons_succ]
      refine wpAnyH_take (i := 10) (oi := ?oi769) (v := ?val769) ?hi769 ?hs769 ?hf769 ?hr769 ?hQ769 ?hy769 ?hS769 ?hrest769
      case hi769 => (simp only [List.getElem?_toArray, List.getElem?_cons_succ, List.getElem?_cons_zero] <;> exact rfl)
      case hs769 => kernel_rfl
      case hf769 => kernel_rfl
      case hr769 => kernel_rfl
      case hQ769 => exact fun _ _ _ h => h
      case hS769 => assumption
      case hy769 => (refine Or.inl ⟨by rfl, ?_⟩; intro w hSw; (try dsimp only at hSw); (try obtain ⟨z0, z1⟩ := hSw); go_simp; try with_reducible rfl)
      simp only [Act.put, List.setIfInBounds_toArray, List.set_cons_zero, List.set_cons_succ]
      refine wpAnyH_take (i := 11) (oi := ?oi778) (v := ?val778) ?hi778 ?hs778 ?hf778 ?hr778 ?hQ778 ?hy778 ?hS778 ?hrest778
      case hi778 => (simp only [List.getElem?_toArray, List.getElem?_cons_succ, List.getElem?_cons_zero] <;> exact rfl)
      case hs778 => kernel_rfl
      case hf778 => kernel_rfl
      case hr778 => kernel_rfl
      case hQ778 => exact fun _ _ _ h => h
      case hS778 => assumption
      case hy778 => (refine Or.inl ⟨by rfl, ?_⟩; intro w hSw; (try dsimp only at hSw); (try obtain ⟨z0, z1⟩ := hSw); go_simp; try with_reducible rfl)
      simp only [Act.put, List.setIfInBounds_toArray, List.set_cons_zero, List.set_cons_succ]
      refine wpAnyH_ready (rs := [9]) (by kernel_rfl) (by simp) ?_
      refine AllReadyH.cons rfl (fun K hK => ?_) AllReadyH.nil
      (go_simp; ((with_reducible refine (implNormal_any l A n c rs u _ (ER.out _ hV0) Hn.out hb Hz.out hs Hsy.out).mono ?_); rintro e y1 ⟨rfl, c1⟩; rw [Hx.out]; have hV1 := hV0.trans (c1.mono hV0.size)))
      refine hK.out _ _ (ES.out _ hV1) (fun hHeld2 => ?_)
      clear hK K hHeld
      have hHeld := hHeld2
      clear hHeld2
      first | simp only [Act.put, List.setIfInBounds_toArray, List.set_cons_zero, List.set_cons_succ] | skip
      refine wpAnyH_ready (rs := [12]) (by kernel_rfl) (by simp) ?_
      refine AllReadyH.cons rfl (fun K hK => ?_) AllReadyH.nil
      (go_simp; ((with_reducible refine (implNormal_any l A n c rs v _ (ER.out _ hV1) Hn.out hb Hz.out hv Hsy.out).mono ?_); rintro e y2 ⟨rfl, c2⟩; rw [Hy.out]; have hV2 := hV1.trans (c2.mono hV1.size)))
      refine hK.out _ _ (ES.out _ hV2) (fun hHeld2 => ?_)
      clear hK K hHeld
      have hHeld := hHeld2
      clear hHeld2
      first | simp only [Act.put, List.setIfInBounds_toArray, List.set_cons_zero, List.set_cons_succ] | skip
      refine wpAnyH_take (i := 13) (oi := ?oi803) (v := ?val803) ?hi803 ?hs803 ?hf803 ?hr803 ?hQ803 ?hy803 ?hS803 ?hrest803
      case hi803 => (simp only [List.getElem?_toArray, List.getElem?_cons_succ, List.getElem?_cons_zero] <;> exact rfl)
      case hs803 => kernel_rfl
      case hf803 => kernel_rfl
      case hr803 => kernel_rfl
      case hQ803 => exact fun _ _ _ h => h
      case hS803 => assumption
      case hy803 => (refine Or.inl ⟨by rfl, ?_⟩; intro w hSw; (try dsimp only at hSw); (try obtain ⟨z0, z1⟩ := hSw); go_simp; try with_reducible rfl)
      simp only [Act.put, List.setIfInBounds_toArray, List.set_cons_zero, List.set_cons_succ]
      refine wpAnyH_take (i := 14) (oi := ?oi812) (v := ?val812) ?hi812 ?hs812 ?hf812 ?hr812 ?hQ812 ?hy812 ?hS812 ?hrest812
      case hi812 => (simp only [List.getElem?_toArray, List.getElem?_cons_succ, List.getElem?_cons_zero] <;> exact rfl)
      case hs812 => kernel_rfl
      case hf812 => kernel_rfl
      case hr812 => kernel_rfl
      case hQ812 => exact fun _ _ _ h => h
      case hS812 => assumption
      case hy812 => (refine Or.inl ⟨by rfl, ?_⟩; intro w hSw; (try dsimp only at hSw); (try obtain ⟨z0, z1⟩ := hSw); go_simp; try with_reducible rfl)
      simp only [Act.put, List.setIfInBounds_toArray, List.set_cons_zero, List.set_cons_succ]
      refine wpAnyH_take (i := 15) (oi := ?oi821) (v := ?val821) ?hi821 ?hs821 ?hf821 ?hr821 ?hQ821 ?hy821 ?hS821 ?hrest821
      case hi821 => (simp only [List.getElem?_toArray, List.getElem?_cons_succ, List.getElem?_cons_zero] <;> exact rfl)
      case hs821 => kernel_rfl
      case hf821 => kernel_rfl
      case hr821 => kernel_rfl
      case hQ821 => exact fun _ _ _ h => h
      case hS821 => assumption
      case hy821 => (refine Or.inl ⟨by rfl, ?_⟩; intro w hSw; (try dsimp only at hSw); (try obtain ⟨z0, z1⟩ := hSw); go_simp; try with_reducible rfl)
      simp only [Act.put, List.setIfInBounds_toArray, List.set_cons_zero, List.set_cons_succ]
      refine wpAnyH_take (i := 16) (oi := ?oi830) (v := ?val830) ?hi830 ?hs830 ?hf830 ?hr830 ?hQ830 ?hy830 ?hS830 ?hrest830
      case hi830 => (simp only [List.getElem?_toArray, List.getElem?_cons_succ, List.getElem?_cons_zero] <;> exact rfl)
      case hs830 => kernel_rfl
      case hf830 => kernel_rfl
      case hr830 => kernel_rfl
      case hQ830 => exact fun _ _ _ h => h
      case hS830 => assumption
      case hy830 => (refine Or.inl ⟨by rfl, ?_⟩; intro w hSw; (try dsimp only at hSw); (try obtain ⟨z0, z1⟩ := hSw); go_simp; try with_reducible rfl)
      simp only [Act.put, List.setIfInBounds_toArray, List.set_cons_zero, List.set_cons_succ]
      refine wpAnyH_take (i := 17) (oi := ?oi839) (v := ?val839) ?hi839 ?hs839 ?hf839 ?hr839 ?hQ839 ?hy839 ?hS839 ?hrest839
      case hi839 => (simp only [List.getElem?_toArray, List.getElem?_cons_succ, List.getElem?_cons_zero] <;> exact rfl)
      case hs839 => kernel_rfl
      case hf839 => kernel_rfl
      case hr839 => kernel_rfl
      case hQ839 => exact fun _ _ _ h => h
      case hS839 => assumption
      case hy839 => (refine Or.inl ⟨by rfl, ?_⟩; intro w hSw; (try dsimp only at hSw); (try obtain ⟨z0, z1⟩ := hSw); go_simp; try with_reducible rfl)
      simp only [Act.put, List.setIfInBounds_toArray, List.set_cons_zero, List.set_cons_succ]
      refine wpAnyH_take (i := 18) (oi := ?oi848) (v := ?val848) ?hi848 ?hs848 ?hf848 ?hr848 ?hQ848 ?hy848 ?hS848 ?hrest848
      case hi848 => (simp only [List.getElem?_toArray, List.getElem?_cons_succ, List.getElem?_cons_zero] <;> exact rfl)
      case hs848 => kernel_rfl
      case hf848 => kernel_rfl
      case hr848 => kernel_rfl
      case hQ848 => exact fun _ _ _ h => h
      case hS848 => assumption
      case hy848 => (refine Or.inl ⟨by rfl, ?_⟩; intro w hSw; (try dsimp only at hSw); (try obtain ⟨z0, z1⟩ := hSw); go_simp; try with_reducible rfl)
      simp only [Act.put, List.setIfInBounds_toArray, List.set_cons_zero, List.set_cons_succ]
      refine wpAnyH_take (i := 19) (oi := ?oi857) (v := ?val857) ?hi857 ?hs857 ?hf857 ?hr857 ?hQ857 ?hy857 ?hS857 ?hrest857
      case hi857 => (simp only [List.getElem?_toArray, List.getElem?_cons_succ, List.getElem?_cons_zero] <;> exact rfl)
      case hs857 => kernel_rfl
      case hf857 => kernel_rfl
      case hr857 => kernel_rfl
      case hQ857 => exact fun _ _ _ h => h
      case hS857 => assumption
      case hy857 => (refine Or.inl ⟨by rfl, ?_⟩; intro w hSw; (try dsimp only at hSw); (try obtain ⟨z0, z1⟩ := hSw); go_simp; try with_reducible rfl)
      simp only [Act.put, List.setIfInBounds_toArray, List.set_cons_zero, List.set_cons_succ]
      refine wpAnyH_take (i := 20) (oi := ?oi866) (v := ?val866) ?hi866 ?hs866 ?hf866 ?hr866 ?hQ866 ?hy866 ?hS866 ?hrest866
      case hi866 => (simp only [List.getElem?_toArray, List.getElem?_cons_succ, List.getElem?_cons_zero] <;> exact rfl)
      case hs866 => kernel_rfl
      case hf866 => kernel_rfl
      case hr866 => kernel_rfl
      case hQ866 => exact fun _ _ _ h => h
      case hS866 => assumption
      case hy866 => (refine Or.inl ⟨by rfl, ?_⟩; intro w hSw; (try dsimp only at hSw); (try obtain ⟨z0, z1⟩ := hSw); go_simp; try with_reducible rfl)
      simp only [Act.put, List.setIfInBounds_toArray, List.set_cons_zero, List.set_cons_succ]
      refine wpAnyH_take (i := 21) (oi := ?oi875) (v := ?val875) ?hi875 ?hs875 ?hf875 ?hr875 ?hQ875 ?hy875 ?hS875 ?hrest875
      case hi875 => (simp only [List.getElem?_toArray, List.getElem?_cons_succ, List.getElem?_cons_zero] <;> exact rfl)
      case hs875 => kernel_rfl
      case hf875 => kernel_rfl
      case hr875 => kernel_rfl
      case hQ875 => exact fun _ _ _ h => h
      case hS875 => assumption
      case hy875 => (refine Or.inl ⟨by rfl, ?_⟩; intro w hSw; (try dsimp only at hSw); (try obtain ⟨z0, z1⟩ := hSw); go_simp; try with_reducible rfl)
      simp only [Act.put, List.setIfInBounds_toArray, List.set_cons_zero, List.set_cons_succ]
      refine wpAnyH_take (i := 22) (oi := ?oi884) (v := ?val884) ?hi884 ?hs884 ?hf884 ?hr884 ?hQ884 ?hy884 ?hS884 ?hrest884
      case hi884 => (simp only [List.getElem?_toArray, List.getElem?_cons_succ, List.getElem?_cons_zero] <;> exact rfl)
      case hs884 => kernel_rfl
      case hf884 => kernel_rfl
      case hr884 => kernel_rfl
      case hQ884 => exact fun _ _ _ h => h
      case hS884 => assumption
      case hy884 => (refine Or.inl ⟨by rfl, ?_⟩; intro w hSw; (try dsimp only at hSw); (try obtain ⟨z0, z1⟩ := hSw); go_simp; try with_reducible rfl)
      simp only [Act.put, List.setIfInBounds_toArray, List.set_cons_zero, List.set_cons_succ]
      refine wpAnyH_done (by kernel_rfl) ?_ _
      go_wp2_with fail
      go_ret2
      rw [E0.out, E1.out]
      exact ⟨none, 0, rfl, World.ownsRow_nil _ _ _ _, hW2.trans (hV2.mono hW2.size)⟩
    · have e0 : pfOk l rs u v = true := by rw [Hpo.out, hq, decide_eq_true h200]; rfl
      have e1 : pfL l rs u v = X.map (linkOf false) ++ Y.reverse.map (linkOf true) := by rw [pfL, e0, HX.out, HY.out]; rfl
      have h200' : ¬ (200 : Int) < (m1 : Int) + (m2 : Int) := by omega
      have E0 := Lib.hid e0
      clear e0
      have E1 := Lib.hid e1
      clear e1
      go_wp2_with fail
      refine wp_region_held_drew (S := (fun W => W.cell? ⟨w.heap.size, 0, none⟩ = some (.int .i64 l) ∧ W.cell? ⟨w.heap.size, 1, none⟩ = some (.slice A n c))) (by kernel_rfl) (ZS.out) (fun hHeld => ?_)
      refine wpAnyH_take (i := 0) (oi := ?oi907) (v := ?val907) ?hi907 ?hs907 ?hf907 ?hr907 ?hQ907 ?hy907 ?hS907 ?hrest907
      case hi907 => (simp only [List.getElem?_toArray, List.getElem?_cons_succ, List.getElem?_cons_zero] <;> exact rfl)
      case hs907 => kernel_rfl
      case hf907 => kernel_rfl
      case hr907 => kernel_rfl
      case hQ907 => exact fun _ _ _ h => h
      case hS907 => assumption
      case hy907 => (refine Or.inl ⟨by rfl, ?_⟩; intro w hSw; (try dsimp only at hSw); (try obtain ⟨z0, z1⟩ := hSw); go_simp; try with_reducible rfl)
      simp only [Act.put, List.setIfInBounds_toArray, List.set_cons_zero, List.set_cons_succ]
      refine wpAnyH_take (i := 1) (oi := ?oi916) (v := ?val916) ?hi916 ?hs916 ?hf916 ?hr916 ?hQ916 ?hy916 ?hS916 ?hrest916
      case hi916 => (simp only [List.getElem?_toArray, List.getElem?_cons_succ, List.getElem?_cons_zero] <;> exact rfl)
      case hs916 => kernel_rfl
      case hf916 => kernel_rfl
      case hr916 => kernel_rfl
      case hQ916 => exact fun _ _ _ h => h
      case hS916 => assumption
      case hy916 => (refine Or.inl ⟨by rfl, ?_⟩; intro w hSw; (try dsimp only at hSw); (try obtain ⟨z0, z1⟩ := hSw); go_simp; try with_reducible rfl)
      simp only [Act.put, List.setIfInBounds_toArray, List.set_cons_zero, List.set_cons_succ]
      refine wpAnyH_take (i := 2) (oi := ?oi925) (v := ?val925) ?hi925 ?hs925 ?hf925 ?hr925 ?hQ925 ?hy925 ?hS925 ?hrest925
      case hi925 => (simp only [List.getElem?_toArray, List.getElem?_cons_succ, List.getElem?_cons_zero] <;> exact rfl)
      case hs925 => kernel_rfl
      case hf925 => kernel_rfl
      case hr925 => kernel_rfl
      case hQ925 => exact fun _ _ _ h => h
      case hS925 => assumption
      case hy925 => (refine Or.inl ⟨by rfl, ?_⟩; intro w hSw; (try dsimp only at hSw); (try obtain ⟨z0, z1⟩ := hSw); go_simp; try with_reducible rfl)
      simp only [Act.put, List.setIfInBounds_toArray, List.set_cons_zero, List.set_cons_succ]
      refine wpAnyH_take (i := 3) (oi := ?oi934) (v := ?val934) ?hi934 ?hs934 ?hf934 ?hr934 ?hQ934 ?hy934 ?hS934 ?hrest934
      case hi934 => (simp only [List.getElem?_toArray, List.getElem?_cons_succ, List.getElem?_cons_zero] <;> exact rfl)
      case hs934 => kernel_rfl
      case hf934 => kernel_rfl
      case hr934 => kernel_rfl
      case hQ934 => exact fun _ _ _ h => h
      case hS934 => assumption
      case hy934 => (refine Or.inl ⟨by rfl, ?_⟩; intro w hSw; (try dsimp only at hSw); (try obtain ⟨z0, z1⟩ := hSw); go_simp; try with_reducible rfl)
      simp only [Act.put, List.setIfInBounds_toArray, List.set_cons_zero, List.set_cons_succ]
      refine wpAnyH_take (i := 4) (oi := ?oi943) (v := ?val943) ?hi943 ?hs943 ?hf943 ?hr943 ?hQ943 ?hy943 ?hS943 ?hrest943
      case hi943 => (simp only [List.getElem?_toArray, List.getElem?_cons_succ, List.getElem?_cons_zero] <;> exact rfl)
      case hs943 => kernel_rfl
      case hf943 => kernel_rfl
      case hr943 => kernel_rfl
      case hQ943 => exact fun _ _ _ h => h
      case hS943 => assumption
      case hy943 => (refine Or.inl ⟨by rfl, ?_⟩; intro w hSw; (try dsimp only at hSw); (try obtain ⟨z0, z1⟩ := hSw); go_simp; try with_reducible rfl)
      simp only [Act.put, List.setIfInBounds_toArray, List.set_cons_zero, List.set_cons_succ]
      refine wpAnyH_take (i := 5) (oi := ?oi952) (v := ?val952) ?hi952 ?hs952 ?hf952 ?hr952 ?hQ952 ?hy952 ?hS952 ?hrest952
      case hi952 => (simp only [List.getElem?_toArray, List.getElem?_cons_succ, List.getElem?_cons_zero] <;> exact rfl)
      case hs952 => kernel_rfl
      case hf952 => kernel_rfl
      case hr952 => kernel_rfl
      case hQ952 => exact fun _ _ _ h => h
      case hS952 => assumption
      case hy952 => (refine Or.inl ⟨by rfl, ?_⟩; intro w hSw; (try dsimp only at hSw); (try obtain ⟨z0, z1⟩ := hSw); go_simp; try with_reducible rfl)
      simp only [Act.put, List.setIfInBounds_toArray, List.set_cons_zero, List.set_cons_succ]
      refine wpAnyH_take (i := 6) (oi := ?oi961) (v := ?val961) ?hi961 ?hs961 ?hf961 ?hr961 ?hQ961 ?hy961 ?hS961 ?hrest961
      case hi961 => (simp only [List.getElem?_toArray, List.getElem?_cons_succ, List.getElem?_cons_zero] <;> exact rfl)
      case hs961 => kernel_rfl
      case hf961 => kernel_rfl
      case hr961 => kernel_rfl
      case hQ961 => exact fun _ _ _ h => h
      case hS961 => assumption
      case hy961 => (refine Or.inl ⟨by rfl, ?_⟩; intro w hSw; (try dsimp only at hSw); (try obtain ⟨z0, z1⟩ := hSw); go_simp; try with_reducible rfl)
      simp only [Act.put, List.setIfInBounds_toArray, List.set_cons_zero, List.set_cons_succ]
      refine wpAnyH_take (i := 7) (oi := ?oi970) (v := ?val970) ?hi970 ?hs970 ?hf970 ?hr970 ?hQ970 ?hy970 ?hS970 ?hrest970
      case hi970 => (simp only [List.getElem?_toArray, List.getElem?_cons_succ, List.getElem?_cons_zero] <;> exact rfl)
      case hs970 => kernel_rfl
      case hf970 => kernel_rfl
      case hr970 => kernel_rfl
      case hQ970 => exact fun _ _ _ h => h
      case hS970 => assumption
      case hy970 => (refine Or.inl ⟨by rfl, ?_⟩; intro w hSw; (try dsimp only at hSw); (try obtain ⟨z0, z1⟩ := hSw); go_simp; try with_reducible rfl)
      simp only [Act.put, List.setIfInBounds_toArray, List.set_cons_zero, List.set_cons_succ]
      refine wpAnyH_take (i := 8) (oi := ?oi979) (v := ?val979) ?hi979 ?hs979 ?hf979 ?hr979 ?hQ979 ?hy979 ?hS979 ?hrest979
      case hi979 => (simp only [List.getElem?_toArray, List.getElem?_cons_succ, List.getElem?_cons_zero] <;> exact rfl)
      case hs979 => kernel_rfl
      case hf979 => kernel_rfl
      case hr979 => kernel_rfl
      case hQ979 => exact fun _ _ _ h => h
      case hS979 => assumption
      case hy979 => (refine Or.inl ⟨by rfl, ?_⟩; intro w hSw; (try dsimp only at hSw); (try obtain ⟨z0, z1⟩ := hSw); go_simp; try with_reducible rfl)
      simp only [Act.put, List.setIfInBounds_toArray, List.set_cons_zero, List.set_cons_succ]
      refine wpAnyH_take (i := 10) (oi := ?oi988) (v := ?val988) ?hi988 ?hs988 ?hf988 ?hr988 ?hQ988 ?hy988 ?hS988 ?hrest988
      case hi988 => (simp only [List.getElem?_toArray, List.getElem?_cons_succ, List.getElem?_cons_zero] <;> exact rfl)
      case hs988 => kernel_rfl
      case hf988 => kernel_rfl
      case hr988 => kernel_rfl
      case hQ988 => exact fun _ _ _ h => h
      case hS988 => assumption
      case hy988 => (refine Or.inl ⟨by rfl, ?_⟩; intro w hSw; (try dsimp only at hSw); (try obtain ⟨z0, z1⟩ := hSw); go_simp; try with_reducible rfl)
      simp only [Act.put, List.setIfInBounds_toArray, List.set_cons_zero, List.set_cons_succ]
      refine wpAnyH_take (i := 11) (oi := ?oi997) (v := ?val997) ?hi997 ?hs997 ?hf997 ?hr997 ?hQ997 ?hy997 ?hS997 ?hrest997
      case hi997 => (simp only [List.getElem?_toArray, List.getElem?_cons_succ, List.getElem?_cons_zero] <;> exact rfl)
      case hs997 => kernel_rfl
      case hf997 => kernel_rfl
      case hr997 => kernel_rfl
      case hQ997 => exact fun _ _ _ h => h
      case hS997 => assumption
      case hy997 => (refine Or.inl ⟨by rfl, ?_⟩; intro w hSw; (try dsimp only at hSw); (try obtain ⟨z0, z1⟩ := hSw); go_simp; try with_reducible rfl)
      simp only [Act.put, List.setIfInBounds_toArray, List.set_cons_zero, List.set_cons_succ]
      refine wpAnyH_ready (rs := [9]) (by kernel_rfl) (by simp) ?_
      refine AllReadyH.cons rfl (fun K hK => ?_) AllReadyH.nil
      (go_simp; ((with_reducible refine (implNormal_any l A n c rs u _ (ER.out _ hV0) Hn.out hb Hz.out hs Hsy.out).mono ?_); rintro e y1 ⟨rfl, c1⟩; rw [Hx.out]; have hV1 := hV0.trans (c1.mono hV0.size)))
      refine hK.out _ _ (ES.out _ hV1) (fun hHeld2 => ?_)
      clear hK K hHeld
      have hHeld := hHeld2
      clear hHeld2
      first | simp only [Act.put, List.setIfInBounds_toArray, List.set_cons_zero, List.set_cons_succ] | skip
      refine wpAnyH_ready (rs := [12]) (by kernel_rfl) (by simp) ?_
      refine AllReadyH.cons rfl (fun K hK => ?_) AllReadyH.nil
      (go_simp; ((with_reducible refine (implNormal_any l A n c rs v _ (ER.out _ hV1) Hn.out hb Hz.out hv Hsy.out).mono ?_); rintro e y2 ⟨rfl, c2⟩; rw [Hy.out]; have hV2 := hV1.trans (c2.mono hV1.size)))
      refine hK.out _ _ (ES.out _ hV2) (fun hHeld2 => ?_)
      clear hK K hHeld
      have hHeld := hHeld2
      clear hHeld2
      first | simp only [Act.put, List.setIfInBounds_toArray, List.set_cons_zero, List.set_cons_succ] | skip
      refine wpAnyH_take (i := 13) (oi := ?oi1022) (v := ?val1022) ?hi1022 ?hs1022 ?hf1022 ?hr1022 ?hQ1022 ?hy1022 ?hS1022 ?hrest1022
      case hi1022 => (simp only [List.getElem?_toArray, List.getElem?_cons_succ, List.getElem?_cons_zero] <;> exact rfl)
      case hs1022 => kernel_rfl
      case hf1022 => kernel_rfl
      case hr1022 => kernel_rfl
      case hQ1022 => exact fun _ _ _ h => h
      case hS1022 => assumption
      case hy1022 => (refine Or.inl ⟨by rfl, ?_⟩; intro w hSw; (try dsimp only at hSw); (try obtain ⟨z0, z1⟩ := hSw); go_simp; try with_reducible rfl)
      simp only [Act.put, List.setIfInBounds_toArray, List.set_cons_zero, List.set_cons_succ]
      refine wpAnyH_take (i := 14) (oi := ?oi1031) (v := ?val1031) ?hi1031 ?hs1031 ?hf1031 ?hr1031 ?hQ1031 ?hy1031 ?hS1031 ?hrest1031
      case hi1031 => (simp only [List.getElem?_toArray, List.getElem?_cons_succ, List.getElem?_cons_zero] <;> exact rfl)
      case hs1031 => kernel_rfl
      case hf1031 => kernel_rfl
      case hr1031 => kernel_rfl
      case hQ1031 => exact fun _ _ _ h => h
      case hS1031 => assumption
      case hy1031 => (refine Or.inl ⟨by rfl, ?_⟩; intro w hSw; (try dsimp only at hSw); (try obtain ⟨z0, z1⟩ := hSw); go_simp; try with_reducible rfl)
      simp only [Act.put, List.setIfInBounds_toArray, List.set_cons_zero, List.set_cons_succ]
      refine wpAnyH_take (i := 15) (oi := ?oi1040) (v := ?val1040) ?hi1040 ?hs1040 ?hf1040 ?hr1040 ?hQ1040 ?hy1040 ?hS1040 ?hrest1040
      case hi1040 => (simp only [List.getElem?_toArray, List.getElem?_cons_succ, List.getElem?_cons_zero] <;> exact rfl)
      case hs1040 => kernel_rfl
      case hf1040 => kernel_rfl
      case hr1040 => kernel_rfl
      case hQ1040 => exact fun _ _ _ h => h
      case hS1040 => assumption
      case hy1040 => (refine Or.inl ⟨by rfl, ?_⟩; intro w hSw; (try dsimp only at hSw); (try obtain ⟨z0, z1⟩ := hSw); go_simp; try with_reducible rfl)
      simp only [Act.put, List.setIfInBounds_toArray, List.set_cons_zero, List.set_cons_succ]
      refine wpAnyH_take (i := 16) (oi := ?oi1049) (v := ?val1049) ?hi1049 ?hs1049 ?hf1049 ?hr1049 ?hQ1049 ?hy1049 ?hS1049 ?hrest1049
      case hi1049 => (simp only [List.getElem?_toArray, List.getElem?_cons_succ, List.getElem?_cons_zero] <;> exact rfl)
      case hs1049 => kernel_rfl
      case hf1049 => kernel_rfl
      case hr1049 => kernel_rfl
      case hQ1049 => exact fun _ _ _ h => h
      case hS1049 => assumption
      case hy1049 => (refine Or.inl ⟨by rfl, ?_⟩; intro w hSw; (try dsimp only at hSw); (try obtain ⟨z0, z1⟩ := hSw); go_simp; try with_reducible rfl)
      simp only [Act.put, List.setIfInBounds_toArray, List.set_cons_zero, List.set_cons_succ]
      refine wpAnyH_take (i := 17) (oi := ?oi1058) (v := ?val1058) ?hi1058 ?hs1058 ?hf1058 ?hr1058 ?hQ1058 ?hy1058 ?hS1058 ?hrest1058
      case hi1058 => (simp only [List.getElem?_toArray, List.getElem?_cons_succ, List.getElem?_cons_zero] <;> exact rfl)
      case hs1058 => kernel_rfl
      case hf1058 => kernel_rfl
      case hr1058 => kernel_rfl
      case hQ1058 => exact fun _ _ _ h => h
      case hS1058 => assumption
      case hy1058 => (refine Or.inl ⟨by rfl, ?_⟩; intro w hSw; (try dsimp only at hSw); (try obtain ⟨z0, z1⟩ := hSw); go_simp; try with_reducible rfl)
      simp only [Act.put, List.setIfInBounds_toArray, List.set_cons_zero, List.set_cons_succ]
      refine wpAnyH_take (i := 18) (oi := ?oi1067) (v := ?val1067) ?hi1067 ?hs1067 ?hf1067 ?hr1067 ?hQ1067 ?hy1067 ?hS1067 ?hrest1067
      case hi1067 => (simp only [List.getElem?_toArray, List.getElem?_cons_succ, List.getElem?_cons_zero] <;> exact rfl)
      case hs1067 => kernel_rfl
      case hf1067 => kernel_rfl
      case hr1067 => kernel_rfl
      case hQ1067 => exact fun _ _ _ h => h
      case hS1067 => assumption
      case hy1067 => (refine Or.inl ⟨by rfl, ?_⟩; intro w hSw; (try dsimp only at hSw); (try obtain ⟨z0, z1⟩ := hSw); go_simp; try with_reducible rfl)
      simp only [Act.put, List.setIfInBounds_toArray, List.set_cons_zero, List.set_cons_succ]
      refine wpAnyH_take (i := 19) (oi := ?oi1076) (v := ?val1076) ?hi1076 ?hs1076 ?hf1076 ?hr1076 ?hQ1076 ?hy1076 ?hS1076 ?hrest1076
      case hi1076 => (simp only [List.getElem?_toArray, List.getElem?_cons_succ, List.getElem?_cons_zero] <;> exact rfl)
      case hs1076 => kernel_rfl
      case hf1076 => kernel_rfl
      case hr1076 => kernel_rfl
      case hQ1076 => exact fun _ _ _ h => h
      case hS1076 => assumption
      case hy1076 => (refine Or.inl ⟨by rfl, ?_⟩; intro w hSw; (try dsimp only at hSw); (try obtain ⟨z0, z1⟩ := hSw); go_simp; try with_reducible rfl)
      simp only [Act.put, List.setIfInBounds_toArray, List.set_cons_zero, List.set_cons_succ]
      refine wpAnyH_take (i := 20) (oi := ?oi1085) (v := ?val1085) ?hi1085 ?hs1085 ?hf1085 ?hr1085 ?hQ1085 ?hy1085 ?hS1085 ?hrest1085
      case hi1085 => (simp only [List.getElem?_toArray, List.getElem?_cons_succ, List.getElem?_cons_zero] <;> exact rfl)
      case hs1085 => kernel_rfl
      case hf1085 => kernel_rfl
      case hr1085 => kernel_rfl
      case hQ1085 => exact fun _ _ _ h => h
      case hS1085 => assumption
      case hy1085 => (refine Or.inl ⟨by rfl, ?_⟩; intro w hSw; (try dsimp only at hSw); (try obtain ⟨z0, z1⟩ := hSw); go_simp; try with_reducible rfl)
      simp only [Act.put, List.setIfInBounds_toArray, List.set_cons_zero, List.set_cons_succ]
      refine wpAnyH_take (i := 21) (oi := ?oi1094) (v := ?val1094) ?hi1094 ?hs1094 ?hf1094 ?hr1094 ?hQ1094 ?hy1094 ?hS1094 ?hrest1094
      case hi1094 => (simp only [List.getElem?_toArray, List.getElem?_cons_succ, List.getElem?_cons_zero] <;> exact rfl)
      case hs1094 => kernel_rfl
      case hf1094 => kernel_rfl
      case hr1094 => kernel_rfl
      case hQ1094 => exact fun _ _ _ h => h
      case hS1094 => assumption
      case hy1094 => (refine Or.inl ⟨by rfl, ?_⟩; intro w hSw; (try dsimp only at hSw); (try obtain ⟨z0, z1⟩ := hSw); go_simp; try with_reducible rfl)
      simp only [Act.put, List.setIfInBounds_toArray, List.set_cons_zero, List.set_cons_succ]
      refine wpAnyH_take (i := 22) (oi := ?oi1103) (v := ?val1103) ?hi1103 ?hs1103 ?hf1103 ?hr1103 ?hQ1103 ?hy1103 ?hS1103 ?hrest1103
      case hi1103 => (simp only [List.getElem?_toArray, List.getElem?_cons_succ, List.getElem?_cons_zero] <;> exact rfl)
      case hs1103 => kernel_rfl
      case hf1103 => kernel_rfl
      case hr1103 => kernel_rfl
      case hQ1103 => exact fun _ _ _ h => h
      case hS1103 => assumption
      case hy1103 => (refine Or.inl ⟨by rfl, ?_⟩; intro w hSw; (try dsimp only at hSw); (try obtain ⟨z0, z1⟩ := hSw); go_simp; try with_reducible rfl)
      simp only [Act.put, List.setIfInBounds_toArray, List.set_cons_zero, List.set_cons_succ]
      refine wpAnyH_done (by kernel_rfl) ?_ _
      have hW3 := hW2.trans (hV2.mono hW2.size)
      have r1 := (Rd.of_own HO12.out).keep hV2
      have r2 := (Rd.of_own HO2.out).keep hV2
      have hoN := World.ownsRow_nil y2 y2.heap.size 131 3
      clear hHeld HO12 HO2 ZS ES ER Hpo Hx Hy s0_2 s1_2 hV0 hV1 hV2 hW2 Hr Hz hb hs hv
      obtain ⟨g, hg⟩ : ∃ g, g = y2.heap.size := ⟨_, rfl⟩
      rw [← hg] at hoN
      have hgw : w.heap.size ≤ g := by rw [hg]; exact hW3.size
      have R1 := Lib.hid r1
      clear r1
      have R2 := Lib.hid r2
      clear r2
      have HoN := Lib.hid hoN
      clear hoN
      have HW3 := Lib.hid hW3
      clear hW3
      go_wp2_with fail
      go_loopw [12, 53] (fun v i wr => ∃ (j : Nat) (B : Option Addr) (d : Nat), j ≤ m1 ∧ i = .int .i64 j ∧ v = .slice B j d ∧ wr.ownsRow g 131 3 (.slice B j d) j (cellsLink ((X.take j).map (linkOf false))) ∧ Below g y2 wr) (fun _ i _ => m1 - (intOf i).toNat)
      case atStart => exact ⟨0, _, _, Nat.zero_le _, rfl, rfl, HoN.out, by rw [hg]; exact Below.refl _ _⟩
      case round =>
        obtain ⟨j, B, d, hj, rfl, rfl, hown, hZ⟩ := hrel
        have hgz := hZ.size
        by_cases hlt : j < m1
        · have hlt2 : j < X.length := by rw [← Hm1.out]; exact hlt
          obtain ⟨b, o, rfl, hbl, p0, p1⟩ := rd_Step (R1.out.keep (hg ▸ hZ)) hlt2
          have hT : (X.take (j + 1)).map (linkOf false) = (X.take j).map (linkOf false) ++ [linkOf false X[j]] := by rw [List.take_succ_eq_append_getElem hlt2, List.map_append]; rfl
          obtain ⟨⟨x0, x1⟩, hx⟩ : ∃ x, x = X[j] := ⟨_, rfl⟩
          rw [← hx] at p0 p1 hT
          dsimp only at p0 p1
          rw [show linkOf false (x0, x1) = (x0, x1, false) from rfl] at hT
          have hWa := hZ.alloc (by omega) (.cells #[.int .i64 x0, .int .i64 x1] 78)
          have hoa := own_keep hown ((Below.refl _ wr).alloc (Nat.le_refl _) (.cells #[.int .i64 x0, .int .i64 x1] 78)) (Nat.le_refl _)
          clear hown
          have Hx := Lib.hid hx
          clear hx
          have HT := Lib.hid hT
          clear hT
          have HWa := Lib.hid hWa
          clear hWa
          go_wp2_with (at_builtin; refine wpList_app3 _ (wr.alloc (.cells #[.int .i64 x0, .int .i64 x1] 78)) rfl _ _ 64 rfl g 131 3 24 _ Try.underlying64 info_Link rfl (by omega) _ _ _ _ rfl rfl (by simp [go_sem]) hoa rfl (one_cell_link1 _ _ _) (by omega) (by unfold maxLen; omega) (by simp; omega) ?_; intro A5 c5 w5 hO5 hW5 hK5)
          have hW6 := HWa.out.trans hW5
          have hO6 : w5.ownsRow g 131 3 (.slice A5 (j + 1) c5) (j + 1) (cellsLink ((X.take (j + 1)).map (linkOf false))) := by rw [HT.out, cellsLink_snoc1]; exact hO5
          clear hO5 hoa hK5
          go_wp2_with fail
          go_roundw
          case rel => exact ⟨j + 1, A5, c5, by omega, by go_num, rfl, hO6, hW6⟩
          case measure => simp [intOf] <;> omega
        · have : j = m1 := by omega
          subst this
          have hT : X.take j = X := List.take_of_length_le (by rw [← Hm1.out]; exact Nat.le_refl _)
          rw [hT] at hown
          have hown0 : wr.ownsRow g 131 3 (.slice B (j + 0) d) (j + 0) (cellsLink (X.map (linkOf false) ++ (Y.reverse.take 0).map (linkOf true))) := by rw [List.take_zero, List.map_nil, List.append_nil]; exact hown
          clear hown HoN
          have HT := Lib.hid hT
          clear hT
          have Hown0 := Lib.hid hown0
          clear hown0
          go_wp2_with fail
          go_loopw [12, 15] (fun v i wq => ∃ (k q : Nat) (z : Int) (B : Option Addr) (d : Nat), k + q = m2 ∧ z = (q : Int) - 1 ∧ i = .int .i64 z ∧ v = .slice B (j + k) d ∧ wq.ownsRow g 131 3 (.slice B (j + k) d) (j + k) (cellsLink (X.map (linkOf false) ++ (Y.reverse.take k).map (linkOf true))) ∧ Below g y2 wq) (fun _ i _ => (intOf i + 1).toNat)
          case atStart => exact ⟨0, m2, _, B, d, by omega, rfl, rfl, rfl, Hown0.out, hZ⟩
          case round =>
            clear Hown0 hZ hgz
            obtain ⟨k, q, z, B, d, hkq, hz, rfl, rfl, hown, hZ⟩ := hrel
            have hgz := hZ.size
            cases q with
            | zero =>
              have hz1 : ¬ (0 : Int) ≤ z := by omega
              have hz2 : z < 0 := by omega
              have hk : k = m2 := by omega
              subst hk
              have hT2 : Y.reverse.take k = Y.reverse := List.take_of_length_le (by rw [List.length_reverse, ← Hm2.out]; exact Nat.le_refl _)
              rw [hT2, ← E1.out] at hown
              have hPL : (pfL l rs u v).length = j + k := by rw [E1.out, List.length_append, List.length_map, List.length_map, List.length_reverse, ← Hm1.out, ← Hm2.out]
              clear hT2
              have Hown := Lib.hid hown
              clear hown
              have HPL := Lib.hid hPL
              clear hPL
              go_wp2_with fail
              go_ret2
              rw [E0.out, HPL.out]
              exact ⟨B, d, rfl, own_mono Hown.out hgw, HW3.out.trans (hZ.mono hgw)⟩
            | succ q =>
              have hz1 : z = (q : Int) := by omega
              subst hz1
              clear hz
              have hqm : q < m2 := by omega
              have hq2 : q < Y.length := by rw [← Hm2.out]; omega
              have hk2 : k < Y.reverse.length := by rw [List.length_reverse, ← Hm2.out]; omega
              obtain ⟨b, o, rfl, hbl, p0, p1⟩ := rd_Step (R2.out.keep (hg ▸ hZ)) hq2
              have hel : Y.reverse[k] = Y[q] := by
                rw [List.getElem_reverse]
                congr 1
                rw [← Hm2.out]
                omega
              have hT : (Y.reverse.take (k + 1)).map (linkOf true) = (Y.reverse.take k).map (linkOf true) ++ [linkOf true Y[q]] := by rw [List.take_succ_eq_append_getElem hk2, List.map_append, hel]; rfl
              obtain ⟨⟨x0, x1⟩, hx⟩ : ∃ x, x = Y[q] := ⟨_, rfl⟩
              rw [← hx] at p0 p1 hT
              dsimp only at p0 p1
              rw [show linkOf true (x0, x1) = (x0, x1, true) from rfl] at hT
              have p0' : wr.drew.cell? ⟨b, o + q * 2, none⟩ = some (.int .i64 x0) := p0
              have p1' : wr.drew.cell? ⟨b, o + q * 2 + 1, none⟩ = some (.int .i64 x1) := p1
              have hod := own_drew1 hown
              clear hel hown
              have Hx := Lib.hid hx
              clear hx
              have HT := Lib.hid hT
              clear hT
              go_wp2_with fail
              go_region_law (refine step_app1 _ wr.drew rfl _ _ 64 rfl g 131 3 24 _ Try.underlying64 info_Link rfl (by omega) _ _ _ _ rfl rfl rfl hod rfl (one_cell_link1 _ _ _) (by omega) (by unfold maxLen; omega) (by simp; omega) ?_; intro A5 c5 w5 hO5 hW5)
              all_goals
                have hW6 := hZ.drew.trans hW5
                have hO6 : w5.ownsRow g 131 3 (.slice A5 (j + (k + 1)) c5) (j + (k + 1)) (cellsLink (X.map (linkOf false) ++ (Y.reverse.take (k + 1)).map (linkOf true))) := by rw [HT.out, ← List.append_assoc, cellsLink_snoc1]; exact hO5
                clear hO5 hod
                go_wp2_with fail
                go_roundw
                case rel => exact ⟨k + 1, q, _, A5, c5, by omega, rfl, rfl, rfl, hO6, hW6⟩
                case measure => simp [intOf] <;> omega

end Go.Proofs.Ytgnmfneinnojnaa
