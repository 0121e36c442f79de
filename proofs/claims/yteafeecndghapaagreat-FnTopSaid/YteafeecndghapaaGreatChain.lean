/- Walks over ChainOf, IsProof and PeakOf (the program's and the reference's). -/
import Derived.Test.YteafeecndghapaaGreatApLink
import Derived.Test.YteafeecndghapaaGreatMg4
import Derived.Test.YteafeecndghapaaGreatMg9
import Derived.Test.YteafeecndghapaaGreatMg2
namespace Go.Proofs.YteafeecndghapaaGreat
open Go.RowKit Go.Shelf

/-- A chain one link longer: the words, the last one apart. -/
def chStep (l : Int) (rs : List RuleT) (st : Option (List ByteArray × ByteArray)) (x : LinkT) : Option (List ByteArray × ByteArray) := match st with
  | none => none
  | some p => if alOk l rs p.2 x then some (p.1 ++ [alS l rs p.2 x], alS l rs p.2 x) else none
def chRun (l : Int) (rs : List RuleT) (s : ByteArray) (xs : List LinkT) : Option (List ByteArray × ByteArray) := xs.foldl (chStep l rs) (some ([s], s))
def coSt (l : Int) (rs : List RuleT) (s : ByteArray) (xs : List LinkT) : Option (List ByteArray × ByteArray) := if xs.length ≤ 200 then chRun l rs s xs else none
/-- ChainOf, in plain words. -/
def coL (l : Int) (rs : List RuleT) (s : ByteArray) (xs : List LinkT) : List ByteArray := match coSt l rs s xs with
  | none => []
  | some p => p.1
def coOk (l : Int) (rs : List RuleT) (s : ByteArray) (xs : List LinkT) : Bool := (coSt l rs s xs).isSome
theorem chRun_none (l : Int) (rs : List RuleT) (xs : List LinkT) : xs.foldl (chStep l rs) none = none := by
  induction xs with
  | nil => rfl
  | cons x xs ih => exact ih
theorem chRun_snoc {l : Int} {rs : List RuleT} {s : ByteArray} {xs : List LinkT} {j : Nat} (h : j < xs.length) : chRun l rs s (xs.take (j + 1)) = chStep l rs (chRun l rs s (xs.take j)) xs[j] := by
  unfold chRun
  rw [List.take_succ_eq_append_getElem h, List.foldl_append]; rfl
theorem chRun_fail {l : Int} {rs : List RuleT} {s : ByteArray} {xs : List LinkT} (j : Nat) (h : chRun l rs s (xs.take j) = none) : chRun l rs s xs = none := by
  have e : xs = xs.take j ++ xs.drop j := (List.take_append_drop j xs).symm
  have h2 : chRun l rs s (xs.take j ++ xs.drop j) = none := by
    unfold chRun at h ⊢
    rw [List.foldl_append, h, chRun_none]
  rwa [← e] at h2
theorem alS_size (l : Int) (rs : List RuleT) (s : ByteArray) (x : LinkT) : (alS l rs s x).size ≤ 16 := by
  unfold alS
  split
  · unfold linkS
    split
    · next h =>
      unfold linkHit at h
      simp only [Bool.and_eq_true] at h
      have h1 := inB_out h.1.2.symm
      obtain ⟨p, hp⟩ := Int.eq_ofNat_of_zero_le h1.1
      rw [hp]
      cases hr : replOk s ((p : Nat) : Int) (((linkFrom rs x).size : Nat) : Int) (linkTo rs x)
      · rw [replS_no hr]; exact Nat.zero_le _
      · exact replS_size hr
    · exact Nat.zero_le _
  · exact Nat.zero_le _
theorem chStep_inv {l : Int} {rs : List RuleT} (xs : List LinkT) : ∀ (st : Option (List ByteArray × ByteArray)) (k : Nat), (∀ p, st = some p → p.1.length = k + 1 ∧ p.1[k]? = some p.2) → ∀ p, xs.foldl (chStep l rs) st = some p → p.1.length = k + xs.length + 1 ∧ p.1[k + xs.length]? = some p.2 := by
  induction xs with
  | nil => intro st k h p hp; exact h p hp
  | cons x xs ih =>
    intro st k h p hp
    rw [List.foldl_cons] at hp
    have := ih (chStep l rs st x) (k + 1) (fun q hq => by
      cases st with
      | none => cases hq
      | some r =>
        obtain ⟨h1, h2⟩ := h r rfl
        unfold chStep at hq
        dsimp only at hq
        split at hq
        · injection hq with hq
          subst hq
          refine ⟨by simp [h1], ?_⟩
          dsimp only
          rw [List.getElem?_append_right (by omega)]
          simp [h1]
        · cases hq) p hp
    rw [List.length_cons, show k + (xs.length + 1) = k + 1 + xs.length from by omega]
    exact this
theorem chRun_out {l : Int} {rs : List RuleT} {s : ByteArray} {xs : List LinkT} {p : List ByteArray × ByteArray} (h : chRun l rs s xs = some p) : p.1.length = xs.length + 1 ∧ p.1[xs.length]? = some p.2 := by
  have := chStep_inv (l := l) (rs := rs) xs (some ([s], s)) 0 (fun q hq => by injection hq with hq; subst hq; exact ⟨rfl, rfl⟩) p h
  simpa using this
theorem one_cell_str (a : ByteArray) : ∀ u ∈ (#[Value.string a] : Array Value).toList, u.oneCell' = true := by intro u hu; simp at hu; subst hu; rfl
theorem strs_snoc (xs : List ByteArray) (x : ByteArray) : strs (xs ++ [x]) = strs xs ++ [.string x] := by simp [strs]
set_option maxRecDepth 100000 in
set_option maxHeartbeats 2000000 in
theorem specChainOf_any (l : Int) (A : Option Addr) (n c : Nat) (rs : List RuleT) (s : ByteArray) (B : Option Addr) (m d : Nat) (ls : List LinkT) (w : World) (hr : Rd w A (cellsRule rs)) (hn : n = rs.length) (hb : n ≤ 1048576) (hz : ∀ x ∈ rs, x.1.size ≤ 1048576 ∧ x.2.size ≤ 1048576) (hs : s.size ≤ 1048576) (hy : Rd w B (cellsLink ls)) (hm : m = ls.length) (hbm : m ≤ 1048576) :
    Calls Tryz.prog 16 #[.agg #[.int .i64 l, .slice A n c], .string s, .slice B m d] w (MadeSlB w 9 1 (coL l rs s ls).length (strs (coL l rs s ls)) (coOk l rs s ls)) := by
  have hW0 : Below w.heap.size w (w.alloc (.cells #[.int .i64 l, .slice A n c] 25)) := (Below.refl _ _).alloc (Nat.le_refl _) _
  have hS0 := Bk.new w 25 #[.int .i64 l, .slice A n c]
  have hO0 := own_of_bk (base := w.heap.size + 1) (m := 1) (n := 1) ((Bk.new (w.alloc (.cells #[.int .i64 l, .slice A n c] 25)) 9 #[.string s]).cast (g' := w.heap.size + 1) (by simp)) (Nat.le_refl _) rfl (by unfold maxLen; omega)
  have hW0' := hW0.alloc hW0.size (.cells #[.string s] 9)
  have hS0' := hS0.alloc (.cells #[.string s] 9)
  by_cases h200 : m ≤ 200
  rotate_left
  · have e : coSt l rs s ls = none := by rw [coSt, if_neg (by omega)]
    have e1 : coL l rs s ls = [] := by rw [coL, e]
    have e2 : coOk l rs s ls = false := by rw [coOk, e]; rfl
    clear hO0
    have E := Lib.hid e
    clear e
    have E1 := Lib.hid e1
    clear e1
    have E2 := Lib.hid e2
    clear e2
    have Hm := Lib.hid hm
    clear hm
    have Hn := Lib.hid hn
    clear hn
    go_enter Tryz.func16, Tryz.ntmps16
    go_wp2_with fail
    go_ret2
    rw [E1.out, E2.out]
    exact ⟨none, 0, rfl, World.ownsRow_nil _ _ _ _, hW0⟩
  have hE : coSt l rs s ls = chRun l rs s ls := by rw [coSt, if_pos (by omega)]
  have Hr := Lib.hid hr
  clear hr
  have Hn := Lib.hid hn
  clear hn
  have Hz := Lib.hid hz
  clear hz
  have Hy := Lib.hid hy
  clear hy
  have Hm := Lib.hid hm
  clear hm
  have HE := Lib.hid hE
  clear hE
  have HO0 := Lib.hid hO0
  clear hO0
  have HW0' := Lib.hid hW0'
  clear hW0'
  have HS0' := Lib.hid hS0'
  clear hS0'
  go_enter Tryz.func16, Tryz.ntmps16
  go_wp2_with fail
  go_loopw [1, 8, 20] (fun v o i wr => ∃ (j : Nat) (ws : List ByteArray) (cur : ByteArray) (C : Option Addr) (e : Nat), v = .string cur ∧ o = .slice C (j + 1) e ∧ i = .int .i64 j ∧ j ≤ m ∧ cur.size ≤ 1048576 ∧ Hid (chRun l rs s (ls.take j) = some (ws, cur)) ∧ Bk wr w.heap.size 25 #[.int .i64 l, .slice A n c] ∧ wr.ownsRow (w.heap.size + 1) 9 1 (.slice C (j + 1) e) (j + 1) (strs ws) ∧ Below w.heap.size w wr) (fun _ _ i _ => m - (intOf i).toNat)
  case atStart => exact ⟨0, [s], s, _, _, rfl, rfl, rfl, Nat.zero_le _, hs, rfl, HS0'.out, HO0.out, HW0'.out⟩
  case round =>
    clear HS0' HO0 HW0' hS0 hW0
    obtain ⟨j, ws, cur, C, e, rfl, rfl, rfl, hj, hcs, HC, hS0, hown, hW0⟩ := hrel
    have s0_0 : wr.cell? ⟨w.heap.size, 0, none⟩ = some (.int .i64 l) := by rw [hS0.cell]; rfl
    have s1_0 : wr.cell? ⟨w.heap.size, 1, none⟩ = some (.slice A n c) := by rw [hS0.cell]; rfl
    have sl_0 := hS0.lt
    by_cases hlt : j < m
    · have hlt2 : j < ls.length := by rw [← Hm.out]; exact hlt
      obtain ⟨b, o, rfl, hbl, p0, p1, p2⟩ := rd_Link (Hy.out.keep hW0) hlt2
      obtain ⟨⟨x0, x1, x2⟩, hx⟩ : ∃ x, x = ls[j] := ⟨_, rfl⟩
      rw [← hx] at p0 p1 p2
      dsimp only at p0 p1 p2
      have hnx : chRun l rs s (ls.take (j + 1)) = chStep l rs (some (ws, cur)) (x0, x1, x2) := by rw [chRun_snoc hlt2, HC.out, hx]
      have hsz := alS_size l rs cur (x0, x1, x2)
      obtain ⟨nx, hnx2⟩ : ∃ nx, nx = alS l rs cur (x0, x1, x2) := ⟨_, rfl⟩
      obtain ⟨no, hno⟩ : ∃ no, no = alOk l rs cur (x0, x1, x2) := ⟨_, rfl⟩
      have hst : chStep l rs (some (ws, cur)) (x0, x1, x2) = if no then some (ws ++ [nx], nx) else none := by rw [chStep, ← hnx2, ← hno]
      rw [hst] at hnx
      rw [← hnx2] at hsz
      have hWa := hW0.alloc hW0.size (.cells #[.int .i64 x0, .int .i64 x1, .bool x2] 45)
      have hSa := hS0.alloc (.cells #[.int .i64 x0, .int .i64 x1, .bool x2] 45)
      have hoa := own_keep hown ((Below.refl _ wr).alloc (Nat.le_refl _) (.cells #[.int .i64 x0, .int .i64 x1, .bool x2] 45)) (Nat.le_refl _)
      clear hst hown
      have Hx := Lib.hid hx
      clear hx
      have Hnx := Lib.hid hnx
      clear hnx
      have Hnx2 := Lib.hid hnx2
      clear hnx2
      have Hno := Lib.hid hno
      clear hno
      have HWa := Lib.hid hWa
      clear hWa
      have HSa := Lib.hid hSa
      clear hSa
      have Hoa := Lib.hid hoa
      clear hoa
      go_wp2_with fail
      with_reducible refine (specApplyLink_any l A n c rs cur x0 x1 x2 _ (Hr.out.keep HWa.out) Hn.out hb Hz.out hcs).mono ?_
      rintro e w3 ⟨rfl, b3⟩
      rw [← Hnx2.out, ← Hno.out]
      have hW3 := HWa.out.trans (b3.mono HWa.out.size)
      have hS3 := HSa.out.below b3 HSa.out.lt
      have ho3 := own_keep Hoa.out b3 (Nat.le_refl _)
      have sl := hS3.lt
      clear b3 HWa HSa Hoa s0_0 s1_0 sl_0 hS0 hW0
      cases no
      · have e0 : coSt l rs s ls = none := by rw [HE.out]; exact chRun_fail (j + 1) (by rw [Hnx.out]; rfl)
        have e1 : coL l rs s ls = [] := by rw [coL, e0]
        have e2 : coOk l rs s ls = false := by rw [coOk, e0]; rfl
        have E0 := Lib.hid e0
        clear e0
        have E1 := Lib.hid e1
        clear e1
        have E2 := Lib.hid e2
        clear e2
        go_wp2_with fail
        go_ret2
        rw [E1.out, E2.out]
        exact ⟨none, 0, rfl, World.ownsRow_nil _ _ _ _, hW3⟩
      · have hC2 : chRun l rs s (ls.take (j + 1)) = some (ws ++ [nx], nx) := by rw [Hnx.out]; rfl
        have HC2 := Lib.hid hC2
        clear hC2
        go_wp2_with (at_builtin; refine wpList_app1 _ w3 rfl _ _ 29 rfl (w.heap.size + 1) 9 1 16 _ Tryz.underlying29 info_str rfl (by omega) _ _ _ _ rfl rfl rfl ho3 rfl (one_cell_str _) (by omega) (by unfold maxLen; omega) (by omega) ?_; intro A5 c5 w5 hO5 hW5)
        have hW6 := hW3.trans (hW5.mono (by omega))
        have hS6 := hS3.below hW5 (by omega)
        have hO6 : w5.ownsRow (w.heap.size + 1) 9 1 (.slice A5 (j + 1 + 1) c5) (j + 1 + 1) (strs (ws ++ [nx])) := by rw [strs_snoc]; exact hO5
        clear hO5 ho3
        go_wp2_with fail
        go_roundw
        case rel => exact ⟨j + 1, ws ++ [nx], nx, A5, c5, rfl, rfl, by go_num, by omega, by omega, HC2.out, hS6, hO6, hW6⟩
        case measure => simp [intOf] <;> omega
    · have : j = m := by omega
      subst this
      have hC : chRun l rs s ls = some (ws, cur) := by have := HC.out; rwa [List.take_of_length_le (by rw [← Hm.out]; omega)] at this
      have e0 : coSt l rs s ls = some (ws, cur) := by rw [HE.out, hC]
      have e1 : coL l rs s ls = ws := by rw [coL, e0]
      have e2 : coOk l rs s ls = true := by rw [coOk, e0]; rfl
      have e3 : ws.length = j + 1 := by have := (chRun_out hC).1; rw [← Hm.out] at this; exact this
      have E0 := Lib.hid e0
      clear e0
      have E1 := Lib.hid e1
      clear e1
      have E2 := Lib.hid e2
      clear e2
      have E3 := Lib.hid e3
      clear e3
      have HC := Lib.hid hC
      clear hC
      go_wp2_with fail
      go_ret2
      rw [E1.out, E2.out, E3.out]
      exact ⟨C, e, rfl, own_mono hown (by omega), hW0⟩



set_option maxRecDepth 100000 in
set_option maxHeartbeats 2000000 in
theorem implChainOf_any (l : Int) (A : Option Addr) (n c : Nat) (rs : List RuleT) (s : ByteArray) (B : Option Addr) (m d : Nat) (ls : List LinkT) (w : World) (hr : Rd w A (cellsRule rs)) (hn : n = rs.length) (hb : n ≤ 1048576) (hz : ∀ x ∈ rs, x.1.size ≤ 1048576 ∧ x.2.size ≤ 1048576) (hs : s.size ≤ 1048576) (hy : Rd w B (cellsLink ls)) (hm : m = ls.length) (hbm : m ≤ 1048576) :
    Calls Tryz.prog 5 #[.agg #[.int .i64 l, .slice A n c], .string s, .slice B m d] w (MadeSlB w 9 1 (coL l rs s ls).length (strs (coL l rs s ls)) (coOk l rs s ls)) := by
  have hW0 : Below w.heap.size w (w.alloc (.cells #[.int .i64 l, .slice A n c] 25)) := (Below.refl _ _).alloc (Nat.le_refl _) _
  have hS0 := Bk.new w 25 #[.int .i64 l, .slice A n c]
  have hO0 := own_of_bk (base := w.heap.size + 1) (m := 1) (n := 1) ((Bk.new (w.alloc (.cells #[.int .i64 l, .slice A n c] 25)) 9 #[.string s]).cast (g' := w.heap.size + 1) (by simp)) (Nat.le_refl _) rfl (by unfold maxLen; omega)
  have hW0' := hW0.alloc hW0.size (.cells #[.string s] 9)
  have hS0' := hS0.alloc (.cells #[.string s] 9)
  by_cases h200 : m ≤ 200
  rotate_left
  · have e : coSt l rs s ls = none := by rw [coSt, if_neg (by omega)]
    have e1 : coL l rs s ls = [] := by rw [coL, e]
    have e2 : coOk l rs s ls = false := by rw [coOk, e]; rfl
    clear hO0
    have E := Lib.hid e
    clear e
    have E1 := Lib.hid e1
    clear e1
    have E2 := Lib.hid e2
    clear e2
    have Hm := Lib.hid hm
    clear hm
    have Hn := Lib.hid hn
    clear hn
    go_enter Tryz.func5, Tryz.ntmps5
    go_wp2_with fail
    go_ret2
    rw [E1.out, E2.out]
    exact ⟨none, 0, rfl, World.ownsRow_nil _ _ _ _, hW0⟩
  have hE : coSt l rs s ls = chRun l rs s ls := by rw [coSt, if_pos (by omega)]
  have Hr := Lib.hid hr
  clear hr
  have Hn := Lib.hid hn
  clear hn
  have Hz := Lib.hid hz
  clear hz
  have Hy := Lib.hid hy
  clear hy
  have Hm := Lib.hid hm
  clear hm
  have HE := Lib.hid hE
  clear hE
  have HO0 := Lib.hid hO0
  clear hO0
  have HW0' := Lib.hid hW0'
  clear hW0'
  have HS0' := Lib.hid hS0'
  clear hS0'
  go_enter Tryz.func5, Tryz.ntmps5
  go_wp2_with fail
  go_loopw [1, 8, 20] (fun v o i wr => ∃ (j : Nat) (ws : List ByteArray) (cur : ByteArray) (C : Option Addr) (e : Nat), v = .string cur ∧ o = .slice C (j + 1) e ∧ i = .int .i64 j ∧ j ≤ m ∧ cur.size ≤ 1048576 ∧ Hid (chRun l rs s (ls.take j) = some (ws, cur)) ∧ Bk wr w.heap.size 25 #[.int .i64 l, .slice A n c] ∧ wr.ownsRow (w.heap.size + 1) 9 1 (.slice C (j + 1) e) (j + 1) (strs ws) ∧ Below w.heap.size w wr) (fun _ _ i _ => m - (intOf i).toNat)
  case atStart => exact ⟨0, [s], s, _, _, rfl, rfl, rfl, Nat.zero_le _, hs, rfl, HS0'.out, HO0.out, HW0'.out⟩
  case round =>
    clear HS0' HO0 HW0' hS0 hW0
    obtain ⟨j, ws, cur, C, e, rfl, rfl, rfl, hj, hcs, HC, hS0, hown, hW0⟩ := hrel
    have s0_0 : wr.cell? ⟨w.heap.size, 0, none⟩ = some (.int .i64 l) := by rw [hS0.cell]; rfl
    have s1_0 : wr.cell? ⟨w.heap.size, 1, none⟩ = some (.slice A n c) := by rw [hS0.cell]; rfl
    have sl_0 := hS0.lt
    by_cases hlt : j < m
    · have hlt2 : j < ls.length := by rw [← Hm.out]; exact hlt
      obtain ⟨b, o, rfl, hbl, p0, p1, p2⟩ := rd_Link (Hy.out.keep hW0) hlt2
      obtain ⟨⟨x0, x1, x2⟩, hx⟩ : ∃ x, x = ls[j] := ⟨_, rfl⟩
      rw [← hx] at p0 p1 p2
      dsimp only at p0 p1 p2
      have hnx : chRun l rs s (ls.take (j + 1)) = chStep l rs (some (ws, cur)) (x0, x1, x2) := by rw [chRun_snoc hlt2, HC.out, hx]
      have hsz := alS_size l rs cur (x0, x1, x2)
      obtain ⟨nx, hnx2⟩ : ∃ nx, nx = alS l rs cur (x0, x1, x2) := ⟨_, rfl⟩
      obtain ⟨no, hno⟩ : ∃ no, no = alOk l rs cur (x0, x1, x2) := ⟨_, rfl⟩
      have hst : chStep l rs (some (ws, cur)) (x0, x1, x2) = if no then some (ws ++ [nx], nx) else none := by rw [chStep, ← hnx2, ← hno]
      rw [hst] at hnx
      rw [← hnx2] at hsz
      have hWa := hW0.alloc hW0.size (.cells #[.int .i64 x0, .int .i64 x1, .bool x2] 45)
      have hSa := hS0.alloc (.cells #[.int .i64 x0, .int .i64 x1, .bool x2] 45)
      have hoa := own_keep hown ((Below.refl _ wr).alloc (Nat.le_refl _) (.cells #[.int .i64 x0, .int .i64 x1, .bool x2] 45)) (Nat.le_refl _)
      clear hst hown
      have Hx := Lib.hid hx
      clear hx
      have Hnx := Lib.hid hnx
      clear hnx
      have Hnx2 := Lib.hid hnx2
      clear hnx2
      have Hno := Lib.hid hno
      clear hno
      have HWa := Lib.hid hWa
      clear hWa
      have HSa := Lib.hid hSa
      clear hSa
      have Hoa := Lib.hid hoa
      clear hoa
      go_wp2_with fail
      with_reducible refine (implApplyLink_any l A n c rs cur x0 x1 x2 _ (Hr.out.keep HWa.out) Hn.out hb Hz.out hcs).mono ?_
      rintro e w3 ⟨rfl, b3⟩
      rw [← Hnx2.out, ← Hno.out]
      have hW3 := HWa.out.trans (b3.mono HWa.out.size)
      have hS3 := HSa.out.below b3 HSa.out.lt
      have ho3 := own_keep Hoa.out b3 (Nat.le_refl _)
      have sl := hS3.lt
      clear b3 HWa HSa Hoa s0_0 s1_0 sl_0 hS0 hW0
      cases no
      · have e0 : coSt l rs s ls = none := by rw [HE.out]; exact chRun_fail (j + 1) (by rw [Hnx.out]; rfl)
        have e1 : coL l rs s ls = [] := by rw [coL, e0]
        have e2 : coOk l rs s ls = false := by rw [coOk, e0]; rfl
        have E0 := Lib.hid e0
        clear e0
        have E1 := Lib.hid e1
        clear e1
        have E2 := Lib.hid e2
        clear e2
        go_wp2_with fail
        go_ret2
        rw [E1.out, E2.out]
        exact ⟨none, 0, rfl, World.ownsRow_nil _ _ _ _, hW3⟩
      · have hC2 : chRun l rs s (ls.take (j + 1)) = some (ws ++ [nx], nx) := by rw [Hnx.out]; rfl
        have HC2 := Lib.hid hC2
        clear hC2
        go_wp2_with (at_builtin; refine wpList_app1 _ w3 rfl _ _ 29 rfl (w.heap.size + 1) 9 1 16 _ Tryz.underlying29 info_str rfl (by omega) _ _ _ _ rfl rfl rfl ho3 rfl (one_cell_str _) (by omega) (by unfold maxLen; omega) (by omega) ?_; intro A5 c5 w5 hO5 hW5)
        have hW6 := hW3.trans (hW5.mono (by omega))
        have hS6 := hS3.below hW5 (by omega)
        have hO6 : w5.ownsRow (w.heap.size + 1) 9 1 (.slice A5 (j + 1 + 1) c5) (j + 1 + 1) (strs (ws ++ [nx])) := by rw [strs_snoc]; exact hO5
        clear hO5 ho3
        go_wp2_with fail
        go_roundw
        case rel => exact ⟨j + 1, ws ++ [nx], nx, A5, c5, rfl, rfl, by go_num, by omega, by omega, HC2.out, hS6, hO6, hW6⟩
        case measure => simp [intOf] <;> omega
    · have : j = m := by omega
      subst this
      have hC : chRun l rs s ls = some (ws, cur) := by have := HC.out; rwa [List.take_of_length_le (by rw [← Hm.out]; omega)] at this
      have e0 : coSt l rs s ls = some (ws, cur) := by rw [HE.out, hC]
      have e1 : coL l rs s ls = ws := by rw [coL, e0]
      have e2 : coOk l rs s ls = true := by rw [coOk, e0]; rfl
      have e3 : ws.length = j + 1 := by have := (chRun_out hC).1; rw [← Hm.out] at this; exact this
      have E0 := Lib.hid e0
      clear e0
      have E1 := Lib.hid e1
      clear e1
      have E2 := Lib.hid e2
      clear e2
      have E3 := Lib.hid e3
      clear e3
      have HC := Lib.hid hC
      clear hC
      go_wp2_with fail
      go_ret2
      rw [E1.out, E2.out, E3.out]
      exact ⟨C, e, rfl, own_mono hown (by omega), hW0⟩



end Go.Proofs.YteafeecndghapaaGreat
