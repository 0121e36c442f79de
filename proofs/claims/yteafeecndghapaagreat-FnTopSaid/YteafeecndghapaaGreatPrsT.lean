/- Walk over ParseSystem of the reference, told weakly. -/
import Derived.Test.YteafeecndghapaaGreatMg6
import Derived.Test.YteafeecndghapaaGreatPiS
import Derived.Test.YteafeecndghapaaGreatMg1
namespace Go.Proofs.YteafeecndghapaaGreat
open Go.RowKit Go.Shelf

theorem one_cell_ruleP (a b : ByteArray) : ∀ u ∈ (#[Value.string a, Value.string b] : Array Value).toList, u.oneCell' = true := by intro u hu; simp at hu; rcases hu with rfl | rfl <;> rfl

/-- A system of the call's own, told weakly, and whether it was read. -/
def PsMade (u : ByteArray) (w : World) (e : Ending) (w' : World) : Prop := ∃ (l : Int) (A : Option Addr) (n c : Nat) (rs : List RuleT) (b : Bool), (-9223372036854775808 ≤ l ∧ l ≤ 9223372036854775807) ∧ n = rs.length ∧ n ≤ u.size + 1 ∧ (∀ x ∈ rs, x.1.size ≤ u.size ∧ x.2.size ≤ u.size) ∧ e = .returned (.tuple #[.agg #[.int .i64 l, .slice A n c], .bool b]) ∧ w'.ownsRow w.heap.size 68 2 (.slice A n c) n (cellsRule rs) ∧ Below w.heap.size w w'
set_option maxRecDepth 100000 in
set_option maxHeartbeats 4000000 in
theorem specParseSystem_any (u : ByteArray) (w : World) (hu : u.size ≤ 1000) : Calls Tryz.prog 52 #[.string u] w (PsMade u w) := by
  have hW0 : Below w.heap.size w (w.alloc (.cells #[.int .i64 0, .slice none 0 0] 25)) := (Below.refl _ _).alloc (Nat.le_refl _) _
  have hB0 := Bk.new w 25 #[.int .i64 0, .slice none 0 0]
  have HW0 := Lib.hid hW0
  clear hW0
  have HB0 := Lib.hid hB0
  clear hB0
  go_enter Tryz.func52, Tryz.ntmps52
  go_wp2_with fail
  with_reducible refine (specSplitG_any u 32 _ (by omega)).mono ?_
  rintro e w1 ⟨L, hL1, hL2, hLs, B, d, rfl, hO, b1⟩
  have hW1 := HW0.out.trans (b1.mono HW0.out.size)
  have hB1 := HB0.out.below b1 HB0.out.lt
  obtain ⟨m, hm⟩ : ∃ m, m = L.length := ⟨_, rfl⟩
  rw [← hm] at hO hL1 hL2
  rw [← hm]
  have hRL := Rd.of_own hO
  have hmd0 := own_capF hO
  obtain ⟨g, rfl, hg1, hg2⟩ := own_some hO hL2
  have c0 : w1.cell? ⟨w.heap.size, 0, none⟩ = some (.int .i64 0) := by rw [hB1.cell]; rfl
  have c1 : w1.cell? ⟨w.heap.size, 1, none⟩ = some (.slice none 0 0) := by rw [hB1.cell]; rfl
  have f0 := hB1.free 0
  have f1 := hB1.free 1
  have lb := hB1.lt
  have hx0 : 0 < L.length := by omega
  have o0 : w1.cell? ⟨g, 0, none⟩ = some (.string L[0]) := by
    rw [hO.cellAt 0 (by omega)]
    simp [strs, hx0]
  have hz0 := hLs L[0] (List.getElem_mem hx0)
  generalize L[0] = x0 at o0 hz0
  have hmz : m - 1 + 1 = m := by omega
  clear b1 HB0 HW0 hg1 hx0
  have HW1 := Lib.hid hW1
  clear hW1
  have HB1 := Lib.hid hB1
  clear hB1
  have HO := Lib.hid hO
  clear hO
  have Hm := Lib.hid hm
  clear hm
  have HLs := Lib.hid hLs
  clear hLs
  have HRL := Lib.hid hRL
  clear hRL
  go_wp2_with fail
  with_reducible refine (specParseInt_any x0 _ (by omega)).mono ?_
  rintro e w2 ⟨l, ok, rfl, -, hl0, hl1, b2⟩
  have hW2 := HW1.out.trans (b2.mono HW1.out.size)
  have hB2 := HB1.out.below b2 HB1.out.lt
  have hRL2 := HRL.out.keep b2
  clear b2 HW1 HB1 HRL HO c0 c1 f0 f1 lb o0
  have c0 : w2.cell? ⟨w.heap.size, 0, none⟩ = some (.int .i64 0) := by rw [hB2.cell]; rfl
  have c1 : w2.cell? ⟨w.heap.size, 1, none⟩ = some (.slice none 0 0) := by rw [hB2.cell]; rfl
  have f0 := hB2.free 0
  have f1 := hB2.free 1
  have lb := hB2.lt
  have HW2 := Lib.hid hW2
  clear hW2
  have HB2 := Lib.hid hB2
  clear hB2
  have HRL2 := Lib.hid hRL2
  clear hRL2
  cases ok
  · go_wp2_with fail
    have hBn := (HB2.out.put 0 (.int .i64 0)).put 1 (.slice none 0 0)
    have q0 := hBn.cell 0
    have q1 := hBn.cell 1
    have hW9 := (HW2.out.setCell (p := ⟨w.heap.size, 0, none⟩) (Nat.le_refl _) (.int .i64 0)).setCell (p := ⟨w.heap.size, 1, none⟩) (Nat.le_refl _) (.slice none 0 0)
    refine bodyPost_ret (v := .tuple #[.agg #[.int .i64 0, .slice none 0 0], .bool false]) (by simp [results, Tryz.results52, go_sem, q0, q1]) rfl ?_
    exact ⟨0, none, 0, 0, [], false, by omega, rfl, Nat.zero_le _, by simp, rfl, World.ownsRow_nil _ _ _ _, hW9⟩
  have hm1 : (1 : Int) ≤ (m : Int) := by omega
  have hmd : m ≤ d := hmd0
  by_cases hd1 : d = 1
  · subst hd1
    go_wp2_with fail
    have hS3 := Bk.new w2 25 #[.int .i64 l, .slice none 0 0]
    have hV3 := (Below.refl w2.heap.size w2).alloc (Nat.le_refl _) (.cells #[.int .i64 l, .slice none 0 0] 25)
    obtain ⟨W3, hW3d⟩ : ∃ z, z = w2.alloc (.cells #[.int .i64 l, .slice none 0 0] 25) := ⟨_, rfl⟩
    obtain ⟨S, hSe⟩ : ∃ z, z = w2.heap.size := ⟨_, rfl⟩
    have lS : w.heap.size < S := by rw [hSe]; exact lb
    rw [← hW3d] at hS3 hV3
    rw [← hSe] at hS3 hV3
    rw [← hW3d, ← hSe]
    clear hW3d c0 c1 f0 f1 lb
    have HS3 := Lib.hid hS3
    clear hS3
    have HV3 := Lib.hid hV3
    clear hV3
    have HSe := Lib.hid hSe
    clear hSe
    go_loopw [29] (fun i wr => ∃ (j : Nat) (A : Option Addr) (c : Nat) (rs : List RuleT), i = .int .i64 j ∧ j ≤ m - 1 ∧ Hid (j = rs.length) ∧ Hid (∀ x ∈ rs, x.1.size ≤ u.size ∧ x.2.size ≤ u.size) ∧ Hid (Bk wr S 25 #[.int .i64 l, .slice A j c]) ∧ Hid (wr.ownsRow (S + 1) 68 2 (.slice A j c) j (cellsRule rs)) ∧ Hid (Below S w2 wr)) (fun i _ => (m - 1) - (intOf i).toNat)
    case atStart => exact ⟨0, none, 0, [], rfl, Nat.zero_le _, Lib.hid rfl, Lib.hid (by simp), HS3, Lib.hid (World.ownsRow_nil _ _ _ _), HV3⟩
    case round =>
      clear HS3 HV3
      obtain ⟨j, A, c, rs, rfl, hj, HN, HZ, HS, HO, HV⟩ := hrel
      have hV0 : Below w2.heap.size w2 wr := by rw [← HSe.out]; exact HV.out
      have hBr := HB2.out.below HV.out lS
      have hWr := HW2.out.trans (hV0.mono HW2.out.size)
      have hjb : j ≤ 1000 := by omega
      have c0 : wr.cell? ⟨w.heap.size, 0, none⟩ = some (.int .i64 0) := by rw [hBr.cell]; rfl
      have c1 : wr.cell? ⟨w.heap.size, 1, none⟩ = some (.slice none 0 0) := by rw [hBr.cell]; rfl
      have f0 := hBr.free 0
      have f1 := hBr.free 1
      have lb := hBr.lt
      have s0 : wr.cell? ⟨S, 0, none⟩ = some (.int .i64 l) := by rw [HS.out.cell]; rfl
      have s1 : wr.cell? ⟨S, 1, none⟩ = some (.slice A j c) := by rw [HS.out.cell]; rfl
      have sf0 := HS.out.free 0
      have sf1 := HS.out.free 1
      have sl := HS.out.lt
      have hlt : ¬ j < m - 1 := by omega
      have hzr : ∀ x ∈ rs, x.1.size ≤ 1048576 ∧ x.2.size ≤ 1048576 := fun x hx => by (have := HZ.out x hx); omega
      have hRO : ∀ W, Below wr.heap.size wr W → Calls Tryz.prog 35 #[.agg #[.int .i64 l, .slice A j c]] W (Kept W (.bool (rulesOk l rs))) := fun W h => specRulesOk_any l A j c rs W ((Rd.of_own HO.out).keep h) HN.out (by omega) hzr
      have hFS : ∀ W, Below wr.heap.size wr W → Calls Tryz.prog 76 #[.agg #[.int .i64 l, .slice A j c]] W (FsMade W) := fun W h => specFormatSystem_any l A j c rs W ((Rd.of_own HO.out).keep h) HN.out (by omega) hzr
      clear hzr hV0
      have HBr := Lib.hid hBr
      clear hBr
      have HWr := Lib.hid hWr
      clear hWr
      have HRO := Lib.hid hRO
      clear hRO
      have HFS := Lib.hid hFS
      clear hFS
      go_wp2_with fail
      with_reducible refine (HRO.out _ (Below.refl _ _)).mono ?_
      rintro e w6 ⟨rfl, b6⟩
      have hW6 := HWr.out.trans (b6.mono HWr.out.size)
      have hB6 := HBr.out.below b6 lb
      have hS6 := HS.out.below b6 sl
      have hb6 := b6
      clear b6 HWr HBr HS c0 c1 f0 f1 lb s0 s1 sf0 sf1 sl
      have c0 : w6.cell? ⟨w.heap.size, 0, none⟩ = some (.int .i64 0) := by rw [hB6.cell]; rfl
      have c1 : w6.cell? ⟨w.heap.size, 1, none⟩ = some (.slice none 0 0) := by rw [hB6.cell]; rfl
      have f0 := hB6.free 0
      have f1 := hB6.free 1
      have lb := hB6.lt
      have s0 : w6.cell? ⟨S, 0, none⟩ = some (.int .i64 l) := by rw [hS6.cell]; rfl
      have s1 : w6.cell? ⟨S, 1, none⟩ = some (.slice A j c) := by rw [hS6.cell]; rfl
      have sf0 := hS6.free 0
      have sf1 := hS6.free 1
      have sl := hS6.lt
      obtain ⟨ro, hrr⟩ : ∃ r', r' = (rulesOk l rs) := ⟨_, rfl⟩
      rw [← hrr]
      have HR := Lib.hid hrr
      clear hrr
      have HW6 := Lib.hid hW6
      clear hW6
      have HB6 := Lib.hid hB6
      clear hB6
      have HS6 := Lib.hid hS6
      clear hS6
      have Hb6 := Lib.hid hb6
      clear hb6
      cases ro
      · go_wp2_with fail
        have hBn := (HB6.out.put 0 (.int .i64 0)).put 1 (.slice none 0 0)
        have q0 := hBn.cell 0
        have q1 := hBn.cell 1
        have hW9 := (HW6.out.setCell (p := ⟨w.heap.size, 0, none⟩) (Nat.le_refl _) (.int .i64 0)).setCell (p := ⟨w.heap.size, 1, none⟩) (Nat.le_refl _) (.slice none 0 0)
        refine bodyPost_ret (v := .tuple #[.agg #[.int .i64 0, .slice none 0 0], .bool false]) (by simp [results, Tryz.results52, go_sem, q0, q1]) rfl ?_
        exact ⟨0, none, 0, 0, [], false, by omega, rfl, Nat.zero_le _, by simp, rfl, World.ownsRow_nil _ _ _ _, hW9⟩
      go_wp2_with fail
      with_reducible refine (HFS.out _ Hb6.out).mono ?_
      rintro e w7 ⟨fs, rfl, b7⟩
      have hW7 := HW6.out.trans (b7.mono HW6.out.size)
      have hB7 := HB6.out.below b7 lb
      have hS7 := HS6.out.below b7 sl
      have hb7 := Hb6.out.trans (b7.mono Hb6.out.size)
      clear b7 HW6 HB6 HS6 Hb6 c0 c1 f0 f1 lb s0 s1 sf0 sf1 sl
      have c0 : w7.cell? ⟨w.heap.size, 0, none⟩ = some (.int .i64 0) := by rw [hB7.cell]; rfl
      have c1 : w7.cell? ⟨w.heap.size, 1, none⟩ = some (.slice none 0 0) := by rw [hB7.cell]; rfl
      have f0 := hB7.free 0
      have f1 := hB7.free 1
      have lb := hB7.lt
      have s0 : w7.cell? ⟨S, 0, none⟩ = some (.int .i64 l) := by rw [hS7.cell]; rfl
      have s1 : w7.cell? ⟨S, 1, none⟩ = some (.slice A j c) := by rw [hS7.cell]; rfl
      have sf0 := hS7.free 0
      have sf1 := hS7.free 1
      have sl := hS7.lt
      have HW7 := Lib.hid hW7
      clear hW7
      have HB7 := Lib.hid hB7
      clear hB7
      have HS7 := Lib.hid hS7
      clear hS7
      have Hb7 := Lib.hid hb7
      clear hb7
      go_wp2_with fail
      · skip
        have hBn := (HB7.out.put 0 (.int .i64 0)).put 1 (.slice none 0 0)
        have q0 := hBn.cell 0
        have q1 := hBn.cell 1
        have hW9 := (HW7.out.setCell (p := ⟨w.heap.size, 0, none⟩) (Nat.le_refl _) (.int .i64 0)).setCell (p := ⟨w.heap.size, 1, none⟩) (Nat.le_refl _) (.slice none 0 0)
        refine bodyPost_ret (v := .tuple #[.agg #[.int .i64 0, .slice none 0 0], .bool false]) (by simp [results, Tryz.results52, go_sem, q0, q1]) rfl ?_
        exact ⟨0, none, 0, 0, [], false, by omega, rfl, Nat.zero_le _, by simp, rfl, World.ownsRow_nil _ _ _ _, hW9⟩
      · skip
        have hBn := (HB7.out.put 0 (.int .i64 l)).put 1 (.slice A j c)
        have q0 := hBn.cell 0
        have q1 := hBn.cell 1
        have hW9 := (HW7.out.setCell (p := ⟨w.heap.size, 0, none⟩) (Nat.le_refl _) (.int .i64 l)).setCell (p := ⟨w.heap.size, 1, none⟩) (Nat.le_refl _) (.slice A j c)
        refine bodyPost_ret (v := .tuple #[.agg #[.int .i64 l, .slice A j c], .bool true]) (by simp [results, Tryz.results52, go_sem, q0, q1]) rfl ?_
        have hO7 := own_keep HO.out Hb7.out (Nat.le_refl _)
        have hne : (Value.slice A j c).ownBlock ≠ some w.heap.size := by
          intro e
          have := (hO7.lt _ e).1
          omega
        have hO9 := own_mono (own_far3 (own_far3 hO7 (p := ⟨w.heap.size, 0, none⟩) hne (.int .i64 l)) (p := ⟨w.heap.size, 1, none⟩) hne (.slice A j c)) (b' := w.heap.size) (show w.heap.size ≤ S + 1 by omega)
        exact ⟨l, A, j, c, rs, true, ⟨hl0, hl1⟩, HN.out, by omega, HZ.out, rfl, hO9, hW9⟩
  · go_wp2_with fail
    have hS3 := Bk.new w2 25 #[.int .i64 l, .slice none 0 0]
    have hV3 := (Below.refl w2.heap.size w2).alloc (Nat.le_refl _) (.cells #[.int .i64 l, .slice none 0 0] 25)
    obtain ⟨W3, hW3d⟩ : ∃ z, z = w2.alloc (.cells #[.int .i64 l, .slice none 0 0] 25) := ⟨_, rfl⟩
    obtain ⟨S, hSe⟩ : ∃ z, z = w2.heap.size := ⟨_, rfl⟩
    have lS : w.heap.size < S := by rw [hSe]; exact lb
    rw [← hW3d] at hS3 hV3
    rw [← hSe] at hS3 hV3
    rw [← hW3d, ← hSe]
    clear hW3d c0 c1 f0 f1 lb
    have HS3 := Lib.hid hS3
    clear hS3
    have HV3 := Lib.hid hV3
    clear hV3
    have HSe := Lib.hid hSe
    clear hSe
    go_loopw [29] (fun i wr => ∃ (j : Nat) (A : Option Addr) (c : Nat) (rs : List RuleT), i = .int .i64 j ∧ j ≤ m - 1 ∧ Hid (j = rs.length) ∧ Hid (∀ x ∈ rs, x.1.size ≤ u.size ∧ x.2.size ≤ u.size) ∧ Hid (Bk wr S 25 #[.int .i64 l, .slice A j c]) ∧ Hid (wr.ownsRow (S + 1) 68 2 (.slice A j c) j (cellsRule rs)) ∧ Hid (Below S w2 wr)) (fun i _ => (m - 1) - (intOf i).toNat)
    case atStart => exact ⟨0, none, 0, [], rfl, Nat.zero_le _, Lib.hid rfl, Lib.hid (by simp), HS3, Lib.hid (World.ownsRow_nil _ _ _ _), HV3⟩
    case round =>
      clear HS3 HV3
      obtain ⟨j, A, c, rs, rfl, hj, HN, HZ, HS, HO, HV⟩ := hrel
      have hV0 : Below w2.heap.size w2 wr := by rw [← HSe.out]; exact HV.out
      have hBr := HB2.out.below HV.out lS
      have hWr := HW2.out.trans (hV0.mono HW2.out.size)
      have hjb : j ≤ 1000 := by omega
      have c0 : wr.cell? ⟨w.heap.size, 0, none⟩ = some (.int .i64 0) := by rw [hBr.cell]; rfl
      have c1 : wr.cell? ⟨w.heap.size, 1, none⟩ = some (.slice none 0 0) := by rw [hBr.cell]; rfl
      have f0 := hBr.free 0
      have f1 := hBr.free 1
      have lb := hBr.lt
      have s0 : wr.cell? ⟨S, 0, none⟩ = some (.int .i64 l) := by rw [HS.out.cell]; rfl
      have s1 : wr.cell? ⟨S, 1, none⟩ = some (.slice A j c) := by rw [HS.out.cell]; rfl
      have sf0 := HS.out.free 0
      have sf1 := HS.out.free 1
      have sl := HS.out.lt
      by_cases hlt : j < m - 1
      · have hjl : j + 1 < L.length := by rw [← Hm.out]; omega
        obtain ⟨b, o, hA, hbl, p0⟩ := rd_StrG (HRL2.out.keep hV0) hjl
        cases hA
        have hxz := HLs.out L[j + 1] (List.getElem_mem hjl)
        generalize L[j + 1] = x at p0 hxz
        have p1 : wr.cell? ⟨g, 1 + j, none⟩ = some (.string x) := by
          have := p0
          rw [Nat.zero_add, Nat.add_comm] at this
          exact this
        clear p0
        have HV0 := Lib.hid hV0
        clear hV0
        have HBr := Lib.hid hBr
        clear hBr
        have HWr := Lib.hid hWr
        clear hWr
        have Hjl := Lib.hid hjl
        clear hjl
        go_wp2_with fail
        with_reducible refine (specParseRule_any x _ (by omega)).mono ?_
        rintro e w4 ⟨v0, v1, fine, z0, z1, rfl, b4⟩
        have hV4 := HV.out.trans (b4.mono (Nat.le_of_lt sl))
        have hW4 := HWr.out.trans (b4.mono HWr.out.size)
        have hB4 := HBr.out.below b4 lb
        have hS4 := HS.out.below b4 sl
        have hO4 := own_keep HO.out b4 (Nat.le_refl _)
        clear b4 HV HWr HBr HS HO HV0 p1 hbl c0 c1 f0 f1 lb s0 s1 sf0 sf1 sl
        have c0 : w4.cell? ⟨w.heap.size, 0, none⟩ = some (.int .i64 0) := by rw [hB4.cell]; rfl
        have c1 : w4.cell? ⟨w.heap.size, 1, none⟩ = some (.slice none 0 0) := by rw [hB4.cell]; rfl
        have f0 := hB4.free 0
        have f1 := hB4.free 1
        have lb := hB4.lt
        have s0 : w4.cell? ⟨S, 0, none⟩ = some (.int .i64 l) := by rw [hS4.cell]; rfl
        have s1 : w4.cell? ⟨S, 1, none⟩ = some (.slice A j c) := by rw [hS4.cell]; rfl
        have sf0 := hS4.free 0
        have sf1 := hS4.free 1
        have sl := hS4.lt
        have hB5 := hB4.alloc (.cells #[.string v0, .string v1] 68)
        have hW5 := hW4.alloc hW4.size (.cells #[.string v0, .string v1] 68)
        have HV4 := Lib.hid hV4
        clear hV4
        have HW4 := Lib.hid hW4
        clear hW4
        have HB4 := Lib.hid hB4
        clear hB4
        have HS4 := Lib.hid hS4
        clear hS4
        have HB5 := Lib.hid hB5
        clear hB5
        have HW5 := Lib.hid hW5
        clear hW5
        cases fine
        · go_wp2_with fail
          have hBn := ((HB4.out.put 0 (.int .i64 0)).put 1 (.slice none 0 0)).alloc (.cells #[.string v0, .string v1] 68)
          have q0 := hBn.cell 0
          have q1 := hBn.cell 1
          have hW8 := (HW4.out.setCell (p := ⟨w.heap.size, 0, none⟩) (Nat.le_refl _) (.int .i64 0)).setCell (p := ⟨w.heap.size, 1, none⟩) (Nat.le_refl _) (.slice none 0 0)
          have hW9 := hW8.alloc hW8.size (.cells #[.string v0, .string v1] 68)
          refine bodyPost_ret (v := .tuple #[.agg #[.int .i64 0, .slice none 0 0], .bool false]) (by simp [results, Tryz.results52, go_sem, q0, q1]) rfl ?_
          exact ⟨0, none, 0, 0, [], false, by omega, rfl, Nat.zero_le _, by simp, rfl, World.ownsRow_nil _ _ _ _, hW9⟩
        have hV5 := HV4.out.alloc (Nat.le_of_lt sl) (.cells #[.string v0, .string v1] 68)
        have hS5 := HS4.out.alloc (.cells #[.string v0, .string v1] 68)
        have hO5 := hO4.alloc (.cells #[.string v0, .string v1] 68)
        have hn5 : S + 1 ≤ (w4.alloc (.cells #[.string v0, .string v1] 68)).heap.size := by simp; omega
        clear hO4
        have HV5 := Lib.hid hV5
        clear hV5
        have HS5 := Lib.hid hS5
        clear hS5
        go_wp2_with (at_builtin; go_loud (refine wpList_app5 _ (w4.alloc (.cells #[.string v0, .string v1] 68)) (w4.heap.size + 1) (by simp) rfl _ _ 23 rfl (S + 1) 68 2 32 _ Tryz.underlying23 info_Rule rfl (by omega) (.slice A j c) j _ _ rfl rfl rfl hO5 rfl (one_cell_ruleP _ _) (by omega) (by unfold maxLen; omega) (by omega) ?_); intro g5 c5 w5 hO6 hV6 hG6 hat6; have hS6 := HS5.out.below hV6 (by omega); have t1 : w5.cell? ⟨S, 1, none⟩ = some (.slice A j c) := (by rw [hS6.cell]; rfl); have tf := hS6.free 1; have tl := hS6.lt)
        have hne : (Value.slice (some ⟨g5, 0, none⟩) (j + 1) c5).ownBlock ≠ some S := by
          intro e
          have := (hO6.lt _ e).1
          omega
        have hO7 := own_far3 hO6 (p := ⟨S, 1, none⟩) hne (.slice (some ⟨g5, 0, none⟩) (j + 1) c5)
        have hV7 := (HV5.out.trans (hV6.mono (by omega))).setCell (p := ⟨S, 1, none⟩) (Nat.le_refl _) (.slice (some ⟨g5, 0, none⟩) (j + 1) c5)
        have hS7 := hS6.put 1 (.slice (some ⟨g5, 0, none⟩) (j + 1) c5)
        have hcr : cellsRule (rs ++ [(v0, v1)]) = cellsRule rs ++ (#[.string v0, .string v1] : Array Value).toList := by simp [cellsRule, encRule]
        rw [← hcr] at hO7
        refine ⟨⟨j + 1, some ⟨g5, 0, none⟩, c5, rs ++ [(v0, v1)], by go_num, by omega, Lib.hid (by rw [List.length_append, ← HN.out]; rfl), Lib.hid (fun y hy => ?_), hS7, hO7, hV7⟩, by simp [intOf]; omega⟩
        rcases List.mem_append.1 hy with h | h
        · exact HZ.out y h
        · rw [List.mem_singleton.1 h]
          exact ⟨by dsimp only; omega, by dsimp only; omega⟩
      · skip
        have hzr : ∀ x ∈ rs, x.1.size ≤ 1048576 ∧ x.2.size ≤ 1048576 := fun x hx => by (have := HZ.out x hx); omega
        have hRO : ∀ W, Below wr.heap.size wr W → Calls Tryz.prog 35 #[.agg #[.int .i64 l, .slice A j c]] W (Kept W (.bool (rulesOk l rs))) := fun W h => specRulesOk_any l A j c rs W ((Rd.of_own HO.out).keep h) HN.out (by omega) hzr
        have hFS : ∀ W, Below wr.heap.size wr W → Calls Tryz.prog 76 #[.agg #[.int .i64 l, .slice A j c]] W (FsMade W) := fun W h => specFormatSystem_any l A j c rs W ((Rd.of_own HO.out).keep h) HN.out (by omega) hzr
        clear hzr hV0
        have HBr := Lib.hid hBr
        clear hBr
        have HWr := Lib.hid hWr
        clear hWr
        have HRO := Lib.hid hRO
        clear hRO
        have HFS := Lib.hid hFS
        clear hFS
        go_wp2_with fail
        with_reducible refine (HRO.out _ (Below.refl _ _)).mono ?_
        rintro e w6 ⟨rfl, b6⟩
        have hW6 := HWr.out.trans (b6.mono HWr.out.size)
        have hB6 := HBr.out.below b6 lb
        have hS6 := HS.out.below b6 sl
        have hb6 := b6
        clear b6 HWr HBr HS c0 c1 f0 f1 lb s0 s1 sf0 sf1 sl
        have c0 : w6.cell? ⟨w.heap.size, 0, none⟩ = some (.int .i64 0) := by rw [hB6.cell]; rfl
        have c1 : w6.cell? ⟨w.heap.size, 1, none⟩ = some (.slice none 0 0) := by rw [hB6.cell]; rfl
        have f0 := hB6.free 0
        have f1 := hB6.free 1
        have lb := hB6.lt
        have s0 : w6.cell? ⟨S, 0, none⟩ = some (.int .i64 l) := by rw [hS6.cell]; rfl
        have s1 : w6.cell? ⟨S, 1, none⟩ = some (.slice A j c) := by rw [hS6.cell]; rfl
        have sf0 := hS6.free 0
        have sf1 := hS6.free 1
        have sl := hS6.lt
        obtain ⟨ro, hrr⟩ : ∃ r', r' = (rulesOk l rs) := ⟨_, rfl⟩
        rw [← hrr]
        have HR := Lib.hid hrr
        clear hrr
        have HW6 := Lib.hid hW6
        clear hW6
        have HB6 := Lib.hid hB6
        clear hB6
        have HS6 := Lib.hid hS6
        clear hS6
        have Hb6 := Lib.hid hb6
        clear hb6
        cases ro
        · go_wp2_with fail
          have hBn := (HB6.out.put 0 (.int .i64 0)).put 1 (.slice none 0 0)
          have q0 := hBn.cell 0
          have q1 := hBn.cell 1
          have hW9 := (HW6.out.setCell (p := ⟨w.heap.size, 0, none⟩) (Nat.le_refl _) (.int .i64 0)).setCell (p := ⟨w.heap.size, 1, none⟩) (Nat.le_refl _) (.slice none 0 0)
          refine bodyPost_ret (v := .tuple #[.agg #[.int .i64 0, .slice none 0 0], .bool false]) (by simp [results, Tryz.results52, go_sem, q0, q1]) rfl ?_
          exact ⟨0, none, 0, 0, [], false, by omega, rfl, Nat.zero_le _, by simp, rfl, World.ownsRow_nil _ _ _ _, hW9⟩
        go_wp2_with fail
        with_reducible refine (HFS.out _ Hb6.out).mono ?_
        rintro e w7 ⟨fs, rfl, b7⟩
        have hW7 := HW6.out.trans (b7.mono HW6.out.size)
        have hB7 := HB6.out.below b7 lb
        have hS7 := HS6.out.below b7 sl
        have hb7 := Hb6.out.trans (b7.mono Hb6.out.size)
        clear b7 HW6 HB6 HS6 Hb6 c0 c1 f0 f1 lb s0 s1 sf0 sf1 sl
        have c0 : w7.cell? ⟨w.heap.size, 0, none⟩ = some (.int .i64 0) := by rw [hB7.cell]; rfl
        have c1 : w7.cell? ⟨w.heap.size, 1, none⟩ = some (.slice none 0 0) := by rw [hB7.cell]; rfl
        have f0 := hB7.free 0
        have f1 := hB7.free 1
        have lb := hB7.lt
        have s0 : w7.cell? ⟨S, 0, none⟩ = some (.int .i64 l) := by rw [hS7.cell]; rfl
        have s1 : w7.cell? ⟨S, 1, none⟩ = some (.slice A j c) := by rw [hS7.cell]; rfl
        have sf0 := hS7.free 0
        have sf1 := hS7.free 1
        have sl := hS7.lt
        have HW7 := Lib.hid hW7
        clear hW7
        have HB7 := Lib.hid hB7
        clear hB7
        have HS7 := Lib.hid hS7
        clear hS7
        have Hb7 := Lib.hid hb7
        clear hb7
        go_wp2_with fail
        · skip
          have hBn := (HB7.out.put 0 (.int .i64 0)).put 1 (.slice none 0 0)
          have q0 := hBn.cell 0
          have q1 := hBn.cell 1
          have hW9 := (HW7.out.setCell (p := ⟨w.heap.size, 0, none⟩) (Nat.le_refl _) (.int .i64 0)).setCell (p := ⟨w.heap.size, 1, none⟩) (Nat.le_refl _) (.slice none 0 0)
          refine bodyPost_ret (v := .tuple #[.agg #[.int .i64 0, .slice none 0 0], .bool false]) (by simp [results, Tryz.results52, go_sem, q0, q1]) rfl ?_
          exact ⟨0, none, 0, 0, [], false, by omega, rfl, Nat.zero_le _, by simp, rfl, World.ownsRow_nil _ _ _ _, hW9⟩
        · skip
          have hBn := (HB7.out.put 0 (.int .i64 l)).put 1 (.slice A j c)
          have q0 := hBn.cell 0
          have q1 := hBn.cell 1
          have hW9 := (HW7.out.setCell (p := ⟨w.heap.size, 0, none⟩) (Nat.le_refl _) (.int .i64 l)).setCell (p := ⟨w.heap.size, 1, none⟩) (Nat.le_refl _) (.slice A j c)
          refine bodyPost_ret (v := .tuple #[.agg #[.int .i64 l, .slice A j c], .bool true]) (by simp [results, Tryz.results52, go_sem, q0, q1]) rfl ?_
          have hO7 := own_keep HO.out Hb7.out (Nat.le_refl _)
          have hne : (Value.slice A j c).ownBlock ≠ some w.heap.size := by
            intro e
            have := (hO7.lt _ e).1
            omega
          have hO9 := own_mono (own_far3 (own_far3 hO7 (p := ⟨w.heap.size, 0, none⟩) hne (.int .i64 l)) (p := ⟨w.heap.size, 1, none⟩) hne (.slice A j c)) (b' := w.heap.size) (show w.heap.size ≤ S + 1 by omega)
          exact ⟨l, A, j, c, rs, true, ⟨hl0, hl1⟩, HN.out, by omega, HZ.out, rfl, hO9, hW9⟩

end Go.Proofs.YteafeecndghapaaGreat

