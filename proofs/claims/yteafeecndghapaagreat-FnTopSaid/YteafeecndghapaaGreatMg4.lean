/- Merged texts: a claim has a limit of files. -/
import Derived.Test.YteafeecndghapaaGreatMg2
import Derived.Test.YteafeecndghapaaGreatMg3

/- Walks over IsLess (the program's and the reference's), compareWords and package cmp: each returns what lessW and cmpW say. -/
namespace Go.Proofs.YteafeecndghapaaGreat
open Go.RowKit Go.Shelf

/-- u lies before v: by the lengths, then bytewise. -/
def lessW (u v : ByteArray) : Bool := if u.size = v.size then Op.bytesLess u.toList v.toList else decide (u.size < v.size)
def cmpI (x y : Int) : Int := if x < y then -1 else if y < x then 1 else 0
def cmpS (u v : ByteArray) : Int := if Op.bytesLess u.toList v.toList = true then -1 else if (u.toList == v.toList) = true then 0 else 1

set_option maxRecDepth 100000 in
set_option maxHeartbeats 1000000 in
theorem specLess_any (u v : ByteArray) (w : World) (_ : u.size ≤ 9223372036854775807) (_ : v.size ≤ 9223372036854775807) :
    Calls Tryz.prog 36 #[.string u, .string v] w fun e w' => e = .returned (.bool (lessW u v)) ∧ w = w' := by
  by_cases h : u.size = v.size
  · have h1 : (u.size : Int) = v.size := by omega
    have hL : Hid (lessW u v = Op.bytesLess u.toList v.toList) := if_pos h
    go_enter Tryz.func36, Tryz.ntmps36
    go_wp2_with fail
    go_ret
    exact ⟨ret_bool (by rw [hL.out]), rfl⟩
  · have hL : Hid (lessW u v = decide (u.size < v.size)) := if_neg h
    by_cases h1 : (u.size : Int) < v.size
    · skip
      go_enter Tryz.func36, Tryz.ntmps36
      go_wp2_with fail
      go_ret
      exact ⟨ret_bool (by rw [hL.out]; simp; omega), rfl⟩
    · skip
      go_enter Tryz.func36, Tryz.ntmps36
      go_wp2_with fail
      go_ret
      exact ⟨ret_bool (by rw [hL.out]; simp; omega), rfl⟩

set_option maxHeartbeats 400000 in
theorem isNaN_int (x : Int) (w : World) : Calls Tryz.prog 100 #[.int .i64 x] w fun e w' => e = .returned (.bool false) ∧ w = w' := by
  go_enter Tryz.func100, Tryz.ntmps100
  go_wp2_with fail
  go_ret
  exact ⟨by simp, rfl⟩

set_option maxHeartbeats 400000 in
theorem compare_int (x y : Int) (w : World) : Calls Tryz.prog 83 #[.int .i64 x, .int .i64 y] w fun e w' => e = .returned (.int .i64 (cmpI x y)) ∧ w = w' := by
  have hL : Hid (cmpI x y = if x < y then -1 else if y < x then 1 else 0) := rfl
  go_enter Tryz.func83, Tryz.ntmps83
  go_wp2_with fail
  refine (isNaN_int x _).mono ?_
  rintro e w' ⟨rfl, rfl⟩
  go_wp2_with fail
  refine (isNaN_int y _).mono ?_
  rintro e w' ⟨rfl, rfl⟩
  by_cases h1 : x < y
  · go_wp2_with fail
    go_ret
    exact ⟨ret_int (by rw [hL.out, if_pos h1]), rfl⟩
  · by_cases h2 : y < x
    · go_wp2_with fail
      go_ret
      exact ⟨ret_int (by rw [hL.out, if_neg (show ¬ x < y by omega), if_pos h2]), rfl⟩
    · go_wp2_with fail
      go_ret
      exact ⟨ret_int (by rw [hL.out, if_neg (show ¬ x < y by omega), if_neg (show ¬ y < x by omega)]), rfl⟩

set_option maxHeartbeats 400000 in
theorem isNaN_string (x : ByteArray) (w : World) : Calls Tryz.prog 101 #[.string x] w fun e w' => e = .returned (.bool false) ∧ w = w' := by
  go_enter Tryz.func101, Tryz.ntmps101
  go_wp2_with fail
  go_ret
  exact ⟨by simp, rfl⟩

set_option maxHeartbeats 400000 in
theorem compare_string (x y : ByteArray) (w : World) : Calls Tryz.prog 84 #[.string x, .string y] w fun e w' => e = .returned (.int .i64 (cmpS x y)) ∧ w = w' := by
  have hL : Hid (cmpS x y = if Op.bytesLess x.toList y.toList = true then -1 else if (x.toList == y.toList) = true then 0 else 1) := rfl
  go_enter Tryz.func84, Tryz.ntmps84
  go_wp2_with fail
  refine (isNaN_string x _).mono ?_
  rintro e w' ⟨rfl, rfl⟩
  go_wp2_with fail
  refine (isNaN_string y _).mono ?_
  rintro e w' ⟨rfl, rfl⟩
  cases h1 : Op.bytesLess x.toList y.toList
  · cases h2 : (x.toList == y.toList)
    · go_wp2_with fail
      go_ret
      exact ⟨ret_int (by rw [hL.out, h1, h2]; rfl), rfl⟩
    · go_wp2_with fail
      go_ret
      exact ⟨ret_int (by rw [hL.out, h1, h2]; rfl), rfl⟩
  · go_wp2_with fail
    go_ret
    exact ⟨ret_int (by rw [hL.out, h1]; rfl), rfl⟩

def orI (x y : Int) : Int := if x = 0 then y else x
set_option maxRecDepth 100000 in
set_option maxHeartbeats 1000000 in
theorem or_two (A : Option Addr) (c : Nat) (x y : Int) (w : World) (hr : Rd w A (ints [x, y])) : Calls Tryz.prog 82 #[.slice A 2 c] w fun e w' => e = .returned (.int .i64 (orI x y)) ∧ w = w' := by
  have g0 := ints_get [x, y] 0 (by simp)
  have g1 := ints_get [x, y] 1 (by simp)
  obtain ⟨b, o, rfl, hbl, hc⟩ := hr (by intro e; rw [e] at g0; cases g0)
  have c0 := hc 0 _ g0
  have c1 := hc 1 _ g1
  simp at c0 c1
  clear hc g0 g1 hr
  go_enter Tryz.func82, Tryz.ntmps82
  go_wp2_with fail
  go_loop [8] (fun i => ∃ (j : Nat), j ≤ 2 ∧ i = .int .i64 j ∧ Hid ((1 ≤ j → x = 0) ∧ (2 ≤ j → y = 0))) (fun i => 2 - (intOf i).toNat)
  case atStart => exact ⟨0, Nat.zero_le _, rfl, fun h => by omega, fun h => by omega⟩
  case round =>
    obtain ⟨j, hj, rfl, HA⟩ := hrel
    have : j = 0 ∨ j = 1 ∨ j = 2 := by omega
    rcases this with rfl | rfl | rfl
    · by_cases h0 : x = 0
      · go_wp2_with fail
        go_round
        case rel => exact ⟨1, by omega, rfl, fun _ => h0, fun h => by omega⟩
        case measure => simp [intOf]
      · go_wp2_with fail
        go_ret
        exact ⟨ret_int (by rw [orI, if_neg h0]), rfl⟩
    · have hx := HA.out.1 (by omega)
      have Hx := Lib.hid hx
      clear hx
      by_cases h0 : y = 0
      · go_wp2_with fail
        go_round
        case rel => exact ⟨2, by omega, rfl, fun _ => Hx.out, fun _ => h0⟩
        case measure => simp [intOf]
      · go_wp2_with fail
        go_ret
        exact ⟨ret_int (by rw [orI, if_pos Hx.out]), rfl⟩
    · go_wp2_with fail
      go_ret
      exact ⟨ret_int (by rw [orI, if_pos (HA.out.1 (by omega)), HA.out.2 (by omega)]), rfl⟩

def cmpW (u v : ByteArray) : Int := orI (cmpI u.size v.size) (cmpS u v)
set_option maxRecDepth 100000 in
set_option maxHeartbeats 1000000 in
theorem compareWords_any (u v : ByteArray) (w : World) (_ : u.size ≤ 9223372036854775807) (_ : v.size ≤ 9223372036854775807) :
    Calls Tryz.prog 68 #[.string u, .string v] w (Kept w (.int .i64 (cmpW u v))) := by
  go_enter Tryz.func68, Tryz.ntmps68
  go_wp2_with fail
  refine (compare_int u.size v.size _).mono ?_
  rintro e w' ⟨rfl, rfl⟩
  go_wp2_with fail
  refine (compare_string u v _).mono ?_
  rintro e w' ⟨rfl, rfl⟩
  obtain ⟨p, hrr⟩ : ∃ r', r' = (cmpI u.size v.size) := ⟨_, rfl⟩
  rw [← hrr]
  have HP := Lib.hid hrr
  clear hrr
  obtain ⟨q, hrr⟩ : ∃ r', r' = (cmpS u v) := ⟨_, rfl⟩
  rw [← hrr]
  have HQ := Lib.hid hrr
  clear hrr
  go_wp2_with fail
  refine (or_two _ _ p q _ ?_).mono ?_
  · intro _
    refine ⟨w.heap.size, 0, rfl, by simp, fun k v hk => ?_⟩
    rw [Nat.zero_add, (Bk.new w 3 #[Value.int .i64 p, Value.int .i64 q]).cell k]
    simpa [ints] using hk
  rintro e w1 ⟨rfl, rfl⟩
  go_wp2_with fail
  go_ret
  exact ⟨ret_int (by rw [cmpW, HP.out, HQ.out]), (Below.refl _ _).alloc (Nat.le_refl _) _⟩

theorem less_cmp (u v : ByteArray) : decide (cmpW u v < 0) = lessW u v := by
  unfold cmpW lessW orI
  by_cases h : u.size = v.size
  · have e : cmpI u.size v.size = 0 := by unfold cmpI; rw [if_neg (by omega), if_neg (by omega)]
    rw [if_pos e, if_pos h]
    unfold cmpS
    cases h1 : Op.bytesLess u.toList v.toList
    · cases h2 : (u.toList == v.toList) <;> rfl
    · rfl
  · rw [if_neg h]
    by_cases h1 : u.size < v.size
    · have e : cmpI u.size v.size = -1 := by unfold cmpI; rw [if_pos (by omega)]
      rw [e, if_neg (by omega), decide_eq_true h1]
      rfl
    · have e : cmpI u.size v.size = 1 := by unfold cmpI; rw [if_neg (by omega), if_pos (by omega)]
      rw [e, if_neg (by omega), decide_eq_false h1]
      rfl

set_option maxRecDepth 100000 in
set_option maxHeartbeats 1000000 in
theorem implLess_any (u v : ByteArray) (w : World) (hu : u.size ≤ 9223372036854775807) (hv : v.size ≤ 9223372036854775807) :
    Calls Tryz.prog 44 #[.string u, .string v] w (Kept w (.bool (lessW u v))) := by
  go_enter Tryz.func44, Tryz.ntmps44
  go_wp2_with fail
  refine (compareWords_any u v _ hu hv).mono ?_
  rintro e w' ⟨rfl, b1⟩
  obtain ⟨p, hrr⟩ : ∃ r', r' = (cmpW u v) := ⟨_, rfl⟩
  rw [← hrr]
  have HP := Lib.hid hrr
  clear hrr
  go_wp2_with fail
  go_ret
  exact ⟨ret_bool (by rw [← less_cmp, ← HP.out]), b1⟩

end Go.Proofs.YteafeecndghapaaGreat

/- More of the reference's source: l01Pick, l01Near, l02Any, OrientRule. -/
namespace Go.Proofs.YteafeecndghapaaGreat
open Go.RowKit Go.Shelf

theorem Src.underI {w : World} {P : Nat} {A : Option Addr} {n c : Nat} {zs : List Int} (h : Src w P A n c zs) (k : Nat) (z : Int) (hz : z = (k : Int)) (h1 : 1 ≤ k) (h2 : k ≤ 256) :
    Calls Tryz.prog 51 #[.pointer (some ⟨P, 0, none⟩), .int .i64 z] w (fun e w' => ∃ x : Nat, x < k ∧ e = .returned (.int .i64 x) ∧ Src w' P A n c zs ∧ w.grownBy w' (some P)) := by rw [hz]; exact h.under h1 h2
theorem Src.onceI {w : World} {P : Nat} {A : Option Addr} {n c : Nat} {zs : List Int} (h : Src w P A n c zs) (k : Nat) (z : Int) (hz : z = (k : Int)) (h1 : 1 ≤ k) (h2 : k ≤ 256) :
    Calls Tryz.prog 33 #[.pointer (some ⟨P, 0, none⟩), .int .i64 z] w (fun e w' => ∃ b : Bool, e = .returned (.bool b) ∧ Src w' P A n c zs ∧ w.grownBy w' (some P)) := by rw [hz]; exact h.once h1 h2
theorem Src.wordI {w : World} {P : Nat} {A : Option Addr} {n c : Nat} {zs : List Int} (h : Src w P A n c zs) (k m : Nat) (z y : Int) (hz : z = (k : Int)) (hy : y = (m : Int)) (h1 : 1 ≤ k) (h2 : k ≤ 4) (hm : m ≤ 200) :
    Calls Tryz.prog 25 #[.pointer (some ⟨P, 0, none⟩), .int .i64 z, .int .i64 y] w (fun e w' => ∃ s : ByteArray, s.size ≤ m ∧ lettersOk k s = true ∧ e = .returned (.string s) ∧ Src w' P A n c zs ∧ w.grownBy w' (some P)) := by rw [hz, hy]; exact h.word h1 h2 hm

set_option maxRecDepth 100000 in
set_option maxHeartbeats 2000000 in
theorem Src.pick {w : World} {P : Nat} {A : Option Addr} {n c k cc g : Nat} {zs : List Int} {l : List Int} (h : Src w P A n c zs) (hB : Bk w g 3 (ints l).toArray) (hg : g ≠ P) (hk : k = l.length) (h1 : 1 ≤ k) (h2 : k ≤ 256) :
    Calls Tryz.prog 63 #[.pointer (some ⟨P, 0, none⟩), .slice (some ⟨g, 0, none⟩) k cc] w (fun e w' => ∃ s ∈ l, e = .returned (.int .i64 s) ∧ Src w' P A n c zs ∧ w.grownBy w' (some P)) := by
  have H := Lib.hid h
  clear h
  have HB := Lib.hid hB
  clear hB
  have Hk := Lib.hid hk
  clear hk
  go_enter Tryz.func63, Tryz.ntmps63
  go_wp2_with fail
  with_reducible refine (H.out.under h1 h2).mono ?_
  rintro e w1 ⟨x, hx, rfl, hS1, hG1⟩
  have hB1 : Bk w1 g 3 (ints l).toArray := HB.out.grown hG1 (by intro e; injection e with e; exact hg e)
  have hxl : x < l.length := by rw [← Hk.out]; exact hx
  have hu : (ints l)[x]? = some (.int .i64 l[x]) := by simp [ints, hxl]
  have q0 : w1.cell? ⟨g, x, none⟩ = some (.int .i64 l[x]) := by rw [hB1.cell]; simpa using hu
  have hm : l[x] ∈ l := List.getElem_mem hxl
  obtain ⟨y, hy⟩ : ∃ y, y = l[x] := ⟨_, rfl⟩
  rw [← hy] at q0 hm
  clear hu hB1 hy hxl
  have HS1 := Lib.hid hS1
  clear hS1
  have HG1 := Lib.hid hG1
  clear hG1
  have Hm := Lib.hid hm
  clear hm
  go_wp2_with fail
  go_ret
  exact ⟨_, Hm.out, rfl, HS1.out, HG1.out⟩

def NearMade (P : Nat) (A : Option Addr) (n c : Nat) (zs : List Int) (w : World) (e : Ending) (w' : World) : Prop := ∃ x : Int, (-9223372036854775808 ≤ x ∧ x ≤ 9223372036854775807) ∧ e = .returned (.int .i64 x) ∧ Src w' P A n c zs ∧ w.grownBy w' (some P)
set_option maxRecDepth 100000 in
set_option maxHeartbeats 2000000 in
theorem Src.near {w : World} {P : Nat} {A : Option Addr} {n c : Nat} {zs : List Int} (lo m : Nat) (h : Src w P A n c zs) (hlo : lo ≤ 100) (hm : m ≤ 100) :
    Calls Tryz.prog 34 #[.pointer (some ⟨P, 0, none⟩), .int .i64 lo, .int .i64 ((lo : Int) + m)] w (NearMade P A n c zs w) := by
  have H := Lib.hid h
  clear h
  go_enter Tryz.func34, Tryz.ntmps34
  go_wp2_with fail
  with_reducible refine (H.out.underI 12 12 rfl (by omega) (by omega)).mono ?_
  rintro e w1 ⟨x, hx, rfl, hS1, hG1⟩
  have hx5 : x = 0 ∨ x = 1 ∨ x = 2 ∨ x = 3 ∨ x = 4 ∨ 5 ≤ x := by omega
  rcases hx5 with rfl | rfl | rfl | rfl | rfl | hx5
  · skip
    have HS1 := Lib.hid hS1
    clear hS1
    have HG1 := Lib.hid hG1
    clear hG1
    go_wp2_with fail
    go_ret
    exact ⟨_, by omega, rfl, HS1.out, HG1.out⟩
  · skip
    have HS1 := Lib.hid hS1
    clear hS1
    have HG1 := Lib.hid hG1
    clear hG1
    go_wp2_with fail
    go_ret
    exact ⟨_, by omega, rfl, HS1.out, HG1.out⟩
  · skip
    have HS1 := Lib.hid hS1
    clear hS1
    have HG1 := Lib.hid hG1
    clear hG1
    go_wp2_with fail
    go_ret
    exact ⟨_, by omega, rfl, HS1.out, HG1.out⟩
  · skip
    have HS1 := Lib.hid hS1
    clear hS1
    have HG1 := Lib.hid hG1
    clear hG1
    go_wp2_with fail
    go_ret
    exact ⟨_, by omega, rfl, HS1.out, HG1.out⟩
  · skip
    have HS1 := Lib.hid hS1
    clear hS1
    have HG1 := Lib.hid hG1
    clear hG1
    go_wp2_with fail
    have hbk : Bk (w1.alloc (.cells #[.int .i64 9223372036854775807, .int .i64 (-9223372036854775808), .int .i64 (-1), .int .i64 0, .int .i64 1000000000] 3)) w1.heap.size 3 (ints [9223372036854775807, -9223372036854775808, -1, 0, 1000000000]).toArray := Bk.new w1 3 #[.int .i64 9223372036854775807, .int .i64 (-9223372036854775808), .int .i64 (-1), .int .i64 0, .int .i64 1000000000]
    have hal := (Below.refl w1.heap.size w1).alloc (Nat.le_refl _) (.cells #[.int .i64 9223372036854775807, .int .i64 (-9223372036854775808), .int .i64 (-1), .int .i64 0, .int .i64 1000000000] 3)
    have hne : w1.heap.size ≠ P := by have := HS1.out.cur.lt; omega
    with_reducible refine (Src.pick (k := 5) (l := [9223372036854775807, -9223372036854775808, -1, 0, 1000000000]) (HS1.out.below hal) hbk hne rfl (by omega) (by omega)).mono ?_
    rintro e w2 ⟨y, hy, rfl, hS2, hG2⟩
    have hG3 := gb_trans HG1.out (gb_trans (gb_of_below hal _) hG2)
    have hyr : -9223372036854775808 ≤ y ∧ y ≤ 9223372036854775807 := by
      simp only [List.mem_cons, List.not_mem_nil, or_false] at hy
      omega
    clear hbk hal hne hG2 hy
    have HS2 := Lib.hid hS2
    clear hS2
    have HG3 := Lib.hid hG3
    clear hG3
    have Hyr := Lib.hid hyr
    clear hyr
    go_wp2_with fail
    go_ret
    exact ⟨_, Hyr.out, rfl, HS2.out, HG3.out⟩
  · have hmw : ¬ (60000 : Int) < (m : Int) := by omega
    have hsb : (lo : Int) + (m : Int) - (lo : Int) = (m : Int) := by omega
    have HS1 := Lib.hid hS1
    clear hS1
    have HG1 := Lib.hid hG1
    clear hG1
    go_wp2_with fail
    with_reducible refine (HS1.out.underI (m + 1) ((m : Int) + 1) (by omega) (by omega) (by omega)).mono ?_
    rintro e w2 ⟨y, hy, rfl, hS2, hG2⟩
    have hG3 := gb_trans HG1.out hG2
    clear hG2
    have HS2 := Lib.hid hS2
    clear hS2
    have HG3 := Lib.hid hG3
    clear hG3
    go_wp2_with fail
    go_ret
    exact ⟨_, by omega, rfl, HS2.out, HG3.out⟩

def AnyMade (P : Nat) (A : Option Addr) (n c : Nat) (zs : List Int) (w : World) (e : Ending) (w' : World) : Prop := ∃ s : ByteArray, s.size ≤ 24 ∧ e = .returned (.string s) ∧ Src w' P A n c zs ∧ w.grownBy w' (some P)
set_option maxRecDepth 100000 in
set_option maxHeartbeats 2000000 in
theorem Src.anyW {w : World} {P : Nat} {A : Option Addr} {n c : Nat} {zs : List Int} (h : Src w P A n c zs) :
    Calls Tryz.prog 60 #[.pointer (some ⟨P, 0, none⟩)] w (AnyMade P A n c zs w) := by
  have H := Lib.hid h
  clear h
  go_enter Tryz.func60, Tryz.ntmps60
  go_wp2_with fail
  with_reducible refine (H.out.underI 2 2 rfl (by omega) (by omega)).mono ?_
  rintro e w1 ⟨x, hx, rfl, hS1, hG1⟩
  have HS1 := Lib.hid hS1
  clear hS1
  have HG1 := Lib.hid hG1
  clear hG1
  go_wp2_with fail
  with_reducible refine (HS1.out.wordI (2 + x) 8 (2 + (x : Int)) 8 (by omega) rfl (by omega) (by omega) (by omega)).mono ?_
  rintro e w2 ⟨s, hs, -, rfl, hS2, hG2⟩
  have hG3 := gb_trans HG1.out hG2
  clear hG2
  have HS2 := Lib.hid hS2
  clear hS2
  have HG3 := Lib.hid hG3
  clear hG3
  go_wp2_with fail
  with_reducible refine (HS2.out.underI 10 10 rfl (by omega) (by omega)).mono ?_
  rintro e w3 ⟨y, hy, rfl, hS4, hG4⟩
  have hG5 := gb_trans HG3.out hG4
  clear hG4
  have hy3 : y = 0 ∨ y = 1 ∨ 2 ≤ y := by omega
  obtain ⟨s1, hs1⟩ : ∃ t, t = s ++ (⟨#[122]⟩ : ByteArray) := ⟨_, rfl⟩
  have hz1 : s1.size = s.size + 1 := by rw [hs1, ByteArray.size_append]; rfl
  obtain ⟨s2, hs2⟩ : ∃ t, t = (s ++ s) ++ (⟨#[97, 98, 97, 98, 97, 98, 97, 98]⟩ : ByteArray) := ⟨_, rfl⟩
  have hz2 : s2.size = s.size + s.size + 8 := by rw [hs2, ByteArray.size_append, ByteArray.size_append]; rfl
  have hz3 : (s ++ s).size = s.size + s.size := ByteArray.size_append
  rcases hy3 with rfl | rfl | hy2
  · skip
    have HS4 := Lib.hid hS4
    clear hS4
    have HG5 := Lib.hid hG5
    clear hG5
    go_wp2_with fail
    rw [← hs1]
    have Hs1 := Lib.hid hs1
    clear hs1
    have Hs2 := Lib.hid hs2
    clear hs2
    have Hz2 := Lib.hid hz2
    clear hz2
    go_ret
    exact ⟨_, by omega, rfl, HS4.out, HG5.out⟩
  · skip
    have HS4 := Lib.hid hS4
    clear hS4
    have HG5 := Lib.hid hG5
    clear hG5
    go_wp2_with fail
    rw [← hs2]
    have Hs1 := Lib.hid hs1
    clear hs1
    have Hs2 := Lib.hid hs2
    clear hs2
    have Hz1 := Lib.hid hz1
    clear hz1
    go_ret
    exact ⟨_, by omega, rfl, HS4.out, HG5.out⟩
  · skip
    have HS4 := Lib.hid hS4
    clear hS4
    have HG5 := Lib.hid hG5
    clear hG5
    have Hs1 := Lib.hid hs1
    clear hs1
    have Hs2 := Lib.hid hs2
    clear hs2
    have Hz1 := Lib.hid hz1
    clear hz1
    have Hz2 := Lib.hid hz2
    clear hz2
    go_wp2_with fail
    go_ret
    exact ⟨_, by omega, rfl, HS4.out, HG5.out⟩

/-- A rule turned so that it falls. -/
def orientR (k : Int) (x y : ByteArray) : (ByteArray × ByteArray) × Bool :=
  if (!sidesOk k x y || x.toList == y.toList) = true then ((⟨#[]⟩, ⟨#[]⟩), false) else if lessW x y = true then ((y, x), true) else ((x, y), true)

set_option maxRecDepth 100000 in
set_option maxHeartbeats 2000000 in
theorem orient_any (k : Int) (x y : ByteArray) (w : World) (hx : x.size ≤ 1048576) (hy : y.size ≤ 1048576) :
    Calls Tryz.prog 54 #[.int .i64 k, .agg #[.string x, .string y]] w (Kept w (.tuple #[.agg #[.string (orientR k x y).1.1, .string (orientR k x y).1.2], .bool (orientR k x y).2])) := by
  have hW0 : Below w.heap.size w ((w.alloc (.cells #[.string x, .string y] 68)).alloc (.cells #[.string ⟨#[]⟩, .string ⟨#[]⟩] 68)) := ((Below.refl _ _).alloc (Nat.le_refl _) _).alloc (by simp) _
  have hB0 := (Bk.new w 68 #[.string x, .string y]).alloc (.cells #[.string ⟨#[]⟩, .string ⟨#[]⟩] 68)
  have hB1 := (Bk.new (w.alloc (.cells #[.string x, .string y] 68)) 68 #[.string ⟨#[]⟩, .string ⟨#[]⟩]).cast (g' := w.heap.size + 1) (by simp)
  obtain ⟨hb, hhb⟩ : ∃ z, z = w.heap.size := ⟨_, rfl⟩
  have HW0 := Lib.hid hW0
  clear hW0
  have HB0 := Lib.hid hB0
  clear hB0
  have HB1 := Lib.hid hB1
  clear hB1
  go_enter Tryz.func54, Tryz.ntmps54
  go_wp2_with fail
  with_reducible refine (specSides_any k x y _ (by omega) (by omega)).mono ?_
  rintro e w1 ⟨rfl, b1⟩
  have hW1 := HW0.out.trans (b1.mono HW0.out.size)
  have hA1 := HB0.out.below b1 HB0.out.lt
  have hC1 := HB1.out.below b1 HB1.out.lt
  clear b1 HB0 HB1 HW0
  rw [← hhb] at hA1 hC1 hW1
  rw [← hhb]
  have c0 : w1.cell? ⟨hb, 0, none⟩ = some (.string x) := by rw [hA1.cell]; rfl
  have c1 : w1.cell? ⟨hb, 1, none⟩ = some (.string y) := by rw [hA1.cell]; rfl
  have c2 : w1.cell? ⟨hb + 1, 0, none⟩ = some (.string ⟨#[]⟩) := by rw [hC1.cell]; rfl
  have c3 : w1.cell? ⟨hb + 1, 1, none⟩ = some (.string ⟨#[]⟩) := by rw [hC1.cell]; rfl
  have f0 := hA1.free 0
  have f1 := hA1.free 1
  have f2 := hC1.free 0
  have f3 := hC1.free 1
  have l0 := hA1.lt
  have l1 := hC1.lt
  have HW1 := Lib.hid hW1
  clear hW1
  have HA1 := Lib.hid hA1
  clear hA1
  have HC1 := Lib.hid hC1
  clear hC1
  have Hhb := Lib.hid hhb
  clear hhb
  obtain ⟨r1, hrr⟩ : ∃ r', r' = (sidesOk k x y) := ⟨_, rfl⟩
  rw [← hrr]
  have H1 := Lib.hid hrr
  clear hrr
  obtain ⟨r2, hr2⟩ : ∃ r, (x.toList == y.toList) = r := ⟨_, rfl⟩
  obtain ⟨r3, hr3⟩ : ∃ r, lessW x y = r := ⟨_, rfl⟩
  cases r1
  · go_wp2_with fail
    have hBn := (HC1.out.put 0 (.string ⟨#[]⟩)).put 1 (.string ⟨#[]⟩)
    have q0 := hBn.cell 0
    have q1 := hBn.cell 1
    have hW9 := (HW1.out.setCell (p := ⟨hb + 1, 0, none⟩) (by dsimp only; omega) (.string ⟨#[]⟩)).setCell (p := ⟨hb + 1, 1, none⟩) (by dsimp only; omega) (.string ⟨#[]⟩)
    refine bodyPost_ret (v := .tuple #[.agg #[.string ⟨#[]⟩, .string ⟨#[]⟩], .bool false]) (by simp [results, Tryz.results54, go_sem, q0, q1]) rfl ?_
    have ho : orientR k x y = ((⟨#[]⟩, ⟨#[]⟩), false) := by simp [orientR, ← H1.out, hr2, hr3]
    rw [ho]
    refine ⟨rfl, ?_⟩
    rw [← Hhb.out]
    exact hW9
  · cases r2
    · cases r3
      · go_wp2_with fail
        with_reducible refine (specLess_any x y _ (by omega) (by omega)).mono ?_
        rintro e w2 ⟨rfl, rfl⟩
        rw [hr3]
        go_wp2_with fail
        have hBn := (HC1.out.put 0 (.string x)).put 1 (.string y)
        have q0 := hBn.cell 0
        have q1 := hBn.cell 1
        have hW9 := (HW1.out.setCell (p := ⟨hb + 1, 0, none⟩) (by dsimp only; omega) (.string x)).setCell (p := ⟨hb + 1, 1, none⟩) (by dsimp only; omega) (.string y)
        refine bodyPost_ret (v := .tuple #[.agg #[.string x, .string y], .bool true]) (by simp [results, Tryz.results54, go_sem, q0, q1]) rfl ?_
        have ho : orientR k x y = ((x, y), true) := by simp [orientR, ← H1.out, hr2, hr3]
        rw [ho]
        refine ⟨rfl, ?_⟩
        rw [← Hhb.out]
        exact hW9
      · go_wp2_with fail
        with_reducible refine (specLess_any x y _ (by omega) (by omega)).mono ?_
        rintro e w2 ⟨rfl, rfl⟩
        rw [hr3]
        go_wp2_with fail
        have hBn := (HC1.out.put 0 (.string y)).put 1 (.string x)
        have q0 := hBn.cell 0
        have q1 := hBn.cell 1
        have hW9 := (HW1.out.setCell (p := ⟨hb + 1, 0, none⟩) (by dsimp only; omega) (.string y)).setCell (p := ⟨hb + 1, 1, none⟩) (by dsimp only; omega) (.string x)
        refine bodyPost_ret (v := .tuple #[.agg #[.string y, .string x], .bool true]) (by simp [results, Tryz.results54, go_sem, q0, q1]) rfl ?_
        have ho : orientR k x y = ((y, x), true) := by simp [orientR, ← H1.out, hr2, hr3]
        rw [ho]
        refine ⟨rfl, ?_⟩
        rw [← Hhb.out]
        exact hW9
    · go_wp2_with fail
      have hBn := (HC1.out.put 0 (.string ⟨#[]⟩)).put 1 (.string ⟨#[]⟩)
      have q0 := hBn.cell 0
      have q1 := hBn.cell 1
      have hW9 := (HW1.out.setCell (p := ⟨hb + 1, 0, none⟩) (by dsimp only; omega) (.string ⟨#[]⟩)).setCell (p := ⟨hb + 1, 1, none⟩) (by dsimp only; omega) (.string ⟨#[]⟩)
      refine bodyPost_ret (v := .tuple #[.agg #[.string ⟨#[]⟩, .string ⟨#[]⟩], .bool false]) (by simp [results, Tryz.results54, go_sem, q0, q1]) rfl ?_
      have ho : orientR k x y = ((⟨#[]⟩, ⟨#[]⟩), false) := by simp [orientR, ← H1.out, hr2, hr3]
      rw [ho]
      refine ⟨rfl, ?_⟩
      rw [← Hhb.out]
      exact hW9

end Go.Proofs.YteafeecndghapaaGreat
