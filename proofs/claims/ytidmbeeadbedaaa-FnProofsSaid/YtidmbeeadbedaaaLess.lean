/- Walks over IsLess (the program's and the reference's), compareWords and package cmp: each returns what lessW and cmpW say. -/
import Derived.Test.YtidmbeeadbedaaaMg2
namespace Go.Proofs.Ytidmbeeadbedaaa
open Go.RowKit Go.Shelf

/-- u lies before v: by the lengths, then bytewise. -/
def lessW (u v : ByteArray) : Bool := if u.size = v.size then Op.bytesLess u.toList v.toList else decide (u.size < v.size)
def cmpI (x y : Int) : Int := if x < y then -1 else if y < x then 1 else 0
def cmpS (u v : ByteArray) : Int := if Op.bytesLess u.toList v.toList = true then -1 else if (u.toList == v.toList) = true then 0 else 1

set_option maxRecDepth 100000 in
set_option maxHeartbeats 1000000 in
theorem specLess_any (u v : ByteArray) (w : World) (_ : u.size ≤ 9223372036854775807) (_ : v.size ≤ 9223372036854775807) :
    Calls Try.prog 127 #[.string u, .string v] w fun e w' => e = .returned (.bool (lessW u v)) ∧ w = w' := by
  by_cases h : u.size = v.size
  · have h1 : (u.size : Int) = v.size := by omega
    have hL : Hid (lessW u v = Op.bytesLess u.toList v.toList) := if_pos h
    go_enter Try.func127, Try.ntmps127
    go_wp2_with fail
    go_ret
    exact ⟨ret_bool (by rw [hL.out]), rfl⟩
  · have hL : Hid (lessW u v = decide (u.size < v.size)) := if_neg h
    by_cases h1 : (u.size : Int) < v.size
    · skip
      go_enter Try.func127, Try.ntmps127
      go_wp2_with fail
      go_ret
      exact ⟨ret_bool (by rw [hL.out]; simp; omega), rfl⟩
    · skip
      go_enter Try.func127, Try.ntmps127
      go_wp2_with fail
      go_ret
      exact ⟨ret_bool (by rw [hL.out]; simp; omega), rfl⟩

set_option maxHeartbeats 400000 in
theorem isNaN_int (x : Int) (w : World) : Calls Try.prog 146 #[.int .i64 x] w fun e w' => e = .returned (.bool false) ∧ w = w' := by
  go_enter Try.func146, Try.ntmps146
  go_wp2_with fail
  go_ret
  exact ⟨by simp, rfl⟩

set_option maxHeartbeats 400000 in
theorem compare_int (x y : Int) (w : World) : Calls Try.prog 85 #[.int .i64 x, .int .i64 y] w fun e w' => e = .returned (.int .i64 (cmpI x y)) ∧ w = w' := by
  have hL : Hid (cmpI x y = if x < y then -1 else if y < x then 1 else 0) := rfl
  go_enter Try.func85, Try.ntmps85
  go_wp2_with fail
  refine (isNaN_int x _).mono ?_
  rintro e w' ⟨rfl, rfl⟩
  go_wp2_with fail
  refine (isNaN_int y _).mono ?_
  rintro e w' ⟨rfl, rfl⟩
  by_cases h1 : x < y
  · go_wp2_with fail
    go_ret
    exact ⟨ret_int (by rw [hL.out, if_pos h1]), rfl⟩
  · by_cases h2 : y < x
    · go_wp2_with fail
      go_ret
      exact ⟨ret_int (by rw [hL.out, if_neg (show ¬ x < y by omega), if_pos h2]), rfl⟩
    · go_wp2_with fail
      go_ret
      exact ⟨ret_int (by rw [hL.out, if_neg (show ¬ x < y by omega), if_neg (show ¬ y < x by omega)]), rfl⟩

set_option maxHeartbeats 400000 in
theorem isNaN_string (x : ByteArray) (w : World) : Calls Try.prog 170 #[.string x] w fun e w' => e = .returned (.bool false) ∧ w = w' := by
  go_enter Try.func170, Try.ntmps170
  go_wp2_with fail
  go_ret
  exact ⟨by simp, rfl⟩

set_option maxHeartbeats 400000 in
theorem compare_string (x y : ByteArray) (w : World) : Calls Try.prog 131 #[.string x, .string y] w fun e w' => e = .returned (.int .i64 (cmpS x y)) ∧ w = w' := by
  have hL : Hid (cmpS x y = if Op.bytesLess x.toList y.toList = true then -1 else if (x.toList == y.toList) = true then 0 else 1) := rfl
  go_enter Try.func131, Try.ntmps131
  go_wp2_with fail
  refine (isNaN_string x _).mono ?_
  rintro e w' ⟨rfl, rfl⟩
  go_wp2_with fail
  refine (isNaN_string y _).mono ?_
  rintro e w' ⟨rfl, rfl⟩
  cases h1 : Op.bytesLess x.toList y.toList
  · cases h2 : (x.toList == y.toList)
    · go_wp2_with fail
      go_ret
      exact ⟨ret_int (by rw [hL.out, h1, h2]; rfl), rfl⟩
    · go_wp2_with fail
      go_ret
      exact ⟨ret_int (by rw [hL.out, h1, h2]; rfl), rfl⟩
  · go_wp2_with fail
    go_ret
    exact ⟨ret_int (by rw [hL.out, h1]; rfl), rfl⟩

def orI (x y : Int) : Int := if x = 0 then y else x
set_option maxRecDepth 100000 in
set_option maxHeartbeats 1000000 in
theorem or_two (A : Option Addr) (c : Nat) (x y : Int) (w : World) (hr : Rd w A (ints [x, y])) : Calls Try.prog 84 #[.slice A 2 c] w fun e w' => e = .returned (.int .i64 (orI x y)) ∧ w = w' := by
  have g0 := ints_get [x, y] 0 (by simp)
  have g1 := ints_get [x, y] 1 (by simp)
  obtain ⟨b, o, rfl, hbl, hc⟩ := hr (by intro e; rw [e] at g0; cases g0)
  have c0 := hc 0 _ g0
  have c1 := hc 1 _ g1
  simp at c0 c1
  clear hc g0 g1 hr
  go_enter Try.func84, Try.ntmps84
  go_wp2_with fail
  go_loop [8] (fun i => ∃ (j : Nat), j ≤ 2 ∧ i = .int .i64 j ∧ Hid ((1 ≤ j → x = 0) ∧ (2 ≤ j → y = 0))) (fun i => 2 - (intOf i).toNat)
  case atStart => exact ⟨0, Nat.zero_le _, rfl, fun h => by omega, fun h => by omega⟩
  case round =>
    obtain ⟨j, hj, rfl, HA⟩ := hrel
    have : j = 0 ∨ j = 1 ∨ j = 2 := by omega
    rcases this with rfl | rfl | rfl
    · by_cases h0 : x = 0
      · go_wp2_with fail
        go_round
        case rel => exact ⟨1, by omega, rfl, fun _ => h0, fun h => by omega⟩
        case measure => simp [intOf]
      · go_wp2_with fail
        go_ret
        exact ⟨ret_int (by rw [orI, if_neg h0]), rfl⟩
    · have hx := HA.out.1 (by omega)
      have Hx := Lib.hid hx
      clear hx
      by_cases h0 : y = 0
      · go_wp2_with fail
        go_round
        case rel => exact ⟨2, by omega, rfl, fun _ => Hx.out, fun _ => h0⟩
        case measure => simp [intOf]
      · go_wp2_with fail
        go_ret
        exact ⟨ret_int (by rw [orI, if_pos Hx.out]), rfl⟩
    · go_wp2_with fail
      go_ret
      exact ⟨ret_int (by rw [orI, if_pos (HA.out.1 (by omega)), HA.out.2 (by omega)]), rfl⟩

def cmpW (u v : ByteArray) : Int := orI (cmpI u.size v.size) (cmpS u v)
set_option maxRecDepth 100000 in
set_option maxHeartbeats 1000000 in
theorem compareWords_any (u v : ByteArray) (w : World) (_ : u.size ≤ 9223372036854775807) (_ : v.size ≤ 9223372036854775807) :
    Calls Try.prog 71 #[.string u, .string v] w (Kept w (.int .i64 (cmpW u v))) := by
  go_enter Try.func71, Try.ntmps71
  go_wp2_with fail
  refine (compare_int u.size v.size _).mono ?_
  rintro e w' ⟨rfl, rfl⟩
  go_wp2_with fail
  refine (compare_string u v _).mono ?_
  rintro e w' ⟨rfl, rfl⟩
  obtain ⟨p, hrr⟩ : ∃ r', r' = (cmpI u.size v.size) := ⟨_, rfl⟩
  rw [← hrr]
  have HP := Lib.hid hrr
  clear hrr
  obtain ⟨q, hrr⟩ : ∃ r', r' = (cmpS u v) := ⟨_, rfl⟩
  rw [← hrr]
  have HQ := Lib.hid hrr
  clear hrr
  go_wp2_with fail
  refine (or_two _ _ p q _ ?_).mono ?_
  · intro _
    refine ⟨w.heap.size, 0, rfl, by simp, fun k v hk => ?_⟩
    rw [Nat.zero_add, (Bk.new w 3 #[Value.int .i64 p, Value.int .i64 q]).cell k]
    simpa [ints] using hk
  rintro e w1 ⟨rfl, rfl⟩
  go_wp2_with fail
  go_ret
  exact ⟨ret_int (by rw [cmpW, HP.out, HQ.out]), (Below.refl _ _).alloc (Nat.le_refl _) _⟩

theorem less_cmp (u v : ByteArray) : decide (cmpW u v < 0) = lessW u v := by
  unfold cmpW lessW orI
  by_cases h : u.size = v.size
  · have e : cmpI u.size v.size = 0 := by unfold cmpI; rw [if_neg (by omega), if_neg (by omega)]
    rw [if_pos e, if_pos h]
    unfold cmpS
    cases h1 : Op.bytesLess u.toList v.toList
    · cases h2 : (u.toList == v.toList) <;> rfl
    · rfl
  · rw [if_neg h]
    by_cases h1 : u.size < v.size
    · have e : cmpI u.size v.size = -1 := by unfold cmpI; rw [if_pos (by omega)]
      rw [e, if_neg (by omega), decide_eq_true h1]
      rfl
    · have e : cmpI u.size v.size = 1 := by unfold cmpI; rw [if_neg (by omega), if_pos (by omega)]
      rw [e, if_neg (by omega), decide_eq_false h1]
      rfl

set_option maxRecDepth 100000 in
set_option maxHeartbeats 1000000 in
theorem implLess_any (u v : ByteArray) (w : World) (hu : u.size ≤ 9223372036854775807) (hv : v.size ≤ 9223372036854775807) :
    Calls Try.prog 15 #[.string u, .string v] w (Kept w (.bool (lessW u v))) := by
  go_enter Try.func15, Try.ntmps15
  go_wp2_with fail
  refine (compareWords_any u v _ hu hv).mono ?_
  rintro e w' ⟨rfl, b1⟩
  obtain ⟨p, hrr⟩ : ∃ r', r' = (cmpW u v) := ⟨_, rfl⟩
  rw [← hrr]
  have HP := Lib.hid hrr
  clear hrr
  go_wp2_with fail
  go_ret
  exact ⟨ret_bool (by rw [← less_cmp, ← HP.out]), b1⟩

end Go.Proofs.Ytidmbeeadbedaaa
