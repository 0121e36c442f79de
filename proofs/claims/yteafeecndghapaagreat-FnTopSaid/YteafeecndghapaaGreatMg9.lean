/- Merged texts: a claim has a limit of files. -/
import Derived.Test.YteafeecndghapaaGreatMg8
import Derived.Deep.RegionHeld3

/- Walks over ReplaceAt (the program's and the reference's), and strings.HasPrefix: each returns what replOk, replS and hasPre say, for all arguments. -/
namespace Go.Proofs.YteafeecndghapaaGreat
open Go.RowKit Go.Shelf

/-- strings.HasPrefix, in plain words. -/
def hasPre (s p : ByteArray) : Bool := decide (p.size ≤ s.size) && ((s.extract 0 p.size).toList == p.toList)

set_option maxRecDepth 100000 in
theorem litePrefix_any (s p : ByteArray) (w : World) (hs : s.size ≤ 9223372036854775807) (hp : p.size ≤ 9223372036854775807) :
    Calls Tryz.prog 81 #[.string s, .string p] w (Kept w (.bool (hasPre s p))) := by
  by_cases h1 : p.size ≤ s.size
  · cases h2 : (s.extract 0 p.size).toList == p.toList
    · have e : hasPre s p = false := by rw [hasPre, h2, Bool.and_false]
      have E := Lib.hid e
      clear e
      go_enter Tryz.func81, Tryz.ntmps81
      go_wp2_with fail
      go_ret
      exact ⟨ret_bool (by rw [E.out]), by first | exact Below.refl _ _ | exact (Below.refl _ _).drew⟩
    · have e : hasPre s p = true := by rw [hasPre, h2, decide_eq_true h1]; rfl
      have E := Lib.hid e
      clear e
      go_enter Tryz.func81, Tryz.ntmps81
      go_wp2_with fail
      go_ret
      exact ⟨ret_bool (by rw [E.out]), by first | exact Below.refl _ _ | exact (Below.refl _ _).drew⟩
  · have e : hasPre s p = false := by rw [hasPre, decide_eq_false h1]; rfl
    have E := Lib.hid e
    clear e
    go_enter Tryz.func81, Tryz.ntmps81
    go_wp2_with fail
    go_ret
    exact ⟨ret_bool (by rw [E.out]), by first | exact Below.refl _ _ | exact (Below.refl _ _).drew⟩

set_option maxRecDepth 100000 in
theorem hasPrefix_any (s p : ByteArray) (w : World) (hs : s.size ≤ 9223372036854775807) (hp : p.size ≤ 9223372036854775807) :
    Calls Tryz.prog 57 #[.string s, .string p] w (Kept w (.bool (hasPre s p))) := by
  go_enter Tryz.func57, Tryz.ntmps57
  go_wp2_with fail
  refine (litePrefix_any s p _ hs hp).mono ?_
  rintro e w' ⟨rfl, b1⟩
  go_wp2_with fail
  go_ret
  exact ⟨rfl, b1⟩

theorem extract_extract_bytes (s : ByteArray) (p n : Nat) (h : p + n ≤ s.size) : (s.extract p s.size).extract 0 n = s.extract p (p + n) := by
  apply ByteArray.ext
  simp [ByteArray.data_extract, Array.extract_extract]
  congr 1
  omega
/-- The prefix of what stands at place p. -/
theorem hasPre_at (s l : ByteArray) (p : Nat) (hp : p ≤ s.size) : hasPre (s.extract p s.size) l = hasAt s l p := by
  have e : (s.extract p s.size).size = s.size - p := by simp
  unfold hasPre hasAt
  rw [e]
  by_cases h : l.size + p ≤ s.size
  · rw [decide_eq_true h, decide_eq_true (by omega : l.size ≤ s.size - p), extract_extract_bytes s p l.size (by omega)]
  · rw [decide_eq_false h, decide_eq_false (by omega : ¬ l.size ≤ s.size - p)]; rfl

set_option maxRecDepth 100000 in
set_option maxHeartbeats 1000000 in
theorem specReplace_any (s : ByteArray) (p n : Int) (b : ByteArray) (w : World) (hs : s.size ≤ 1048576) (hb : b.size ≤ 1048576) :
    Calls Tryz.prog 62 #[.string s, .int .i64 p, .int .i64 n, .string b] w (Kept w (.tuple #[.string (replS s p n b), .bool (replOk s p n b)])) := by
  by_cases h1 : 0 ≤ p
  rotate_left
  · have e : replOk s p n b = false := by rw [replOk, decide_eq_false h1]; simp
    have E := Lib.hid e
    clear e
    go_enter Tryz.func62, Tryz.ntmps62
    go_wp2_with fail
    go_ret2
    exact ⟨by rw [replS_no E.out, E.out]; rfl, by first | exact Below.refl _ _ | exact (Below.refl _ _).drew⟩
  by_cases h2 : 0 ≤ n
  rotate_left
  · have e : replOk s p n b = false := by rw [replOk, decide_eq_false h2]; simp
    have E := Lib.hid e
    clear e
    go_enter Tryz.func62, Tryz.ntmps62
    go_wp2_with fail
    go_ret2
    exact ⟨by rw [replS_no E.out, E.out]; rfl, by first | exact Below.refl _ _ | exact (Below.refl _ _).drew⟩
  by_cases h3 : p ≤ (s.size : Int)
  rotate_left
  · have e : replOk s p n b = false := by rw [replOk, decide_eq_false h3]; simp
    have E := Lib.hid e
    clear e
    go_enter Tryz.func62, Tryz.ntmps62
    go_wp2_with fail
    go_ret2
    exact ⟨by rw [replS_no E.out, E.out]; rfl, by first | exact Below.refl _ _ | exact (Below.refl _ _).drew⟩
  by_cases h4 : n ≤ (s.size : Int) - p
  rotate_left
  · have e : replOk s p n b = false := by rw [replOk, decide_eq_false h4]; simp
    have E := Lib.hid e
    clear e
    go_enter Tryz.func62, Tryz.ntmps62
    go_wp2_with fail
    go_ret2
    exact ⟨by rw [replS_no E.out, E.out]; rfl, by first | exact Below.refl _ _ | exact (Below.refl _ _).drew⟩
  by_cases h5 : (s.size : Int) - n + b.size ≤ 16
  rotate_left
  · have e : replOk s p n b = false := by rw [replOk, decide_eq_false h5]; simp
    have E := Lib.hid e
    clear e
    go_enter Tryz.func62, Tryz.ntmps62
    go_wp2_with fail
    go_ret2
    exact ⟨by rw [replS_no E.out, E.out]; rfl, by first | exact Below.refl _ _ | exact (Below.refl _ _).drew⟩
  have e : replOk s p n b = true := by rw [replOk, decide_eq_true h1, decide_eq_true h2, decide_eq_true h3, decide_eq_true h4, decide_eq_true h5]; rfl
  have e2 := replS_yes e
  obtain ⟨P, rfl⟩ := Int.eq_ofNat_of_zero_le h1
  obtain ⟨N, rfl⟩ := Int.eq_ofNat_of_zero_le h2
  have e3 : replS s (P : Int) (N : Int) b = s.extract 0 P ++ b ++ s.extract (P + N) s.size := by rw [e2]; rfl
  have z1 : (s.extract 0 P).size ≤ 1048576 := by simp; omega
  have z2 : (s.extract 0 P ++ b).size ≤ 2097152 := by rw [ByteArray.size_append]; omega
  have z3 : (s.extract (P + N) s.size).size ≤ 1048576 := by simp; omega
  have c1 : ∀ W : World, (Op.stringOp .add (s.extract 0 P) b).run Tryz.prog W = .ok (.string (s.extract 0 P ++ b)) W := fun W => run_string_add_sum W _ _ (by omega)
  have c2 : ∀ W : World, (Op.stringOp .add (s.extract 0 P ++ b) (s.extract (P + N) s.size)).run Tryz.prog W = .ok (.string (s.extract 0 P ++ b ++ s.extract (P + N) s.size)) W := fun W => run_string_add_sum W _ _ (by omega)
  have hw : IntKind.i64.wrap ((P : Int) + (N : Int)) = (P : Int) + (N : Int) := IntWalk.i64_in _ ⟨by omega, by omega⟩
  have g1 : P ≤ s.size := by omega
  have g2 : P + N ≤ s.size := by omega
  have g3 : (P : Int) + (N : Int) ≤ (s.size : Int) := by omega
  have g4 : (0 : Int) ≤ (P : Int) + (N : Int) := by omega
  have g5 : ((P : Int) + (N : Int)).toNat = P + N := by omega
  clear z1 z2 z3
  have E := Lib.hid e
  clear e
  have E2 := Lib.hid e2
  clear e2
  have E3 := Lib.hid e3
  clear e3
  go_enter Tryz.func62, Tryz.ntmps62
  go_wp2_with fail
  go_region_held3 (fun _ => True) (exact trivial) (fail)
  go_wp2_with fail
  go_ret2
  exact ⟨by rw [E3.out, E.out]; rfl, by first | exact Below.refl _ _ | exact (Below.refl _ _).drew⟩

set_option maxRecDepth 100000 in
set_option maxHeartbeats 1000000 in
theorem implReplace_any (s : ByteArray) (p n : Int) (b : ByteArray) (w : World) (hs : s.size ≤ 1048576) (hb : b.size ≤ 1048576) :
    Calls Tryz.prog 58 #[.string s, .int .i64 p, .int .i64 n, .string b] w (Kept w (.tuple #[.string (replS s p n b), .bool (replOk s p n b)])) := by
  by_cases h1 : 0 ≤ p
  rotate_left
  · have e : replOk s p n b = false := by rw [replOk, decide_eq_false h1]; simp
    have E := Lib.hid e
    clear e
    go_enter Tryz.func58, Tryz.ntmps58
    go_wp2_with fail
    go_ret2
    exact ⟨by rw [replS_no E.out, E.out]; rfl, by first | exact Below.refl _ _ | exact (Below.refl _ _).drew⟩
  by_cases h2 : 0 ≤ n
  rotate_left
  · have e : replOk s p n b = false := by rw [replOk, decide_eq_false h2]; simp
    have E := Lib.hid e
    clear e
    go_enter Tryz.func58, Tryz.ntmps58
    go_wp2_with fail
    go_ret2
    exact ⟨by rw [replS_no E.out, E.out]; rfl, by first | exact Below.refl _ _ | exact (Below.refl _ _).drew⟩
  by_cases h3 : p ≤ (s.size : Int)
  rotate_left
  · have e : replOk s p n b = false := by rw [replOk, decide_eq_false h3]; simp
    have E := Lib.hid e
    clear e
    go_enter Tryz.func58, Tryz.ntmps58
    go_wp2_with fail
    go_ret2
    exact ⟨by rw [replS_no E.out, E.out]; rfl, by first | exact Below.refl _ _ | exact (Below.refl _ _).drew⟩
  by_cases h4 : n ≤ (s.size : Int) - p
  rotate_left
  · have e : replOk s p n b = false := by rw [replOk, decide_eq_false h4]; simp
    have E := Lib.hid e
    clear e
    go_enter Tryz.func58, Tryz.ntmps58
    go_wp2_with fail
    go_ret2
    exact ⟨by rw [replS_no E.out, E.out]; rfl, by first | exact Below.refl _ _ | exact (Below.refl _ _).drew⟩
  by_cases h5 : (s.size : Int) - n + b.size ≤ 16
  rotate_left
  · have e : replOk s p n b = false := by rw [replOk, decide_eq_false h5]; simp
    have E := Lib.hid e
    clear e
    go_enter Tryz.func58, Tryz.ntmps58
    go_wp2_with fail
    go_ret2
    exact ⟨by rw [replS_no E.out, E.out]; rfl, by first | exact Below.refl _ _ | exact (Below.refl _ _).drew⟩
  have e : replOk s p n b = true := by rw [replOk, decide_eq_true h1, decide_eq_true h2, decide_eq_true h3, decide_eq_true h4, decide_eq_true h5]; rfl
  have e2 := replS_yes e
  obtain ⟨P, rfl⟩ := Int.eq_ofNat_of_zero_le h1
  obtain ⟨N, rfl⟩ := Int.eq_ofNat_of_zero_le h2
  have e3 : replS s (P : Int) (N : Int) b = s.extract 0 P ++ b ++ s.extract (P + N) s.size := by rw [e2]; rfl
  have z1 : (s.extract 0 P).size ≤ 1048576 := by simp; omega
  have z2 : (s.extract 0 P ++ b).size ≤ 2097152 := by rw [ByteArray.size_append]; omega
  have z3 : (s.extract (P + N) s.size).size ≤ 1048576 := by simp; omega
  have c1 : ∀ W : World, (Op.stringOp .add (s.extract 0 P) b).run Tryz.prog W = .ok (.string (s.extract 0 P ++ b)) W := fun W => run_string_add_sum W _ _ (by omega)
  have c2 : ∀ W : World, (Op.stringOp .add (s.extract 0 P ++ b) (s.extract (P + N) s.size)).run Tryz.prog W = .ok (.string (s.extract 0 P ++ b ++ s.extract (P + N) s.size)) W := fun W => run_string_add_sum W _ _ (by omega)
  have hw : IntKind.i64.wrap ((P : Int) + (N : Int)) = (P : Int) + (N : Int) := IntWalk.i64_in _ ⟨by omega, by omega⟩
  have g1 : P ≤ s.size := by omega
  have g2 : P + N ≤ s.size := by omega
  have g3 : (P : Int) + (N : Int) ≤ (s.size : Int) := by omega
  have g4 : (0 : Int) ≤ (P : Int) + (N : Int) := by omega
  have g5 : ((P : Int) + (N : Int)).toNat = P + N := by omega
  clear z1 z2 z3
  have E := Lib.hid e
  clear e
  have E2 := Lib.hid e2
  clear e2
  have E3 := Lib.hid e3
  clear e3
  go_enter Tryz.func58, Tryz.ntmps58
  go_wp2_with fail
  go_region_held3 (fun _ => True) (exact trivial) (fail)
  go_wp2_with fail
  go_ret2
  exact ⟨by rw [E3.out, E.out]; rfl, by first | exact Below.refl _ _ | exact (Below.refl _ _).drew⟩

end Go.Proofs.YteafeecndghapaaGreat

/- Walks over l04Ok of the reference and takes of the program: whether a system is ordered and a word has its letters. -/
namespace Go.Proofs.YteafeecndghapaaGreat
open Go.RowKit Go.Shelf

def takesOk (l : Int) (rs : List RuleT) (s : ByteArray) : Bool := systemOk l rs && wordOk l s

set_option maxRecDepth 100000 in
set_option maxHeartbeats 1000000 in
theorem specTakes_any (l : Int) (A : Option Addr) (n c : Nat) (xs : List RuleT) (s : ByteArray) (w : World) (hr : Rd w A (cellsRule xs)) (hn : n = xs.length) (hb : n ≤ 1048576) (hz : ∀ x ∈ xs, x.1.size ≤ 1048576 ∧ x.2.size ≤ 1048576) (hs : s.size ≤ 1048576) :
    Calls Tryz.prog 108 #[.agg #[.int .i64 l, .slice A n c], .string s] w (Kept w (.bool (takesOk l xs s))) := by
  have hW0 : Below w.heap.size w (w.alloc (.cells #[.int .i64 l, .slice A n c] 25)) := (Below.refl _ _).alloc (Nat.le_refl _) _
  have hS0 := Bk.new w 25 #[.int .i64 l, .slice A n c]
  have Hr := Lib.hid hr
  clear hr
  have Hn := Lib.hid hn
  clear hn
  have Hz := Lib.hid hz
  clear hz
  go_enter Tryz.func108, Tryz.ntmps108
  go_wp2_with fail
  with_reducible refine (specSystemOk_any l A n c xs _ (Hr.out.keep hW0) Hn.out hb Hz.out).mono ?_
  rintro e w1 ⟨rfl, b1⟩
  have hW1 := hW0.trans (b1.mono hW0.size)
  have hS1 := hS0.below b1 hS0.lt
  have s0_1 : w1.cell? ⟨w.heap.size, 0, none⟩ = some (.int .i64 l) := by rw [hS1.cell]; rfl
  have s1_1 : w1.cell? ⟨w.heap.size, 1, none⟩ = some (.slice A n c) := by rw [hS1.cell]; rfl
  have sl_1 := hS1.lt
  clear b1
  obtain ⟨r1, hrr⟩ : ∃ r', r' = (systemOk l xs) := ⟨_, rfl⟩
  rw [← hrr]
  have H1 := Lib.hid hrr
  clear hrr
  cases r1
  · go_wp2_with fail
    go_ret
    exact ⟨ret_bool (by rw [takesOk, ← H1.out]; rfl), hW1⟩
  go_wp2_with fail
  refine (specWord_any l s _ (by omega)).mono ?_
  rintro e w2 ⟨rfl, rfl⟩
  obtain ⟨r2, hrr⟩ : ∃ r', r' = (wordOk l s) := ⟨_, rfl⟩
  rw [← hrr]
  have H2 := Lib.hid hrr
  clear hrr
  go_wp2_with fail
  go_ret
  exact ⟨ret_bool (by rw [takesOk, ← H1.out, ← H2.out]; rfl), hW1⟩

set_option maxRecDepth 100000 in
set_option maxHeartbeats 1000000 in
theorem implTakes_any (l : Int) (A : Option Addr) (n c : Nat) (xs : List RuleT) (s : ByteArray) (w : World) (hr : Rd w A (cellsRule xs)) (hn : n = xs.length) (hb : n ≤ 1048576) (hz : ∀ x ∈ xs, x.1.size ≤ 1048576 ∧ x.2.size ≤ 1048576) (hs : s.size ≤ 1048576) :
    Calls Tryz.prog 20 #[.agg #[.int .i64 l, .slice A n c], .string s] w (Kept w (.bool (takesOk l xs s))) := by
  have hW0 : Below w.heap.size w (w.alloc (.cells #[.int .i64 l, .slice A n c] 25)) := (Below.refl _ _).alloc (Nat.le_refl _) _
  have hS0 := Bk.new w 25 #[.int .i64 l, .slice A n c]
  have Hr := Lib.hid hr
  clear hr
  have Hn := Lib.hid hn
  clear hn
  have Hz := Lib.hid hz
  clear hz
  go_enter Tryz.func20, Tryz.ntmps20
  go_wp2_with fail
  with_reducible refine (implSystemOk_any l A n c xs _ (Hr.out.keep hW0) Hn.out hb Hz.out).mono ?_
  rintro e w1 ⟨rfl, b1⟩
  have hW1 := hW0.trans (b1.mono hW0.size)
  have hS1 := hS0.below b1 hS0.lt
  have s0_1 : w1.cell? ⟨w.heap.size, 0, none⟩ = some (.int .i64 l) := by rw [hS1.cell]; rfl
  have s1_1 : w1.cell? ⟨w.heap.size, 1, none⟩ = some (.slice A n c) := by rw [hS1.cell]; rfl
  have sl_1 := hS1.lt
  clear b1
  obtain ⟨r1, hrr⟩ : ∃ r', r' = (systemOk l xs) := ⟨_, rfl⟩
  rw [← hrr]
  have H1 := Lib.hid hrr
  clear hrr
  cases r1
  · go_wp2_with fail
    go_ret
    exact ⟨ret_bool (by rw [takesOk, ← H1.out]; rfl), hW1⟩
  go_wp2_with fail
  refine (implWord_any l s _ (by omega)).mono ?_
  rintro e w2 ⟨rfl, rfl⟩
  obtain ⟨r2, hrr⟩ : ∃ r', r' = (wordOk l s) := ⟨_, rfl⟩
  rw [← hrr]
  have H2 := Lib.hid hrr
  clear hrr
  go_wp2_with fail
  go_ret
  exact ⟨ret_bool (by rw [takesOk, ← H1.out, ← H2.out]; rfl), hW1⟩

end Go.Proofs.YteafeecndghapaaGreat

/- The bytes and the length of what ReplaceAt makes. No walk, no condition. -/
namespace Go.Proofs.YteafeecndghapaaGreat
open Go.RowKit Go.Shelf

theorem replS_bytes {s : ByteArray} {p n : Nat} {b : ByteArray} (h : replOk s p n b = true) : (replS s p n b).data.toList = (s.extract 0 p).data.toList ++ b.data.toList ++ (s.extract (p + n) s.size).data.toList := by
  rw [replS_yes h]
  have e : ((p : Int) + (n : Int)).toNat = p + n := by omega
  rw [e, Int.toNat_natCast, ByteArray.data_append, ByteArray.data_append]
  simp
theorem replS_size {s : ByteArray} {p n : Nat} {b : ByteArray} (h : replOk s p n b = true) : (replS s p n b).size ≤ 16 := by
  have h2 := replS_bytes h
  have h3 := congrArg List.length h2
  rw [bytes_len, List.length_append, List.length_append, bytes_len, bytes_len, bytes_len] at h3
  unfold replOk at h
  simp only [Bool.and_eq_true, decide_eq_true_eq] at h
  have e1 : (s.extract 0 p).size = p := by simp; omega
  have e2 : (s.extract (p + n) s.size).size = s.size - (p + n) := by simp
  omega

end Go.Proofs.YteafeecndghapaaGreat
