/- Merged texts: a claim has a limit of files. -/
import Derived.Test.YtidmbeeadbedaaaMg5
import Derived.Test.YtidmbeeadbedaaaMg4
import Derived.Test.YtidmbeeadbedaaaMg3
import Derived.Test.YtidmbeeadbedaaaMg1

/- More of the reference's source: l01Once, l01Str, l01Pick. -/
namespace Go.Proofs.Ytidmbeeadbedaaa
open Go.RowKit Go.Shelf

/-- The source, with the bytes that it reads. -/
structure Src (w : World) (P : Nat) (A : Option Addr) (n c : Nat) (zs : List Int) : Prop where
  cur : Cur w P A n c
  rd : Rd w A (u8c zs)
  len : n = zs.length
  le : n ≤ 1048576
  all : ∀ z ∈ zs, 0 ≤ z ∧ z ≤ 255
  ne : u8c zs ≠ [] → ∀ a, A = some a → a.block ≠ P
theorem Src.next {w w' : World} {P : Nat} {A : Option Addr} {n c : Nat} {zs : List Int} (h : Src w P A n c zs) (hC : Cur w' P A n c) (hg : w.grownBy w' (some P)) : Src w' P A n c zs :=
  ⟨hC, h.rd.gb hg h.ne, h.len, h.le, h.all, h.ne⟩
theorem Src.below {w w' : World} {P : Nat} {A : Option Addr} {n c : Nat} {zs : List Int} (h : Src w P A n c zs) (hb : Below w.heap.size w w') : Src w' P A n c zs :=
  ⟨h.cur.below hb, h.rd.keep hb, h.len, h.le, h.all, h.ne⟩
theorem Src.drew {w : World} {P : Nat} {A : Option Addr} {n c : Nat} {zs : List Int} (h : Src w P A n c zs) : Src w.drew P A n c zs := ⟨h.cur.drew, h.rd.drew, h.len, h.le, h.all, h.ne⟩
theorem gb_of_below {w w' : World} (h : Below w.heap.size w w') (r : Option Nat) : w.grownBy w' r := ⟨h.os, h.tape, h.output, h.size, fun k hk _ => h.block k hk⟩
theorem Src.under {w : World} {P : Nat} {A : Option Addr} {n c k : Nat} {zs : List Int} (h : Src w P A n c zs) (h1 : 1 ≤ k) (h2 : k ≤ 256) :
    Calls Try.prog 142 #[.pointer (some ⟨P, 0, none⟩), .int .i64 k] w (fun e w' => ∃ x : Nat, x < k ∧ e = .returned (.int .i64 x) ∧ Src w' P A n c zs ∧ w.grownBy w' (some P)) :=
  (l01Below_any P A n c zs k w h.cur h.rd h.len h.le h.all h.ne h1 h2).mono fun e w' ⟨x, hx, he, hC, hG⟩ => ⟨x, by omega, he, h.next hC hG, hG⟩
theorem Src.word {w : World} {P : Nat} {A : Option Addr} {n c k m : Nat} {zs : List Int} (h : Src w P A n c zs) (h1 : 1 ≤ k) (h2 : k ≤ 4) (hm : m ≤ 200) :
    Calls Try.prog 80 #[.pointer (some ⟨P, 0, none⟩), .int .i64 k, .int .i64 m] w (fun e w' => ∃ s : ByteArray, s.size ≤ m ∧ lettersOk k s = true ∧ e = .returned (.string s) ∧ Src w' P A n c zs ∧ w.grownBy w' (some P)) :=
  (l02Draw_any P A n c zs k m w h.cur h.rd h.len h.le h.all h.ne h1 h2 hm).mono fun e w' ⟨s, hs, hL, he, hC, hG⟩ => ⟨s, hs, hL, he, h.next hC hG, hG⟩

set_option maxRecDepth 100000 in
set_option maxHeartbeats 2000000 in
theorem Src.once {w : World} {P : Nat} {A : Option Addr} {n c k : Nat} {zs : List Int} (h : Src w P A n c zs) (h1 : 1 ≤ k) (h2 : k ≤ 256) :
    Calls Try.prog 125 #[.pointer (some ⟨P, 0, none⟩), .int .i64 k] w (fun e w' => ∃ b : Bool, e = .returned (.bool b) ∧ Src w' P A n c zs ∧ w.grownBy w' (some P)) := by
  have H := Lib.hid h
  clear h
  go_enter Try.func125, Try.ntmps125
  go_wp2_with fail
  with_reducible refine (H.out.under h1 h2).mono ?_
  rintro e w1 ⟨x, hx, rfl, hS1, hG1⟩
  have HS1 := Lib.hid hS1
  clear hS1
  have HG1 := Lib.hid hG1
  clear hG1
  go_wp2_with fail
  go_ret
  exact ⟨_, rfl, HS1.out, HG1.out⟩

set_option maxRecDepth 100000 in
set_option maxHeartbeats 2000000 in
theorem Src.str {w : World} {P : Nat} {A : Option Addr} {n c k cc g : Nat} {zs : List Int} {l : List ByteArray} (h : Src w P A n c zs) (hB : Bk w g 9 (strs l).toArray) (hg : g ≠ P) (hk : k = l.length) (h1 : 1 ≤ k) (h2 : k ≤ 256) :
    Calls Try.prog 141 #[.pointer (some ⟨P, 0, none⟩), .slice (some ⟨g, 0, none⟩) k cc] w (fun e w' => ∃ s ∈ l, e = .returned (.string s) ∧ Src w' P A n c zs ∧ w.grownBy w' (some P)) := by
  have H := Lib.hid h
  clear h
  have HB := Lib.hid hB
  clear hB
  have Hk := Lib.hid hk
  clear hk
  go_enter Try.func141, Try.ntmps141
  go_wp2_with fail
  with_reducible refine (H.out.under h1 h2).mono ?_
  rintro e w1 ⟨x, hx, rfl, hS1, hG1⟩
  have hB1 : Bk w1 g 9 (strs l).toArray := HB.out.grown hG1 (by intro e; injection e with e; exact hg e)
  have hxl : x < l.length := by rw [← Hk.out]; exact hx
  have hu : (strs l)[x]? = some (.string l[x]) := by simp [strs, hxl]
  have q0 : w1.cell? ⟨g, x, none⟩ = some (.string l[x]) := by rw [hB1.cell]; simpa using hu
  have hm : l[x] ∈ l := List.getElem_mem hxl
  obtain ⟨y, hy⟩ : ∃ y, y = l[x] := ⟨_, rfl⟩
  rw [← hy] at q0 hm
  clear hu hB1 hy hxl
  have HS1 := Lib.hid hS1
  clear hS1
  have HG1 := Lib.hid hG1
  clear hG1
  have Hm := Lib.hid hm
  clear hm
  go_wp2_with fail
  go_ret
  exact ⟨_, Hm.out, rfl, HS1.out, HG1.out⟩

end Go.Proofs.Ytidmbeeadbedaaa

/- Walks over SidesOk (the program's and the reference's): each returns what sidesOk says, for all arguments. -/
namespace Go.Proofs.Ytidmbeeadbedaaa
open Go.RowKit Go.Shelf

/-- SidesOk, in plain words. -/
def sidesOk (k : Int) (x y : ByteArray) : Bool := wordOk k x && wordOk k y && decide (x.size ≤ 8) && decide (y.size ≤ 8)

set_option maxRecDepth 100000 in
set_option maxHeartbeats 1000000 in
theorem specSides_any (k : Int) (x y : ByteArray) (w : World) (hx : x.size ≤ 9223372036854775807) (hy : y.size ≤ 9223372036854775807) :
    Calls Try.prog 143 #[.int .i64 k, .agg #[.string x, .string y]] w (Kept w (.bool (sidesOk k x y))) := by
  have hW : Below w.heap.size w (w.alloc (.cells #[.string x, .string y] 156)) := (Below.refl _ _).alloc (Nat.le_refl _) _
  go_enter Try.func143, Try.ntmps143
  go_wp2_with fail
  refine (specWord_any k x _ hx).mono ?_
  rintro e w' ⟨rfl, rfl⟩
  obtain ⟨r1, hrr⟩ : ∃ r', r' = (wordOk k x) := ⟨_, rfl⟩
  rw [← hrr]
  have H1 := Lib.hid hrr
  clear hrr
  cases r1
  · go_wp2_with fail
    go_ret
    exact ⟨ret_bool (by rw [sidesOk, ← H1.out]; rfl), hW⟩
  go_wp2_with fail
  refine (specWord_any k y _ hy).mono ?_
  rintro e w' ⟨rfl, rfl⟩
  obtain ⟨r2, hrr⟩ : ∃ r', r' = (wordOk k y) := ⟨_, rfl⟩
  rw [← hrr]
  have H2 := Lib.hid hrr
  clear hrr
  cases r2
  · go_wp2_with fail
    go_ret
    exact ⟨ret_bool (by rw [sidesOk, ← H1.out, ← H2.out]; rfl), hW⟩
  by_cases h3 : x.size ≤ 8
  · by_cases h4 : y.size ≤ 8
    · go_wp2_with fail
      go_ret
      exact ⟨ret_bool (by rw [sidesOk, ← H1.out, ← H2.out, decide_eq_true h3, decide_eq_true h4]; simp; omega), hW⟩
    · go_wp2_with fail
      go_ret
      exact ⟨ret_bool (by rw [sidesOk, ← H1.out, ← H2.out, decide_eq_true h3, decide_eq_false h4]; simp; omega), hW⟩
  · go_wp2_with fail
    go_ret
    exact ⟨ret_bool (by rw [sidesOk, ← H1.out, ← H2.out, decide_eq_false h3]; rfl), hW⟩
set_option maxRecDepth 100000 in
set_option maxHeartbeats 1000000 in
theorem implSides_any (k : Int) (x y : ByteArray) (w : World) (hx : x.size ≤ 9223372036854775807) (hy : y.size ≤ 9223372036854775807) :
    Calls Try.prog 153 #[.int .i64 k, .agg #[.string x, .string y]] w (Kept w (.bool (sidesOk k x y))) := by
  have hW : Below w.heap.size w (w.alloc (.cells #[.string x, .string y] 156)) := (Below.refl _ _).alloc (Nat.le_refl _) _
  go_enter Try.func153, Try.ntmps153
  go_wp2_with fail
  refine (implWord_any k x _ hx).mono ?_
  rintro e w' ⟨rfl, rfl⟩
  obtain ⟨r1, hrr⟩ : ∃ r', r' = (wordOk k x) := ⟨_, rfl⟩
  rw [← hrr]
  have H1 := Lib.hid hrr
  clear hrr
  cases r1
  · go_wp2_with fail
    go_ret
    exact ⟨ret_bool (by rw [sidesOk, ← H1.out]; rfl), hW⟩
  go_wp2_with fail
  refine (implWord_any k y _ hy).mono ?_
  rintro e w' ⟨rfl, rfl⟩
  obtain ⟨r2, hrr⟩ : ∃ r', r' = (wordOk k y) := ⟨_, rfl⟩
  rw [← hrr]
  have H2 := Lib.hid hrr
  clear hrr
  cases r2
  · go_wp2_with fail
    go_ret
    exact ⟨ret_bool (by rw [sidesOk, ← H1.out, ← H2.out]; rfl), hW⟩
  by_cases h3 : x.size ≤ 8
  · by_cases h4 : y.size ≤ 8
    · go_wp2_with fail
      go_ret
      exact ⟨ret_bool (by rw [sidesOk, ← H1.out, ← H2.out, decide_eq_true h3, decide_eq_true h4]; simp; omega), hW⟩
    · go_wp2_with fail
      go_ret
      exact ⟨ret_bool (by rw [sidesOk, ← H1.out, ← H2.out, decide_eq_true h3, decide_eq_false h4]; simp; omega), hW⟩
  · go_wp2_with fail
    go_ret
    exact ⟨ret_bool (by rw [sidesOk, ← H1.out, ← H2.out, decide_eq_false h3]; rfl), hW⟩

end Go.Proofs.Ytidmbeeadbedaaa
