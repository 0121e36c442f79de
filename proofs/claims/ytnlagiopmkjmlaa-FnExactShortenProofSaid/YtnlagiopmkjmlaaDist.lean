/- Walks over l15Word and DistanceBetween of the reference and isSearched of the program. -/
import Derived.Test.YtnlagiopmkjmlaaSearch
import Derived.Test.YtnlagiopmkjmlaaSearchOk
namespace Go.Proofs.Ytnlagiopmkjmlaa
open Go.RowKit Go.Shelf

def word15 (l : Int) (s : ByteArray) (lim : Int) : Bool := wordOk l s && decide ((s.size : Int) ≤ lim)
def searched (l : Int) (rs : List RuleT) (s : ByteArray) (lim : Int) : Bool := searchOk l rs lim && word15 l s lim
theorem searched_out {l : Int} {rs : List RuleT} {s : ByteArray} {lim : Int} (h : searchOk l rs lim = true) (h2 : word15 l s lim = true) : rulesOk l rs = true ∧ good8 l s ∧ lim ≤ 8 := by
  unfold searchOk at h
  unfold word15 at h2
  simp only [Bool.and_eq_true, decide_eq_true_eq] at h h2
  have h3 := inB_out h.1.2.symm
  have h4 := wordOk_out h2.1
  exact ⟨h.1.1, ⟨h4.2.1, h4.2.2.2, by omega⟩, by omega⟩
/-- DistanceBetween, in plain words. -/
def distB (l : Int) (rs : List RuleT) (u v : ByteArray) (lim : Int) : Int := if searchOk l rs lim && word15 l u lim && word15 l v lim then (match fnd (srWords (srAll rs u lim)) v with
  | some i => (srAt (srAll rs u lim) i).2.2.2
  | none => -1) else -1
theorem srGo_good {l : Int} {rs : List RuleT} {lim : Int} (hro : rulesOk l rs = true) (hl : lim ≤ 8) : ∀ (f a : Nat) (S : List SrT), srGood l S → srGood l (srGo rs lim f a S)
  | 0, _, S, h => h
  | f + 1, a, S, h => by
    rw [srGo]
    split
    · next hlt => exact srGo_good hro hl f (a + 1) _ (srRow_good hro hl _ S h hlt (fun x hx => hx)).1
    · exact h
theorem srAll_good {l : Int} {rs : List RuleT} {s : ByteArray} {lim : Int} (hro : rulesOk l rs = true) (hl : lim ≤ 8) (hg : good8 l s) : srGood l (srAll rs s lim) := srGo_good hro hl _ _ _ ⟨by simp [srWords], fun t ht => by simp [srWords] at ht; rw [ht]; exact hg, fun i hi => by
  have : i = 0 := by simp at hi; omega
  subst this
  exact ⟨Int.le_refl _, Int.le_refl _⟩⟩

set_option maxRecDepth 100000 in
set_option maxHeartbeats 1000000 in
theorem specWord15_any (l : Int) (A : Option Addr) (n c : Nat) (s : ByteArray) (lim : Int) (w : World) (hs : s.size ≤ 1048576) :
    Calls Try.prog 56 #[.agg #[.int .i64 l, .slice A n c], .string s, .int .i64 lim] w (Kept w (.bool (word15 l s lim))) := by
  have hW0 : Below w.heap.size w (w.alloc (.cells #[.int .i64 l, .slice A n c] 29)) := (Below.refl _ _).alloc (Nat.le_refl _) _
  have hS0 := Bk.new w 29 #[.int .i64 l, .slice A n c]
  go_enter Try.func56, Try.ntmps56
  go_wp2_with fail
  refine (specWord_any l s _ (by omega)).mono ?_
  rintro e w1 ⟨rfl, rfl⟩
  obtain ⟨r1, hrr⟩ : ∃ r', r' = (wordOk l s) := ⟨_, rfl⟩
  rw [← hrr]
  have H1 := Lib.hid hrr
  clear hrr
  cases r1
  · go_wp2_with fail
    go_ret
    exact ⟨ret_bool (by rw [word15, ← H1.out]; rfl), hW0⟩
  · have e1 : word15 l s lim = decide ((s.size : Int) ≤ lim) := by rw [word15, ← H1.out]; rfl
    have E1 := Lib.hid e1
    clear e1
    go_wp2_with fail
    go_ret
    exact ⟨ret_bool (by rw [E1.out]), hW0⟩

set_option maxRecDepth 100000 in
set_option maxHeartbeats 2000000 in
theorem specDistanceBetween_any (l : Int) (A : Option Addr) (n c : Nat) (rs : List RuleT) (u v : ByteArray) (lim : Int) (w : World) (hr : Rd w A (cellsRule rs)) (hn : n = rs.length) (hb : n ≤ 1048576) (hz : ∀ x ∈ rs, x.1.size ≤ 1048576 ∧ x.2.size ≤ 1048576) (hs : u.size ≤ 1048576) (hv : v.size ≤ 1048576) :
    Calls Try.prog 16 #[.agg #[.int .i64 l, .slice A n c], .string u, .string v, .int .i64 lim] w (Kept w (.int .i64 (distB l rs u v lim))) := by
  have hW0 : Below w.heap.size w (w.alloc (.cells #[.int .i64 l, .slice A n c] 29)) := (Below.refl _ _).alloc (Nat.le_refl _) _
  have hS0 := Bk.new w 29 #[.int .i64 l, .slice A n c]
  have Hr := Lib.hid hr
  clear hr
  have Hn := Lib.hid hn
  clear hn
  have Hz := Lib.hid hz
  clear hz
  go_enter Try.func16, Try.ntmps16
  go_wp2_with fail
  with_reducible refine (specSearchOk_any l A n c rs lim _ (Hr.out.keep hW0) Hn.out hb Hz.out).mono ?_
  rintro e w1 ⟨rfl, b1⟩
  have hW1 := hW0.trans (b1.mono hW0.size)
  have hS1 := hS0.below b1 hS0.lt
  have s0_1 : w1.cell? ⟨w.heap.size, 0, none⟩ = some (.int .i64 l) := by rw [hS1.cell]; rfl
  have s1_1 : w1.cell? ⟨w.heap.size, 1, none⟩ = some (.slice A n c) := by rw [hS1.cell]; rfl
  have sl_1 := hS1.lt
  clear b1
  obtain ⟨r1, hrr⟩ : ∃ r', r' = (searchOk l rs lim) := ⟨_, rfl⟩
  rw [← hrr]
  have H1 := Lib.hid hrr
  clear hrr
  cases r1
  · have e1 : distB l rs u v lim = -1 := by rw [distB, ← H1.out]; rfl
    have E1 := Lib.hid e1
    clear e1
    go_wp2_with fail
    go_ret
    exact ⟨ret_int (by rw [E1.out]), hW1⟩
  go_wp2_with fail
  with_reducible refine (specWord15_any l A n c u lim _ hs).mono ?_
  rintro e w2 ⟨rfl, b2⟩
  have hW2 := hW1.trans (b2.mono hW1.size)
  have hS2 := hS1.below b2 hS1.lt
  have s0_2 : w2.cell? ⟨w.heap.size, 0, none⟩ = some (.int .i64 l) := by rw [hS2.cell]; rfl
  have s1_2 : w2.cell? ⟨w.heap.size, 1, none⟩ = some (.slice A n c) := by rw [hS2.cell]; rfl
  have sl_2 := hS2.lt
  clear b2
  obtain ⟨r2, hrr⟩ : ∃ r', r' = (word15 l u lim) := ⟨_, rfl⟩
  rw [← hrr]
  have H2 := Lib.hid hrr
  clear hrr
  cases r2
  · have e1 : distB l rs u v lim = -1 := by rw [distB, ← H1.out, ← H2.out]; rfl
    have E1 := Lib.hid e1
    clear e1
    go_wp2_with fail
    go_ret
    exact ⟨ret_int (by rw [E1.out]), hW2⟩
  go_wp2_with fail
  with_reducible refine (specWord15_any l A n c v lim _ hv).mono ?_
  rintro e w3 ⟨rfl, b3⟩
  have hW3 := hW2.trans (b3.mono hW2.size)
  have hS3 := hS2.below b3 hS2.lt
  have s0_3 : w3.cell? ⟨w.heap.size, 0, none⟩ = some (.int .i64 l) := by rw [hS3.cell]; rfl
  have s1_3 : w3.cell? ⟨w.heap.size, 1, none⟩ = some (.slice A n c) := by rw [hS3.cell]; rfl
  have sl_3 := hS3.lt
  clear b3
  obtain ⟨r3, hrr⟩ : ∃ r', r' = (word15 l v lim) := ⟨_, rfl⟩
  rw [← hrr]
  have H3 := Lib.hid hrr
  clear hrr
  cases r3
  · have e1 : distB l rs u v lim = -1 := by rw [distB, ← H1.out, ← H2.out, ← H3.out]; rfl
    have E1 := Lib.hid e1
    clear e1
    go_wp2_with fail
    go_ret
    exact ⟨ret_int (by rw [E1.out]), hW3⟩
  obtain ⟨hro, hg8, hl8⟩ := searched_out H1.out.symm H2.out.symm
  have hgd := srAll_good hro hl8 hg8
  have hlen := srGood_len hgd
  have e1 : distB l rs u v lim = (match fnd (srWords (srAll rs u lim)) v with
    | some i => (srAt (srAll rs u lim) i).2.2.2
    | none => -1) := by rw [distB, ← H1.out, ← H2.out, ← H3.out]; rfl
  obtain ⟨S, hS⟩ : ∃ S, S = srAll rs u lim := ⟨_, rfl⟩
  have hsr := specSearch_any l A n c rs u lim w3 (Hr.out.keep hW3) Hn.out hb Hz.out hro hg8 hl8
  rw [← hS] at hgd hlen e1 hsr
  have E1 := Lib.hid e1
  clear e1
  have Hgd := Lib.hid hgd
  clear hgd
  have HS := Lib.hid hS
  clear hS
  have Hro := Lib.hid hro
  clear hro
  have Hg8 := Lib.hid hg8
  clear hg8
  have Hsr := Lib.hid hsr
  clear hsr
  go_wp2_with fail
  refine Hsr.out.mono ?_
  rintro e w4 ⟨g1, c1, g2, c2, g3, c3, g4, c4, rfl, o1, o2, o3, o4, b4⟩
  have hW4 := hW3.trans (b4.mono hW3.size)
  obtain ⟨p, hp⟩ : ∃ p, p = S.length := ⟨_, rfl⟩
  rw [← hp] at o1 o2 o3 o4 hlen ⊢
  have hpw : p = (srWords S).length := by rw [srWords_len]; exact hp
  obtain ⟨fo, hfo⟩ : ∃ fo, fo = fnd (srWords S) v := ⟨_, rfl⟩
  have hrd := o1.rd
  clear b4 s0_3 s1_3 sl_3 hS3 hW3
  cases fo with
  | none =>
    have e7 : fndI (srWords S) v = -1 := by simp [fndI, ← hfo]
    have e2 : distB l rs u v lim = -1 := by rw [E1.out, ← hfo]
    have Hfo := Lib.hid hfo
    clear hfo
    have E7 := Lib.hid e7
    clear e7
    have E2 := Lib.hid e2
    clear e2
    have Hp := Lib.hid hp
    clear hp
    have Hpw := Lib.hid hpw
    clear hpw
    have Hrd := Lib.hid hrd
    clear hrd
    have O1 := Lib.hid o1
    clear o1
    have O2 := Lib.hid o2
    clear o2
    have O3 := Lib.hid o3
    clear o3
    have O4 := Lib.hid o4
    clear o4
    go_wp2_with fail
    refine (specFind_any (some ⟨g1, 0, none⟩) p c1 (srWords S) v _ Hrd.out Hpw.out (by omega)).mono ?_
    rintro e w5 ⟨rfl, rfl⟩
    rw [E7.out]
    go_wp2_with fail
    go_ret
    exact ⟨ret_int (by rw [E2.out]), hW4⟩
  | some i0 =>
    have e7 : fndI (srWords S) v = (i0 : Int) := by simp [fndI, ← hfo]
    have hi0 : i0 < S.length := by rw [← srWords_len]; exact fnd_lt hfo.symm
    have hip : i0 < p := by rw [hp]; exact hi0
    have k4 := o4.cell (srAt_cell hi0).2
    obtain ⟨f, hf⟩ : ∃ f, f = (srAt S i0).2.2.2 := ⟨_, rfl⟩
    rw [← hf] at k4
    have e2 : distB l rs u v lim = f := by rw [E1.out, ← hfo, hf]
    have Hfo := Lib.hid hfo
    clear hfo
    have E7 := Lib.hid e7
    clear e7
    have E2 := Lib.hid e2
    clear e2
    have Hp := Lib.hid hp
    clear hp
    have Hpw := Lib.hid hpw
    clear hpw
    have Hrd := Lib.hid hrd
    clear hrd
    have O1 := Lib.hid o1
    clear o1
    have O2 := Lib.hid o2
    clear o2
    have O3 := Lib.hid o3
    clear o3
    have O4 := Lib.hid o4
    clear o4
    have Hf := Lib.hid hf
    clear hf
    go_wp2_with fail
    refine (specFind_any (some ⟨g1, 0, none⟩) p c1 (srWords S) v _ Hrd.out Hpw.out (by omega)).mono ?_
    rintro e w5 ⟨rfl, rfl⟩
    rw [E7.out]
    go_wp2_with fail
    go_ret
    exact ⟨ret_int (by rw [E2.out]), hW4⟩

set_option maxRecDepth 100000 in
set_option maxHeartbeats 1000000 in
theorem implSearched_any (l : Int) (A : Option Addr) (n c : Nat) (rs : List RuleT) (s : ByteArray) (lim : Int) (w : World) (hr : Rd w A (cellsRule rs)) (hn : n = rs.length) (hb : n ≤ 1048576) (hz : ∀ x ∈ rs, x.1.size ≤ 1048576 ∧ x.2.size ≤ 1048576) (hs : s.size ≤ 1048576) :
    Calls Try.prog 61 #[.agg #[.int .i64 l, .slice A n c], .string s, .int .i64 lim] w (Kept w (.bool (searched l rs s lim))) := by
  have hW0 : Below w.heap.size w (w.alloc (.cells #[.int .i64 l, .slice A n c] 29)) := (Below.refl _ _).alloc (Nat.le_refl _) _
  have hS0 := Bk.new w 29 #[.int .i64 l, .slice A n c]
  have Hr := Lib.hid hr
  clear hr
  have Hn := Lib.hid hn
  clear hn
  have Hz := Lib.hid hz
  clear hz
  go_enter Try.func61, Try.ntmps61
  go_wp2_with fail
  with_reducible refine (implSearchOk_any l A n c rs lim _ (Hr.out.keep hW0) Hn.out hb Hz.out).mono ?_
  rintro e w1 ⟨rfl, b1⟩
  have hW1 := hW0.trans (b1.mono hW0.size)
  have hS1 := hS0.below b1 hS0.lt
  have s0_1 : w1.cell? ⟨w.heap.size, 0, none⟩ = some (.int .i64 l) := by rw [hS1.cell]; rfl
  have s1_1 : w1.cell? ⟨w.heap.size, 1, none⟩ = some (.slice A n c) := by rw [hS1.cell]; rfl
  have sl_1 := hS1.lt
  clear b1
  obtain ⟨r1, hrr⟩ : ∃ r', r' = (searchOk l rs lim) := ⟨_, rfl⟩
  rw [← hrr]
  have H1 := Lib.hid hrr
  clear hrr
  cases r1
  · have e1 : searched l rs s lim = false := by rw [searched, ← H1.out]; rfl
    have E1 := Lib.hid e1
    clear e1
    go_wp2_with fail
    go_ret
    exact ⟨ret_bool (by rw [E1.out]), hW1⟩
  go_wp2_with fail
  refine (implWord_any l s _ (by omega)).mono ?_
  rintro e w2 ⟨rfl, rfl⟩
  obtain ⟨r2, hrr⟩ : ∃ r', r' = (wordOk l s) := ⟨_, rfl⟩
  rw [← hrr]
  have H2 := Lib.hid hrr
  clear hrr
  cases r2
  · have e1 : searched l rs s lim = false := by rw [searched, ← H1.out, word15, ← H2.out]; rfl
    have E1 := Lib.hid e1
    clear e1
    go_wp2_with fail
    go_ret
    exact ⟨ret_bool (by rw [E1.out]), hW1⟩
  · have e1 : searched l rs s lim = decide ((s.size : Int) ≤ lim) := by rw [searched, ← H1.out, word15, ← H2.out]; rfl
    have E1 := Lib.hid e1
    clear e1
    go_wp2_with fail
    go_ret
    exact ⟨ret_bool (by rw [E1.out]), hW1⟩

end Go.Proofs.Ytnlagiopmkjmlaa
