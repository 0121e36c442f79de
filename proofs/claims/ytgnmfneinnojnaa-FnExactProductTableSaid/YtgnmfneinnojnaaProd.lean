/- Walks over ProductTable (the program's and the reference's): both hand back the same table. -/
import Derived.Test.YtgnmfneinnojnaaOpp
import Derived.Deep.RegionHeld3
namespace Go.Proofs.Ytgnmfneinnojnaa
open Go.RowKit Go.Shelf Go.PlainAid

theorem i64_nat (a : Nat) (h : a ≤ 9223372036854775807) : IntKind.i64.wrap (a : Int) = a := IntWalk.i64_in _ ⟨by omega, by omega⟩
def prodOk (s : Int) (xs : List Int) (r : Int) (ys : List Int) : Bool := tableOk s xs && tableOk r ys && decide (s * r ≤ 40)
def prodF (n : Nat) (xs : List Int) (m : Nat) (ys : List Int) (i k : Nat) : Int := tg xs ((i / m) * n + k / m) * m + tg ys ((i % m) * m + k % m)
def prodL (s : Int) (xs : List Int) (r : Int) (ys : List Int) : Int := if prodOk s xs r ys then s * r else 0
/-- The entries of the product of two tables. -/
def prods (s : Int) (xs : List Int) (r : Int) (ys : List Int) : List Int := if prodOk s xs r ys then gridAcc (prodF s.toNat xs r.toNat ys) (s * r).toNat (s * r).toNat else []
theorem prods_len (s : Int) (xs : List Int) (r : Int) (ys : List Int) : (prods s xs r ys).length ≤ 1048576 := by
  unfold prods
  split
  · next h =>
    unfold prodOk at h
    simp only [Bool.and_eq_true, decide_eq_true_eq] at h
    rw [gridAcc_len]
    have : (s * r).toNat * (s * r).toNat ≤ 40 * 40 := Nat.mul_le_mul (by omega) (by omega)
    omega
  · simp

set_option maxRecDepth 100000 in
set_option maxHeartbeats 4000000 in
theorem implProductTable_any (s : Int) (A : Option Addr) (L c : Nat) (xs : List Int) (r : Int) (B0 : Option Addr) (M c0 : Nat) (ys : List Int) (w : World) (hr : Rd w A (ints xs)) (hn : L = xs.length) (hb : L ≤ 1048576) (hr2 : Rd w B0 (ints ys)) (hn2 : M = ys.length) (hb2 : M ≤ 1048576) :
    Calls Try.prog 18 #[.agg #[.int .i64 s, .slice A L c], .agg #[.int .i64 r, .slice B0 M c0]] w (MadeTab w (prodL s xs r ys) (prods s xs r ys).length (prods s xs r ys) (prodOk s xs r ys)) := by
  have hW0 : Below w.heap.size w (((w.alloc (.cells #[.int .i64 s, .slice A L c] 26)).alloc (.cells #[.int .i64 r, .slice B0 M c0] 26)).alloc (.cells #[.int .i64 0, .slice none 0 0] 26)) := (((Below.refl _ _).alloc (Nat.le_refl _) _).alloc (by simp) _).alloc (by simp; omega) _
  have hT0 : Bk (((w.alloc (.cells #[.int .i64 s, .slice A L c] 26)).alloc (.cells #[.int .i64 r, .slice B0 M c0] 26)).alloc (.cells #[.int .i64 0, .slice none 0 0] 26)) w.heap.size 26 #[.int .i64 s, .slice A L c] := ((Bk.new w _ _).alloc _).alloc _
  have hU0 : Bk (((w.alloc (.cells #[.int .i64 s, .slice A L c] 26)).alloc (.cells #[.int .i64 r, .slice B0 M c0] 26)).alloc (.cells #[.int .i64 0, .slice none 0 0] 26)) (w.heap.size + 1) 26 #[.int .i64 r, .slice B0 M c0] := ((Bk.new (w.alloc (.cells #[.int .i64 s, .slice A L c] 26)) 26 #[.int .i64 r, .slice B0 M c0]).alloc _).cast (by simp)
  have hR0 : Bk (((w.alloc (.cells #[.int .i64 s, .slice A L c] 26)).alloc (.cells #[.int .i64 r, .slice B0 M c0] 26)).alloc (.cells #[.int .i64 0, .slice none 0 0] 26)) (w.heap.size + 1 + 1) 26 #[.int .i64 0, .slice none 0 0] := (Bk.new ((w.alloc (.cells #[.int .i64 s, .slice A L c] 26)).alloc (.cells #[.int .i64 r, .slice B0 M c0] 26)) 26 #[.int .i64 0, .slice none 0 0]).cast (by simp)
  have Hr := Lib.hid hr
  clear hr
  have Hn := Lib.hid hn
  clear hn
  have Hr2 := Lib.hid hr2
  clear hr2
  have Hn2 := Lib.hid hn2
  clear hn2
  go_enter Try.func18, Try.ntmps18
  go_wp2_with fail
  generalize hw0 : (((w.alloc (.cells #[.int .i64 s, .slice A L c] 26)).alloc (.cells #[.int .i64 r, .slice B0 M c0] 26)).alloc (.cells #[.int .i64 0, .slice none 0 0] 26)) = w0
  rw [hw0] at hW0 hT0 hU0 hR0
  clear hw0
  refine (implTableOk_any s A L c xs _ (Hr.out.keep hW0) Hn.out hb).mono ?_
  rintro e w1 ⟨rfl, b1⟩
  have hT1 := hT0.below b1 hT0.lt
  have hU1 := hU0.below b1 hU0.lt
  have hR1 := hR0.below b1 hR0.lt
  have hW1 := hW0.trans (b1.mono hW0.size)
  have t0 : w1.cell? ⟨w.heap.size, 0, none⟩ = some (.int .i64 s) := by rw [hT1.cell]; rfl
  have u0 : w1.cell? ⟨w.heap.size + 1, 0, none⟩ = some (.int .i64 r) := by rw [hU1.cell]; rfl
  have u1 : w1.cell? ⟨w.heap.size + 1, 1, none⟩ = some (.slice B0 M c0) := by rw [hU1.cell]; rfl
  have q0 : w1.cell? ⟨w.heap.size + 1 + 1, 0, none⟩ = some (.int .i64 0) := by rw [hR1.cell]; rfl
  have q1 : w1.cell? ⟨w.heap.size + 1 + 1, 1, none⟩ = some (.slice none 0 0) := by rw [hR1.cell]; rfl
  have f0 := hR1.free 0
  have f1 := hR1.free 1
  have tl := hT1.lt
  have ul := hU1.lt
  have rl := hR1.lt
  clear hT0 hU0 hR0 hW0 b1
  have HT1 := Lib.hid hT1
  clear hT1
  have HU1 := Lib.hid hU1
  clear hU1
  have HR1 := Lib.hid hR1
  clear hR1
  have HW1 := Lib.hid hW1
  clear hW1
  obtain ⟨r1, hrr⟩ : ∃ r', r' = (tableOk s xs) := ⟨_, rfl⟩
  rw [← hrr]
  have HK1 := Lib.hid hrr
  clear hrr
  cases r1
  · go_wp2_with fail
    have e0 : prodOk s xs r ys = false := by rw [prodOk, ← HK1.out]; simp
    have e1 : prodL s xs r ys = 0 := by rw [prodL, e0]; rfl
    have e2 : prods s xs r ys = [] := by rw [prods, e0]; rfl
    refine bodyPost_ret (v := .tuple #[.agg #[.int .i64 0, .slice none 0 0], .bool false]) (by simp [results, Try.results18, go_sem, q0, q1]) rfl ?_
    rw [e1, e2, e0]
    refine ⟨none, 0, rfl, World.ownsRow_nil _ _ _ _, ?_⟩
    first | exact HW1.out | exact (HW1.out.setCell (by dsimp only; omega) _).setCell (by dsimp only; omega) _
  clear t0 u0 u1 q0 q1 f0 f1 tl ul rl
  have tl := HT1.out.lt
  have ul := HU1.out.lt
  have u0 : w1.cell? ⟨w.heap.size + 1, 0, none⟩ = some (.int .i64 r) := by rw [HU1.out.cell]; rfl
  have u1 : w1.cell? ⟨w.heap.size + 1, 1, none⟩ = some (.slice B0 M c0) := by rw [HU1.out.cell]; rfl
  go_wp2_with fail
  refine (implTableOk_any r B0 M c0 ys _ (Hr2.out.keep HW1.out) Hn2.out hb2).mono ?_
  rintro e w2 ⟨rfl, b2⟩
  have hT2 := HT1.out.below b2 HT1.out.lt
  have hU2 := HU1.out.below b2 HU1.out.lt
  have hR2 := HR1.out.below b2 HR1.out.lt
  have hW2 := HW1.out.trans (b2.mono HW1.out.size)
  have t0 : w2.cell? ⟨w.heap.size, 0, none⟩ = some (.int .i64 s) := by rw [hT2.cell]; rfl
  have u0 : w2.cell? ⟨w.heap.size + 1, 0, none⟩ = some (.int .i64 r) := by rw [hU2.cell]; rfl
  have q0 : w2.cell? ⟨w.heap.size + 1 + 1, 0, none⟩ = some (.int .i64 0) := by rw [hR2.cell]; rfl
  have q1 : w2.cell? ⟨w.heap.size + 1 + 1, 1, none⟩ = some (.slice none 0 0) := by rw [hR2.cell]; rfl
  have f0 := hR2.free 0
  have f1 := hR2.free 1
  have tl := hT2.lt
  have ul := hU2.lt
  have rl := hR2.lt
  clear HT1 HU1 HR1 HW1 b2 u1
  have HT2 := Lib.hid hT2
  clear hT2
  have HU2 := Lib.hid hU2
  clear hU2
  have HR2 := Lib.hid hR2
  clear hR2
  have HW2 := Lib.hid hW2
  clear hW2
  obtain ⟨r2, hrr⟩ : ∃ r', r' = (tableOk r ys) := ⟨_, rfl⟩
  rw [← hrr]
  have HK2 := Lib.hid hrr
  clear hrr
  cases r2
  · go_wp2_with fail
    have e0 : prodOk s xs r ys = false := by rw [prodOk, ← HK2.out]; simp
    have e1 : prodL s xs r ys = 0 := by rw [prodL, e0]; rfl
    have e2 : prods s xs r ys = [] := by rw [prods, e0]; rfl
    refine bodyPost_ret (v := .tuple #[.agg #[.int .i64 0, .slice none 0 0], .bool false]) (by simp [results, Try.results18, go_sem, q0, q1]) rfl ?_
    rw [e1, e2, e0]
    refine ⟨none, 0, rfl, World.ownsRow_nil _ _ _ _, ?_⟩
    first | exact HW2.out | exact (HW2.out.setCell (by dsimp only; omega) _).setCell (by dsimp only; omega) _
  obtain ⟨hs1, hs2, hsl, hxs⟩ := tableOk_out HK1.out.symm
  obtain ⟨hr1, hr3, hrl, hys⟩ := tableOk_out HK2.out.symm
  obtain ⟨n, rfl⟩ := Int.eq_ofNat_of_zero_le (show 0 ≤ s by omega)
  obtain ⟨m, rfl⟩ := Int.eq_ofNat_of_zero_le (show 0 ≤ r by omega)
  have hL : L = n * n := by have e := sq_cast n; have := Hn.out; omega
  have hM : M = m * m := by have e := sq_cast m; have := Hn2.out; omega
  have hnm : n * m ≤ 1600 := Nat.mul_le_mul (by omega : n ≤ 40) (by omega : m ≤ 40)
  have hmw := i64_mul n m (by omega)
  have hcm : ((n * m : Nat) : Int) = (n : Int) * (m : Int) := by simp
  by_cases h40 : n * m ≤ 40
  rotate_left
  · have h40i : (40 : Int) < (n : Int) * (m : Int) := by omega
    go_wp2_with fail
    have e0 : prodOk (n : Int) xs (m : Int) ys = false := by rw [prodOk, decide_eq_false (by omega)]; simp
    have e1 : prodL (n : Int) xs (m : Int) ys = 0 := by rw [prodL, e0]; rfl
    have e2 : prods (n : Int) xs (m : Int) ys = [] := by rw [prods, e0]; rfl
    refine bodyPost_ret (v := .tuple #[.agg #[.int .i64 0, .slice none 0 0], .bool false]) (by simp [results, Try.results18, go_sem, q0, q1]) rfl ?_
    rw [e1, e2, e0]
    refine ⟨none, 0, rfl, World.ownsRow_nil _ _ _ _, ?_⟩
    first | exact HW2.out | exact (HW2.out.setCell (by dsimp only; omega) _).setCell (by dsimp only; omega) _
  have h40i : (n : Int) * (m : Int) ≤ 40 := by omega
  have e0 : prodOk (n : Int) xs (m : Int) ys = true := by rw [prodOk, ← HK1.out, ← HK2.out, decide_eq_true h40i]; rfl
  obtain ⟨N, hN⟩ : ∃ N, N = n * m := ⟨_, rfl⟩
  have hNi : (n : Int) * (m : Int) = (N : Int) := by rw [hN, hcm]
  have hN40 : N ≤ 40 := by omega
  have e1 : prodL (n : Int) xs (m : Int) ys = N := by rw [prodL, e0, ← hNi]; rfl
  have e2 : prods (n : Int) xs (m : Int) ys = gridAcc (prodF n xs m ys) N N := by rw [prods, e0, hNi]; rfl
  have hlin : ∀ i k, i < N → k < N → (i / m) * n + k / m < L ∧ (i % m) * m + k % m < M ∧ tg xs ((i / m) * n + k / m) = (ti xs ((i / m) * n + k / m) : Int) ∧ ti xs ((i / m) * n + k / m) ≤ 40 ∧ tg ys ((i % m) * m + k % m) = (ti ys ((i % m) * m + k % m) : Int) ∧ ti ys ((i % m) * m + k % m) ≤ 40 := fun i k hi hk => by
    have h1 : i / m < n := Nat.div_lt_of_lt_mul (by rw [Nat.mul_comm]; omega)
    have h2 : k / m < n := Nat.div_lt_of_lt_mul (by rw [Nat.mul_comm]; omega)
    have h3 : i % m < m := Nat.mod_lt _ (by omega)
    have h4 : k % m < m := Nat.mod_lt _ (by omega)
    have l1 := lin_lt h1 h2
    have l2 := lin_lt h3 h4
    have x1 := tab_in hxs (by rw [← Hn.out, hL]; exact l1)
    have x2 := tab_in hys (by rw [← Hn2.out, hM]; exact l2)
    exact ⟨by omega, by omega, x1.1, by have := x1.2; omega, x2.1, by have := x2.2; omega⟩
  have hi40 : ∀ i, i ≤ N → i * N ≤ 1600 := fun i hi => Nat.mul_le_mul (by omega : i ≤ 40) (by omega : N ≤ 40)
  obtain ⟨g, hg⟩ : ∃ g, g = w2.heap.size := ⟨_, rfl⟩
  have hgl : w.heap.size + 3 ≤ g := by omega
  obtain ⟨w3, hw3⟩ : ∃ w3, w3 = w2.alloc (.cells #[.int .i64 (N : Int), .slice none 0 0] 26) := ⟨_, rfl⟩
  have hT3 := HT2.out.alloc (.cells #[.int .i64 (N : Int), .slice none 0 0] 26)
  have hU3 := HU2.out.alloc (.cells #[.int .i64 (N : Int), .slice none 0 0] 26)
  have hR3 := HR2.out.alloc (.cells #[.int .i64 (N : Int), .slice none 0 0] 26)
  have hW3 := HW2.out.alloc HW2.out.size (.cells #[.int .i64 (N : Int), .slice none 0 0] 26)
  have hO3 := Bk.new w2 26 #[.int .i64 (N : Int), .slice none 0 0]
  rw [← hw3] at hT3 hU3 hR3 hW3 hO3
  rw [← hg] at hO3
  have Hsl := Lib.hid hsl
  clear hsl
  have Hrl := Lib.hid hrl
  clear hrl
  have HL := Lib.hid hL
  clear hL
  have HM := Lib.hid hM
  clear hM
  have Hw3 := Lib.hid hw3
  clear hw3
  have Hg := Lib.hid hg
  clear hg
  have HT3 := Lib.hid hT3
  clear hT3
  have HU3 := Lib.hid hU3
  clear hU3
  have HR3 := Lib.hid hR3
  clear hR3
  have HW3 := Lib.hid hW3
  clear hW3
  have HO3 := Lib.hid hO3
  clear hO3
  have Hi40 := Lib.hid hi40
  clear hi40
  have Hlin := Lib.hid hlin
  clear hlin
  have HN := Lib.hid hN
  clear hN
  have E0 := Lib.hid e0
  clear e0
  have E1 := Lib.hid e1
  clear e1
  have E2 := Lib.hid e2
  clear e2
  have Hxs := Lib.hid hxs
  clear hxs
  have Hys := Lib.hid hys
  clear hys
  have Hcm := Lib.hid hcm
  clear hcm
  clear HT2 HU2 HR2 HW2 hnm h40
  go_wp2_with fail
  rw [← Hg.out, ← Hw3.out]
  clear t0 u0 q0 q1 f0 f1 tl ul rl hmw h40i hNi
  go_loopw [35] (fun i wr => ∃ (q : Nat) (B : Option Addr) (d z : Nat), q ≤ N ∧ i = .int .i64 q ∧ Hid (z = (gridAcc (prodF n xs m ys) N q).length) ∧ Bk wr w.heap.size 26 #[.int .i64 n, .slice A L c] ∧ Bk wr (w.heap.size + 1) 26 #[.int .i64 m, .slice B0 M c0] ∧ Bk wr (w.heap.size + 1 + 1) 26 #[.int .i64 0, .slice none 0 0] ∧ Bk wr g 26 #[.int .i64 N, .slice B z d] ∧ wr.ownsRow (g + 1) 3 1 (.slice B z d) z (ints (gridAcc (prodF n xs m ys) N q)) ∧ Below w.heap.size w wr) (fun i _ => N - (intOf i).toNat)
  case atStart => exact ⟨0, none, 0, 0, Nat.zero_le _, rfl, rfl, HT3.out, HU3.out, HR3.out, HO3.out, World.ownsRow_nil _ _ _ _, HW3.out⟩
  case round =>
    clear HT3 HU3 HR3 HO3 HW3 Hw3 Hg
    obtain ⟨i, B, d, z, hi, rfl, HM, hT, hU, hR, hO, hown, hW⟩ := hrel
    have o0 : wr.cell? ⟨g, 0, none⟩ = some (.int .i64 N) := by rw [hO.cell]; rfl
    have ol := hO.lt
    by_cases hlt : i < N
    · skip
      have HT := Lib.hid hT
      clear hT
      have HU := Lib.hid hU
      clear hU
      have HR := Lib.hid hR
      clear hR
      have HO := Lib.hid hO
      clear hO
      have Hown := Lib.hid hown
      clear hown
      have HW := Lib.hid hW
      clear hW
      go_wp2_with fail
      go_loopw [40] (fun k wr => ∃ (q : Nat) (B : Option Addr) (d z : Nat), q ≤ N ∧ k = .int .i64 q ∧ Hid (z = (gridTo (prodF n xs m ys) N i q).length) ∧ Bk wr w.heap.size 26 #[.int .i64 n, .slice A L c] ∧ Bk wr (w.heap.size + 1) 26 #[.int .i64 m, .slice B0 M c0] ∧ Bk wr (w.heap.size + 1 + 1) 26 #[.int .i64 0, .slice none 0 0] ∧ Bk wr g 26 #[.int .i64 N, .slice B z d] ∧ wr.ownsRow (g + 1) 3 1 (.slice B z d) z (ints (gridTo (prodF n xs m ys) N i q)) ∧ Below w.heap.size w wr) (fun k _ => N - (intOf k).toNat)
      case atStart => exact ⟨0, B, d, z, Nat.zero_le _, rfl, by unfold Hid; rw [gridTo_zero]; exact HM.out, HT.out, HU.out, HR.out, HO.out, by rw [gridTo_zero]; exact Hown.out, HW.out⟩
      case round =>
        clear HT HU HR HO Hown HW HM o0 ol z B d
        obtain ⟨k, B, d, z, hk, rfl, HM, hT, hU, hR, hO, hown, hW⟩ := hrel
        have o0 : wr.cell? ⟨g, 0, none⟩ = some (.int .i64 N) := by rw [hO.cell]; rfl
        have ol := hO.lt
        by_cases hltk : k < N
        · have hml : z ≤ 1640 := by rw [HM.out, gridTo_len]; have := Hi40.out i hi; omega
          obtain ⟨l1, l2, x1, x2, x3, x4⟩ := Hlin.out i k hlt hltk
          obtain ⟨a, ha⟩ : ∃ a, a = ti xs ((i / m) * n + k / m) := ⟨_, rfl⟩
          obtain ⟨b, hb3⟩ : ∃ b, b = ti ys ((i % m) * m + k % m) := ⟨_, rfl⟩
          rw [← ha] at x1 x2
          rw [← hb3] at x3 x4
          have tl := hT.lt
          have ul := hU.lt
          have eT : ∀ W, Below wr.drew.heap.size wr.drew W → W.cell? ⟨w.heap.size, 0, none⟩ = some (.int .i64 n) ∧ W.cell? ⟨w.heap.size, 1, none⟩ = some (.slice A L c) ∧ W.cell? ⟨w.heap.size + 1, 0, none⟩ = some (.int .i64 m) := fun W hb => ⟨(hb.cell (p := ⟨w.heap.size, 0, none⟩) tl).trans (by rw [hT.drew.cell]; rfl), (hb.cell (p := ⟨w.heap.size, 1, none⟩) tl).trans (by rw [hT.drew.cell]; rfl), (hb.cell (p := ⟨w.heap.size + 1, 0, none⟩) ul).trans (by rw [hU.drew.cell]; rfl)⟩
          have zT := eT _ (Below.refl _ _)
          have hrk : Rd wr.drew A (ints xs) := Hr.out.keep hW.drew
          have hdi : (i : Int) / (m : Int) = ((i / m : Nat) : Int) := (Int.natCast_ediv i m).symm
          have hdk : (k : Int) / (m : Int) = ((k / m : Nat) : Int) := (Int.natCast_ediv k m).symm
          have hri : (i : Int) % (m : Int) = ((i % m : Nat) : Int) := (Int.natCast_emod i m).symm
          have hrk2 : (k : Int) % (m : Int) = ((k % m : Nat) : Int) := (Int.natCast_emod k m).symm
          have hti : (i : Int).tmod m = ((i % m : Nat) : Int) := by rw [Int.tmod_eq_emod_of_nonneg (by omega)]; exact hri
          have htk : (k : Int).tmod m = ((k % m : Nat) : Int) := by rw [Int.tmod_eq_emod_of_nonneg (by omega)]; exact hrk2
          have wdi : IntKind.i64.wrap ((i : Int) / (m : Int)) = (i : Int) / (m : Int) := by rw [hdi]; exact i64_nat _ (Nat.le_trans (Nat.div_le_self i m) (by omega))
          have wdk : IntKind.i64.wrap ((k : Int) / (m : Int)) = (k : Int) / (m : Int) := by rw [hdk]; exact i64_nat _ (Nat.le_trans (Nat.div_le_self k m) (by omega))
          have wri : IntKind.i64.wrap ((i : Int) % (m : Int)) = (i : Int) % (m : Int) := by rw [hri]; exact i64_nat _ (Nat.le_trans (Nat.mod_le i m) (by omega))
          have wrk : IntKind.i64.wrap ((k : Int) % (m : Int)) = (k : Int) % (m : Int) := by rw [hrk2]; exact i64_nat _ (Nat.le_trans (Nat.mod_le k m) (by omega))
          have vdi : Go.RowKit.wrap64 ((i : Int) / (m : Int)) = (i : Int) / (m : Int) := by rw [← i64_is]; exact wdi
          have vdk : Go.RowKit.wrap64 ((k : Int) / (m : Int)) = (k : Int) / (m : Int) := by rw [← i64_is]; exact wdk
          have vri : Go.RowKit.wrap64 ((i : Int) % (m : Int)) = (i : Int) % (m : Int) := by rw [← i64_is]; exact wri
          have vrk : Go.RowKit.wrap64 ((k : Int) % (m : Int)) = (k : Int) % (m : Int) := by rw [← i64_is]; exact wrk
          have hm0 : ¬ (m : Int) = 0 := by omega
          have hm0' : ¬ m = 0 := by omega
          have ET := Lib.hid eT
          clear eT
          have ZT := Lib.hid zT
          clear zT
          have Hrk := Lib.hid hrk
          clear hrk
          have X1 := Lib.hid x1
          clear x1
          have X3 := Lib.hid x3
          clear x3
          have Ha := Lib.hid ha
          clear ha
          have Hb3 := Lib.hid hb3
          clear hb3
          have Hdi := Lib.hid hdi
          clear hdi
          have Hdk := Lib.hid hdk
          clear hdk
          have Hri := Lib.hid hri
          clear hri
          have Hrk2 := Lib.hid hrk2
          clear hrk2
          have Hti := Lib.hid hti
          clear hti
          have Htk := Lib.hid htk
          clear htk
          have HT := Lib.hid hT
          clear hT
          have HU := Lib.hid hU
          clear hU
          have HR := Lib.hid hR
          clear hR
          have HO := Lib.hid hO
          clear hO
          have Hown := Lib.hid hown
          clear hown
          have HW := Lib.hid hW
          clear hW
          go_wp2_with fail
          go_region_held3 (fun W => W.cell? ⟨w.heap.size, 0, none⟩ = some (.int .i64 n) ∧ W.cell? ⟨w.heap.size, 1, none⟩ = some (.slice A L c) ∧ W.cell? ⟨w.heap.size + 1, 0, none⟩ = some (.int .i64 m)) (first | exact ZT.out | assumption) (((with_reducible refine (implTimes_any n A L c xs _ _ (i / m) (k / m) ((i / m) * n + k / m) _ Hrk.out Hn.out hb Hdi.out Hdk.out rfl l1).mono ?_); rintro e y1 ⟨rfl, hV1⟩; rw [X1.out]; have hX1 := ET.out _ hV1))
          have hV0 : Below wr.heap.size wr y1 := ((Below.refl _ wr).drew).trans hV1
          have hW1 := HW.out.trans (hV0.mono HW.out.size)
          have hT1 := HT.out.below hV0 HT.out.lt
          have hU1 := HU.out.below hV0 HU.out.lt
          have hR1 := HR.out.below hV0 HR.out.lt
          have hO1 := HO.out.below hV0 HO.out.lt
          have hown1 := own_keep Hown.out hV0 (Nat.le_refl _)
          have ul := hU1.lt
          have gl := hO1.lt
          have o1 : y1.cell? ⟨g, 1, none⟩ = some (.slice B z d) := by rw [hO1.cell]; rfl
          have u0 : y1.cell? ⟨w.heap.size + 1, 0, none⟩ = some (.int .i64 m) := by rw [hU1.cell]; rfl
          have u1 : y1.cell? ⟨w.heap.size + 1, 1, none⟩ = some (.slice B0 M c0) := by rw [hU1.cell]; rfl
          have eU : ∀ W, Below y1.drew.heap.size y1.drew W → W.cell? ⟨w.heap.size + 1, 0, none⟩ = some (.int .i64 m) ∧ W.cell? ⟨w.heap.size + 1, 1, none⟩ = some (.slice B0 M c0) ∧ W.cell? ⟨g, 1, none⟩ = some (.slice B z d) ∧ w.heap.size + 1 < W.heap.size ∧ g < W.heap.size := fun W hb => ⟨(hb.cell (p := ⟨w.heap.size + 1, 0, none⟩) ul).trans u0, (hb.cell (p := ⟨w.heap.size + 1, 1, none⟩) ul).trans u1, (hb.cell (p := ⟨g, 1, none⟩) gl).trans o1, Nat.lt_of_lt_of_le ul hb.size, Nat.lt_of_lt_of_le gl hb.size⟩
          have eO : ∀ W, Below y1.drew.heap.size y1.drew W → W.ownsRow (g + 1) 3 1 (.slice B z d) z (ints (gridTo (prodF n xs m ys) N i k)) := fun W hb => own_keep (w := y1.drew) hown1 hb (Nat.le_refl _)
          have hV : Below y1.drew.heap.size y1.drew y1.drew := Below.refl _ _
          have hrd2 : Rd y1.drew B0 (ints ys) := Hr2.out.keep hW1.drew
          have ham : a * m ≤ 1600 := Nat.mul_le_mul (by omega : a ≤ 40) (by omega : m ≤ 40)
          have g1 := i64_mul a m (by omega)
          have g2 := i64_lin a b m (by omega)
          have hvf : prodF n xs m ys i k = (a : Int) * m + b := by rw [prodF, X1.out, X3.out]
          have hUU : True := trivial
          clear hX1 hV1 HT HU HR HO Hown HW ET ZT Hrk Hdi Hdk hV0 o0 ol tl
          have EU := Lib.hid eU
          clear eU
          have EO := Lib.hid eO
          clear eO
          have HT1 := Lib.hid hT1
          clear hT1
          have HU1 := Lib.hid hU1
          clear hU1
          have HR1 := Lib.hid hR1
          clear hR1
          have HO1 := Lib.hid hO1
          clear hO1
          have Hown1 := Lib.hid hown1
          clear hown1
          have Hrd2 := Lib.hid hrd2
          clear hrd2
          have Hvf := Lib.hid hvf
          clear hvf
          have HW1 := Lib.hid hW1
          clear hW1
          go_wp2_with fail
          have eU2 : ∀ W, Below y1.drew.heap.size y1.drew W → W.cell? ⟨w.heap.size + 1, 0, none⟩ = some (.int .i64 m) ∧ W.cell? ⟨w.heap.size + 1, 1, none⟩ = some (.slice B0 M c0) := fun W h => ⟨(EU.out W h).1, (EU.out W h).2.1⟩
          have zU := eU2 _ (Below.refl _ _)
          have EU2 := Lib.hid eU2
          clear eU2
          have ZU := Lib.hid zU
          clear zU
          refine wp_region_held_drew (S := (fun W => W.cell? ⟨w.heap.size + 1, 0, none⟩ = some (.int .i64 m) ∧ W.cell? ⟨w.heap.size + 1, 1, none⟩ = some (.slice B0 M c0))) (by kernel_rfl) (ZU.out) (fun hHeld => ?_)
          refine wpAnyH_take (i := 0) (oi := ?oi364) (v := ?val364) ?hi364 ?hs364 ?hf364 ?hr364 ?hQ364 ?hy364 ?hS364 ?hrest364
          case hi364 => (simp only [List.getElem?_toArray, List.getElem?_cons_succ, List.getElem?_cons_zero] <;> exact rfl)
          case hs364 => kernel_rfl
          case hf364 => kernel_rfl
          case hr364 => kernel_rfl
          case hQ364 => exact fun _ _ _ h => h
          case hS364 => assumption
          case hy364 => (refine Or.inl ⟨by rfl, ?_⟩; intro w hSw; (try dsimp only at hSw); (first | obtain ⟨z0, z1, z2, z3⟩ := hSw | obtain ⟨z0, z1, z2⟩ := hSw | obtain ⟨z0, z1⟩ := hSw | skip); go_simp; try with_reducible rfl)
          simp only [Act.put, List.setIfInBounds_toArray, List.set_cons_zero, List.set_cons_succ]
          refine wpAnyH_take (i := 2) (oi := ?oi373) (v := ?val373) ?hi373 ?hs373 ?hf373 ?hr373 ?hQ373 ?hy373 ?hS373 ?hrest373
          case hi373 => (simp only [List.getElem?_toArray, List.getElem?_cons_succ, List.getElem?_cons_zero] <;> exact rfl)
          case hs373 => kernel_rfl
          case hf373 => kernel_rfl
          case hr373 => kernel_rfl
          case hQ373 => exact fun _ _ _ h => h
          case hS373 => assumption
          case hy373 => (refine Or.inl ⟨by rfl, ?_⟩; intro w hSw; (try dsimp only at hSw); (first | obtain ⟨z0, z1, z2, z3⟩ := hSw | obtain ⟨z0, z1, z2⟩ := hSw | obtain ⟨z0, z1⟩ := hSw | skip); go_simp; try with_reducible rfl)
          simp only [Act.put, List.setIfInBounds_toArray, List.set_cons_zero, List.set_cons_succ]
          refine wpAnyH_take (i := 3) (oi := ?oi382) (v := ?val382) ?hi382 ?hs382 ?hf382 ?hr382 ?hQ382 ?hy382 ?hS382 ?hrest382
          case hi382 => (simp only [List.getElem?_toArray, List.getElem?_cons_succ, List.getElem?_cons_zero] <;> exact rfl)
          case hs382 => kernel_rfl
          case hf382 => kernel_rfl
          case hr382 => kernel_rfl
          case hQ382 => exact fun _ _ _ h => h
          case hS382 => assumption
          case hy382 => (refine Or.inl ⟨by rfl, ?_⟩; intro w hSw; (try dsimp only at hSw); (first | obtain ⟨z0, z1, z2, z3⟩ := hSw | obtain ⟨z0, z1, z2⟩ := hSw | obtain ⟨z0, z1⟩ := hSw | skip); go_simp; try with_reducible rfl)
          simp only [Act.put, List.setIfInBounds_toArray, List.set_cons_zero, List.set_cons_succ]
          refine wpAnyH_take (i := 4) (oi := ?oi391) (v := ?val391) ?hi391 ?hs391 ?hf391 ?hr391 ?hQ391 ?hy391 ?hS391 ?hrest391
          case hi391 => (simp only [List.getElem?_toArray, List.getElem?_cons_succ, List.getElem?_cons_zero] <;> exact rfl)
          case hs391 => kernel_rfl
          case hf391 => kernel_rfl
          case hr391 => kernel_rfl
          case hQ391 => exact fun _ _ _ h => h
          case hS391 => assumption
          case hy391 => (refine Or.inl ⟨by rfl, ?_⟩; intro w hSw; (try dsimp only at hSw); (first | obtain ⟨z0, z1, z2, z3⟩ := hSw | obtain ⟨z0, z1, z2⟩ := hSw | obtain ⟨z0, z1⟩ := hSw | skip); go_simp; try with_reducible rfl)
          simp only [Act.put, List.setIfInBounds_toArray, List.set_cons_zero, List.set_cons_succ]
          refine wpAnyH_take (i := 5) (oi := ?oi400) (v := ?val400) ?hi400 ?hs400 ?hf400 ?hr400 ?hQ400 ?hy400 ?hS400 ?hrest400
          case hi400 => (simp only [List.getElem?_toArray, List.getElem?_cons_succ, List.getElem?_cons_zero] <;> exact rfl)
          case hs400 => kernel_rfl
          case hf400 => kernel_rfl
          case hr400 => kernel_rfl
          case hQ400 => exact fun _ _ _ h => h
          case hS400 => assumption
          case hy400 => (refine Or.inl ⟨by rfl, ?_⟩; intro w hSw; (try dsimp only at hSw); (first | obtain ⟨z0, z1, z2, z3⟩ := hSw | obtain ⟨z0, z1, z2⟩ := hSw | obtain ⟨z0, z1⟩ := hSw | skip); go_simp; try with_reducible rfl)
          simp only [Act.put, List.setIfInBounds_toArray, List.set_cons_zero, List.set_cons_succ]
          refine wpAnyH_take (i := 6) (oi := ?oi409) (v := ?val409) ?hi409 ?hs409 ?hf409 ?hr409 ?hQ409 ?hy409 ?hS409 ?hrest409
          case hi409 => (simp only [List.getElem?_toArray, List.getElem?_cons_succ, List.getElem?_cons_zero] <;> exact rfl)
          case hs409 => kernel_rfl
          case hf409 => kernel_rfl
          case hr409 => kernel_rfl
          case hQ409 => exact fun _ _ _ h => h
          case hS409 => assumption
          case hy409 => (refine Or.inl ⟨by rfl, ?_⟩; intro w hSw; (try dsimp only at hSw); (first | obtain ⟨z0, z1, z2, z3⟩ := hSw | obtain ⟨z0, z1, z2⟩ := hSw | obtain ⟨z0, z1⟩ := hSw | skip); go_simp; try with_reducible rfl)
          simp only [Act.put, List.setIfInBounds_toArray, List.set_cons_zero, List.set_cons_succ]
          refine wpAnyH_take (i := 7) (oi := ?oi418) (v := ?val418) ?hi418 ?hs418 ?hf418 ?hr418 ?hQ418 ?hy418 ?hS418 ?hrest418
          case hi418 => (simp only [List.getElem?_toArray, List.getElem?_cons_succ, List.getElem?_cons_zero] <;> exact rfl)
          case hs418 => kernel_rfl
          case hf418 => kernel_rfl
          case hr418 => kernel_rfl
          case hQ418 => exact fun _ _ _ h => h
          case hS418 => assumption
          case hy418 => (refine Or.inl ⟨by rfl, ?_⟩; intro w hSw; (try dsimp only at hSw); (first | obtain ⟨z0, z1, z2, z3⟩ := hSw | obtain ⟨z0, z1, z2⟩ := hSw | obtain ⟨z0, z1⟩ := hSw | skip); go_simp; try with_reducible rfl)
          simp only [Act.put, List.setIfInBounds_toArray, List.set_cons_zero, List.set_cons_succ]
          refine wpAnyH_take (i := 8) (oi := ?oi427) (v := ?val427) ?hi427 ?hs427 ?hf427 ?hr427 ?hQ427 ?hy427 ?hS427 ?hrest427
          case hi427 => (simp only [List.getElem?_toArray, List.getElem?_cons_succ, List.getElem?_cons_zero] <;> exact rfl)
          case hs427 => kernel_rfl
          case hf427 => kernel_rfl
          case hr427 => kernel_rfl
          case hQ427 => exact fun _ _ _ h => h
          case hS427 => assumption
          case hy427 => (refine Or.inl ⟨by rfl, ?_⟩; intro w hSw; (try dsimp only at hSw); (first | obtain ⟨z0, z1, z2, z3⟩ := hSw | obtain ⟨z0, z1, z2⟩ := hSw | obtain ⟨z0, z1⟩ := hSw | skip); go_simp; try with_reducible rfl)
          simp only [Act.put, List.setIfInBounds_toArray, List.set_cons_zero, List.set_cons_succ]
          refine wpAnyH_take (i := 9) (oi := ?oi436) (v := ?val436) ?hi436 ?hs436 ?hf436 ?hr436 ?hQ436 ?hy436 ?hS436 ?hrest436
          case hi436 => (simp only [List.getElem?_toArray, List.getElem?_cons_succ, List.getElem?_cons_zero] <;> exact rfl)
          case hs436 => kernel_rfl
          case hf436 => kernel_rfl
          case hr436 => kernel_rfl
          case hQ436 => exact fun _ _ _ h => h
          case hS436 => assumption
          case hy436 => (refine Or.inl ⟨by rfl, ?_⟩; intro w hSw; (try dsimp only at hSw); (first | obtain ⟨z0, z1, z2, z3⟩ := hSw | obtain ⟨z0, z1, z2⟩ := hSw | obtain ⟨z0, z1⟩ := hSw | skip); go_simp; try with_reducible rfl)
          simp only [Act.put, List.setIfInBounds_toArray, List.set_cons_zero, List.set_cons_succ]
          refine wpAnyH_take (i := 10) (oi := ?oi445) (v := ?val445) ?hi445 ?hs445 ?hf445 ?hr445 ?hQ445 ?hy445 ?hS445 ?hrest445
          case hi445 => (simp only [List.getElem?_toArray, List.getElem?_cons_succ, List.getElem?_cons_zero] <;> exact rfl)
          case hs445 => kernel_rfl
          case hf445 => kernel_rfl
          case hr445 => kernel_rfl
          case hQ445 => exact fun _ _ _ h => h
          case hS445 => assumption
          case hy445 => (refine Or.inl ⟨by rfl, ?_⟩; intro w hSw; (try dsimp only at hSw); (first | obtain ⟨z0, z1, z2, z3⟩ := hSw | obtain ⟨z0, z1, z2⟩ := hSw | obtain ⟨z0, z1⟩ := hSw | skip); go_simp; try with_reducible rfl)
          simp only [Act.put, List.setIfInBounds_toArray, List.set_cons_zero, List.set_cons_succ]
          refine wpAnyH_take (i := 11) (oi := ?oi454) (v := ?val454) ?hi454 ?hs454 ?hf454 ?hr454 ?hQ454 ?hy454 ?hS454 ?hrest454
          case hi454 => (simp only [List.getElem?_toArray, List.getElem?_cons_succ, List.getElem?_cons_zero] <;> exact rfl)
          case hs454 => kernel_rfl
          case hf454 => kernel_rfl
          case hr454 => kernel_rfl
          case hQ454 => exact fun _ _ _ h => h
          case hS454 => assumption
          case hy454 => (refine Or.inl ⟨by rfl, ?_⟩; intro w hSw; (try dsimp only at hSw); (first | obtain ⟨z0, z1, z2, z3⟩ := hSw | obtain ⟨z0, z1, z2⟩ := hSw | obtain ⟨z0, z1⟩ := hSw | skip); go_simp; try with_reducible rfl)
          simp only [Act.put, List.setIfInBounds_toArray, List.set_cons_zero, List.set_cons_succ]
          refine wpAnyH_take (i := 12) (oi := ?oi463) (v := ?val463) ?hi463 ?hs463 ?hf463 ?hr463 ?hQ463 ?hy463 ?hS463 ?hrest463
          case hi463 => (simp only [List.getElem?_toArray, List.getElem?_cons_succ, List.getElem?_cons_zero] <;> exact rfl)
          case hs463 => kernel_rfl
          case hf463 => kernel_rfl
          case hr463 => kernel_rfl
          case hQ463 => exact fun _ _ _ h => h
          case hS463 => assumption
          case hy463 => (refine Or.inl ⟨by rfl, ?_⟩; intro w hSw; (try dsimp only at hSw); (first | obtain ⟨z0, z1, z2, z3⟩ := hSw | obtain ⟨z0, z1, z2⟩ := hSw | obtain ⟨z0, z1⟩ := hSw | skip); go_simp; try with_reducible rfl)
          simp only [Act.put, List.setIfInBounds_toArray, List.set_cons_zero, List.set_cons_succ]
          refine wpAnyH_take (i := 13) (oi := ?oi472) (v := ?val472) ?hi472 ?hs472 ?hf472 ?hr472 ?hQ472 ?hy472 ?hS472 ?hrest472
          case hi472 => (simp only [List.getElem?_toArray, List.getElem?_cons_succ, List.getElem?_cons_zero] <;> exact rfl)
          case hs472 => kernel_rfl
          case hf472 => kernel_rfl
          case hr472 => kernel_rfl
          case hQ472 => exact fun _ _ _ h => h
          case hS472 => assumption
          case hy472 => (refine Or.inl ⟨by rfl, ?_⟩; intro w hSw; (try dsimp only at hSw); (first | obtain ⟨z0, z1, z2, z3⟩ := hSw | obtain ⟨z0, z1, z2⟩ := hSw | obtain ⟨z0, z1⟩ := hSw | skip); go_simp; try with_reducible rfl)
          simp only [Act.put, List.setIfInBounds_toArray, List.set_cons_zero, List.set_cons_succ]
          refine wpAnyH_take (i := 14) (oi := ?oi481) (v := ?val481) ?hi481 ?hs481 ?hf481 ?hr481 ?hQ481 ?hy481 ?hS481 ?hrest481
          case hi481 => (simp only [List.getElem?_toArray, List.getElem?_cons_succ, List.getElem?_cons_zero] <;> exact rfl)
          case hs481 => kernel_rfl
          case hf481 => kernel_rfl
          case hr481 => kernel_rfl
          case hQ481 => exact fun _ _ _ h => h
          case hS481 => assumption
          case hy481 => (refine Or.inl ⟨by rfl, ?_⟩; intro w hSw; (try dsimp only at hSw); (first | obtain ⟨z0, z1, z2, z3⟩ := hSw | obtain ⟨z0, z1, z2⟩ := hSw | obtain ⟨z0, z1⟩ := hSw | skip); go_simp; try with_reducible rfl)
          simp only [Act.put, List.setIfInBounds_toArray, List.set_cons_zero, List.set_cons_succ]
          refine wpAnyH_ready (rs := [1, 15]) (by kernel_rfl) (by simp) ?_
          refine AllReadyH.cons rfl (fun K hK => ?_) (AllReadyH.cons rfl (fun K hK => ?_) AllReadyH.nil)
          · skip
            obtain ⟨v0, v1, v2, v3, v4⟩ := EU.out _ hV
            go_simp
            refine hK.out _ _ (EU2.out _ hV) (fun hHeld2 => ?_)
            clear hK K hHeld
            have hHeld := hHeld2
            clear hHeld2
            first | simp only [Act.put, List.setIfInBounds_toArray, List.set_cons_zero, List.set_cons_succ] | skip
            clear v0 v1 v2 v3 v4
            refine wpAnyH_ready (rs := [15]) (by kernel_rfl) (by simp) ?_
            refine AllReadyH.cons rfl (fun K hK => ?_) AllReadyH.nil
            go_simp
            with_reducible refine (implTimes_any m B0 M c0 ys _ _ (i % m) (k % m) ((i % m) * m + k % m) _ (Hrd2.out.keep hV) Hn2.out hb2 Hti.out Htk.out rfl l2).mono ?_
            rintro e u ⟨rfl, hUU⟩
            rw [X3.out]
            have hV := hV.trans (hUU.mono hV.size)
            refine hK.out _ _ (EU2.out _ hV) (fun hHeld2 => ?_)
            clear hK K hHeld
            have hHeld := hHeld2
            clear hHeld2
            first | simp only [Act.put, List.setIfInBounds_toArray, List.set_cons_zero, List.set_cons_succ] | skip
            refine wpAnyH_take (i := 16) (oi := ?oi513) (v := ?val513) ?hi513 ?hs513 ?hf513 ?hr513 ?hQ513 ?hy513 ?hS513 ?hrest513
            case hi513 => (simp only [List.getElem?_toArray, List.getElem?_cons_succ, List.getElem?_cons_zero] <;> exact rfl)
            case hs513 => kernel_rfl
            case hf513 => kernel_rfl
            case hr513 => kernel_rfl
            case hQ513 => exact fun _ _ _ h => h
            case hS513 => assumption
            case hy513 => (refine Or.inl ⟨by rfl, ?_⟩; intro w hSw; (try dsimp only at hSw); (first | obtain ⟨z0, z1, z2, z3⟩ := hSw | obtain ⟨z0, z1, z2⟩ := hSw | obtain ⟨z0, z1⟩ := hSw | skip); go_simp; try with_reducible rfl)
            simp only [Act.put, List.setIfInBounds_toArray, List.set_cons_zero, List.set_cons_succ]
            refine wpAnyH_ready (rs := [17]) (by kernel_rfl) (by simp) ?_
            refine AllReadyH.cons rfl (fun K hK => ?_) AllReadyH.nil
            go_simp
            refine hK.out _ _ (EU2.out _ (hV.alloc hV.size _)) (fun hHeld2 => ?_)
            clear hK K hHeld
            have hHeld := hHeld2
            clear hHeld2
            first | simp only [Act.put, List.setIfInBounds_toArray, List.set_cons_zero, List.set_cons_succ] | skip
            refine wpAnyH_ready (rs := [18]) (by kernel_rfl) (by simp) ?_
            refine AllReadyH.cons rfl (fun K hK => ?_) AllReadyH.nil
            refine step_app1 _ _ rfl _ _ 22 rfl (g + 1) 3 1 8 _ Try.underlying22 info_int rfl (by omega) _ _ _ _ rfl rfl rfl (EO.out _ hV) rfl (one_cell1 _) (by omega) (by unfold maxLen; omega) (by have := hV.size; simp at this; omega) ?_
            intro A5 c5 w5 hO5 hW5
            have hB5 := (HO1.out.drew.below hV (by simp; omega)).below hW5 (by omega)
            have hS5 := hB5.cell 1
            have hF5 := hB5.free 1
            have hU5 := ((HU1.out.drew.below hV (by simp; omega)).below hW5 (by omega))
            refine hK.out _ _ (⟨hU5.cell 0, hU5.cell 1⟩) (fun hHeld2 => ?_)
            clear hK K hHeld
            have hHeld := hHeld2
            clear hHeld2
            first | simp only [Act.put, List.setIfInBounds_toArray, List.set_cons_zero, List.set_cons_succ] | skip
            refine wpAnyH_take (i := 19) (oi := ?oi543) (v := ?val543) ?hi543 ?hs543 ?hf543 ?hr543 ?hQ543 ?hy543 ?hS543 ?hrest543
            case hi543 => (simp only [List.getElem?_toArray, List.getElem?_cons_succ, List.getElem?_cons_zero] <;> exact rfl)
            case hs543 => kernel_rfl
            case hf543 => kernel_rfl
            case hr543 => kernel_rfl
            case hQ543 => exact fun _ _ _ h => h
            case hS543 => assumption
            case hy543 => (refine Or.inl ⟨by rfl, ?_⟩; intro w hSw; (try dsimp only at hSw); (first | obtain ⟨z0, z1, z2, z3⟩ := hSw | obtain ⟨z0, z1, z2⟩ := hSw | obtain ⟨z0, z1⟩ := hSw | skip); go_simp; try with_reducible rfl)
            simp only [Act.put, List.setIfInBounds_toArray, List.set_cons_zero, List.set_cons_succ]
            refine wpAnyH_ready (rs := [20]) (by kernel_rfl) (by simp) ?_
            refine AllReadyH.cons rfl (fun K hK => ?_) AllReadyH.nil
            go_simp
            refine hK.out _ _ (⟨(hU5.far (p := ⟨g, 1, none⟩) (by dsimp only; omega) _).cell 0, (hU5.far (p := ⟨g, 1, none⟩) (by dsimp only; omega) _).cell 1⟩) (fun hHeld2 => ?_)
            clear hK K hHeld
            have hHeld := hHeld2
            clear hHeld2
            first | simp only [Act.put, List.setIfInBounds_toArray, List.set_cons_zero, List.set_cons_succ] | skip
            refine wpAnyH_done (by kernel_rfl) ?_ _
            have hN : Below w.heap.size w (w5.setCell ⟨g, 1, none⟩ (.slice A5 (z + 1) c5)) := (((HW1.out.drew).trans (hV.mono HW1.out.size)).trans (hW5.mono (by have := hgl; omega))).setCell (by dsimp only; omega) _
            have hTn := ((HT1.out.drew.below hV (by have := HT1.out.lt; simp; omega)).below hW5 (by omega)).far (p := ⟨g, 1, none⟩) (by dsimp only; omega) (.slice A5 (z + 1) c5)
            have hUn := ((HU1.out.drew.below hV (by simp; omega)).below hW5 (by omega)).far (p := ⟨g, 1, none⟩) (by dsimp only; omega) (.slice A5 (z + 1) c5)
            have hRn := ((HR1.out.drew.below hV (by have := HR1.out.lt; simp; omega)).below hW5 (by omega)).far (p := ⟨g, 1, none⟩) (by dsimp only; omega) (.slice A5 (z + 1) c5)
            have hOn := hB5.put 1 (.slice A5 (z + 1) c5)
            have hon := ownsRow_setCell_below hO5 (a := ⟨g, 1, none⟩) (by simp) (.slice A5 (z + 1) c5)
            have hcl : ints (gridTo (prodF n xs m ys) N i k) ++ (#[Value.int .i64 ((a : Int) * m + b)] : Array Value).toList = ints (gridTo (prodF n xs m ys) N i (k + 1)) := by
              rw [gridTo_succ, ints_snoc, Hvf.out]
            rw [hcl] at hon
            clear hO5 hB5 hcl hS5 hF5 hV hUU EU EO HT1 HU1 HR1 HO1 Hown1 Hrd2 Hri Hrk2 Hti Htk
            go_wp2_with fail
            go_roundw
            case rel => exact ⟨k + 1, A5, c5, z + 1, by omega, by go_num, by unfold Hid; rw [HM.out, gridTo_succ, List.length_append]; rfl, hTn, hUn, hRn, hOn, hon, hN⟩
            case measure => simp [intOf]; omega
          · skip
            go_simp
            with_reducible refine (implTimes_any m B0 M c0 ys _ _ (i % m) (k % m) ((i % m) * m + k % m) _ (Hrd2.out.keep hV) Hn2.out hb2 Hti.out Htk.out rfl l2).mono ?_
            rintro e u ⟨rfl, hUU⟩
            rw [X3.out]
            have hV := hV.trans (hUU.mono hV.size)
            refine hK.out _ _ (EU2.out _ hV) (fun hHeld2 => ?_)
            clear hK K hHeld
            have hHeld := hHeld2
            clear hHeld2
            first | simp only [Act.put, List.setIfInBounds_toArray, List.set_cons_zero, List.set_cons_succ] | skip
            refine wpAnyH_take (i := 16) (oi := ?oi586) (v := ?val586) ?hi586 ?hs586 ?hf586 ?hr586 ?hQ586 ?hy586 ?hS586 ?hrest586
            case hi586 => (simp only [List.getElem?_toArray, List.getElem?_cons_succ, List.getElem?_cons_zero] <;> exact rfl)
            case hs586 => kernel_rfl
            case hf586 => kernel_rfl
            case hr586 => kernel_rfl
            case hQ586 => exact fun _ _ _ h => h
            case hS586 => assumption
            case hy586 => (refine Or.inl ⟨by rfl, ?_⟩; intro w hSw; (try dsimp only at hSw); (first | obtain ⟨z0, z1, z2, z3⟩ := hSw | obtain ⟨z0, z1, z2⟩ := hSw | obtain ⟨z0, z1⟩ := hSw | skip); go_simp; try with_reducible rfl)
            simp only [Act.put, List.setIfInBounds_toArray, List.set_cons_zero, List.set_cons_succ]
            refine wpAnyH_ready (rs := [1, 17]) (by kernel_rfl) (by simp) ?_
            refine AllReadyH.cons rfl (fun K hK => ?_) (AllReadyH.cons rfl (fun K hK => ?_) AllReadyH.nil)
            · skip
              obtain ⟨v0, v1, v2, v3, v4⟩ := EU.out _ hV
              go_simp
              refine hK.out _ _ (EU2.out _ hV) (fun hHeld2 => ?_)
              clear hK K hHeld
              have hHeld := hHeld2
              clear hHeld2
              first | simp only [Act.put, List.setIfInBounds_toArray, List.set_cons_zero, List.set_cons_succ] | skip
              clear v0 v1 v2 v3 v4
              refine wpAnyH_ready (rs := [17]) (by kernel_rfl) (by simp) ?_
              refine AllReadyH.cons rfl (fun K hK => ?_) AllReadyH.nil
              go_simp
              refine hK.out _ _ (EU2.out _ (hV.alloc hV.size _)) (fun hHeld2 => ?_)
              clear hK K hHeld
              have hHeld := hHeld2
              clear hHeld2
              first | simp only [Act.put, List.setIfInBounds_toArray, List.set_cons_zero, List.set_cons_succ] | skip
              refine wpAnyH_ready (rs := [18]) (by kernel_rfl) (by simp) ?_
              refine AllReadyH.cons rfl (fun K hK => ?_) AllReadyH.nil
              refine step_app1 _ _ rfl _ _ 22 rfl (g + 1) 3 1 8 _ Try.underlying22 info_int rfl (by omega) _ _ _ _ rfl rfl rfl (EO.out _ hV) rfl (one_cell1 _) (by omega) (by unfold maxLen; omega) (by have := hV.size; simp at this; omega) ?_
              intro A5 c5 w5 hO5 hW5
              have hB5 := (HO1.out.drew.below hV (by simp; omega)).below hW5 (by omega)
              have hS5 := hB5.cell 1
              have hF5 := hB5.free 1
              have hU5 := ((HU1.out.drew.below hV (by simp; omega)).below hW5 (by omega))
              refine hK.out _ _ (⟨hU5.cell 0, hU5.cell 1⟩) (fun hHeld2 => ?_)
              clear hK K hHeld
              have hHeld := hHeld2
              clear hHeld2
              first | simp only [Act.put, List.setIfInBounds_toArray, List.set_cons_zero, List.set_cons_succ] | skip
              refine wpAnyH_take (i := 19) (oi := ?oi627) (v := ?val627) ?hi627 ?hs627 ?hf627 ?hr627 ?hQ627 ?hy627 ?hS627 ?hrest627
              case hi627 => (simp only [List.getElem?_toArray, List.getElem?_cons_succ, List.getElem?_cons_zero] <;> exact rfl)
              case hs627 => kernel_rfl
              case hf627 => kernel_rfl
              case hr627 => kernel_rfl
              case hQ627 => exact fun _ _ _ h => h
              case hS627 => assumption
              case hy627 => (refine Or.inl ⟨by rfl, ?_⟩; intro w hSw; (try dsimp only at hSw); (first | obtain ⟨z0, z1, z2, z3⟩ := hSw | obtain ⟨z0, z1, z2⟩ := hSw | obtain ⟨z0, z1⟩ := hSw | skip); go_simp; try with_reducible rfl)
              simp only [Act.put, List.setIfInBounds_toArray, List.set_cons_zero, List.set_cons_succ]
              refine wpAnyH_ready (rs := [20]) (by kernel_rfl) (by simp) ?_
              refine AllReadyH.cons rfl (fun K hK => ?_) AllReadyH.nil
              go_simp
              refine hK.out _ _ (⟨(hU5.far (p := ⟨g, 1, none⟩) (by dsimp only; omega) _).cell 0, (hU5.far (p := ⟨g, 1, none⟩) (by dsimp only; omega) _).cell 1⟩) (fun hHeld2 => ?_)
              clear hK K hHeld
              have hHeld := hHeld2
              clear hHeld2
              first | simp only [Act.put, List.setIfInBounds_toArray, List.set_cons_zero, List.set_cons_succ] | skip
              refine wpAnyH_done (by kernel_rfl) ?_ _
              have hN : Below w.heap.size w (w5.setCell ⟨g, 1, none⟩ (.slice A5 (z + 1) c5)) := (((HW1.out.drew).trans (hV.mono HW1.out.size)).trans (hW5.mono (by have := hgl; omega))).setCell (by dsimp only; omega) _
              have hTn := ((HT1.out.drew.below hV (by have := HT1.out.lt; simp; omega)).below hW5 (by omega)).far (p := ⟨g, 1, none⟩) (by dsimp only; omega) (.slice A5 (z + 1) c5)
              have hUn := ((HU1.out.drew.below hV (by simp; omega)).below hW5 (by omega)).far (p := ⟨g, 1, none⟩) (by dsimp only; omega) (.slice A5 (z + 1) c5)
              have hRn := ((HR1.out.drew.below hV (by have := HR1.out.lt; simp; omega)).below hW5 (by omega)).far (p := ⟨g, 1, none⟩) (by dsimp only; omega) (.slice A5 (z + 1) c5)
              have hOn := hB5.put 1 (.slice A5 (z + 1) c5)
              have hon := ownsRow_setCell_below hO5 (a := ⟨g, 1, none⟩) (by simp) (.slice A5 (z + 1) c5)
              have hcl : ints (gridTo (prodF n xs m ys) N i k) ++ (#[Value.int .i64 ((a : Int) * m + b)] : Array Value).toList = ints (gridTo (prodF n xs m ys) N i (k + 1)) := by
                rw [gridTo_succ, ints_snoc, Hvf.out]
              rw [hcl] at hon
              clear hO5 hB5 hcl hS5 hF5 hV hUU EU EO HT1 HU1 HR1 HO1 Hown1 Hrd2 Hri Hrk2 Hti Htk
              go_wp2_with fail
              go_roundw
              case rel => exact ⟨k + 1, A5, c5, z + 1, by omega, by go_num, by unfold Hid; rw [HM.out, gridTo_succ, List.length_append]; rfl, hTn, hUn, hRn, hOn, hon, hN⟩
              case measure => simp [intOf]; omega
            · skip
              go_simp
              refine hK.out _ _ (EU2.out _ (hV.alloc hV.size _)) (fun hHeld2 => ?_)
              clear hK K hHeld
              have hHeld := hHeld2
              clear hHeld2
              first | simp only [Act.put, List.setIfInBounds_toArray, List.set_cons_zero, List.set_cons_succ] | skip
              refine wpAnyH_ready (rs := [1]) (by kernel_rfl) (by simp) ?_
              refine AllReadyH.cons rfl (fun K hK => ?_) AllReadyH.nil
              obtain ⟨v0, v1, v2, v3, v4⟩ := EU.out _ (hV.alloc hV.size (.cells #[.int .i64 ((a : Int) * (m : Int) + (b : Int))] 3))
              go_simp
              refine hK.out _ _ (EU2.out _ (hV.alloc hV.size _)) (fun hHeld2 => ?_)
              clear hK K hHeld
              have hHeld := hHeld2
              clear hHeld2
              first | simp only [Act.put, List.setIfInBounds_toArray, List.set_cons_zero, List.set_cons_succ] | skip
              clear v0 v1 v2 v3 v4
              refine wpAnyH_ready (rs := [18]) (by kernel_rfl) (by simp) ?_
              refine AllReadyH.cons rfl (fun K hK => ?_) AllReadyH.nil
              refine step_app1 _ _ rfl _ _ 22 rfl (g + 1) 3 1 8 _ Try.underlying22 info_int rfl (by omega) _ _ _ _ rfl rfl rfl (EO.out _ hV) rfl (one_cell1 _) (by omega) (by unfold maxLen; omega) (by have := hV.size; simp at this; omega) ?_
              intro A5 c5 w5 hO5 hW5
              have hB5 := (HO1.out.drew.below hV (by simp; omega)).below hW5 (by omega)
              have hS5 := hB5.cell 1
              have hF5 := hB5.free 1
              have hU5 := ((HU1.out.drew.below hV (by simp; omega)).below hW5 (by omega))
              refine hK.out _ _ (⟨hU5.cell 0, hU5.cell 1⟩) (fun hHeld2 => ?_)
              clear hK K hHeld
              have hHeld := hHeld2
              clear hHeld2
              first | simp only [Act.put, List.setIfInBounds_toArray, List.set_cons_zero, List.set_cons_succ] | skip
              refine wpAnyH_take (i := 19) (oi := ?oi689) (v := ?val689) ?hi689 ?hs689 ?hf689 ?hr689 ?hQ689 ?hy689 ?hS689 ?hrest689
              case hi689 => (simp only [List.getElem?_toArray, List.getElem?_cons_succ, List.getElem?_cons_zero] <;> exact rfl)
              case hs689 => kernel_rfl
              case hf689 => kernel_rfl
              case hr689 => kernel_rfl
              case hQ689 => exact fun _ _ _ h => h
              case hS689 => assumption
              case hy689 => (refine Or.inl ⟨by rfl, ?_⟩; intro w hSw; (try dsimp only at hSw); (first | obtain ⟨z0, z1, z2, z3⟩ := hSw | obtain ⟨z0, z1, z2⟩ := hSw | obtain ⟨z0, z1⟩ := hSw | skip); go_simp; try with_reducible rfl)
              simp only [Act.put, List.setIfInBounds_toArray, List.set_cons_zero, List.set_cons_succ]
              refine wpAnyH_ready (rs := [20]) (by kernel_rfl) (by simp) ?_
              refine AllReadyH.cons rfl (fun K hK => ?_) AllReadyH.nil
              go_simp
              refine hK.out _ _ (⟨(hU5.far (p := ⟨g, 1, none⟩) (by dsimp only; omega) _).cell 0, (hU5.far (p := ⟨g, 1, none⟩) (by dsimp only; omega) _).cell 1⟩) (fun hHeld2 => ?_)
              clear hK K hHeld
              have hHeld := hHeld2
              clear hHeld2
              first | simp only [Act.put, List.setIfInBounds_toArray, List.set_cons_zero, List.set_cons_succ] | skip
              refine wpAnyH_done (by kernel_rfl) ?_ _
              have hN : Below w.heap.size w (w5.setCell ⟨g, 1, none⟩ (.slice A5 (z + 1) c5)) := (((HW1.out.drew).trans (hV.mono HW1.out.size)).trans (hW5.mono (by have := hgl; omega))).setCell (by dsimp only; omega) _
              have hTn := ((HT1.out.drew.below hV (by have := HT1.out.lt; simp; omega)).below hW5 (by omega)).far (p := ⟨g, 1, none⟩) (by dsimp only; omega) (.slice A5 (z + 1) c5)
              have hUn := ((HU1.out.drew.below hV (by simp; omega)).below hW5 (by omega)).far (p := ⟨g, 1, none⟩) (by dsimp only; omega) (.slice A5 (z + 1) c5)
              have hRn := ((HR1.out.drew.below hV (by have := HR1.out.lt; simp; omega)).below hW5 (by omega)).far (p := ⟨g, 1, none⟩) (by dsimp only; omega) (.slice A5 (z + 1) c5)
              have hOn := hB5.put 1 (.slice A5 (z + 1) c5)
              have hon := ownsRow_setCell_below hO5 (a := ⟨g, 1, none⟩) (by simp) (.slice A5 (z + 1) c5)
              have hcl : ints (gridTo (prodF n xs m ys) N i k) ++ (#[Value.int .i64 ((a : Int) * m + b)] : Array Value).toList = ints (gridTo (prodF n xs m ys) N i (k + 1)) := by
                rw [gridTo_succ, ints_snoc, Hvf.out]
              rw [hcl] at hon
              clear hO5 hB5 hcl hS5 hF5 hV hUU EU EO HT1 HU1 HR1 HO1 Hown1 Hrd2 Hri Hrk2 Hti Htk
              go_wp2_with fail
              go_roundw
              case rel => exact ⟨k + 1, A5, c5, z + 1, by omega, by go_num, by unfold Hid; rw [HM.out, gridTo_succ, List.length_append]; rfl, hTn, hUn, hRn, hOn, hon, hN⟩
              case measure => simp [intOf]; omega
        · have : k = N := by omega
          subst this
          have HT := Lib.hid hT
          clear hT
          have HU := Lib.hid hU
          clear hU
          have HR := Lib.hid hR
          clear hR
          have HO := Lib.hid hO
          clear hO
          have Hown := Lib.hid hown
          clear hown
          have HW := Lib.hid hW
          clear hW
          go_wp2_with fail
          go_roundw
          case rel => exact ⟨i + 1, B, d, z, by omega, by go_num, by unfold Hid; rw [gridAcc_succ]; exact HM.out, HT.out, HU.out, HR.out, HO.out, by rw [gridAcc_succ]; exact Hown.out, HW.out⟩
          case measure => simp [intOf]; omega
    · have : i = N := by omega
      subst this
      have l0 : wr.cell? ⟨g, 0, none⟩ = some (.int .i64 (i : Int)) := by rw [hO.cell]; rfl
      have l1 : wr.cell? ⟨g, 1, none⟩ = some (.slice B z d) := by rw [hO.cell]; rfl
      have r0 : wr.cell? ⟨w.heap.size + 1 + 1, 0, none⟩ = some (.int .i64 0) := by rw [hR.cell]; rfl
      have r1 : wr.cell? ⟨w.heap.size + 1 + 1, 1, none⟩ = some (.slice none 0 0) := by rw [hR.cell]; rfl
      have f0 := hR.free 0
      have f1 := hR.free 1
      have HO := Lib.hid hO
      clear hO
      go_wp2_with fail
      have hBn := (hR.put 0 (.int .i64 (i : Int))).put 1 (.slice B z d)
      have q0 := hBn.cell 0
      have q1 := hBn.cell 1
      refine bodyPost_ret (v := .tuple #[.agg #[.int .i64 (i : Int), .slice B z d], .bool true]) (by simp [results, Try.results18, go_sem, q0, q1]) rfl ?_
      rw [E1.out, E2.out, E0.out, ← HM.out]
      refine ⟨B, d, rfl, ?_, ?_⟩
      · exact own_mono (ownsRow_setCell_below (ownsRow_setCell_below hown (a := ⟨w.heap.size + 1 + 1, 0, none⟩) (by dsimp only; omega) _) (a := ⟨w.heap.size + 1 + 1, 1, none⟩) (by dsimp only; omega) _) (by omega)
      · exact (hW.setCell (by dsimp only; omega) _).setCell (by dsimp only; omega) _

set_option maxRecDepth 100000 in
set_option maxHeartbeats 4000000 in
theorem specProductTable_any (s : Int) (A : Option Addr) (L c : Nat) (xs : List Int) (r : Int) (B0 : Option Addr) (M c0 : Nat) (ys : List Int) (w : World) (hr : Rd w A (ints xs)) (hn : L = xs.length) (hb : L ≤ 1048576) (hr2 : Rd w B0 (ints ys)) (hn2 : M = ys.length) (hb2 : M ≤ 1048576) :
    Calls Try.prog 16 #[.agg #[.int .i64 s, .slice A L c], .agg #[.int .i64 r, .slice B0 M c0]] w (MadeTab w (prodL s xs r ys) (prods s xs r ys).length (prods s xs r ys) (prodOk s xs r ys)) := by
  have hW0 : Below w.heap.size w (((w.alloc (.cells #[.int .i64 s, .slice A L c] 26)).alloc (.cells #[.int .i64 r, .slice B0 M c0] 26)).alloc (.cells #[.int .i64 0, .slice none 0 0] 26)) := (((Below.refl _ _).alloc (Nat.le_refl _) _).alloc (by simp) _).alloc (by simp; omega) _
  have hT0 : Bk (((w.alloc (.cells #[.int .i64 s, .slice A L c] 26)).alloc (.cells #[.int .i64 r, .slice B0 M c0] 26)).alloc (.cells #[.int .i64 0, .slice none 0 0] 26)) w.heap.size 26 #[.int .i64 s, .slice A L c] := ((Bk.new w _ _).alloc _).alloc _
  have hU0 : Bk (((w.alloc (.cells #[.int .i64 s, .slice A L c] 26)).alloc (.cells #[.int .i64 r, .slice B0 M c0] 26)).alloc (.cells #[.int .i64 0, .slice none 0 0] 26)) (w.heap.size + 1) 26 #[.int .i64 r, .slice B0 M c0] := ((Bk.new (w.alloc (.cells #[.int .i64 s, .slice A L c] 26)) 26 #[.int .i64 r, .slice B0 M c0]).alloc _).cast (by simp)
  have hR0 : Bk (((w.alloc (.cells #[.int .i64 s, .slice A L c] 26)).alloc (.cells #[.int .i64 r, .slice B0 M c0] 26)).alloc (.cells #[.int .i64 0, .slice none 0 0] 26)) (w.heap.size + 1 + 1) 26 #[.int .i64 0, .slice none 0 0] := (Bk.new ((w.alloc (.cells #[.int .i64 s, .slice A L c] 26)).alloc (.cells #[.int .i64 r, .slice B0 M c0] 26)) 26 #[.int .i64 0, .slice none 0 0]).cast (by simp)
  have Hr := Lib.hid hr
  clear hr
  have Hn := Lib.hid hn
  clear hn
  have Hr2 := Lib.hid hr2
  clear hr2
  have Hn2 := Lib.hid hn2
  clear hn2
  go_enter Try.func16, Try.ntmps16
  go_wp2_with fail
  generalize hw0 : (((w.alloc (.cells #[.int .i64 s, .slice A L c] 26)).alloc (.cells #[.int .i64 r, .slice B0 M c0] 26)).alloc (.cells #[.int .i64 0, .slice none 0 0] 26)) = w0
  rw [hw0] at hW0 hT0 hU0 hR0
  clear hw0
  refine (specTableOk_any s A L c xs _ (Hr.out.keep hW0) Hn.out hb).mono ?_
  rintro e w1 ⟨rfl, b1⟩
  have hT1 := hT0.below b1 hT0.lt
  have hU1 := hU0.below b1 hU0.lt
  have hR1 := hR0.below b1 hR0.lt
  have hW1 := hW0.trans (b1.mono hW0.size)
  have t0 : w1.cell? ⟨w.heap.size, 0, none⟩ = some (.int .i64 s) := by rw [hT1.cell]; rfl
  have u0 : w1.cell? ⟨w.heap.size + 1, 0, none⟩ = some (.int .i64 r) := by rw [hU1.cell]; rfl
  have u1 : w1.cell? ⟨w.heap.size + 1, 1, none⟩ = some (.slice B0 M c0) := by rw [hU1.cell]; rfl
  have q0 : w1.cell? ⟨w.heap.size + 1 + 1, 0, none⟩ = some (.int .i64 0) := by rw [hR1.cell]; rfl
  have q1 : w1.cell? ⟨w.heap.size + 1 + 1, 1, none⟩ = some (.slice none 0 0) := by rw [hR1.cell]; rfl
  have f0 := hR1.free 0
  have f1 := hR1.free 1
  have tl := hT1.lt
  have ul := hU1.lt
  have rl := hR1.lt
  clear hT0 hU0 hR0 hW0 b1
  have HT1 := Lib.hid hT1
  clear hT1
  have HU1 := Lib.hid hU1
  clear hU1
  have HR1 := Lib.hid hR1
  clear hR1
  have HW1 := Lib.hid hW1
  clear hW1
  obtain ⟨r1, hrr⟩ : ∃ r', r' = (tableOk s xs) := ⟨_, rfl⟩
  rw [← hrr]
  have HK1 := Lib.hid hrr
  clear hrr
  cases r1
  · go_wp2_with fail
    have e0 : prodOk s xs r ys = false := by rw [prodOk, ← HK1.out]; simp
    have e1 : prodL s xs r ys = 0 := by rw [prodL, e0]; rfl
    have e2 : prods s xs r ys = [] := by rw [prods, e0]; rfl
    refine bodyPost_ret (v := .tuple #[.agg #[.int .i64 0, .slice none 0 0], .bool false]) (by simp [results, Try.results16, go_sem, q0, q1]) rfl ?_
    rw [e1, e2, e0]
    refine ⟨none, 0, rfl, World.ownsRow_nil _ _ _ _, ?_⟩
    first | exact HW1.out | exact (HW1.out.setCell (by dsimp only; omega) _).setCell (by dsimp only; omega) _
  clear t0 u0 u1 q0 q1 f0 f1 tl ul rl
  have tl := HT1.out.lt
  have ul := HU1.out.lt
  have u0 : w1.cell? ⟨w.heap.size + 1, 0, none⟩ = some (.int .i64 r) := by rw [HU1.out.cell]; rfl
  have u1 : w1.cell? ⟨w.heap.size + 1, 1, none⟩ = some (.slice B0 M c0) := by rw [HU1.out.cell]; rfl
  go_wp2_with fail
  refine (specTableOk_any r B0 M c0 ys _ (Hr2.out.keep HW1.out) Hn2.out hb2).mono ?_
  rintro e w2 ⟨rfl, b2⟩
  have hT2 := HT1.out.below b2 HT1.out.lt
  have hU2 := HU1.out.below b2 HU1.out.lt
  have hR2 := HR1.out.below b2 HR1.out.lt
  have hW2 := HW1.out.trans (b2.mono HW1.out.size)
  have t0 : w2.cell? ⟨w.heap.size, 0, none⟩ = some (.int .i64 s) := by rw [hT2.cell]; rfl
  have u0 : w2.cell? ⟨w.heap.size + 1, 0, none⟩ = some (.int .i64 r) := by rw [hU2.cell]; rfl
  have q0 : w2.cell? ⟨w.heap.size + 1 + 1, 0, none⟩ = some (.int .i64 0) := by rw [hR2.cell]; rfl
  have q1 : w2.cell? ⟨w.heap.size + 1 + 1, 1, none⟩ = some (.slice none 0 0) := by rw [hR2.cell]; rfl
  have f0 := hR2.free 0
  have f1 := hR2.free 1
  have tl := hT2.lt
  have ul := hU2.lt
  have rl := hR2.lt
  clear HT1 HU1 HR1 HW1 b2 u1
  have HT2 := Lib.hid hT2
  clear hT2
  have HU2 := Lib.hid hU2
  clear hU2
  have HR2 := Lib.hid hR2
  clear hR2
  have HW2 := Lib.hid hW2
  clear hW2
  obtain ⟨r2, hrr⟩ : ∃ r', r' = (tableOk r ys) := ⟨_, rfl⟩
  rw [← hrr]
  have HK2 := Lib.hid hrr
  clear hrr
  cases r2
  · go_wp2_with fail
    have e0 : prodOk s xs r ys = false := by rw [prodOk, ← HK2.out]; simp
    have e1 : prodL s xs r ys = 0 := by rw [prodL, e0]; rfl
    have e2 : prods s xs r ys = [] := by rw [prods, e0]; rfl
    refine bodyPost_ret (v := .tuple #[.agg #[.int .i64 0, .slice none 0 0], .bool false]) (by simp [results, Try.results16, go_sem, q0, q1]) rfl ?_
    rw [e1, e2, e0]
    refine ⟨none, 0, rfl, World.ownsRow_nil _ _ _ _, ?_⟩
    first | exact HW2.out | exact (HW2.out.setCell (by dsimp only; omega) _).setCell (by dsimp only; omega) _
  obtain ⟨hs1, hs2, hsl, hxs⟩ := tableOk_out HK1.out.symm
  obtain ⟨hr1, hr3, hrl, hys⟩ := tableOk_out HK2.out.symm
  obtain ⟨n, rfl⟩ := Int.eq_ofNat_of_zero_le (show 0 ≤ s by omega)
  obtain ⟨m, rfl⟩ := Int.eq_ofNat_of_zero_le (show 0 ≤ r by omega)
  have hL : L = n * n := by have e := sq_cast n; have := Hn.out; omega
  have hM : M = m * m := by have e := sq_cast m; have := Hn2.out; omega
  have hnm : n * m ≤ 1600 := Nat.mul_le_mul (by omega : n ≤ 40) (by omega : m ≤ 40)
  have hmw := i64_mul n m (by omega)
  have hcm : ((n * m : Nat) : Int) = (n : Int) * (m : Int) := by simp
  by_cases h40 : n * m ≤ 40
  rotate_left
  · have h40i : (40 : Int) < (n : Int) * (m : Int) := by omega
    go_wp2_with fail
    have e0 : prodOk (n : Int) xs (m : Int) ys = false := by rw [prodOk, decide_eq_false (by omega)]; simp
    have e1 : prodL (n : Int) xs (m : Int) ys = 0 := by rw [prodL, e0]; rfl
    have e2 : prods (n : Int) xs (m : Int) ys = [] := by rw [prods, e0]; rfl
    refine bodyPost_ret (v := .tuple #[.agg #[.int .i64 0, .slice none 0 0], .bool false]) (by simp [results, Try.results16, go_sem, q0, q1]) rfl ?_
    rw [e1, e2, e0]
    refine ⟨none, 0, rfl, World.ownsRow_nil _ _ _ _, ?_⟩
    first | exact HW2.out | exact (HW2.out.setCell (by dsimp only; omega) _).setCell (by dsimp only; omega) _
  have h40i : (n : Int) * (m : Int) ≤ 40 := by omega
  have e0 : prodOk (n : Int) xs (m : Int) ys = true := by rw [prodOk, ← HK1.out, ← HK2.out, decide_eq_true h40i]; rfl
  obtain ⟨N, hN⟩ : ∃ N, N = n * m := ⟨_, rfl⟩
  have hNi : (n : Int) * (m : Int) = (N : Int) := by rw [hN, hcm]
  have hN40 : N ≤ 40 := by omega
  have e1 : prodL (n : Int) xs (m : Int) ys = N := by rw [prodL, e0, ← hNi]; rfl
  have e2 : prods (n : Int) xs (m : Int) ys = gridAcc (prodF n xs m ys) N N := by rw [prods, e0, hNi]; rfl
  have hlin : ∀ i k, i < N → k < N → (i / m) * n + k / m < L ∧ (i % m) * m + k % m < M ∧ tg xs ((i / m) * n + k / m) = (ti xs ((i / m) * n + k / m) : Int) ∧ ti xs ((i / m) * n + k / m) ≤ 40 ∧ tg ys ((i % m) * m + k % m) = (ti ys ((i % m) * m + k % m) : Int) ∧ ti ys ((i % m) * m + k % m) ≤ 40 := fun i k hi hk => by
    have h1 : i / m < n := Nat.div_lt_of_lt_mul (by rw [Nat.mul_comm]; omega)
    have h2 : k / m < n := Nat.div_lt_of_lt_mul (by rw [Nat.mul_comm]; omega)
    have h3 : i % m < m := Nat.mod_lt _ (by omega)
    have h4 : k % m < m := Nat.mod_lt _ (by omega)
    have l1 := lin_lt h1 h2
    have l2 := lin_lt h3 h4
    have x1 := tab_in hxs (by rw [← Hn.out, hL]; exact l1)
    have x2 := tab_in hys (by rw [← Hn2.out, hM]; exact l2)
    exact ⟨by omega, by omega, x1.1, by have := x1.2; omega, x2.1, by have := x2.2; omega⟩
  have hi40 : ∀ i, i ≤ N → i * N ≤ 1600 := fun i hi => Nat.mul_le_mul (by omega : i ≤ 40) (by omega : N ≤ 40)
  obtain ⟨g, hg⟩ : ∃ g, g = w2.heap.size := ⟨_, rfl⟩
  have hgl : w.heap.size + 3 ≤ g := by omega
  obtain ⟨w3, hw3⟩ : ∃ w3, w3 = w2.alloc (.cells #[.int .i64 (N : Int), .slice none 0 0] 26) := ⟨_, rfl⟩
  have hT3 := HT2.out.alloc (.cells #[.int .i64 (N : Int), .slice none 0 0] 26)
  have hU3 := HU2.out.alloc (.cells #[.int .i64 (N : Int), .slice none 0 0] 26)
  have hR3 := HR2.out.alloc (.cells #[.int .i64 (N : Int), .slice none 0 0] 26)
  have hW3 := HW2.out.alloc HW2.out.size (.cells #[.int .i64 (N : Int), .slice none 0 0] 26)
  have hO3 := Bk.new w2 26 #[.int .i64 (N : Int), .slice none 0 0]
  rw [← hw3] at hT3 hU3 hR3 hW3 hO3
  rw [← hg] at hO3
  have Hsl := Lib.hid hsl
  clear hsl
  have Hrl := Lib.hid hrl
  clear hrl
  have HL := Lib.hid hL
  clear hL
  have HM := Lib.hid hM
  clear hM
  have Hw3 := Lib.hid hw3
  clear hw3
  have Hg := Lib.hid hg
  clear hg
  have HT3 := Lib.hid hT3
  clear hT3
  have HU3 := Lib.hid hU3
  clear hU3
  have HR3 := Lib.hid hR3
  clear hR3
  have HW3 := Lib.hid hW3
  clear hW3
  have HO3 := Lib.hid hO3
  clear hO3
  have Hi40 := Lib.hid hi40
  clear hi40
  have Hlin := Lib.hid hlin
  clear hlin
  have HN := Lib.hid hN
  clear hN
  have E0 := Lib.hid e0
  clear e0
  have E1 := Lib.hid e1
  clear e1
  have E2 := Lib.hid e2
  clear e2
  have Hxs := Lib.hid hxs
  clear hxs
  have Hys := Lib.hid hys
  clear hys
  have Hcm := Lib.hid hcm
  clear hcm
  clear HT2 HU2 HR2 HW2 hnm h40
  go_wp2_with fail
  rw [← Hg.out, ← Hw3.out]
  clear t0 u0 q0 q1 f0 f1 tl ul rl hmw h40i hNi
  go_loopw [7] (fun i wr => ∃ (q : Nat) (B : Option Addr) (d z : Nat), q ≤ N ∧ i = .int .i64 q ∧ Hid (z = (gridAcc (prodF n xs m ys) N q).length) ∧ Bk wr w.heap.size 26 #[.int .i64 n, .slice A L c] ∧ Bk wr (w.heap.size + 1) 26 #[.int .i64 m, .slice B0 M c0] ∧ Bk wr (w.heap.size + 1 + 1) 26 #[.int .i64 0, .slice none 0 0] ∧ Bk wr g 26 #[.int .i64 N, .slice B z d] ∧ wr.ownsRow (g + 1) 3 1 (.slice B z d) z (ints (gridAcc (prodF n xs m ys) N q)) ∧ Below w.heap.size w wr) (fun i _ => N - (intOf i).toNat)
  case atStart => exact ⟨0, none, 0, 0, Nat.zero_le _, rfl, rfl, HT3.out, HU3.out, HR3.out, HO3.out, World.ownsRow_nil _ _ _ _, HW3.out⟩
  case round =>
    clear HT3 HU3 HR3 HO3 HW3 Hw3 Hg
    obtain ⟨i, B, d, z, hi, rfl, HM, hT, hU, hR, hO, hown, hW⟩ := hrel
    have o0 : wr.cell? ⟨g, 0, none⟩ = some (.int .i64 N) := by rw [hO.cell]; rfl
    have ol := hO.lt
    by_cases hlt : i < N
    · skip
      have HT := Lib.hid hT
      clear hT
      have HU := Lib.hid hU
      clear hU
      have HR := Lib.hid hR
      clear hR
      have HO := Lib.hid hO
      clear hO
      have Hown := Lib.hid hown
      clear hown
      have HW := Lib.hid hW
      clear hW
      go_wp2_with fail
      go_loopw [8] (fun k wr => ∃ (q : Nat) (B : Option Addr) (d z : Nat), q ≤ N ∧ k = .int .i64 q ∧ Hid (z = (gridTo (prodF n xs m ys) N i q).length) ∧ Bk wr w.heap.size 26 #[.int .i64 n, .slice A L c] ∧ Bk wr (w.heap.size + 1) 26 #[.int .i64 m, .slice B0 M c0] ∧ Bk wr (w.heap.size + 1 + 1) 26 #[.int .i64 0, .slice none 0 0] ∧ Bk wr g 26 #[.int .i64 N, .slice B z d] ∧ wr.ownsRow (g + 1) 3 1 (.slice B z d) z (ints (gridTo (prodF n xs m ys) N i q)) ∧ Below w.heap.size w wr) (fun k _ => N - (intOf k).toNat)
      case atStart => exact ⟨0, B, d, z, Nat.zero_le _, rfl, by unfold Hid; rw [gridTo_zero]; exact HM.out, HT.out, HU.out, HR.out, HO.out, by rw [gridTo_zero]; exact Hown.out, HW.out⟩
      case round =>
        clear HT HU HR HO Hown HW HM o0 ol z B d
        obtain ⟨k, B, d, z, hk, rfl, HM, hT, hU, hR, hO, hown, hW⟩ := hrel
        have o0 : wr.cell? ⟨g, 0, none⟩ = some (.int .i64 N) := by rw [hO.cell]; rfl
        have ol := hO.lt
        by_cases hltk : k < N
        · have hml : z ≤ 1640 := by rw [HM.out, gridTo_len]; have := Hi40.out i hi; omega
          obtain ⟨l1, l2, x1, x2, x3, x4⟩ := Hlin.out i k hlt hltk
          obtain ⟨a, ha⟩ : ∃ a, a = ti xs ((i / m) * n + k / m) := ⟨_, rfl⟩
          obtain ⟨b, hb3⟩ : ∃ b, b = ti ys ((i % m) * m + k % m) := ⟨_, rfl⟩
          rw [← ha] at x1 x2
          rw [← hb3] at x3 x4
          have tl := hT.lt
          have ul := hU.lt
          have gl := hO.lt
          have eU : ∀ W, Below wr.drew.heap.size wr.drew W → W.cell? ⟨w.heap.size, 0, none⟩ = some (.int .i64 n) ∧ W.cell? ⟨w.heap.size, 1, none⟩ = some (.slice A L c) ∧ W.cell? ⟨w.heap.size + 1, 0, none⟩ = some (.int .i64 m) ∧ W.cell? ⟨w.heap.size + 1, 1, none⟩ = some (.slice B0 M c0) ∧ W.cell? ⟨g, 1, none⟩ = some (.slice B z d) ∧ w.heap.size + 1 < W.heap.size ∧ g < W.heap.size ∧ w.heap.size < W.heap.size := fun W hb => ⟨(by rw [(hT.drew.below hb (by simpa using hT.lt)).cell]; rfl), (by rw [(hT.drew.below hb (by simpa using hT.lt)).cell]; rfl), (by rw [(hU.drew.below hb (by simpa using hU.lt)).cell]; rfl), (by rw [(hU.drew.below hb (by simpa using hU.lt)).cell]; rfl), (by rw [(hO.drew.below hb (by simpa using hO.lt)).cell]; rfl), Nat.lt_of_lt_of_le ul hb.size, Nat.lt_of_lt_of_le gl hb.size, Nat.lt_of_lt_of_le tl hb.size⟩
          have eU2 : ∀ W, Below wr.drew.heap.size wr.drew W → W.cell? ⟨w.heap.size, 0, none⟩ = some (.int .i64 n) ∧ W.cell? ⟨w.heap.size, 1, none⟩ = some (.slice A L c) ∧ W.cell? ⟨w.heap.size + 1, 0, none⟩ = some (.int .i64 m) ∧ W.cell? ⟨w.heap.size + 1, 1, none⟩ = some (.slice B0 M c0) := fun W h => ⟨(eU W h).1, (eU W h).2.1, (eU W h).2.2.1, (eU W h).2.2.2.1⟩
          have eO : ∀ W, Below wr.drew.heap.size wr.drew W → W.ownsRow (g + 1) 3 1 (.slice B z d) z (ints (gridTo (prodF n xs m ys) N i k)) := fun W hb => own_keep (w := wr.drew) hown hb (Nat.le_refl _)
          have hV : Below wr.drew.heap.size wr.drew wr.drew := Below.refl _ _
          have zU := eU2 _ hV
          have hrk : Rd wr.drew A (ints xs) := Hr.out.keep hW.drew
          have hrd2 : Rd wr.drew B0 (ints ys) := Hr2.out.keep hW.drew
          have hdi : (i : Int) / (m : Int) = ((i / m : Nat) : Int) := (Int.natCast_ediv i m).symm
          have hdk : (k : Int) / (m : Int) = ((k / m : Nat) : Int) := (Int.natCast_ediv k m).symm
          have hri : (i : Int) % (m : Int) = ((i % m : Nat) : Int) := (Int.natCast_emod i m).symm
          have hrk2 : (k : Int) % (m : Int) = ((k % m : Nat) : Int) := (Int.natCast_emod k m).symm
          have hti : (i : Int).tmod m = ((i % m : Nat) : Int) := by rw [Int.tmod_eq_emod_of_nonneg (by omega)]; exact hri
          have htk : (k : Int).tmod m = ((k % m : Nat) : Int) := by rw [Int.tmod_eq_emod_of_nonneg (by omega)]; exact hrk2
          have wdi : IntKind.i64.wrap ((i : Int) / (m : Int)) = (i : Int) / (m : Int) := by rw [hdi]; exact i64_nat _ (Nat.le_trans (Nat.div_le_self i m) (by omega))
          have wdk : IntKind.i64.wrap ((k : Int) / (m : Int)) = (k : Int) / (m : Int) := by rw [hdk]; exact i64_nat _ (Nat.le_trans (Nat.div_le_self k m) (by omega))
          have wri : IntKind.i64.wrap ((i : Int) % (m : Int)) = (i : Int) % (m : Int) := by rw [hri]; exact i64_nat _ (Nat.le_trans (Nat.mod_le i m) (by omega))
          have wrk : IntKind.i64.wrap ((k : Int) % (m : Int)) = (k : Int) % (m : Int) := by rw [hrk2]; exact i64_nat _ (Nat.le_trans (Nat.mod_le k m) (by omega))
          have vdi : Go.RowKit.wrap64 ((i : Int) / (m : Int)) = (i : Int) / (m : Int) := by rw [← i64_is]; exact wdi
          have vdk : Go.RowKit.wrap64 ((k : Int) / (m : Int)) = (k : Int) / (m : Int) := by rw [← i64_is]; exact wdk
          have vri : Go.RowKit.wrap64 ((i : Int) % (m : Int)) = (i : Int) % (m : Int) := by rw [← i64_is]; exact wri
          have vrk : Go.RowKit.wrap64 ((k : Int) % (m : Int)) = (k : Int) % (m : Int) := by rw [← i64_is]; exact wrk
          have hm0 : ¬ (m : Int) = 0 := by omega
          have hm0' : ¬ m = 0 := by omega
          have ham : a * m ≤ 1600 := Nat.mul_le_mul (by omega : a ≤ 40) (by omega : m ≤ 40)
          have g1 := i64_mul a m (by omega)
          have g2 := i64_lin a b m (by omega)
          have hvf : prodF n xs m ys i k = (a : Int) * m + b := by rw [prodF, x1, x3]
          have EU := Lib.hid eU
          clear eU
          have EU2 := Lib.hid eU2
          clear eU2
          have EO := Lib.hid eO
          clear eO
          have ZU := Lib.hid zU
          clear zU
          have Hrk := Lib.hid hrk
          clear hrk
          have Hrd2 := Lib.hid hrd2
          clear hrd2
          have X1 := Lib.hid x1
          clear x1
          have X3 := Lib.hid x3
          clear x3
          have Ha := Lib.hid ha
          clear ha
          have Hb3 := Lib.hid hb3
          clear hb3
          have Hdi := Lib.hid hdi
          clear hdi
          have Hdk := Lib.hid hdk
          clear hdk
          have Hri := Lib.hid hri
          clear hri
          have Hrk2 := Lib.hid hrk2
          clear hrk2
          have Hti := Lib.hid hti
          clear hti
          have Htk := Lib.hid htk
          clear htk
          have HT := Lib.hid hT
          clear hT
          have HU := Lib.hid hU
          clear hU
          have HR := Lib.hid hR
          clear hR
          have HO := Lib.hid hO
          clear hO
          have Hown := Lib.hid hown
          clear hown
          have HW := Lib.hid hW
          clear hW
          have Hvf := Lib.hid hvf
          clear hvf
          go_wp2_with fail
          clear o0 ol
          refine wp_region_held_drew (S := (fun W => W.cell? ⟨w.heap.size, 0, none⟩ = some (.int .i64 n) ∧ W.cell? ⟨w.heap.size, 1, none⟩ = some (.slice A L c) ∧ W.cell? ⟨w.heap.size + 1, 0, none⟩ = some (.int .i64 m) ∧ W.cell? ⟨w.heap.size + 1, 1, none⟩ = some (.slice B0 M c0))) (by kernel_rfl) (ZU.out) (fun hHeld => ?_)
          refine wpAnyH_take (i := 0) (oi := ?oi1068) (v := ?val1068) ?hi1068 ?hs1068 ?hf1068 ?hr1068 ?hQ1068 ?hy1068 ?hS1068 ?hrest1068
          case hi1068 => (simp only [List.getElem?_toArray, List.getElem?_cons_succ, List.getElem?_cons_zero] <;> exact rfl)
          case hs1068 => kernel_rfl
          case hf1068 => kernel_rfl
          case hr1068 => kernel_rfl
          case hQ1068 => exact fun _ _ _ h => h
          case hS1068 => assumption
          case hy1068 => (refine Or.inl ⟨by rfl, ?_⟩; intro w hSw; (try dsimp only at hSw); (first | obtain ⟨z0, z1, z2, z3⟩ := hSw | obtain ⟨z0, z1, z2⟩ := hSw | obtain ⟨z0, z1⟩ := hSw | skip); go_simp; try with_reducible rfl)
          simp only [Act.put, List.setIfInBounds_toArray, List.set_cons_zero, List.set_cons_succ]
          refine wpAnyH_take (i := 2) (oi := ?oi1077) (v := ?val1077) ?hi1077 ?hs1077 ?hf1077 ?hr1077 ?hQ1077 ?hy1077 ?hS1077 ?hrest1077
          case hi1077 => (simp only [List.getElem?_toArray, List.getElem?_cons_succ, List.getElem?_cons_zero] <;> exact rfl)
          case hs1077 => kernel_rfl
          case hf1077 => kernel_rfl
          case hr1077 => kernel_rfl
          case hQ1077 => exact fun _ _ _ h => h
          case hS1077 => assumption
          case hy1077 => (refine Or.inl ⟨by rfl, ?_⟩; intro w hSw; (try dsimp only at hSw); (first | obtain ⟨z0, z1, z2, z3⟩ := hSw | obtain ⟨z0, z1, z2⟩ := hSw | obtain ⟨z0, z1⟩ := hSw | skip); go_simp; try with_reducible rfl)
          simp only [Act.put, List.setIfInBounds_toArray, List.set_cons_zero, List.set_cons_succ]
          refine wpAnyH_take (i := 3) (oi := ?oi1086) (v := ?val1086) ?hi1086 ?hs1086 ?hf1086 ?hr1086 ?hQ1086 ?hy1086 ?hS1086 ?hrest1086
          case hi1086 => (simp only [List.getElem?_toArray, List.getElem?_cons_succ, List.getElem?_cons_zero] <;> exact rfl)
          case hs1086 => kernel_rfl
          case hf1086 => kernel_rfl
          case hr1086 => kernel_rfl
          case hQ1086 => exact fun _ _ _ h => h
          case hS1086 => assumption
          case hy1086 => (refine Or.inl ⟨by rfl, ?_⟩; intro w hSw; (try dsimp only at hSw); (first | obtain ⟨z0, z1, z2, z3⟩ := hSw | obtain ⟨z0, z1, z2⟩ := hSw | obtain ⟨z0, z1⟩ := hSw | skip); go_simp; try with_reducible rfl)
          simp only [Act.put, List.setIfInBounds_toArray, List.set_cons_zero, List.set_cons_succ]
          refine wpAnyH_take (i := 4) (oi := ?oi1095) (v := ?val1095) ?hi1095 ?hs1095 ?hf1095 ?hr1095 ?hQ1095 ?hy1095 ?hS1095 ?hrest1095
          case hi1095 => (simp only [List.getElem?_toArray, List.getElem?_cons_succ, List.getElem?_cons_zero] <;> exact rfl)
          case hs1095 => kernel_rfl
          case hf1095 => kernel_rfl
          case hr1095 => kernel_rfl
          case hQ1095 => exact fun _ _ _ h => h
          case hS1095 => assumption
          case hy1095 => (refine Or.inl ⟨by rfl, ?_⟩; intro w hSw; (try dsimp only at hSw); (first | obtain ⟨z0, z1, z2, z3⟩ := hSw | obtain ⟨z0, z1, z2⟩ := hSw | obtain ⟨z0, z1⟩ := hSw | skip); go_simp; try with_reducible rfl)
          simp only [Act.put, List.setIfInBounds_toArray, List.set_cons_zero, List.set_cons_succ]
          refine wpAnyH_take (i := 5) (oi := ?oi1104) (v := ?val1104) ?hi1104 ?hs1104 ?hf1104 ?hr1104 ?hQ1104 ?hy1104 ?hS1104 ?hrest1104
          case hi1104 => (simp only [List.getElem?_toArray, List.getElem?_cons_succ, List.getElem?_cons_zero] <;> exact rfl)
          case hs1104 => kernel_rfl
          case hf1104 => kernel_rfl
          case hr1104 => kernel_rfl
          case hQ1104 => exact fun _ _ _ h => h
          case hS1104 => assumption
          case hy1104 => (refine Or.inl ⟨by rfl, ?_⟩; intro w hSw; (try dsimp only at hSw); (first | obtain ⟨z0, z1, z2, z3⟩ := hSw | obtain ⟨z0, z1, z2⟩ := hSw | obtain ⟨z0, z1⟩ := hSw | skip); go_simp; try with_reducible rfl)
          simp only [Act.put, List.setIfInBounds_toArray, List.set_cons_zero, List.set_cons_succ]
          refine wpAnyH_take (i := 6) (oi := ?oi1113) (v := ?val1113) ?hi1113 ?hs1113 ?hf1113 ?hr1113 ?hQ1113 ?hy1113 ?hS1113 ?hrest1113
          case hi1113 => (simp only [List.getElem?_toArray, List.getElem?_cons_succ, List.getElem?_cons_zero] <;> exact rfl)
          case hs1113 => kernel_rfl
          case hf1113 => kernel_rfl
          case hr1113 => kernel_rfl
          case hQ1113 => exact fun _ _ _ h => h
          case hS1113 => assumption
          case hy1113 => (refine Or.inl ⟨by rfl, ?_⟩; intro w hSw; (try dsimp only at hSw); (first | obtain ⟨z0, z1, z2, z3⟩ := hSw | obtain ⟨z0, z1, z2⟩ := hSw | obtain ⟨z0, z1⟩ := hSw | skip); go_simp; try with_reducible rfl)
          simp only [Act.put, List.setIfInBounds_toArray, List.set_cons_zero, List.set_cons_succ]
          refine wpAnyH_take (i := 7) (oi := ?oi1122) (v := ?val1122) ?hi1122 ?hs1122 ?hf1122 ?hr1122 ?hQ1122 ?hy1122 ?hS1122 ?hrest1122
          case hi1122 => (simp only [List.getElem?_toArray, List.getElem?_cons_succ, List.getElem?_cons_zero] <;> exact rfl)
          case hs1122 => kernel_rfl
          case hf1122 => kernel_rfl
          case hr1122 => kernel_rfl
          case hQ1122 => exact fun _ _ _ h => h
          case hS1122 => assumption
          case hy1122 => (refine Or.inl ⟨by rfl, ?_⟩; intro w hSw; (try dsimp only at hSw); (first | obtain ⟨z0, z1, z2, z3⟩ := hSw | obtain ⟨z0, z1, z2⟩ := hSw | obtain ⟨z0, z1⟩ := hSw | skip); go_simp; try with_reducible rfl)
          simp only [Act.put, List.setIfInBounds_toArray, List.set_cons_zero, List.set_cons_succ]
          refine wpAnyH_take (i := 8) (oi := ?oi1131) (v := ?val1131) ?hi1131 ?hs1131 ?hf1131 ?hr1131 ?hQ1131 ?hy1131 ?hS1131 ?hrest1131
          case hi1131 => (simp only [List.getElem?_toArray, List.getElem?_cons_succ, List.getElem?_cons_zero] <;> exact rfl)
          case hs1131 => kernel_rfl
          case hf1131 => kernel_rfl
          case hr1131 => kernel_rfl
          case hQ1131 => exact fun _ _ _ h => h
          case hS1131 => assumption
          case hy1131 => (refine Or.inl ⟨by rfl, ?_⟩; intro w hSw; (try dsimp only at hSw); (first | obtain ⟨z0, z1, z2, z3⟩ := hSw | obtain ⟨z0, z1, z2⟩ := hSw | obtain ⟨z0, z1⟩ := hSw | skip); go_simp; try with_reducible rfl)
          simp only [Act.put, List.setIfInBounds_toArray, List.set_cons_zero, List.set_cons_succ]
          refine wpAnyH_take (i := 9) (oi := ?oi1140) (v := ?val1140) ?hi1140 ?hs1140 ?hf1140 ?hr1140 ?hQ1140 ?hy1140 ?hS1140 ?hrest1140
          case hi1140 => (simp only [List.getElem?_toArray, List.getElem?_cons_succ, List.getElem?_cons_zero] <;> exact rfl)
          case hs1140 => kernel_rfl
          case hf1140 => kernel_rfl
          case hr1140 => kernel_rfl
          case hQ1140 => exact fun _ _ _ h => h
          case hS1140 => assumption
          case hy1140 => (refine Or.inl ⟨by rfl, ?_⟩; intro w hSw; (try dsimp only at hSw); (first | obtain ⟨z0, z1, z2, z3⟩ := hSw | obtain ⟨z0, z1, z2⟩ := hSw | obtain ⟨z0, z1⟩ := hSw | skip); go_simp; try with_reducible rfl)
          simp only [Act.put, List.setIfInBounds_toArray, List.set_cons_zero, List.set_cons_succ]
          refine wpAnyH_take (i := 10) (oi := ?oi1149) (v := ?val1149) ?hi1149 ?hs1149 ?hf1149 ?hr1149 ?hQ1149 ?hy1149 ?hS1149 ?hrest1149
          case hi1149 => (simp only [List.getElem?_toArray, List.getElem?_cons_succ, List.getElem?_cons_zero] <;> exact rfl)
          case hs1149 => kernel_rfl
          case hf1149 => kernel_rfl
          case hr1149 => kernel_rfl
          case hQ1149 => exact fun _ _ _ h => h
          case hS1149 => assumption
          case hy1149 => (refine Or.inl ⟨by rfl, ?_⟩; intro w hSw; (try dsimp only at hSw); (first | obtain ⟨z0, z1, z2, z3⟩ := hSw | obtain ⟨z0, z1, z2⟩ := hSw | obtain ⟨z0, z1⟩ := hSw | skip); go_simp; try with_reducible rfl)
          simp only [Act.put, List.setIfInBounds_toArray, List.set_cons_zero, List.set_cons_succ]
          refine wpAnyH_take (i := 12) (oi := ?oi1158) (v := ?val1158) ?hi1158 ?hs1158 ?hf1158 ?hr1158 ?hQ1158 ?hy1158 ?hS1158 ?hrest1158
          case hi1158 => (simp only [List.getElem?_toArray, List.getElem?_cons_succ, List.getElem?_cons_zero] <;> exact rfl)
          case hs1158 => kernel_rfl
          case hf1158 => kernel_rfl
          case hr1158 => kernel_rfl
          case hQ1158 => exact fun _ _ _ h => h
          case hS1158 => assumption
          case hy1158 => (refine Or.inl ⟨by rfl, ?_⟩; intro w hSw; (try dsimp only at hSw); (first | obtain ⟨z0, z1, z2, z3⟩ := hSw | obtain ⟨z0, z1, z2⟩ := hSw | obtain ⟨z0, z1⟩ := hSw | skip); go_simp; try with_reducible rfl)
          simp only [Act.put, List.setIfInBounds_toArray, List.set_cons_zero, List.set_cons_succ]
          refine wpAnyH_take (i := 13) (oi := ?oi1167) (v := ?val1167) ?hi1167 ?hs1167 ?hf1167 ?hr1167 ?hQ1167 ?hy1167 ?hS1167 ?hrest1167
          case hi1167 => (simp only [List.getElem?_toArray, List.getElem?_cons_succ, List.getElem?_cons_zero] <;> exact rfl)
          case hs1167 => kernel_rfl
          case hf1167 => kernel_rfl
          case hr1167 => kernel_rfl
          case hQ1167 => exact fun _ _ _ h => h
          case hS1167 => assumption
          case hy1167 => (refine Or.inl ⟨by rfl, ?_⟩; intro w hSw; (try dsimp only at hSw); (first | obtain ⟨z0, z1, z2, z3⟩ := hSw | obtain ⟨z0, z1, z2⟩ := hSw | obtain ⟨z0, z1⟩ := hSw | skip); go_simp; try with_reducible rfl)
          simp only [Act.put, List.setIfInBounds_toArray, List.set_cons_zero, List.set_cons_succ]
          refine wpAnyH_take (i := 15) (oi := ?oi1176) (v := ?val1176) ?hi1176 ?hs1176 ?hf1176 ?hr1176 ?hQ1176 ?hy1176 ?hS1176 ?hrest1176
          case hi1176 => (simp only [List.getElem?_toArray, List.getElem?_cons_succ, List.getElem?_cons_zero] <;> exact rfl)
          case hs1176 => kernel_rfl
          case hf1176 => kernel_rfl
          case hr1176 => kernel_rfl
          case hQ1176 => exact fun _ _ _ h => h
          case hS1176 => assumption
          case hy1176 => (refine Or.inl ⟨by rfl, ?_⟩; intro w hSw; (try dsimp only at hSw); (first | obtain ⟨z0, z1, z2, z3⟩ := hSw | obtain ⟨z0, z1, z2⟩ := hSw | obtain ⟨z0, z1⟩ := hSw | skip); go_simp; try with_reducible rfl)
          simp only [Act.put, List.setIfInBounds_toArray, List.set_cons_zero, List.set_cons_succ]
          refine wpAnyH_take (i := 16) (oi := ?oi1185) (v := ?val1185) ?hi1185 ?hs1185 ?hf1185 ?hr1185 ?hQ1185 ?hy1185 ?hS1185 ?hrest1185
          case hi1185 => (simp only [List.getElem?_toArray, List.getElem?_cons_succ, List.getElem?_cons_zero] <;> exact rfl)
          case hs1185 => kernel_rfl
          case hf1185 => kernel_rfl
          case hr1185 => kernel_rfl
          case hQ1185 => exact fun _ _ _ h => h
          case hS1185 => assumption
          case hy1185 => (refine Or.inl ⟨by rfl, ?_⟩; intro w hSw; (try dsimp only at hSw); (first | obtain ⟨z0, z1, z2, z3⟩ := hSw | obtain ⟨z0, z1, z2⟩ := hSw | obtain ⟨z0, z1⟩ := hSw | skip); go_simp; try with_reducible rfl)
          simp only [Act.put, List.setIfInBounds_toArray, List.set_cons_zero, List.set_cons_succ]
          refine wpAnyH_take (i := 17) (oi := ?oi1194) (v := ?val1194) ?hi1194 ?hs1194 ?hf1194 ?hr1194 ?hQ1194 ?hy1194 ?hS1194 ?hrest1194
          case hi1194 => (simp only [List.getElem?_toArray, List.getElem?_cons_succ, List.getElem?_cons_zero] <;> exact rfl)
          case hs1194 => kernel_rfl
          case hf1194 => kernel_rfl
          case hr1194 => kernel_rfl
          case hQ1194 => exact fun _ _ _ h => h
          case hS1194 => assumption
          case hy1194 => (refine Or.inl ⟨by rfl, ?_⟩; intro w hSw; (try dsimp only at hSw); (first | obtain ⟨z0, z1, z2, z3⟩ := hSw | obtain ⟨z0, z1, z2⟩ := hSw | obtain ⟨z0, z1⟩ := hSw | skip); go_simp; try with_reducible rfl)
          simp only [Act.put, List.setIfInBounds_toArray, List.set_cons_zero, List.set_cons_succ]
          refine wpAnyH_take (i := 18) (oi := ?oi1203) (v := ?val1203) ?hi1203 ?hs1203 ?hf1203 ?hr1203 ?hQ1203 ?hy1203 ?hS1203 ?hrest1203
          case hi1203 => (simp only [List.getElem?_toArray, List.getElem?_cons_succ, List.getElem?_cons_zero] <;> exact rfl)
          case hs1203 => kernel_rfl
          case hf1203 => kernel_rfl
          case hr1203 => kernel_rfl
          case hQ1203 => exact fun _ _ _ h => h
          case hS1203 => assumption
          case hy1203 => (refine Or.inl ⟨by rfl, ?_⟩; intro w hSw; (try dsimp only at hSw); (first | obtain ⟨z0, z1, z2, z3⟩ := hSw | obtain ⟨z0, z1, z2⟩ := hSw | obtain ⟨z0, z1⟩ := hSw | skip); go_simp; try with_reducible rfl)
          simp only [Act.put, List.setIfInBounds_toArray, List.set_cons_zero, List.set_cons_succ]
          refine wpAnyH_take (i := 19) (oi := ?oi1212) (v := ?val1212) ?hi1212 ?hs1212 ?hf1212 ?hr1212 ?hQ1212 ?hy1212 ?hS1212 ?hrest1212
          case hi1212 => (simp only [List.getElem?_toArray, List.getElem?_cons_succ, List.getElem?_cons_zero] <;> exact rfl)
          case hs1212 => kernel_rfl
          case hf1212 => kernel_rfl
          case hr1212 => kernel_rfl
          case hQ1212 => exact fun _ _ _ h => h
          case hS1212 => assumption
          case hy1212 => (refine Or.inl ⟨by rfl, ?_⟩; intro w hSw; (try dsimp only at hSw); (first | obtain ⟨z0, z1, z2, z3⟩ := hSw | obtain ⟨z0, z1, z2⟩ := hSw | obtain ⟨z0, z1⟩ := hSw | skip); go_simp; try with_reducible rfl)
          simp only [Act.put, List.setIfInBounds_toArray, List.set_cons_zero, List.set_cons_succ]
          refine wpAnyH_take (i := 20) (oi := ?oi1221) (v := ?val1221) ?hi1221 ?hs1221 ?hf1221 ?hr1221 ?hQ1221 ?hy1221 ?hS1221 ?hrest1221
          case hi1221 => (simp only [List.getElem?_toArray, List.getElem?_cons_succ, List.getElem?_cons_zero] <;> exact rfl)
          case hs1221 => kernel_rfl
          case hf1221 => kernel_rfl
          case hr1221 => kernel_rfl
          case hQ1221 => exact fun _ _ _ h => h
          case hS1221 => assumption
          case hy1221 => (refine Or.inl ⟨by rfl, ?_⟩; intro w hSw; (try dsimp only at hSw); (first | obtain ⟨z0, z1, z2, z3⟩ := hSw | obtain ⟨z0, z1, z2⟩ := hSw | obtain ⟨z0, z1⟩ := hSw | skip); go_simp; try with_reducible rfl)
          simp only [Act.put, List.setIfInBounds_toArray, List.set_cons_zero, List.set_cons_succ]
          refine wpAnyH_take (i := 21) (oi := ?oi1230) (v := ?val1230) ?hi1230 ?hs1230 ?hf1230 ?hr1230 ?hQ1230 ?hy1230 ?hS1230 ?hrest1230
          case hi1230 => (simp only [List.getElem?_toArray, List.getElem?_cons_succ, List.getElem?_cons_zero] <;> exact rfl)
          case hs1230 => kernel_rfl
          case hf1230 => kernel_rfl
          case hr1230 => kernel_rfl
          case hQ1230 => exact fun _ _ _ h => h
          case hS1230 => assumption
          case hy1230 => (refine Or.inl ⟨by rfl, ?_⟩; intro w hSw; (try dsimp only at hSw); (first | obtain ⟨z0, z1, z2, z3⟩ := hSw | obtain ⟨z0, z1, z2⟩ := hSw | obtain ⟨z0, z1⟩ := hSw | skip); go_simp; try with_reducible rfl)
          simp only [Act.put, List.setIfInBounds_toArray, List.set_cons_zero, List.set_cons_succ]
          refine wpAnyH_take (i := 22) (oi := ?oi1239) (v := ?val1239) ?hi1239 ?hs1239 ?hf1239 ?hr1239 ?hQ1239 ?hy1239 ?hS1239 ?hrest1239
          case hi1239 => (simp only [List.getElem?_toArray, List.getElem?_cons_succ, List.getElem?_cons_zero] <;> exact rfl)
          case hs1239 => kernel_rfl
          case hf1239 => kernel_rfl
          case hr1239 => kernel_rfl
          case hQ1239 => exact fun _ _ _ h => h
          case hS1239 => assumption
          case hy1239 => (refine Or.inl ⟨by rfl, ?_⟩; intro w hSw; (try dsimp only at hSw); (first | obtain ⟨z0, z1, z2, z3⟩ := hSw | obtain ⟨z0, z1, z2⟩ := hSw | obtain ⟨z0, z1⟩ := hSw | skip); go_simp; try with_reducible rfl)
          simp only [Act.put, List.setIfInBounds_toArray, List.set_cons_zero, List.set_cons_succ]
          refine wpAnyH_take (i := 23) (oi := ?oi1248) (v := ?val1248) ?hi1248 ?hs1248 ?hf1248 ?hr1248 ?hQ1248 ?hy1248 ?hS1248 ?hrest1248
          case hi1248 => (simp only [List.getElem?_toArray, List.getElem?_cons_succ, List.getElem?_cons_zero] <;> exact rfl)
          case hs1248 => kernel_rfl
          case hf1248 => kernel_rfl
          case hr1248 => kernel_rfl
          case hQ1248 => exact fun _ _ _ h => h
          case hS1248 => assumption
          case hy1248 => (refine Or.inl ⟨by rfl, ?_⟩; intro w hSw; (try dsimp only at hSw); (first | obtain ⟨z0, z1, z2, z3⟩ := hSw | obtain ⟨z0, z1, z2⟩ := hSw | obtain ⟨z0, z1⟩ := hSw | skip); go_simp; try with_reducible rfl)
          simp only [Act.put, List.setIfInBounds_toArray, List.set_cons_zero, List.set_cons_succ]
          refine wpAnyH_ready (rs := [1, 11]) (by kernel_rfl) (by simp) ?_
          refine AllReadyH.cons rfl (fun K hK => ?_) (AllReadyH.cons rfl (fun K hK => ?_) AllReadyH.nil)
          · skip
            obtain ⟨v0, v1, v2, v3, v4, v5, v6, v7⟩ := EU.out _ hV
            go_simp
            refine hK.out _ _ (EU2.out _ hV) (fun hHeld2 => ?_)
            clear hK K hHeld
            have hHeld := hHeld2
            clear hHeld2
            first | simp only [Act.put, List.setIfInBounds_toArray, List.set_cons_zero, List.set_cons_succ] | skip
            clear v0 v1 v2 v3 v4 v5 v6 v7
            refine wpAnyH_ready (rs := [11]) (by kernel_rfl) (by simp) ?_
            refine AllReadyH.cons rfl (fun K hK => ?_) AllReadyH.nil
            go_simp
            with_reducible refine (specTimes_any n A L c xs _ _ (i / m) (k / m) ((i / m) * n + k / m) _ (Hrk.out.keep hV) Hn.out hb Hdi.out Hdk.out rfl l1).mono ?_
            rintro e u1 ⟨rfl, hUU⟩
            rw [X1.out]
            have hV := hV.trans (hUU.mono hV.size)
            refine hK.out _ _ (EU2.out _ hV) (fun hHeld2 => ?_)
            clear hK K hHeld
            have hHeld := hHeld2
            clear hHeld2
            first | simp only [Act.put, List.setIfInBounds_toArray, List.set_cons_zero, List.set_cons_succ] | skip
            refine wpAnyH_take (i := 14) (oi := ?oi1280) (v := ?val1280) ?hi1280 ?hs1280 ?hf1280 ?hr1280 ?hQ1280 ?hy1280 ?hS1280 ?hrest1280
            case hi1280 => (simp only [List.getElem?_toArray, List.getElem?_cons_succ, List.getElem?_cons_zero] <;> exact rfl)
            case hs1280 => kernel_rfl
            case hf1280 => kernel_rfl
            case hr1280 => kernel_rfl
            case hQ1280 => exact fun _ _ _ h => h
            case hS1280 => assumption
            case hy1280 => (refine Or.inl ⟨by rfl, ?_⟩; intro w hSw; (try dsimp only at hSw); (first | obtain ⟨z0, z1, z2, z3⟩ := hSw | obtain ⟨z0, z1, z2⟩ := hSw | obtain ⟨z0, z1⟩ := hSw | skip); go_simp; try with_reducible rfl)
            simp only [Act.put, List.setIfInBounds_toArray, List.set_cons_zero, List.set_cons_succ]
            refine wpAnyH_ready (rs := [24]) (by kernel_rfl) (by simp) ?_
            refine AllReadyH.cons rfl (fun K hK => ?_) AllReadyH.nil
            go_simp
            with_reducible refine (specTimes_any m B0 M c0 ys _ _ (i % m) (k % m) ((i % m) * m + k % m) _ (Hrd2.out.keep hV) Hn2.out hb2 Hti.out Htk.out rfl l2).mono ?_
            rintro e u2 ⟨rfl, hUU2⟩
            rw [X3.out]
            have hV := hV.trans (hUU2.mono hV.size)
            refine hK.out _ _ (EU2.out _ hV) (fun hHeld2 => ?_)
            clear hK K hHeld
            have hHeld := hHeld2
            clear hHeld2
            first | simp only [Act.put, List.setIfInBounds_toArray, List.set_cons_zero, List.set_cons_succ] | skip
            refine wpAnyH_take (i := 25) (oi := ?oi1301) (v := ?val1301) ?hi1301 ?hs1301 ?hf1301 ?hr1301 ?hQ1301 ?hy1301 ?hS1301 ?hrest1301
            case hi1301 => (simp only [List.getElem?_toArray, List.getElem?_cons_succ, List.getElem?_cons_zero] <;> exact rfl)
            case hs1301 => kernel_rfl
            case hf1301 => kernel_rfl
            case hr1301 => kernel_rfl
            case hQ1301 => exact fun _ _ _ h => h
            case hS1301 => assumption
            case hy1301 => (refine Or.inl ⟨by rfl, ?_⟩; intro w hSw; (try dsimp only at hSw); (first | obtain ⟨z0, z1, z2, z3⟩ := hSw | obtain ⟨z0, z1, z2⟩ := hSw | obtain ⟨z0, z1⟩ := hSw | skip); go_simp; try with_reducible rfl)
            simp only [Act.put, List.setIfInBounds_toArray, List.set_cons_zero, List.set_cons_succ]
            refine wpAnyH_ready (rs := [26]) (by kernel_rfl) (by simp) ?_
            refine AllReadyH.cons rfl (fun K hK => ?_) AllReadyH.nil
            go_simp
            refine hK.out _ _ (EU2.out _ (hV.alloc hV.size (.cells #[.int .i64 ((a : Int) * (m : Int) + (b : Int))] 3))) (fun hHeld2 => ?_)
            clear hK K hHeld
            have hHeld := hHeld2
            clear hHeld2
            first | simp only [Act.put, List.setIfInBounds_toArray, List.set_cons_zero, List.set_cons_succ] | skip
            refine wpAnyH_ready (rs := [27]) (by kernel_rfl) (by simp) ?_
            refine AllReadyH.cons rfl (fun K hK => ?_) AllReadyH.nil
            refine step_app1 _ _ rfl _ _ 22 rfl (g + 1) 3 1 8 _ Try.underlying22 info_int rfl (by omega) _ _ _ _ rfl rfl rfl (EO.out _ hV) rfl (one_cell1 _) (by omega) (by unfold maxLen; omega) (by have := hV.size; simp at this; omega) ?_
            intro A5 c5 w5 hO5 hW5
            have hB5 := (HO.out.drew.below hV (by simp; omega)).below hW5 (by omega)
            have hS5 := hB5.cell 1
            have hF5 := hB5.free 1
            have hU5 := ((HU.out.drew.below hV (by simp; omega)).below hW5 (by omega))
            have hT5 := ((HT.out.drew.below hV (by simp; omega)).below hW5 (by omega))
            refine hK.out _ _ (⟨hT5.cell 0, hT5.cell 1, hU5.cell 0, hU5.cell 1⟩) (fun hHeld2 => ?_)
            clear hK K hHeld
            have hHeld := hHeld2
            clear hHeld2
            first | simp only [Act.put, List.setIfInBounds_toArray, List.set_cons_zero, List.set_cons_succ] | skip
            refine wpAnyH_take (i := 28) (oi := ?oi1332) (v := ?val1332) ?hi1332 ?hs1332 ?hf1332 ?hr1332 ?hQ1332 ?hy1332 ?hS1332 ?hrest1332
            case hi1332 => (simp only [List.getElem?_toArray, List.getElem?_cons_succ, List.getElem?_cons_zero] <;> exact rfl)
            case hs1332 => kernel_rfl
            case hf1332 => kernel_rfl
            case hr1332 => kernel_rfl
            case hQ1332 => exact fun _ _ _ h => h
            case hS1332 => assumption
            case hy1332 => (refine Or.inl ⟨by rfl, ?_⟩; intro w hSw; (try dsimp only at hSw); (first | obtain ⟨z0, z1, z2, z3⟩ := hSw | obtain ⟨z0, z1, z2⟩ := hSw | obtain ⟨z0, z1⟩ := hSw | skip); go_simp; try with_reducible rfl)
            simp only [Act.put, List.setIfInBounds_toArray, List.set_cons_zero, List.set_cons_succ]
            refine wpAnyH_ready (rs := [29]) (by kernel_rfl) (by simp) ?_
            refine AllReadyH.cons rfl (fun K hK => ?_) AllReadyH.nil
            go_simp
            refine hK.out _ _ (⟨(hT5.far (p := ⟨g, 1, none⟩) (by dsimp only; omega) _).cell 0, (hT5.far (p := ⟨g, 1, none⟩) (by dsimp only; omega) _).cell 1, (hU5.far (p := ⟨g, 1, none⟩) (by dsimp only; omega) _).cell 0, (hU5.far (p := ⟨g, 1, none⟩) (by dsimp only; omega) _).cell 1⟩) (fun hHeld2 => ?_)
            clear hK K hHeld
            have hHeld := hHeld2
            clear hHeld2
            first | simp only [Act.put, List.setIfInBounds_toArray, List.set_cons_zero, List.set_cons_succ] | skip
            refine wpAnyH_done (by kernel_rfl) ?_ _
            have hN : Below w.heap.size w (w5.setCell ⟨g, 1, none⟩ (.slice A5 (z + 1) c5)) := (((HW.out.drew).trans (hV.mono HW.out.size)).trans (hW5.mono (by have := hgl; omega))).setCell (by dsimp only; omega) _
            have hTn := ((HT.out.drew.below hV (by have := HT.out.lt; simp; omega)).below hW5 (by omega)).far (p := ⟨g, 1, none⟩) (by dsimp only; omega) (.slice A5 (z + 1) c5)
            have hUn := ((HU.out.drew.below hV (by simp; omega)).below hW5 (by omega)).far (p := ⟨g, 1, none⟩) (by dsimp only; omega) (.slice A5 (z + 1) c5)
            have hRn := ((HR.out.drew.below hV (by have := HR.out.lt; simp; omega)).below hW5 (by omega)).far (p := ⟨g, 1, none⟩) (by dsimp only; omega) (.slice A5 (z + 1) c5)
            have hOn := hB5.put 1 (.slice A5 (z + 1) c5)
            have hon := ownsRow_setCell_below hO5 (a := ⟨g, 1, none⟩) (by simp) (.slice A5 (z + 1) c5)
            have hcl : ints (gridTo (prodF n xs m ys) N i k) ++ (#[Value.int .i64 ((a : Int) * m + b)] : Array Value).toList = ints (gridTo (prodF n xs m ys) N i (k + 1)) := by
              rw [gridTo_succ, ints_snoc, Hvf.out]
            rw [hcl] at hon
            clear hO5 hB5 hcl hS5 hF5 hV EU EO EU2 HT HU HR HO Hown Hrk Hrd2 Hri Hrk2 Hti Htk Hdi Hdk
            go_wp2_with fail
            go_roundw
            case rel => exact ⟨k + 1, A5, c5, z + 1, by omega, by go_num, by unfold Hid; rw [HM.out, gridTo_succ, List.length_append]; rfl, hTn, hUn, hRn, hOn, hon, hN⟩
            case measure => simp [intOf]; omega
          · skip
            go_simp
            with_reducible refine (specTimes_any n A L c xs _ _ (i / m) (k / m) ((i / m) * n + k / m) _ (Hrk.out.keep hV) Hn.out hb Hdi.out Hdk.out rfl l1).mono ?_
            rintro e u1 ⟨rfl, hUU⟩
            rw [X1.out]
            have hV := hV.trans (hUU.mono hV.size)
            refine hK.out _ _ (EU2.out _ hV) (fun hHeld2 => ?_)
            clear hK K hHeld
            have hHeld := hHeld2
            clear hHeld2
            first | simp only [Act.put, List.setIfInBounds_toArray, List.set_cons_zero, List.set_cons_succ] | skip
            refine wpAnyH_take (i := 14) (oi := ?oi1375) (v := ?val1375) ?hi1375 ?hs1375 ?hf1375 ?hr1375 ?hQ1375 ?hy1375 ?hS1375 ?hrest1375
            case hi1375 => (simp only [List.getElem?_toArray, List.getElem?_cons_succ, List.getElem?_cons_zero] <;> exact rfl)
            case hs1375 => kernel_rfl
            case hf1375 => kernel_rfl
            case hr1375 => kernel_rfl
            case hQ1375 => exact fun _ _ _ h => h
            case hS1375 => assumption
            case hy1375 => (refine Or.inl ⟨by rfl, ?_⟩; intro w hSw; (try dsimp only at hSw); (first | obtain ⟨z0, z1, z2, z3⟩ := hSw | obtain ⟨z0, z1, z2⟩ := hSw | obtain ⟨z0, z1⟩ := hSw | skip); go_simp; try with_reducible rfl)
            simp only [Act.put, List.setIfInBounds_toArray, List.set_cons_zero, List.set_cons_succ]
            refine wpAnyH_ready (rs := [1, 24]) (by kernel_rfl) (by simp) ?_
            refine AllReadyH.cons rfl (fun K hK => ?_) (AllReadyH.cons rfl (fun K hK => ?_) AllReadyH.nil)
            · skip
              obtain ⟨v0, v1, v2, v3, v4, v5, v6, v7⟩ := EU.out _ hV
              go_simp
              refine hK.out _ _ (EU2.out _ hV) (fun hHeld2 => ?_)
              clear hK K hHeld
              have hHeld := hHeld2
              clear hHeld2
              first | simp only [Act.put, List.setIfInBounds_toArray, List.set_cons_zero, List.set_cons_succ] | skip
              clear v0 v1 v2 v3 v4 v5 v6 v7
              refine wpAnyH_ready (rs := [24]) (by kernel_rfl) (by simp) ?_
              refine AllReadyH.cons rfl (fun K hK => ?_) AllReadyH.nil
              go_simp
              with_reducible refine (specTimes_any m B0 M c0 ys _ _ (i % m) (k % m) ((i % m) * m + k % m) _ (Hrd2.out.keep hV) Hn2.out hb2 Hti.out Htk.out rfl l2).mono ?_
              rintro e u2 ⟨rfl, hUU2⟩
              rw [X3.out]
              have hV := hV.trans (hUU2.mono hV.size)
              refine hK.out _ _ (EU2.out _ hV) (fun hHeld2 => ?_)
              clear hK K hHeld
              have hHeld := hHeld2
              clear hHeld2
              first | simp only [Act.put, List.setIfInBounds_toArray, List.set_cons_zero, List.set_cons_succ] | skip
              refine wpAnyH_take (i := 25) (oi := ?oi1407) (v := ?val1407) ?hi1407 ?hs1407 ?hf1407 ?hr1407 ?hQ1407 ?hy1407 ?hS1407 ?hrest1407
              case hi1407 => (simp only [List.getElem?_toArray, List.getElem?_cons_succ, List.getElem?_cons_zero] <;> exact rfl)
              case hs1407 => kernel_rfl
              case hf1407 => kernel_rfl
              case hr1407 => kernel_rfl
              case hQ1407 => exact fun _ _ _ h => h
              case hS1407 => assumption
              case hy1407 => (refine Or.inl ⟨by rfl, ?_⟩; intro w hSw; (try dsimp only at hSw); (first | obtain ⟨z0, z1, z2, z3⟩ := hSw | obtain ⟨z0, z1, z2⟩ := hSw | obtain ⟨z0, z1⟩ := hSw | skip); go_simp; try with_reducible rfl)
              simp only [Act.put, List.setIfInBounds_toArray, List.set_cons_zero, List.set_cons_succ]
              refine wpAnyH_ready (rs := [26]) (by kernel_rfl) (by simp) ?_
              refine AllReadyH.cons rfl (fun K hK => ?_) AllReadyH.nil
              go_simp
              refine hK.out _ _ (EU2.out _ (hV.alloc hV.size (.cells #[.int .i64 ((a : Int) * (m : Int) + (b : Int))] 3))) (fun hHeld2 => ?_)
              clear hK K hHeld
              have hHeld := hHeld2
              clear hHeld2
              first | simp only [Act.put, List.setIfInBounds_toArray, List.set_cons_zero, List.set_cons_succ] | skip
              refine wpAnyH_ready (rs := [27]) (by kernel_rfl) (by simp) ?_
              refine AllReadyH.cons rfl (fun K hK => ?_) AllReadyH.nil
              refine step_app1 _ _ rfl _ _ 22 rfl (g + 1) 3 1 8 _ Try.underlying22 info_int rfl (by omega) _ _ _ _ rfl rfl rfl (EO.out _ hV) rfl (one_cell1 _) (by omega) (by unfold maxLen; omega) (by have := hV.size; simp at this; omega) ?_
              intro A5 c5 w5 hO5 hW5
              have hB5 := (HO.out.drew.below hV (by simp; omega)).below hW5 (by omega)
              have hS5 := hB5.cell 1
              have hF5 := hB5.free 1
              have hU5 := ((HU.out.drew.below hV (by simp; omega)).below hW5 (by omega))
              have hT5 := ((HT.out.drew.below hV (by simp; omega)).below hW5 (by omega))
              refine hK.out _ _ (⟨hT5.cell 0, hT5.cell 1, hU5.cell 0, hU5.cell 1⟩) (fun hHeld2 => ?_)
              clear hK K hHeld
              have hHeld := hHeld2
              clear hHeld2
              first | simp only [Act.put, List.setIfInBounds_toArray, List.set_cons_zero, List.set_cons_succ] | skip
              refine wpAnyH_take (i := 28) (oi := ?oi1438) (v := ?val1438) ?hi1438 ?hs1438 ?hf1438 ?hr1438 ?hQ1438 ?hy1438 ?hS1438 ?hrest1438
              case hi1438 => (simp only [List.getElem?_toArray, List.getElem?_cons_succ, List.getElem?_cons_zero] <;> exact rfl)
              case hs1438 => kernel_rfl
              case hf1438 => kernel_rfl
              case hr1438 => kernel_rfl
              case hQ1438 => exact fun _ _ _ h => h
              case hS1438 => assumption
              case hy1438 => (refine Or.inl ⟨by rfl, ?_⟩; intro w hSw; (try dsimp only at hSw); (first | obtain ⟨z0, z1, z2, z3⟩ := hSw | obtain ⟨z0, z1, z2⟩ := hSw | obtain ⟨z0, z1⟩ := hSw | skip); go_simp; try with_reducible rfl)
              simp only [Act.put, List.setIfInBounds_toArray, List.set_cons_zero, List.set_cons_succ]
              refine wpAnyH_ready (rs := [29]) (by kernel_rfl) (by simp) ?_
              refine AllReadyH.cons rfl (fun K hK => ?_) AllReadyH.nil
              go_simp
              refine hK.out _ _ (⟨(hT5.far (p := ⟨g, 1, none⟩) (by dsimp only; omega) _).cell 0, (hT5.far (p := ⟨g, 1, none⟩) (by dsimp only; omega) _).cell 1, (hU5.far (p := ⟨g, 1, none⟩) (by dsimp only; omega) _).cell 0, (hU5.far (p := ⟨g, 1, none⟩) (by dsimp only; omega) _).cell 1⟩) (fun hHeld2 => ?_)
              clear hK K hHeld
              have hHeld := hHeld2
              clear hHeld2
              first | simp only [Act.put, List.setIfInBounds_toArray, List.set_cons_zero, List.set_cons_succ] | skip
              refine wpAnyH_done (by kernel_rfl) ?_ _
              have hN : Below w.heap.size w (w5.setCell ⟨g, 1, none⟩ (.slice A5 (z + 1) c5)) := (((HW.out.drew).trans (hV.mono HW.out.size)).trans (hW5.mono (by have := hgl; omega))).setCell (by dsimp only; omega) _
              have hTn := ((HT.out.drew.below hV (by have := HT.out.lt; simp; omega)).below hW5 (by omega)).far (p := ⟨g, 1, none⟩) (by dsimp only; omega) (.slice A5 (z + 1) c5)
              have hUn := ((HU.out.drew.below hV (by simp; omega)).below hW5 (by omega)).far (p := ⟨g, 1, none⟩) (by dsimp only; omega) (.slice A5 (z + 1) c5)
              have hRn := ((HR.out.drew.below hV (by have := HR.out.lt; simp; omega)).below hW5 (by omega)).far (p := ⟨g, 1, none⟩) (by dsimp only; omega) (.slice A5 (z + 1) c5)
              have hOn := hB5.put 1 (.slice A5 (z + 1) c5)
              have hon := ownsRow_setCell_below hO5 (a := ⟨g, 1, none⟩) (by simp) (.slice A5 (z + 1) c5)
              have hcl : ints (gridTo (prodF n xs m ys) N i k) ++ (#[Value.int .i64 ((a : Int) * m + b)] : Array Value).toList = ints (gridTo (prodF n xs m ys) N i (k + 1)) := by
                rw [gridTo_succ, ints_snoc, Hvf.out]
              rw [hcl] at hon
              clear hO5 hB5 hcl hS5 hF5 hV EU EO EU2 HT HU HR HO Hown Hrk Hrd2 Hri Hrk2 Hti Htk Hdi Hdk
              go_wp2_with fail
              go_roundw
              case rel => exact ⟨k + 1, A5, c5, z + 1, by omega, by go_num, by unfold Hid; rw [HM.out, gridTo_succ, List.length_append]; rfl, hTn, hUn, hRn, hOn, hon, hN⟩
              case measure => simp [intOf]; omega
            · skip
              go_simp
              with_reducible refine (specTimes_any m B0 M c0 ys _ _ (i % m) (k % m) ((i % m) * m + k % m) _ (Hrd2.out.keep hV) Hn2.out hb2 Hti.out Htk.out rfl l2).mono ?_
              rintro e u2 ⟨rfl, hUU2⟩
              rw [X3.out]
              have hV := hV.trans (hUU2.mono hV.size)
              refine hK.out _ _ (EU2.out _ hV) (fun hHeld2 => ?_)
              clear hK K hHeld
              have hHeld := hHeld2
              clear hHeld2
              first | simp only [Act.put, List.setIfInBounds_toArray, List.set_cons_zero, List.set_cons_succ] | skip
              refine wpAnyH_take (i := 25) (oi := ?oi1481) (v := ?val1481) ?hi1481 ?hs1481 ?hf1481 ?hr1481 ?hQ1481 ?hy1481 ?hS1481 ?hrest1481
              case hi1481 => (simp only [List.getElem?_toArray, List.getElem?_cons_succ, List.getElem?_cons_zero] <;> exact rfl)
              case hs1481 => kernel_rfl
              case hf1481 => kernel_rfl
              case hr1481 => kernel_rfl
              case hQ1481 => exact fun _ _ _ h => h
              case hS1481 => assumption
              case hy1481 => (refine Or.inl ⟨by rfl, ?_⟩; intro w hSw; (try dsimp only at hSw); (first | obtain ⟨z0, z1, z2, z3⟩ := hSw | obtain ⟨z0, z1, z2⟩ := hSw | obtain ⟨z0, z1⟩ := hSw | skip); go_simp; try with_reducible rfl)
              simp only [Act.put, List.setIfInBounds_toArray, List.set_cons_zero, List.set_cons_succ]
              refine wpAnyH_ready (rs := [1, 26]) (by kernel_rfl) (by simp) ?_
              refine AllReadyH.cons rfl (fun K hK => ?_) (AllReadyH.cons rfl (fun K hK => ?_) AllReadyH.nil)
              · skip
                obtain ⟨v0, v1, v2, v3, v4, v5, v6, v7⟩ := EU.out _ hV
                go_simp
                refine hK.out _ _ (EU2.out _ hV) (fun hHeld2 => ?_)
                clear hK K hHeld
                have hHeld := hHeld2
                clear hHeld2
                first | simp only [Act.put, List.setIfInBounds_toArray, List.set_cons_zero, List.set_cons_succ] | skip
                clear v0 v1 v2 v3 v4 v5 v6 v7
                refine wpAnyH_ready (rs := [26]) (by kernel_rfl) (by simp) ?_
                refine AllReadyH.cons rfl (fun K hK => ?_) AllReadyH.nil
                go_simp
                refine hK.out _ _ (EU2.out _ (hV.alloc hV.size (.cells #[.int .i64 ((a : Int) * (m : Int) + (b : Int))] 3))) (fun hHeld2 => ?_)
                clear hK K hHeld
                have hHeld := hHeld2
                clear hHeld2
                first | simp only [Act.put, List.setIfInBounds_toArray, List.set_cons_zero, List.set_cons_succ] | skip
                refine wpAnyH_ready (rs := [27]) (by kernel_rfl) (by simp) ?_
                refine AllReadyH.cons rfl (fun K hK => ?_) AllReadyH.nil
                refine step_app1 _ _ rfl _ _ 22 rfl (g + 1) 3 1 8 _ Try.underlying22 info_int rfl (by omega) _ _ _ _ rfl rfl rfl (EO.out _ hV) rfl (one_cell1 _) (by omega) (by unfold maxLen; omega) (by have := hV.size; simp at this; omega) ?_
                intro A5 c5 w5 hO5 hW5
                have hB5 := (HO.out.drew.below hV (by simp; omega)).below hW5 (by omega)
                have hS5 := hB5.cell 1
                have hF5 := hB5.free 1
                have hU5 := ((HU.out.drew.below hV (by simp; omega)).below hW5 (by omega))
                have hT5 := ((HT.out.drew.below hV (by simp; omega)).below hW5 (by omega))
                refine hK.out _ _ (⟨hT5.cell 0, hT5.cell 1, hU5.cell 0, hU5.cell 1⟩) (fun hHeld2 => ?_)
                clear hK K hHeld
                have hHeld := hHeld2
                clear hHeld2
                first | simp only [Act.put, List.setIfInBounds_toArray, List.set_cons_zero, List.set_cons_succ] | skip
                refine wpAnyH_take (i := 28) (oi := ?oi1523) (v := ?val1523) ?hi1523 ?hs1523 ?hf1523 ?hr1523 ?hQ1523 ?hy1523 ?hS1523 ?hrest1523
                case hi1523 => (simp only [List.getElem?_toArray, List.getElem?_cons_succ, List.getElem?_cons_zero] <;> exact rfl)
                case hs1523 => kernel_rfl
                case hf1523 => kernel_rfl
                case hr1523 => kernel_rfl
                case hQ1523 => exact fun _ _ _ h => h
                case hS1523 => assumption
                case hy1523 => (refine Or.inl ⟨by rfl, ?_⟩; intro w hSw; (try dsimp only at hSw); (first | obtain ⟨z0, z1, z2, z3⟩ := hSw | obtain ⟨z0, z1, z2⟩ := hSw | obtain ⟨z0, z1⟩ := hSw | skip); go_simp; try with_reducible rfl)
                simp only [Act.put, List.setIfInBounds_toArray, List.set_cons_zero, List.set_cons_succ]
                refine wpAnyH_ready (rs := [29]) (by kernel_rfl) (by simp) ?_
                refine AllReadyH.cons rfl (fun K hK => ?_) AllReadyH.nil
                go_simp
                refine hK.out _ _ (⟨(hT5.far (p := ⟨g, 1, none⟩) (by dsimp only; omega) _).cell 0, (hT5.far (p := ⟨g, 1, none⟩) (by dsimp only; omega) _).cell 1, (hU5.far (p := ⟨g, 1, none⟩) (by dsimp only; omega) _).cell 0, (hU5.far (p := ⟨g, 1, none⟩) (by dsimp only; omega) _).cell 1⟩) (fun hHeld2 => ?_)
                clear hK K hHeld
                have hHeld := hHeld2
                clear hHeld2
                first | simp only [Act.put, List.setIfInBounds_toArray, List.set_cons_zero, List.set_cons_succ] | skip
                refine wpAnyH_done (by kernel_rfl) ?_ _
                have hN : Below w.heap.size w (w5.setCell ⟨g, 1, none⟩ (.slice A5 (z + 1) c5)) := (((HW.out.drew).trans (hV.mono HW.out.size)).trans (hW5.mono (by have := hgl; omega))).setCell (by dsimp only; omega) _
                have hTn := ((HT.out.drew.below hV (by have := HT.out.lt; simp; omega)).below hW5 (by omega)).far (p := ⟨g, 1, none⟩) (by dsimp only; omega) (.slice A5 (z + 1) c5)
                have hUn := ((HU.out.drew.below hV (by simp; omega)).below hW5 (by omega)).far (p := ⟨g, 1, none⟩) (by dsimp only; omega) (.slice A5 (z + 1) c5)
                have hRn := ((HR.out.drew.below hV (by have := HR.out.lt; simp; omega)).below hW5 (by omega)).far (p := ⟨g, 1, none⟩) (by dsimp only; omega) (.slice A5 (z + 1) c5)
                have hOn := hB5.put 1 (.slice A5 (z + 1) c5)
                have hon := ownsRow_setCell_below hO5 (a := ⟨g, 1, none⟩) (by simp) (.slice A5 (z + 1) c5)
                have hcl : ints (gridTo (prodF n xs m ys) N i k) ++ (#[Value.int .i64 ((a : Int) * m + b)] : Array Value).toList = ints (gridTo (prodF n xs m ys) N i (k + 1)) := by
                  rw [gridTo_succ, ints_snoc, Hvf.out]
                rw [hcl] at hon
                clear hO5 hB5 hcl hS5 hF5 hV EU EO EU2 HT HU HR HO Hown Hrk Hrd2 Hri Hrk2 Hti Htk Hdi Hdk
                go_wp2_with fail
                go_roundw
                case rel => exact ⟨k + 1, A5, c5, z + 1, by omega, by go_num, by unfold Hid; rw [HM.out, gridTo_succ, List.length_append]; rfl, hTn, hUn, hRn, hOn, hon, hN⟩
                case measure => simp [intOf]; omega
              · skip
                go_simp
                refine hK.out _ _ (EU2.out _ (hV.alloc hV.size (.cells #[.int .i64 ((a : Int) * (m : Int) + (b : Int))] 3))) (fun hHeld2 => ?_)
                clear hK K hHeld
                have hHeld := hHeld2
                clear hHeld2
                first | simp only [Act.put, List.setIfInBounds_toArray, List.set_cons_zero, List.set_cons_succ] | skip
                refine wpAnyH_ready (rs := [1]) (by kernel_rfl) (by simp) ?_
                refine AllReadyH.cons rfl (fun K hK => ?_) AllReadyH.nil
                obtain ⟨v0, v1, v2, v3, v4, v5, v6, v7⟩ := EU.out _ (hV.alloc hV.size (.cells #[.int .i64 ((a : Int) * (m : Int) + (b : Int))] 3))
                go_simp
                refine hK.out _ _ (EU2.out _ (hV.alloc hV.size (.cells #[.int .i64 ((a : Int) * (m : Int) + (b : Int))] 3))) (fun hHeld2 => ?_)
                clear hK K hHeld
                have hHeld := hHeld2
                clear hHeld2
                first | simp only [Act.put, List.setIfInBounds_toArray, List.set_cons_zero, List.set_cons_succ] | skip
                clear v0 v1 v2 v3 v4 v5 v6 v7
                refine wpAnyH_ready (rs := [27]) (by kernel_rfl) (by simp) ?_
                refine AllReadyH.cons rfl (fun K hK => ?_) AllReadyH.nil
                refine step_app1 _ _ rfl _ _ 22 rfl (g + 1) 3 1 8 _ Try.underlying22 info_int rfl (by omega) _ _ _ _ rfl rfl rfl (EO.out _ hV) rfl (one_cell1 _) (by omega) (by unfold maxLen; omega) (by have := hV.size; simp at this; omega) ?_
                intro A5 c5 w5 hO5 hW5
                have hB5 := (HO.out.drew.below hV (by simp; omega)).below hW5 (by omega)
                have hS5 := hB5.cell 1
                have hF5 := hB5.free 1
                have hU5 := ((HU.out.drew.below hV (by simp; omega)).below hW5 (by omega))
                have hT5 := ((HT.out.drew.below hV (by simp; omega)).below hW5 (by omega))
                refine hK.out _ _ (⟨hT5.cell 0, hT5.cell 1, hU5.cell 0, hU5.cell 1⟩) (fun hHeld2 => ?_)
                clear hK K hHeld
                have hHeld := hHeld2
                clear hHeld2
                first | simp only [Act.put, List.setIfInBounds_toArray, List.set_cons_zero, List.set_cons_succ] | skip
                refine wpAnyH_take (i := 28) (oi := ?oi1586) (v := ?val1586) ?hi1586 ?hs1586 ?hf1586 ?hr1586 ?hQ1586 ?hy1586 ?hS1586 ?hrest1586
                case hi1586 => (simp only [List.getElem?_toArray, List.getElem?_cons_succ, List.getElem?_cons_zero] <;> exact rfl)
                case hs1586 => kernel_rfl
                case hf1586 => kernel_rfl
                case hr1586 => kernel_rfl
                case hQ1586 => exact fun _ _ _ h => h
                case hS1586 => assumption
                case hy1586 => (refine Or.inl ⟨by rfl, ?_⟩; intro w hSw; (try dsimp only at hSw); (first | obtain ⟨z0, z1, z2, z3⟩ := hSw | obtain ⟨z0, z1, z2⟩ := hSw | obtain ⟨z0, z1⟩ := hSw | skip); go_simp; try with_reducible rfl)
                simp only [Act.put, List.setIfInBounds_toArray, List.set_cons_zero, List.set_cons_succ]
                refine wpAnyH_ready (rs := [29]) (by kernel_rfl) (by simp) ?_
                refine AllReadyH.cons rfl (fun K hK => ?_) AllReadyH.nil
                go_simp
                refine hK.out _ _ (⟨(hT5.far (p := ⟨g, 1, none⟩) (by dsimp only; omega) _).cell 0, (hT5.far (p := ⟨g, 1, none⟩) (by dsimp only; omega) _).cell 1, (hU5.far (p := ⟨g, 1, none⟩) (by dsimp only; omega) _).cell 0, (hU5.far (p := ⟨g, 1, none⟩) (by dsimp only; omega) _).cell 1⟩) (fun hHeld2 => ?_)
                clear hK K hHeld
                have hHeld := hHeld2
                clear hHeld2
                first | simp only [Act.put, List.setIfInBounds_toArray, List.set_cons_zero, List.set_cons_succ] | skip
                refine wpAnyH_done (by kernel_rfl) ?_ _
                have hN : Below w.heap.size w (w5.setCell ⟨g, 1, none⟩ (.slice A5 (z + 1) c5)) := (((HW.out.drew).trans (hV.mono HW.out.size)).trans (hW5.mono (by have := hgl; omega))).setCell (by dsimp only; omega) _
                have hTn := ((HT.out.drew.below hV (by have := HT.out.lt; simp; omega)).below hW5 (by omega)).far (p := ⟨g, 1, none⟩) (by dsimp only; omega) (.slice A5 (z + 1) c5)
                have hUn := ((HU.out.drew.below hV (by simp; omega)).below hW5 (by omega)).far (p := ⟨g, 1, none⟩) (by dsimp only; omega) (.slice A5 (z + 1) c5)
                have hRn := ((HR.out.drew.below hV (by have := HR.out.lt; simp; omega)).below hW5 (by omega)).far (p := ⟨g, 1, none⟩) (by dsimp only; omega) (.slice A5 (z + 1) c5)
                have hOn := hB5.put 1 (.slice A5 (z + 1) c5)
                have hon := ownsRow_setCell_below hO5 (a := ⟨g, 1, none⟩) (by simp) (.slice A5 (z + 1) c5)
                have hcl : ints (gridTo (prodF n xs m ys) N i k) ++ (#[Value.int .i64 ((a : Int) * m + b)] : Array Value).toList = ints (gridTo (prodF n xs m ys) N i (k + 1)) := by
                  rw [gridTo_succ, ints_snoc, Hvf.out]
                rw [hcl] at hon
                clear hO5 hB5 hcl hS5 hF5 hV EU EO EU2 HT HU HR HO Hown Hrk Hrd2 Hri Hrk2 Hti Htk Hdi Hdk
                go_wp2_with fail
                go_roundw
                case rel => exact ⟨k + 1, A5, c5, z + 1, by omega, by go_num, by unfold Hid; rw [HM.out, gridTo_succ, List.length_append]; rfl, hTn, hUn, hRn, hOn, hon, hN⟩
                case measure => simp [intOf]; omega
        · have : k = N := by omega
          subst this
          have HT := Lib.hid hT
          clear hT
          have HU := Lib.hid hU
          clear hU
          have HR := Lib.hid hR
          clear hR
          have HO := Lib.hid hO
          clear hO
          have Hown := Lib.hid hown
          clear hown
          have HW := Lib.hid hW
          clear hW
          go_wp2_with fail
          go_roundw
          case rel => exact ⟨i + 1, B, d, z, by omega, by go_num, by unfold Hid; rw [gridAcc_succ]; exact HM.out, HT.out, HU.out, HR.out, HO.out, by rw [gridAcc_succ]; exact Hown.out, HW.out⟩
          case measure => simp [intOf]; omega
    · have : i = N := by omega
      subst this
      have l0 : wr.cell? ⟨g, 0, none⟩ = some (.int .i64 (i : Int)) := by rw [hO.cell]; rfl
      have l1 : wr.cell? ⟨g, 1, none⟩ = some (.slice B z d) := by rw [hO.cell]; rfl
      have r0 : wr.cell? ⟨w.heap.size + 1 + 1, 0, none⟩ = some (.int .i64 0) := by rw [hR.cell]; rfl
      have r1 : wr.cell? ⟨w.heap.size + 1 + 1, 1, none⟩ = some (.slice none 0 0) := by rw [hR.cell]; rfl
      have f0 := hR.free 0
      have f1 := hR.free 1
      have HO := Lib.hid hO
      clear hO
      go_wp2_with fail
      have hBn := (hR.put 0 (.int .i64 (i : Int))).put 1 (.slice B z d)
      have q0 := hBn.cell 0
      have q1 := hBn.cell 1
      refine bodyPost_ret (v := .tuple #[.agg #[.int .i64 (i : Int), .slice B z d], .bool true]) (by simp [results, Try.results16, go_sem, q0, q1]) rfl ?_
      rw [E1.out, E2.out, E0.out, ← HM.out]
      refine ⟨B, d, rfl, ?_, ?_⟩
      · exact own_mono (ownsRow_setCell_below (ownsRow_setCell_below hown (a := ⟨w.heap.size + 1 + 1, 0, none⟩) (by dsimp only; omega) _) (a := ⟨w.heap.size + 1 + 1, 1, none⟩) (by dsimp only; omega) _) (by omega)
      · exact (hW.setCell (by dsimp only; omega) _).setCell (by dsimp only; omega) _

end Go.Proofs.Ytgnmfneinnojnaa
