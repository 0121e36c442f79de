/- Walks over TableOk (the program's and the reference's) and the product of two elements: each returns what tableOk says, for all arguments. -/
import Derived.Test.YtgnmfneinnojnaaWts
import Derived.PlainAid
import Derived.Deep.RegionHeld3
namespace Go.Proofs.Ytgnmfneinnojnaa
open Go.RowKit Go.Shelf Go.PlainAid

/-- Entry p of a table. -/
def tg (xs : List Int) (p : Nat) : Int := xs.getD p 0
def ti (xs : List Int) (p : Nat) : Nat := (tg xs p).toNat
def unitOk (xs : List Int) (n i : Nat) : Bool := decide (tg xs i = i) && decide (tg xs (i * n) = i)
def assocOk (xs : List Int) (n i j k : Nat) : Bool := decide (tg xs (ti xs (i * n + j) * n + k) = tg xs (i * n + ti xs (j * n + k)))
def rowOk (xs : List Int) (n i j : Nat) : Bool := (List.range n).all (assocOk xs n i j)
def colOk (xs : List Int) (n i : Nat) : Bool := (List.range n).all (rowOk xs n i)
def eltOk (xs : List Int) (n i : Nat) : Bool := unitOk xs n i && colOk xs n i
/-- TableOk, in plain words. -/
def tableOk (s : Int) (xs : List Int) : Bool := inB s 1 40 && decide ((xs.length : Int) = s * s) && xs.all (fun x => inB x 0 (s - 1)) && (List.range s.toNat).all (eltOk xs s.toNat)

theorem range_all_succ (p : Nat → Bool) (j : Nat) (h : (List.range j).all p = true) (hp : p j = true) : (List.range (j + 1)).all p = true := by
  rw [List.range_succ, List.all_append, h]; simp [hp]
theorem range_all_miss (p : Nat → Bool) (n j : Nat) (h : j < n) (hp : p j = false) : (List.range n).all p = false := by
  rw [List.all_eq_false]
  exact ⟨j, List.mem_range.2 h, by simp [hp]⟩
theorem rd_tab {w : World} {A : Option Addr} {xs : List Int} (h : Rd w A (ints xs)) (hne : 0 < xs.length) :
    ∃ b off, A = some ⟨b, off, none⟩ ∧ b < w.heap.size ∧ ∀ p, p < xs.length → w.cell? ⟨b, off + p, none⟩ = some (.int .i64 (tg xs p)) := by
  obtain ⟨b, o, e, hb, hc⟩ := h (by intro e; have e2 := congrArg List.length e; rw [ints_len] at e2; rw [e2] at hne; exact absurd hne (Nat.lt_irrefl 0))
  refine ⟨b, o, e, hb, fun p hp => hc p _ ?_⟩
  rw [ints_get xs p hp]
  simp [tg, hp]
theorem lin_lt {i n j : Nat} (hi : i < n) (hj : j < n) : i * n + j < n * n := by
  have : (i + 1) * n ≤ n * n := Nat.mul_le_mul_right n (by omega)
  rw [Nat.succ_mul] at this
  omega
theorem tab_in {xs : List Int} {n p : Nat} (h : xs.all (fun x => inB x 0 ((n : Int) - 1)) = true) (hp : p < xs.length) : tg xs p = (ti xs p : Int) ∧ ti xs p < n := by
  have := inB_out (List.all_eq_true.1 h xs[p] (List.getElem_mem hp)).symm
  have e : tg xs p = xs[p] := by simp [tg, hp]
  unfold ti
  rw [e]
  omega
theorem sq_cast (n : Nat) : ((n * n : Nat) : Int) = (n : Int) * n := by simp

theorem lin_facts (i j n L : Nat) (h : i * n + j < L) (hb : L ≤ 1048576) : IntKind.i64.wrap ((i : Int) * (n : Int)) = (i : Int) * (n : Int) ∧ IntKind.i64.wrap ((i : Int) * (n : Int) + (j : Int)) = (i : Int) * (n : Int) + (j : Int) ∧
    ((i : Int) * (n : Int) + (j : Int)).toNat = i * n + j ∧ (0 : Int) ≤ (i : Int) * (n : Int) + (j : Int) ∧ (i : Int) * (n : Int) + (j : Int) < (L : Int) := by
  have := cast_lin i j n
  exact ⟨i64_mul i n (by omega), i64_lin i j n (by omega), toNat_lin i j n, by omega, by omega⟩

set_option maxRecDepth 100000 in
set_option maxHeartbeats 1000000 in
theorem implTimes_any (n : Nat) (A : Option Addr) (L c : Nat) (xs : List Int) (i k : Int) (I K p : Nat) (w : World) (hr : Rd w A (ints xs)) (hn : L = xs.length) (hb : L ≤ 1048576) (hi : i = I) (hk : k = K) (hp : I * n + K = p) (hl : p < L) :
    Calls Try.prog 64 #[.agg #[.int .i64 n, .slice A L c], .int .i64 i, .int .i64 k] w (Kept w (.int .i64 (tg xs p))) := by
  subst hn hi hk hp
  have hW : Below w.heap.size w (w.alloc (.cells #[.int .i64 n, .slice A xs.length c] 26)) := (Below.refl _ _).alloc (Nat.le_refl _) _
  obtain ⟨b, o, rfl, hbl, hc⟩ := rd_tab hr (by omega)
  have c1 := hc (I * n + K) (by omega)
  have hm1 := i64_mul I n (by omega)
  have hm2 := i64_lin I K n (by omega)
  have ht := toNat_lin I K n
  have h1 : (I : Int) * (n : Int) + (K : Int) < (xs.length : Int) := by have := cast_lin I K n; omega
  have h0 : (0 : Int) ≤ (I : Int) * (n : Int) + (K : Int) := by have := cast_lin I K n; omega
  clear hc hr
  go_enter Try.func64, Try.ntmps64
  go_wp2_with fail
  go_ret
  exact ⟨rfl, hW⟩

set_option maxRecDepth 100000 in
set_option maxHeartbeats 1000000 in
theorem specTimes_any (n : Nat) (A : Option Addr) (L c : Nat) (xs : List Int) (i k : Int) (I K p : Nat) (w : World) (hr : Rd w A (ints xs)) (hn : L = xs.length) (hb : L ≤ 1048576) (hi : i = I) (hk : k = K) (hp : I * n + K = p) (hl : p < L) :
    Calls Try.prog 61 #[.agg #[.int .i64 n, .slice A L c], .int .i64 i, .int .i64 k] w (Kept w (.int .i64 (tg xs p))) := by
  subst hn hi hk hp
  have hW : Below w.heap.size w (w.alloc (.cells #[.int .i64 n, .slice A xs.length c] 26)) := (Below.refl _ _).alloc (Nat.le_refl _) _
  obtain ⟨b, o, rfl, hbl, hc⟩ := rd_tab hr (by omega)
  have c1 := hc (I * n + K) (by omega)
  have hm1 := i64_mul I n (by omega)
  have hm2 := i64_lin I K n (by omega)
  have ht := toNat_lin I K n
  have h1 : (I : Int) * (n : Int) + (K : Int) < (xs.length : Int) := by have := cast_lin I K n; omega
  have h0 : (0 : Int) ≤ (I : Int) * (n : Int) + (K : Int) := by have := cast_lin I K n; omega
  clear hc hr
  go_enter Try.func61, Try.ntmps61
  go_wp2_with fail
  go_ret
  exact ⟨rfl, hW⟩

set_option maxRecDepth 100000 in
set_option maxHeartbeats 1000000 in
theorem implTableOk_any (s : Int) (A : Option Addr) (L c : Nat) (xs : List Int) (w : World) (hr : Rd w A (ints xs)) (hn : L = xs.length) (hb : L ≤ 1048576) :
    Calls Try.prog 63 #[.agg #[.int .i64 s, .slice A L c]] w (Kept w (.bool (tableOk s xs))) := by
  have hW0 : Below w.heap.size w (w.alloc (.cells #[.int .i64 s, .slice A L c] 26)) := (Below.refl _ _).alloc (Nat.le_refl _) _
  have hS0 := Bk.new w 26 #[.int .i64 s, .slice A L c]
  have Hr := Lib.hid hr
  clear hr
  have Hn := Lib.hid hn
  clear hn
  go_enter Try.func63, Try.ntmps63
  go_wp2_with fail
  refine (within_any s 1 40 _).mono ?_
  rintro e w' ⟨rfl, rfl⟩
  obtain ⟨r1, hrr⟩ : ∃ r', r' = (inB s 1 40) := ⟨_, rfl⟩
  rw [← hrr]
  have H1 := Lib.hid hrr
  clear hrr
  cases r1
  · go_wp2_with fail
    go_ret
    exact ⟨ret_bool (by rw [tableOk, ← H1.out]; rfl), hW0⟩
  obtain ⟨hs1, hs2⟩ := inB_out H1.out
  obtain ⟨n, rfl⟩ := Int.eq_ofNat_of_zero_le (show 0 ≤ s by omega)
  have hm1 := i64_mul n n (by have : n * n ≤ 40 * 40 := Nat.mul_le_mul (by omega) (by omega); omega)
  by_cases hl : L = n * n
  · have hd : ((L : Int) != (n : Int) * (n : Int)) = false := by rw [hl, sq_cast]; simp
    have Hl := Lib.hid hl
    clear hl
    go_wp2_with fail
    with_reducible refine (allWithin_any A L c xs 0 (n - 1) _ (Hr.out.keep hW0) Hn.out hb).mono ?_
    rintro e w1 ⟨rfl, b1⟩
    have hW1 := hW0.trans (b1.mono hW0.size)
    have hS1 := hS0.below b1 hS0.lt
    have s0_1 : w1.cell? ⟨w.heap.size, 0, none⟩ = some (.int .i64 n) := by rw [hS1.cell]; rfl
    have s1_1 : w1.cell? ⟨w.heap.size, 1, none⟩ = some (.slice A L c) := by rw [hS1.cell]; rfl
    have sl_1 := hS1.lt
    clear b1
    obtain ⟨r2, hrr⟩ : ∃ r', r' = (xs.all (fun x => inB x 0 ((n : Int) - 1))) := ⟨_, rfl⟩
    rw [← hrr]
    have H2 := Lib.hid hrr
    clear hrr
    cases r2
    · go_wp2_with fail
      go_ret
      exact ⟨ret_bool (by rw [tableOk, ← H2.out]; simp), hW1⟩
    go_wp2_with fail
    have hall : xs.all (fun x => inB x 0 ((n : Int) - 1)) = true := H2.out.symm
    have hT : ∀ i k, i < n → k < n → i * n + k < L ∧ tg xs (i * n + k) = (ti xs (i * n + k) : Int) ∧ ti xs (i * n + k) < n := fun i k hi hk => by
      have h1 := lin_lt hi hk
      have h2 : i * n + k < L := by rw [Hl.out]; exact h1
      exact ⟨h2, tab_in hall (by rw [← Hn.out]; exact h2)⟩
    have HT := Lib.hid hT
    clear hT
    clear hall
    go_loopw [32] (fun i wr => ∃ (q : Nat), q ≤ n ∧ i = .int .i64 q ∧ Hid ((List.range q).all (eltOk xs n) = true) ∧ Bk wr w.heap.size 26 #[.int .i64 n, .slice A L c] ∧ Below w.heap.size w wr) (fun i _ => n - (intOf i).toNat)
    case atStart => exact ⟨0, Nat.zero_le _, rfl, by simp [Hid], hS1, hW1⟩
    case round =>
      clear hS0 hW0 hS1 hW1 s0_1 s1_1 sl_1
      obtain ⟨i, hi, rfl, HA, hS0, hW0⟩ := hrel
      have s0_0 : wr.cell? ⟨w.heap.size, 0, none⟩ = some (.int .i64 n) := by rw [hS0.cell]; rfl
      have s1_0 : wr.cell? ⟨w.heap.size, 1, none⟩ = some (.slice A L c) := by rw [hS0.cell]; rfl
      have sl_0 := hS0.lt
      by_cases hlt : i < n
      · have h0 := HT.out 0 i (by omega) hlt
        have h1 := HT.out i 0 hlt (by omega)
        rw [Nat.zero_mul, Nat.zero_add] at h0
        rw [Nat.add_zero] at h1
        obtain ⟨h0, -, -⟩ := h0
        obtain ⟨h1, -, -⟩ := h1
        go_wp2_with fail
        with_reducible refine (implTimes_any n A L c xs 0 (i : Int) 0 i i _ (Hr.out.keep hW0) Hn.out hb rfl rfl (by omega) h0).mono ?_
        rintro e w1 ⟨rfl, b1⟩
        have hW1 := hW0.trans (b1.mono hW0.size)
        have hS1 := hS0.below b1 hS0.lt
        have s0_1 : w1.cell? ⟨w.heap.size, 0, none⟩ = some (.int .i64 n) := by rw [hS1.cell]; rfl
        have s1_1 : w1.cell? ⟨w.heap.size, 1, none⟩ = some (.slice A L c) := by rw [hS1.cell]; rfl
        have sl_1 := hS1.lt
        clear b1
        obtain ⟨v, hrr⟩ : ∃ r', r' = (tg xs i) := ⟨_, rfl⟩
        rw [← hrr]
        have HV := Lib.hid hrr
        clear hrr
        by_cases he : v = (i : Int)
        · skip
          go_wp2_with fail
          with_reducible refine (implTimes_any n A L c xs (i : Int) 0 i 0 (i * n) _ (Hr.out.keep hW1) Hn.out hb rfl rfl (by omega) h1).mono ?_
          rintro e w2 ⟨rfl, b2⟩
          have hW2 := hW1.trans (b2.mono hW1.size)
          have hS2 := hS1.below b2 hS1.lt
          have s0_2 : w2.cell? ⟨w.heap.size, 0, none⟩ = some (.int .i64 n) := by rw [hS2.cell]; rfl
          have s1_2 : w2.cell? ⟨w.heap.size, 1, none⟩ = some (.slice A L c) := by rw [hS2.cell]; rfl
          have sl_2 := hS2.lt
          clear b2
          obtain ⟨u, hrr⟩ : ∃ r', r' = (tg xs (i * n)) := ⟨_, rfl⟩
          rw [← hrr]
          have HU := Lib.hid hrr
          clear hrr
          by_cases hf : u = (i : Int)
          · have hu : unitOk xs n i = true := by rw [unitOk, ← HV.out, ← HU.out, decide_eq_true he, decide_eq_true hf]; rfl
            have Hu := Lib.hid hu
            clear hu
            go_wp2_with fail
            go_loopw [49] (fun k wr => ∃ (q : Nat), q ≤ n ∧ k = .int .i64 q ∧ Hid ((List.range q).all (rowOk xs n i) = true) ∧ Bk wr w.heap.size 26 #[.int .i64 n, .slice A L c] ∧ Below w.heap.size w wr) (fun k _ => n - (intOf k).toNat)
            case atStart => exact ⟨0, Nat.zero_le _, rfl, by simp [Hid], hS2, hW2⟩
            case round =>
              clear hS0 hW0 hS1 hW1 hS2 hW2 s0_0 s1_0 sl_0 s0_1 s1_1 sl_1 s0_2 s1_2 sl_2 he hf
              obtain ⟨k, hk, rfl, HB, hS0, hW0⟩ := hrel
              have s0_0 : wr.cell? ⟨w.heap.size, 0, none⟩ = some (.int .i64 n) := by rw [hS0.cell]; rfl
              have s1_0 : wr.cell? ⟨w.heap.size, 1, none⟩ = some (.slice A L c) := by rw [hS0.cell]; rfl
              have sl_0 := hS0.lt
              by_cases hltk : k < n
              · go_wp2_with fail
                go_loopw [54] (fun j wr => ∃ (q : Nat), q ≤ n ∧ j = .int .i64 q ∧ Hid ((List.range q).all (assocOk xs n i k) = true) ∧ Bk wr w.heap.size 26 #[.int .i64 n, .slice A L c] ∧ Below w.heap.size w wr) (fun j _ => n - (intOf j).toNat)
                case atStart => exact ⟨0, Nat.zero_le _, rfl, by simp [Hid], hS0, hW0⟩
                case round =>
                  clear hS0 hW0 s0_0 s1_0 sl_0
                  obtain ⟨j, hj, rfl, HC, hS0, hW0⟩ := hrel
                  have s0_0 : wr.cell? ⟨w.heap.size, 0, none⟩ = some (.int .i64 n) := by rw [hS0.cell]; rfl
                  have s1_0 : wr.cell? ⟨w.heap.size, 1, none⟩ = some (.slice A L c) := by rw [hS0.cell]; rfl
                  have sl_0 := hS0.lt
                  by_cases hltj : j < n
                  · obtain ⟨l1, e1, m1⟩ := HT.out i k hlt hltk
                    obtain ⟨l2, e2, m2⟩ := HT.out k j hltk hltj
                    obtain ⟨a, ha⟩ : ∃ a, a = ti xs (i * n + k) := ⟨_, rfl⟩
                    obtain ⟨b, hb2⟩ : ∃ b, b = ti xs (k * n + j) := ⟨_, rfl⟩
                    rw [← ha] at e1 m1
                    rw [← hb2] at e2 m2
                    obtain ⟨l3, -, -⟩ := HT.out a j m1 hltj
                    obtain ⟨l4, -, -⟩ := HT.out i b hlt m2
                    obtain ⟨v, e3⟩ : ∃ v, tg xs (a * n + j) = v := ⟨_, rfl⟩
                    obtain ⟨u, e4⟩ : ∃ u, tg xs (i * n + b) = u := ⟨_, rfl⟩
                    have hA_ : assocOk xs n i k j = decide (v = u) := by rw [assocOk, ← ha, ← hb2, e3, e4]
                    have eR : ∀ W, Below wr.drew.heap.size wr.drew W → Rd W A (ints xs) := fun W h => (Hr.out.keep hW0).keep (w := wr.drew) h
                    have eB : ∀ W, Below wr.drew.heap.size wr.drew W → Bk W w.heap.size 26 #[.int .i64 n, .slice A L c] := fun W h => hS0.drew.below h sl_0
                    have eS : ∀ W, Below wr.drew.heap.size wr.drew W → W.cell? ⟨w.heap.size, 0, none⟩ = some (.int .i64 n) ∧ W.cell? ⟨w.heap.size, 1, none⟩ = some (.slice A L c) := fun W h => ⟨by rw [(eB W h).cell]; rfl, by rw [(eB W h).cell]; rfl⟩
                    have zS := eS _ (Below.refl _ _)
                    have Ha := Lib.hid ha
                    clear ha
                    have Hb2 := Lib.hid hb2
                    clear hb2
                    have E1 := Lib.hid e1
                    clear e1
                    have E2 := Lib.hid e2
                    clear e2
                    have E3 := Lib.hid e3
                    clear e3
                    have E4 := Lib.hid e4
                    clear e4
                    have HA_ := Lib.hid hA_
                    clear hA_
                    have ER := Lib.hid eR
                    clear eR
                    have EB := Lib.hid eB
                    clear eB
                    have ES := Lib.hid eS
                    clear eS
                    have ZS := Lib.hid zS
                    clear zS
                    have HS0 := Lib.hid hS0
                    clear hS0
                    clear s0_0 s1_0
                    by_cases he : v = u
                    · have hA2 : assocOk xs n i k j = true := by rw [HA_.out, decide_eq_true he]
                      have HA2 := Lib.hid hA2
                      clear hA2
                      have hne : (v != u) = false := by simp [he]
                      clear he
                      go_wp2_with fail
                      go_region_held3 (fun W => W.cell? ⟨w.heap.size, 0, none⟩ = some (.int .i64 n) ∧ W.cell? ⟨w.heap.size, 1, none⟩ = some (.slice A L c)) (first | exact ZS.out | assumption) ((first | ((with_reducible refine (implTimes_any n A L c xs (i : Int) (k : Int) i k (i * n + k) _ (ER.out _ (Below.refl _ _)) Hn.out hb rfl rfl rfl l1).mono ?_); rintro e y1 ⟨rfl, hV1⟩; rw [E1.out]; have hU1 := hV1; have hS1 := ES.out _ hU1) | ((with_reducible refine (implTimes_any n A L c xs (a : Int) (j : Int) a j (a * n + j) _ (ER.out _ hU1) Hn.out hb rfl rfl rfl l3).mono ?_); rintro e y2 ⟨rfl, hV2⟩; rw [E3.out]; have hU2 := hU1.trans (hV2.mono hU1.size); have hS2 := ES.out _ hU2) | ((with_reducible refine (implTimes_any n A L c xs (k : Int) (j : Int) k j (k * n + j) _ (ER.out _ hU2) Hn.out hb rfl rfl rfl l2).mono ?_); rintro e y3 ⟨rfl, hV3⟩; rw [E2.out]; have hU3 := hU2.trans (hV3.mono hU2.size); have hS3 := ES.out _ hU3) | ((with_reducible refine (implTimes_any n A L c xs (i : Int) (b : Int) i b (i * n + b) _ (ER.out _ hU3) Hn.out hb rfl rfl rfl l4).mono ?_); rintro e y4 ⟨rfl, hV4⟩; rw [E4.out]; have hU4 := hU3.trans (hV4.mono hU3.size); have hS4 := ES.out _ hU4)))
                      have hW4 := hW0.drew.trans (hU4.mono hW0.size)
                      have hB4 := EB.out _ hU4
                      clear hU1 hU2 hU3 hU4 hV1 hV2 hV3 hV4 ES ZS EB ER
                      go_wp2_with fail
                      go_roundw
                      case rel => exact ⟨j + 1, by omega, by go_num, range_all_succ _ _ HC.out HA2.out, hB4, hW4⟩
                      case measure => simp [intOf]; omega
                    · have hA2 : assocOk xs n i k j = false := by rw [HA_.out, decide_eq_false he]
                      have HA2 := Lib.hid hA2
                      clear hA2
                      have hne : (v != u) = true := by simp [he]
                      go_wp2_with fail
                      go_region_held3 (fun W => W.cell? ⟨w.heap.size, 0, none⟩ = some (.int .i64 n) ∧ W.cell? ⟨w.heap.size, 1, none⟩ = some (.slice A L c)) (first | exact ZS.out | assumption) ((first | ((with_reducible refine (implTimes_any n A L c xs (i : Int) (k : Int) i k (i * n + k) _ (ER.out _ (Below.refl _ _)) Hn.out hb rfl rfl rfl l1).mono ?_); rintro e y1 ⟨rfl, hV1⟩; rw [E1.out]; have hU1 := hV1; have hS1 := ES.out _ hU1) | ((with_reducible refine (implTimes_any n A L c xs (a : Int) (j : Int) a j (a * n + j) _ (ER.out _ hU1) Hn.out hb rfl rfl rfl l3).mono ?_); rintro e y2 ⟨rfl, hV2⟩; rw [E3.out]; have hU2 := hU1.trans (hV2.mono hU1.size); have hS2 := ES.out _ hU2) | ((with_reducible refine (implTimes_any n A L c xs (k : Int) (j : Int) k j (k * n + j) _ (ER.out _ hU2) Hn.out hb rfl rfl rfl l2).mono ?_); rintro e y3 ⟨rfl, hV3⟩; rw [E2.out]; have hU3 := hU2.trans (hV3.mono hU2.size); have hS3 := ES.out _ hU3) | ((with_reducible refine (implTimes_any n A L c xs (i : Int) (b : Int) i b (i * n + b) _ (ER.out _ hU3) Hn.out hb rfl rfl rfl l4).mono ?_); rintro e y4 ⟨rfl, hV4⟩; rw [E4.out]; have hU4 := hU3.trans (hV4.mono hU3.size); have hS4 := ES.out _ hU4)))
                      have hW4 := hW0.drew.trans (hU4.mono hW0.size)
                      clear hU1 hU2 hU3 hU4 hV1 hV2 hV3 hV4 ES ZS EB ER
                      go_wp2_with fail
                      go_ret
                      refine ⟨ret_bool ?_, hW4⟩
                      rw [tableOk, Int.toNat_natCast, range_all_miss _ n i hlt (by rw [eltOk, colOk, range_all_miss _ n k hltk (by rw [rowOk, range_all_miss _ n j hltj HA2.out]), Bool.and_false]), Bool.and_false]
                  · have : j = n := by omega
                    subst this
                    have hR : rowOk xs j i k = true := HC.out
                    have HR := Lib.hid hR
                    clear hR
                    go_wp2_with fail
                    go_roundw
                    case rel => exact ⟨k + 1, by omega, by go_num, range_all_succ _ _ HB.out HR.out, hS0, hW0⟩
                    case measure => simp [intOf]; omega
              · have : k = n := by omega
                subst this
                have hE : eltOk xs k i = true := by rw [eltOk, Hu.out, colOk, HB.out]; rfl
                have HE := Lib.hid hE
                clear hE
                go_wp2_with fail
                go_roundw
                case rel => exact ⟨i + 1, by omega, by go_num, range_all_succ _ _ HA.out HE.out, hS0, hW0⟩
                case measure => simp [intOf]; omega
          · go_wp2_with fail
            go_ret
            exact ⟨ret_bool (by rw [tableOk, Int.toNat_natCast, range_all_miss _ n i hlt (by rw [eltOk, unitOk, ← HU.out, decide_eq_false hf]; simp), Bool.and_false]), hW2⟩
        · go_wp2_with fail
          go_ret
          exact ⟨ret_bool (by rw [tableOk, Int.toNat_natCast, range_all_miss _ n i hlt (by rw [eltOk, unitOk, ← HV.out, decide_eq_false he]; simp), Bool.and_false]), hW1⟩
      · have : i = n := by omega
        subst this
        go_wp2_with fail
        go_ret
        exact ⟨ret_bool (by rw [tableOk, Int.toNat_natCast, HA.out, ← H1.out, ← H2.out, decide_eq_true (by rw [← Hn.out, ← sq_cast]; exact congrArg _ Hl.out)]; rfl), hW0⟩
  · have hd : ((L : Int) != (n : Int) * (n : Int)) = true := by rw [← sq_cast]; simp; omega
    go_wp2_with fail
    go_ret
    exact ⟨ret_bool (by rw [tableOk, decide_eq_false (by rw [← Hn.out, ← sq_cast]; omega)]; simp), hW0⟩

set_option maxRecDepth 100000 in
set_option maxHeartbeats 1000000 in
theorem specTableOk_any (s : Int) (A : Option Addr) (L c : Nat) (xs : List Int) (w : World) (hr : Rd w A (ints xs)) (hn : L = xs.length) (hb : L ≤ 1048576) :
    Calls Try.prog 60 #[.agg #[.int .i64 s, .slice A L c]] w (Kept w (.bool (tableOk s xs))) := by
  have hW0 : Below w.heap.size w (w.alloc (.cells #[.int .i64 s, .slice A L c] 26)) := (Below.refl _ _).alloc (Nat.le_refl _) _
  have Hn := Lib.hid hn
  clear hn
  go_enter Try.func60, Try.ntmps60
  go_wp2_with fail
  refine (l01In_any s 1 40 _).mono ?_
  rintro e w' ⟨rfl, rfl⟩
  obtain ⟨r1, hrr⟩ : ∃ r', r' = (inB s 1 40) := ⟨_, rfl⟩
  rw [← hrr]
  have H1 := Lib.hid hrr
  clear hrr
  cases r1
  · go_wp2_with fail
    go_ret
    exact ⟨ret_bool (by rw [tableOk, ← H1.out]; rfl), hW0⟩
  obtain ⟨hs1, hs2⟩ := inB_out H1.out
  obtain ⟨n, rfl⟩ := Int.eq_ofNat_of_zero_le (show 0 ≤ s by omega)
  have hm1 := i64_mul n n (by have : n * n ≤ 40 * 40 := Nat.mul_le_mul (by omega) (by omega); omega)
  by_cases hl : L = n * n
  · have hd : ((L : Int) != (n : Int) * (n : Int)) = false := by rw [hl, sq_cast]; simp
    have hpos : 0 < L := by have : 1 * 1 ≤ n * n := Nat.mul_le_mul (by omega) (by omega); omega
    obtain ⟨B, o, rfl, hbl, hc⟩ := rd_tab (hr.keep hW0) (by have := Hn.out; omega)
    obtain ⟨w0, hw0⟩ : ∃ w0, w0 = w.alloc (.cells #[.int .i64 (n : Int), .slice (some ⟨B, o, none⟩) L c] 26) := ⟨_, rfl⟩
    have s0_0 : w0.cell? ⟨w.heap.size, 0, none⟩ = some (.int .i64 n) := by rw [hw0]; exact (Bk.new w 26 #[.int .i64 (n : Int), .slice (some ⟨B, o, none⟩) L c]).cell 0
    have s1_0 : w0.cell? ⟨w.heap.size, 1, none⟩ = some (.slice (some ⟨B, o, none⟩) L c) := by rw [hw0]; exact (Bk.new w 26 #[.int .i64 (n : Int), .slice (some ⟨B, o, none⟩) L c]).cell 1
    have sl_0 : w.heap.size < w0.heap.size := by rw [hw0]; simp
    rw [← hw0] at hW0 hc hbl
    clear hr
    have Hl := Lib.hid hl
    clear hl
    have Hw0 := Lib.hid hw0
    clear hw0
    have Hc := Lib.hid hc
    clear hc
    go_wp2_with fail
    rw [← Hw0.out]
    go_loop [26] (fun i => ∃ (j : Nat), j ≤ L ∧ i = .int .i64 j ∧ Hid ((xs.take j).all (fun x => inB x 0 ((n : Int) - 1)) = true)) (fun i => L - (intOf i).toNat)
    case atStart => exact ⟨0, Nat.zero_le _, rfl, by simp [Hid]⟩
    case round =>
      obtain ⟨j, hj, rfl, HA⟩ := hrel
      by_cases hlt : j < L
      · have hlt2 : j < xs.length := by rw [← Hn.out]; exact hlt
        have c1 := Hc.out j hlt2
        obtain ⟨v, hv⟩ : ∃ v, v = tg xs j := ⟨_, rfl⟩
        rw [← hv] at c1
        have hv2 : v = xs.getD j 0 := hv
        have Hv := Lib.hid hv
        clear hv
        have Hv2 := Lib.hid hv2
        clear hv2
        go_wp2_with fail
        refine (l01In_any v 0 ((n : Int) - 1) _).mono ?_
        rintro e w1 ⟨rfl, rfl⟩
        obtain ⟨r, hrr⟩ : ∃ r', r' = (inB v 0 ((n : Int) - 1)) := ⟨_, rfl⟩
        rw [← hrr]
        have HR := Lib.hid hrr
        clear hrr
        cases r
        · go_wp2_with fail
          go_ret
          refine ⟨ret_bool ?_, hW0⟩
          rw [tableOk, all_miss hlt2 Hv2.out HR.out.symm, Bool.and_false, Bool.false_and]
        · go_wp2_with fail
          go_round
          case rel => exact ⟨j + 1, by omega, by go_num, all_snoc hlt2 HA.out Hv2.out HR.out.symm⟩
          case measure => simp [intOf]; omega
      · have : j = L := by omega
        subst this
        have hall : xs.all (fun x => inB x 0 ((n : Int) - 1)) = true := by have := HA.out; rwa [List.take_of_length_le (by have := Hn.out; omega)] at this
        have hT : ∀ i k, i < n → k < n → i * n + k < j ∧ tg xs (i * n + k) = (ti xs (i * n + k) : Int) ∧ ti xs (i * n + k) < n := fun i k hi hk => by
          have h1 := lin_lt hi hk
          have h2 : i * n + k < j := by rw [Hl.out]; exact h1
          exact ⟨h2, tab_in hall (by rw [← Hn.out]; exact h2)⟩
        have hCw : ∀ wr, Below w0.heap.size w0 wr → (∀ p, p < j → wr.cell? ⟨B, o + p, none⟩ = some (.int .i64 (tg xs p))) ∧ wr.cell? ⟨w.heap.size, 0, none⟩ = some (.int .i64 n) ∧ wr.cell? ⟨w.heap.size, 1, none⟩ = some (.slice (some ⟨B, o, none⟩) j c) ∧ w.heap.size < wr.heap.size ∧ B < wr.heap.size := fun wr h =>
          ⟨fun p hp => (h.cell (p := ⟨B, o + p, none⟩) hbl).trans (Hc.out p (by have := Hn.out; omega)), (h.cell (p := ⟨w.heap.size, 0, none⟩) sl_0).trans s0_0, (h.cell (p := ⟨w.heap.size, 1, none⟩) sl_0).trans s1_0, Nat.lt_of_lt_of_le sl_0 h.size, Nat.lt_of_lt_of_le hbl h.size⟩
        have HT := Lib.hid hT
        clear hT
        have Hall := Lib.hid hall
        clear hall
        have HCw := Lib.hid hCw
        clear hCw
        go_wp2_with fail
        go_loopw [6] (fun i wr => ∃ (q : Nat), q ≤ n ∧ i = .int .i64 q ∧ Hid ((List.range q).all (eltOk xs n) = true) ∧ Below w0.heap.size w0 wr) (fun i _ => n - (intOf i).toNat)
        case atStart => exact ⟨0, Nat.zero_le _, rfl, by simp [Hid], Below.refl _ _⟩
        case round =>
          clear s0_0 s1_0
          obtain ⟨i, hi, rfl, HB, hV⟩ := hrel
          obtain ⟨hc, s0, s1, sl, bl⟩ := HCw.out wr hV
          by_cases hlt : i < n
          · have h0 := HT.out 0 i (by omega) hlt
            have h1 := HT.out i 0 hlt (by omega)
            rw [Nat.zero_mul, Nat.zero_add] at h0
            rw [Nat.add_zero] at h1
            obtain ⟨h0, -, -⟩ := h0
            obtain ⟨h1, -, -⟩ := h1
            obtain ⟨g1, -, g3, g4, g5⟩ := lin_facts i 0 n j (by omega) hb
            simp only [Int.natCast_zero, Int.add_zero, Nat.add_zero] at g3 g4 g5
            have c1 := hc i h0
            have c2 := hc (i * n) h1
            obtain ⟨v, hv⟩ : ∃ v, v = tg xs i := ⟨_, rfl⟩
            obtain ⟨u, hu⟩ : ∃ u, u = tg xs (i * n) := ⟨_, rfl⟩
            rw [← hv] at c1
            rw [← hu] at c2
            have Hv := Lib.hid hv
            clear hv
            have Hu := Lib.hid hu
            clear hu
            have Hc := Lib.hid hc
            clear hc
            clear hm1 hd
            by_cases he : v = (i : Int)
            · by_cases hf : u = (i : Int)
              · have hUn : unitOk xs n i = true := by rw [unitOk, ← Hv.out, ← Hu.out, decide_eq_true he, decide_eq_true hf]; rfl
                have hn1 : (v != (i : Int)) = false := by simp [he]
                have hn2 : (u != (i : Int)) = false := by simp [hf]
                have HUn := Lib.hid hUn
                clear hUn
                clear he hf
                go_wp2_with fail
                go_loopw [7] (fun k wr => ∃ (q : Nat), q ≤ n ∧ k = .int .i64 q ∧ Hid ((List.range q).all (rowOk xs n i) = true) ∧ Below w0.heap.size w0 wr) (fun k _ => n - (intOf k).toNat)
                case atStart => exact ⟨0, Nat.zero_le _, rfl, by simp [Hid], by first | exact hV | exact hV.drew | exact hV.drew.drew⟩
                case round =>
                  clear hV s0 s1 sl bl hn1 hn2 c1 c2 g1 g3 g4 g5 Hc
                  obtain ⟨k, hk, rfl, HK, hV⟩ := hrel
                  by_cases hltk : k < n
                  · go_wp2_with fail
                    go_loopw [8] (fun m wr => ∃ (q : Nat), q ≤ n ∧ m = .int .i64 q ∧ Hid ((List.range q).all (assocOk xs n i k) = true) ∧ Below w0.heap.size w0 wr) (fun m _ => n - (intOf m).toNat)
                    case atStart => exact ⟨0, Nat.zero_le _, rfl, by simp [Hid], hV⟩
                    case round =>
                      clear hV
                      obtain ⟨m, hm, rfl, HM, hV⟩ := hrel
                      obtain ⟨hc, s0, s1, sl, bl⟩ := HCw.out _ hV
                      by_cases hltm : m < n
                      · obtain ⟨l1, e1, m1⟩ := HT.out i k hlt hltk
                        obtain ⟨l2, e2, m2⟩ := HT.out k m hltk hltm
                        have d1 := hc (i * n + k) l1
                        have d2 := hc (k * n + m) l2
                        rw [e1] at d1
                        rw [e2] at d2
                        obtain ⟨a, ha⟩ : ∃ a, a = ti xs (i * n + k) := ⟨_, rfl⟩
                        obtain ⟨b, hb2⟩ : ∃ b, b = ti xs (k * n + m) := ⟨_, rfl⟩
                        rw [← ha] at d1 m1
                        rw [← hb2] at d2 m2
                        obtain ⟨l3, -, -⟩ := HT.out a m m1 hltm
                        obtain ⟨l4, -, -⟩ := HT.out i b hlt m2
                        have d3 := hc (a * n + m) l3
                        have d4 := hc (i * n + b) l4
                        obtain ⟨v, e3⟩ : ∃ v, tg xs (a * n + m) = v := ⟨_, rfl⟩
                        obtain ⟨u, e4⟩ : ∃ u, tg xs (i * n + b) = u := ⟨_, rfl⟩
                        have hA_ : assocOk xs n i k m = decide (v = u) := by rw [assocOk, ← ha, ← hb2, e3, e4]
                        rw [e3] at d3
                        rw [e4] at d4
                        obtain ⟨q1, q2, q3, q4, q5⟩ := lin_facts i k n j l1 hb
                        obtain ⟨p1, p2, p3, p4, p5⟩ := lin_facts k m n j l2 hb
                        obtain ⟨f1, f2, f3, f4, f5⟩ := lin_facts a m n j l3 hb
                        obtain ⟨-, g2, g3, g4, g5⟩ := lin_facts i b n j l4 hb
                        clear e1 e2 l1 l2 l3 l4
                        have Ha := Lib.hid ha
                        clear ha
                        have Hb2 := Lib.hid hb2
                        clear hb2
                        have E3 := Lib.hid e3
                        clear e3
                        have E4 := Lib.hid e4
                        clear e4
                        have HA_ := Lib.hid hA_
                        clear hA_
                        have Hc := Lib.hid hc
                        clear hc
                        have zS : (fun W => W.cell? ⟨w.heap.size, 0, none⟩ = some (.int .i64 n) ∧ W.cell? ⟨w.heap.size, 1, none⟩ = some (.slice (some ⟨B, o, none⟩) j c) ∧ W.cell? ⟨B, o + (i * n + k), none⟩ = some (.int .i64 a) ∧ W.cell? ⟨B, o + (k * n + m), none⟩ = some (.int .i64 b) ∧ W.cell? ⟨B, o + (a * n + m), none⟩ = some (.int .i64 v) ∧ W.cell? ⟨B, o + (i * n + b), none⟩ = some (.int .i64 u)) wr.drew := ⟨s0, s1, d1, d2, d3, d4⟩
                        have ZS := Lib.hid zS
                        clear zS
                        by_cases he : v = u
                        · have hA2 : assocOk xs n i k m = true := by rw [HA_.out, decide_eq_true he]
                          have hne : (v != u) = false := by simp [he]
                          have HA2 := Lib.hid hA2
                          clear hA2
                          clear he
                          go_wp2_with fail
                          go_region_held3 (fun W => W.cell? ⟨w.heap.size, 0, none⟩ = some (.int .i64 n) ∧ W.cell? ⟨w.heap.size, 1, none⟩ = some (.slice (some ⟨B, o, none⟩) j c) ∧ W.cell? ⟨B, o + (i * n + k), none⟩ = some (.int .i64 a) ∧ W.cell? ⟨B, o + (k * n + m), none⟩ = some (.int .i64 b) ∧ W.cell? ⟨B, o + (a * n + m), none⟩ = some (.int .i64 v) ∧ W.cell? ⟨B, o + (i * n + b), none⟩ = some (.int .i64 u)) (first | exact ZS.out | assumption) (fail)
                          go_wp2_with fail
                          go_roundw
                          case rel => exact ⟨m + 1, by omega, by go_num, range_all_succ _ _ HM.out HA2.out, by first | exact hV | exact hV.drew | exact hV.drew.drew⟩
                          case measure => simp [intOf]; omega
                        · have hA2 : assocOk xs n i k m = false := by rw [HA_.out, decide_eq_false he]
                          have hne : (v != u) = true := by simp [he]
                          have HA2 := Lib.hid hA2
                          clear hA2
                          clear he
                          go_wp2_with fail
                          go_region_held3 (fun W => W.cell? ⟨w.heap.size, 0, none⟩ = some (.int .i64 n) ∧ W.cell? ⟨w.heap.size, 1, none⟩ = some (.slice (some ⟨B, o, none⟩) j c) ∧ W.cell? ⟨B, o + (i * n + k), none⟩ = some (.int .i64 a) ∧ W.cell? ⟨B, o + (k * n + m), none⟩ = some (.int .i64 b) ∧ W.cell? ⟨B, o + (a * n + m), none⟩ = some (.int .i64 v) ∧ W.cell? ⟨B, o + (i * n + b), none⟩ = some (.int .i64 u)) (first | exact ZS.out | assumption) (fail)
                          go_wp2_with fail
                          go_ret
                          refine ⟨ret_bool ?_, hW0.trans ((by first | exact hV | exact hV.drew | exact hV.drew.drew : Below w0.heap.size w0 _).mono hW0.size)⟩
                          rw [tableOk, Int.toNat_natCast, range_all_miss _ n i hlt (by rw [eltOk, colOk, range_all_miss _ n k hltk (by rw [rowOk, range_all_miss _ n m hltm HA2.out]), Bool.and_false]), Bool.and_false]
                      · have : m = n := by omega
                        subst this
                        have hR : rowOk xs m i k = true := HM.out
                        have HR := Lib.hid hR
                        clear hR
                        clear hc
                        go_wp2_with fail
                        go_roundw
                        case rel => exact ⟨k + 1, by omega, by go_num, range_all_succ _ _ HK.out HR.out, hV⟩
                        case measure => simp [intOf]; omega
                  · have : k = n := by omega
                    subst this
                    have hE : eltOk xs k i = true := by rw [eltOk, HUn.out, colOk, HK.out]; rfl
                    have HE := Lib.hid hE
                    clear hE
                    go_wp2_with fail
                    go_roundw
                    case rel => exact ⟨i + 1, by omega, by go_num, range_all_succ _ _ HB.out HE.out, hV⟩
                    case measure => simp [intOf]; omega
              · have hE : eltOk xs n i = false := by rw [eltOk, unitOk, ← Hu.out, decide_eq_false hf]; simp
                have hn1 : (v != (i : Int)) = false := by simp [he]
                have hn2 : (u != (i : Int)) = true := by simp [hf]
                have HE := Lib.hid hE
                clear hE
                clear he hf
                go_wp2_with fail
                go_ret
                exact ⟨ret_bool (by rw [tableOk, Int.toNat_natCast, range_all_miss _ n i hlt HE.out, Bool.and_false]), hW0.trans ((by assumption : Below w0.heap.size w0 _).mono hW0.size)⟩
            · have hE : eltOk xs n i = false := by rw [eltOk, unitOk, ← Hv.out, decide_eq_false he]; simp
              have hn1 : (v != (i : Int)) = true := by simp [he]
              have HE := Lib.hid hE
              clear hE
              clear he
              go_wp2_with fail
              go_ret
              exact ⟨ret_bool (by rw [tableOk, Int.toNat_natCast, range_all_miss _ n i hlt HE.out, Bool.and_false]), hW0.trans ((by assumption : Below w0.heap.size w0 _).mono hW0.size)⟩
          · have : i = n := by omega
            subst this
            go_wp2_with fail
            go_ret
            exact ⟨ret_bool (by rw [tableOk, Int.toNat_natCast, HB.out, ← H1.out, Hall.out, decide_eq_true (by rw [← Hn.out, ← sq_cast]; exact congrArg _ Hl.out)]; rfl), hW0.trans (hV.mono hW0.size)⟩
  · have hd : ((L : Int) != (n : Int) * (n : Int)) = true := by rw [← sq_cast]; simp; omega
    go_wp2_with fail
    go_ret
    exact ⟨ret_bool (by rw [tableOk, decide_eq_false (by rw [← Hn.out, ← sq_cast]; omega)]; simp), hW0⟩

end Go.Proofs.Ytgnmfneinnojnaa
