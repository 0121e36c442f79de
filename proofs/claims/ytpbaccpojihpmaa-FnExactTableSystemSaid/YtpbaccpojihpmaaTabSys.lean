/- Walks over TableSystem (the program's and the reference's): both hand back the same system. -/
import Derived.Test.YtpbaccpojihpmaaTabOk
import Derived.Test.YtpbaccpojihpmaaSysK
import Derived.Test.YtpbaccpojihpmaaApp3
namespace Go.Proofs.Ytpbaccpojihpmaa
open Go.RowKit Go.Shelf Go.PlainAid

/-- The first i rows of a square of n columns. -/
def rgAcc (f : Nat → Nat → RuleT) (n i : Nat) : List RuleT := (List.range i).flatMap fun q => (List.range n).map (f q)
def rgTo (f : Nat → Nat → RuleT) (n i k : Nat) : List RuleT := rgAcc f n i ++ (List.range k).map (f i)
theorem rgTo_zero (f : Nat → Nat → RuleT) (n i : Nat) : rgTo f n i 0 = rgAcc f n i := by simp [rgTo]
theorem rgTo_succ (f : Nat → Nat → RuleT) (n i k : Nat) : rgTo f n i (k + 1) = rgTo f n i k ++ [f i k] := by rw [rgTo, rgTo, List.range_succ, List.map_append, List.append_assoc]; rfl
theorem rgAcc_succ (f : Nat → Nat → RuleT) (n i : Nat) : rgAcc f n (i + 1) = rgTo f n i n := by rw [rgAcc, List.range_succ, List.flatMap_append, rgTo]; simp [rgAcc]
theorem rgAcc_len (f : Nat → Nat → RuleT) (n i : Nat) : (rgAcc f n i).length = i * n := by
  induction i with
  | zero => simp [rgAcc]
  | succ i ih => rw [rgAcc_succ, rgTo, List.length_append, ih]; simp [Nat.succ_mul]
theorem rgTo_len (f : Nat → Nat → RuleT) (n i k : Nat) : (rgTo f n i k).length = i * n + k := by rw [rgTo, List.length_append, rgAcc_len]; simp
/-- The right side of a product. -/
def tsX (x : Int) : ByteArray := if 0 < x then letter (x - 1) else ⟨#[]⟩
def tsF (n : Nat) (xs : List Int) (q r : Nat) : RuleT := (letter (q : Int) ++ letter (r : Int), tsX (tg xs ((q + 1) * n + (r + 1))))
def tsOk (s : Int) (xs : List Int) : Bool := tableOk s xs && inB s 2 4
def tsL (s : Int) (xs : List Int) : Int := if tsOk s xs then s - 1 else 0
/-- The rules of a table. -/
def tss (s : Int) (xs : List Int) : List RuleT := if tsOk s xs then rgAcc (tsF s.toNat xs) (s.toNat - 1) (s.toNat - 1) else []
theorem tableOk_out' {s : Int} {xs : List Int} (h : tableOk s xs = true) : (xs.length : Int) = s * s ∧ xs.all (fun x => inB x 0 (s - 1)) = true := by
  unfold tableOk at h
  simp only [Bool.and_eq_true, decide_eq_true_eq] at h
  exact ⟨h.1.1.2, h.1.2⟩
theorem tss_len (s : Int) (xs : List Int) : (tss s xs).length ≤ 1048576 := by
  unfold tss
  split
  · next h =>
    unfold tsOk at h
    rw [Bool.and_eq_true] at h
    have := inB_out h.2.symm
    rw [rgAcc_len]
    have : (s.toNat - 1) * (s.toNat - 1) ≤ 3 * 3 := Nat.mul_le_mul (by omega) (by omega)
    omega
  · simp

set_option maxRecDepth 100000 in
set_option maxHeartbeats 4000000 in
theorem specTableSystem_any (s : Int) (A : Option Addr) (L c : Nat) (xs : List Int) (w : World) (hr : Rd w A (ints xs)) (hn : L = xs.length) (hb : L ≤ 1048576) :
    Calls Try.prog 48 #[.agg #[.int .i64 s, .slice A L c]] w (MadeSys w (tsL s xs) (tss s xs).length (tss s xs) (tsOk s xs)) := by
  have hW0 : Below w.heap.size w ((w.alloc (.cells #[.int .i64 s, .slice A L c] 34)).alloc (.cells #[.int .i64 0, .slice none 0 0] 60)) := ((Below.refl _ _).alloc (Nat.le_refl _) _).alloc (by simp) _
  have hT0 : Bk ((w.alloc (.cells #[.int .i64 s, .slice A L c] 34)).alloc (.cells #[.int .i64 0, .slice none 0 0] 60)) w.heap.size 34 #[.int .i64 s, .slice A L c] := (Bk.new w _ _).alloc _
  have hR0 : Bk ((w.alloc (.cells #[.int .i64 s, .slice A L c] 34)).alloc (.cells #[.int .i64 0, .slice none 0 0] 60)) (w.heap.size + 1) 60 #[.int .i64 0, .slice none 0 0] := (Bk.new (w.alloc (.cells #[.int .i64 s, .slice A L c] 34)) 60 #[.int .i64 0, .slice none 0 0]).cast (by simp)
  have Hr := Lib.hid hr
  clear hr
  have Hn := Lib.hid hn
  clear hn
  go_enter Try.func48, Try.ntmps48
  go_wp2_with fail
  refine (specTableOk_any s A L c xs _ (Hr.out.keep hW0) Hn.out hb).mono ?_
  rintro e w1 ⟨rfl, b1⟩
  have hT1 := hT0.below b1 hT0.lt
  have hR1 := hR0.below b1 hR0.lt
  have hW1 := hW0.trans (b1.mono hW0.size)
  have t0 : w1.cell? ⟨w.heap.size, 0, none⟩ = some (.int .i64 s) := by rw [hT1.cell]; rfl
  have q0 : w1.cell? ⟨w.heap.size + 1, 0, none⟩ = some (.int .i64 0) := by rw [hR1.cell]; rfl
  have q1 : w1.cell? ⟨w.heap.size + 1, 1, none⟩ = some (.slice none 0 0) := by rw [hR1.cell]; rfl
  have f0 := hR1.free 0
  have f1 := hR1.free 1
  have tl := hT1.lt
  have rl := hR1.lt
  clear hT0 hR0 hW0 b1
  obtain ⟨r1, hrr⟩ : ∃ r', r' = (tableOk s xs) := ⟨_, rfl⟩
  rw [← hrr]
  have H1 := Lib.hid hrr
  clear hrr
  cases r1
  · have e0 : tsOk s xs = false := by rw [tsOk, ← H1.out]; simp
    have e1 : tsL s xs = 0 := by rw [tsL, e0]; rfl
    have e2 : tss s xs = [] := by rw [tss, e0]; rfl
    have E0 := Lib.hid e0
    clear e0
    have E1 := Lib.hid e1
    clear e1
    have E2 := Lib.hid e2
    clear e2
    go_wp2_with fail
    refine bodyPost_ret (v := .tuple #[.agg #[.int .i64 0, .slice none 0 0], .bool false]) (by simp [results, Try.results48, go_sem, q0, q1]) rfl ?_
    rw [E1.out, E2.out, E0.out]
    refine ⟨none, 0, rfl, World.ownsRow_nil _ _ _ _, ?_⟩
    first | exact hW1 | exact (hW1.setCell (by dsimp only; omega) _).setCell (by dsimp only; omega) _
  go_wp2_with fail
  refine (l01In_any s 2 4 _).mono ?_
  rintro e w2 ⟨rfl, rfl⟩
  obtain ⟨r2, hrr⟩ : ∃ r', r' = (inB s 2 4) := ⟨_, rfl⟩
  rw [← hrr]
  have H2 := Lib.hid hrr
  clear hrr
  cases r2
  · have e0 : tsOk s xs = false := by rw [tsOk, ← H2.out]; simp
    have e1 : tsL s xs = 0 := by rw [tsL, e0]; rfl
    have e2 : tss s xs = [] := by rw [tss, e0]; rfl
    have E0 := Lib.hid e0
    clear e0
    have E1 := Lib.hid e1
    clear e1
    have E2 := Lib.hid e2
    clear e2
    go_wp2_with fail
    refine bodyPost_ret (v := .tuple #[.agg #[.int .i64 0, .slice none 0 0], .bool false]) (by simp [results, Try.results48, go_sem, q0, q1]) rfl ?_
    rw [E1.out, E2.out, E0.out]
    refine ⟨none, 0, rfl, World.ownsRow_nil _ _ _ _, ?_⟩
    first | exact hW1 | exact (hW1.setCell (by dsimp only; omega) _).setCell (by dsimp only; omega) _
  obtain ⟨hs1, hs2⟩ := inB_out H2.out
  obtain ⟨hsl, hxs⟩ := tableOk_out' H1.out.symm
  obtain ⟨n, rfl⟩ := Int.eq_ofNat_of_zero_le (show 0 ≤ s by omega)
  have hnn : L = n * n := by have e := sq_cast n; have := Hn.out; omega
  have e0 : tsOk (n : Int) xs = true := by rw [tsOk, ← H1.out, ← H2.out]; rfl
  have e1 : tsL (n : Int) xs = (n : Int) - 1 := by rw [tsL, e0]; rfl
  have e2 : tss (n : Int) xs = rgAcc (tsF n xs) (n - 1) (n - 1) := by rw [tss, e0, Int.toNat_natCast]; rfl
  have hlin : ∀ i k, i < n - 1 → k < n - 1 → (i + 1) * n + (k + 1) < L ∧ 0 ≤ tg xs ((i + 1) * n + (k + 1)) ∧ tg xs ((i + 1) * n + (k + 1)) ≤ 100 := fun i k hi hk => by
    have h1 : (i + 1) * n + (k + 1) < n * n := lin_lt (by omega) (by omega)
    have h2 : (i + 1) * n + (k + 1) < L := by rw [hnn]; exact h1
    have h3 := tab_in hxs (by rw [← Hn.out]; exact h2)
    exact ⟨h2, by omega, by omega⟩
  have hi9 : ∀ i, i ≤ n - 1 → i * (n - 1) ≤ 9 := fun i hi => Nat.mul_le_mul (by omega : i ≤ 3) (by omega : n - 1 ≤ 3)
  obtain ⟨g, hg⟩ : ∃ g, g = w1.heap.size := ⟨_, rfl⟩
  have hgl : w.heap.size + 2 ≤ g := by omega
  obtain ⟨w2, hw2⟩ : ∃ w2, w2 = w1.alloc (.cells #[.int .i64 ((n : Int) - 1), .slice none 0 0] 60) := ⟨_, rfl⟩
  have hT2 := hT1.alloc (.cells #[.int .i64 ((n : Int) - 1), .slice none 0 0] 60)
  have hR2 := hR1.alloc (.cells #[.int .i64 ((n : Int) - 1), .slice none 0 0] 60)
  have hW2 := hW1.alloc hW1.size (.cells #[.int .i64 ((n : Int) - 1), .slice none 0 0] 60)
  have hO2 := Bk.new w1 60 #[.int .i64 ((n : Int) - 1), .slice none 0 0]
  rw [← hw2] at hT2 hR2 hW2 hO2
  rw [← hg] at hO2
  have Hsl := Lib.hid hsl
  clear hsl
  have Hnn := Lib.hid hnn
  clear hnn
  have Hw2 := Lib.hid hw2
  clear hw2
  have Hg := Lib.hid hg
  clear hg
  have HT2 := Lib.hid hT2
  clear hT2
  have HR2 := Lib.hid hR2
  clear hR2
  have HW2 := Lib.hid hW2
  clear hW2
  have HO2 := Lib.hid hO2
  clear hO2
  have Hlin := Lib.hid hlin
  clear hlin
  have E0 := Lib.hid e0
  clear e0
  have E1 := Lib.hid e1
  clear e1
  have E2 := Lib.hid e2
  clear e2
  have Hxs := Lib.hid hxs
  clear hxs
  have Hi9 := Lib.hid hi9
  clear hi9
  clear hT1 hR1 hW1
  go_wp2_with fail
  rw [← Hg.out, ← Hw2.out]
  clear t0 q0 q1 f0 f1 tl rl
  go_loopw [5] (fun i wr => ∃ (q : Nat) (B : Option Addr) (d m : Nat), q ≤ n - 1 ∧ i = .int .i64 ((q : Int) + 1) ∧ Hid (m = (rgAcc (tsF n xs) (n - 1) q).length) ∧ Bk wr w.heap.size 34 #[.int .i64 n, .slice A L c] ∧ Bk wr (w.heap.size + 1) 60 #[.int .i64 0, .slice none 0 0] ∧ Bk wr g 60 #[.int .i64 ((n : Int) - 1), .slice B m d] ∧ wr.ownsRow (g + 1) 101 2 (.slice B m d) m (cellsRule (rgAcc (tsF n xs) (n - 1) q)) ∧ Below w.heap.size w wr) (fun i _ => n - (intOf i).toNat)
  case atStart => exact ⟨0, none, 0, 0, Nat.zero_le _, by go_num, rfl, HT2.out, HR2.out, HO2.out, World.ownsRow_nil _ _ _ _, HW2.out⟩
  case round =>
    clear HT2 HR2 HO2 HW2 Hw2 Hg
    obtain ⟨i, B, d, m, hi, rfl, HM, hT, hR, hO, hown, hW⟩ := hrel
    have t0 : wr.cell? ⟨w.heap.size, 0, none⟩ = some (.int .i64 n) := by rw [hT.cell]; rfl
    have tl := hT.lt
    by_cases hlt : i < n - 1
    · have hlti : (i : Int) + 1 < (n : Int) := by omega
      have HT := Lib.hid hT
      clear hT
      have HR := Lib.hid hR
      clear hR
      have HO := Lib.hid hO
      clear hO
      have Hown := Lib.hid hown
      clear hown
      have HW := Lib.hid hW
      clear hW
      go_wp2_with fail
      go_loopw [6] (fun k wr => ∃ (q : Nat) (B : Option Addr) (d m : Nat), q ≤ n - 1 ∧ k = .int .i64 ((q : Int) + 1) ∧ Hid (m = (rgTo (tsF n xs) (n - 1) i q).length) ∧ Bk wr w.heap.size 34 #[.int .i64 n, .slice A L c] ∧ Bk wr (w.heap.size + 1) 60 #[.int .i64 0, .slice none 0 0] ∧ Bk wr g 60 #[.int .i64 ((n : Int) - 1), .slice B m d] ∧ wr.ownsRow (g + 1) 101 2 (.slice B m d) m (cellsRule (rgTo (tsF n xs) (n - 1) i q)) ∧ Below w.heap.size w wr) (fun k _ => n - (intOf k).toNat)
      case atStart => exact ⟨0, B, d, m, Nat.zero_le _, by go_num, by unfold Hid; rw [rgTo_zero]; exact HM.out, HT.out, HR.out, HO.out, by rw [rgTo_zero]; exact Hown.out, HW.out⟩
      case round =>
        clear HT HR HO Hown HW HM t0 tl
        obtain ⟨k, B, d, m, hk, rfl, HM, hTy0, hRy0, hSy0, hoy0, hWy0⟩ := hrel
        have t0 : wr.cell? ⟨w.heap.size, 0, none⟩ = some (.int .i64 n) := by rw [hTy0.cell]; rfl
        have tl := hTy0.lt
        by_cases hltk : k < n - 1
        · have hltk2 : (k : Int) + 1 < (n : Int) := by omega
          have hml : m ≤ 12 := by rw [HM.out, rgTo_len]; have := Hi9.out i hi; omega
          have hgl2 := hSy0.lt
          have hsub1 : (i : Int) + 1 - 1 = (i : Int) := by omega
          have hsub2 : (k : Int) + 1 - 1 = (k : Int) := by omega
          go_wp2_with fail
          with_reducible refine (specLetter_any (i : Int) _ (by omega) (by omega)).mono ?_
          rintro e y1 ⟨rfl, b1⟩
          have hTy1 := hTy0.below b1 hTy0.lt
          have hSy1 := hSy0.below b1 hSy0.lt
          have hRy1 := hRy0.below b1 hRy0.lt
          have hoy1 := own_keep hoy0 b1 (Nat.le_refl _)
          have hWy1 := hWy0.trans (b1.mono hWy0.size)
          clear hTy0 hSy0 hRy0 hoy0
          go_wp2_with fail
          with_reducible refine (specLetter_any (k : Int) _ (by omega) (by omega)).mono ?_
          rintro e y2 ⟨rfl, b2⟩
          have hTy2 := hTy1.below b2 hTy1.lt
          have hSy2 := hSy1.below b2 hSy1.lt
          have hRy2 := hRy1.below b2 hRy1.lt
          have hoy2 := own_keep hoy1 b2 (Nat.le_refl _)
          have hWy2 := hWy1.trans (b2.mono hWy1.size)
          clear hTy1 hSy1 hRy1 hoy1
          have hcat : ∀ W : World, (Op.stringOp .add (letter (i : Int)) (letter (k : Int))).run Try.prog W = .ok (.string (letter (i : Int) ++ letter (k : Int))) W := fun W => run_string_add_sum W _ _ (by simp only [letter_size]; omega)
          have hXa := Bk.new y2 101 #[.string (letter (i : Int) ++ letter (k : Int)), .string ⟨#[]⟩]
          have hTa := hTy2.alloc (.cells #[.string (letter (i : Int) ++ letter (k : Int)), .string ⟨#[]⟩] 101)
          have hSa := hSy2.alloc (.cells #[.string (letter (i : Int) ++ letter (k : Int)), .string ⟨#[]⟩] 101)
          have hRa := hRy2.alloc (.cells #[.string (letter (i : Int) ++ letter (k : Int)), .string ⟨#[]⟩] 101)
          have hoa := own_keep hoy2 ((Below.refl _ y2).alloc (Nat.le_refl _) (.cells #[.string (letter (i : Int) ++ letter (k : Int)), .string ⟨#[]⟩] 101)) (Nat.le_refl _)
          have hWa := hWy2.alloc hWy2.size (.cells #[.string (letter (i : Int) ++ letter (k : Int)), .string ⟨#[]⟩] 101)
          have t0 : y2.cell? ⟨w.heap.size, 0, none⟩ = some (.int .i64 n) := by rw [hTy2.cell]; rfl
          have t1 : y2.cell? ⟨w.heap.size, 1, none⟩ = some (.slice A L c) := by rw [hTy2.cell]; rfl
          have tl := hTy2.lt
          have hgy := hSy2.lt
          obtain ⟨v, hv⟩ : ∃ v, tg xs ((i + 1) * n + (k + 1)) = v := ⟨_, rfl⟩
          have hvb := Hlin.out i k (by omega) (by omega)
          rw [hv] at hvb
          have hNe := own_new_ne3 hoy2 (Nat.le_refl _)
          clear hTy2 hSy2 hRy2 hoy2
          have HNe := Lib.hid hNe
          clear hNe
          have HXa := Lib.hid hXa
          clear hXa
          have HTa := Lib.hid hTa
          clear hTa
          have HSa := Lib.hid hSa
          clear hSa
          have HRa := Lib.hid hRa
          clear hRa
          have Hoa := Lib.hid hoa
          clear hoa
          have HWa := Lib.hid hWa
          clear hWa
          have Hv := Lib.hid hv
          clear hv
          go_wp2_with fail
          with_reducible refine (specTimes_any n A L c xs ((i : Int) + 1) ((k : Int) + 1) (i + 1) (k + 1) ((i + 1) * n + (k + 1)) _ (Hr.out.keep HWa.out) Hn.out hb rfl rfl rfl hvb.1).mono ?_
          rintro e y3 ⟨rfl, b3⟩
          rw [Hv.out]
          have hTy3 := HTa.out.below b3 HTa.out.lt
          have hSy3 := HSa.out.below b3 HSa.out.lt
          have hRy3 := HRa.out.below b3 HRa.out.lt
          have hXy3 := HXa.out.below b3 HXa.out.lt
          have hoy3 := own_keep Hoa.out b3 (Nat.le_refl _)
          have hWy3 := HWa.out.trans (b3.mono HWa.out.size)
          clear HTa HSa HRa HXa Hoa HWa b3 t0 t1 tl hgy hcat
          obtain ⟨-, hv1, hv2⟩ := hvb
          have z0 : y3.cell? ⟨y2.heap.size, 0, none⟩ = some (.string (letter (i : Int) ++ letter (k : Int))) := by rw [hXy3.cell]; rfl
          have z1 : y3.cell? ⟨y2.heap.size, 1, none⟩ = some (.string ⟨#[]⟩) := by rw [hXy3.cell]; rfl
          have zl := hXy3.lt
          have u1 : y3.cell? ⟨g, 1, none⟩ = some (.slice B m d) := by rw [hSy3.cell]; rfl
          have ul := hSy3.lt
          have hTl := hTy3.lt
          have hgy2 : g < y2.heap.size := by have := b1.size; have := b2.size; have := hgl2; omega
          by_cases hpos : 0 < v
          · have hx : tsX v = letter (v - 1) := by rw [tsX, if_pos hpos]
            have Hx := Lib.hid hx
            clear hx
            go_wp2_with fail
            with_reducible refine (specLetter_any (v - 1) _ (by omega) (by omega)).mono ?_
            rintro e y4 ⟨rfl, b4⟩
            have hTy4 := hTy3.below b4 hTy3.lt
            have hSy4 := hSy3.below b4 hSy3.lt
            have hRy4 := hRy3.below b4 hRy3.lt
            have hXy4 := hXy3.below b4 hXy3.lt
            have hoy4 := own_keep hoy3 b4 (Nat.le_refl _)
            have hWy4 := hWy3.trans (b4.mono hWy3.size)
            clear hTy3 hSy3 hRy3 hXy3 hoy3 b4 z0 z1 zl u1 ul
            have hTy5 := hTy4.far (p := ⟨y2.heap.size, 1, none⟩) (by dsimp only; omega) (.string (letter (v - 1)))
            have hSy5 := hSy4.far (p := ⟨y2.heap.size, 1, none⟩) (by dsimp only; omega) (.string (letter (v - 1)))
            have hRy5 := hRy4.far (p := ⟨y2.heap.size, 1, none⟩) (by dsimp only; omega) (.string (letter (v - 1)))
            have hoy5 := own_far3 hoy4 (p := ⟨y2.heap.size, 1, none⟩) HNe.out (.string (letter (v - 1)))
            have hWy5 := hWy4.setCell (p := ⟨y2.heap.size, 1, none⟩) (by dsimp only; omega) (.string (letter (v - 1)))
            have z0 : y4.cell? ⟨y2.heap.size, 0, none⟩ = some (.string (letter (i : Int) ++ letter (k : Int))) := by rw [hXy4.cell]; rfl
            have z1 : y4.cell? ⟨y2.heap.size, 1, none⟩ = some (.string ⟨#[]⟩) := by rw [hXy4.cell]; rfl
            have yf := hXy4.free 1
            have yl := hXy4.lt
            have u1 : y4.cell? ⟨g, 1, none⟩ = some (.slice B m d) := by rw [hSy4.cell]; rfl
            have ul := hSy4.lt
            have hy5s : (y4.setCell ⟨y2.heap.size, 1, none⟩ (.string (letter (v - 1)))).heap.size = y4.heap.size := by simp
            have hne5 : g ≠ y2.heap.size := by omega
            clear hXy4 hTy4 hSy4 hRy4 hoy4
            have HTy5 := Lib.hid hTy5
            clear hTy5
            have HSy5 := Lib.hid hSy5
            clear hSy5
            have HRy5 := Lib.hid hRy5
            clear hRy5
            go_wp2_with (at_builtin; refine wpList_app1s _ (y4.setCell ⟨y2.heap.size, 1, none⟩ (.string (letter (v - 1)))) y4.heap.size (by simp) rfl _ _ 58 rfl (g + 1) 101 2 32 _ Try.underlying58 info_Rule rfl (by omega) _ _ _ _ rfl rfl rfl hoy5 rfl (one_cell_rule _ _) (by omega) (by unfold maxLen; omega) (by omega) ?_; intro A5 c5 w5 hO5 hW5; have hS5 := HSy5.out.below hW5 (by omega); have x5 := hS5.cell 1; have f5 := hS5.free 1; have l5 := hS5.lt)
            have hN := (hWy5.trans (hW5.mono (by omega))).setCell (p := ⟨g, 1, none⟩) (by dsimp only; omega) (.slice A5 (m + 1) c5)
            have hTn := (HTy5.out.below hW5 (by omega)).far (p := ⟨g, 1, none⟩) (by dsimp only; omega) (.slice A5 (m + 1) c5)
            have hRn := (HRy5.out.below hW5 (by omega)).far (p := ⟨g, 1, none⟩) (by dsimp only; omega) (.slice A5 (m + 1) c5)
            have hSn := hS5.put 1 (.slice A5 (m + 1) c5)
            have hon := ownsRow_setCell_below hO5 (a := ⟨g, 1, none⟩) (by simp) (.slice A5 (m + 1) c5)
            have hcl : cellsRule (rgTo (tsF n xs) (n - 1) i k) ++ (#[Value.string (letter (i : Int) ++ letter (k : Int)), Value.string (letter (v - 1))] : Array Value).toList = cellsRule (rgTo (tsF n xs) (n - 1) i (k + 1)) := by
              rw [rgTo_succ, cellsRule_snoc, tsF, Hv.out, Hx.out]
              try rfl
            rw [hcl] at hon
            clear hO5 hcl hS5 x5 f5
            go_wp2_with fail
            go_roundw
            case rel => exact ⟨k + 1, A5, c5, m + 1, by omega, by go_num, by unfold Hid; rw [HM.out, rgTo_succ, List.length_append]; rfl, hTn, hRn, hSn, hon, hN⟩
            case measure => simp [intOf] <;> omega
          · have hx : tsX v = ⟨#[]⟩ := by rw [tsX, if_neg hpos]
            have hpos2 : v ≤ 0 := by omega
            have Hx := Lib.hid hx
            clear hx
            go_wp2_with (at_builtin; refine wpList_app1 _ y3 rfl _ _ 58 rfl (g + 1) 101 2 32 _ Try.underlying58 info_Rule rfl (by omega) _ _ _ _ rfl rfl rfl hoy3 rfl (one_cell_rule _ _) (by omega) (by unfold maxLen; omega) (by omega) ?_; intro A5 c5 w5 hO5 hW5; have hS5 := hSy3.below hW5 (by omega); have x5 := hS5.cell 1; have f5 := hS5.free 1; have l5 := hS5.lt)
            have hN := (hWy3.trans (hW5.mono (by omega))).setCell (p := ⟨g, 1, none⟩) (by dsimp only; omega) (.slice A5 (m + 1) c5)
            have hTn := (hTy3.below hW5 (by omega)).far (p := ⟨g, 1, none⟩) (by dsimp only; omega) (.slice A5 (m + 1) c5)
            have hRn := (hRy3.below hW5 (by omega)).far (p := ⟨g, 1, none⟩) (by dsimp only; omega) (.slice A5 (m + 1) c5)
            have hSn := hS5.put 1 (.slice A5 (m + 1) c5)
            have hon := ownsRow_setCell_below hO5 (a := ⟨g, 1, none⟩) (by simp) (.slice A5 (m + 1) c5)
            have hcl : cellsRule (rgTo (tsF n xs) (n - 1) i k) ++ (#[Value.string (letter (i : Int) ++ letter (k : Int)), Value.string ⟨#[]⟩] : Array Value).toList = cellsRule (rgTo (tsF n xs) (n - 1) i (k + 1)) := by
              rw [rgTo_succ, cellsRule_snoc, tsF, Hv.out, Hx.out]
              try rfl
            rw [hcl] at hon
            clear hO5 hcl hS5 x5 f5
            go_wp2_with fail
            go_roundw
            case rel => exact ⟨k + 1, A5, c5, m + 1, by omega, by go_num, by unfold Hid; rw [HM.out, rgTo_succ, List.length_append]; rfl, hTn, hRn, hSn, hon, hN⟩
            case measure => simp [intOf] <;> omega
        · have : k = n - 1 := by omega
          subst this
          have hltn : ¬ ((((n - 1 : Nat)) : Int) + 1 < (n : Int)) := by omega
          have HTy0 := Lib.hid hTy0
          clear hTy0
          have HRy0 := Lib.hid hRy0
          clear hRy0
          have HSy0 := Lib.hid hSy0
          clear hSy0
          have Hoy0 := Lib.hid hoy0
          clear hoy0
          have HWy0 := Lib.hid hWy0
          clear hWy0
          go_wp2_with fail
          go_roundw
          case rel => exact ⟨i + 1, B, d, m, by omega, by go_num, by unfold Hid; rw [rgAcc_succ]; exact HM.out, HTy0.out, HRy0.out, HSy0.out, by rw [rgAcc_succ]; exact Hoy0.out, HWy0.out⟩
          case measure => simp [intOf] <;> omega
    · have : i = n - 1 := by omega
      subst this
      have hltn : ¬ ((((n - 1 : Nat)) : Int) + 1 < (n : Int)) := by omega
      have l0 : wr.cell? ⟨g, 0, none⟩ = some (.int .i64 ((n : Int) - 1)) := by rw [hO.cell]; rfl
      have l1 : wr.cell? ⟨g, 1, none⟩ = some (.slice B m d) := by rw [hO.cell]; rfl
      have r0 : wr.cell? ⟨w.heap.size + 1, 0, none⟩ = some (.int .i64 0) := by rw [hR.cell]; rfl
      have r1 : wr.cell? ⟨w.heap.size + 1, 1, none⟩ = some (.slice none 0 0) := by rw [hR.cell]; rfl
      have f0 := hR.free 0
      have f1 := hR.free 1
      have gl3 := hO.lt
      have HO := Lib.hid hO
      clear hO
      go_wp2_with fail
      have hBn := (hR.put 0 (.int .i64 ((n : Int) - 1))).put 1 (.slice B m d)
      have q0 := hBn.cell 0
      have q1 := hBn.cell 1
      refine bodyPost_ret (v := .tuple #[.agg #[.int .i64 ((n : Int) - 1), .slice B m d], .bool true]) (by simp [results, Try.results48, go_sem, q0, q1]) rfl ?_
      rw [E1.out, E2.out, E0.out, ← HM.out]
      refine ⟨B, d, rfl, ?_, ?_⟩
      · exact own_mono (ownsRow_setCell_below (ownsRow_setCell_below hown (a := ⟨w.heap.size + 1, 0, none⟩) (by dsimp only; omega) _) (a := ⟨w.heap.size + 1, 1, none⟩) (by dsimp only; omega) _) (by omega)
      · exact (hW.setCell (by dsimp only; omega) _).setCell (by dsimp only; omega) _

set_option maxRecDepth 100000 in
set_option maxHeartbeats 4000000 in
theorem implTableSystem_any (s : Int) (A : Option Addr) (L c : Nat) (xs : List Int) (w : World) (hr : Rd w A (ints xs)) (hn : L = xs.length) (hb : L ≤ 1048576) :
    Calls Try.prog 49 #[.agg #[.int .i64 s, .slice A L c]] w (MadeSys w (tsL s xs) (tss s xs).length (tss s xs) (tsOk s xs)) := by
  have hW0 : Below w.heap.size w ((w.alloc (.cells #[.int .i64 s, .slice A L c] 34)).alloc (.cells #[.int .i64 0, .slice none 0 0] 60)) := ((Below.refl _ _).alloc (Nat.le_refl _) _).alloc (by simp) _
  have hT0 : Bk ((w.alloc (.cells #[.int .i64 s, .slice A L c] 34)).alloc (.cells #[.int .i64 0, .slice none 0 0] 60)) w.heap.size 34 #[.int .i64 s, .slice A L c] := (Bk.new w _ _).alloc _
  have hR0 : Bk ((w.alloc (.cells #[.int .i64 s, .slice A L c] 34)).alloc (.cells #[.int .i64 0, .slice none 0 0] 60)) (w.heap.size + 1) 60 #[.int .i64 0, .slice none 0 0] := (Bk.new (w.alloc (.cells #[.int .i64 s, .slice A L c] 34)) 60 #[.int .i64 0, .slice none 0 0]).cast (by simp)
  have Hr := Lib.hid hr
  clear hr
  have Hn := Lib.hid hn
  clear hn
  go_enter Try.func49, Try.ntmps49
  have t0 : (((w.alloc (.cells #[.int .i64 s, .slice A L c] 34)).alloc (.cells #[.int .i64 0, .slice none 0 0] 60))).cell? ⟨w.heap.size, 0, none⟩ = some (.int .i64 s) := by rw [hT0.cell]; rfl
  have q0 : (((w.alloc (.cells #[.int .i64 s, .slice A L c] 34)).alloc (.cells #[.int .i64 0, .slice none 0 0] 60))).cell? ⟨w.heap.size + 1, 0, none⟩ = some (.int .i64 0) := by rw [hR0.cell]; rfl
  have q1 : (((w.alloc (.cells #[.int .i64 s, .slice A L c] 34)).alloc (.cells #[.int .i64 0, .slice none 0 0] 60))).cell? ⟨w.heap.size + 1, 1, none⟩ = some (.slice none 0 0) := by rw [hR0.cell]; rfl
  go_wp2_with fail
  refine (within_any s 2 4 _).mono ?_
  rintro e w2 ⟨rfl, rfl⟩
  obtain ⟨r2, hrr⟩ : ∃ r', r' = (inB s 2 4) := ⟨_, rfl⟩
  rw [← hrr]
  have H2 := Lib.hid hrr
  clear hrr
  cases r2
  · have e0 : tsOk s xs = false := by rw [tsOk, ← H2.out]; simp
    have e1 : tsL s xs = 0 := by rw [tsL, e0]; rfl
    have e2 : tss s xs = [] := by rw [tss, e0]; rfl
    have E0 := Lib.hid e0
    clear e0
    have E1 := Lib.hid e1
    clear e1
    have E2 := Lib.hid e2
    clear e2
    go_wp2_with fail
    refine bodyPost_ret (v := .tuple #[.agg #[.int .i64 0, .slice none 0 0], .bool false]) (by simp [results, Try.results49, go_sem, q0, q1]) rfl ?_
    rw [E1.out, E2.out, E0.out]
    refine ⟨none, 0, rfl, World.ownsRow_nil _ _ _ _, ?_⟩
    first | exact hW0 | exact (hW0.setCell (by dsimp only; omega) _).setCell (by dsimp only; omega) _
  clear t0 q0 q1
  go_wp2_with fail
  refine (implTableOk_any s A L c xs _ (Hr.out.keep hW0) Hn.out hb).mono ?_
  rintro e w1 ⟨rfl, b1⟩
  have hT1 := hT0.below b1 hT0.lt
  have hR1 := hR0.below b1 hR0.lt
  have hW1 := hW0.trans (b1.mono hW0.size)
  have t0 : w1.cell? ⟨w.heap.size, 0, none⟩ = some (.int .i64 s) := by rw [hT1.cell]; rfl
  have q0 : w1.cell? ⟨w.heap.size + 1, 0, none⟩ = some (.int .i64 0) := by rw [hR1.cell]; rfl
  have q1 : w1.cell? ⟨w.heap.size + 1, 1, none⟩ = some (.slice none 0 0) := by rw [hR1.cell]; rfl
  have f0 := hR1.free 0
  have f1 := hR1.free 1
  have tl := hT1.lt
  have rl := hR1.lt
  clear hT0 hR0 hW0 b1
  obtain ⟨r1, hrr⟩ : ∃ r', r' = (tableOk s xs) := ⟨_, rfl⟩
  rw [← hrr]
  have H1 := Lib.hid hrr
  clear hrr
  cases r1
  · have e0 : tsOk s xs = false := by rw [tsOk, ← H1.out]; simp
    have e1 : tsL s xs = 0 := by rw [tsL, e0]; rfl
    have e2 : tss s xs = [] := by rw [tss, e0]; rfl
    have E0 := Lib.hid e0
    clear e0
    have E1 := Lib.hid e1
    clear e1
    have E2 := Lib.hid e2
    clear e2
    go_wp2_with fail
    refine bodyPost_ret (v := .tuple #[.agg #[.int .i64 0, .slice none 0 0], .bool false]) (by simp [results, Try.results49, go_sem, q0, q1]) rfl ?_
    rw [E1.out, E2.out, E0.out]
    refine ⟨none, 0, rfl, World.ownsRow_nil _ _ _ _, ?_⟩
    first | exact hW1 | exact (hW1.setCell (by dsimp only; omega) _).setCell (by dsimp only; omega) _
  obtain ⟨hs1, hs2⟩ := inB_out H2.out
  obtain ⟨hsl, hxs⟩ := tableOk_out' H1.out.symm
  obtain ⟨n, rfl⟩ := Int.eq_ofNat_of_zero_le (show 0 ≤ s by omega)
  have hnn : L = n * n := by have e := sq_cast n; have := Hn.out; omega
  have e0 : tsOk (n : Int) xs = true := by rw [tsOk, ← H1.out, ← H2.out]; rfl
  have e1 : tsL (n : Int) xs = (n : Int) - 1 := by rw [tsL, e0]; rfl
  have e2 : tss (n : Int) xs = rgAcc (tsF n xs) (n - 1) (n - 1) := by rw [tss, e0, Int.toNat_natCast]; rfl
  have hlin : ∀ i k, i < n - 1 → k < n - 1 → (i + 1) * n + (k + 1) < L ∧ 0 ≤ tg xs ((i + 1) * n + (k + 1)) ∧ tg xs ((i + 1) * n + (k + 1)) ≤ 100 := fun i k hi hk => by
    have h1 : (i + 1) * n + (k + 1) < n * n := lin_lt (by omega) (by omega)
    have h2 : (i + 1) * n + (k + 1) < L := by rw [hnn]; exact h1
    have h3 := tab_in hxs (by rw [← Hn.out]; exact h2)
    exact ⟨h2, by omega, by omega⟩
  have hi9 : ∀ i, i ≤ n - 1 → i * (n - 1) ≤ 9 := fun i hi => Nat.mul_le_mul (by omega : i ≤ 3) (by omega : n - 1 ≤ 3)
  obtain ⟨g, hg⟩ : ∃ g, g = w1.heap.size := ⟨_, rfl⟩
  have hgl : w.heap.size + 2 ≤ g := by omega
  obtain ⟨w2, hw2⟩ : ∃ w2, w2 = w1.alloc (.cells #[.int .i64 ((n : Int) - 1), .slice none 0 0] 60) := ⟨_, rfl⟩
  have hT2 := hT1.alloc (.cells #[.int .i64 ((n : Int) - 1), .slice none 0 0] 60)
  have hR2 := hR1.alloc (.cells #[.int .i64 ((n : Int) - 1), .slice none 0 0] 60)
  have hW2 := hW1.alloc hW1.size (.cells #[.int .i64 ((n : Int) - 1), .slice none 0 0] 60)
  have hO2 := Bk.new w1 60 #[.int .i64 ((n : Int) - 1), .slice none 0 0]
  rw [← hw2] at hT2 hR2 hW2 hO2
  rw [← hg] at hO2
  have Hsl := Lib.hid hsl
  clear hsl
  have Hnn := Lib.hid hnn
  clear hnn
  have Hw2 := Lib.hid hw2
  clear hw2
  have Hg := Lib.hid hg
  clear hg
  have HT2 := Lib.hid hT2
  clear hT2
  have HR2 := Lib.hid hR2
  clear hR2
  have HW2 := Lib.hid hW2
  clear hW2
  have HO2 := Lib.hid hO2
  clear hO2
  have Hlin := Lib.hid hlin
  clear hlin
  have E0 := Lib.hid e0
  clear e0
  have E1 := Lib.hid e1
  clear e1
  have E2 := Lib.hid e2
  clear e2
  have Hxs := Lib.hid hxs
  clear hxs
  have Hi9 := Lib.hid hi9
  clear hi9
  clear hT1 hR1 hW1
  go_wp2_with fail
  rw [← Hg.out, ← Hw2.out]
  clear t0 q0 q1 f0 f1 tl rl
  go_loopw [5] (fun i wr => ∃ (q : Nat) (B : Option Addr) (d m : Nat), q ≤ n - 1 ∧ i = .int .i64 ((q : Int) + 1) ∧ Hid (m = (rgAcc (tsF n xs) (n - 1) q).length) ∧ Bk wr w.heap.size 34 #[.int .i64 n, .slice A L c] ∧ Bk wr (w.heap.size + 1) 60 #[.int .i64 0, .slice none 0 0] ∧ Bk wr g 60 #[.int .i64 ((n : Int) - 1), .slice B m d] ∧ wr.ownsRow (g + 1) 101 2 (.slice B m d) m (cellsRule (rgAcc (tsF n xs) (n - 1) q)) ∧ Below w.heap.size w wr) (fun i _ => n - (intOf i).toNat)
  case atStart => exact ⟨0, none, 0, 0, Nat.zero_le _, by go_num, rfl, HT2.out, HR2.out, HO2.out, World.ownsRow_nil _ _ _ _, HW2.out⟩
  case round =>
    clear HT2 HR2 HO2 HW2 Hw2 Hg
    obtain ⟨i, B, d, m, hi, rfl, HM, hT, hR, hO, hown, hW⟩ := hrel
    have t0 : wr.cell? ⟨w.heap.size, 0, none⟩ = some (.int .i64 n) := by rw [hT.cell]; rfl
    have tl := hT.lt
    by_cases hlt : i < n - 1
    · have hlti : (i : Int) + 1 < (n : Int) := by omega
      have HT := Lib.hid hT
      clear hT
      have HR := Lib.hid hR
      clear hR
      have HO := Lib.hid hO
      clear hO
      have Hown := Lib.hid hown
      clear hown
      have HW := Lib.hid hW
      clear hW
      go_wp2_with fail
      go_loopw [6] (fun k wr => ∃ (q : Nat) (B : Option Addr) (d m : Nat), q ≤ n - 1 ∧ k = .int .i64 ((q : Int) + 1) ∧ Hid (m = (rgTo (tsF n xs) (n - 1) i q).length) ∧ Bk wr w.heap.size 34 #[.int .i64 n, .slice A L c] ∧ Bk wr (w.heap.size + 1) 60 #[.int .i64 0, .slice none 0 0] ∧ Bk wr g 60 #[.int .i64 ((n : Int) - 1), .slice B m d] ∧ wr.ownsRow (g + 1) 101 2 (.slice B m d) m (cellsRule (rgTo (tsF n xs) (n - 1) i q)) ∧ Below w.heap.size w wr) (fun k _ => n - (intOf k).toNat)
      case atStart => exact ⟨0, B, d, m, Nat.zero_le _, by go_num, by unfold Hid; rw [rgTo_zero]; exact HM.out, HT.out, HR.out, HO.out, by rw [rgTo_zero]; exact Hown.out, HW.out⟩
      case round =>
        clear HT HR HO Hown HW HM t0 tl
        obtain ⟨k, B, d, m, hk, rfl, HM, hTy0, hRy0, hSy0, hoy0, hWy0⟩ := hrel
        have t0 : wr.cell? ⟨w.heap.size, 0, none⟩ = some (.int .i64 n) := by rw [hTy0.cell]; rfl
        have tl := hTy0.lt
        by_cases hltk : k < n - 1
        · have hltk2 : (k : Int) + 1 < (n : Int) := by omega
          have hml : m ≤ 12 := by rw [HM.out, rgTo_len]; have := Hi9.out i hi; omega
          have hgl2 := hSy0.lt
          have hsub1 : (i : Int) + 1 - 1 = (i : Int) := by omega
          have hsub2 : (k : Int) + 1 - 1 = (k : Int) := by omega
          go_wp2_with fail
          with_reducible refine (implLetter_any (i : Int) _ (by omega) (by omega)).mono ?_
          rintro e y1 ⟨rfl, b1⟩
          have hTy1 := hTy0.below b1 hTy0.lt
          have hSy1 := hSy0.below b1 hSy0.lt
          have hRy1 := hRy0.below b1 hRy0.lt
          have hoy1 := own_keep hoy0 b1 (Nat.le_refl _)
          have hWy1 := hWy0.trans (b1.mono hWy0.size)
          clear hTy0 hSy0 hRy0 hoy0
          go_wp2_with fail
          with_reducible refine (implLetter_any (k : Int) _ (by omega) (by omega)).mono ?_
          rintro e y2 ⟨rfl, b2⟩
          have hTy2 := hTy1.below b2 hTy1.lt
          have hSy2 := hSy1.below b2 hSy1.lt
          have hRy2 := hRy1.below b2 hRy1.lt
          have hoy2 := own_keep hoy1 b2 (Nat.le_refl _)
          have hWy2 := hWy1.trans (b2.mono hWy1.size)
          clear hTy1 hSy1 hRy1 hoy1
          have hcat : ∀ W : World, (Op.stringOp .add (letter (i : Int)) (letter (k : Int))).run Try.prog W = .ok (.string (letter (i : Int) ++ letter (k : Int))) W := fun W => run_string_add_sum W _ _ (by simp only [letter_size]; omega)
          have hXa := Bk.new y2 101 #[.string (letter (i : Int) ++ letter (k : Int)), .string ⟨#[]⟩]
          have hTa := hTy2.alloc (.cells #[.string (letter (i : Int) ++ letter (k : Int)), .string ⟨#[]⟩] 101)
          have hSa := hSy2.alloc (.cells #[.string (letter (i : Int) ++ letter (k : Int)), .string ⟨#[]⟩] 101)
          have hRa := hRy2.alloc (.cells #[.string (letter (i : Int) ++ letter (k : Int)), .string ⟨#[]⟩] 101)
          have hoa := own_keep hoy2 ((Below.refl _ y2).alloc (Nat.le_refl _) (.cells #[.string (letter (i : Int) ++ letter (k : Int)), .string ⟨#[]⟩] 101)) (Nat.le_refl _)
          have hWa := hWy2.alloc hWy2.size (.cells #[.string (letter (i : Int) ++ letter (k : Int)), .string ⟨#[]⟩] 101)
          have t0 : y2.cell? ⟨w.heap.size, 0, none⟩ = some (.int .i64 n) := by rw [hTy2.cell]; rfl
          have t1 : y2.cell? ⟨w.heap.size, 1, none⟩ = some (.slice A L c) := by rw [hTy2.cell]; rfl
          have tl := hTy2.lt
          have hgy := hSy2.lt
          obtain ⟨v, hv⟩ : ∃ v, tg xs ((i + 1) * n + (k + 1)) = v := ⟨_, rfl⟩
          have hvb := Hlin.out i k (by omega) (by omega)
          rw [hv] at hvb
          have hNe := own_new_ne3 hoy2 (Nat.le_refl _)
          clear hTy2 hSy2 hRy2 hoy2
          have HNe := Lib.hid hNe
          clear hNe
          have HXa := Lib.hid hXa
          clear hXa
          have HTa := Lib.hid hTa
          clear hTa
          have HSa := Lib.hid hSa
          clear hSa
          have HRa := Lib.hid hRa
          clear hRa
          have Hoa := Lib.hid hoa
          clear hoa
          have HWa := Lib.hid hWa
          clear hWa
          have Hv := Lib.hid hv
          clear hv
          go_wp2_with fail
          with_reducible refine (implTimes_any n A L c xs ((i : Int) + 1) ((k : Int) + 1) (i + 1) (k + 1) ((i + 1) * n + (k + 1)) _ (Hr.out.keep HWa.out) Hn.out hb rfl rfl rfl hvb.1).mono ?_
          rintro e y3 ⟨rfl, b3⟩
          rw [Hv.out]
          have hTy3 := HTa.out.below b3 HTa.out.lt
          have hSy3 := HSa.out.below b3 HSa.out.lt
          have hRy3 := HRa.out.below b3 HRa.out.lt
          have hXy3 := HXa.out.below b3 HXa.out.lt
          have hoy3 := own_keep Hoa.out b3 (Nat.le_refl _)
          have hWy3 := HWa.out.trans (b3.mono HWa.out.size)
          clear HTa HSa HRa HXa Hoa HWa b3 t0 t1 tl hgy hcat
          obtain ⟨-, hv1, hv2⟩ := hvb
          have z0 : y3.cell? ⟨y2.heap.size, 0, none⟩ = some (.string (letter (i : Int) ++ letter (k : Int))) := by rw [hXy3.cell]; rfl
          have z1 : y3.cell? ⟨y2.heap.size, 1, none⟩ = some (.string ⟨#[]⟩) := by rw [hXy3.cell]; rfl
          have zl := hXy3.lt
          have u1 : y3.cell? ⟨g, 1, none⟩ = some (.slice B m d) := by rw [hSy3.cell]; rfl
          have ul := hSy3.lt
          have hTl := hTy3.lt
          have hgy2 : g < y2.heap.size := by have := b1.size; have := b2.size; have := hgl2; omega
          by_cases hpos : 0 < v
          · have hx : tsX v = letter (v - 1) := by rw [tsX, if_pos hpos]
            have Hx := Lib.hid hx
            clear hx
            go_wp2_with fail
            with_reducible refine (implLetter_any (v - 1) _ (by omega) (by omega)).mono ?_
            rintro e y4 ⟨rfl, b4⟩
            have hTy4 := hTy3.below b4 hTy3.lt
            have hSy4 := hSy3.below b4 hSy3.lt
            have hRy4 := hRy3.below b4 hRy3.lt
            have hXy4 := hXy3.below b4 hXy3.lt
            have hoy4 := own_keep hoy3 b4 (Nat.le_refl _)
            have hWy4 := hWy3.trans (b4.mono hWy3.size)
            clear hTy3 hSy3 hRy3 hXy3 hoy3 b4 z0 z1 zl u1 ul
            have hTy5 := hTy4.far (p := ⟨y2.heap.size, 1, none⟩) (by dsimp only; omega) (.string (letter (v - 1)))
            have hSy5 := hSy4.far (p := ⟨y2.heap.size, 1, none⟩) (by dsimp only; omega) (.string (letter (v - 1)))
            have hRy5 := hRy4.far (p := ⟨y2.heap.size, 1, none⟩) (by dsimp only; omega) (.string (letter (v - 1)))
            have hoy5 := own_far3 hoy4 (p := ⟨y2.heap.size, 1, none⟩) HNe.out (.string (letter (v - 1)))
            have hWy5 := hWy4.setCell (p := ⟨y2.heap.size, 1, none⟩) (by dsimp only; omega) (.string (letter (v - 1)))
            have z0 : y4.cell? ⟨y2.heap.size, 0, none⟩ = some (.string (letter (i : Int) ++ letter (k : Int))) := by rw [hXy4.cell]; rfl
            have z1 : y4.cell? ⟨y2.heap.size, 1, none⟩ = some (.string ⟨#[]⟩) := by rw [hXy4.cell]; rfl
            have yf := hXy4.free 1
            have yl := hXy4.lt
            have u1 : y4.cell? ⟨g, 1, none⟩ = some (.slice B m d) := by rw [hSy4.cell]; rfl
            have ul := hSy4.lt
            have hy5s : (y4.setCell ⟨y2.heap.size, 1, none⟩ (.string (letter (v - 1)))).heap.size = y4.heap.size := by simp
            have hne5 : g ≠ y2.heap.size := by omega
            clear hXy4 hTy4 hSy4 hRy4 hoy4
            have HTy5 := Lib.hid hTy5
            clear hTy5
            have HSy5 := Lib.hid hSy5
            clear hSy5
            have HRy5 := Lib.hid hRy5
            clear hRy5
            go_wp2_with (at_builtin; refine wpList_app1s _ (y4.setCell ⟨y2.heap.size, 1, none⟩ (.string (letter (v - 1)))) y4.heap.size (by simp) rfl _ _ 58 rfl (g + 1) 101 2 32 _ Try.underlying58 info_Rule rfl (by omega) _ _ _ _ rfl rfl rfl hoy5 rfl (one_cell_rule _ _) (by omega) (by unfold maxLen; omega) (by omega) ?_; intro A5 c5 w5 hO5 hW5; have hS5 := HSy5.out.below hW5 (by omega); have x5 := hS5.cell 1; have f5 := hS5.free 1; have l5 := hS5.lt)
            have hN := (hWy5.trans (hW5.mono (by omega))).setCell (p := ⟨g, 1, none⟩) (by dsimp only; omega) (.slice A5 (m + 1) c5)
            have hTn := (HTy5.out.below hW5 (by omega)).far (p := ⟨g, 1, none⟩) (by dsimp only; omega) (.slice A5 (m + 1) c5)
            have hRn := (HRy5.out.below hW5 (by omega)).far (p := ⟨g, 1, none⟩) (by dsimp only; omega) (.slice A5 (m + 1) c5)
            have hSn := hS5.put 1 (.slice A5 (m + 1) c5)
            have hon := ownsRow_setCell_below hO5 (a := ⟨g, 1, none⟩) (by simp) (.slice A5 (m + 1) c5)
            have hcl : cellsRule (rgTo (tsF n xs) (n - 1) i k) ++ (#[Value.string (letter (i : Int) ++ letter (k : Int)), Value.string (letter (v - 1))] : Array Value).toList = cellsRule (rgTo (tsF n xs) (n - 1) i (k + 1)) := by
              rw [rgTo_succ, cellsRule_snoc, tsF, Hv.out, Hx.out]
              try rfl
            rw [hcl] at hon
            clear hO5 hcl hS5 x5 f5
            go_wp2_with fail
            go_roundw
            case rel => exact ⟨k + 1, A5, c5, m + 1, by omega, by go_num, by unfold Hid; rw [HM.out, rgTo_succ, List.length_append]; rfl, hTn, hRn, hSn, hon, hN⟩
            case measure => simp [intOf] <;> omega
          · have hx : tsX v = ⟨#[]⟩ := by rw [tsX, if_neg hpos]
            have hpos2 : v ≤ 0 := by omega
            have Hx := Lib.hid hx
            clear hx
            go_wp2_with (at_builtin; refine wpList_app1 _ y3 rfl _ _ 58 rfl (g + 1) 101 2 32 _ Try.underlying58 info_Rule rfl (by omega) _ _ _ _ rfl rfl rfl hoy3 rfl (one_cell_rule _ _) (by omega) (by unfold maxLen; omega) (by omega) ?_; intro A5 c5 w5 hO5 hW5; have hS5 := hSy3.below hW5 (by omega); have x5 := hS5.cell 1; have f5 := hS5.free 1; have l5 := hS5.lt)
            have hN := (hWy3.trans (hW5.mono (by omega))).setCell (p := ⟨g, 1, none⟩) (by dsimp only; omega) (.slice A5 (m + 1) c5)
            have hTn := (hTy3.below hW5 (by omega)).far (p := ⟨g, 1, none⟩) (by dsimp only; omega) (.slice A5 (m + 1) c5)
            have hRn := (hRy3.below hW5 (by omega)).far (p := ⟨g, 1, none⟩) (by dsimp only; omega) (.slice A5 (m + 1) c5)
            have hSn := hS5.put 1 (.slice A5 (m + 1) c5)
            have hon := ownsRow_setCell_below hO5 (a := ⟨g, 1, none⟩) (by simp) (.slice A5 (m + 1) c5)
            have hcl : cellsRule (rgTo (tsF n xs) (n - 1) i k) ++ (#[Value.string (letter (i : Int) ++ letter (k : Int)), Value.string ⟨#[]⟩] : Array Value).toList = cellsRule (rgTo (tsF n xs) (n - 1) i (k + 1)) := by
              rw [rgTo_succ, cellsRule_snoc, tsF, Hv.out, Hx.out]
              try rfl
            rw [hcl] at hon
            clear hO5 hcl hS5 x5 f5
            go_wp2_with fail
            go_roundw
            case rel => exact ⟨k + 1, A5, c5, m + 1, by omega, by go_num, by unfold Hid; rw [HM.out, rgTo_succ, List.length_append]; rfl, hTn, hRn, hSn, hon, hN⟩
            case measure => simp [intOf] <;> omega
        · have : k = n - 1 := by omega
          subst this
          have hltn : ¬ ((((n - 1 : Nat)) : Int) + 1 < (n : Int)) := by omega
          have HTy0 := Lib.hid hTy0
          clear hTy0
          have HRy0 := Lib.hid hRy0
          clear hRy0
          have HSy0 := Lib.hid hSy0
          clear hSy0
          have Hoy0 := Lib.hid hoy0
          clear hoy0
          have HWy0 := Lib.hid hWy0
          clear hWy0
          go_wp2_with fail
          go_roundw
          case rel => exact ⟨i + 1, B, d, m, by omega, by go_num, by unfold Hid; rw [rgAcc_succ]; exact HM.out, HTy0.out, HRy0.out, HSy0.out, by rw [rgAcc_succ]; exact Hoy0.out, HWy0.out⟩
          case measure => simp [intOf] <;> omega
    · have : i = n - 1 := by omega
      subst this
      have hltn : ¬ ((((n - 1 : Nat)) : Int) + 1 < (n : Int)) := by omega
      have l0 : wr.cell? ⟨g, 0, none⟩ = some (.int .i64 ((n : Int) - 1)) := by rw [hO.cell]; rfl
      have l1 : wr.cell? ⟨g, 1, none⟩ = some (.slice B m d) := by rw [hO.cell]; rfl
      have r0 : wr.cell? ⟨w.heap.size + 1, 0, none⟩ = some (.int .i64 0) := by rw [hR.cell]; rfl
      have r1 : wr.cell? ⟨w.heap.size + 1, 1, none⟩ = some (.slice none 0 0) := by rw [hR.cell]; rfl
      have f0 := hR.free 0
      have f1 := hR.free 1
      have gl3 := hO.lt
      have HO := Lib.hid hO
      clear hO
      go_wp2_with fail
      have hBn := (hR.put 0 (.int .i64 ((n : Int) - 1))).put 1 (.slice B m d)
      have q0 := hBn.cell 0
      have q1 := hBn.cell 1
      refine bodyPost_ret (v := .tuple #[.agg #[.int .i64 ((n : Int) - 1), .slice B m d], .bool true]) (by simp [results, Try.results49, go_sem, q0, q1]) rfl ?_
      rw [E1.out, E2.out, E0.out, ← HM.out]
      refine ⟨B, d, rfl, ?_, ?_⟩
      · exact own_mono (ownsRow_setCell_below (ownsRow_setCell_below hown (a := ⟨w.heap.size + 1, 0, none⟩) (by dsimp only; omega) _) (a := ⟨w.heap.size + 1, 1, none⟩) (by dsimp only; omega) _) (by omega)
      · exact (hW.setCell (by dsimp only; omega) _).setCell (by dsimp only; omega) _

end Go.Proofs.Ytpbaccpojihpmaa
