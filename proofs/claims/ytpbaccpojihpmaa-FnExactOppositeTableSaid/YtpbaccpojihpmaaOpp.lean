/- Walks over OppositeTable (the program's and the reference's): both hand back the same table. -/
import Derived.Test.YtpbaccpojihpmaaTabOk
import Derived.Test.YtpbaccpojihpmaaApp2
import Derived.Deep.RegionLaw
namespace Go.Proofs.Ytpbaccpojihpmaa
open Go.RowKit Go.Shelf

/-- The first i rows of a square of n columns. -/
def gridAcc (f : Nat → Nat → Int) (n i : Nat) : List Int := (List.range i).flatMap fun q => (List.range n).map (f q)
/-- The first i rows, and k entries of row i. -/
def gridTo (f : Nat → Nat → Int) (n i k : Nat) : List Int := gridAcc f n i ++ (List.range k).map (f i)
theorem gridTo_zero (f : Nat → Nat → Int) (n i : Nat) : gridTo f n i 0 = gridAcc f n i := by simp [gridTo]
theorem gridTo_succ (f : Nat → Nat → Int) (n i k : Nat) : gridTo f n i (k + 1) = gridTo f n i k ++ [f i k] := by rw [gridTo, gridTo, List.range_succ, List.map_append, List.append_assoc]; rfl
theorem gridAcc_succ (f : Nat → Nat → Int) (n i : Nat) : gridAcc f n (i + 1) = gridTo f n i n := by rw [gridAcc, List.range_succ, List.flatMap_append, gridTo]; simp [gridAcc]
theorem gridAcc_len (f : Nat → Nat → Int) (n i : Nat) : (gridAcc f n i).length = i * n := by
  induction i with
  | zero => simp [gridAcc]
  | succ i ih => rw [gridAcc_succ, gridTo, List.length_append, ih]; simp [Nat.succ_mul]
theorem gridTo_len (f : Nat → Nat → Int) (n i k : Nat) : (gridTo f n i k).length = i * n + k := by rw [gridTo, List.length_append, gridAcc_len]; simp

/-- A table in memory of the call's own, and a bool. -/
def MadeTab (w : World) (l : Int) (n : Nat) (xs : List Int) (b : Bool) (e : Ending) (w' : World) : Prop :=
  ∃ A c, e = .returned (.tuple #[.agg #[.int .i64 l, .slice A n c], .bool b]) ∧ w'.ownsRow w.heap.size 3 1 (.slice A n c) n (ints xs) ∧ Below w.heap.size w w'

def oppF (n : Nat) (xs : List Int) (i k : Nat) : Int := tg xs (k * n + i)
def oppL (s : Int) (xs : List Int) : Int := if tableOk s xs then s else 0
/-- The entries of the opposite table. -/
def opps (s : Int) (xs : List Int) : List Int := if tableOk s xs then gridAcc (oppF s.toNat xs) s.toNat s.toNat else []
theorem tableOk_out {s : Int} {xs : List Int} (h : tableOk s xs = true) : 1 ≤ s ∧ s ≤ 40 ∧ (xs.length : Int) = s * s ∧ xs.all (fun x => inB x 0 (s - 1)) = true := by
  unfold tableOk at h
  simp only [Bool.and_eq_true, decide_eq_true_eq] at h
  have := inB_out h.1.1.1.symm
  exact ⟨this.1, this.2, h.1.1.2, h.1.2⟩
theorem opps_len (s : Int) (xs : List Int) : (opps s xs).length ≤ 1048576 := by
  unfold opps
  split
  · next h =>
    obtain ⟨h1, h2, -, -⟩ := tableOk_out h
    rw [gridAcc_len]
    have : s.toNat * s.toNat ≤ 40 * 40 := Nat.mul_le_mul (by omega) (by omega)
    omega
  · simp

set_option maxRecDepth 100000 in
set_option maxHeartbeats 4000000 in
theorem implOppositeTable_any (s : Int) (A : Option Addr) (L c : Nat) (xs : List Int) (w : World) (hr : Rd w A (ints xs)) (hn : L = xs.length) (hb : L ≤ 1048576) :
    Calls Try.prog 25 #[.agg #[.int .i64 s, .slice A L c]] w (MadeTab w (oppL s xs) (opps s xs).length (opps s xs) (tableOk s xs)) := by
  have hW0 : Below w.heap.size w ((w.alloc (.cells #[.int .i64 s, .slice A L c] 34)).alloc (.cells #[.int .i64 0, .slice none 0 0] 34)) := ((Below.refl _ _).alloc (Nat.le_refl _) _).alloc (by simp) _
  have hT0 : Bk ((w.alloc (.cells #[.int .i64 s, .slice A L c] 34)).alloc (.cells #[.int .i64 0, .slice none 0 0] 34)) w.heap.size 34 #[.int .i64 s, .slice A L c] := (Bk.new w _ _).alloc _
  have hR0 : Bk ((w.alloc (.cells #[.int .i64 s, .slice A L c] 34)).alloc (.cells #[.int .i64 0, .slice none 0 0] 34)) (w.heap.size + 1) 34 #[.int .i64 0, .slice none 0 0] := (Bk.new (w.alloc (.cells #[.int .i64 s, .slice A L c] 34)) 34 #[.int .i64 0, .slice none 0 0]).cast (by simp)
  have Hr := Lib.hid hr
  clear hr
  have Hn := Lib.hid hn
  clear hn
  have HT0 := Lib.hid hT0
  clear hT0
  have HR0 := Lib.hid hR0
  clear hR0
  go_enter Try.func25, Try.ntmps25
  go_wp2_with fail
  refine (implTableOk_any s A L c xs _ (Hr.out.keep hW0) Hn.out hb).mono ?_
  rintro e w1 ⟨rfl, b1⟩
  have hT1 := HT0.out.below b1 HT0.out.lt
  have hR1 := HR0.out.below b1 HR0.out.lt
  have hW1 := hW0.trans (b1.mono hW0.size)
  have t0 : w1.cell? ⟨w.heap.size, 0, none⟩ = some (.int .i64 s) := by rw [hT1.cell]; rfl
  have q0 : w1.cell? ⟨w.heap.size + 1, 0, none⟩ = some (.int .i64 0) := by rw [hR1.cell]; rfl
  have q1 : w1.cell? ⟨w.heap.size + 1, 1, none⟩ = some (.slice none 0 0) := by rw [hR1.cell]; rfl
  have f0 := hR1.free 0
  have f1 := hR1.free 1
  have tl := hT1.lt
  have rl := hR1.lt
  clear HT0 HR0 hW0 b1
  have HT1 := Lib.hid hT1
  clear hT1
  have HR1 := Lib.hid hR1
  clear hR1
  have HW1 := Lib.hid hW1
  clear hW1
  obtain ⟨r, hrr⟩ : ∃ r', r' = (tableOk s xs) := ⟨_, rfl⟩
  rw [← hrr]
  have HR := Lib.hid hrr
  clear hrr
  cases r
  · go_wp2_with fail
    have e1 : oppL s xs = 0 := by rw [oppL, ← HR.out]; rfl
    have e2 : opps s xs = [] := by rw [opps, ← HR.out]; rfl
    refine bodyPost_ret (v := .tuple #[.agg #[.int .i64 0, .slice none 0 0], .bool false]) (by simp [results, Try.results25, go_sem, q0, q1]) rfl ?_
    rw [e1, e2]
    refine ⟨none, 0, by rw [← HR.out]; rfl, World.ownsRow_nil _ _ _ _, ?_⟩
    first | exact HW1.out | exact (HW1.out.setCell (by simp) _).setCell (by simp) _
  obtain ⟨hs1, hs2, hsl, -⟩ := tableOk_out HR.out.symm
  obtain ⟨n, rfl⟩ := Int.eq_ofNat_of_zero_le (show 0 ≤ s by omega)
  have hnn : L = n * n := by have e := sq_cast n; have := Hn.out; omega
  have hi40 : ∀ i, i ≤ n → i * n ≤ 1600 := fun i hi => Nat.mul_le_mul (by omega : i ≤ 40) (by omega : n ≤ 40)
  obtain ⟨g, hg⟩ : ∃ g, g = w1.heap.size := ⟨_, rfl⟩
  have hgl : w.heap.size + 2 ≤ g := by omega
  obtain ⟨w2, hw2⟩ : ∃ w2, w2 = w1.alloc (.cells #[.int .i64 (n : Int), .slice none 0 0] 34) := ⟨_, rfl⟩
  have hT2 := HT1.out.alloc (.cells #[.int .i64 (n : Int), .slice none 0 0] 34)
  have hR2 := HR1.out.alloc (.cells #[.int .i64 (n : Int), .slice none 0 0] 34)
  have hW2 := HW1.out.alloc HW1.out.size (.cells #[.int .i64 (n : Int), .slice none 0 0] 34)
  have hO2 := Bk.new w1 34 #[.int .i64 (n : Int), .slice none 0 0]
  rw [← hw2] at hT2 hR2 hW2 hO2
  rw [← hg] at hO2
  have Hsl := Lib.hid hsl
  clear hsl
  have Hnn := Lib.hid hnn
  clear hnn
  have Hw2 := Lib.hid hw2
  clear hw2
  have Hg := Lib.hid hg
  clear hg
  have HT2 := Lib.hid hT2
  clear hT2
  have HR2 := Lib.hid hR2
  clear hR2
  have HW2 := Lib.hid hW2
  clear hW2
  have HO2 := Lib.hid hO2
  clear hO2
  have Hi40 := Lib.hid hi40
  clear hi40
  clear HT1 HR1 HW1
  go_wp2_with fail
  rw [← Hg.out, ← Hw2.out]
  clear t0 q0 q1 f0 f1 tl rl
  go_loopw [16] (fun i wr => ∃ (q : Nat) (B : Option Addr) (d m : Nat), q ≤ n ∧ i = .int .i64 q ∧ Hid (m = (gridAcc (oppF n xs) n q).length) ∧ Bk wr w.heap.size 34 #[.int .i64 n, .slice A L c] ∧ Bk wr (w.heap.size + 1) 34 #[.int .i64 0, .slice none 0 0] ∧ Bk wr g 34 #[.int .i64 n, .slice B m d] ∧ wr.ownsRow (g + 1) 3 1 (.slice B m d) m (ints (gridAcc (oppF n xs) n q)) ∧ Below w.heap.size w wr) (fun i _ => n - (intOf i).toNat)
  case atStart => exact ⟨0, none, 0, 0, Nat.zero_le _, rfl, rfl, HT2.out, HR2.out, HO2.out, World.ownsRow_nil _ _ _ _, HW2.out⟩
  case round =>
    clear HT2 HR2 HO2 HW2 Hw2 Hg
    obtain ⟨i, B, d, m, hi, rfl, HM, hT, hR, hO, hown, hW⟩ := hrel
    have t0 : wr.cell? ⟨w.heap.size, 0, none⟩ = some (.int .i64 n) := by rw [hT.cell]; rfl
    have tl := hT.lt
    by_cases hlt : i < n
    · skip
      have HT := Lib.hid hT
      clear hT
      have HO := Lib.hid hO
      clear hO
      have Hown := Lib.hid hown
      clear hown
      have HW := Lib.hid hW
      clear hW
      have HR_ := Lib.hid hR
      clear hR
      go_wp2_with fail
      go_loopw [21] (fun i_ wr => ∃ (q : Nat) (B : Option Addr) (d m : Nat), q ≤ n ∧ i_ = .int .i64 q ∧ Hid (m = (gridTo (oppF n xs) n i q).length) ∧ Bk wr w.heap.size 34 #[.int .i64 n, .slice A L c] ∧ Bk wr (w.heap.size + 1) 34 #[.int .i64 0, .slice none 0 0] ∧ Bk wr g 34 #[.int .i64 n, .slice B m d] ∧ wr.ownsRow (g + 1) 3 1 (.slice B m d) m (ints (gridTo (oppF n xs) n i q)) ∧ Below w.heap.size w wr) (fun i_ _ => n - (intOf i_).toNat)
      case atStart => exact ⟨0, B, d, m, Nat.zero_le _, rfl, by unfold Hid; rw [gridTo_zero]; exact HM.out, HT.out, HR_.out, HO.out, by rw [gridTo_zero]; exact Hown.out, HW.out⟩
      case round =>
        clear HT HR_ HO Hown HW HM t0 tl m B d
        obtain ⟨k, B, d, m, hk, rfl, HM, hT, hR, hO, hown, hW⟩ := hrel
        have t0 : wr.cell? ⟨w.heap.size, 0, none⟩ = some (.int .i64 n) := by rw [hT.cell]; rfl
        have t1 : wr.cell? ⟨w.heap.size, 1, none⟩ = some (.slice A L c) := by rw [hT.cell]; rfl
        have tl := hT.lt
        by_cases hltk : k < n
        · have hml : m ≤ 1640 := by rw [HM.out, gridTo_len]; have := Hi40.out i hi; omega
          have hgw : g < wr.heap.size := hO.lt
          have eT : ∀ W, Below wr.drew.heap.size wr.drew W → W.cell? ⟨w.heap.size, 0, none⟩ = some (.int .i64 n) ∧ W.cell? ⟨w.heap.size, 1, none⟩ = some (.slice A L c) ∧ W.cell? ⟨g, 1, none⟩ = some (.slice B m d) ∧ w.heap.size < W.heap.size ∧ g < W.heap.size := fun W hb => ⟨(hb.cell (p := ⟨w.heap.size, 0, none⟩) tl).trans t0, (hb.cell (p := ⟨w.heap.size, 1, none⟩) tl).trans t1, (hb.cell (p := ⟨g, 1, none⟩) hgw).trans (by rw [hO.drew.cell]; rfl), Nat.lt_of_lt_of_le tl hb.size, Nat.lt_of_lt_of_le hgw hb.size⟩
          have eO : ∀ W, Below wr.drew.heap.size wr.drew W → W.ownsRow (g + 1) 3 1 (.slice B m d) m (ints (gridTo (oppF n xs) n i k)) := fun W hb => own_keep (w := wr.drew) hown hb (Nat.le_refl _)
          have o1 : wr.cell? ⟨g, 1, none⟩ = some (.slice B m d) := by rw [hO.cell]; rfl
          have hV : Below wr.drew.heap.size wr.drew wr.drew := Below.refl _ _
          have hrk : Rd wr.drew A (ints xs) := Hr.out.keep hW.drew
          have hl : k * n + i < L := by rw [Hnn.out]; exact lin_lt hltk hlt
          have hU : True := trivial
          obtain ⟨v, hv⟩ : ∃ v, tg xs (k * n + i) = v := ⟨_, rfl⟩
          have hvf : oppF n xs i k = v := hv
          have ET := Lib.hid eT
          clear eT
          have EO := Lib.hid eO
          clear eO
          have HT := Lib.hid hT
          clear hT
          have HO := Lib.hid hO
          clear hO
          have Hown := Lib.hid hown
          clear hown
          have Hrk := Lib.hid hrk
          clear hrk
          have Hv := Lib.hid hv
          clear hv
          have Hvf := Lib.hid hvf
          clear hvf
          have HR_ := Lib.hid hR
          clear hR
          go_wp2_with fail
          go_region_law (first | (refine step_app1 _ _ rfl _ _ 30 rfl (g + 1) 3 1 8 _ Try.underlying30 info_int rfl (by omega) _ _ _ _ rfl rfl rfl (EO.out _ hV) rfl (one_cell1 _) (by omega) (by unfold maxLen; omega) (by have := hV.size; simp at this; omega) ?_; intro A5 c5 w5 hO5 hW5; have hB5 := (HO.out.drew.below hV (by simp; omega)).below hW5 (by omega); have hS5 := hB5.cell 1; have hF5 := hB5.free 1) | (go_simp; ((with_reducible refine (implTimes_any n A L c xs (k : Int) (i : Int) k i (k * n + i) _ (Hrk.out.keep hV) Hn.out hb rfl rfl rfl hl).mono ?_); rintro e u ⟨rfl, hU⟩; rw [Hv.out]; have hV := hV.trans (hU.mono hV.size); obtain ⟨u0, u1, u2, u3, u4⟩ := ET.out _ hV)))
          all_goals
            have hN : Below w.heap.size w (w5.setCell ⟨g, 1, none⟩ (.slice A5 (m + 1) c5)) := (((hW.drew).trans (hV.mono hW.size)).trans (hW5.mono (by omega))).setCell (by simp; omega) _
            have hTn := ((HT.out.drew.below hV (by simp; omega)).below hW5 (by omega)).far (p := ⟨g, 1, none⟩) (by simp; omega) (.slice A5 (m + 1) c5)
            have hRn := ((HR_.out.drew.below hV (by simp; omega)).below hW5 (by omega)).far (p := ⟨g, 1, none⟩) (by simp; omega) (.slice A5 (m + 1) c5)
            have hOn := hB5.put 1 (.slice A5 (m + 1) c5)
            have hon := ownsRow_setCell_below hO5 (a := ⟨g, 1, none⟩) (by simp) (.slice A5 (m + 1) c5)
            have hcl : ints (gridTo (oppF n xs) n i k) ++ (#[Value.int .i64 v] : Array Value).toList = ints (gridTo (oppF n xs) n i (k + 1)) := by
              rw [gridTo_succ, ints_snoc, Hvf.out]
            rw [hcl] at hon
            clear hO5 hB5 hcl hS5 hF5 hV hU ET EO HT HR_ HO Hown Hrk
            go_wp2_with fail
            go_roundw
            case rel => exact ⟨k + 1, A5, c5, m + 1, by omega, by go_num, by unfold Hid; rw [HM.out, gridTo_succ, List.length_append]; rfl, hTn, hRn, hOn, hon, hN⟩
            case measure => simp [intOf]; omega
        · have : k = n := by omega
          subst this
          clear t1
          have HT := Lib.hid hT
          clear hT
          have HO := Lib.hid hO
          clear hO
          have Hown := Lib.hid hown
          clear hown
          have HW := Lib.hid hW
          clear hW
          have HR_ := Lib.hid hR
          clear hR
          go_wp2_with fail
          go_roundw
          case rel => exact ⟨i + 1, B, d, m, by omega, by go_num, by unfold Hid; rw [gridAcc_succ]; exact HM.out, HT.out, HR_.out, HO.out, by rw [gridAcc_succ]; exact Hown.out, HW.out⟩
          case measure => simp [intOf]; omega
    · have : i = n := by omega
      subst this
      have l0 : wr.cell? ⟨g, 0, none⟩ = some (.int .i64 (i : Int)) := by rw [hO.cell]; rfl
      have l1 : wr.cell? ⟨g, 1, none⟩ = some (.slice B m d) := by rw [hO.cell]; rfl
      have r0 : wr.cell? ⟨w.heap.size + 1, 0, none⟩ = some (.int .i64 0) := by rw [hR.cell]; rfl
      have r1 : wr.cell? ⟨w.heap.size + 1, 1, none⟩ = some (.slice none 0 0) := by rw [hR.cell]; rfl
      have f0 := hR.free 0
      have f1 := hR.free 1
      have e1 : oppL (i : Int) xs = i := by rw [oppL, ← HR.out]; rfl
      have e2 : opps (i : Int) xs = gridAcc (oppF i xs) i i := by rw [opps, ← HR.out]; rfl
      have E1 := Lib.hid e1
      clear e1
      have E2 := Lib.hid e2
      clear e2
      have HO := Lib.hid hO
      clear hO
      go_wp2_with fail
      have hBn := (hR.put 0 (.int .i64 (i : Int))).put 1 (.slice B m d)
      have q0 := hBn.cell 0
      have q1 := hBn.cell 1
      refine bodyPost_ret (v := .tuple #[.agg #[.int .i64 (i : Int), .slice B m d], .bool true]) (by simp [results, Try.results25, go_sem, q0, q1]) rfl ?_
      rw [E1.out, E2.out, ← HM.out]
      refine ⟨B, d, ?_, ?_, ?_⟩
      · rw [← HR.out]
      · exact own_mono (ownsRow_setCell_below (ownsRow_setCell_below hown (a := ⟨w.heap.size + 1, 0, none⟩) (by simp; omega) _) (a := ⟨w.heap.size + 1, 1, none⟩) (by simp; omega) _) (by omega)
      · exact (hW.setCell (by simp) _).setCell (by simp) _

set_option maxRecDepth 100000 in
set_option maxHeartbeats 4000000 in
theorem specOppositeTable_any (s : Int) (A : Option Addr) (L c : Nat) (xs : List Int) (w : World) (hr : Rd w A (ints xs)) (hn : L = xs.length) (hb : L ≤ 1048576) :
    Calls Try.prog 23 #[.agg #[.int .i64 s, .slice A L c]] w (MadeTab w (oppL s xs) (opps s xs).length (opps s xs) (tableOk s xs)) := by
  have hW0 : Below w.heap.size w ((w.alloc (.cells #[.int .i64 s, .slice A L c] 34)).alloc (.cells #[.int .i64 0, .slice none 0 0] 34)) := ((Below.refl _ _).alloc (Nat.le_refl _) _).alloc (by simp) _
  have hT0 : Bk ((w.alloc (.cells #[.int .i64 s, .slice A L c] 34)).alloc (.cells #[.int .i64 0, .slice none 0 0] 34)) w.heap.size 34 #[.int .i64 s, .slice A L c] := (Bk.new w _ _).alloc _
  have hR0 : Bk ((w.alloc (.cells #[.int .i64 s, .slice A L c] 34)).alloc (.cells #[.int .i64 0, .slice none 0 0] 34)) (w.heap.size + 1) 34 #[.int .i64 0, .slice none 0 0] := (Bk.new (w.alloc (.cells #[.int .i64 s, .slice A L c] 34)) 34 #[.int .i64 0, .slice none 0 0]).cast (by simp)
  have Hr := Lib.hid hr
  clear hr
  have Hn := Lib.hid hn
  clear hn
  have HT0 := Lib.hid hT0
  clear hT0
  have HR0 := Lib.hid hR0
  clear hR0
  go_enter Try.func23, Try.ntmps23
  go_wp2_with fail
  refine (specTableOk_any s A L c xs _ (Hr.out.keep hW0) Hn.out hb).mono ?_
  rintro e w1 ⟨rfl, b1⟩
  have hT1 := HT0.out.below b1 HT0.out.lt
  have hR1 := HR0.out.below b1 HR0.out.lt
  have hW1 := hW0.trans (b1.mono hW0.size)
  have t0 : w1.cell? ⟨w.heap.size, 0, none⟩ = some (.int .i64 s) := by rw [hT1.cell]; rfl
  have q0 : w1.cell? ⟨w.heap.size + 1, 0, none⟩ = some (.int .i64 0) := by rw [hR1.cell]; rfl
  have q1 : w1.cell? ⟨w.heap.size + 1, 1, none⟩ = some (.slice none 0 0) := by rw [hR1.cell]; rfl
  have f0 := hR1.free 0
  have f1 := hR1.free 1
  have tl := hT1.lt
  have rl := hR1.lt
  clear HT0 HR0 hW0 b1
  have HT1 := Lib.hid hT1
  clear hT1
  have HR1 := Lib.hid hR1
  clear hR1
  have HW1 := Lib.hid hW1
  clear hW1
  obtain ⟨r, hrr⟩ : ∃ r', r' = (tableOk s xs) := ⟨_, rfl⟩
  rw [← hrr]
  have HR := Lib.hid hrr
  clear hrr
  cases r
  · go_wp2_with fail
    have e1 : oppL s xs = 0 := by rw [oppL, ← HR.out]; rfl
    have e2 : opps s xs = [] := by rw [opps, ← HR.out]; rfl
    refine bodyPost_ret (v := .tuple #[.agg #[.int .i64 0, .slice none 0 0], .bool false]) (by simp [results, Try.results23, go_sem, q0, q1]) rfl ?_
    rw [e1, e2]
    refine ⟨none, 0, by rw [← HR.out]; rfl, World.ownsRow_nil _ _ _ _, ?_⟩
    first | exact HW1.out | exact (HW1.out.setCell (by simp) _).setCell (by simp) _
  obtain ⟨hs1, hs2, hsl, -⟩ := tableOk_out HR.out.symm
  obtain ⟨n, rfl⟩ := Int.eq_ofNat_of_zero_le (show 0 ≤ s by omega)
  have hnn : L = n * n := by have e := sq_cast n; have := Hn.out; omega
  have hi40 : ∀ i, i ≤ n → i * n ≤ 1600 := fun i hi => Nat.mul_le_mul (by omega : i ≤ 40) (by omega : n ≤ 40)
  obtain ⟨g, hg⟩ : ∃ g, g = w1.heap.size := ⟨_, rfl⟩
  have hgl : w.heap.size + 2 ≤ g := by omega
  obtain ⟨w2, hw2⟩ : ∃ w2, w2 = w1.alloc (.cells #[.int .i64 (n : Int), .slice none 0 0] 34) := ⟨_, rfl⟩
  have hT2 := HT1.out.alloc (.cells #[.int .i64 (n : Int), .slice none 0 0] 34)
  have hR2 := HR1.out.alloc (.cells #[.int .i64 (n : Int), .slice none 0 0] 34)
  have hW2 := HW1.out.alloc HW1.out.size (.cells #[.int .i64 (n : Int), .slice none 0 0] 34)
  have hO2 := Bk.new w1 34 #[.int .i64 (n : Int), .slice none 0 0]
  rw [← hw2] at hT2 hR2 hW2 hO2
  rw [← hg] at hO2
  have Hsl := Lib.hid hsl
  clear hsl
  have Hnn := Lib.hid hnn
  clear hnn
  have Hw2 := Lib.hid hw2
  clear hw2
  have Hg := Lib.hid hg
  clear hg
  have HT2 := Lib.hid hT2
  clear hT2
  have HR2 := Lib.hid hR2
  clear hR2
  have HW2 := Lib.hid hW2
  clear hW2
  have HO2 := Lib.hid hO2
  clear hO2
  have Hi40 := Lib.hid hi40
  clear hi40
  clear HT1 HR1 HW1
  go_wp2_with fail
  rw [← Hg.out, ← Hw2.out]
  clear t0 q0 q1 f0 f1 tl rl
  go_loopw [5] (fun i wr => ∃ (q : Nat) (B : Option Addr) (d m : Nat), q ≤ n ∧ i = .int .i64 q ∧ Hid (m = (gridAcc (oppF n xs) n q).length) ∧ Bk wr w.heap.size 34 #[.int .i64 n, .slice A L c] ∧ Bk wr (w.heap.size + 1) 34 #[.int .i64 0, .slice none 0 0] ∧ Bk wr g 34 #[.int .i64 n, .slice B m d] ∧ wr.ownsRow (g + 1) 3 1 (.slice B m d) m (ints (gridAcc (oppF n xs) n q)) ∧ Below w.heap.size w wr) (fun i _ => n - (intOf i).toNat)
  case atStart => exact ⟨0, none, 0, 0, Nat.zero_le _, rfl, rfl, HT2.out, HR2.out, HO2.out, World.ownsRow_nil _ _ _ _, HW2.out⟩
  case round =>
    clear HT2 HR2 HO2 HW2 Hw2 Hg
    obtain ⟨i, B, d, m, hi, rfl, HM, hT, hR, hO, hown, hW⟩ := hrel
    have t0 : wr.cell? ⟨w.heap.size, 0, none⟩ = some (.int .i64 n) := by rw [hT.cell]; rfl
    have tl := hT.lt
    by_cases hlt : i < n
    · skip
      have HT := Lib.hid hT
      clear hT
      have HO := Lib.hid hO
      clear hO
      have Hown := Lib.hid hown
      clear hown
      have HW := Lib.hid hW
      clear hW
      have HR_ := Lib.hid hR
      clear hR
      go_wp2_with fail
      go_loopw [6] (fun i_ wr => ∃ (q : Nat) (B : Option Addr) (d m : Nat), q ≤ n ∧ i_ = .int .i64 q ∧ Hid (m = (gridTo (oppF n xs) n i q).length) ∧ Bk wr w.heap.size 34 #[.int .i64 n, .slice A L c] ∧ Bk wr (w.heap.size + 1) 34 #[.int .i64 0, .slice none 0 0] ∧ Bk wr g 34 #[.int .i64 n, .slice B m d] ∧ wr.ownsRow (g + 1) 3 1 (.slice B m d) m (ints (gridTo (oppF n xs) n i q)) ∧ Below w.heap.size w wr) (fun i_ _ => n - (intOf i_).toNat)
      case atStart => exact ⟨0, B, d, m, Nat.zero_le _, rfl, by unfold Hid; rw [gridTo_zero]; exact HM.out, HT.out, HR_.out, HO.out, by rw [gridTo_zero]; exact Hown.out, HW.out⟩
      case round =>
        clear HT HR_ HO Hown HW HM t0 tl m B d
        obtain ⟨k, B, d, m, hk, rfl, HM, hT, hR, hO, hown, hW⟩ := hrel
        have t0 : wr.cell? ⟨w.heap.size, 0, none⟩ = some (.int .i64 n) := by rw [hT.cell]; rfl
        have t1 : wr.cell? ⟨w.heap.size, 1, none⟩ = some (.slice A L c) := by rw [hT.cell]; rfl
        have tl := hT.lt
        by_cases hltk : k < n
        · have hml : m ≤ 1640 := by rw [HM.out, gridTo_len]; have := Hi40.out i hi; omega
          have hgw : g < wr.heap.size := hO.lt
          have eT : ∀ W, Below wr.drew.heap.size wr.drew W → W.cell? ⟨w.heap.size, 0, none⟩ = some (.int .i64 n) ∧ W.cell? ⟨w.heap.size, 1, none⟩ = some (.slice A L c) ∧ W.cell? ⟨g, 1, none⟩ = some (.slice B m d) ∧ w.heap.size < W.heap.size ∧ g < W.heap.size := fun W hb => ⟨(hb.cell (p := ⟨w.heap.size, 0, none⟩) tl).trans t0, (hb.cell (p := ⟨w.heap.size, 1, none⟩) tl).trans t1, (hb.cell (p := ⟨g, 1, none⟩) hgw).trans (by rw [hO.drew.cell]; rfl), Nat.lt_of_lt_of_le tl hb.size, Nat.lt_of_lt_of_le hgw hb.size⟩
          have eO : ∀ W, Below wr.drew.heap.size wr.drew W → W.ownsRow (g + 1) 3 1 (.slice B m d) m (ints (gridTo (oppF n xs) n i k)) := fun W hb => own_keep (w := wr.drew) hown hb (Nat.le_refl _)
          have o1 : wr.cell? ⟨g, 1, none⟩ = some (.slice B m d) := by rw [hO.cell]; rfl
          have hV : Below wr.drew.heap.size wr.drew wr.drew := Below.refl _ _
          have hrk : Rd wr.drew A (ints xs) := Hr.out.keep hW.drew
          have hl : k * n + i < L := by rw [Hnn.out]; exact lin_lt hltk hlt
          have hU : True := trivial
          obtain ⟨v, hv⟩ : ∃ v, tg xs (k * n + i) = v := ⟨_, rfl⟩
          have hvf : oppF n xs i k = v := hv
          have ET := Lib.hid eT
          clear eT
          have EO := Lib.hid eO
          clear eO
          have HT := Lib.hid hT
          clear hT
          have HO := Lib.hid hO
          clear hO
          have Hown := Lib.hid hown
          clear hown
          have Hrk := Lib.hid hrk
          clear hrk
          have Hv := Lib.hid hv
          clear hv
          have Hvf := Lib.hid hvf
          clear hvf
          have HR_ := Lib.hid hR
          clear hR
          go_wp2_with fail
          go_region_law (first | (refine step_app1 _ _ rfl _ _ 30 rfl (g + 1) 3 1 8 _ Try.underlying30 info_int rfl (by omega) _ _ _ _ rfl rfl rfl (EO.out _ hV) rfl (one_cell1 _) (by omega) (by unfold maxLen; omega) (by have := hV.size; simp at this; omega) ?_; intro A5 c5 w5 hO5 hW5; have hB5 := (HO.out.drew.below hV (by simp; omega)).below hW5 (by omega); have hS5 := hB5.cell 1; have hF5 := hB5.free 1) | (go_simp; ((with_reducible refine (specTimes_any n A L c xs (k : Int) (i : Int) k i (k * n + i) _ (Hrk.out.keep hV) Hn.out hb rfl rfl rfl hl).mono ?_); rintro e u ⟨rfl, hU⟩; rw [Hv.out]; have hV := hV.trans (hU.mono hV.size); obtain ⟨u0, u1, u2, u3, u4⟩ := ET.out _ hV)))
          all_goals
            have hN : Below w.heap.size w (w5.setCell ⟨g, 1, none⟩ (.slice A5 (m + 1) c5)) := (((hW.drew).trans (hV.mono hW.size)).trans (hW5.mono (by omega))).setCell (by simp; omega) _
            have hTn := ((HT.out.drew.below hV (by simp; omega)).below hW5 (by omega)).far (p := ⟨g, 1, none⟩) (by simp; omega) (.slice A5 (m + 1) c5)
            have hRn := ((HR_.out.drew.below hV (by simp; omega)).below hW5 (by omega)).far (p := ⟨g, 1, none⟩) (by simp; omega) (.slice A5 (m + 1) c5)
            have hOn := hB5.put 1 (.slice A5 (m + 1) c5)
            have hon := ownsRow_setCell_below hO5 (a := ⟨g, 1, none⟩) (by simp) (.slice A5 (m + 1) c5)
            have hcl : ints (gridTo (oppF n xs) n i k) ++ (#[Value.int .i64 v] : Array Value).toList = ints (gridTo (oppF n xs) n i (k + 1)) := by
              rw [gridTo_succ, ints_snoc, Hvf.out]
            rw [hcl] at hon
            clear hO5 hB5 hcl hS5 hF5 hV hU ET EO HT HR_ HO Hown Hrk
            go_wp2_with fail
            go_roundw
            case rel => exact ⟨k + 1, A5, c5, m + 1, by omega, by go_num, by unfold Hid; rw [HM.out, gridTo_succ, List.length_append]; rfl, hTn, hRn, hOn, hon, hN⟩
            case measure => simp [intOf]; omega
        · have : k = n := by omega
          subst this
          clear t1
          have HT := Lib.hid hT
          clear hT
          have HO := Lib.hid hO
          clear hO
          have Hown := Lib.hid hown
          clear hown
          have HW := Lib.hid hW
          clear hW
          have HR_ := Lib.hid hR
          clear hR
          go_wp2_with fail
          go_roundw
          case rel => exact ⟨i + 1, B, d, m, by omega, by go_num, by unfold Hid; rw [gridAcc_succ]; exact HM.out, HT.out, HR_.out, HO.out, by rw [gridAcc_succ]; exact Hown.out, HW.out⟩
          case measure => simp [intOf]; omega
    · have : i = n := by omega
      subst this
      have l0 : wr.cell? ⟨g, 0, none⟩ = some (.int .i64 (i : Int)) := by rw [hO.cell]; rfl
      have l1 : wr.cell? ⟨g, 1, none⟩ = some (.slice B m d) := by rw [hO.cell]; rfl
      have r0 : wr.cell? ⟨w.heap.size + 1, 0, none⟩ = some (.int .i64 0) := by rw [hR.cell]; rfl
      have r1 : wr.cell? ⟨w.heap.size + 1, 1, none⟩ = some (.slice none 0 0) := by rw [hR.cell]; rfl
      have f0 := hR.free 0
      have f1 := hR.free 1
      have e1 : oppL (i : Int) xs = i := by rw [oppL, ← HR.out]; rfl
      have e2 : opps (i : Int) xs = gridAcc (oppF i xs) i i := by rw [opps, ← HR.out]; rfl
      have E1 := Lib.hid e1
      clear e1
      have E2 := Lib.hid e2
      clear e2
      have HO := Lib.hid hO
      clear hO
      go_wp2_with fail
      have hBn := (hR.put 0 (.int .i64 (i : Int))).put 1 (.slice B m d)
      have q0 := hBn.cell 0
      have q1 := hBn.cell 1
      refine bodyPost_ret (v := .tuple #[.agg #[.int .i64 (i : Int), .slice B m d], .bool true]) (by simp [results, Try.results23, go_sem, q0, q1]) rfl ?_
      rw [E1.out, E2.out, ← HM.out]
      refine ⟨B, d, ?_, ?_, ?_⟩
      · rw [← HR.out]
      · exact own_mono (ownsRow_setCell_below (ownsRow_setCell_below hown (a := ⟨w.heap.size + 1, 0, none⟩) (by simp; omega) _) (a := ⟨w.heap.size + 1, 1, none⟩) (by simp; omega) _) (by omega)
      · exact (hW.setCell (by simp) _).setCell (by simp) _

end Go.Proofs.Ytpbaccpojihpmaa
