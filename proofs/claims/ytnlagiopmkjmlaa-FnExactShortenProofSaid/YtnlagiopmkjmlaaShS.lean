/- Walks over l12Twice of the reference and ShortenProof of the program. -/
import Derived.Test.YtnlagiopmkjmlaaDel
import Derived.Test.YtnlagiopmkjmlaaShort
import Derived.Test.YtnlagiopmkjmlaaEnds
namespace Go.Proofs.Ytnlagiopmkjmlaa
open Go.RowKit Go.Shelf

theorem ob_eq (a : Option Addr) (n c n' c' : Nat) : (Value.slice a n c).ownBlock = (Value.slice a n' c').ownBlock := by cases a <;> rfl
theorem str_at {w : World} {A : Option Addr} {ws : List ByteArray} (h : Rd w A (strs ws)) {k : Nat} (hk : k < ws.length) : ∃ b off, A = some ⟨b, off, none⟩ ∧ b < w.heap.size ∧ w.cell? ⟨b, off + k, none⟩ = some (.string (wAt ws k)) := by
  rw [wAt_lt hk]
  exact rd_Str h hk

set_option maxRecDepth 100000 in
set_option maxHeartbeats 4000000 in
theorem specTwice_any (A : Option Addr) (n c : Nat) (ws : List ByteArray) (w : World) (hr : Rd w A (strs ws)) (hn : n = ws.length) (hb : n ≤ 1048576) :
    Calls Try.prog 74 #[.slice A n c] w (fun e w' => ∃ a b : Int, e = .returned (.tuple #[.int .i64 a, .int .i64 b]) ∧ TwR ws a b ∧ w' = w) := by
  have Hr := Lib.hid hr
  clear hr
  have Hn := Lib.hid hn
  clear hn
  go_enter Try.func74, Try.ntmps74
  go_wp2_with fail
  go_loopw [9] (fun iv wr => ∃ (i : Nat), i ≤ n ∧ iv = .int .i64 (i : Int) ∧ Hid (∀ j, j < i → noLater ws j) ∧ wr = w) (fun iv _ => n - (intOf iv).toNat)
  case atStart => exact ⟨0, Nat.zero_le _, rfl, Lib.hid (fun j hj => absurd hj (Nat.not_lt_zero _)), rfl⟩
  case round =>
    obtain ⟨i, hi, rfl, HN, rfl⟩ := hrel
    by_cases hlt : i < n
    · have hiw : i < ws.length := by rw [← Hn.out]; exact hlt
      obtain ⟨b, o, hA, hbl, p0⟩ := str_at Hr.out hiw
      obtain ⟨x, hx⟩ : ∃ x, x = wAt ws i := ⟨_, rfl⟩
      rw [← hx] at p0
      have hn1 : IntKind.i64.wrap ((n : Int) - 1) = (n : Int) - 1 := IntWalk.i64_in _ ⟨by omega, by omega⟩
      subst hA
      have Hx := Lib.hid hx
      clear hx
      go_wp2_with fail
      go_loopw [6] (fun kv wr' => ∃ (q : Nat), i + 1 ≤ q ∧ q ≤ n ∧ kv = .int .i64 ((q : Int) - 1) ∧ Hid (∀ k', q ≤ k' → k' < n → wAt ws k' ≠ wAt ws i) ∧ wr' = wr) (fun kv _ => (intOf kv + 1).toNat)
      case atStart => exact ⟨n, by omega, Nat.le_refl _, rfl, Lib.hid (fun k' h1 h2 => by omega), by first | rfl | trivial⟩
      case round =>
        clear hn1
        obtain ⟨q, hq1, hq2, rfl, HK, rfl⟩ := hrel
        obtain ⟨j, rfl⟩ : ∃ j, q = j + 1 := ⟨q - 1, by omega⟩
        have h1 : ((j + 1 : Nat) : Int) - 1 = (j : Int) := by omega
        rw [h1]
        by_cases hji : i < j
        · have hjn : j < n := by omega
          have hjw : j < ws.length := by rw [← Hn.out]; exact hjn
          obtain ⟨b', o', he', hbl', q0⟩ := str_at Hr.out hjw
          injection he' with he'
          injection he' with e1 e2 _
          subst e1 e2
          obtain ⟨y, hy⟩ : ∃ x, x = wAt ws j := ⟨_, rfl⟩
          rw [← hy] at q0
          have hw1 : IntKind.i64.wrap ((j : Int) - 1) = (j : Int) - 1 := IntWalk.i64_in _ ⟨by omega, by omega⟩
          have hji2 : (i : Int) < (j : Int) := by omega
          have hjn2 : (j : Int) < (n : Int) := by omega
          have hq := str_eq y x
          by_cases hyx : y = x
          · rw [decide_eq_true hyx] at hq
            have hT : TwR ws (i : Int) (j : Int) := .inr ⟨i, j, rfl, rfl, hji, hjw, by rw [← hy, ← Hx.out]; exact hyx, fun k' h2 h3 => HK.out k' (by omega) (by rw [Hn.out]; exact h3), HN.out⟩
            clear hbl'
            have Hy := Lib.hid hy
            clear hy
            have Hyx := Lib.hid hyx
            clear hyx
            have HT := Lib.hid hT
            clear hT
            go_wp2_with fail
            go_ret2
            exact ⟨_, _, rfl, HT.out, rfl⟩
          · rw [decide_eq_false hyx] at hq
            have hK2 : ∀ k', j ≤ k' → k' < n → wAt ws k' ≠ wAt ws i := fun k' h2 h3 => by
              by_cases hkj : k' = j
              · rw [hkj, ← hy, ← Hx.out]; exact hyx
              · exact HK.out k' (by omega) h3
            clear hbl'
            have Hy := Lib.hid hy
            clear hy
            have Hyx := Lib.hid hyx
            clear hyx
            have HK2 := Lib.hid hK2
            clear hK2
            go_wp2_with fail
            go_roundw
            case rel => exact ⟨j, by omega, by omega, rfl, HK2, by first | rfl | trivial⟩
            case measure => simp [intOf] <;> omega
        · have : j = i := by omega
          subst this
          have hji2 : ¬ (j : Int) < (j : Int) := by omega
          have hN2 : ∀ j', j' < j + 1 → noLater ws j' := fun j' hj' => by
            by_cases hjj : j' = j
            · subst hjj
              exact fun k h2 h3 => HK.out k (by omega) (by rw [Hn.out]; exact h3)
            · exact HN.out j' (by omega)
          have HN2 := Lib.hid hN2
          clear hN2
          go_wp2_with fail
          go_roundw
          case rel => exact ⟨j + 1, by omega, by go_num, HN2, by first | rfl | trivial⟩
          case measure => simp [intOf] <;> omega
    · have : i = n := by omega
      subst this
      have hT : TwR ws (-1) (-1) := .inl ⟨rfl, rfl, by rw [← Hn.out]; exact HN.out⟩
      have HT := Lib.hid hT
      clear hT
      go_wp2_with fail
      go_ret2
      exact ⟨_, _, rfl, HT.out, rfl⟩

set_option maxRecDepth 100000 in
set_option maxHeartbeats 8000000 in
theorem implShortenProof_any (l : Int) (A : Option Addr) (n c : Nat) (rs : List RuleT) (s : ByteArray) (B0 : Option Addr) (m0 d0 : Nat) (xs : List LinkT) (w : World) (hr : Rd w A (cellsRule rs)) (hn : n = rs.length) (hb : n ≤ 1048576) (hz : ∀ x ∈ rs, x.1.size ≤ 1048576 ∧ x.2.size ≤ 1048576) (hs : s.size ≤ 1048576) (hy : Rd w B0 (cellsLink xs)) (hm : m0 = xs.length) (hbm : m0 ≤ 1048576) :
    Calls Try.prog 33 #[.agg #[.int .i64 l, .slice A n c], .string s, .slice B0 m0 d0] w (MadeSlB w 76 3 (shpL l rs s xs).length (cellsLink (shpL l rs s xs)) (shpOk l rs s xs)) := by
  have hW0 : Below w.heap.size w (w.alloc (.cells #[.int .i64 l, .slice A n c] 29)) := (Below.refl _ _).alloc (Nat.le_refl _) _
  have hS0 := Bk.new w 29 #[.int .i64 l, .slice A n c]
  have Hr := Lib.hid hr
  clear hr
  have Hn := Lib.hid hn
  clear hn
  have Hz := Lib.hid hz
  clear hz
  have Hy := Lib.hid hy
  clear hy
  have Hm := Lib.hid hm
  clear hm
  go_enter Try.func33, Try.ntmps33
  go_wp2_with fail
  with_reducible refine (implChainOf_any l A n c rs s B0 m0 d0 xs _ (Hr.out.keep hW0) Hn.out hb Hz.out hs (Hy.out.keep hW0) Hm.out hbm).mono ?_
  rintro e w1 ⟨B, d, rfl, hO', b1⟩
  have hW1 := hW0.trans (b1.mono hW0.size)
  have hO := own_mono (b' := w.heap.size) hO' hW0.size
  clear hO' b1 hS0 hW0
  obtain ⟨ok, hok⟩ : ∃ k, k = coOk l rs s xs := ⟨_, rfl⟩
  rw [← hok]
  cases ok
  · have e1 : shpL l rs s xs = [] := by rw [shpL, ← hok]; rfl
    have e2 : shpOk l rs s xs = false := by rw [shpOk, ← hok]
    have E1 := Lib.hid e1
    clear e1
    have E2 := Lib.hid e2
    clear e2
    have Hok := Lib.hid hok
    clear hok
    have HO := Lib.hid hO
    clear hO
    go_wp2_with fail
    go_ret2
    rw [E1.out, E2.out]
    exact ⟨none, 0, rfl, World.ownsRow_nil _ _ _ _, hW1⟩
  obtain ⟨hl1, hl2⟩ := co_len hok.symm
  obtain ⟨ws0, hws0⟩ : ∃ ws, ws = coL l rs s xs := ⟨_, rfl⟩
  have e1 : shpL l rs s xs = shGo 300 0 ws0 xs := by rw [shpL, ← hok, hws0]; rfl
  have e2 : shpOk l rs s xs = true := by rw [shpOk, ← hok]
  rw [← hws0] at hO hl1 ⊢
  obtain ⟨R, hRR⟩ : ∃ R, R = shpL l rs s xs := ⟨_, rfl⟩
  rw [← hRR] at e1
  obtain ⟨z0, hz0⟩ : ∃ z, z = ws0.length := ⟨_, rfl⟩
  rw [← hz0] at hO hl1 ⊢
  have hcl := cloneLink_any B0 m0 d0 xs w1 (Hy.out.keep hW1) Hm.out hbm
  have E1 := Lib.hid e1
  clear e1
  have E2 := Lib.hid e2
  clear e2
  have Hok := Lib.hid hok
  clear hok
  have HO := Lib.hid hO
  clear hO
  have Hws0 := Lib.hid hws0
  clear hws0
  have HRR := Lib.hid hRR
  clear hRR
  have Hz0 := Lib.hid hz0
  clear hz0
  have Hcl := Lib.hid hcl
  clear hcl
  go_wp2_with fail
  refine Hcl.out.mono ?_
  rintro e w2 ⟨B2, d2, rfl, hO2, b2⟩
  have hW2 := hW1.trans (b2.mono hW1.size)
  have hO1 := own_keep HO.out b2 (Nat.le_refl _)
  have hap := own_apart HO.out hO2 (Nat.le_refl _)
  have hap2 := own_apart' hO2 HO.out (Nat.le_refl _)
  have hO3 := own_mono (b' := w.heap.size) hO2 hW1.size
  clear HO b2 hO2 hW1
  have HO1 := Lib.hid hO1
  clear hO1
  have HO3 := Lib.hid hO3
  clear hO3
  have Hap := Lib.hid hap
  clear hap
  have Hap2 := Lib.hid hap2
  clear hap2
  have HW2 := Lib.hid hW2
  clear hW2
  go_wp2_with fail
  go_loopw [8, 10, 11] (fun v8 v10 iv wr => ∃ (i z z2 : Nat) (ws : List ByteArray) (ls : List LinkT), v8 = .slice B z d ∧ v10 = .slice B2 z2 d2 ∧ iv = .int .i64 (i : Int) ∧ z2 + 1 = z ∧ z ≤ 201 ∧ i ≤ z ∧ Hid (z = ws.length) ∧ Hid (z2 = ls.length) ∧ Hid (R = shGo (300 - i) i ws ls) ∧ wr.ownsRow w.heap.size 9 1 (.slice B z d) z (strs ws) ∧ wr.ownsRow w.heap.size 76 3 (.slice B2 z2 d2) z2 (cellsLink ls) ∧ Below w.heap.size w wr) (fun v8 _ iv _ => slenOf v8 - (intOf iv).toNat)
  case atStart => exact ⟨0, z0, m0, ws0, xs, rfl, rfl, rfl, by rw [Hm.out]; exact hl1, by omega, Nat.zero_le _, Hz0, Hm, E1, HO1.out, HO3.out, HW2.out⟩
  case round =>
    clear HO1 HO3 HW2
    obtain ⟨i, z, z2, ws, ls, rfl, rfl, rfl, hzz, hz201, hiz, HZ, HZ2, HR, hO, hO2, hW⟩ := hrel
    by_cases hlt : i < z
    · have hiw : i < ws.length := by rw [← HZ.out]; exact hlt
      have hrd := Rd.of_own hO
      obtain ⟨b, o, hBe, hbl, p0⟩ := str_at hrd hiw
      obtain ⟨x, hx⟩ : ∃ x, x = wAt ws i := ⟨_, rfl⟩
      rw [← hx] at p0
      have hiz2 : (i : Int) < (z : Int) := by omega
      have hl0 : lastTo7 ws i 0 = i := rfl
      have HO := Lib.hid hO
      clear hO
      have HO2 := Lib.hid hO2
      clear hO2
      have HW := Lib.hid hW
      clear hW
      have Hrd := Lib.hid hrd
      clear hrd
      have Hx := Lib.hid hx
      clear hx
      have Hl0 := Lib.hid hl0
      clear hl0
      go_wp2_with fail
      go_loopw [12, 35] (fun lv kv wr' => ∃ (q L : Nat), lv = .int .i64 (L : Int) ∧ kv = .int .i64 (q : Int) ∧ q ≤ z ∧ Hid (L = lastTo7 ws i q) ∧ wr' = wr) (fun _ kv _ => z - (intOf kv).toNat)
      case atStart => exact ⟨0, i, rfl, rfl, Nat.zero_le _, Lib.hid rfl, by first | rfl | trivial⟩
      case round =>
        obtain ⟨q, L, rfl, rfl, hq, HL, rfl⟩ := hrel
        by_cases hltq : q < z
        · have hqw : q < ws.length := by rw [← HZ.out]; exact hltq
          obtain ⟨b', o', he', hbl', q0⟩ := str_at Hrd.out hqw
          rw [hBe] at he'
          injection he' with he'
          injection he' with e1 e2 _
          subst e1 e2
          obtain ⟨y, hy⟩ : ∃ x, x = wAt ws q := ⟨_, rfl⟩
          rw [← hy] at q0
          have hqe := str_eq y x
          subst hBe
          by_cases hyx : y = x
          · rw [decide_eq_true hyx] at hqe
            have hL2 : q = lastTo7 ws i (q + 1) := by rw [lastTo7, if_pos (by rw [← hy, ← Hx.out]; exact hyx)]
            clear hbl'
            have Hy := Lib.hid hy
            clear hy
            have Hyx := Lib.hid hyx
            clear hyx
            have HL2 := Lib.hid hL2
            clear hL2
            go_wp2_with fail
            go_roundw
            case rel => exact ⟨q + 1, q, by go_num, by go_num, by omega, HL2, by first | rfl | trivial⟩
            case measure => simp [intOf] <;> omega
          · rw [decide_eq_false hyx] at hqe
            have hL2 : L = lastTo7 ws i (q + 1) := by rw [lastTo7, if_neg (by rw [← hy, ← Hx.out]; exact hyx)]; exact HL.out
            clear hbl'
            have Hy := Lib.hid hy
            clear hy
            have Hyx := Lib.hid hyx
            clear hyx
            have HL2 := Lib.hid hL2
            clear hL2
            go_wp2_with fail
            go_roundw
            case rel => exact ⟨q + 1, L, rfl, by go_num, by omega, HL2, by first | rfl | trivial⟩
            case measure => simp [intOf] <;> omega
        · have : q = z := by omega
          subst this
          have hL : L = lastOf ws i := by rw [HL.out, lastOf, HZ.out]
          obtain ⟨h1, h2, _, _⟩ := lastOf_spec hiw
          rw [← hL, ← HZ.out] at h2
          rw [← hL] at h1
          have hLz2 : L ≤ z2 := by omega
          have hoc := one_cell_strs ws
          have hoc2 := one_cell_links ls
          have hR2 : R = shGo (300 - (i + 1)) (i + 1) (cutL ws i L) (cutL ls i L) := by rw [HR.out, shGo_go (by omega) hiw, ← hL]; congr 1
          have hZ3 : q - (L - i) = (cutL ws i L).length := by rw [cutL_len h1 (by rw [← HZ.out]; omega), ← HZ.out]
          have hZ4 : z2 - (L - i) = (cutL ls i L).length := by rw [cutL_len h1 (by rw [← HZ2.out]; omega), ← HZ2.out]
          have hd1 := deleteStr_any B q d (strs ws) i L w.heap.size _ HO.out h1 (by omega) (by omega) hoc
          clear hL HL p0 hbl
          subst hBe
          have Hoc := Lib.hid hoc
          clear hoc
          have Hoc2 := Lib.hid hoc2
          clear hoc2
          have HR2 := Lib.hid hR2
          clear hR2
          have HZ3 := Lib.hid hZ3
          clear hZ3
          have HZ4 := Lib.hid hZ4
          clear hZ4
          have Hd1 := Lib.hid hd1
          clear hd1
          go_wp2_with fail
          refine Hd1.out.mono ?_
          rintro e w5 ⟨rfl, hO5, hG5⟩
          rw [← strs_cut] at hO5
          have hO25 := HO2.out.kept hG5 (by have h := Hap2.out; rw [ob_eq B2 m0 d2 z2 d2, ob_eq _ z0 d q d] at h; exact h)
          have hW5 := HW.out.grown hG5 HW.out.size (fun k hk => (HO.out.lt k hk).1)
          have hd2 := deleteLink_any B2 z2 d2 (cellsLink ls) i L w.heap.size w5 hO25 h1 hLz2 (by omega) Hoc2.out
          clear HO HO2 HW Hrd hG5
          have HO5 := Lib.hid hO5
          clear hO5
          have HO25 := Lib.hid hO25
          clear hO25
          have HW5 := Lib.hid hW5
          clear hW5
          have Hd2 := Lib.hid hd2
          clear hd2
          go_wp2_with fail
          refine Hd2.out.mono ?_
          rintro e w6 ⟨rfl, hO6, hG6⟩
          rw [← links_cut] at hO6
          have hO56 := HO5.out.kept hG6 (by have h := Hap.out; rw [ob_eq B2 m0 d2 z2 d2, ob_eq _ z0 d (q - (L - i)) d] at h; exact h)
          have hW6 := HW5.out.grown hG6 HW5.out.size (fun k hk => (HO25.out.lt k hk).1)
          clear HO5 HO25 HW5 hG6
          have HO6 := Lib.hid hO6
          clear hO6
          have HO56 := Lib.hid hO56
          clear hO56
          have HW6 := Lib.hid hW6
          clear hW6
          go_wp2_with fail
          go_roundw
          case rel => exact ⟨i + 1, q - (L - i), z2 - (L - i), _, _, rfl, rfl, by go_num, by omega, by omega, by omega, HZ3, HZ4, HR2, HO56.out, HO6.out, HW6.out⟩
          case measure => simp [intOf, slenOf] <;> omega
    · have : i = z := by omega
      subst this
      have hRe : R = ls := by rw [HR.out, shGo_end (by rw [← HZ.out]; exact Nat.le_refl _)]
      have HRe := Lib.hid hRe
      clear hRe
      have HO := Lib.hid hO
      clear hO
      have HO2 := Lib.hid hO2
      clear hO2
      have HW := Lib.hid hW
      clear hW
      go_wp2_with fail
      go_ret2
      rw [E2.out, ← HRR.out, HRe.out, ← HZ2.out]
      exact ⟨B2, d2, rfl, HO2.out, HW.out⟩

end Go.Proofs.Ytnlagiopmkjmlaa
