/- Merged texts: a claim has a limit of files. -/
import Derived.Test.YtidmbeeadbedaaaDel
import Derived.Test.YtidmbeeadbedaaaMg12

/- Walks over l12Twice of the reference and ShortenProof of the program. -/
namespace Go.Proofs.Ytidmbeeadbedaaa
open Go.RowKit Go.Shelf

theorem ob_eq (a : Option Addr) (n c n' c' : Nat) : (Value.slice a n c).ownBlock = (Value.slice a n' c').ownBlock := by cases a <;> rfl
theorem str_at {w : World} {A : Option Addr} {ws : List ByteArray} (h : Rd w A (strs ws)) {k : Nat} (hk : k < ws.length) : ∃ b off, A = some ⟨b, off, none⟩ ∧ b < w.heap.size ∧ w.cell? ⟨b, off + k, none⟩ = some (.string (wAt ws k)) := by
  rw [wAt_lt hk]
  exact rd_Str h hk


set_option maxRecDepth 100000 in
set_option maxHeartbeats 8000000 in
theorem implShortenProof_any (l : Int) (A : Option Addr) (n c : Nat) (rs : List RuleT) (s : ByteArray) (B0 : Option Addr) (m0 d0 : Nat) (xs : List LinkT) (w : World) (hr : Rd w A (cellsRule rs)) (hn : n = rs.length) (hb : n ≤ 1048576) (hz : ∀ x ∈ rs, x.1.size ≤ 1048576 ∧ x.2.size ≤ 1048576) (hs : s.size ≤ 1048576) (hy : Rd w B0 (cellsLink xs)) (hm : m0 = xs.length) (hbm : m0 ≤ 1048576) :
    Calls Try.prog 11 #[.agg #[.int .i64 l, .slice A n c], .string s, .slice B0 m0 d0] w (MadeSlB w 95 3 (shpL l rs s xs).length (cellsLink (shpL l rs s xs)) (shpOk l rs s xs)) := by
  have hW0 : Below w.heap.size w (w.alloc (.cells #[.int .i64 l, .slice A n c] 25)) := (Below.refl _ _).alloc (Nat.le_refl _) _
  have hS0 := Bk.new w 25 #[.int .i64 l, .slice A n c]
  have Hr := Lib.hid hr
  clear hr
  have Hn := Lib.hid hn
  clear hn
  have Hz := Lib.hid hz
  clear hz
  have Hy := Lib.hid hy
  clear hy
  have Hm := Lib.hid hm
  clear hm
  go_enter Try.func11, Try.ntmps11
  go_wp2_with fail
  with_reducible refine (implChainOf_any l A n c rs s B0 m0 d0 xs _ (Hr.out.keep hW0) Hn.out hb Hz.out hs (Hy.out.keep hW0) Hm.out hbm).mono ?_
  rintro e w1 ⟨B, d, rfl, hO', b1⟩
  have hW1 := hW0.trans (b1.mono hW0.size)
  have hO := own_mono (b' := w.heap.size) hO' hW0.size
  clear hO' b1 hS0 hW0
  obtain ⟨ok, hok⟩ : ∃ k, k = coOk l rs s xs := ⟨_, rfl⟩
  rw [← hok]
  cases ok
  · have e1 : shpL l rs s xs = [] := by rw [shpL, ← hok]; rfl
    have e2 : shpOk l rs s xs = false := by rw [shpOk, ← hok]
    have E1 := Lib.hid e1
    clear e1
    have E2 := Lib.hid e2
    clear e2
    have Hok := Lib.hid hok
    clear hok
    have HO := Lib.hid hO
    clear hO
    go_wp2_with fail
    go_ret2
    rw [E1.out, E2.out]
    exact ⟨none, 0, rfl, World.ownsRow_nil _ _ _ _, hW1⟩
  obtain ⟨hl1, hl2⟩ := co_len hok.symm
  obtain ⟨ws0, hws0⟩ : ∃ ws, ws = coL l rs s xs := ⟨_, rfl⟩
  have e1 : shpL l rs s xs = shGo 300 0 ws0 xs := by rw [shpL, ← hok, hws0]; rfl
  have e2 : shpOk l rs s xs = true := by rw [shpOk, ← hok]
  rw [← hws0] at hO hl1 ⊢
  obtain ⟨R, hRR⟩ : ∃ R, R = shpL l rs s xs := ⟨_, rfl⟩
  rw [← hRR] at e1
  obtain ⟨z0, hz0⟩ : ∃ z, z = ws0.length := ⟨_, rfl⟩
  rw [← hz0] at hO hl1 ⊢
  have hcl := cloneLink_any B0 m0 d0 xs w1 (Hy.out.keep hW1) Hm.out hbm
  have E1 := Lib.hid e1
  clear e1
  have E2 := Lib.hid e2
  clear e2
  have Hok := Lib.hid hok
  clear hok
  have HO := Lib.hid hO
  clear hO
  have Hws0 := Lib.hid hws0
  clear hws0
  have HRR := Lib.hid hRR
  clear hRR
  have Hz0 := Lib.hid hz0
  clear hz0
  have Hcl := Lib.hid hcl
  clear hcl
  go_wp2_with fail
  refine Hcl.out.mono ?_
  rintro e w2 ⟨B2, d2, rfl, hO2, b2⟩
  have hW2 := hW1.trans (b2.mono hW1.size)
  have hO1 := own_keep HO.out b2 (Nat.le_refl _)
  have hap := own_apart HO.out hO2 (Nat.le_refl _)
  have hap2 := own_apart' hO2 HO.out (Nat.le_refl _)
  have hO3 := own_mono (b' := w.heap.size) hO2 hW1.size
  clear HO b2 hO2 hW1
  have HO1 := Lib.hid hO1
  clear hO1
  have HO3 := Lib.hid hO3
  clear hO3
  have Hap := Lib.hid hap
  clear hap
  have Hap2 := Lib.hid hap2
  clear hap2
  have HW2 := Lib.hid hW2
  clear hW2
  go_wp2_with fail
  go_loopw [8, 10, 11] (fun v8 v10 iv wr => ∃ (i z z2 : Nat) (ws : List ByteArray) (ls : List LinkT), v8 = .slice B z d ∧ v10 = .slice B2 z2 d2 ∧ iv = .int .i64 (i : Int) ∧ z2 + 1 = z ∧ z ≤ 201 ∧ i ≤ z ∧ Hid (z = ws.length) ∧ Hid (z2 = ls.length) ∧ Hid (R = shGo (300 - i) i ws ls) ∧ wr.ownsRow w.heap.size 9 1 (.slice B z d) z (strs ws) ∧ wr.ownsRow w.heap.size 95 3 (.slice B2 z2 d2) z2 (cellsLink ls) ∧ Below w.heap.size w wr) (fun v8 _ iv _ => slenOf v8 - (intOf iv).toNat)
  case atStart => exact ⟨0, z0, m0, ws0, xs, rfl, rfl, rfl, by rw [Hm.out]; exact hl1, by omega, Nat.zero_le _, Hz0, Hm, E1, HO1.out, HO3.out, HW2.out⟩
  case round =>
    clear HO1 HO3 HW2
    obtain ⟨i, z, z2, ws, ls, rfl, rfl, rfl, hzz, hz201, hiz, HZ, HZ2, HR, hO, hO2, hW⟩ := hrel
    by_cases hlt : i < z
    · have hiw : i < ws.length := by rw [← HZ.out]; exact hlt
      have hrd := Rd.of_own hO
      obtain ⟨b, o, hBe, hbl, p0⟩ := str_at hrd hiw
      obtain ⟨x, hx⟩ : ∃ x, x = wAt ws i := ⟨_, rfl⟩
      rw [← hx] at p0
      have hiz2 : (i : Int) < (z : Int) := by omega
      have hl0 : lastTo7 ws i 0 = i := rfl
      have HO := Lib.hid hO
      clear hO
      have HO2 := Lib.hid hO2
      clear hO2
      have HW := Lib.hid hW
      clear hW
      have Hrd := Lib.hid hrd
      clear hrd
      have Hx := Lib.hid hx
      clear hx
      have Hl0 := Lib.hid hl0
      clear hl0
      go_wp2_with fail
      go_loopw [12, 35] (fun lv kv wr' => ∃ (q L : Nat), lv = .int .i64 (L : Int) ∧ kv = .int .i64 (q : Int) ∧ q ≤ z ∧ Hid (L = lastTo7 ws i q) ∧ wr' = wr) (fun _ kv _ => z - (intOf kv).toNat)
      case atStart => exact ⟨0, i, rfl, rfl, Nat.zero_le _, Lib.hid rfl, by first | rfl | trivial⟩
      case round =>
        obtain ⟨q, L, rfl, rfl, hq, HL, rfl⟩ := hrel
        by_cases hltq : q < z
        · have hqw : q < ws.length := by rw [← HZ.out]; exact hltq
          obtain ⟨b', o', he', hbl', q0⟩ := str_at Hrd.out hqw
          rw [hBe] at he'
          injection he' with he'
          injection he' with e1 e2 _
          subst e1 e2
          obtain ⟨y, hy⟩ : ∃ x, x = wAt ws q := ⟨_, rfl⟩
          rw [← hy] at q0
          have hqe := str_eq y x
          subst hBe
          by_cases hyx : y = x
          · rw [decide_eq_true hyx] at hqe
            have hL2 : q = lastTo7 ws i (q + 1) := by rw [lastTo7, if_pos (by rw [← hy, ← Hx.out]; exact hyx)]
            clear hbl'
            have Hy := Lib.hid hy
            clear hy
            have Hyx := Lib.hid hyx
            clear hyx
            have HL2 := Lib.hid hL2
            clear hL2
            go_wp2_with fail
            go_roundw
            case rel => exact ⟨q + 1, q, by go_num, by go_num, by omega, HL2, by first | rfl | trivial⟩
            case measure => simp [intOf] <;> omega
          · rw [decide_eq_false hyx] at hqe
            have hL2 : L = lastTo7 ws i (q + 1) := by rw [lastTo7, if_neg (by rw [← hy, ← Hx.out]; exact hyx)]; exact HL.out
            clear hbl'
            have Hy := Lib.hid hy
            clear hy
            have Hyx := Lib.hid hyx
            clear hyx
            have HL2 := Lib.hid hL2
            clear hL2
            go_wp2_with fail
            go_roundw
            case rel => exact ⟨q + 1, L, rfl, by go_num, by omega, HL2, by first | rfl | trivial⟩
            case measure => simp [intOf] <;> omega
        · have : q = z := by omega
          subst this
          have hL : L = lastOf ws i := by rw [HL.out, lastOf, HZ.out]
          obtain ⟨h1, h2, _, _⟩ := lastOf_spec hiw
          rw [← hL, ← HZ.out] at h2
          rw [← hL] at h1
          have hLz2 : L ≤ z2 := by omega
          have hoc := one_cell_strs ws
          have hoc2 := one_cell_links ls
          have hR2 : R = shGo (300 - (i + 1)) (i + 1) (cutL ws i L) (cutL ls i L) := by rw [HR.out, shGo_go (by omega) hiw, ← hL]; congr 1
          have hZ3 : q - (L - i) = (cutL ws i L).length := by rw [cutL_len h1 (by rw [← HZ.out]; omega), ← HZ.out]
          have hZ4 : z2 - (L - i) = (cutL ls i L).length := by rw [cutL_len h1 (by rw [← HZ2.out]; omega), ← HZ2.out]
          have hd1 := deleteStr_any B q d (strs ws) i L w.heap.size _ HO.out h1 (by omega) (by omega) hoc
          clear hL HL p0 hbl
          subst hBe
          have Hoc := Lib.hid hoc
          clear hoc
          have Hoc2 := Lib.hid hoc2
          clear hoc2
          have HR2 := Lib.hid hR2
          clear hR2
          have HZ3 := Lib.hid hZ3
          clear hZ3
          have HZ4 := Lib.hid hZ4
          clear hZ4
          have Hd1 := Lib.hid hd1
          clear hd1
          go_wp2_with fail
          refine Hd1.out.mono ?_
          rintro e w5 ⟨rfl, hO5, hG5⟩
          rw [← strs_cut] at hO5
          have hO25 := HO2.out.kept hG5 (by have h := Hap2.out; rw [ob_eq B2 m0 d2 z2 d2, ob_eq _ z0 d q d] at h; exact h)
          have hW5 := HW.out.grown hG5 HW.out.size (fun k hk => (HO.out.lt k hk).1)
          have hd2 := deleteLink_any B2 z2 d2 (cellsLink ls) i L w.heap.size w5 hO25 h1 hLz2 (by omega) Hoc2.out
          clear HO HO2 HW Hrd hG5
          have HO5 := Lib.hid hO5
          clear hO5
          have HO25 := Lib.hid hO25
          clear hO25
          have HW5 := Lib.hid hW5
          clear hW5
          have Hd2 := Lib.hid hd2
          clear hd2
          go_wp2_with fail
          refine Hd2.out.mono ?_
          rintro e w6 ⟨rfl, hO6, hG6⟩
          rw [← links_cut] at hO6
          have hO56 := HO5.out.kept hG6 (by have h := Hap.out; rw [ob_eq B2 m0 d2 z2 d2, ob_eq _ z0 d (q - (L - i)) d] at h; exact h)
          have hW6 := HW5.out.grown hG6 HW5.out.size (fun k hk => (HO25.out.lt k hk).1)
          clear HO5 HO25 HW5 hG6
          have HO6 := Lib.hid hO6
          clear hO6
          have HO56 := Lib.hid hO56
          clear hO56
          have HW6 := Lib.hid hW6
          clear hW6
          go_wp2_with fail
          go_roundw
          case rel => exact ⟨i + 1, q - (L - i), z2 - (L - i), _, _, rfl, rfl, by go_num, by omega, by omega, by omega, HZ3, HZ4, HR2, HO56.out, HO6.out, HW6.out⟩
          case measure => simp [intOf, slenOf] <;> omega
    · have : i = z := by omega
      subst this
      have hRe : R = ls := by rw [HR.out, shGo_end (by rw [← HZ.out]; exact Nat.le_refl _)]
      have HRe := Lib.hid hRe
      clear hRe
      have HO := Lib.hid hO
      clear hO
      have HO2 := Lib.hid hO2
      clear hO2
      have HW := Lib.hid hW
      clear hW
      go_wp2_with fail
      go_ret2
      rw [E2.out, ← HRR.out, HRe.out, ← HZ2.out]
      exact ⟨B2, d2, rfl, HO2.out, HW.out⟩

end Go.Proofs.Ytidmbeeadbedaaa

/- Walk over ShortenProof of the reference. -/
namespace Go.Proofs.Ytidmbeeadbedaaa
open Go.RowKit Go.Shelf

theorem step_append_own {P : Program} {ops : Array Oper} {o : Oper} {a : Act} {K : Act → World → Prop} {Q : Exit → Act → World → Prop} {E : Prop} (w : World) (hgd : o.guard = none) (s x : Operand) (t : TypeId)
    (ho : o.op = .call { callee := .builtin .append, args := #[s, x], argTypes := #[t, t] }) (base e size bytes : Nat) (z : Value) (ht : P.underlying t = some (.slice e))
    (hinfo : (P.info? e).map (fun i => (i.zero, i.size, i.bytes)) = some (some z, size, bytes)) (hzs : z.cells.size = size) (hsz : 0 < size) (v : Value) (n : Nat) (xs : List Value) (hs : a.eval s = v) (hown : w.ownsRow base e size v n xs)
    (ad : Addr) (m c : Nat) (news : List Value) (hx : a.eval x = .slice (some ad) m c) (hl : news.length = m * size) (hnews : ∀ j u, news[j]? = some u → w.cell? (ad.add j) = some u) (h1 : ∀ u ∈ news, u.oneCell' = true)
    (h63 : n + m ≤ maxLen) (hbytes : (n + m) * bytes ≤ 140737488355328) (hbase : base ≤ w.heap.size)
    (h : ∀ A c' w', w'.ownsRow base e size (.slice A (n + m) c') (n + m) (xs ++ news) → w.grownBy w' v.ownBlock → K (a.put o.dst (.slice A (n + m) c')) w') :
    if Region.wanted o (yielded ops a.tmps) = true then Oper.wp P o a w K Q else E := by
  have hwn : Region.wanted o (yielded ops a.tmps) = true := by simp [Region.wanted, hgd]
  rw [if_pos hwn]
  obtain ⟨i0, hi, hz0, hz1, hz2⟩ := info_parts hinfo
  refine wp_append_own _ s x t ho base e i0 z size bytes ht hi hz0 hz1 hz2 hzs hsz v n xs hs hown ad m c news hx hl hnews h1 h63 hbytes hbase ?_
  intro v' w' hO hG _
  obtain ⟨A, c', rfl⟩ := own_form hO
  exact h A c' w' hO hG
end Go.Proofs.Ytidmbeeadbedaaa
