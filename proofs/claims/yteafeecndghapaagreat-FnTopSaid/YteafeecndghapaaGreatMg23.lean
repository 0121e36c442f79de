/- Merged texts: a claim has a limit of files. -/
import Derived.Test.YteafeecndghapaaGreatRn6
import Derived.Test.YteafeecndghapaaGreatMg17
import Derived.Test.YteafeecndghapaaGreatMg18
import Derived.Test.YteafeecndghapaaGreatMg21
import Derived.Test.YteafeecndghapaaGreatMg2
import Derived.Test.YteafeecndghapaaGreatChain

/- Walk over Complete of the reference: what a completion that ends hands back is a complete system. -/
namespace Go.Proofs.YteafeecndghapaaGreat
open Go.RowKit Go.Shelf

theorem no_str2 {a : Int} {A : Option Addr} {n c : Nat} : ∀ (i : Nat) (s : ByteArray), (#[Value.int .i64 a, .slice A n c] : Array Value)[i]? ≠ some (.string s) := by
  intro i s
  match i with
  | 0 => intro h; injection h with h; cases h
  | 1 => intro h; injection h with h; cases h
  | i + 2 => intro h; cases h
/-- What a completion leaves. -/
def CompMade (w : World) (l : Int) (e : Ending) (w' : World) : Prop := ∃ (l' : Int) (A : Option Addr) (n c : Nat) (code : Int), e = .returned (.tuple #[.agg #[.int .i64 l', .slice A n c], .int .i64 code]) ∧ Below w.heap.size w w' ∧
  (code = 0 → ∃ rs', l' = l ∧ n = rs'.length ∧ Rd w' A (cellsRule rs') ∧ isCompl l rs' = true)
set_option maxRecDepth 100000 in
set_option maxHeartbeats 4000000 in
theorem specComplete_any (l : Int) (A : Option Addr) (n c : Nat) (rs : List RuleT) (w : World) (hr : Rd w A (cellsRule rs)) (hn : n = rs.length) (hsy : systemOk l rs = true) :
    Calls Tryz.prog 24 #[.int .i64 l, .slice A n c] w (CompMade w l) := by
  have hW := (Below.refl w.heap.size w).alloc (Nat.le_refl _) (.cells #[.int .i64 0, .slice none 0 0] 25)
  have hB := Bk.new w 25 #[.int .i64 0, .slice none 0 0]
  have HB := Lib.hid hB
  clear hB
  have HW := Lib.hid hW
  clear hW
  have Hr := Lib.hid hr
  clear hr
  have Hn := Lib.hid hn
  clear hn
  have Hsy := Lib.hid hsy
  clear hsy
  go_enter Tryz.func24, Tryz.ntmps24
  go_wp2_with fail
  with_reducible refine (specRun6_any l A n c rs _ (Hr.out.keep HW.out) Hn.out Hsy.out).mono ?_
  rintro e w1 ⟨l2, A2, n2, c2, Q2, q2, cq2, t2, code, rfl, b1, hok⟩
  have hB1 := HB.out.below b1 HB.out.lt
  have hlo := HW.out.trans (b1.mono HW.out.size)
  have k0 : w1.cell? ⟨w.heap.size, 0, none⟩ = some (.int .i64 0) := by rw [hB1.cell]; rfl
  have k1 : w1.cell? ⟨w.heap.size, 1, none⟩ = some (.slice none 0 0) := by rw [hB1.cell]; rfl
  have f0 := hB1.free 0
  have f1 := hB1.free 1
  have zl := hB1.lt
  have hBn0 := (hB1.put 0 (.int .i64 l2)).put 1 (.slice A2 n2 c2)
  have hBn := hBn0.alloc (.cells #[.int .i64 l2, .slice A2 n2 c2, .slice Q2 q2 cq2, .int .i64 t2] 86)
  have hlw0 := (hlo.setCell (p := ⟨w.heap.size, 0, none⟩) (Nat.le_refl _) (.int .i64 l2)).setCell (p := ⟨w.heap.size, 1, none⟩) (Nat.le_refl _) (.slice A2 n2 c2)
  have hlw := hlw0.alloc hlw0.size (.cells #[.int .i64 l2, .slice A2 n2 c2, .slice Q2 q2 cq2, .int .i64 t2] 86)
  clear hBn0 hlw0
  have HB1 := Lib.hid hB1
  clear hB1
  have B1 := Lib.hid b1
  clear b1
  have Hlo := Lib.hid hlo
  clear hlo
  have HBn := Lib.hid hBn
  clear hBn
  have Hlw := Lib.hid hlw
  clear hlw
  have Hok := Lib.hid hok
  clear hok
  go_wp2_with fail
  have q0 := HBn.out.cell 0
  have q1 := HBn.out.cell 1
  refine bodyPost_ret (v := .tuple #[.agg #[.int .i64 l2, .slice A2 n2 c2], .int .i64 code]) (by simp [results, Tryz.results24, go_sem, q0, q1]) rfl ?_
  refine ⟨l2, A2, n2, c2, code, rfl, Hlw.out, fun h0 => ?_⟩
  obtain ⟨rs', e1, e2, e3, e4⟩ := Hok.out h0
  have hne := rd_no_str e3 HB1.out no_str2
  exact ⟨rs', e1, e2, (rd_set (rd_set e3 hne 0 _) hne 1 _).keep ((Below.refl _ _).alloc (Nat.le_refl _) _), e4⟩
end Go.Proofs.YteafeecndghapaaGreat

/- Walk over MakeComplete of the reference: a complete system. -/
namespace Go.Proofs.YteafeecndghapaaGreat
open Go.RowKit Go.Shelf

theorem sorts2_compl : isCompl 2 (sorts 2) = true := sorts_done
/-- A system is stored in the result. -/
theorem co_fin {w y : World} {B : Option Addr} {k d : Nat} {rs : List RuleT} (l : Int) (hz : Bk y w.heap.size 25 #[.int .i64 0, .slice none 0 0]) (hb : Below w.heap.size w y) (hr : Rd y B (cellsRule rs)) :
    Bk ((y.setCell ⟨w.heap.size, 0, none⟩ (.int .i64 l)).setCell ⟨w.heap.size, 1, none⟩ (.slice B k d)) w.heap.size 25 #[.int .i64 l, .slice B k d] ∧
    Rd ((y.setCell ⟨w.heap.size, 0, none⟩ (.int .i64 l)).setCell ⟨w.heap.size, 1, none⟩ (.slice B k d)) B (cellsRule rs) ∧
    Below w.heap.size w ((y.setCell ⟨w.heap.size, 0, none⟩ (.int .i64 l)).setCell ⟨w.heap.size, 1, none⟩ (.slice B k d)) := by
  have hne := rd_no_str hr hz no_str2
  exact ⟨(hz.put 0 _).put 1 _, rd_set (rd_set hr hne 0 _) hne 1 _, (hb.setCell (p := ⟨w.heap.size, 0, none⟩) (Nat.le_refl _) _).setCell (p := ⟨w.heap.size, 1, none⟩) (Nat.le_refl _) _⟩
/-- What MakeComplete leaves. -/
def CoMade (w : World) (e : Ending) (w' : World) : Prop := ∃ (l : Int) (B : Option Addr) (k d : Nat) (rs : List RuleT), isCompl l rs = true ∧ k = rs.length ∧ e = .returned (.agg #[.int .i64 l, .slice B k d]) ∧ Rd w' B (cellsRule rs) ∧ Below w.heap.size w w'
set_option maxRecDepth 100000 in
set_option maxHeartbeats 8000000 in
theorem makeComplete_any (A : Option Addr) (n c : Nat) (zs : List Int) (p : Nat) (w : World) (hr : Rd w A (u8c zs)) (hn : n = zs.length) (hb : n ≤ 1048576) (hz : ∀ z ∈ zs, 0 ≤ z ∧ z ≤ 255) (hp : p ≤ 1000) :
    Calls Tryz.prog 8 #[.slice A n c, .int .i64 p] w (CoMade w) := by
  have hal := (Below.refl w.heap.size w).alloc (Nat.le_refl _) (.cells #[.int .i64 0, .slice none 0 0] 25)
  have hB := Bk.new w 25 #[.int .i64 0, .slice none 0 0]
  have hr1 := hr.keep hal
  obtain ⟨W, hWd⟩ : ∃ z, z = w.alloc (.cells #[.int .i64 0, .slice none 0 0] 25) := ⟨_, rfl⟩
  rw [← hWd] at hal hB hr1
  obtain ⟨P, hP⟩ : ∃ z, z = W.heap.size := ⟨_, rfl⟩
  have hne : u8c zs ≠ [] → ∀ a, A = some a → a.block ≠ P := fun hx => rd_ne hr1 hx (Nat.le_of_eq hP.symm)
  have lP : w.heap.size < P := by rw [hP]; exact hB.lt
  have hL := l31New_any A n c zs p W hr1 hn hb hz hp
  have Hr := Lib.hid hr
  clear hr
  have Hn := Lib.hid hn
  clear hn
  have Hz := Lib.hid hz
  clear hz
  have Hne := Lib.hid hne
  clear hne
  have HWd := Lib.hid hWd
  clear hWd
  have HL := Lib.hid hL
  clear hL
  have Hal := Lib.hid hal
  clear hal
  have HB := Lib.hid hB
  clear hB
  have Hr1 := Lib.hid hr1
  clear hr1
  have HP := Lib.hid hP
  clear hP
  go_enter Tryz.func8, Tryz.ntmps8
  go_wp2_with fail
  rw [← HWd.out]
  with_reducible refine HL.out.mono ?_
  rintro e w1 ⟨rfl, hC1, hb1⟩
  have hW1 := Hal.out.trans (hb1.mono Hal.out.size)
  have hB1 := HB.out.below hb1 HB.out.lt
  rw [← HP.out] at hC1
  rw [← HP.out]
  have hS1 : Src w1 P A n c zs := ⟨hC1, Hr1.out.keep hb1, Hn.out, hb, Hz.out, Hne.out⟩
  clear hC1 hb1 Hal HB Hr1 HL
  have HS1 := Lib.hid hS1
  clear hS1
  have HW1 := Lib.hid hW1
  clear hW1
  have HB1 := Lib.hid hB1
  clear hB1
  go_wp2_with fail
  with_reducible refine (l03Draw_any _ HS1.out).mono ?_
  rintro e w2 ⟨l, B, k, d, rs, hok, hk, rfl, hO, -, hG2⟩
  have hW2 := HW1.out.trans (gb_below hG2 HW1.out.size (Nat.le_of_lt lP))
  have hB2 := HB1.out.grown hG2 (by intro e; injection e with e; omega)
  have hal3 := (Below.refl w2.heap.size w2).alloc (Nat.le_refl _) (.cells #[.int .i64 l, .slice B k d] 25)
  have hW3 := hW2.trans (hal3.mono hW2.size)
  have hB3 := hB2.below hal3 hB2.lt
  have hS3 := Bk.new w2 25 #[.int .i64 l, .slice B k d]
  have hR3 := (Rd.of_own hO).keep hal3
  have hlt3 : w.heap.size < w2.heap.size := hB2.lt
  have hk12 : k ≤ 12 := by rw [hk]; exact rulesOk_12 (sys_rules hok)
  have hzs : ∀ x ∈ rs, x.1.size ≤ 1048576 ∧ x.2.size ≤ 1048576 := fun x hx => by have := sys_mem hok hx; omega
  obtain ⟨sb, hsb⟩ : ∃ z, z = w2.heap.size := ⟨_, rfl⟩
  obtain ⟨w3, hw3⟩ : ∃ z, z = w2.alloc (.cells #[.int .i64 l, .slice B k d] 25) := ⟨_, rfl⟩
  rw [← hw3] at hW3 hB3 hS3 hR3
  rw [← hsb] at hS3 hlt3
  clear hG2 hO HS1 HW1 HB1 hW2 hB2 hal3
  have Hok := Lib.hid hok
  clear hok
  have Hk := Lib.hid hk
  clear hk
  have Hzs := Lib.hid hzs
  clear hzs
  have Hsb := Lib.hid hsb
  clear hsb
  have Hw3 := Lib.hid hw3
  clear hw3
  have HW3 := Lib.hid hW3
  clear hW3
  have HB3 := Lib.hid hB3
  clear hB3
  have HS3 := Lib.hid hS3
  clear hS3
  have HR3 := Lib.hid hR3
  clear hR3
  go_wp2_with fail
  rw [← Hw3.out]
  try rw [← Hsb.out]
  with_reducible refine (specIsComplete_any l B k d rs _ HR3.out Hk.out (by omega) Hzs.out).mono ?_
  rintro e w4 ⟨rfl, b4⟩
  have hW4 := HW3.out.trans (b4.mono HW3.out.size)
  have hB4 := HB3.out.below b4 HB3.out.lt
  have hS4 := HS3.out.below b4 HS3.out.lt
  have hR4 := HR3.out.keep b4
  have c0 : w4.cell? ⟨w.heap.size, 0, none⟩ = some (.int .i64 0) := by rw [hB4.cell]; rfl
  have c1 : w4.cell? ⟨w.heap.size, 1, none⟩ = some (.slice none 0 0) := by rw [hB4.cell]; rfl
  have f0 := hB4.free 0
  have f1 := hB4.free 1
  have lb := hB4.lt
  have s0 : w4.cell? ⟨sb, 0, none⟩ = some (.int .i64 l) := by rw [hS4.cell]; rfl
  have s1 : w4.cell? ⟨sb, 1, none⟩ = some (.slice B k d) := by rw [hS4.cell]; rfl
  have sl := hS4.lt
  clear b4 HW3 HB3 HS3 HR3
  obtain ⟨ic, hic⟩ : ∃ z, z = isCompl l rs := ⟨_, rfl⟩
  rw [← hic]
  have HW4 := Lib.hid hW4
  clear hW4
  have HB4 := Lib.hid hB4
  clear hB4
  have HS4 := Lib.hid hS4
  clear hS4
  have HR4 := Lib.hid hR4
  clear hR4
  have Hic := Lib.hid hic
  clear hic
  cases ic
  case true =>
    go_wp2_with fail
    obtain ⟨k1, k2, k3⟩ := co_fin (k := k) (d := d) l HB4.out HW4.out HR4.out
    have q0 := k1.cell 0
    have q1 := k1.cell 1
    refine bodyPost_ret (v := .agg #[.int .i64 l, .slice B k d]) (by simp [results, Tryz.results8, go_sem, q0, q1]) rfl ?_
    exact ⟨l, B, k, d, rs, Hic.out.symm, Hk.out, rfl, k2, k3⟩
  case false =>
    go_wp2_with fail
    with_reducible refine (specComplete_any l B k d rs _ HR4.out Hk.out Hok.out).mono ?_
    rintro e w5 ⟨l2, A2, n2, c2, code, rfl, b5, hcm⟩
    have hW5 := HW4.out.trans (b5.mono HW4.out.size)
    have hB5 := HB4.out.below b5 HB4.out.lt
    clear c0 c1 f0 f1 lb s0 s1 sl b5 HW4 HB4 HS4 HR4
    have c0 : w5.cell? ⟨w.heap.size, 0, none⟩ = some (.int .i64 0) := by rw [hB5.cell]; rfl
    have c1 : w5.cell? ⟨w.heap.size, 1, none⟩ = some (.slice none 0 0) := by rw [hB5.cell]; rfl
    have f0 := hB5.free 0
    have f1 := hB5.free 1
    have lb := hB5.lt
    by_cases hc : code = 0
    · subst hc
      obtain ⟨rs', rfl, e2, e3, e4⟩ := hcm rfl
      obtain ⟨k1, k2, k3⟩ := co_fin (k := n2) (d := c2) l2 hB5 hW5 e3
      have hal := (Below.refl ((w5.setCell ⟨w.heap.size, 0, none⟩ (.int .i64 l2)).setCell ⟨w.heap.size, 1, none⟩ (.slice A2 n2 c2)).heap.size _).alloc (Nat.le_refl _) (.cells #[.int .i64 l2, .slice A2 n2 c2] 25)
      have k1 := k1.below hal k1.lt
      have k2 := k2.keep hal
      have k3 := k3.trans (hal.mono k3.size)
      have K1 := Lib.hid k1
      clear k1
      have K2 := Lib.hid k2
      clear k2
      have K3 := Lib.hid k3
      clear k3
      have E2 := Lib.hid e2
      clear e2
      have E3 := Lib.hid e3
      clear e3
      have E4 := Lib.hid e4
      clear e4
      have HB5 := Lib.hid hB5
      clear hB5
      have HW5 := Lib.hid hW5
      clear hW5
      have Hal := Lib.hid hal
      clear hal
      go_wp2_with fail
      have q0 := K1.out.cell 0
      have q1 := K1.out.cell 1
      refine bodyPost_ret (v := .agg #[.int .i64 l2, .slice A2 n2 c2]) (by simp [results, Tryz.results8, go_sem, q0, q1]) rfl ?_
      exact ⟨l2, A2, n2, c2, rs', E4.out, E2.out, rfl, K2.out, K3.out⟩
    · have hc2 : (code == 0) = false := by simpa using hc
      clear c0 c1 f0 f1 lb
      have hal := (Below.refl w5.heap.size w5).alloc (Nat.le_refl _) (.cells #[.int .i64 l2, .slice A2 n2 c2] 25)
      have hW6 := hW5.trans (hal.mono hW5.size)
      have hB6 := hB5.below hal hB5.lt
      have HW5 := Lib.hid hW5
      clear hW5
      have HB5 := Lib.hid hB5
      clear hB5
      have Hal := Lib.hid hal
      clear hal
      have HW6 := Lib.hid hW6
      clear hW6
      have HB6 := Lib.hid hB6
      clear hB6
      go_wp2_with fail
      with_reducible refine (specSortingSystem_any 2 _).mono ?_
      rintro e9 w7 ⟨B7, d7, rfl, hO7, b7⟩
      have e1 : sortL 2 = 2 := by decide
      have e2 : (sorts 2).length = 1 := by decide
      rw [e1, e2]
      rw [e2] at hO7
      have hW7 := HW6.out.trans (b7.mono HW6.out.size)
      have hB7 := HB6.out.below b7 HB6.out.lt
      obtain ⟨k1, k2, k3⟩ := co_fin (k := 1) (d := d7) 2 hB7 hW7 (Rd.of_own hO7)
      have hal := (Below.refl ((w7.setCell ⟨w.heap.size, 0, none⟩ (.int .i64 2)).setCell ⟨w.heap.size, 1, none⟩ (.slice B7 1 d7)).heap.size _).alloc (Nat.le_refl _) (.cells #[.int .i64 2, .slice B7 1 d7] 25)
      have k1 := k1.below hal k1.lt
      have k2 := k2.keep hal
      have k3 := k3.trans (hal.mono k3.size)
      have c0 : w7.cell? ⟨w.heap.size, 0, none⟩ = some (.int .i64 0) := by rw [hB7.cell]; rfl
      have c1 : w7.cell? ⟨w.heap.size, 1, none⟩ = some (.slice none 0 0) := by rw [hB7.cell]; rfl
      have f0 := hB7.free 0
      have f1 := hB7.free 1
      have lb := hB7.lt
      clear b7 e1
      have K1 := Lib.hid k1
      clear k1
      have K2 := Lib.hid k2
      clear k2
      have K3 := Lib.hid k3
      clear k3
      have E2 := Lib.hid e2
      clear e2
      have HO7 := Lib.hid hO7
      clear hO7
      have HB7 := Lib.hid hB7
      clear hB7
      have HW7 := Lib.hid hW7
      clear hW7
      have Hal := Lib.hid hal
      clear hal
      go_wp2_with fail
      have q0 := K1.out.cell 0
      have q1 := K1.out.cell 1
      refine bodyPost_ret (v := .agg #[.int .i64 2, .slice B7 1 d7]) (by simp [results, Tryz.results8, go_sem, q0, q1]) rfl ?_
      exact ⟨2, B7, 1, d7, sorts 2, sorts2_compl, E2.out.symm, rfl, K2.out, K3.out⟩
end Go.Proofs.YteafeecndghapaaGreat

/- The plain law of FnTop: in a complete system the words of a chain have one reduced form, and the parts of a word can be reduced first. -/
namespace Go.Proofs.YteafeecndghapaaGreat
open Go.RowKit Go.Shelf

theorem top_chain {l : Int} {rs : List RuleT} (h : isCompl l rs = true) {u e : ByteArray} {xs : List LinkT} {ws : List ByteArray} (hc : Chn rs u xs ws e) (hu : wordOk l u = true) : ∀ (i : Nat) (hi : i < ws.length), normS rs ws[i] = normS rs u := by
  intro i hi
  obtain ⟨hsy, -⟩ := compl_out h
  have hl := hc.len
  have hv := (hc.word (sys_rules hsy) hu).2 ws[i] (List.getElem_mem hi)
  have h1 := (hc.split i (by omega)).1
  rw [wAt_lt hi] at h1
  exact (chn_norm h h1 hu hv).symm
/-- What the law asks of two words of a complete system: both are taken, and so are the word of both and the word of both reduced forms; all three have one reduced form. -/
theorem top_parts {l : Int} {rs : List RuleT} (h : isCompl l rs = true) {u v : ByteArray} (hu : lettersOk l u = true) (hv : lettersOk l v = true) (su : u.size ≤ 6) (sv : v.size ≤ 6) :
    takesOk l rs u = true ∧ takesOk l rs v = true ∧ (nfS l rs u).size ≤ 6 ∧ (nfS l rs v).size ≤ 6 ∧ takesOk l rs (u ++ v) = true ∧ takesOk l rs (nfS l rs u ++ nfS l rs v) = true ∧
      nfS l rs (nfS l rs u ++ nfS l rs v) = nfS l rs (u ++ v) ∧ ffS l rs (u ++ v) = nfS l rs (u ++ v) := by
  obtain ⟨hsy, -⟩ := compl_out h
  obtain ⟨h1, h4, -⟩ := sys_in hsy
  have wu := wordOk_mk h1 h4 (by omega) hu
  have wv := wordOk_mk h1 h4 (by omega) hv
  have wuv := app_word wu wv (by omega)
  have tu := takes_mk hsy wu
  have tv := takes_mk hsy wv
  have tuv := takes_mk hsy wuv
  obtain ⟨a1, -, a2, -⟩ := norm_good hsy wu
  obtain ⟨b1, -, b2, -⟩ := norm_good hsy wv
  have eu : nfS l rs u = normS rs u := by rw [nfS, if_pos tu]
  have ev : nfS l rs v = normS rs v := by rw [nfS, if_pos tv]
  have wab := app_word a1 b1 (by omega)
  have tab := takes_mk hsy wab
  obtain ⟨p1, p2⟩ := parts_first h wu wv wuv wab
  refine ⟨tu, tv, by rw [eu]; omega, by rw [ev]; omega, tuv, by rw [eu, ev]; exact tab, ?_, ?_⟩
  · rw [eu, ev, nfS, if_pos tab, nfS, if_pos tuv, p1]
  · rw [ffS, if_pos tuv, nfS, if_pos tuv, p2]
end Go.Proofs.YteafeecndghapaaGreat

/- What the walk of FnSearch needs besides: distances are small, a cell of a row, and the law's own comparison of two lists of words. -/
namespace Go.Proofs.YteafeecndghapaaGreat
open Go.RowKit Go.Shelf

theorem rd_get {w : World} {b off : Nat} {xs : List Value} (h : Rd w (some ⟨b, off, none⟩) xs) {j : Nat} {u : Value} (hu : xs[j]? = some u) : w.cell? ⟨b, off + j, none⟩ = some u := by
  obtain ⟨b', off', e, -, hc⟩ := h (by intro e; rw [e] at hu; cases hu)
  have e2 : b = b' ∧ off = off' := by
    injection e with e
    injection e with e1 e2
    exact ⟨e1, e2⟩
  obtain ⟨rfl, rfl⟩ := e2
  exact hc j u hu
theorem rd_some {w : World} {A : Option Addr} {xs : List Value} (h : Rd w A xs) (hx : 0 < xs.length) : ∃ b off, A = some ⟨b, off, none⟩ := by
  obtain ⟨b, off, e, -⟩ := h (by intro e; rw [e] at hx; exact absurd hx (Nat.not_lt_zero _))
  exact ⟨b, off, e⟩
theorem strs_at {ws : List ByteArray} {j : Nat} (h : j < ws.length) : (strs ws)[j]? = some (.string ws[j]) := by simp [strs, h]


end Go.Proofs.YteafeecndghapaaGreat
