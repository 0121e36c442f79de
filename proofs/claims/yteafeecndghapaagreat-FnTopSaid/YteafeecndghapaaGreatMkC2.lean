/- Walk over MakeChain of the reference: an ordered system, a word and links that can be applied. -/
import Derived.Test.YteafeecndghapaaGreatChn
import Derived.Test.YteafeecndghapaaGreatMg17
import Derived.Test.YteafeecndghapaaGreatMg18
namespace Go.Proofs.YteafeecndghapaaGreat
open Go.RowKit Go.Shelf

structure MkSt (w W : World) (sb : Nat) (l : Int) (B : Option Addr) (k d : Nat) (rs : List RuleT) (C : Option Addr) (m e : Nat) (ls : List LinkT) : Prop where
  bkR : Bk W w.heap.size 25 #[.int .i64 0, .slice none 0 0]
  bkS : Bk W sb 25 #[.int .i64 l, .slice B k d]
  lS : w.heap.size < sb
  ru : W.ownsRow w.heap.size 68 2 (.slice B k d) k (cellsRule rs)
  li : W.ownsRow w.heap.size 45 3 (.slice C m e) m (cellsLink ls)
  low : Below w.heap.size w W
theorem MkSt.below {w W : World} {sb : Nat} {l : Int} {B : Option Addr} {k d : Nat} {rs : List RuleT} {C : Option Addr} {m e : Nat} {ls : List LinkT} {W' : World} (h : MkSt w W sb l B k d rs C m e ls) (hb : Below W.heap.size W W') : MkSt w W' sb l B k d rs C m e ls :=
  ⟨h.bkR.below hb h.bkR.lt, h.bkS.below hb h.bkS.lt, h.lS, own_keep h.ru hb (Nat.le_refl _), own_keep h.li hb (Nat.le_refl _), h.low.trans (hb.mono h.low.size)⟩
/-- Another system is stored in the variable. -/
theorem MkSt.set {w W : World} {sb : Nat} {l : Int} {B : Option Addr} {k d : Nat} {rs : List RuleT} {C : Option Addr} {m e : Nat} {ls : List LinkT} {l' : Int} {B' : Option Addr} {k' d' : Nat} {rs' : List RuleT} (h : MkSt w W sb l B k d rs C m e ls) (ho : W.ownsRow w.heap.size 68 2 (.slice B' k' d') k' (cellsRule rs')) : MkSt w ((W.setCell ⟨sb, 0, none⟩ (.int .i64 l')).setCell ⟨sb, 1, none⟩ (.slice B' k' d')) sb l' B' k' d' rs' C m e ls := by
  have hlS := h.lS
  have h1 : (Value.slice B' k' d').ownBlock ≠ some sb := own_ne_bk ho h.bkS (by decide)
  have h2 : (Value.slice C m e).ownBlock ≠ some sb := own_ne_bk h.li h.bkS (by decide)
  exact ⟨(h.bkR.far (p := ⟨sb, 0, none⟩) (by dsimp only; omega) _).far (p := ⟨sb, 1, none⟩) (by dsimp only; omega) _, (h.bkS.put 0 _).put 1 _, h.lS, own_far3 (own_far3 ho (p := ⟨sb, 0, none⟩) h1 _) (p := ⟨sb, 1, none⟩) h1 _, own_far3 (own_far3 h.li (p := ⟨sb, 0, none⟩) h2 _) (p := ⟨sb, 1, none⟩) h2 _, (h.low.setCell (p := ⟨sb, 0, none⟩) (by dsimp only; omega) _).setCell (p := ⟨sb, 1, none⟩) (by dsimp only; omega) _⟩
/-- The system is stored in the result. -/
theorem MkSt.fin {w W : World} {sb : Nat} {l : Int} {B : Option Addr} {k d : Nat} {rs : List RuleT} {C : Option Addr} {m e : Nat} {ls : List LinkT} (h : MkSt w W sb l B k d rs C m e ls) : Bk ((W.setCell ⟨w.heap.size, 0, none⟩ (.int .i64 l)).setCell ⟨w.heap.size, 1, none⟩ (.slice B k d)) w.heap.size 25 #[.int .i64 l, .slice B k d] ∧
    ((W.setCell ⟨w.heap.size, 0, none⟩ (.int .i64 l)).setCell ⟨w.heap.size, 1, none⟩ (.slice B k d)).ownsRow w.heap.size 68 2 (.slice B k d) k (cellsRule rs) ∧ ((W.setCell ⟨w.heap.size, 0, none⟩ (.int .i64 l)).setCell ⟨w.heap.size, 1, none⟩ (.slice B k d)).ownsRow w.heap.size 45 3 (.slice C m e) m (cellsLink ls) ∧
    Below w.heap.size w ((W.setCell ⟨w.heap.size, 0, none⟩ (.int .i64 l)).setCell ⟨w.heap.size, 1, none⟩ (.slice B k d)) := by
  have h1 : (Value.slice B k d).ownBlock ≠ some w.heap.size := own_ne_bk h.ru h.bkR (by decide)
  have h2 : (Value.slice C m e).ownBlock ≠ some w.heap.size := own_ne_bk h.li h.bkR (by decide)
  exact ⟨(h.bkR.put 0 _).put 1 _, own_far3 (own_far3 h.ru (p := ⟨w.heap.size, 0, none⟩) h1 _) (p := ⟨w.heap.size, 1, none⟩) h1 _, own_far3 (own_far3 h.li (p := ⟨w.heap.size, 0, none⟩) h2 _) (p := ⟨w.heap.size, 1, none⟩) h2 _, (h.low.setCell (p := ⟨w.heap.size, 0, none⟩) (Nat.le_refl _) _).setCell (p := ⟨w.heap.size, 1, none⟩) (Nat.le_refl _) _⟩
theorem ba_word : wordOk 2 ⟨#[98, 97]⟩ = true := by decide +kernel
theorem ba_chain : coOk 2 (sorts 2) ⟨#[98, 97]⟩ [(0, 0, false)] = true := by decide +kernel
theorem no_chain (l : Int) (rs : List RuleT) (u : ByteArray) : coOk l rs u [] = true := by unfold coOk coSt chRun; rfl

def ChainMade (w : World) (e : Ending) (w' : World) : Prop := ∃ (l : Int) (B : Option Addr) (k d : Nat) (rs : List RuleT) (u : ByteArray) (C : Option Addr) (m e' : Nat) (ls : List LinkT), systemOk l rs = true ∧ k = rs.length ∧ wordOk l u = true ∧ coOk l rs u ls = true ∧ m = ls.length ∧ m ≤ 24 ∧ e = .returned (.tuple #[.agg #[.int .i64 l, .slice B k d], .string u, .slice C m e']) ∧ w'.ownsRow w.heap.size 68 2 (.slice B k d) k (cellsRule rs) ∧ w'.ownsRow w.heap.size 45 3 (.slice C m e') m (cellsLink ls) ∧ Below w.heap.size w w'
set_option maxRecDepth 100000 in
set_option maxHeartbeats 8000000 in
theorem makeChain_any (A : Option Addr) (n c : Nat) (zs : List Int) (p : Nat) (w : World) (hr : Rd w A (u8c zs)) (hn : n = zs.length) (hb : n ≤ 1048576) (hz : ∀ z ∈ zs, 0 ≤ z ∧ z ≤ 255) (hp : p ≤ 1000) :
    Calls Tryz.prog 4 #[.slice A n c, .int .i64 p] w (ChainMade w) := by
  have hal := (Below.refl w.heap.size w).alloc (Nat.le_refl _) (.cells #[.int .i64 0, .slice none 0 0] 25)
  have hB := Bk.new w 25 #[.int .i64 0, .slice none 0 0]
  have hr1 := hr.keep hal
  obtain ⟨W, hWd⟩ : ∃ z, z = w.alloc (.cells #[.int .i64 0, .slice none 0 0] 25) := ⟨_, rfl⟩
  rw [← hWd] at hal hB hr1
  obtain ⟨P, hP⟩ : ∃ z, z = W.heap.size := ⟨_, rfl⟩
  have hne : u8c zs ≠ [] → ∀ a, A = some a → a.block ≠ P := fun hx => rd_ne hr1 hx (Nat.le_of_eq hP.symm)
  have lP : w.heap.size < P := by rw [hP]; exact hB.lt
  have hL := l31New_any A n c zs p W hr1 hn hb hz hp
  have Hr := Lib.hid hr
  clear hr
  have Hn := Lib.hid hn
  clear hn
  have Hz := Lib.hid hz
  clear hz
  have Hne := Lib.hid hne
  clear hne
  have HWd := Lib.hid hWd
  clear hWd
  have HL := Lib.hid hL
  clear hL
  have Hal := Lib.hid hal
  clear hal
  have HB := Lib.hid hB
  clear hB
  have Hr1 := Lib.hid hr1
  clear hr1
  have HP := Lib.hid hP
  clear hP
  go_enter Tryz.func4, Tryz.ntmps4
  go_wp2_with fail
  rw [← HWd.out]
  with_reducible refine HL.out.mono ?_
  rintro e w1 ⟨rfl, hC1, hb1⟩
  have hW1 := Hal.out.trans (hb1.mono Hal.out.size)
  have hB1 := HB.out.below hb1 HB.out.lt
  rw [← HP.out] at hC1
  rw [← HP.out]
  have hS1 : Src w1 P A n c zs := ⟨hC1, Hr1.out.keep hb1, Hn.out, hb, Hz.out, Hne.out⟩
  clear hC1 hb1 Hal HB Hr1 HL
  have HS1 := Lib.hid hS1
  clear hS1
  have HW1 := Lib.hid hW1
  clear hW1
  have HB1 := Lib.hid hB1
  clear hB1
  go_wp2_with fail
  with_reducible refine (l12Chain_any _ HS1.out).mono ?_
  rintro e w2 ⟨l, B, k, d, rs, u, C, m, e', ls, hl, ⟨hk, hfr⟩, hu, ⟨hm, hm24⟩, rfl, hO, hLi, -, hG2⟩
  have hM0 : MkSt w (w2.alloc (.cells #[.int .i64 l, .slice B k d] 25)) w2.heap.size l B k d rs C m e' ls := by
    have hal3 := (Below.refl w2.heap.size w2).alloc (Nat.le_refl _) (.cells #[.int .i64 l, .slice B k d] 25)
    have hW2 := HW1.out.trans (gb_below hG2 HW1.out.size (Nat.le_of_lt lP))
    have hB2 := HB1.out.grown hG2 (by intro e; injection e with e; omega)
    exact ⟨hB2.alloc _, Bk.new _ _ _, hB2.lt, own_keep (own_mono hO HW1.out.size) hal3 (Nat.le_refl _), own_keep (own_mono hLi HW1.out.size) hal3 (Nat.le_refl _), hW2.trans (hal3.mono hW2.size)⟩
  obtain ⟨sb, hsb⟩ : ∃ z, z = w2.heap.size := ⟨_, rfl⟩
  obtain ⟨w3, hw3⟩ : ∃ z, z = w2.alloc (.cells #[.int .i64 l, .slice B k d] 25) := ⟨_, rfl⟩
  rw [← hsb, ← hw3] at hM0
  have hkb : k ≤ 1048576 := by rw [hk]; have := hfr.1; omega
  have hzs : ∀ x ∈ rs, x.1.size ≤ 1048576 ∧ x.2.size ≤ 1048576 := fun x hx => by have := hfr.2 x hx; omega
  have hrd0 := Rd.of_own hM0.ru
  clear hG2 hO hLi HS1 HW1 HB1 hl
  have Hk := Lib.hid hk
  clear hk
  have Hfr := Lib.hid hfr
  clear hfr
  have Hm := Lib.hid hm
  clear hm
  have Hsb := Lib.hid hsb
  clear hsb
  have Hw3 := Lib.hid hw3
  clear hw3
  have Hzs := Lib.hid hzs
  clear hzs
  have HM0 := Lib.hid hM0
  clear hM0
  have Hrd0 := Lib.hid hrd0
  clear hrd0
  have c0 : w3.cell? ⟨w.heap.size, 0, none⟩ = some (.int .i64 0) := by rw [HM0.out.bkR.cell]; rfl
  have c1 : w3.cell? ⟨w.heap.size, 1, none⟩ = some (.slice none 0 0) := by rw [HM0.out.bkR.cell]; rfl
  have f0 := HM0.out.bkR.free 0
  have f1 := HM0.out.bkR.free 1
  have lb := HM0.out.bkR.lt
  have s0 : w3.cell? ⟨sb, 0, none⟩ = some (.int .i64 l) := by rw [HM0.out.bkS.cell]; rfl
  have s1 : w3.cell? ⟨sb, 1, none⟩ = some (.slice B k d) := by rw [HM0.out.bkS.cell]; rfl
  have sf0 := HM0.out.bkS.free 0
  have sf1 := HM0.out.bkS.free 1
  have sl := HM0.out.bkS.lt
  have lSS := HM0.out.lS
  go_wp2_with fail
  rw [← Hw3.out]
  try rw [← Hsb.out]
  with_reducible refine (specSystemOk_any l B k d rs _ Hrd0.out Hk.out hkb Hzs.out).mono ?_
  rintro e w4 ⟨rfl, b4⟩
  have hM4 := HM0.out.below b4
  clear b4 HM0 Hrd0 c0 c1 f0 f1 lb s0 s1 sf0 sf1 sl lSS
  obtain ⟨so, hrr⟩ : ∃ r', r' = (systemOk l rs) := ⟨_, rfl⟩
  rw [← hrr]
  have HSo := Lib.hid hrr
  clear hrr
  obtain ⟨wo, hwo⟩ : ∃ z, z = wordOk l u := ⟨_, rfl⟩
  have HM4 := Lib.hid hM4
  clear hM4
  have Hwo := Lib.hid hwo
  clear hwo
  have c0 : w4.cell? ⟨w.heap.size, 0, none⟩ = some (.int .i64 0) := by rw [HM4.out.bkR.cell]; rfl
  have c1 : w4.cell? ⟨w.heap.size, 1, none⟩ = some (.slice none 0 0) := by rw [HM4.out.bkR.cell]; rfl
  have f0 := HM4.out.bkR.free 0
  have f1 := HM4.out.bkR.free 1
  have lb := HM4.out.bkR.lt
  have s0 : w4.cell? ⟨sb, 0, none⟩ = some (.int .i64 l) := by rw [HM4.out.bkS.cell]; rfl
  have s1 : w4.cell? ⟨sb, 1, none⟩ = some (.slice B k d) := by rw [HM4.out.bkS.cell]; rfl
  have sf0 := HM4.out.bkS.free 0
  have sf1 := HM4.out.bkS.free 1
  have sl := HM4.out.bkS.lt
  have lSS := HM4.out.lS
  cases so
  · go_wp2_with fail
    with_reducible refine (specSortingSystem_any 2 _).mono ?_
    rintro e9 w5 ⟨B5, d5, rfl, hO5, b5⟩
    have e1 : sortL 2 = 2 := by decide
    have e2 : (sorts 2).length = 1 := by decide
    rw [e2] at hO5
    rw [e1, e2]
    have hM5 := HM4.out.below b5
    have hO6 := own_mono hO5 HM4.out.low.size
    have hM6 := hM5.set (l' := 2) hO6
    clear b5 hO5 e1 HM4 c0 c1 f0 f1 lb s0 s1 sf0 sf1 sl lSS
    have E2 := Lib.hid e2
    clear e2
    have HM5 := Lib.hid hM5
    clear hM5
    have HM6 := Lib.hid hM6
    clear hM6
    have HO6 := Lib.hid hO6
    clear hO6
    have c0 : w5.cell? ⟨w.heap.size, 0, none⟩ = some (.int .i64 0) := by rw [HM5.out.bkR.cell]; rfl
    have c1 : w5.cell? ⟨w.heap.size, 1, none⟩ = some (.slice none 0 0) := by rw [HM5.out.bkR.cell]; rfl
    have f0 := HM5.out.bkR.free 0
    have f1 := HM5.out.bkR.free 1
    have lb := HM5.out.bkR.lt
    have s0 : w5.cell? ⟨sb, 0, none⟩ = some (.int .i64 l) := by rw [HM5.out.bkS.cell]; rfl
    have s1 : w5.cell? ⟨sb, 1, none⟩ = some (.slice B k d) := by rw [HM5.out.bkS.cell]; rfl
    have sf0 := HM5.out.bkS.free 0
    have sf1 := HM5.out.bkS.free 1
    have sl := HM5.out.bkS.lt
    have lSS := HM5.out.lS
    go_wp2_with fail
    obtain ⟨k1, k2, k3, k4⟩ := HM6.out.fin
    obtain ⟨w9, hw9⟩ : ∃ z, z = ((((w5.setCell ⟨sb, 0, none⟩ (.int .i64 2)).setCell ⟨sb, 1, none⟩ (.slice B5 1 d5)).setCell ⟨w.heap.size, 0, none⟩ (.int .i64 2)).setCell ⟨w.heap.size, 1, none⟩ (.slice B5 1 d5)) := ⟨_, rfl⟩
    have hws : w9.heap.size = w5.heap.size := by rw [hw9]; simp
    rw [← hw9] at k1 k2 k3 k4
    rw [← hw9]
    have hal9 := (Below.refl _ w9).alloc (Nat.le_refl _) (.cells #[.int .i64 0, .int .i64 0, .bool false] 45)
    have hNw := own_of_bk (base := w.heap.size) (m := 3) (n := 1) (Bk.new w9 45 #[.int .i64 0, .int .i64 0, .bool false]) k4.size rfl (by unfold maxLen; omega)
    have q0 := (k1.below hal9 k1.lt).cell 0
    have q1 := (k1.below hal9 k1.lt).cell 1
    refine bodyPost_ret (v := .tuple #[.agg #[.int .i64 2, .slice B5 1 d5], .string ⟨#[98, 97]⟩, .slice (some ⟨w9.heap.size, 0, none⟩) 1 1]) (by rw [hws]; simp [results, Tryz.results4, go_sem, q0, q1]) rfl ?_
    exact ⟨2, B5, 1, d5, sorts 2, _, _, 1, 1, [(0, 0, false)], sorts2_sys, E2.out.symm, ba_word, ba_chain, rfl, by omega, rfl, own_keep k2 hal9 (Nat.le_refl _), hNw, k4.trans (hal9.mono k4.size)⟩
  · go_wp2_with fail
    with_reducible refine (specWord_any l u _ (by omega)).mono ?_
    rintro e wq ⟨rfl, hwq⟩
    have hwq2 := hwq.symm
    subst hwq2
    clear hwq
    rw [← Hwo.out]
    cases wo
    · go_wp2_with fail
      with_reducible refine (specSortingSystem_any 2 _).mono ?_
      rintro e9 w5 ⟨B5, d5, rfl, hO5, b5⟩
      have e1 : sortL 2 = 2 := by decide
      have e2 : (sorts 2).length = 1 := by decide
      rw [e2] at hO5
      rw [e1, e2]
      have hM5 := HM4.out.below b5
      have hO6 := own_mono hO5 HM4.out.low.size
      have hM6 := hM5.set (l' := 2) hO6
      clear b5 hO5 e1 HM4 c0 c1 f0 f1 lb s0 s1 sf0 sf1 sl lSS
      have E2 := Lib.hid e2
      clear e2
      have HM5 := Lib.hid hM5
      clear hM5
      have HM6 := Lib.hid hM6
      clear hM6
      have HO6 := Lib.hid hO6
      clear hO6
      have c0 : w5.cell? ⟨w.heap.size, 0, none⟩ = some (.int .i64 0) := by rw [HM5.out.bkR.cell]; rfl
      have c1 : w5.cell? ⟨w.heap.size, 1, none⟩ = some (.slice none 0 0) := by rw [HM5.out.bkR.cell]; rfl
      have f0 := HM5.out.bkR.free 0
      have f1 := HM5.out.bkR.free 1
      have lb := HM5.out.bkR.lt
      have s0 : w5.cell? ⟨sb, 0, none⟩ = some (.int .i64 l) := by rw [HM5.out.bkS.cell]; rfl
      have s1 : w5.cell? ⟨sb, 1, none⟩ = some (.slice B k d) := by rw [HM5.out.bkS.cell]; rfl
      have sf0 := HM5.out.bkS.free 0
      have sf1 := HM5.out.bkS.free 1
      have sl := HM5.out.bkS.lt
      have lSS := HM5.out.lS
      go_wp2_with fail
      obtain ⟨k1, k2, k3, k4⟩ := HM6.out.fin
      obtain ⟨w9, hw9⟩ : ∃ z, z = ((((w5.setCell ⟨sb, 0, none⟩ (.int .i64 2)).setCell ⟨sb, 1, none⟩ (.slice B5 1 d5)).setCell ⟨w.heap.size, 0, none⟩ (.int .i64 2)).setCell ⟨w.heap.size, 1, none⟩ (.slice B5 1 d5)) := ⟨_, rfl⟩
      have hws : w9.heap.size = w5.heap.size := by rw [hw9]; simp
      rw [← hw9] at k1 k2 k3 k4
      rw [← hw9]
      have hal9 := (Below.refl _ w9).alloc (Nat.le_refl _) (.cells #[.int .i64 0, .int .i64 0, .bool false] 45)
      have hNw := own_of_bk (base := w.heap.size) (m := 3) (n := 1) (Bk.new w9 45 #[.int .i64 0, .int .i64 0, .bool false]) k4.size rfl (by unfold maxLen; omega)
      have q0 := (k1.below hal9 k1.lt).cell 0
      have q1 := (k1.below hal9 k1.lt).cell 1
      refine bodyPost_ret (v := .tuple #[.agg #[.int .i64 2, .slice B5 1 d5], .string ⟨#[98, 97]⟩, .slice (some ⟨w9.heap.size, 0, none⟩) 1 1]) (by rw [hws]; simp [results, Tryz.results4, go_sem, q0, q1]) rfl ?_
      exact ⟨2, B5, 1, d5, sorts 2, _, _, 1, 1, [(0, 0, false)], sorts2_sys, E2.out.symm, ba_word, ba_chain, rfl, by omega, rfl, own_keep k2 hal9 (Nat.le_refl _), hNw, k4.trans (hal9.mono k4.size)⟩
    · have hrd4 := Rd.of_own HM4.out.ru
      have hli4 := Rd.of_own HM4.out.li
      have hub : u.size ≤ 1048576 := by omega
      have Hrd4 := Lib.hid hrd4
      clear hrd4
      have Hli4 := Lib.hid hli4
      clear hli4
      go_wp2_with fail
      with_reducible refine (specChainOf_any l B k d rs u C m e' ls _ Hrd4.out Hk.out hkb Hzs.out hub Hli4.out Hm.out (by omega)).mono ?_
      rintro e9 w5 ⟨D, dd, rfl, -, b5⟩
      have hM5 := HM4.out.below b5
      obtain ⟨co, hco⟩ : ∃ z, z = coOk l rs u ls := ⟨_, rfl⟩
      rw [← hco]
      clear b5 HM4 Hrd4 Hli4 c0 c1 f0 f1 lb s0 s1 sf0 sf1 sl lSS
      have HM5 := Lib.hid hM5
      clear hM5
      have Hco := Lib.hid hco
      clear hco
      have c0 : w5.cell? ⟨w.heap.size, 0, none⟩ = some (.int .i64 0) := by rw [HM5.out.bkR.cell]; rfl
      have c1 : w5.cell? ⟨w.heap.size, 1, none⟩ = some (.slice none 0 0) := by rw [HM5.out.bkR.cell]; rfl
      have f0 := HM5.out.bkR.free 0
      have f1 := HM5.out.bkR.free 1
      have lb := HM5.out.bkR.lt
      have s0 : w5.cell? ⟨sb, 0, none⟩ = some (.int .i64 l) := by rw [HM5.out.bkS.cell]; rfl
      have s1 : w5.cell? ⟨sb, 1, none⟩ = some (.slice B k d) := by rw [HM5.out.bkS.cell]; rfl
      have sf0 := HM5.out.bkS.free 0
      have sf1 := HM5.out.bkS.free 1
      have sl := HM5.out.bkS.lt
      have lSS := HM5.out.lS
      cases co
      · go_wp2_with fail
        obtain ⟨k1, k2, k3, k4⟩ := HM5.out.fin
        obtain ⟨w9, hw9⟩ : ∃ z, z = ((w5.setCell ⟨w.heap.size, 0, none⟩ (.int .i64 l)).setCell ⟨w.heap.size, 1, none⟩ (.slice B k d)) := ⟨_, rfl⟩
        have hws : w9.heap.size = w5.heap.size := by rw [hw9]; simp
        rw [← hw9] at k1 k2 k3 k4
        rw [← hw9]
        have hal9 := (Below.refl _ w9).alloc (Nat.le_refl _) (.cells #[] 45)
        have hNw := own_of_bk (base := w.heap.size) (m := 3) (n := 0) (Bk.new w9 45 #[]) k4.size rfl (by unfold maxLen; omega)
        have q0 := (k1.below hal9 k1.lt).cell 0
        have q1 := (k1.below hal9 k1.lt).cell 1
        refine bodyPost_ret (v := .tuple #[.agg #[.int .i64 l, .slice B k d], .string u, .slice (some ⟨w9.heap.size, 0, none⟩) 0 0]) (by rw [hws]; simp [results, Tryz.results4, go_sem, q0, q1]) rfl ?_
        exact ⟨l, B, k, d, rs, u, _, 0, 0, [], HSo.out.symm, Hk.out, Hwo.out.symm, no_chain _ _ _, rfl, by omega, rfl, own_keep k2 hal9 (Nat.le_refl _), hNw, k4.trans (hal9.mono k4.size)⟩
      · go_wp2_with fail
        obtain ⟨k1, k2, k3, k4⟩ := HM5.out.fin
        have q0 := k1.cell 0
        have q1 := k1.cell 1
        refine bodyPost_ret (v := .tuple #[.agg #[.int .i64 l, .slice B k d], .string u, .slice C m e']) (by simp [results, Tryz.results4, go_sem, q0, q1]) rfl ?_
        exact ⟨l, B, k, d, rs, u, C, m, e', ls, HSo.out.symm, Hk.out, Hwo.out.symm, Hco.out.symm, Hm.out, hm24, rfl, k2, k3, k4⟩

end Go.Proofs.YteafeecndghapaaGreat
