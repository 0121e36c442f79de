/- Walks over ApplyLink (the program's and the reference's) and link: each returns what alOk and alS say, for all arguments. -/
import Derived.Test.YteafeecndghapaaGreatMg9
import Derived.Test.YteafeecndghapaaGreatMg11
import Derived.Deep.RegionHeld3
namespace Go.Proofs.YteafeecndghapaaGreat
open Go.RowKit Go.Shelf

def linkFrom (rs : List RuleT) (x : LinkT) : ByteArray := if x.2.2 then (ruleAt rs x.1.toNat).2 else (ruleAt rs x.1.toNat).1
def linkTo (rs : List RuleT) (x : LinkT) : ByteArray := if x.2.2 then (ruleAt rs x.1.toNat).1 else (ruleAt rs x.1.toNat).2
/-- The link can be made, but for the length of what comes. -/
def linkHit (rs : List RuleT) (s : ByteArray) (x : LinkT) : Bool := inB x.1 0 ((rs.length : Int) - 1) && inB x.2.1 0 s.size && hasAt s (linkFrom rs x) x.2.1.toNat
def linkOk (rs : List RuleT) (s : ByteArray) (x : LinkT) : Bool := linkHit rs s x && replOk s x.2.1 (linkFrom rs x).size (linkTo rs x)
def linkS (rs : List RuleT) (s : ByteArray) (x : LinkT) : ByteArray := if linkHit rs s x then replS s x.2.1 (linkFrom rs x).size (linkTo rs x) else ⟨#[]⟩
/-- ApplyLink, in plain words. -/
def alOk (l : Int) (rs : List RuleT) (s : ByteArray) (x : LinkT) : Bool := rulesOk l rs && linkOk rs s x
def alS (l : Int) (rs : List RuleT) (s : ByteArray) (x : LinkT) : ByteArray := if rulesOk l rs then linkS rs s x else ⟨#[]⟩
theorem link_no {rs : List RuleT} {s : ByteArray} {x : LinkT} (h : linkHit rs s x = false) : linkOk rs s x = false ∧ linkS rs s x = ⟨#[]⟩ := by
  rw [linkOk, linkS, h]; exact ⟨rfl, rfl⟩
theorem link_yes {rs : List RuleT} {s : ByteArray} {x : LinkT} (h : linkHit rs s x = true) : linkOk rs s x = replOk s x.2.1 (linkFrom rs x).size (linkTo rs x) ∧ linkS rs s x = replS s x.2.1 (linkFrom rs x).size (linkTo rs x) := by
  rw [linkOk, linkS, h]; exact ⟨rfl, rfl⟩
theorem al_no {l : Int} {rs : List RuleT} {s : ByteArray} {x : LinkT} (h : rulesOk l rs = false) : alOk l rs s x = false ∧ alS l rs s x = ⟨#[]⟩ := by
  rw [alOk, alS, h]; exact ⟨rfl, rfl⟩
theorem al_yes {l : Int} {rs : List RuleT} {s : ByteArray} {x : LinkT} (h : rulesOk l rs = true) : alOk l rs s x = linkOk rs s x ∧ alS l rs s x = linkS rs s x := by
  rw [alOk, alS, h]; exact ⟨rfl, rfl⟩

set_option maxRecDepth 100000 in
theorem swap_any (a b : ByteArray) (w : World) : Calls Tryz.prog 61 #[.string a, .string b] w fun e w' => e = .returned (.tuple #[.string b, .string a]) ∧ w = w' := by
  go_enter Tryz.func61, Tryz.ntmps61
  go_wp2_with fail
  go_ret2
  exact ⟨rfl, rfl⟩

set_option maxRecDepth 100000 in
set_option maxHeartbeats 2000000 in
theorem specApplyLink_any (l : Int) (A : Option Addr) (n c : Nat) (rs : List RuleT) (s : ByteArray) (x0 x1 : Int) (x2 : Bool) (w : World) (hr : Rd w A (cellsRule rs)) (hn : n = rs.length) (hb : n ≤ 1048576) (hz : ∀ x ∈ rs, x.1.size ≤ 1048576 ∧ x.2.size ≤ 1048576) (hs : s.size ≤ 1048576) :
    Calls Tryz.prog 32 #[.agg #[.int .i64 l, .slice A n c], .string s, .agg #[.int .i64 x0, .int .i64 x1, .bool x2]] w (Kept w (.tuple #[.string (alS l rs s (x0, x1, x2)), .bool (alOk l rs s (x0, x1, x2))])) := by
  have hW0 : Below w.heap.size w ((w.alloc (.cells #[.int .i64 l, .slice A n c] 25)).alloc (.cells #[.int .i64 x0, .int .i64 x1, .bool x2] 45)) := ((Below.refl _ _).alloc (Nat.le_refl _) _).alloc (by simp) _
  have hS0 : Bk ((w.alloc (.cells #[.int .i64 l, .slice A n c] 25)).alloc (.cells #[.int .i64 x0, .int .i64 x1, .bool x2] 45)) w.heap.size 25 #[.int .i64 l, .slice A n c] := (Bk.new w _ _).alloc _
  have hL0 : Bk ((w.alloc (.cells #[.int .i64 l, .slice A n c] 25)).alloc (.cells #[.int .i64 x0, .int .i64 x1, .bool x2] 45)) (w.heap.size + 1) 45 #[.int .i64 x0, .int .i64 x1, .bool x2] := (Bk.new (w.alloc (.cells #[.int .i64 l, .slice A n c] 25)) 45 #[.int .i64 x0, .int .i64 x1, .bool x2]).cast (by simp)
  have Hr := Lib.hid hr
  clear hr
  have Hn := Lib.hid hn
  clear hn
  have Hz := Lib.hid hz
  clear hz
  go_enter Tryz.func32, Tryz.ntmps32
  go_wp2_with fail
  refine (specRulesOk_any l A n c rs _ (Hr.out.keep hW0) Hn.out hb Hz.out).mono ?_
  rintro e w1 ⟨rfl, b1⟩
  have hW1 := hW0.trans (b1.mono hW0.size)
  have hS1 := hS0.below b1 hS0.lt
  have hL1 := hL0.below b1 hL0.lt
  clear hS0 hL0 b1
  have s0 : w1.cell? ⟨w.heap.size, 0, none⟩ = some (.int .i64 l) := by rw [hS1.cell]; rfl
  have s1 : w1.cell? ⟨w.heap.size, 1, none⟩ = some (.slice A n c) := by rw [hS1.cell]; rfl
  have k0 : w1.cell? ⟨w.heap.size + 1, 0, none⟩ = some (.int .i64 x0) := by rw [hL1.cell]; rfl
  have k1 : w1.cell? ⟨w.heap.size + 1, 1, none⟩ = some (.int .i64 x1) := by rw [hL1.cell]; rfl
  have k2 : w1.cell? ⟨w.heap.size + 1, 2, none⟩ = some (.bool x2) := by rw [hL1.cell]; rfl
  have sl := hS1.lt
  have ll := hL1.lt
  have HS1 := Lib.hid hS1
  clear hS1
  have HL1 := Lib.hid hL1
  clear hL1
  obtain ⟨r1, hrr⟩ : ∃ r', r' = (rulesOk l rs) := ⟨_, rfl⟩
  rw [← hrr]
  have H1 := Lib.hid hrr
  clear hrr
  cases r1
  · go_wp2_with fail
    go_ret2
    obtain ⟨e1, e2⟩ := al_no (s := s) (x := (x0, x1, x2)) H1.out.symm
    exact ⟨by rw [e1, e2]; rfl, hW1⟩
  go_wp2_with fail
  refine (l01In_any x0 0 ((n : Int) - 1) _).mono ?_
  rintro e w' ⟨rfl, rfl⟩
  obtain ⟨r2, hrr⟩ : ∃ r', r' = (inB x0 0 ((n : Int) - 1)) := ⟨_, rfl⟩
  rw [← hrr]
  have H2 := Lib.hid hrr
  clear hrr
  cases r2
  · go_wp2_with fail
    go_ret2
    have e0 : linkHit rs s (x0, x1, x2) = false := by rw [linkHit, ← Hn.out, ← H2.out]; simp
    obtain ⟨e1, e2⟩ := link_no e0
    obtain ⟨e3, e4⟩ := al_yes (s := s) (x := (x0, x1, x2)) H1.out.symm
    exact ⟨by rw [e3, e4, e1, e2]; rfl, hW1⟩
  go_wp2_with fail
  refine (l01In_any x1 0 (s.size : Int) _).mono ?_
  rintro e w' ⟨rfl, rfl⟩
  obtain ⟨r3, hrr⟩ : ∃ r', r' = (inB x1 0 (s.size : Int)) := ⟨_, rfl⟩
  rw [← hrr]
  have H3 := Lib.hid hrr
  clear hrr
  cases r3
  · go_wp2_with fail
    go_ret2
    have e0 : linkHit rs s (x0, x1, x2) = false := by rw [linkHit, ← H3.out]; simp
    obtain ⟨e1, e2⟩ := link_no e0
    obtain ⟨e3, e4⟩ := al_yes (s := s) (x := (x0, x1, x2)) H1.out.symm
    exact ⟨by rw [e3, e4, e1, e2]; rfl, hW1⟩
  obtain ⟨hk1, hk2⟩ := inB_out H2.out
  obtain ⟨hp1, hp2⟩ := inB_out H3.out
  obtain ⟨K, rfl⟩ := Int.eq_ofNat_of_zero_le hk1
  obtain ⟨P, rfl⟩ := Int.eq_ofNat_of_zero_le hp1
  have hK : K < rs.length := by rw [← Hn.out]; omega
  obtain ⟨b, o, rfl, hbl, p0, p1⟩ := rd_Rule (Hr.out.keep hW1) hK
  have hzz := rulesOk_side H1.out.symm (List.getElem_mem hK)
  obtain ⟨⟨v0, v1⟩, hv⟩ : ∃ v, v = rs[K] := ⟨_, rfl⟩
  rw [← hv] at p0 p1 hzz
  dsimp only at p0 p1 hzz
  obtain ⟨z0, z1, -⟩ := hzz
  have hA_ : ruleAt rs K = (v0, v1) := by rw [ruleAt_get hK, hv]
  obtain ⟨e3, e4⟩ := al_yes (s := s) (x := ((K : Int), (P : Int), x2)) H1.out.symm
  have Hv := Lib.hid hv
  clear hv
  have HA_ := Lib.hid hA_
  clear hA_
  have E3 := Lib.hid e3
  clear e3
  have E4 := Lib.hid e4
  clear e4
  cases x2
  · have hF : linkFrom rs ((K : Int), (P : Int), false) = v0 := by rw [linkFrom, Int.toNat_natCast, HA_.out]; rfl
    have hT : linkTo rs ((K : Int), (P : Int), false) = v1 := by rw [linkTo, Int.toNat_natCast, HA_.out]; rfl
    have hH : linkHit rs s ((K : Int), (P : Int), false) = hasAt s v0 P := by rw [linkHit, hF, Int.toNat_natCast, ← Hn.out, ← H2.out, ← H3.out]; rfl
    have HF := Lib.hid hF
    clear hF
    have HT := Lib.hid hT
    clear hT
    have HH := Lib.hid hH
    clear hH
    by_cases h4 : v0.size + P ≤ s.size
    · have h4i : ¬ ((s.size : Int) - (P : Int) < (v0.size : Int)) := by omega
      have hsum : IntKind.i64.wrap ((P : Int) + (v0.size : Int)) = (P : Int) + (v0.size : Int) := IntWalk.i64_in _ ⟨by omega, by omega⟩
      cases h5 : (s.extract P (P + v0.size)).toList == v0.toList
      · have hat : hasAt s v0 P = false := by rw [hasAt, h5, Bool.and_false]
        obtain ⟨e1, e2⟩ := link_no (HH.out.trans hat)
        have Hat := Lib.hid hat
        clear hat
        have E1 := Lib.hid e1
        clear e1
        have E2 := Lib.hid e2
        clear e2
        go_wp2_with fail
        go_ret2
        exact ⟨by rw [E3.out, E4.out, E1.out, E2.out]; rfl, hW1⟩
      · have hat : hasAt s v0 P = true := by rw [hasAt, h5, decide_eq_true h4]; rfl
        obtain ⟨e1, e2⟩ := link_yes (HH.out.trans hat)
        rw [HF.out, HT.out] at e1 e2
        have Hat := Lib.hid hat
        clear hat
        have E1 := Lib.hid e1
        clear e1
        have E2 := Lib.hid e2
        clear e2
        go_wp2_with fail
        refine (specReplace_any s (P : Int) (v0.size : Int) v1 _ hs (by omega)).mono ?_
        rintro e w2 ⟨rfl, b2⟩
        obtain ⟨a, ha⟩ : ∃ a, a = replS s (P : Int) (v0.size : Int) v1 := ⟨_, rfl⟩
        obtain ⟨d, hd⟩ : ∃ d, d = replOk s (P : Int) (v0.size : Int) v1 := ⟨_, rfl⟩
        rw [← ha, ← hd]
        have Ha := Lib.hid ha
        clear ha
        have Hd := Lib.hid hd
        clear hd
        go_wp2_with fail
        go_ret2
        exact ⟨by rw [E3.out, E4.out, E1.out, E2.out, Ha.out, Hd.out]; rfl, hW1.trans (b2.mono hW1.size)⟩
    · have h4i : (s.size : Int) - (P : Int) < (v0.size : Int) := by omega
      have hat : hasAt s v0 P = false := by rw [hasAt, decide_eq_false h4]; rfl
      obtain ⟨e1, e2⟩ := link_no (HH.out.trans hat)
      have Hat := Lib.hid hat
      clear hat
      have E1 := Lib.hid e1
      clear e1
      have E2 := Lib.hid e2
      clear e2
      go_wp2_with fail
      go_ret2
      exact ⟨by rw [E3.out, E4.out, E1.out, E2.out]; rfl, hW1⟩
  · have hF : linkFrom rs ((K : Int), (P : Int), true) = v1 := by rw [linkFrom, Int.toNat_natCast, HA_.out]; rfl
    have hT : linkTo rs ((K : Int), (P : Int), true) = v0 := by rw [linkTo, Int.toNat_natCast, HA_.out]; rfl
    have hH : linkHit rs s ((K : Int), (P : Int), true) = hasAt s v1 P := by rw [linkHit, hF, Int.toNat_natCast, ← Hn.out, ← H2.out, ← H3.out]; rfl
    have HF := Lib.hid hF
    clear hF
    have HT := Lib.hid hT
    clear hT
    have HH := Lib.hid hH
    clear hH
    go_wp2_with fail
    refine (swap_any v0 v1 _).mono ?_
    rintro e w' ⟨rfl, rfl⟩
    by_cases h4 : v1.size + P ≤ s.size
    · have h4i : ¬ ((s.size : Int) - (P : Int) < (v1.size : Int)) := by omega
      have hsum : IntKind.i64.wrap ((P : Int) + (v1.size : Int)) = (P : Int) + (v1.size : Int) := IntWalk.i64_in _ ⟨by omega, by omega⟩
      cases h5 : (s.extract P (P + v1.size)).toList == v1.toList
      · have hat : hasAt s v1 P = false := by rw [hasAt, h5, Bool.and_false]
        obtain ⟨e1, e2⟩ := link_no (HH.out.trans hat)
        have Hat := Lib.hid hat
        clear hat
        have E1 := Lib.hid e1
        clear e1
        have E2 := Lib.hid e2
        clear e2
        go_wp2_with fail
        go_ret2
        exact ⟨by rw [E3.out, E4.out, E1.out, E2.out]; rfl, hW1⟩
      · have hat : hasAt s v1 P = true := by rw [hasAt, h5, decide_eq_true h4]; rfl
        obtain ⟨e1, e2⟩ := link_yes (HH.out.trans hat)
        rw [HF.out, HT.out] at e1 e2
        have Hat := Lib.hid hat
        clear hat
        have E1 := Lib.hid e1
        clear e1
        have E2 := Lib.hid e2
        clear e2
        go_wp2_with fail
        refine (specReplace_any s (P : Int) (v1.size : Int) v0 _ hs (by omega)).mono ?_
        rintro e w2 ⟨rfl, b2⟩
        obtain ⟨a, ha⟩ : ∃ a, a = replS s (P : Int) (v1.size : Int) v0 := ⟨_, rfl⟩
        obtain ⟨d, hd⟩ : ∃ d, d = replOk s (P : Int) (v1.size : Int) v0 := ⟨_, rfl⟩
        rw [← ha, ← hd]
        have Ha := Lib.hid ha
        clear ha
        have Hd := Lib.hid hd
        clear hd
        go_wp2_with fail
        go_ret2
        exact ⟨by rw [E3.out, E4.out, E1.out, E2.out, Ha.out, Hd.out]; rfl, hW1.trans (b2.mono hW1.size)⟩
    · have h4i : (s.size : Int) - (P : Int) < (v1.size : Int) := by omega
      have hat : hasAt s v1 P = false := by rw [hasAt, decide_eq_false h4]; rfl
      obtain ⟨e1, e2⟩ := link_no (HH.out.trans hat)
      have Hat := Lib.hid hat
      clear hat
      have E1 := Lib.hid e1
      clear e1
      have E2 := Lib.hid e2
      clear e2
      go_wp2_with fail
      go_ret2
      exact ⟨by rw [E3.out, E4.out, E1.out, E2.out]; rfl, hW1⟩

set_option maxRecDepth 100000 in
set_option maxHeartbeats 2000000 in
theorem implLink_any (l : Int) (A : Option Addr) (n c : Nat) (rs : List RuleT) (s : ByteArray) (x0 x1 : Int) (x2 : Bool) (w : World) (hr : Rd w A (cellsRule rs)) (hn : n = rs.length) (hb : n ≤ 1048576) (hz : ∀ x ∈ rs, x.1.size ≤ 1048576 ∧ x.2.size ≤ 1048576) (hs : s.size ≤ 1048576) (h2 : inB x0 0 ((rs.length : Int) - 1) = true) :
    Calls Tryz.prog 41 #[.agg #[.int .i64 l, .slice A n c], .string s, .agg #[.int .i64 x0, .int .i64 x1, .bool x2]] w (Kept w (.tuple #[.string (linkS rs s (x0, x1, x2)), .bool (linkOk rs s (x0, x1, x2))])) := by
  have hW0 : Below w.heap.size w ((w.alloc (.cells #[.int .i64 l, .slice A n c] 25)).alloc (.cells #[.int .i64 x0, .int .i64 x1, .bool x2] 45)) := ((Below.refl _ _).alloc (Nat.le_refl _) _).alloc (by simp) _
  have hS0 : Bk ((w.alloc (.cells #[.int .i64 l, .slice A n c] 25)).alloc (.cells #[.int .i64 x0, .int .i64 x1, .bool x2] 45)) w.heap.size 25 #[.int .i64 l, .slice A n c] := (Bk.new w _ _).alloc _
  have hL0 : Bk ((w.alloc (.cells #[.int .i64 l, .slice A n c] 25)).alloc (.cells #[.int .i64 x0, .int .i64 x1, .bool x2] 45)) (w.heap.size + 1) 45 #[.int .i64 x0, .int .i64 x1, .bool x2] := (Bk.new (w.alloc (.cells #[.int .i64 l, .slice A n c] 25)) 45 #[.int .i64 x0, .int .i64 x1, .bool x2]).cast (by simp)
  obtain ⟨hk1, hk2⟩ := inB_out h2.symm
  obtain ⟨K, rfl⟩ := Int.eq_ofNat_of_zero_le hk1
  have hK : K < rs.length := by omega
  have hKn : K < n := by omega
  obtain ⟨b, o, rfl, hbl, p0, p1⟩ := rd_Rule (hr.keep hW0) hK
  have hzz := hz _ (List.getElem_mem hK)
  obtain ⟨⟨v0, v1⟩, hv⟩ : ∃ v, v = rs[K] := ⟨_, rfl⟩
  rw [← hv] at p0 p1 hzz
  dsimp only at p0 p1 hzz
  obtain ⟨z0, z1⟩ := hzz
  have hA_ : ruleAt rs K = (v0, v1) := by rw [ruleAt_get hK, hv]
  clear hr hk2
  have H2 := Lib.hid h2.symm
  clear h2
  have zS : (fun W => W.cell? ⟨w.heap.size, 1, none⟩ = some (.slice (some ⟨b, o, none⟩) n c) ∧ W.cell? ⟨w.heap.size + 1, 0, none⟩ = some (.int .i64 (K : Int)) ∧ W.cell? ⟨b, o + K * 2, none⟩ = some (.string v0) ∧ W.cell? ⟨b, o + K * 2 + 1, none⟩ = some (.string v1)) (((w.alloc (.cells #[.int .i64 l, .slice (some ⟨b, o, none⟩) n c] 25)).alloc (.cells #[.int .i64 (K : Int), .int .i64 x1, .bool x2] 45))).drew := ⟨by rw [hS0.drew.cell]; rfl, by rw [hL0.drew.cell]; rfl, p0, p1⟩
  have Hv := Lib.hid hv
  clear hv
  have HA_ := Lib.hid hA_
  clear hA_
  have Hn := Lib.hid hn
  clear hn
  have Hz := Lib.hid hz
  clear hz
  have HS0 := Lib.hid hS0
  clear hS0
  have HL0 := Lib.hid hL0
  clear hL0
  have ZS := Lib.hid zS
  clear zS
  go_enter Tryz.func41, Tryz.ntmps41
  cases x2
  · have hF : linkFrom rs ((K : Int), x1, false) = v0 := by rw [linkFrom, Int.toNat_natCast, HA_.out]; rfl
    have hT : linkTo rs ((K : Int), x1, false) = v1 := by rw [linkTo, Int.toNat_natCast, HA_.out]; rfl
    have HF := Lib.hid hF
    clear hF
    have HT := Lib.hid hT
    clear hT
    go_wp2_with fail
    go_region_held3 (fun W => W.cell? ⟨w.heap.size, 1, none⟩ = some (.slice (some ⟨b, o, none⟩) n c) ∧ W.cell? ⟨w.heap.size + 1, 0, none⟩ = some (.int .i64 (K : Int)) ∧ W.cell? ⟨b, o + K * 2, none⟩ = some (.string v0) ∧ W.cell? ⟨b, o + K * 2 + 1, none⟩ = some (.string v1)) (first | exact ZS.out | assumption) (fail)
    go_wp2_with fail
    refine (within_any x1 0 (s.size : Int) _).mono ?_
    rintro e w' ⟨rfl, rfl⟩
    obtain ⟨r3, hrr⟩ : ∃ r', r' = (inB x1 0 (s.size : Int)) := ⟨_, rfl⟩
    rw [← hrr]
    have H3 := Lib.hid hrr
    clear hrr
    cases r3
    · go_wp2_with fail
      go_ret2
      have e0 : linkHit rs s ((K : Int), x1, false) = false := by rw [linkHit, ← H3.out]; simp
      obtain ⟨e1, e2⟩ := link_no e0
      exact ⟨by rw [e1, e2]; rfl, by first | exact hW0 | exact hW0.drew⟩
    obtain ⟨hp1, hp2⟩ := inB_out H3.out
    obtain ⟨P, rfl⟩ := Int.eq_ofNat_of_zero_le hp1
    have hH : linkHit rs s ((K : Int), (P : Int), false) = hasAt s v0 P := by rw [linkHit, HF.out, Int.toNat_natCast, ← H2.out, ← H3.out]; rfl
    have zx : (s.extract P s.size).size ≤ 1048576 := by simp; omega
    go_wp2_with fail
    refine (hasPrefix_any (s.extract P s.size) v0 _ (by omega) (by omega)).mono ?_
    rintro e w2 ⟨rfl, b2⟩
    rw [hasPre_at s v0 P (by omega)]
    obtain ⟨r4, h4⟩ : ∃ r4, r4 = hasAt s v0 P := ⟨_, rfl⟩
    rw [← h4] at hH ⊢
    have b3 : Below ((w.alloc (.cells #[.int .i64 l, .slice (some ⟨b, o, none⟩) n c] 25)).alloc (.cells #[.int .i64 (K : Int), .int .i64 (P : Int), .bool false] 45)).heap.size ((w.alloc (.cells #[.int .i64 l, .slice (some ⟨b, o, none⟩) n c] 25)).alloc (.cells #[.int .i64 (K : Int), .int .i64 (P : Int), .bool false] 45)) w2 := by first | exact b2 | exact ((Below.refl _ _).drew).trans b2
    have hW2 := hW0.trans (b3.mono hW0.size)
    have hL2 := HL0.out.below b3 HL0.out.lt
    have m1 : w2.cell? ⟨w.heap.size + 1, 1, none⟩ = some (.int .i64 (P : Int)) := by rw [hL2.cell]; rfl
    have ml := hL2.lt
    clear b2 b3
    cases r4
    · obtain ⟨e1, e2⟩ := link_no hH
      have E1 := Lib.hid e1
      clear e1
      have E2 := Lib.hid e2
      clear e2
      have H4 := Lib.hid h4
      clear h4
      have HH := Lib.hid hH
      clear hH
      go_wp2_with fail
      go_ret2
      exact ⟨by rw [E1.out, E2.out]; rfl, hW2⟩
    · obtain ⟨e1, e2⟩ := link_yes hH
      rw [HF.out, HT.out] at e1 e2
      have E1 := Lib.hid e1
      clear e1
      have E2 := Lib.hid e2
      clear e2
      have H4 := Lib.hid h4
      clear h4
      have HH := Lib.hid hH
      clear hH
      go_wp2_with fail
      refine (implReplace_any s (P : Int) (v0.size : Int) v1 _ hs (by omega)).mono ?_
      rintro e w3 ⟨rfl, b3⟩
      obtain ⟨a, ha⟩ : ∃ a, a = replS s (P : Int) (v0.size : Int) v1 := ⟨_, rfl⟩
      obtain ⟨d, hd⟩ : ∃ d, d = replOk s (P : Int) (v0.size : Int) v1 := ⟨_, rfl⟩
      rw [← ha, ← hd]
      have Ha := Lib.hid ha
      clear ha
      have Hd := Lib.hid hd
      clear hd
      go_wp2_with fail
      go_ret2
      exact ⟨by rw [E1.out, E2.out, Ha.out, Hd.out]; rfl, hW2.trans (b3.mono hW2.size)⟩
  · have hF : linkFrom rs ((K : Int), x1, true) = v1 := by rw [linkFrom, Int.toNat_natCast, HA_.out]; rfl
    have hT : linkTo rs ((K : Int), x1, true) = v0 := by rw [linkTo, Int.toNat_natCast, HA_.out]; rfl
    have HF := Lib.hid hF
    clear hF
    have HT := Lib.hid hT
    clear hT
    go_wp2_with fail
    go_region_held3 (fun W => W.cell? ⟨w.heap.size, 1, none⟩ = some (.slice (some ⟨b, o, none⟩) n c) ∧ W.cell? ⟨w.heap.size + 1, 0, none⟩ = some (.int .i64 (K : Int)) ∧ W.cell? ⟨b, o + K * 2, none⟩ = some (.string v0) ∧ W.cell? ⟨b, o + K * 2 + 1, none⟩ = some (.string v1)) (first | exact ZS.out | assumption) (fail)
    go_wp2_with fail
    refine (within_any x1 0 (s.size : Int) _).mono ?_
    rintro e w' ⟨rfl, rfl⟩
    obtain ⟨r3, hrr⟩ : ∃ r', r' = (inB x1 0 (s.size : Int)) := ⟨_, rfl⟩
    rw [← hrr]
    have H3 := Lib.hid hrr
    clear hrr
    cases r3
    · go_wp2_with fail
      go_ret2
      have e0 : linkHit rs s ((K : Int), x1, true) = false := by rw [linkHit, ← H3.out]; simp
      obtain ⟨e1, e2⟩ := link_no e0
      exact ⟨by rw [e1, e2]; rfl, by first | exact hW0 | exact hW0.drew⟩
    obtain ⟨hp1, hp2⟩ := inB_out H3.out
    obtain ⟨P, rfl⟩ := Int.eq_ofNat_of_zero_le hp1
    have hH : linkHit rs s ((K : Int), (P : Int), true) = hasAt s v1 P := by rw [linkHit, HF.out, Int.toNat_natCast, ← H2.out, ← H3.out]; rfl
    have zx : (s.extract P s.size).size ≤ 1048576 := by simp; omega
    go_wp2_with fail
    refine (hasPrefix_any (s.extract P s.size) v1 _ (by omega) (by omega)).mono ?_
    rintro e w2 ⟨rfl, b2⟩
    rw [hasPre_at s v1 P (by omega)]
    obtain ⟨r4, h4⟩ : ∃ r4, r4 = hasAt s v1 P := ⟨_, rfl⟩
    rw [← h4] at hH ⊢
    have b3 : Below ((w.alloc (.cells #[.int .i64 l, .slice (some ⟨b, o, none⟩) n c] 25)).alloc (.cells #[.int .i64 (K : Int), .int .i64 (P : Int), .bool true] 45)).heap.size ((w.alloc (.cells #[.int .i64 l, .slice (some ⟨b, o, none⟩) n c] 25)).alloc (.cells #[.int .i64 (K : Int), .int .i64 (P : Int), .bool true] 45)) w2 := by first | exact b2 | exact ((Below.refl _ _).drew).trans b2
    have hW2 := hW0.trans (b3.mono hW0.size)
    have hL2 := HL0.out.below b3 HL0.out.lt
    have m1 : w2.cell? ⟨w.heap.size + 1, 1, none⟩ = some (.int .i64 (P : Int)) := by rw [hL2.cell]; rfl
    have ml := hL2.lt
    clear b2 b3
    cases r4
    · obtain ⟨e1, e2⟩ := link_no hH
      have E1 := Lib.hid e1
      clear e1
      have E2 := Lib.hid e2
      clear e2
      have H4 := Lib.hid h4
      clear h4
      have HH := Lib.hid hH
      clear hH
      go_wp2_with fail
      go_ret2
      exact ⟨by rw [E1.out, E2.out]; rfl, hW2⟩
    · obtain ⟨e1, e2⟩ := link_yes hH
      rw [HF.out, HT.out] at e1 e2
      have E1 := Lib.hid e1
      clear e1
      have E2 := Lib.hid e2
      clear e2
      have H4 := Lib.hid h4
      clear h4
      have HH := Lib.hid hH
      clear hH
      go_wp2_with fail
      refine (implReplace_any s (P : Int) (v1.size : Int) v0 _ hs (by omega)).mono ?_
      rintro e w3 ⟨rfl, b3⟩
      obtain ⟨a, ha⟩ : ∃ a, a = replS s (P : Int) (v1.size : Int) v0 := ⟨_, rfl⟩
      obtain ⟨d, hd⟩ : ∃ d, d = replOk s (P : Int) (v1.size : Int) v0 := ⟨_, rfl⟩
      rw [← ha, ← hd]
      have Ha := Lib.hid ha
      clear ha
      have Hd := Lib.hid hd
      clear hd
      go_wp2_with fail
      go_ret2
      exact ⟨by rw [E1.out, E2.out, Ha.out, Hd.out]; rfl, hW2.trans (b3.mono hW2.size)⟩

set_option maxRecDepth 100000 in
set_option maxHeartbeats 2000000 in
theorem implApplyLink_any (l : Int) (A : Option Addr) (n c : Nat) (rs : List RuleT) (s : ByteArray) (x0 x1 : Int) (x2 : Bool) (w : World) (hr : Rd w A (cellsRule rs)) (hn : n = rs.length) (hb : n ≤ 1048576) (hz : ∀ x ∈ rs, x.1.size ≤ 1048576 ∧ x.2.size ≤ 1048576) (hs : s.size ≤ 1048576) :
    Calls Tryz.prog 17 #[.agg #[.int .i64 l, .slice A n c], .string s, .agg #[.int .i64 x0, .int .i64 x1, .bool x2]] w (Kept w (.tuple #[.string (alS l rs s (x0, x1, x2)), .bool (alOk l rs s (x0, x1, x2))])) := by
  have hW0 : Below w.heap.size w ((w.alloc (.cells #[.int .i64 l, .slice A n c] 25)).alloc (.cells #[.int .i64 x0, .int .i64 x1, .bool x2] 45)) := ((Below.refl _ _).alloc (Nat.le_refl _) _).alloc (by simp) _
  have hS0 : Bk ((w.alloc (.cells #[.int .i64 l, .slice A n c] 25)).alloc (.cells #[.int .i64 x0, .int .i64 x1, .bool x2] 45)) w.heap.size 25 #[.int .i64 l, .slice A n c] := (Bk.new w _ _).alloc _
  have hL0 : Bk ((w.alloc (.cells #[.int .i64 l, .slice A n c] 25)).alloc (.cells #[.int .i64 x0, .int .i64 x1, .bool x2] 45)) (w.heap.size + 1) 45 #[.int .i64 x0, .int .i64 x1, .bool x2] := (Bk.new (w.alloc (.cells #[.int .i64 l, .slice A n c] 25)) 45 #[.int .i64 x0, .int .i64 x1, .bool x2]).cast (by simp)
  have Hr := Lib.hid hr
  clear hr
  have Hn := Lib.hid hn
  clear hn
  have Hz := Lib.hid hz
  clear hz
  go_enter Tryz.func17, Tryz.ntmps17
  go_wp2_with fail
  refine (implRulesOk_any l A n c rs _ (Hr.out.keep hW0) Hn.out hb Hz.out).mono ?_
  rintro e w1 ⟨rfl, b1⟩
  have hW1 := hW0.trans (b1.mono hW0.size)
  have hS1 := hS0.below b1 hS0.lt
  have hL1 := hL0.below b1 hL0.lt
  clear hS0 hL0 b1
  have s0 : w1.cell? ⟨w.heap.size, 0, none⟩ = some (.int .i64 l) := by rw [hS1.cell]; rfl
  have s1 : w1.cell? ⟨w.heap.size, 1, none⟩ = some (.slice A n c) := by rw [hS1.cell]; rfl
  have k0 : w1.cell? ⟨w.heap.size + 1, 0, none⟩ = some (.int .i64 x0) := by rw [hL1.cell]; rfl
  have k1 : w1.cell? ⟨w.heap.size + 1, 1, none⟩ = some (.int .i64 x1) := by rw [hL1.cell]; rfl
  have k2 : w1.cell? ⟨w.heap.size + 1, 2, none⟩ = some (.bool x2) := by rw [hL1.cell]; rfl
  have sl := hS1.lt
  have ll := hL1.lt
  have HS1 := Lib.hid hS1
  clear hS1
  have HL1 := Lib.hid hL1
  clear hL1
  obtain ⟨r1, hrr⟩ : ∃ r', r' = (rulesOk l rs) := ⟨_, rfl⟩
  rw [← hrr]
  have H1 := Lib.hid hrr
  clear hrr
  cases r1
  · go_wp2_with fail
    go_ret2
    obtain ⟨e1, e2⟩ := al_no (s := s) (x := (x0, x1, x2)) H1.out.symm
    exact ⟨by rw [e1, e2]; rfl, hW1⟩
  go_wp2_with fail
  refine (within_any x0 0 ((n : Int) - 1) _).mono ?_
  rintro e w' ⟨rfl, rfl⟩
  obtain ⟨r2, hrr⟩ : ∃ r', r' = (inB x0 0 ((n : Int) - 1)) := ⟨_, rfl⟩
  rw [← hrr]
  have H2 := Lib.hid hrr
  clear hrr
  cases r2
  · go_wp2_with fail
    go_ret2
    have e0 : linkHit rs s (x0, x1, x2) = false := by rw [linkHit, ← Hn.out, ← H2.out]; simp
    obtain ⟨e1, e2⟩ := link_no e0
    obtain ⟨e3, e4⟩ := al_yes (s := s) (x := (x0, x1, x2)) H1.out.symm
    exact ⟨by rw [e3, e4, e1, e2]; rfl, hW1⟩
  go_wp2_with fail
  refine (implLink_any l A n c rs s x0 x1 x2 _ (Hr.out.keep hW1) Hn.out hb Hz.out hs (by rw [← Hn.out]; exact H2.out.symm)).mono ?_
  rintro e w2 ⟨rfl, b2⟩
  obtain ⟨e3, e4⟩ := al_yes (s := s) (x := (x0, x1, x2)) H1.out.symm
  obtain ⟨a, ha⟩ : ∃ a, a = linkS rs s (x0, x1, x2) := ⟨_, rfl⟩
  obtain ⟨d, hd⟩ : ∃ d, d = linkOk rs s (x0, x1, x2) := ⟨_, rfl⟩
  rw [← ha, ← hd]
  have Ha := Lib.hid ha
  clear ha
  have Hd := Lib.hid hd
  clear hd
  have E3 := Lib.hid e3
  clear e3
  have E4 := Lib.hid e4
  clear e4
  go_wp2_with fail
  go_ret2
  exact ⟨by rw [E3.out, E4.out, Ha.out, Hd.out]; rfl, hW1.trans (b2.mono hW1.size)⟩

end Go.Proofs.YteafeecndghapaaGreat
