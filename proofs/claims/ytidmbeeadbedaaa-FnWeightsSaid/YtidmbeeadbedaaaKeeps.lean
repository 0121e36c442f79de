/- Walks over KeepsWeight (the program's and the reference's) and keeps: each returns what keepsW says, for all arguments. -/
import Derived.Test.YtidmbeeadbedaaaRulesOk
import Derived.Test.YtidmbeeadbedaaaWgt
import Derived.Deep.RegionHeld3
namespace Go.Proofs.Ytidmbeeadbedaaa
open Go.RowKit Go.Shelf

def keepR (m : Int) (ws : List Int) (r : RuleT) : Bool := decide (weightV m ws r.1 = weightV m ws r.2)
/-- All rules keep the weight. -/
def keepsAll (m : Int) (ws : List Int) (rs : List RuleT) : Bool := rs.all (keepR m ws)
/-- KeepsWeight, in plain words. -/
def keepsW (l : Int) (rs : List RuleT) (m : Int) (ws : List Int) : Bool := rulesOk l rs && wtsOk m ws && decide ((ws.length : Int) = l) && keepsAll m ws rs
/-- A rule of letters that have weights. -/
def weighs (k : Int) (r : RuleT) : Prop := lettersOk k r.1 = true ∧ r.1.size ≤ 16 ∧ lettersOk k r.2 = true ∧ r.2.size ≤ 16
theorem rules_weigh {l : Int} {rs : List RuleT} (h : rulesOk l rs = true) : ∀ r ∈ rs, weighs l r := fun r hr => by
  unfold rulesOk at h
  simp only [Bool.and_eq_true] at h
  have h2 := List.all_eq_true.1 h.2 r hr
  unfold ruleOk sidesOk wordOk at h2
  simp only [Bool.and_eq_true, decide_eq_true_eq] at h2
  exact ⟨h2.1.1.1.1.2, by omega, h2.1.1.1.2.2, by omega⟩
theorem wts_small {m : Int} {xs : List Int} (h : wtsOk m xs = true) : ∀ k (hk : k < xs.length), 0 ≤ xs[k] ∧ xs[k] ≤ 1000 := fun k hk => by
  obtain ⟨h1, h2, _, _, h5⟩ := wts_bounds h
  have := h5 k hk
  omega


set_option maxRecDepth 100000 in
set_option maxHeartbeats 2000000 in
theorem keeps1_any (m : Int) (B : Option Addr) (k d : Nat) (ws : List Int) (b1 b2 : Nat) (x : RuleT) (w : World) (hy : Rd w B (ints ws)) (hk : k = ws.length) (hbk : k ≤ 1048576)
    (hm1 : 1 ≤ m) (hm2 : m ≤ 12) (hbd : ∀ k (hk : k < ws.length), 0 ≤ ws[k] ∧ ws[k] ≤ 1000) (hw : weighs (k : Int) x) (h1 : w.cell? ⟨b1, 0, none⟩ = some (.int .i64 m)) (h2 : w.cell? ⟨b2, 0, none⟩ = some (.slice B k d)) (g1 : b1 < w.heap.size) (g2 : b2 < w.heap.size) :
    Calls Try.prog 158 (#[evRule x] ++ #[.pointer (some ⟨b1, 0, none⟩), .pointer (some ⟨b2, 0, none⟩)]) w (Kept w (.bool (!keepR m ws x))) := by
  obtain ⟨v0, v1⟩ := x
  obtain ⟨l0, z0, l1, z1⟩ := hw
  dsimp only at l0 z0 l1 z1
  show Calls Try.prog 158 #[.agg #[.string v0, .string v1], .pointer (some ⟨b1, 0, none⟩), .pointer (some ⟨b2, 0, none⟩)] w _
  have hW1 : Below w.heap.size w (w.alloc (.cells #[.string v0, .string v1] 156)) := (Below.refl _ _).alloc (Nat.le_refl _) _
  have hX := (Bk.new w 156 #[.string v0, .string v1]).drew
  have zC : (w.alloc (.cells #[.string v0, .string v1] 156)).drew.cell? ⟨w.heap.size, 0, none⟩ = some (.string v0) ∧ (w.alloc (.cells #[.string v0, .string v1] 156)).drew.cell? ⟨w.heap.size, 1, none⟩ = some (.string v1) ∧ (w.alloc (.cells #[.string v0, .string v1] 156)).drew.cell? ⟨b1, 0, none⟩ = some (.int .i64 m) ∧ (w.alloc (.cells #[.string v0, .string v1] 156)).drew.cell? ⟨b2, 0, none⟩ = some (.slice B k d) := ⟨by rw [hX.cell]; rfl, by rw [hX.cell]; rfl, (hW1.drew.cell (p := ⟨b1, 0, none⟩) g1).trans h1, (hW1.drew.cell (p := ⟨b2, 0, none⟩) g2).trans h2⟩
  have hyd : Rd (w.alloc (.cells #[.string v0, .string v1] 156)).drew B (ints ws) := hy.keep hW1.drew
  obtain ⟨a, ha⟩ : ∃ a, weightV m ws v0 = a := ⟨_, rfl⟩
  obtain ⟨e, he⟩ : ∃ e, weightV m ws v1 = e := ⟨_, rfl⟩
  have hkr : keepR m ws (v0, v1) = decide (a = e) := by rw [keepR, ha, he]
  clear hX h1 h2 hy
  have ZC := Lib.hid zC
  clear zC
  have Hyd := Lib.hid hyd
  clear hyd
  have Ha := Lib.hid ha
  clear ha
  have He := Lib.hid he
  clear he
  have L0 := Lib.hid l0
  clear l0
  have L1 := Lib.hid l1
  clear l1
  have Hkr := Lib.hid hkr
  clear hkr
  have Hk := Lib.hid hk
  clear hk
  have Hbd := Lib.hid hbd
  clear hbd
  by_cases hae : a = e
  · have hne : (a != e) = false := by simp [hae]
    have hk1 : keepR m ws (v0, v1) = true := by rw [Hkr.out, decide_eq_true hae]
    clear hae
    have Hk1 := Lib.hid hk1
    clear hk1
    go_enter Try.func158, Try.ntmps158
    go_wp2_with fail
    go_region_held3 (fun W => W.cell? ⟨w.heap.size, 0, none⟩ = some (.string v0) ∧ W.cell? ⟨w.heap.size, 1, none⟩ = some (.string v1) ∧ W.cell? ⟨b1, 0, none⟩ = some (.int .i64 m) ∧ W.cell? ⟨b2, 0, none⟩ = some (.slice B k d)) (first | exact ZC.out | assumption) ((first | ((with_reducible refine (implWeight_any m B k d ws v0 _ Hyd.out Hk.out hbk hm1 hm2 Hbd.out L0.out z0).mono ?_); rintro e1 y1 ⟨rfl, rfl⟩; rw [Ha.out]) | ((with_reducible refine (implWeight_any m B k d ws v1 _ Hyd.out Hk.out hbk hm1 hm2 Hbd.out L1.out z1).mono ?_); rintro e1 y1 ⟨rfl, rfl⟩; rw [He.out])))
    go_wp2_with fail
    go_ret
    exact ⟨ret_bool (by rw [Hk1.out]; rfl), (by first | exact hW1 | exact hW1.drew)⟩
  · have hne : (a != e) = true := by simp [hae]
    have hk1 : keepR m ws (v0, v1) = false := by rw [Hkr.out, decide_eq_false hae]
    clear hae
    have Hk1 := Lib.hid hk1
    clear hk1
    go_enter Try.func158, Try.ntmps158
    go_wp2_with fail
    go_region_held3 (fun W => W.cell? ⟨w.heap.size, 0, none⟩ = some (.string v0) ∧ W.cell? ⟨w.heap.size, 1, none⟩ = some (.string v1) ∧ W.cell? ⟨b1, 0, none⟩ = some (.int .i64 m) ∧ W.cell? ⟨b2, 0, none⟩ = some (.slice B k d)) (first | exact ZC.out | assumption) ((first | ((with_reducible refine (implWeight_any m B k d ws v0 _ Hyd.out Hk.out hbk hm1 hm2 Hbd.out L0.out z0).mono ?_); rintro e1 y1 ⟨rfl, rfl⟩; rw [Ha.out]) | ((with_reducible refine (implWeight_any m B k d ws v1 _ Hyd.out Hk.out hbk hm1 hm2 Hbd.out L1.out z1).mono ?_); rintro e1 y1 ⟨rfl, rfl⟩; rw [He.out])))
    go_wp2_with fail
    go_ret
    exact ⟨ret_bool (by rw [Hk1.out]; rfl), (by first | exact hW1 | exact hW1.drew)⟩

theorem all_not_keep (m : Int) (ws : List Int) (xs : List RuleT) : (!xs.any (fun x => !keepR m ws x)) = keepsAll m ws xs := by
  unfold keepsAll
  induction xs with
  | nil => rfl
  | cons x xs ih => simp only [List.any_cons, List.all_cons, Bool.not_or, ih, Bool.not_not]

set_option maxRecDepth 100000 in
set_option maxHeartbeats 2000000 in
theorem implKeeps_any (l : Int) (A : Option Addr) (n c : Nat) (rs : List RuleT) (m : Int) (B : Option Addr) (k d : Nat) (ws : List Int) (w : World) (hr : Rd w A (cellsRule rs)) (hn : n = rs.length) (hb : n ≤ 1048576) (hy : Rd w B (ints ws)) (hk : k = ws.length) (hbk : k ≤ 1048576)
    (hm1 : 1 ≤ m) (hm2 : m ≤ 12) (hbd : ∀ k (hk : k < ws.length), 0 ≤ ws[k] ∧ ws[k] ≤ 1000) (hw : ∀ r ∈ rs, weighs (k : Int) r) :
    Calls Try.prog 108 #[.agg #[.int .i64 l, .slice A n c], .int .i64 m, .slice B k d] w (Kept w (.bool (keepsAll m ws rs))) := by
  have hmf : ∀ (fn : Fn) (first cap : Array Value) (w : World), (Instr.makeFunc fn first cap).run Try.prog w = .ok (.func fn first cap) w := fun _ _ _ _ => rfl
  have eg := enters_of Try.func158 (by kernel_rfl) rfl
  have hW0 : Below w.heap.size w (((w.alloc (.cells #[.int .i64 l, .slice A n c] 25)).alloc (.cells #[.int .i64 m] 3)).alloc (.cells #[.slice B k d] 73)) := (((Below.refl _ _).alloc (Nat.le_refl _) _).alloc (by simp) _).alloc (by simp; omega) _
  have hB1 : Bk (((w.alloc (.cells #[.int .i64 l, .slice A n c] 25)).alloc (.cells #[.int .i64 m] 3)).alloc (.cells #[.slice B k d] 73)) (w.heap.size + 1) 3 #[.int .i64 m] := ((Bk.new (w.alloc (.cells #[.int .i64 l, .slice A n c] 25)) 3 #[.int .i64 m]).alloc _).cast (by simp)
  have hB2 : Bk (((w.alloc (.cells #[.int .i64 l, .slice A n c] 25)).alloc (.cells #[.int .i64 m] 3)).alloc (.cells #[.slice B k d] 73)) (w.heap.size + 1 + 1) 73 #[.slice B k d] := (Bk.new ((w.alloc (.cells #[.int .i64 l, .slice A n c] 25)).alloc (.cells #[.int .i64 m] 3)) 73 #[.slice B k d]).cast (by simp)
  have Hr := Lib.hid hr
  clear hr
  have Hn := Lib.hid hn
  clear hn
  have Hy := Lib.hid hy
  clear hy
  have Hk := Lib.hid hk
  clear hk
  have Hbd := Lib.hid hbd
  clear hbd
  have Hw := Lib.hid hw
  clear hw
  have HB1 := Lib.hid hB1
  clear hB1
  have HB2 := Lib.hid hB2
  clear hB2
  go_enter Try.func108, Try.ntmps108
  go_wp2_with fail
  refine (containsFunc_Rule A n c rs _ _ (fun p => !keepR m ws p) _ eg (Hr.out.keep hW0) Hn.out (by omega) (fun W x hx hS => keeps1_any m B k d ws (w.heap.size + 1) (w.heap.size + 1 + 1) x W ((Hy.out.keep hW0).keep hS) Hk.out hbk hm1 hm2 Hbd.out (Hw.out x hx) (by rw [(HB1.out.below hS HB1.out.lt).cell]; rfl) (by rw [(HB2.out.below hS HB2.out.lt).cell]; rfl) (HB1.out.below hS HB1.out.lt).lt (HB2.out.below hS HB2.out.lt).lt)).mono ?_
  rintro e w1 ⟨rfl, b1⟩
  obtain ⟨r, hrr⟩ : ∃ r', r' = (rs.any (fun p => !keepR m ws p)) := ⟨_, rfl⟩
  rw [← hrr]
  have HR := Lib.hid hrr
  clear hrr
  go_wp2_with fail
  go_ret
  exact ⟨ret_bool (by rw [HR.out, all_not_keep]), hW0.trans (b1.mono hW0.size)⟩


set_option maxRecDepth 100000 in
set_option maxHeartbeats 2000000 in
theorem implKeepsWeight_any (l : Int) (A : Option Addr) (n c : Nat) (rs : List RuleT) (m : Int) (B : Option Addr) (k d : Nat) (ws : List Int) (w : World) (hr : Rd w A (cellsRule rs)) (hn : n = rs.length) (hb : n ≤ 1048576) (hz : ∀ x ∈ rs, x.1.size ≤ 1048576 ∧ x.2.size ≤ 1048576) (hy : Rd w B (ints ws)) (hk : k = ws.length) (hbk : k ≤ 1048576) :
    Calls Try.prog 51 #[.agg #[.int .i64 l, .slice A n c], .int .i64 m, .slice B k d] w (Kept w (.bool (keepsW l rs m ws))) := by
  have hW0 : Below w.heap.size w (w.alloc (.cells #[.int .i64 l, .slice A n c] 25)) := (Below.refl _ _).alloc (Nat.le_refl _) _
  have hS0 := Bk.new w 25 #[.int .i64 l, .slice A n c]
  have Hr := Lib.hid hr
  clear hr
  have Hn := Lib.hid hn
  clear hn
  have Hz := Lib.hid hz
  clear hz
  have Hy := Lib.hid hy
  clear hy
  have Hk := Lib.hid hk
  clear hk
  go_enter Try.func51, Try.ntmps51
  go_wp2_with fail
  with_reducible refine (implRulesOk_any l A n c rs _ (Hr.out.keep hW0) Hn.out hb Hz.out).mono ?_
  rintro e w1 ⟨rfl, b1⟩
  have hW1 := hW0.trans (b1.mono hW0.size)
  have hS1 := hS0.below b1 hS0.lt
  have s0_1 : w1.cell? ⟨w.heap.size, 0, none⟩ = some (.int .i64 l) := by rw [hS1.cell]; rfl
  have s1_1 : w1.cell? ⟨w.heap.size, 1, none⟩ = some (.slice A n c) := by rw [hS1.cell]; rfl
  have sl_1 := hS1.lt
  clear b1
  obtain ⟨r1, hrr⟩ : ∃ r', r' = (rulesOk l rs) := ⟨_, rfl⟩
  rw [← hrr]
  have H1 := Lib.hid hrr
  clear hrr
  cases r1
  · go_wp2_with fail
    go_ret
    exact ⟨ret_bool (by rw [keepsW, ← H1.out]; rfl), hW1⟩
  go_wp2_with fail
  with_reducible refine (implWts_any m B k d ws _ (Hy.out.keep hW1) Hk.out hbk).mono ?_
  rintro e w2 ⟨rfl, b2⟩
  have hW2 := hW1.trans (b2.mono hW1.size)
  have hS2 := hS1.below b2 hS1.lt
  have s0_2 : w2.cell? ⟨w.heap.size, 0, none⟩ = some (.int .i64 l) := by rw [hS2.cell]; rfl
  have s1_2 : w2.cell? ⟨w.heap.size, 1, none⟩ = some (.slice A n c) := by rw [hS2.cell]; rfl
  have sl_2 := hS2.lt
  clear b2
  obtain ⟨r2, hrr⟩ : ∃ r', r' = (wtsOk m ws) := ⟨_, rfl⟩
  rw [← hrr]
  have H2 := Lib.hid hrr
  clear hrr
  cases r2
  · go_wp2_with fail
    go_ret
    exact ⟨ret_bool (by rw [keepsW, ← H1.out, ← H2.out]; rfl), hW2⟩
  by_cases hkl : (k : Int) = l
  · subst hkl
    obtain ⟨g1, g2, _, _, _⟩ := wts_bounds H2.out.symm
    have hwe := rules_weigh H1.out.symm
    have hsm := wts_small H2.out.symm
    have Hwe := Lib.hid hwe
    clear hwe
    have Hsm := Lib.hid hsm
    clear hsm
    go_wp2_with fail
    with_reducible refine (implKeeps_any (k : Int) A n c rs m B k d ws _ (Hr.out.keep hW2) Hn.out hb (Hy.out.keep hW2) Hk.out hbk g1 g2 Hsm.out Hwe.out).mono ?_
    rintro e w3 ⟨rfl, b3⟩
    have hW3 := hW2.trans (b3.mono hW2.size)
    have hS3 := hS2.below b3 hS2.lt
    have s0_3 : w3.cell? ⟨w.heap.size, 0, none⟩ = some (.int .i64 (k : Int)) := by rw [hS3.cell]; rfl
    have s1_3 : w3.cell? ⟨w.heap.size, 1, none⟩ = some (.slice A n c) := by rw [hS3.cell]; rfl
    have sl_3 := hS3.lt
    clear b3
    obtain ⟨r3, hrr⟩ : ∃ r', r' = (keepsAll m ws rs) := ⟨_, rfl⟩
    rw [← hrr]
    have H3 := Lib.hid hrr
    clear hrr
    go_wp2_with fail
    go_ret
    exact ⟨ret_bool (by rw [keepsW, ← H1.out, ← H2.out, ← H3.out, decide_eq_true (by rw [← Hk.out])]; rfl), hW3⟩
  · have hne : ((k : Int) == l) = false := by simpa using hkl
    go_wp2_with fail
    go_ret
    exact ⟨ret_bool (by rw [keepsW, decide_eq_false (by rw [← Hk.out]; exact hkl)]; simp), hW2⟩

end Go.Proofs.Ytidmbeeadbedaaa
