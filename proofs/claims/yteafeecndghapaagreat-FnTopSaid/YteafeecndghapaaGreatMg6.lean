/- Merged texts: a claim has a limit of files. -/
import Derived.Test.YteafeecndghapaaGreatMg3
import Derived.Test.YteafeecndghapaaGreatMg5

/- Walks over RulesOk (the program's and the reference's): each returns what rulesOk says, for all arguments. -/
namespace Go.Proofs.YteafeecndghapaaGreat
open Go.RowKit Go.Shelf

def ruleOk (l : Int) (r : RuleT) : Bool := sidesOk l r.1 r.2 && !r.1.toList.isEmpty
/-- RulesOk, in plain words. -/
def rulesOk (l : Int) (rs : List RuleT) : Bool := inB l 1 4 && decide (rs.length ≤ 12) && rs.all (ruleOk l)

set_option maxRecDepth 100000 in
set_option maxHeartbeats 1000000 in
theorem specRulesOk_any (l : Int) (A : Option Addr) (n c : Nat) (xs : List RuleT) (w : World) (hr : Rd w A (cellsRule xs)) (hn : n = xs.length) (hb : n ≤ 1048576) (hz : ∀ x ∈ xs, x.1.size ≤ 1048576 ∧ x.2.size ≤ 1048576) :
    Calls Tryz.prog 35 #[.agg #[.int .i64 l, .slice A n c]] w (Kept w (.bool (rulesOk l xs))) := by
  subst hn
  have hW : Below w.heap.size w (w.alloc (.cells #[.int .i64 l, .slice A xs.length c] 25)) := (Below.refl _ _).alloc (Nat.le_refl _) _
  have hB := Bk.new w 25 #[.int .i64 l, .slice A xs.length c]
  have Hz := Lib.hid hz
  clear hz
  have HB := Lib.hid hB
  clear hB
  have Hr := Lib.hid hr
  clear hr
  go_enter Tryz.func35, Tryz.ntmps35
  go_wp2_with fail
  refine (l01In_any l 1 4 _).mono ?_
  rintro e w' ⟨rfl, rfl⟩
  obtain ⟨r1, hrr⟩ : ∃ r', r' = (inB l 1 4) := ⟨_, rfl⟩
  rw [← hrr]
  have H1 := Lib.hid hrr
  clear hrr
  cases r1
  · go_wp2_with fail
    go_ret
    exact ⟨ret_bool (by rw [rulesOk, ← H1.out]; rfl), hW⟩
  by_cases h12 : xs.length ≤ 12
  · go_wp2_with fail
    go_loopw [18] (fun i wr => ∃ (j : Nat), j ≤ xs.length ∧ i = .int .i64 j ∧ Hid ((xs.take j).all (ruleOk l) = true) ∧ Bk wr w.heap.size 25 #[.int .i64 l, .slice A xs.length c] ∧ Below w.heap.size w wr) (fun i _ => xs.length - (intOf i).toNat)
    case atStart => exact ⟨0, Nat.zero_le _, rfl, by simp [Hid], HB.out, hW⟩
    case round =>
      clear hW
      obtain ⟨j, hj, rfl, HA, hS, hW⟩ := hrel
      by_cases hlt : j < xs.length
      · obtain ⟨b, o, rfl, hbl, p0, p1⟩ := rd_Rule (Hr.out.keep hW) hlt
        have hzj := Hz.out xs[j] (List.getElem_mem hlt)
        obtain ⟨⟨v0, v1⟩, hv⟩ : ∃ v, v = xs[j] := ⟨_, rfl⟩
        rw [← hv] at p0 p1 hzj
        dsimp only at hzj
        obtain ⟨z0, z1⟩ := hzj
        have s0 : wr.cell? ⟨w.heap.size, 0, none⟩ = some (.int .i64 l) := by rw [hS.cell]; rfl
        have sl := hS.lt
        have Hv := Lib.hid hv
        clear hv
        have HS := Lib.hid hS
        clear hS
        go_wp2_with fail
        refine (specSides_any l v0 v1 _ (by omega) (by omega)).mono ?_
        rintro e w1 ⟨rfl, b1⟩
        have hW2 := (hW.alloc hW.size (.cells #[.string v0, .string v1] 68))
        have hW3 := hW2.trans (b1.mono hW2.size)
        have hS3 := (HS.out.alloc (.cells #[.string v0, .string v1] 68)).below b1 (by simp; omega)
        have hR := (Bk.new wr 68 #[.string v0, .string v1]).below b1 (by simp)
        have q0 : w1.cell? ⟨wr.heap.size, 0, none⟩ = some (.string v0) := by rw [hR.cell]; rfl
        have ql := hR.lt
        clear hR
        obtain ⟨r, hrr⟩ : ∃ r', r' = (sidesOk l v0 v1) := ⟨_, rfl⟩
        rw [← hrr]
        have HR := Lib.hid hrr
        clear hrr
        cases r
        · go_wp2_with fail
          go_ret
          refine ⟨ret_bool ?_, hW3⟩
          have hall : xs.all (ruleOk l) = false := by
            rw [List.all_eq_false]
            exact ⟨xs[j], List.getElem_mem hlt, by rw [← Hv.out, ruleOk, ← HR.out]; simp⟩
          rw [rulesOk, hall, Bool.and_false]
        · by_cases h0 : v0.toList.isEmpty = true
          · have e0 := h0
            go_wp2_with fail
            go_ret
            refine ⟨ret_bool ?_, hW3⟩
            have hall : xs.all (ruleOk l) = false := by
              rw [List.all_eq_false]
              exact ⟨xs[j], List.getElem_mem hlt, by rw [← Hv.out, ruleOk]; simp [h0]⟩
            rw [rulesOk, hall, Bool.and_false]
          · have e0 : v0.toList.isEmpty = false := by simpa using h0
            go_wp2_with fail
            go_roundw
            case rel => exact ⟨j + 1, by omega, by go_num, by unfold Hid; rw [List.take_succ_eq_append_getElem hlt, List.all_append, HA.out, List.all_cons, ← Hv.out, ruleOk, ← HR.out, e0]; rfl, hS3, hW3⟩
            case measure => simp [intOf]; omega
      · have : j = xs.length := by omega
        subst this
        have hall : xs.all (ruleOk l) = true := by have := HA.out; rwa [List.take_length] at this
        have Hall := Lib.hid hall
        clear hall
        go_wp2_with fail
        go_ret
        exact ⟨ret_bool (by rw [rulesOk, Hall.out, ← H1.out, decide_eq_true h12]; rfl), hW⟩
  · go_wp2_with fail
    go_ret
    exact ⟨ret_bool (by rw [rulesOk, decide_eq_false h12]; simp), hW⟩

set_option maxRecDepth 100000 in
set_option maxHeartbeats 1000000 in
theorem rulesOk1_any (l : Int) (v : Value) (b : Nat) (x : RuleT) (w : World) (hx : x.1.size ≤ 1048576 ∧ x.2.size ≤ 1048576)
    (hS : Bk w b 25 #[.int .i64 l, v]) :
    Calls Tryz.prog 65 (#[evRule x] ++ #[.pointer (some ⟨b, 0, none⟩)]) w (Kept w (.bool (!ruleOk l x))) := by
  obtain ⟨v0, v1⟩ := x
  dsimp only at hx
  obtain ⟨z0, z1⟩ := hx
  show Calls Tryz.prog 65 #[.agg #[.string v0, .string v1], .pointer (some ⟨b, 0, none⟩)] w _
  have hW : Below w.heap.size w (w.alloc (.cells #[.string v0, .string v1] 68)) := (Below.refl _ _).alloc (Nat.le_refl _) _
  have s0 : w.cell? ⟨b, 0, none⟩ = some (.int .i64 l) := by rw [hS.cell]; rfl
  have sl := hS.lt
  have HS := Lib.hid hS
  clear hS
  go_enter Tryz.func65, Tryz.ntmps65
  go_wp2_with fail
  refine (implSides_any l v0 v1 _ (by omega) (by omega)).mono ?_
  rintro e w1 ⟨rfl, b1⟩
  have hR := (Bk.new w 68 #[.string v0, .string v1]).below b1 (by simp)
  have q0 : w1.cell? ⟨w.heap.size, 0, none⟩ = some (.string v0) := by rw [hR.cell]; rfl
  have ql := hR.lt
  clear hR
  obtain ⟨r, hrr⟩ : ∃ r', r' = (sidesOk l v0 v1) := ⟨_, rfl⟩
  rw [← hrr]
  have HR := Lib.hid hrr
  clear hrr
  have hW2 := hW.trans (b1.mono hW.size)
  cases r
  · go_wp2_with fail
    go_ret
    exact ⟨ret_bool (by rw [ruleOk, ← HR.out]; rfl), hW2⟩
  · by_cases h0 : v0.toList.isEmpty = true
    · have e0 := h0
      go_wp2_with fail
      go_ret
      exact ⟨ret_bool (by rw [ruleOk, ← HR.out, h0]; rfl), hW2⟩
    · have e0 : v0.toList.isEmpty = false := by simpa using h0
      go_wp2_with fail
      go_ret
      exact ⟨ret_bool (by rw [ruleOk, ← HR.out, e0]; rfl), hW2⟩

theorem all_not_rule (l : Int) (xs : List RuleT) : (!xs.any (fun x => !ruleOk l x)) = xs.all (ruleOk l) := by
  induction xs with
  | nil => rfl
  | cons x xs ih => simp only [List.any_cons, List.all_cons, Bool.not_or, ih, Bool.not_not]

set_option maxRecDepth 100000 in
set_option maxHeartbeats 1000000 in
theorem implRulesOk_any (l : Int) (A : Option Addr) (n c : Nat) (xs : List RuleT) (w : World) (hr : Rd w A (cellsRule xs)) (hn : n = xs.length) (hb : n ≤ 1048576) (hz : ∀ x ∈ xs, x.1.size ≤ 1048576 ∧ x.2.size ≤ 1048576) :
    Calls Tryz.prog 39 #[.agg #[.int .i64 l, .slice A n c]] w (Kept w (.bool (rulesOk l xs))) := by
  have hmf : ∀ (fn : Fn) (first cap : Array Value) (w : World), (Instr.makeFunc fn first cap).run Tryz.prog w = .ok (.func fn first cap) w := fun _ _ _ _ => rfl
  have eg := enters_of Tryz.func65 (by kernel_rfl) rfl
  have hW : Below w.heap.size w (w.alloc (.cells #[.int .i64 l, .slice A n c] 25)) := (Below.refl _ _).alloc (Nat.le_refl _) _
  have hrk := hr.keep hW
  have hB := Bk.new w 25 #[.int .i64 l, .slice A n c]
  clear hr
  have Hz := Lib.hid hz
  clear hz
  have Hn := Lib.hid hn
  clear hn
  have HB := Lib.hid hB
  clear hB
  go_enter Tryz.func39, Tryz.ntmps39
  go_wp2_with fail
  go_wp2_with fail
  refine (within_any l 1 4 _).mono ?_
  rintro e w' ⟨rfl, rfl⟩
  obtain ⟨r1, hrr⟩ : ∃ r', r' = (inB l 1 4) := ⟨_, rfl⟩
  rw [← hrr]
  have H1 := Lib.hid hrr
  clear hrr
  cases r1
  · go_wp2_with fail
    go_ret
    exact ⟨ret_bool (by rw [rulesOk, ← H1.out]; rfl), hW⟩
  by_cases h12 : n ≤ 12
  · go_wp2_with fail
    refine (containsFunc_Rule A n c xs _ #[.pointer (some ⟨w.heap.size, 0, none⟩)] (fun p => !ruleOk l p) _ eg hrk Hn.out (by omega) (fun W x hx hS => rulesOk1_any l (.slice A n c) w.heap.size x W (Hz.out x hx) (HB.out.below hS HB.out.lt))).mono ?_
    rintro e w1 ⟨rfl, b1⟩
    obtain ⟨r, hrr⟩ : ∃ r', r' = (xs.any (fun p => !ruleOk l p)) := ⟨_, rfl⟩
    rw [← hrr]
    have HR := Lib.hid hrr
    clear hrr
    go_wp2_with fail
    go_ret
    exact ⟨ret_bool (by rw [rulesOk, ← Hn.out, ← H1.out, decide_eq_true h12, HR.out, all_not_rule]; rfl), hW.trans (b1.mono hW.size)⟩
  · go_wp2_with fail
    go_ret
    exact ⟨ret_bool (by rw [rulesOk, ← Hn.out, decide_eq_false h12]; simp), hW⟩

end Go.Proofs.YteafeecndghapaaGreat

/- Walk over FormatSystem of the reference, told weakly. -/
namespace Go.Proofs.YteafeecndghapaaGreat
open Go.RowKit Go.Shelf

def FsMade (w : World) (e : Ending) (w' : World) : Prop := ∃ s : ByteArray, e = .returned (.string s) ∧ Below w.heap.size w w'
set_option maxRecDepth 100000 in
set_option maxHeartbeats 2000000 in
theorem specFormatSystem_any (l : Int) (A : Option Addr) (n c : Nat) (rs : List RuleT) (w : World) (hr : Rd w A (cellsRule rs)) (hn : n = rs.length) (hb : n ≤ 1048576) (hz : ∀ x ∈ rs, x.1.size ≤ 1048576 ∧ x.2.size ≤ 1048576) :
    Calls Tryz.prog 76 #[.agg #[.int .i64 l, .slice A n c]] w (FsMade w) := by
  subst hn
  have hW0 : Below w.heap.size w (w.alloc (.cells #[.int .i64 l, .slice A rs.length c] 25)) := (Below.refl _ _).alloc (Nat.le_refl _) _
  have hB0 := Bk.new w 25 #[.int .i64 l, .slice A rs.length c]
  have hro : rulesOk l rs = true → 1 ≤ l ∧ l ≤ 4 ∧ rs.length ≤ 12 ∧ ∀ x ∈ rs, x.1.size ≤ 8 ∧ x.2.size ≤ 8 := fun h => by
    unfold rulesOk at h
    rw [Bool.and_eq_true, Bool.and_eq_true] at h
    obtain ⟨⟨h1, h2⟩, h3⟩ := h
    unfold inB at h1
    rw [Bool.and_eq_true] at h1
    refine ⟨of_decide_eq_true h1.1, of_decide_eq_true h1.2, of_decide_eq_true h2, fun x hx => ?_⟩
    have h4 := (List.all_eq_true.1 h3) x hx
    unfold ruleOk sidesOk at h4
    simp only [Bool.and_eq_true, decide_eq_true_eq] at h4
    exact ⟨h4.1.1.2, h4.1.2⟩
  have hRO : ∀ W, Below w.heap.size w W → Calls Tryz.prog 35 #[.agg #[.int .i64 l, .slice A rs.length c]] W (Kept W (.bool (rulesOk l rs))) := fun W h => specRulesOk_any l A _ c rs W (hr.keep h) rfl hb hz
  have Hr := Lib.hid hr
  clear hr
  have Hz := Lib.hid hz
  clear hz
  have HW0 := Lib.hid hW0
  clear hW0
  have HB0 := Lib.hid hB0
  clear hB0
  have Hro := Lib.hid hro
  clear hro
  have HRO := Lib.hid hRO
  clear hRO
  go_enter Tryz.func76, Tryz.ntmps76
  go_wp2_with fail
  with_reducible refine (HRO.out _ HW0.out).mono ?_
  rintro e w1 ⟨rfl, b1⟩
  have hW1 := HW0.out.trans (b1.mono HW0.out.size)
  have hB1 := HB0.out.below b1 HB0.out.lt
  clear b1 HW0 HB0
  have s0 : w1.cell? ⟨w.heap.size, 0, none⟩ = some (.int .i64 l) := by rw [hB1.cell]; rfl
  have s1 : w1.cell? ⟨w.heap.size, 1, none⟩ = some (.slice A rs.length c) := by rw [hB1.cell]; rfl
  have sl := hB1.lt
  have HW1 := Lib.hid hW1
  clear hW1
  have HB1 := Lib.hid hB1
  clear hB1
  obtain ⟨ro, hrr⟩ : ∃ r', r' = (rulesOk l rs) := ⟨_, rfl⟩
  rw [← hrr]
  have HO := Lib.hid hrr
  clear hrr
  cases ro
  · go_wp2_with fail
    go_ret
    exact ⟨_, rfl, HW1.out⟩
  obtain ⟨hl1, hl4, h12, h8⟩ := Hro.out HO.out.symm
  have H8 := Lib.hid h8
  clear h8
  go_wp2_with fail
  with_reducible refine (specDigit_any l _ (by omega) (by omega)).mono ?_
  rintro e w2 ⟨rfl, b2⟩
  have hW2 := HW1.out.trans (b2.mono HW1.out.size)
  have hB2 := HB1.out.below b2 HB1.out.lt
  clear b2 HW1 HB1 s0 s1 sl
  have s0 : w2.cell? ⟨w.heap.size, 0, none⟩ = some (.int .i64 l) := by rw [hB2.cell]; rfl
  have s1 : w2.cell? ⟨w.heap.size, 1, none⟩ = some (.slice A rs.length c) := by rw [hB2.cell]; rfl
  have sl := hB2.lt
  have dz : (dig l).size ≤ 1 := by first | exact Nat.le_of_eq rfl | (unfold dig; decide)
  obtain ⟨ds, hds⟩ : ∃ d, d = dig l := ⟨_, rfl⟩
  rw [← hds] at dz
  rw [← hds]
  have HW2 := Lib.hid hW2
  clear hW2
  have HB2 := Lib.hid hB2
  clear hB2
  have Hds := Lib.hid hds
  clear hds
  go_wp2_with fail
  go_loopw [3, 15] (fun v i wr => ∃ (j : Nat) (cur : ByteArray), v = .string cur ∧ i = .int .i64 j ∧ j ≤ rs.length ∧ cur.size ≤ 1 + 20 * j ∧ Hid (Below w.heap.size w wr)) (fun _ i _ => rs.length - (intOf i).toNat)
  case atStart => exact ⟨0, ds, rfl, rfl, Nat.zero_le _, by omega, HW2⟩
  case round =>
    clear HW2 HB2 s0 s1 sl dz
    obtain ⟨j, cur, rfl, rfl, hj, hcz, HW⟩ := hrel
    by_cases hlt : j < rs.length
    · obtain ⟨b, o, rfl, hbl, p0, p1⟩ := rd_Rule (Hr.out.keep HW.out) hlt
      have hzj := H8.out rs[j] (List.getElem_mem hlt)
      obtain ⟨⟨v0, v1⟩, hv⟩ : ∃ v, v = rs[j] := ⟨_, rfl⟩
      rw [← hv] at p0 p1 hzj
      dsimp only at hzj
      obtain ⟨z0, z1⟩ := hzj
      have hfz : (fmtR v0 v1).size ≤ 17 := by
        unfold fmtR
        rw [ByteArray.size_append, ByteArray.size_append]
        have d0 := dot_size (s := v0) (k := 8) z0 (by omega)
        have d1 := dot_size (s := v1) (k := 8) z1 (by omega)
        have : (⟨#[62]⟩ : ByteArray).size = 1 := rfl
        omega
      have hcs : (cur ++ (⟨#[32]⟩ : ByteArray)).size = cur.size + 1 := by rw [ByteArray.size_append]; rfl
      have hF : ∀ W, Calls Tryz.prog 90 #[.agg #[.string v0, .string v1]] W (Kept W (.string (fmtR v0 v1))) := fun W => specFormatRule_any v0 v1 W (by omega) (by omega)
      obtain ⟨fr, hfr⟩ : ∃ f, f = fmtR v0 v1 := ⟨_, rfl⟩
      rw [← hfr] at hfz hF
      have g2 : ((cur ++ (⟨#[32]⟩ : ByteArray)) ++ fr).size = cur.size + 1 + fr.size := by rw [ByteArray.size_append, hcs]
      have ha := HW.out.alloc HW.out.size (.cells #[.string v0, .string v1] 68)
      have Hv := Lib.hid hv
      clear hv
      have HF := Lib.hid hF
      clear hF
      have Hfr := Lib.hid hfr
      clear hfr
      have Ha := Lib.hid ha
      clear ha
      go_wp2_with fail
      with_reducible refine (HF.out _).mono ?_
      rintro e w3 ⟨rfl, b3⟩
      have hW3 := Ha.out.trans (b3.mono Ha.out.size)
      clear b3 Ha HW
      have HW3 := Lib.hid hW3
      clear hW3
      go_wp2_with fail
      go_roundw
      case rel => exact ⟨j + 1, _, rfl, by go_num, by omega, by rw [g2]; omega, HW3⟩
      case measure => simp [intOf] <;> omega
    · go_wp2_with fail
      go_ret
      exact ⟨_, rfl, HW.out⟩

end Go.Proofs.YteafeecndghapaaGreat
