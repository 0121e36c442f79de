/- Walk over l06Run of the reference: turns are made until the queue is empty or a turn fails. -/
import Derived.Test.YteafeecndghapaaGreatTrn
import Derived.Test.YteafeecndghapaaGreatStW
namespace Go.Proofs.YteafeecndghapaaGreat
open Go.RowKit Go.Shelf

theorem asS_sz (l : Int) (rs : List RuleT) (s : ByteArray) (x : StepT) : (asS l rs s x).size ≤ 1048576 := by
  by_cases hm : x ∈ stepsOf l rs s
  · rw [(as_yes hm).2]
    have := apply_size (steps_mem hm).2
    omega
  · rw [(as_no hm).2]
    decide
theorem sideS_sz (l : Int) (rs : List RuleT) (s : ByteArray) (x y z : StepT) : (sideS l rs s x y z).size ≤ 1048576 := by
  unfold sideS
  split
  · exact asS_sz _ _ _ _
  · decide
theorem turn_sz {l : Int} {rs qs : List RuleT} {t : Int} {rs' qs' : List RuleT} {t' : Int} (h : TurnP l rs qs t rs' qs' t') (hq : ∀ x ∈ qs, x.1.size ≤ 1048576 ∧ x.2.size ≤ 1048576) : ∀ x ∈ qs', x.1.size ≤ 1048576 ∧ x.2.size ≤ 1048576 := by
  obtain ⟨hsy, -, -, -, hd, tl, rfl, h⟩ := h
  intro x hx
  rcases h with ⟨-, -, rfl⟩ | ⟨-, -, -, -, rfl⟩
  · exact hq x (List.mem_cons_of_mem _ hx)
  · rcases List.mem_append.1 hx with hx | hx
    · rcases List.mem_append.1 hx with hx | hx
      · exact hq x (List.mem_cons_of_mem _ hx)
      · have := sys_mem hsy (List.mem_filter.1 hx).1
        omega
    · obtain ⟨p, -, rfl⟩ := List.mem_map.1 hx
      exact ⟨sideS_sz _ _ _ _ _ _, sideS_sz _ _ _ _ _ _⟩
/-- A row of rules lies in no block that holds no string. -/
theorem rd_no_str {y : World} {A : Option Addr} {rs : List RuleT} {g : Nat} {t : TypeId} {cs : Array Value} (h : Rd y A (cellsRule rs)) (hb : Bk y g t cs) (hs : ∀ (i : Nat) (s : ByteArray), cs[i]? ≠ some (Value.string s)) : cellsRule rs ≠ [] → ∀ a, A = some a → a.block ≠ g := by
  intro hne a ha e
  obtain ⟨b, off, rfl, -, hc⟩ := h hne
  injection ha with ha
  subst ha
  dsimp only at e
  subst e
  cases rs with
  | nil => exact hne rfl
  | cons x r =>
    have := hc 0 (.string x.1) (by simp [cellsRule, encRule])
    rw [hb.cell] at this
    exact hs _ _ this
theorem rd_set {y : World} {A : Option Addr} {xs : List Value} {g : Nat} (h : Rd y A xs) (hne : xs ≠ [] → ∀ a, A = some a → a.block ≠ g) (i : Nat) (u : Value) : Rd (y.setCell ⟨g, i, none⟩ u) A xs := by
  intro hn
  obtain ⟨b, off, rfl, hl, hc⟩ := h hn
  have hb : b ≠ g := hne hn _ rfl
  refine ⟨b, off, rfl, by simpa using hl, fun j v hv => ?_⟩
  rw [← hc j v hv]
  exact World.cell?_of_block (w := y) (a := ⟨b, off + j, none⟩) (Below.heap_setCell y ⟨g, i, none⟩ u b hb)
theorem no_str4 {a d : Int} {A Q : Option Addr} {n c q cq : Nat} : ∀ (i : Nat) (s : ByteArray), (#[Value.int .i64 a, .slice A n c, .slice Q q cq, .int .i64 d] : Array Value)[i]? ≠ some (.string s) := by
  intro i s
  match i with
  | 0 => intro h; injection h with h; cases h
  | 1 => intro h; injection h with h; cases h
  | 2 => intro h; injection h with h; cases h
  | 3 => intro h; injection h with h; cases h
  | i + 4 => intro h; cases h
/-- Where the run of a completion stands. -/
structure RnSt (w y : World) (xb : Nat) (l : Int) (A : Option Addr) (n c : Nat) (rs : List RuleT) (Q : Option Addr) (q cq : Nat) (qs : List RuleT) (t : Int) : Prop where
  bx : Bk y xb 86 #[.int .i64 l, .slice A n c, .slice Q q cq, .int .i64 t]
  bz : Bk y w.heap.size 86 #[.int .i64 0, .slice none 0 0, .slice none 0 0, .int .i64 0]
  low : Below w.heap.size w y
  lt : w.heap.size < xb
  rA : Rd y A (cellsRule rs)
  rQ : Rd y Q (cellsRule qs)
  hn : n = rs.length
  hq : q = qs.length
  hq4 : q ≤ 400
  ht : 0 ≤ t
  sy : systemOk l rs = true
  cr : CritE (rl rs) (rl qs)
  sz : ∀ x ∈ qs, x.1.size ≤ 1048576 ∧ x.2.size ≤ 1048576
theorem RnSt.below {w y y' : World} {xb : Nat} {l : Int} {A : Option Addr} {n c : Nat} {rs : List RuleT} {Q : Option Addr} {q cq : Nat} {qs : List RuleT} {t : Int} (h : RnSt w y xb l A n c rs Q q cq qs t) (hb : Below y.heap.size y y') : RnSt w y' xb l A n c rs Q q cq qs t :=
  ⟨h.bx.below hb h.bx.lt, h.bz.below hb h.bz.lt, h.low.trans (hb.mono h.low.size), h.lt, h.rA.keep hb, h.rQ.keep hb, h.hn, h.hq, h.hq4, h.ht, h.sy, h.cr, h.sz⟩
/-- A turn is made and the work is stored. -/
theorem RnSt.next {w y y3 : World} {xb : Nat} {l : Int} {A : Option Addr} {n c : Nat} {rs : List RuleT} {Q : Option Addr} {q cq : Nat} {qs : List RuleT} {t : Int} (h : RnSt w y xb l A n c rs Q q cq qs t) (hb : Below y.heap.size y y3)
    {A2 : Option Addr} {n2 c2 : Nat} {rs2 : List RuleT} {Q2 : Option Addr} {q2 cq2 : Nat} {qs2 : List RuleT} {t2 : Int} (hA : Rd y3 A2 (cellsRule rs2)) (hQ : Rd y3 Q2 (cellsRule qs2)) (hn2 : n2 = rs2.length) (hq2 : q2 = qs2.length) (hq4 : q2 ≤ 400) (hT : TurnP l rs qs t rs2 qs2 t2) :
    RnSt w ((((y3.setCell ⟨xb, 0, none⟩ (.int .i64 l)).setCell ⟨xb, 1, none⟩ (.slice A2 n2 c2)).setCell ⟨xb, 2, none⟩ (.slice Q2 q2 cq2)).setCell ⟨xb, 3, none⟩ (.int .i64 t2)) xb l A2 n2 c2 rs2 Q2 q2 cq2 qs2 t2 := by
  have hlt := h.lt
  have hbx := h.bx.below hb h.bx.lt
  have hbz := h.bz.below hb h.bz.lt
  have hnA := rd_no_str hA hbx no_str4
  have hnQ := rd_no_str hQ hbx no_str4
  have ht := h.ht
  obtain ⟨hs2, hc2⟩ := turn_crit hT h.cr
  have ht2 : t2 = t + 1 := hT.2.2.1
  exact ⟨(((hbx.put 0 _).put 1 _).put 2 _).put 3 _, (((hbz.far (p := ⟨xb, 0, none⟩) (by dsimp only; omega) _).far (p := ⟨xb, 1, none⟩) (by dsimp only; omega) _).far (p := ⟨xb, 2, none⟩) (by dsimp only; omega) _).far (p := ⟨xb, 3, none⟩) (by dsimp only; omega) _,
    (((((h.low.trans (hb.mono h.low.size)).setCell (p := ⟨xb, 0, none⟩) (by dsimp only; omega) _).setCell (p := ⟨xb, 1, none⟩) (by dsimp only; omega) _).setCell (p := ⟨xb, 2, none⟩) (by dsimp only; omega) _).setCell (p := ⟨xb, 3, none⟩) (by dsimp only; omega) _),
    hlt, rd_set (rd_set (rd_set (rd_set hA hnA 0 _) hnA 1 _) hnA 2 _) hnA 3 _, rd_set (rd_set (rd_set (rd_set hQ hnQ 0 _) hnQ 1 _) hnQ 2 _) hnQ 3 _, hn2, hq2, hq4, by omega, hs2, hc2, turn_sz hT h.sz⟩
/-- The box of results is written. -/
theorem RnSt.fin {w y : World} {xb : Nat} {l : Int} {A : Option Addr} {n c : Nat} {rs : List RuleT} {Q : Option Addr} {q cq : Nat} {qs : List RuleT} {t : Int} (h : RnSt w y xb l A n c rs Q q cq qs t) (a b c3 d3 : Value) :
    Bk ((((y.setCell ⟨w.heap.size, 0, none⟩ a).setCell ⟨w.heap.size, 1, none⟩ b).setCell ⟨w.heap.size, 2, none⟩ c3).setCell ⟨w.heap.size, 3, none⟩ d3) w.heap.size 86 #[a, b, c3, d3] ∧
    Below w.heap.size w ((((y.setCell ⟨w.heap.size, 0, none⟩ a).setCell ⟨w.heap.size, 1, none⟩ b).setCell ⟨w.heap.size, 2, none⟩ c3).setCell ⟨w.heap.size, 3, none⟩ d3) ∧
    Rd ((((y.setCell ⟨w.heap.size, 0, none⟩ a).setCell ⟨w.heap.size, 1, none⟩ b).setCell ⟨w.heap.size, 2, none⟩ c3).setCell ⟨w.heap.size, 3, none⟩ d3) A (cellsRule rs) := by
  have hnA := rd_no_str h.rA h.bz no_str4
  exact ⟨(((h.bz.put 0 a).put 1 b).put 2 c3).put 3 d3, (((h.low.setCell (p := ⟨w.heap.size, 0, none⟩) (Nat.le_refl _) a).setCell (p := ⟨w.heap.size, 1, none⟩) (Nat.le_refl _) b).setCell (p := ⟨w.heap.size, 2, none⟩) (Nat.le_refl _) c3).setCell (p := ⟨w.heap.size, 3, none⟩) (Nat.le_refl _) d3,
    rd_set (rd_set (rd_set (rd_set h.rA hnA 0 a) hnA 1 b) hnA 2 c3) hnA 3 d3⟩
/-- How many turns are left. -/
def turnsAt (w : World) (xb : Nat) : Nat := 200 - (intOf ((w.cell? ⟨xb, 3, none⟩).getD undef)).toNat
/-- What a run of turns leaves. -/
def Run6Made (w : World) (l : Int) (e : Ending) (w' : World) : Prop := ∃ (l' : Int) (A : Option Addr) (n c : Nat) (Q : Option Addr) (q cq : Nat) (t code : Int), e = .returned (.tuple #[.agg #[.int .i64 l', .slice A n c, .slice Q q cq, .int .i64 t], .int .i64 code]) ∧ Below w.heap.size w w' ∧
  (code = 0 → ∃ rs', l' = l ∧ n = rs'.length ∧ Rd w' A (cellsRule rs') ∧ isCompl l rs' = true)
set_option maxRecDepth 100000 in
set_option maxHeartbeats 8000000 in
theorem specRun6_any (l : Int) (A : Option Addr) (n c : Nat) (rs : List RuleT) (w : World) (hr : Rd w A (cellsRule rs)) (hn : n = rs.length) (hsy : systemOk l rs = true) :
    Calls Tryz.prog 56 #[.int .i64 l, .slice A n c] w (Run6Made w l) := by
  obtain ⟨hin, h12, hall⟩ := start_parts hsy
  have hW := (Below.refl w.heap.size w).alloc (Nat.le_refl _) (.cells #[.int .i64 0, .slice none 0 0, .slice none 0 0, .int .i64 0] 86)
  have hB := Bk.new w 86 #[.int .i64 0, .slice none 0 0, .slice none 0 0, .int .i64 0]
  have HB := Lib.hid hB
  clear hB
  have HW := Lib.hid hW
  clear hW
  have Hr := Lib.hid hr
  clear hr
  have Hn := Lib.hid hn
  clear hn
  have Hall := Lib.hid hall
  clear hall
  have Hsy := Lib.hid hsy
  clear hsy
  have Hin := Lib.hid hin
  clear hin
  go_enter Tryz.func56, Tryz.ntmps56
  go_wp2_with fail
  with_reducible refine (specStart_any l A n c rs _ (Hr.out.keep HW.out) Hn.out Hsy.out).mono ?_
  rintro e w1 ⟨Q, cq, rfl, hQ, b1⟩
  obtain ⟨xb, hxb⟩ : ∃ z, z = w1.heap.size := ⟨_, rfl⟩
  have hal := (Below.refl w1.heap.size w1).alloc (Nat.le_refl _) (.cells #[.int .i64 l, .slice none 0 0, .slice Q n cq, .int .i64 0] 86)
  have hS0 : RnSt w (w1.alloc (.cells #[.int .i64 l, .slice none 0 0, .slice Q n cq, .int .i64 0] 86)) w1.heap.size l none 0 0 [] Q n cq rs 0 :=
    ⟨Bk.new _ _ _, (HB.out.below b1 HB.out.lt).below hal (Nat.lt_of_lt_of_le HB.out.lt b1.size), (HW.out.trans (b1.mono HW.out.size)).trans (hal.mono (Nat.le_trans HW.out.size b1.size)), Nat.lt_of_lt_of_le HB.out.lt b1.size, Rd.nil _ _, hQ.keep hal, rfl, Hn.out, by have := Hn.out; omega, Int.le_refl _, sys_mk (by have := inB_out Hin.out.symm; omega) (by have := inB_out Hin.out.symm; omega) (by simp) (by simp), critE_nil _, fun x hx => by have := sys_mem Hsy.out hx; omega⟩
  rw [← hxb] at hS0
  have hbx : w.heap.size < w1.heap.size := by rw [← hxb]; exact hS0.lt
  have HS0 := Lib.hid hS0
  clear hS0
  have Hal := Lib.hid hal
  clear hal
  have HQ := Lib.hid hQ
  clear hQ
  have Hxb := Lib.hid hxb
  clear hxb
  go_wp2_with fail
  rw [← Hxb.out]
  obtain ⟨y0, hy0⟩ : ∃ z, z = w1.alloc (.cells #[.int .i64 l, .slice none 0 0, .slice Q n cq, .int .i64 0] 86) := ⟨_, rfl⟩
  have hS0 := HS0.out
  rw [← hy0] at hS0
  rw [← hy0]
  clear HS0 hy0 Hal HQ Hxb hbx HB HW b1
  go_loopw [] (fun wr => ∃ (A : Option Addr) (n c : Nat) (rs' : List RuleT) (Q : Option Addr) (q cq : Nat) (qs : List RuleT) (t : Int), t ≤ 200 ∧ RnSt w wr xb l A n c rs' Q q cq qs t) (fun wr => turnsAt wr xb)
  case atStart => exact ⟨none, 0, 0, [], Q, n, cq, rs, 0, by omega, hS0⟩
  case round =>
    clear hS0
    obtain ⟨A1, n1, c1, rs1, Q1, q1, cq1, qs1, t1, ht1, hS⟩ := hrel
    have s0 : wr.cell? ⟨xb, 0, none⟩ = some (.int .i64 l) := by rw [hS.bx.cell]; rfl
    have s1 : wr.cell? ⟨xb, 1, none⟩ = some (.slice A1 n1 c1) := by rw [hS.bx.cell]; rfl
    have s2 : wr.cell? ⟨xb, 2, none⟩ = some (.slice Q1 q1 cq1) := by rw [hS.bx.cell]; rfl
    have s3 : wr.cell? ⟨xb, 3, none⟩ = some (.int .i64 t1) := by rw [hS.bx.cell]; rfl
    have sl := hS.bx.lt
    have wl := hS.lt
    by_cases hq0 : q1 = 0
    · have hqs : qs1 = [] := List.eq_nil_of_length_eq_zero (by rw [← hS.hq]; exact hq0)
      subst hq0 hqs
      have hcm : isCompl l rs1 = true := crit_compl hS.sy hS.cr.crit
      have k0 : wr.cell? ⟨w.heap.size, 0, none⟩ = some (.int .i64 0) := by rw [hS.bz.cell]; rfl
      have k1 : wr.cell? ⟨w.heap.size, 1, none⟩ = some (.slice none 0 0) := by rw [hS.bz.cell]; rfl
      have k2 : wr.cell? ⟨w.heap.size, 2, none⟩ = some (.slice none 0 0) := by rw [hS.bz.cell]; rfl
      have k3 : wr.cell? ⟨w.heap.size, 3, none⟩ = some (.int .i64 0) := by rw [hS.bz.cell]; rfl
      have kf0 := hS.bz.free 0
      have kf1 := hS.bz.free 1
      have kf2 := hS.bz.free 2
      have kf3 := hS.bz.free 3
      have kl := hS.bz.lt
      have HS := Lib.hid hS
      clear hS
      have Hcm := Lib.hid hcm
      clear hcm
      go_wp2_with fail
      obtain ⟨hBf, hlw, hAf⟩ := HS.out.fin (.int .i64 l) (.slice A1 n1 c1) (.slice Q1 0 cq1) (.int .i64 t1)
      have q0 := hBf.cell 0
      have q1c := hBf.cell 1
      have q2 := hBf.cell 2
      have q3 := hBf.cell 3
      refine bodyPost_ret (v := .tuple #[.agg #[.int .i64 l, .slice A1 n1 c1, .slice Q1 0 cq1, .int .i64 t1], .int .i64 0]) (by simp [results, Tryz.results56, go_sem, q0, q1c, q2, q3]) rfl ?_
      exact ⟨l, A1, n1, c1, Q1, 0, cq1, t1, 0, rfl, hlw, fun _ => ⟨rs1, rfl, HS.out.hn, hAf, Hcm.out⟩⟩
    · have hz1 : ∀ x ∈ rs1, x.1.size ≤ 1048576 ∧ x.2.size ≤ 1048576 := fun x hx => by have := sys_mem hS.sy hx; omega
      have hn1 : n1 ≤ 12 := by rw [hS.hn]; exact rulesOk_12 (sys_rules hS.sy)
      have hq4 := hS.hq4
      have hqn : qs1 ≠ [] := fun e => hq0 (by rw [hS.hq, e]; rfl)
      have hTn := specTurn_any l A1 n1 c1 rs1 Q1 q1 cq1 qs1 t1 wr hS.rA hS.hn (by omega) hz1 hS.rQ hS.hq (by omega) hS.sz
      have HS := Lib.hid hS
      clear hS
      have HTn := Lib.hid hTn
      clear hTn
      have Hz1 := Lib.hid hz1
      clear hz1
      have Hqn := Lib.hid hqn
      clear hqn
      go_wp2_with fail
      with_reducible refine (HTn.out).mono ?_
      rintro e w2 ⟨l2, A2, n2, c2, Q2, q2, cq2, t2, code, rfl, b2, hok⟩
      clear s0 s1 s2 s3 sl
      by_cases hc : code = 0
      · subst hc
        obtain ⟨rs2, qs2, rfl, hn2, hq2, hq24, hrA2, hrQ2, hT⟩ := hok rfl Hqn.out
        have hnx0 := HS.out.next (c2 := c2) (cq2 := cq2) b2 hrA2 hrQ2 hn2 hq2 hq24 hT
        have hnx := hnx0.below ((Below.refl _ _).alloc (Nat.le_refl _) (.cells #[.int .i64 l2, .slice A2 n2 c2, .slice Q2 q2 cq2, .int .i64 t2] 86))
        have hb2 := HS.out.bx.below b2 HS.out.bx.lt
        clear hnx0
        have f0 := hb2.free 0
        have f1 := hb2.free 1
        have f2 := hb2.free 2
        have f3 := hb2.free 3
        have s0 : w2.cell? ⟨xb, 0, none⟩ = some (.int .i64 l2) := by rw [hb2.cell]; rfl
        have s1 : w2.cell? ⟨xb, 1, none⟩ = some (.slice A1 n1 c1) := by rw [hb2.cell]; rfl
        have s2 : w2.cell? ⟨xb, 2, none⟩ = some (.slice Q1 q1 cq1) := by rw [hb2.cell]; rfl
        have s3 : w2.cell? ⟨xb, 3, none⟩ = some (.int .i64 t1) := by rw [hb2.cell]; rfl
        have sl := hb2.lt
        have sw : xb < w2.heap.size := Nat.lt_of_lt_of_le HS.out.bx.lt b2.size
        have ht12 : t2 = t1 + 1 := hT.2.2.1
        have ht3 : t1 < 200 := hT.2.2.2.1
        have ht0 := HS.out.ht
        have hm0 : wr.cell? ⟨xb, 3, none⟩ = some (.int .i64 t1) := by rw [HS.out.bx.cell]; rfl
        have hm1 := hnx.bx.cell 3
        have Hnx := Lib.hid hnx
        clear hnx
        have B2 := Lib.hid b2
        clear b2
        have Hb2 := Lib.hid hb2
        clear hb2
        have HT := Lib.hid hT
        clear hT
        have Hn2 := Lib.hid hn2
        clear hn2
        have Hq2 := Lib.hid hq2
        clear hq2
        have HrA2 := Lib.hid hrA2
        clear hrA2
        have HrQ2 := Lib.hid hrQ2
        clear hrQ2
        have Hm0 := Lib.hid hm0
        clear hm0
        have Hm1 := Lib.hid hm1
        clear hm1
        have Ht12 := Lib.hid ht12
        clear ht12
        go_wp2_with fail
        go_roundw
        case rel => exact ⟨A2, n2, c2, rs2, Q2, q2, cq2, qs2, t2, by rw [Ht12.out]; omega, Hnx.out⟩
        case measure =>
          unfold turnsAt
          rw [Hm1.out, Hm0.out]
          have := Ht12.out
          simp [intOf]
          omega
      · have hc2 : (code != 0) = true := by simpa using hc
        have hb2 := HS.out.bx.below b2 HS.out.bx.lt
        have hbz := HS.out.bz.below b2 HS.out.bz.lt
        have f0 := hbz.free 0
        have f1 := hbz.free 1
        have f2 := hbz.free 2
        have f3 := hbz.free 3
        have s0 : w2.cell? ⟨xb, 0, none⟩ = some (.int .i64 l) := by rw [hb2.cell]; rfl
        have s1 : w2.cell? ⟨xb, 1, none⟩ = some (.slice A1 n1 c1) := by rw [hb2.cell]; rfl
        have s2 : w2.cell? ⟨xb, 2, none⟩ = some (.slice Q1 q1 cq1) := by rw [hb2.cell]; rfl
        have s3 : w2.cell? ⟨xb, 3, none⟩ = some (.int .i64 t1) := by rw [hb2.cell]; rfl
        have k0 : w2.cell? ⟨w.heap.size, 0, none⟩ = some (.int .i64 0) := by rw [hbz.cell]; rfl
        have k1 : w2.cell? ⟨w.heap.size, 1, none⟩ = some (.slice none 0 0) := by rw [hbz.cell]; rfl
        have k2 : w2.cell? ⟨w.heap.size, 2, none⟩ = some (.slice none 0 0) := by rw [hbz.cell]; rfl
        have k3 : w2.cell? ⟨w.heap.size, 3, none⟩ = some (.int .i64 0) := by rw [hbz.cell]; rfl
        have sl := hb2.lt
        have sw : xb < w2.heap.size := Nat.lt_of_lt_of_le HS.out.bx.lt b2.size
        have zl := hbz.lt
        have hlo := HS.out.low.trans (b2.mono HS.out.low.size)
        have hBn0 := (((hbz.put 0 (.int .i64 l)).put 1 (.slice A1 n1 c1)).put 2 (.slice Q1 q1 cq1)).put 3 (.int .i64 t1)
        have hBn := hBn0.alloc (.cells #[.int .i64 l2, .slice A2 n2 c2, .slice Q2 q2 cq2, .int .i64 t2] 86)
        have hlw0 := (((hlo.setCell (p := ⟨w.heap.size, 0, none⟩) (Nat.le_refl _) (.int .i64 l)).setCell (p := ⟨w.heap.size, 1, none⟩) (Nat.le_refl _) (.slice A1 n1 c1)).setCell (p := ⟨w.heap.size, 2, none⟩) (Nat.le_refl _) (.slice Q1 q1 cq1)).setCell (p := ⟨w.heap.size, 3, none⟩) (Nat.le_refl _) (.int .i64 t1)
        have hlw := hlw0.alloc hlw0.size (.cells #[.int .i64 l2, .slice A2 n2 c2, .slice Q2 q2 cq2, .int .i64 t2] 86)
        clear hBn0 hlw0
        have Hb2 := Lib.hid hb2
        clear hb2
        have Hbz := Lib.hid hbz
        clear hbz
        have B2 := Lib.hid b2
        clear b2
        have Hlo := Lib.hid hlo
        clear hlo
        have HBn := Lib.hid hBn
        clear hBn
        have Hlw := Lib.hid hlw
        clear hlw
        go_wp2_with fail
        have q0 := HBn.out.cell 0
        have q1c := HBn.out.cell 1
        have q2c := HBn.out.cell 2
        have q3 := HBn.out.cell 3
        refine bodyPost_ret (v := .tuple #[.agg #[.int .i64 l, .slice A1 n1 c1, .slice Q1 q1 cq1, .int .i64 t1], .int .i64 code]) (by simp [results, Tryz.results56, go_sem, q0, q1c, q2c, q3]) rfl ?_
        exact ⟨l, A1, n1, c1, Q1, q1, cq1, t1, code, rfl, Hlw.out, fun h9 => absurd h9 hc⟩
end Go.Proofs.YteafeecndghapaaGreat
