/- Walks over l04Trace, NormalForm and TraceOf of the reference, and normal, NormalForm and TraceOf of the program. -/
import Derived.Test.YteafeecndghapaaGreatMg10
namespace Go.Proofs.YteafeecndghapaaGreat
open Go.RowKit Go.Shelf

def strOf : Value → ByteArray
  | .string s => s
  | _ => ⟨#[]⟩
theorem strOf_string (s : ByteArray) : strOf (.string s) = s := rfl
/-- A slice of the call's own and a string. -/
def MadeSlS (w : World) (t : TypeId) (m n : Nat) (xs : List Value) (b : ByteArray) (e : Ending) (w' : World) : Prop :=
  ∃ A c, e = .returned (.tuple #[.slice A n c, .string b]) ∧ w'.ownsRow w.heap.size t m (.slice A n c) n xs ∧ Below w.heap.size w w'
theorem stepV_some (x0 x1 : Int) : stepV (some (x0, x1)) = .agg #[.int .i64 x0, .int .i64 x1] := rfl
theorem stepV_none : stepV none = .agg #[.int .i64 0, .int .i64 0] := rfl
theorem as_first {l : Int} {rs : List RuleT} {s : ByteArray} {x : StepT} (h : rulesOk l rs = true) (hx : x ∈ stepAcc rs s s.size) : asS l rs s x = applyS rs s x ∧ asOk l rs s x = applyOk rs s x := by
  have hin : x ∈ stepsOf l rs s := by rw [stepsOf, h]; exact hx
  exact ⟨(as_yes hin).2, (as_yes hin).1⟩
theorem apply_size {rs : List RuleT} {s : ByteArray} {x : StepT} (hx : x ∈ stepAcc rs s s.size) : (applyS rs s x).size ≤ 16 := by
  obtain ⟨k, p, rfl, -⟩ := mem_step hx
  exact applyS_size rs s k p

def stepX : Option StepT → Int
  | some x => x.1
  | none => 0
def stepY : Option StepT → Int
  | some x => x.2
  | none => 0
theorem stepV_eq (o : Option StepT) : stepV o = .agg #[.int .i64 (stepX o), .int .i64 (stepY o)] := by cases o <;> rfl
theorem normS_none {rs : List RuleT} {s : ByteArray} (h : firstS rs s = none) : normS rs s = s := by rw [normS, endF_none h]
theorem normS_some {l : Int} {rs : List RuleT} (hs : systemOk l rs = true) {s : ByteArray} {x : StepT} (h : firstS rs s = some x) : normS rs s = normS rs (applyS rs s x) := by rw [normS, endF_some (first_val hs) h]; rfl
theorem farS_none {rs : List RuleT} {s : ByteArray} (h : lastS rs s = none) : farS rs s = s := by rw [farS, endF_none h]
theorem farS_some {l : Int} {rs : List RuleT} (hs : systemOk l rs = true) {s : ByteArray} {x : StepT} (h : lastS rs s = some x) : farS rs s = farS rs (applyS rs s x) := by rw [farS, endF_some (last_val hs) h]; rfl
theorem takes_sys {l : Int} {rs : List RuleT} {s : ByteArray} (h : takesOk l rs s = true) : systemOk l rs = true ∧ wordOk l s = true := by
  unfold takesOk at h
  simpa using h
def nfS (l : Int) (rs : List RuleT) (s : ByteArray) : ByteArray := if takesOk l rs s then normS rs s else ⟨#[]⟩
def ffS (l : Int) (rs : List RuleT) (s : ByteArray) : ByteArray := if takesOk l rs s then farS rs s else ⟨#[]⟩
set_option maxRecDepth 100000 in
set_option maxHeartbeats 2000000 in
theorem specTrace_any (l : Int) (A : Option Addr) (n c : Nat) (rs : List RuleT) (s : ByteArray) (w : World) (hr : Rd w A (cellsRule rs)) (hn : n = rs.length) (hb : n ≤ 1048576) (hz : ∀ x ∈ rs, x.1.size ≤ 1048576 ∧ x.2.size ≤ 1048576) (hs : s.size ≤ 1048576) (hsy : systemOk l rs = true) (hv : val4 s ≤ 8589934592) :
    Calls Tryz.prog 97 #[.agg #[.int .i64 l, .slice A n c], .string s] w (MadeSlS w 56 2 (traceS rs s).length (cellsStep (traceS rs s)) (normS rs s)) := by
  have hW0 : Below w.heap.size w (w.alloc (.cells #[.int .i64 l, .slice A n c] 25)) := (Below.refl _ _).alloc (Nat.le_refl _) _
  have hS0 := Bk.new w 25 #[.int .i64 l, .slice A n c]
  have Hr := Lib.hid hr
  clear hr
  have Hn := Lib.hid hn
  clear hn
  have Hz := Lib.hid hz
  clear hz
  have Hsy := Lib.hid hsy
  clear hsy
  have HW0 := Lib.hid hW0
  clear hW0
  have HS0 := Lib.hid hS0
  clear hS0
  go_enter Tryz.func97, Tryz.ntmps97
  go_wp2_with fail
  go_loopw [1, 6] (fun v u wr => ∃ (cur : ByteArray) (acc : List StepT) (B : Option Addr) (d m : Nat), v = .string cur ∧ u = .slice B m d ∧ cur.size ≤ 1048576 ∧ m + val4 cur ≤ 8589934592 ∧ Hid (m = acc.length) ∧ Hid (endF (firstS rs) rs s = (acc ++ (endF (firstS rs) rs cur).1, (endF (firstS rs) rs cur).2)) ∧ Bk wr w.heap.size 25 #[.int .i64 l, .slice A n c] ∧ wr.ownsRow (w.heap.size + 1) 56 2 (.slice B m d) m (cellsStep acc) ∧ Below w.heap.size w wr) (fun v _ _ => val4 (strOf v))
  case atStart => exact ⟨s, [], _, _, 0, rfl, rfl, hs, by omega, rfl, by unfold Hid; rfl, HS0.out.alloc _, own_of_bk (m := 2) (n := 0) ((Bk.new (w.alloc (.cells #[.int .i64 l, .slice A n c] 25)) 56 #[]).cast (g' := w.heap.size + 1) (by simp)) (Nat.le_refl _) rfl (by unfold maxLen; omega), HW0.out.alloc HW0.out.size _⟩
  case round =>
    clear HS0 HW0
    obtain ⟨cur, acc, B, d, m, rfl, rfl, hcs, hmv, HM, HE, hS0, hown, hW0⟩ := hrel
    have s0_0 : wr.cell? ⟨w.heap.size, 0, none⟩ = some (.int .i64 l) := by rw [hS0.cell]; rfl
    have s1_0 : wr.cell? ⟨w.heap.size, 1, none⟩ = some (.slice A n c) := by rw [hS0.cell]; rfl
    have sl_0 := hS0.lt
    go_wp2_with fail
    with_reducible refine (specFirst_any l A n c rs cur _ (Hr.out.keep hW0) Hn.out hb Hz.out hcs (sys_rules Hsy.out)).mono ?_
    rintro e w1 ⟨rfl, b1⟩
    have hW1 := hW0.trans (b1.mono hW0.size)
    have hS1 := hS0.below b1 hS0.lt
    have hown1 := own_keep hown b1 (Nat.le_refl _)
    have hsl := hS1.lt
    clear hown b1 hS0 hW0 s0_0 s1_0 sl_0
    obtain ⟨f, hf⟩ : ∃ f, f = firstS rs cur := ⟨_, rfl⟩
    rw [← hf]
    cases f with
    | none =>
      have hE2 : endF (firstS rs) rs s = (acc, cur) := by rw [HE.out, endF_none hf.symm, List.append_nil]
      have hN : normS rs s = cur := by rw [normS, hE2]
      have hT : traceS rs s = acc := by rw [traceS, hE2]
      have Hf := Lib.hid hf
      clear hf
      have HE2 := Lib.hid hE2
      clear hE2
      have HN := Lib.hid hN
      clear hN
      have HT := Lib.hid hT
      clear hT
      rw [stepV_none, Option.isSome_none]
      go_wp2_with fail
      go_ret2
      rw [HT.out, HN.out, ← HM.out]
      exact ⟨B, d, rfl, own_mono (own_keep hown1 ((Below.refl _ w1).alloc (Nat.le_refl _) _) (Nat.le_refl _)) (by omega), hW1.alloc hW1.size _⟩
    | some x =>
      obtain ⟨x0, x1⟩ := x
      have hmem := firstS_mem hf.symm
      obtain ⟨ea, eo⟩ := as_first (sys_rules Hsy.out) hmem
      have hsz := apply_size hmem
      have hval := step_val Hsy.out hmem
      have hE2 := endF_some (first_val Hsy.out) hf.symm
      obtain ⟨nx, hnx⟩ : ∃ nx, nx = applyS rs cur (x0, x1) := ⟨_, rfl⟩
      obtain ⟨no, hno⟩ : ∃ no, no = applyOk rs cur (x0, x1) := ⟨_, rfl⟩
      rw [← hnx] at ea hsz hval hE2
      rw [← hno] at eo
      have hE3 : endF (firstS rs) rs s = ((acc ++ [(x0, x1)]) ++ (endF (firstS rs) rs nx).1, (endF (firstS rs) rs nx).2) := by rw [HE.out, hE2, List.append_assoc]; rfl
      have hWa := hW1.alloc hW1.size (.cells #[.int .i64 x0, .int .i64 x1] 56)
      have hXa := Bk.new w1 56 #[.int .i64 x0, .int .i64 x1]
      have hSa := hS1.alloc (.cells #[.int .i64 x0, .int .i64 x1] 56)
      have hoa := own_keep hown1 ((Below.refl _ w1).alloc (Nat.le_refl _) (.cells #[.int .i64 x0, .int .i64 x1] 56)) (Nat.le_refl _)
      have s0 : w1.cell? ⟨w.heap.size, 0, none⟩ = some (.int .i64 l) := by rw [hS1.cell]; rfl
      have s1 : w1.cell? ⟨w.heap.size, 1, none⟩ = some (.slice A n c) := by rw [hS1.cell]; rfl
      clear hown1 hmem HE
      rw [stepV_some, Option.isSome_some]
      have Hf := Lib.hid hf
      clear hf
      have HE2 := Lib.hid hE2
      clear hE2
      have HE3 := Lib.hid hE3
      clear hE3
      have Hnx := Lib.hid hnx
      clear hnx
      have Hno := Lib.hid hno
      clear hno
      have Ea := Lib.hid ea
      clear ea
      have Eo := Lib.hid eo
      clear eo
      have HWa := Lib.hid hWa
      clear hWa
      have HXa := Lib.hid hXa
      clear hXa
      have HSa := Lib.hid hSa
      clear hSa
      have Hoa := Lib.hid hoa
      clear hoa
      go_wp2_with fail
      with_reducible refine (specApplyStep_any l A n c rs cur x0 x1 _ (Hr.out.keep HWa.out) Hn.out hb Hz.out hcs).mono ?_
      rintro e w3 ⟨rfl, b3⟩
      rw [Ea.out, Eo.out]
      have hW3 := HWa.out.trans (b3.mono HWa.out.size)
      have hS3 := HSa.out.below b3 HSa.out.lt
      have hX3 := HXa.out.below b3 HXa.out.lt
      have ho3 := own_keep Hoa.out b3 (Nat.le_refl _)
      have q0 : w3.cell? ⟨w1.heap.size, 0, none⟩ = some (.int .i64 x0) := by rw [hX3.cell]; rfl
      have q1 : w3.cell? ⟨w1.heap.size, 1, none⟩ = some (.int .i64 x1) := by rw [hX3.cell]; rfl
      have xl := hX3.lt
      have sl := hS3.lt
      clear b3 HWa HXa HSa Hoa s0 s1
      have HX3 := Lib.hid hX3
      clear hX3
      go_wp2_with (at_builtin; refine wpList_app1 _ w3 rfl _ _ 121 rfl (w.heap.size + 1) 56 2 16 _ Tryz.underlying121 info_Step rfl (by omega) _ _ _ _ rfl rfl rfl ho3 rfl (one_cell_step _ _) (by omega) (by unfold maxLen; omega) (by omega) ?_; intro A5 c5 w5 hO5 hW5)
      have hW6 := hW3.trans (hW5.mono (by omega))
      have hS6 := hS3.below hW5 (by omega)
      have hO6 : w5.ownsRow (w.heap.size + 1) 56 2 (.slice A5 (m + 1) c5) (m + 1) (cellsStep (acc ++ [(x0, x1)])) := by rw [cellsStep_snoc]; exact hO5
      clear hO5 ho3
      go_wp2_with fail
      go_roundw
      case rel => exact ⟨nx, acc ++ [(x0, x1)], A5, c5, m + 1, rfl, rfl, by omega, by omega, by unfold Hid; rw [List.length_append, HM.out]; rfl, HE3.out, hS6, hO6, hW6⟩
      case measure => simp only [strOf_string]; omega

set_option maxRecDepth 100000 in
set_option maxHeartbeats 1000000 in
theorem specNormalForm_any (l : Int) (A : Option Addr) (n c : Nat) (rs : List RuleT) (s : ByteArray) (w : World) (hr : Rd w A (cellsRule rs)) (hn : n = rs.length) (hb : n ≤ 1048576) (hz : ∀ x ∈ rs, x.1.size ≤ 1048576 ∧ x.2.size ≤ 1048576) (hs : s.size ≤ 1048576) :
    Calls Tryz.prog 94 #[.agg #[.int .i64 l, .slice A n c], .string s] w (Kept w (.tuple #[.string (nfS l rs s), .bool (takesOk l rs s)])) := by
  have hW0 : Below w.heap.size w (w.alloc (.cells #[.int .i64 l, .slice A n c] 25)) := (Below.refl _ _).alloc (Nat.le_refl _) _
  have hS0 := Bk.new w 25 #[.int .i64 l, .slice A n c]
  have Hr := Lib.hid hr
  clear hr
  have Hn := Lib.hid hn
  clear hn
  have Hz := Lib.hid hz
  clear hz
  go_enter Tryz.func94, Tryz.ntmps94
  go_wp2_with fail
  with_reducible refine (specTakes_any l A n c rs s _ (Hr.out.keep hW0) Hn.out hb Hz.out hs).mono ?_
  rintro e w1 ⟨rfl, b1⟩
  have hW1 := hW0.trans (b1.mono hW0.size)
  have hS1 := hS0.below b1 hS0.lt
  have s0_1 : w1.cell? ⟨w.heap.size, 0, none⟩ = some (.int .i64 l) := by rw [hS1.cell]; rfl
  have s1_1 : w1.cell? ⟨w.heap.size, 1, none⟩ = some (.slice A n c) := by rw [hS1.cell]; rfl
  have sl_1 := hS1.lt
  clear b1
  obtain ⟨r, hrr⟩ : ∃ r, r = takesOk l rs s := ⟨_, rfl⟩
  rw [← hrr]
  cases r
  · have e1 : nfS l rs s = ⟨#[]⟩ := by rw [nfS, ← hrr]; rfl
    have Hrr := Lib.hid hrr
    clear hrr
    have E1 := Lib.hid e1
    clear e1
    go_wp2_with fail
    go_ret2
    exact ⟨by rw [E1.out, ← Hrr.out]; rfl, hW1⟩
  · have e1 : nfS l rs s = normS rs s := by rw [nfS, ← hrr]; rfl
    obtain ⟨hy1, hy2⟩ := takes_sys hrr.symm
    have hv := val4_le hy2
    have Hrr := Lib.hid hrr
    clear hrr
    have E1 := Lib.hid e1
    clear e1
    have Hy1 := Lib.hid hy1
    clear hy1
    have Hv := Lib.hid hv
    clear hv
    go_wp2_with fail
    refine (specTrace_any l A n c rs s _ (Hr.out.keep hW1) Hn.out hb Hz.out hs Hy1.out Hv.out).mono ?_
    rintro e w2 ⟨B, d, rfl, -, b2⟩
    obtain ⟨a, ha⟩ : ∃ a, a = normS rs s := ⟨_, rfl⟩
    obtain ⟨m, hm⟩ : ∃ m, m = (traceS rs s).length := ⟨_, rfl⟩
    rw [← ha, ← hm]
    have Ha := Lib.hid ha
    clear ha
    have Hm := Lib.hid hm
    clear hm
    go_wp2_with fail
    go_ret2
    exact ⟨by rw [E1.out, ← Hrr.out, Ha.out]; rfl, hW1.trans (b2.mono hW1.size)⟩

set_option maxRecDepth 100000 in
set_option maxHeartbeats 2000000 in
theorem implNormal_any (l : Int) (A : Option Addr) (n c : Nat) (rs : List RuleT) (s : ByteArray) (w : World) (hr : Rd w A (cellsRule rs)) (hn : n = rs.length) (hb : n ≤ 1048576) (hz : ∀ x ∈ rs, x.1.size ≤ 1048576 ∧ x.2.size ≤ 1048576) (hs : s.size ≤ 1048576) (hsy : systemOk l rs = true) :
    Calls Tryz.prog 21 #[.agg #[.int .i64 l, .slice A n c], .string s] w (Kept w (.string (normS rs s))) := by
  have hW0 : Below w.heap.size w (w.alloc (.cells #[.int .i64 l, .slice A n c] 25)) := (Below.refl _ _).alloc (Nat.le_refl _) _
  have hS0 := Bk.new w 25 #[.int .i64 l, .slice A n c]
  have Hr := Lib.hid hr
  clear hr
  have Hn := Lib.hid hn
  clear hn
  have Hz := Lib.hid hz
  clear hz
  have Hsy := Lib.hid hsy
  clear hsy
  go_enter Tryz.func21, Tryz.ntmps21
  go_wp2_with fail
  with_reducible refine (implFirst_any l A n c rs s _ (Hr.out.keep hW0) Hn.out hb Hz.out hs).mono ?_
  rintro e w1 ⟨rfl, b1⟩
  have hW1 := hW0.trans (b1.mono hW0.size)
  have hS1 := hS0.below b1 hS0.lt
  have hsl1 := hS1.lt
  clear b1
  rw [stepV_eq]
  obtain ⟨a, ha⟩ : ∃ a, a = stepX (firstS rs s) := ⟨_, rfl⟩
  obtain ⟨b, hb2⟩ : ∃ b, b = stepY (firstS rs s) := ⟨_, rfl⟩
  obtain ⟨k, hk⟩ : ∃ k, k = (firstS rs s).isSome := ⟨_, rfl⟩
  rw [← ha, ← hb2, ← hk]
  have hS2 := hS1.alloc (.cells #[.int .i64 a, .int .i64 b] 56)
  have hW2 := hW1.alloc hW1.size (.cells #[.int .i64 a, .int .i64 b] 56)
  have hX2 := Bk.new w1 56 #[.int .i64 a, .int .i64 b]
  have Ha := Lib.hid ha
  clear ha
  have Hb2 := Lib.hid hb2
  clear hb2
  have Hk := Lib.hid hk
  clear hk
  have HS2 := Lib.hid hS2
  clear hS2
  have HW2 := Lib.hid hW2
  clear hW2
  have HX2 := Lib.hid hX2
  clear hX2
  go_wp2_with fail
  go_loopw [1, 5, 6] (fun v u y wr => ∃ (cur : ByteArray) (bx : Nat), v = .string cur ∧ u = .pointer (some ⟨bx, 0, none⟩) ∧ y = .bool (firstS rs cur).isSome ∧ cur.size ≤ 1048576 ∧ Hid (normS rs s = normS rs cur) ∧ Bk wr w.heap.size 25 #[.int .i64 l, .slice A n c] ∧ Bk wr bx 56 #[.int .i64 (stepX (firstS rs cur)), .int .i64 (stepY (firstS rs cur))] ∧ w.heap.size < bx ∧ Below w.heap.size w wr) (fun v _ _ _ => val4 (strOf v))
  case atStart => exact ⟨s, w1.heap.size, rfl, rfl, by rw [Hk.out], hs, by unfold Hid; rfl, HS2.out, by rw [← Ha.out, ← Hb2.out]; exact HX2.out, hsl1, HW2.out⟩
  case round =>
    clear HS2 HW2 HX2
    obtain ⟨cur, bx, rfl, rfl, rfl, hcs, HE, hS0, hX0, hbx, hW0⟩ := hrel
    obtain ⟨f, hf⟩ : ∃ f, f = firstS rs cur := ⟨_, rfl⟩
    rw [← hf] at hX0 ⊢
    cases f with
    | none =>
      have hN : normS rs s = cur := by rw [HE.out, normS_none hf.symm]
      have Hf := Lib.hid hf
      clear hf
      have HN := Lib.hid hN
      clear hN
      rw [Option.isSome_none]
      go_wp2_with fail
      go_ret
      exact ⟨by rw [HN.out]; rfl, hW0⟩
    | some x =>
      obtain ⟨x0, x1⟩ := x
      have hmem := firstS_mem hf.symm
      have hsz := apply_size hmem
      have hval := step_val Hsy.out hmem
      have hE2 := normS_some Hsy.out hf.symm
      obtain ⟨K, P, hxe, hK, -, -⟩ := mem_step hmem
      have hx0 : x0 = (K : Int) := congrArg Prod.fst hxe
      obtain ⟨nx, hnx⟩ : ∃ nx, nx = applyS rs cur (x0, x1) := ⟨_, rfl⟩
      obtain ⟨no, hno⟩ : ∃ no, no = applyOk rs cur (x0, x1) := ⟨_, rfl⟩
      rw [← hnx] at hsz hval hE2
      have q0 : wr.cell? ⟨bx, 0, none⟩ = some (.int .i64 x0) := by rw [hX0.cell]; rfl
      have q1 : wr.cell? ⟨bx, 1, none⟩ = some (.int .i64 x1) := by rw [hX0.cell]; rfl
      have s0 : wr.cell? ⟨w.heap.size, 0, none⟩ = some (.int .i64 l) := by rw [hS0.cell]; rfl
      have s1 : wr.cell? ⟨w.heap.size, 1, none⟩ = some (.slice A n c) := by rw [hS0.cell]; rfl
      have xl := hX0.lt
      have sl := hS0.lt
      clear hmem hxe
      rw [Option.isSome_some]
      have Hf := Lib.hid hf
      clear hf
      have HE2 := Lib.hid hE2
      clear hE2
      have Hnx := Lib.hid hnx
      clear hnx
      have Hno := Lib.hid hno
      clear hno
      have Hx0 := Lib.hid hx0
      clear hx0
      have HX0 := Lib.hid hX0
      clear hX0
      have HS0 := Lib.hid hS0
      clear hS0
      go_wp2_with fail
      with_reducible refine (implApply_any l A n c rs cur x0 x1 K _ (Hr.out.keep hW0) Hn.out hb Hz.out hcs Hx0.out hK).mono ?_
      rintro e w3 ⟨rfl, b3⟩
      rw [← Hnx.out, ← Hno.out]
      have hW3 := hW0.trans (b3.mono hW0.size)
      have hS3 := HS0.out.below b3 HS0.out.lt
      have hX3 := HX0.out.below b3 HX0.out.lt
      clear s0 s1 q0 q1 xl sl b3 HX0 HS0 hW0
      have q0 : w3.cell? ⟨bx, 0, none⟩ = some (.int .i64 x0) := by rw [hX3.cell]; rfl
      have q1 : w3.cell? ⟨bx, 1, none⟩ = some (.int .i64 x1) := by rw [hX3.cell]; rfl
      have s0 : w3.cell? ⟨w.heap.size, 0, none⟩ = some (.int .i64 l) := by rw [hS3.cell]; rfl
      have s1 : w3.cell? ⟨w.heap.size, 1, none⟩ = some (.slice A n c) := by rw [hS3.cell]; rfl
      have xl := hX3.lt
      have sl := hS3.lt
      have hW4 := hW3.alloc hW3.size (.cells #[.int .i64 x0, .int .i64 x1] 56)
      have hS4 := hS3.alloc (.cells #[.int .i64 x0, .int .i64 x1] 56)
      have hX4 := Bk.new w3 56 #[.int .i64 x0, .int .i64 x1]
      have HX3 := Lib.hid hX3
      clear hX3
      have HS3 := Lib.hid hS3
      clear hS3
      have HW4 := Lib.hid hW4
      clear hW4
      have HS4 := Lib.hid hS4
      clear hS4
      have HX4 := Lib.hid hX4
      clear hX4
      go_wp2_with fail
      with_reducible refine (implFirst_any l A n c rs nx _ (Hr.out.keep HW4.out) Hn.out hb Hz.out (by omega)).mono ?_
      rintro e w5 ⟨rfl, b5⟩
      rw [stepV_eq]
      obtain ⟨a, ha⟩ : ∃ a, a = stepX (firstS rs nx) := ⟨_, rfl⟩
      obtain ⟨b, hb2⟩ : ∃ b, b = stepY (firstS rs nx) := ⟨_, rfl⟩
      obtain ⟨k, hk⟩ : ∃ k, k = (firstS rs nx).isSome := ⟨_, rfl⟩
      rw [← ha, ← hb2, ← hk]
      have hW5 := HW4.out.trans (b5.mono HW4.out.size)
      have hS5 := HS4.out.below b5 HS4.out.lt
      have hX5 := HX4.out.below b5 HX4.out.lt
      have y0 : w5.cell? ⟨w3.heap.size, 0, none⟩ = some (.int .i64 x0) := by rw [hX5.cell]; rfl
      have y1 : w5.cell? ⟨w3.heap.size, 1, none⟩ = some (.int .i64 x1) := by rw [hX5.cell]; rfl
      have f0 := hX5.free 0
      have f1 := hX5.free 1
      have yl := hX5.lt
      clear b5 HW4 HS4 HX4 s0 s1 q0 q1
      have HX5 := Lib.hid hX5
      clear hX5
      have HS5 := Lib.hid hS5
      clear hS5
      have Ha := Lib.hid ha
      clear ha
      have Hb2 := Lib.hid hb2
      clear hb2
      have Hk := Lib.hid hk
      clear hk
      go_wp2_with fail
      go_roundw
      case rel =>
        refine ⟨nx, w3.heap.size, rfl, rfl, by rw [Hk.out], by omega, by unfold Hid; rw [HE.out, HE2.out], ?_, ?_, sl, ?_⟩
        · exact (HS5.out.far (p := ⟨w3.heap.size, 0, none⟩) (by dsimp only; omega) _).far (p := ⟨w3.heap.size, 1, none⟩) (by dsimp only; omega) _
        · rw [← Ha.out, ← Hb2.out]
          exact (HX5.out.put 0 (.int .i64 a)).put 1 (.int .i64 b)
        · exact (hW5.setCell (by dsimp only; omega) _).setCell (by dsimp only; omega) _
      case measure => simp only [strOf_string]; omega

set_option maxRecDepth 100000 in
set_option maxHeartbeats 1000000 in
theorem implNormalForm_any (l : Int) (A : Option Addr) (n c : Nat) (rs : List RuleT) (s : ByteArray) (w : World) (hr : Rd w A (cellsRule rs)) (hn : n = rs.length) (hb : n ≤ 1048576) (hz : ∀ x ∈ rs, x.1.size ≤ 1048576 ∧ x.2.size ≤ 1048576) (hs : s.size ≤ 1048576) :
    Calls Tryz.prog 7 #[.agg #[.int .i64 l, .slice A n c], .string s] w (Kept w (.tuple #[.string (nfS l rs s), .bool (takesOk l rs s)])) := by
  have hW0 : Below w.heap.size w (w.alloc (.cells #[.int .i64 l, .slice A n c] 25)) := (Below.refl _ _).alloc (Nat.le_refl _) _
  have hS0 := Bk.new w 25 #[.int .i64 l, .slice A n c]
  have Hr := Lib.hid hr
  clear hr
  have Hn := Lib.hid hn
  clear hn
  have Hz := Lib.hid hz
  clear hz
  go_enter Tryz.func7, Tryz.ntmps7
  go_wp2_with fail
  with_reducible refine (implTakes_any l A n c rs s _ (Hr.out.keep hW0) Hn.out hb Hz.out hs).mono ?_
  rintro e w1 ⟨rfl, b1⟩
  have hW1 := hW0.trans (b1.mono hW0.size)
  have hS1 := hS0.below b1 hS0.lt
  have s0_1 : w1.cell? ⟨w.heap.size, 0, none⟩ = some (.int .i64 l) := by rw [hS1.cell]; rfl
  have s1_1 : w1.cell? ⟨w.heap.size, 1, none⟩ = some (.slice A n c) := by rw [hS1.cell]; rfl
  have sl_1 := hS1.lt
  clear b1
  obtain ⟨r, hrr⟩ : ∃ r, r = takesOk l rs s := ⟨_, rfl⟩
  rw [← hrr]
  cases r
  · have e1 : nfS l rs s = ⟨#[]⟩ := by rw [nfS, ← hrr]; rfl
    have Hrr := Lib.hid hrr
    clear hrr
    have E1 := Lib.hid e1
    clear e1
    go_wp2_with fail
    go_ret2
    exact ⟨by rw [E1.out, ← Hrr.out]; rfl, hW1⟩
  · have e1 : nfS l rs s = normS rs s := by rw [nfS, ← hrr]; rfl
    obtain ⟨hy1, hy2⟩ := takes_sys hrr.symm
    have Hrr := Lib.hid hrr
    clear hrr
    have E1 := Lib.hid e1
    clear e1
    have Hy1 := Lib.hid hy1
    clear hy1
    go_wp2_with fail
    with_reducible refine (implNormal_any l A n c rs s _ (Hr.out.keep hW1) Hn.out hb Hz.out hs Hy1.out).mono ?_
    rintro e w2 ⟨rfl, b2⟩
    have hW2 := hW1.trans (b2.mono hW1.size)
    have hS2 := hS1.below b2 hS1.lt
    have s0_2 : w2.cell? ⟨w.heap.size, 0, none⟩ = some (.int .i64 l) := by rw [hS2.cell]; rfl
    have s1_2 : w2.cell? ⟨w.heap.size, 1, none⟩ = some (.slice A n c) := by rw [hS2.cell]; rfl
    have sl_2 := hS2.lt
    clear b2
    obtain ⟨a, ha⟩ : ∃ a, a = normS rs s := ⟨_, rfl⟩
    rw [← ha]
    have Ha := Lib.hid ha
    clear ha
    go_wp2_with fail
    go_ret2
    exact ⟨by rw [E1.out, ← Hrr.out, Ha.out]; rfl, hW2⟩

end Go.Proofs.YteafeecndghapaaGreat
