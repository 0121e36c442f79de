/- Walk over StartWork of the reference: the work that a completion of a system in order starts with. -/
import Derived.Test.YteafeecndghapaaGreatMg22
namespace Go.Proofs.YteafeecndghapaaGreat
open Go.RowKit Go.Shelf

/-- The work that a completion starts with. -/
def StartMade (w : World) (l : Int) (n : Nat) (rs : List RuleT) (e : Ending) (w' : World) : Prop := ∃ (Q : Option Addr) (cq : Nat), e = .returned (.tuple #[.agg #[.int .i64 l, .slice none 0 0, .slice Q n cq, .int .i64 0], .bool true]) ∧ Rd w' Q (cellsRule rs) ∧ Below w.heap.size w w'
theorem start_parts {l : Int} {rs : List RuleT} (h : systemOk l rs = true) : inB l 1 4 = true ∧ rs.length ≤ 12 ∧ ∀ x ∈ rs, sidesOk l x.1 x.2 = true := by
  have h := sys_rules h
  unfold rulesOk at h
  simp only [Bool.and_eq_true, decide_eq_true_eq, List.all_eq_true] at h
  refine ⟨h.1.1, h.1.2, fun x hx => ?_⟩
  have := h.2 x hx
  unfold ruleOk at this
  simp only [Bool.and_eq_true] at this
  exact this.1
set_option maxRecDepth 100000 in
set_option maxHeartbeats 4000000 in
theorem specStart_any (l : Int) (A : Option Addr) (n c : Nat) (rs : List RuleT) (w : World) (hr : Rd w A (cellsRule rs)) (hn : n = rs.length) (hsy : systemOk l rs = true) :
    Calls Tryz.prog 79 #[.int .i64 l, .slice A n c] w (StartMade w l n rs) := by
  subst hn
  obtain ⟨hin, h12, hall⟩ := start_parts hsy
  have hW : Below w.heap.size w (w.alloc (.cells #[.int .i64 0, .slice none 0 0, .slice none 0 0, .int .i64 0] 86)) := (Below.refl _ _).alloc (Nat.le_refl _) _
  have hB := Bk.new w 86 #[.int .i64 0, .slice none 0 0, .slice none 0 0, .int .i64 0]
  have hcl := cellsRule_len rs
  have HB := Lib.hid hB
  clear hB
  have Hr := Lib.hid hr
  clear hr
  have Hall := Lib.hid hall
  clear hall
  have Hsy := Lib.hid hsy
  clear hsy
  have Hin := Lib.hid hin
  clear hin
  have Hcl := Lib.hid hcl
  clear hcl
  go_enter Tryz.func79, Tryz.ntmps79
  go_wp2_with fail
  refine (l01In_any l 1 4 _).mono ?_
  rintro e w' ⟨rfl, rfl⟩
  rw [Hin.out]
  go_wp2_with fail
  go_loopw [19] (fun i wr => ∃ (j : Nat), j ≤ rs.length ∧ i = .int .i64 j ∧ Bk wr w.heap.size 86 #[.int .i64 0, .slice none 0 0, .slice none 0 0, .int .i64 0] ∧ Below w.heap.size w wr) (fun i _ => rs.length - (intOf i).toNat)
  case atStart => exact ⟨0, Nat.zero_le _, rfl, HB.out, hW⟩
  case round =>
    clear hW
    obtain ⟨j, hj, rfl, hS, hW⟩ := hrel
    by_cases hlt : j < rs.length
    · obtain ⟨b, o, rfl, hbl, p0, p1⟩ := rd_Rule (Hr.out.keep hW) hlt
      have hsj := Hall.out rs[j] (List.getElem_mem hlt)
      have hmem := sys_mem Hsy.out (List.getElem_mem hlt)
      obtain ⟨⟨v0, v1⟩, hv⟩ : ∃ v, v = rs[j] := ⟨_, rfl⟩
      rw [← hv] at p0 p1 hsj hmem
      dsimp only at hsj hmem
      obtain ⟨-, -, z0, z1, -⟩ := hmem
      have hbw := hS.lt
      have Hv := Lib.hid hv
      clear hv
      have HS := Lib.hid hS
      clear hS
      have Hsj := Lib.hid hsj
      clear hsj
      go_wp2_with fail
      refine (specSides_any l v0 v1 _ (by omega) (by omega)).mono ?_
      rintro e w1 ⟨rfl, b1⟩
      rw [Hsj.out]
      have hW2 := (hW.alloc hW.size (.cells #[.string v0, .string v1] 68))
      have hW3 := hW2.trans (b1.mono hW2.size)
      have hS3 := (HS.out.alloc (.cells #[.string v0, .string v1] 68)).below b1 (by simp; omega)
      go_wp2_with fail
      go_roundw
      case rel => exact ⟨j + 1, by omega, by go_num, hS3, hW3⟩
      case measure => simp [intOf]; omega
    · have : j = rs.length := by omega
      subst this
      have hal := (Below.refl wr.heap.size wr).alloc (Nat.le_refl _) (.cells #[] 68)
      have hS2 := hS.below hal hS.lt
      have hO2 := own_of_bk (base := wr.heap.size) (m := 2) (n := 0) (Bk.new wr 68 #[]) (Nat.le_refl _) rfl (by unfold maxLen; omega)
      have hW2 := hW.trans (hal.mono hW.size)
      have hz : w.heap.size < wr.heap.size := hS.lt
      have HS := Lib.hid hS
      clear hS
      have HS2 := Lib.hid hS2
      clear hS2
      have HO2 := Lib.hid hO2
      clear hO2
      have HW2 := Lib.hid hW2
      clear hW2
      have Hal := Lib.hid hal
      clear hal
      go_wp2_with (at_builtin; go_loud (refine wpList_append_rd _ rfl _ _ 23 rfl wr.heap.size 68 2 32 _ Tryz.underlying23 info_Rule rfl (by omega) (.slice (some ⟨wr.heap.size, 0, none⟩) 0 0) 0 [] rfl HO2.out A rs.length c (cellsRule rs) rfl Hcl.out (Hr.out.keep HW2.out) (one_cell_rules _) (by unfold maxLen; omega) (by omega) (by simp) ?_; intro Q cq w5 hO5 hG5; have hS5 := HS2.out.grown hG5 (by intro e9; simp [Value.ownBlock] at e9; omega); have k0 : w5.cell? ⟨w.heap.size, 0, none⟩ = some (.int .i64 0) := (by rw [hS5.cell]; rfl); have k1 : w5.cell? ⟨w.heap.size, 1, none⟩ = some (.slice none 0 0) := (by rw [hS5.cell]; rfl); have k2 : w5.cell? ⟨w.heap.size, 2, none⟩ = some (.slice none 0 0) := (by rw [hS5.cell]; rfl); have k3 : w5.cell? ⟨w.heap.size, 3, none⟩ = some (.int .i64 0) := (by rw [hS5.cell]; rfl); have f0 := hS5.free 0; have f1 := hS5.free 1; have f2 := hS5.free 2; have f3 := hS5.free 3; have fl := hS5.lt))
      have hBf := (((HS2.out.grown hG5 (by intro e9; simp [Value.ownBlock] at e9; omega)).put 0 (.int .i64 l)).put 1 (.slice none 0 0)).put 2 (.slice Q rs.length cq)
      have hBg := hBf.put 3 (.int .i64 0)
      have q0 := hBg.cell 0
      have q1 := hBg.cell 1
      have q2 := hBg.cell 2
      have q3 := hBg.cell 3
      rw [Nat.zero_add, List.nil_append] at hO5
      have hnQ : (Value.slice Q rs.length cq).ownBlock ≠ some w.heap.size := fun e9 => by have h9 := (hO5.lt _ e9).1; omega
      have hlow : Below w.heap.size w w5 := low_grown HW2.out hG5 HW2.out.size (fun g e9 => by simp [Value.ownBlock] at e9; omega)
      have hlw := hlow.trans (((((Below.refl _ _).setCell (p := ⟨w.heap.size, 0, none⟩) (Nat.le_refl _) (.int .i64 l)).setCell (p := ⟨w.heap.size, 1, none⟩) (Nat.le_refl _) (.slice none 0 0)).setCell (p := ⟨w.heap.size, 2, none⟩) (Nat.le_refl _) (.slice Q rs.length cq)).setCell (p := ⟨w.heap.size, 3, none⟩) (Nat.le_refl _) (.int .i64 0))
      have hrf := Rd.of_own (own_far3 (own_far3 (own_far3 (own_far3 hO5 (p := ⟨w.heap.size, 0, none⟩) hnQ (.int .i64 l)) (p := ⟨w.heap.size, 1, none⟩) hnQ (.slice none 0 0)) (p := ⟨w.heap.size, 2, none⟩) hnQ (.slice Q rs.length cq)) (p := ⟨w.heap.size, 3, none⟩) hnQ (.int .i64 0))
      refine bodyPost_ret (v := .tuple #[.agg #[.int .i64 l, .slice none 0 0, .slice Q rs.length cq, .int .i64 0], .bool true]) (by simp [results, Tryz.results79, go_sem, q0, q1, q2, q3]) rfl ?_
      exact ⟨Q, cq, rfl, hrf, hlw⟩
end Go.Proofs.YteafeecndghapaaGreat
