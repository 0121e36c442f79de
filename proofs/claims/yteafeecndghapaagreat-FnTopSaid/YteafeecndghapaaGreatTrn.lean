/- Walk over TurnWork of the reference: a turn of the completion. -/
import Derived.Test.YteafeecndghapaaGreatMg22
namespace Go.Proofs.YteafeecndghapaaGreat
open Go.RowKit Go.Shelf

set_option maxRecDepth 100000 in
set_option maxHeartbeats 8000000 in
theorem specTurn_any (l : Int) (A : Option Addr) (n c : Nat) (rs : List RuleT) (Q : Option Addr) (q cq : Nat) (qs : List RuleT) (t : Int) (w : World) (hr : Rd w A (cellsRule rs)) (hn : n = rs.length) (hb : n ≤ 1048576) (hz : ∀ x ∈ rs, x.1.size ≤ 1048576 ∧ x.2.size ≤ 1048576) (hq : Rd w Q (cellsRule qs)) (hqn : q = qs.length) (hqb : q ≤ 1048576) (hy : ∀ x ∈ qs, x.1.size ≤ 1048576 ∧ x.2.size ≤ 1048576) :
    Calls Tryz.prog 80 #[.agg #[.int .i64 l, .slice A n c, .slice Q q cq, .int .i64 t]] w (TurnMade w l rs qs t) := by
  have hT0 : TwoB w ((w.alloc (.cells #[.int .i64 l, .slice A n c, .slice Q q cq, .int .i64 t] 86)).alloc (.cells #[.int .i64 0, .slice none 0 0, .slice none 0 0, .int .i64 0] 86)) 86 86 #[.int .i64 l, .slice A n c, .slice Q q cq, .int .i64 t] #[.int .i64 0, .slice none 0 0, .slice none 0 0, .int .i64 0] :=
    ⟨(Bk.new w _ _).alloc _, (Bk.new (w.alloc (.cells #[.int .i64 l, .slice A n c, .slice Q q cq, .int .i64 t] 86)) _ _).cast (by simp), ((Below.refl _ _).alloc (Nat.le_refl _) _).alloc (by simp) _, by simp⟩
  have hC := fun (y : World) (hy : Below w.heap.size w y) => specCopy_any l A n c rs Q q cq qs t y (hr.keep hy) hn hb (hq.keep hy) hqn hqb
  have hK := fun (y : World) (h2 : Below w.heap.size w y) => specWorkOk_any l A n c rs Q q cq qs t y (hr.keep h2) hn hb hz (hq.keep h2) hqn hqb hy
  obtain ⟨ok, hok⟩ : ∃ z, z = workOk l rs qs t := ⟨_, rfl⟩
  rw [← hok] at hK
  have Hr := Lib.hid hr
  clear hr
  have Hn := Lib.hid hn
  clear hn
  have Hz := Lib.hid hz
  clear hz
  have Hq := Lib.hid hq
  clear hq
  have Hqn := Lib.hid hqn
  clear hqn
  have Hy := Lib.hid hy
  clear hy
  have HT0 := Lib.hid hT0
  clear hT0
  have HC := Lib.hid hC
  clear hC
  have HK := Lib.hid hK
  clear hK
  have Hok := Lib.hid hok
  clear hok
  go_enter Tryz.func80, Tryz.ntmps80
  go_wp2_with fail
  with_reducible refine (HK.out _ HT0.out.low).mono ?_
  rintro e w1 ⟨rfl, b1⟩
  have hT1 := HT0.out.below b1
  clear HT0 HK b1
  have s0 : w1.cell? ⟨w.heap.size, 0, none⟩ = some (.int .i64 l) := by rw [hT1.b1.cell]; rfl
  have s1 : w1.cell? ⟨w.heap.size, 1, none⟩ = some (.slice A n c) := by rw [hT1.b1.cell]; rfl
  have s2 : w1.cell? ⟨w.heap.size, 2, none⟩ = some (.slice Q q cq) := by rw [hT1.b1.cell]; rfl
  have s3 : w1.cell? ⟨w.heap.size, 3, none⟩ = some (.int .i64 t) := by rw [hT1.b1.cell]; rfl
  have sl := hT1.b1.lt
  cases ok
  · skip
    go_wp2_with fail
    with_reducible refine (HC.out _ hT1.low).mono ?_
    rintro e wC ⟨A9, c9, Q9, d9, rfl, -, -, -, bC⟩
    have hTC := hT1.below bC
    clear bC s0 s1 s2 s3 sl
    have k0 : wC.cell? ⟨w.heap.size + 1, 0, none⟩ = some (.int .i64 0) := by rw [hTC.b2.cell]; rfl
    have kf0 := hTC.b2.free 0
    have k1 : wC.cell? ⟨w.heap.size + 1, 1, none⟩ = some (.slice none 0 0) := by rw [hTC.b2.cell]; rfl
    have kf1 := hTC.b2.free 1
    have k2 : wC.cell? ⟨w.heap.size + 1, 2, none⟩ = some (.slice none 0 0) := by rw [hTC.b2.cell]; rfl
    have kf2 := hTC.b2.free 2
    have k3 : wC.cell? ⟨w.heap.size + 1, 3, none⟩ = some (.int .i64 0) := by rw [hTC.b2.cell]; rfl
    have kf3 := hTC.b2.free 3
    have lr := hTC.b2.lt
    have HTC := Lib.hid hTC
    clear hTC
    go_wp2_with fail
    have hB := ((((HTC.out.b2.put 0 (.int .i64 l)).put 1 (.slice A9 n c9)).put 2 (.slice Q9 q d9)).put 3 (.int .i64 t))
    have hlw := HTC.out.low.trans (((((Below.refl w.heap.size wC).setCell (p := ⟨w.heap.size + 1, 0, none⟩) (by dsimp only; omega) (.int .i64 l)).setCell (p := ⟨w.heap.size + 1, 1, none⟩) (by dsimp only; omega) (.slice A9 n c9)).setCell (p := ⟨w.heap.size + 1, 2, none⟩) (by dsimp only; omega) (.slice Q9 q d9)).setCell (p := ⟨w.heap.size + 1, 3, none⟩) (by dsimp only; omega) (.int .i64 t))
    have qc0 := hB.cell 0
    have qc1 := hB.cell 1
    have qc2 := hB.cell 2
    have qc3 := hB.cell 3
    refine bodyPost_ret (v := .tuple #[.agg #[.int .i64 l, .slice A9 n c9, .slice Q9 q d9, .int .i64 t], .int .i64 4]) (by simp [results, Tryz.results80, go_sem, qc0, qc1, qc2, qc3]) rfl ?_
    exact ⟨l, A9, n, c9, Q9, q, d9, t, 4, rfl, hlw, fun h => absurd h (by decide)⟩
  have hwk := hok_of Hok.out.symm
  obtain ⟨hsy, hq4, ht0, ht2, heq⟩ := hwk
  have hq400 : q ≤ 400 := by rw [Hqn.out]; exact hq4
  by_cases hq0 : q = 0
  · have hqs : qs = [] := List.eq_nil_of_length_eq_zero (by rw [← Hqn.out]; exact hq0)
    subst hq0
    go_wp2_with fail
    with_reducible refine (HC.out _ hT1.low).mono ?_
    rintro e wC ⟨A9, c9, Q9, d9, rfl, -, -, -, bC⟩
    have hTC := hT1.below bC
    clear bC s0 s1 s2 s3 sl
    have k0 : wC.cell? ⟨w.heap.size + 1, 0, none⟩ = some (.int .i64 0) := by rw [hTC.b2.cell]; rfl
    have kf0 := hTC.b2.free 0
    have k1 : wC.cell? ⟨w.heap.size + 1, 1, none⟩ = some (.slice none 0 0) := by rw [hTC.b2.cell]; rfl
    have kf1 := hTC.b2.free 1
    have k2 : wC.cell? ⟨w.heap.size + 1, 2, none⟩ = some (.slice none 0 0) := by rw [hTC.b2.cell]; rfl
    have kf2 := hTC.b2.free 2
    have k3 : wC.cell? ⟨w.heap.size + 1, 3, none⟩ = some (.int .i64 0) := by rw [hTC.b2.cell]; rfl
    have kf3 := hTC.b2.free 3
    have lr := hTC.b2.lt
    have HTC := Lib.hid hTC
    clear hTC
    go_wp2_with fail
    have hB := ((((HTC.out.b2.put 0 (.int .i64 l)).put 1 (.slice A9 n c9)).put 2 (.slice Q9 0 d9)).put 3 (.int .i64 t))
    have hlw := HTC.out.low.trans (((((Below.refl w.heap.size wC).setCell (p := ⟨w.heap.size + 1, 0, none⟩) (by dsimp only; omega) (.int .i64 l)).setCell (p := ⟨w.heap.size + 1, 1, none⟩) (by dsimp only; omega) (.slice A9 n c9)).setCell (p := ⟨w.heap.size + 1, 2, none⟩) (by dsimp only; omega) (.slice Q9 0 d9)).setCell (p := ⟨w.heap.size + 1, 3, none⟩) (by dsimp only; omega) (.int .i64 t))
    have qc0 := hB.cell 0
    have qc1 := hB.cell 1
    have qc2 := hB.cell 2
    have qc3 := hB.cell 3
    refine bodyPost_ret (v := .tuple #[.agg #[.int .i64 l, .slice A9 n c9, .slice Q9 0 d9, .int .i64 t], .int .i64 0]) (by simp [results, Tryz.results80, go_sem, qc0, qc1, qc2, qc3]) rfl ?_
    exact ⟨l, A9, n, c9, Q9, 0, d9, t, 0, rfl, hlw, fun _ hne => absurd hqs hne⟩
  have hq00 : ((q : Int) == 0) = false := by simp; omega
  by_cases ht200 : t = 200
  · subst ht200
    go_wp2_with fail
    with_reducible refine (HC.out _ hT1.low).mono ?_
    rintro e wC ⟨A9, c9, Q9, d9, rfl, -, -, -, bC⟩
    have hTC := hT1.below bC
    clear bC s0 s1 s2 s3 sl
    have k0 : wC.cell? ⟨w.heap.size + 1, 0, none⟩ = some (.int .i64 0) := by rw [hTC.b2.cell]; rfl
    have kf0 := hTC.b2.free 0
    have k1 : wC.cell? ⟨w.heap.size + 1, 1, none⟩ = some (.slice none 0 0) := by rw [hTC.b2.cell]; rfl
    have kf1 := hTC.b2.free 1
    have k2 : wC.cell? ⟨w.heap.size + 1, 2, none⟩ = some (.slice none 0 0) := by rw [hTC.b2.cell]; rfl
    have kf2 := hTC.b2.free 2
    have k3 : wC.cell? ⟨w.heap.size + 1, 3, none⟩ = some (.int .i64 0) := by rw [hTC.b2.cell]; rfl
    have kf3 := hTC.b2.free 3
    have lr := hTC.b2.lt
    have HTC := Lib.hid hTC
    clear hTC
    go_wp2_with fail
    have hB := ((((HTC.out.b2.put 0 (.int .i64 l)).put 1 (.slice A9 n c9)).put 2 (.slice Q9 q d9)).put 3 (.int .i64 200))
    have hlw := HTC.out.low.trans (((((Below.refl w.heap.size wC).setCell (p := ⟨w.heap.size + 1, 0, none⟩) (by dsimp only; omega) (.int .i64 l)).setCell (p := ⟨w.heap.size + 1, 1, none⟩) (by dsimp only; omega) (.slice A9 n c9)).setCell (p := ⟨w.heap.size + 1, 2, none⟩) (by dsimp only; omega) (.slice Q9 q d9)).setCell (p := ⟨w.heap.size + 1, 3, none⟩) (by dsimp only; omega) (.int .i64 200))
    have qc0 := hB.cell 0
    have qc1 := hB.cell 1
    have qc2 := hB.cell 2
    have qc3 := hB.cell 3
    refine bodyPost_ret (v := .tuple #[.agg #[.int .i64 l, .slice A9 n c9, .slice Q9 q d9, .int .i64 200], .int .i64 3]) (by simp [results, Tryz.results80, go_sem, qc0, qc1, qc2, qc3]) rfl ?_
    exact ⟨l, A9, n, c9, Q9, q, d9, 200, 3, rfl, hlw, fun h => absurd h (by decide)⟩
  have ht20 : ((t : Int) == 200) = false := by simpa using ht200
  go_wp2_with fail
  with_reducible refine (HC.out _ hT1.low).mono ?_
  rintro e wC ⟨A3, c3, Q3, d3, rfl, hOA, hOQ, hap, bC⟩
  have hT2 := hT1.below bC
  have hz2 := bC.size
  clear s0 s1 s2 s3 sl
  have hq1 : 0 < qs.length := by rw [← Hqn.out]; omega
  obtain ⟨y3, hy3⟩ : ∃ z, z = wC.alloc (.cells #[.int .i64 l, .slice A3 n c3, .slice Q3 q d3, .int .i64 t] 86) := ⟨_, rfl⟩
  obtain ⟨ob, hob⟩ : ∃ z, z = wC.heap.size := ⟨_, rfl⟩
  have hal := (Below.refl wC.heap.size wC).alloc (Nat.le_refl _) (.cells #[.int .i64 l, .slice A3 n c3, .slice Q3 q d3, .int .i64 t] 86)
  have hT3 := hT2.below hal
  have hOA3 := own_keep hOA hal (Nat.le_refl _)
  have hOQ3 := own_keep hOQ hal (Nat.le_refl _)
  have hB3 := Bk.new wC 86 #[.int .i64 l, .slice A3 n c3, .slice Q3 q d3, .int .i64 t]
  have hz3 : w.heap.size + 2 ≤ wC.heap.size := hT2.size
  rw [← hy3] at hT3 hOA3 hOQ3 hB3
  rw [← hob] at hB3 hz3
  have hw1s : w.heap.size + 2 ≤ w1.heap.size := hT1.size
  clear hT1 hT2 hal hOA hOQ bC hz2
  have HT3 := Lib.hid hT3
  clear hT3
  have HOA3 := Lib.hid hOA3
  clear hOA3
  have HOQ3 := Lib.hid hOQ3
  clear hOQ3
  have HB3 := Lib.hid hB3
  clear hB3
  have Hap := Lib.hid hap
  clear hap
  have Hy3 := Lib.hid hy3
  clear hy3
  have Hob := Lib.hid hob
  clear hob
  go_wp2_with fail
  try rw [← Hy3.out]
  try rw [← Hob.out]
  obtain ⟨b, o, rfl, hbl, p0, p1⟩ := rd_Rule Hq.out hq1
  simp only [Nat.zero_mul, Nat.add_zero] at p0 p1
  obtain ⟨⟨v0, v1⟩, hv⟩ : ∃ v, v = qs[0] := ⟨_, rfl⟩
  rw [← hv] at p0 p1
  have hwv := heq (v0, v1) (by rw [hv]; exact List.getElem_mem hq1)
  dsimp only at p0 p1 hwv
  have hTr := fun (s : ByteArray) (hs : wordOk l s = true) (y : World) (h2 : Below w.heap.size w y) => specTrace_any l A n c rs s y (Hr.out.keep h2) Hn.out hb Hz.out (by have := wordOk_16 hs; omega) hsy (val4_le hs)
  have hq0p : 0 < q := by omega
  have hE3 : TrSt w y3 w1.heap.size ob #[.int .i64 l, .slice A n c, .slice (some ⟨b, o, none⟩) q cq, .int .i64 t] #[.int .i64 0, .slice none 0 0, .slice none 0 0, .int .i64 0] l A3 n c3 rs Q3 q d3 qs t := ⟨HT3.out, HB3.out, HOA3.out, HOQ3.out⟩
  clear HT3 HB3 HOA3 HOQ3
  have Hv := Lib.hid hv
  clear hv
  have Hwv := Lib.hid hwv
  clear hwv
  have HTr := Lib.hid hTr
  clear hTr
  have HE3 := Lib.hid hE3
  clear hE3
  refine wp_region_held_drew (S := (fun W => W.cell? ⟨w.heap.size, 0, none⟩ = some (.int .i64 l) ∧ W.cell? ⟨w.heap.size, 1, none⟩ = some (.slice A n c) ∧ W.cell? ⟨w.heap.size, 2, none⟩ = some (.slice (some ⟨b, o, none⟩) q cq) ∧ W.cell? ⟨w.heap.size, 3, none⟩ = some (.int .i64 t) ∧ W.cell? ⟨b, o, none⟩ = some (.string v0) ∧ W.cell? ⟨b, o + 1, none⟩ = some (.string v1))) (by kernel_rfl) ((by have hp := (HE3.out.below (Below.refl _ _).drew).T.b1; have hlo := (HE3.out.below (Below.refl _ _).drew).T.low; exact ⟨by rw [hp.cell]; rfl, by rw [hp.cell]; rfl, by rw [hp.cell]; rfl, by rw [hp.cell]; rfl, (hlo.cell (p := ⟨b, o, none⟩) hbl).trans p0, (hlo.cell (p := ⟨b, o + 1, none⟩) hbl).trans p1⟩)) (fun hHeld => ?_)
  obtain ⟨y41, hy⟩ : ∃ z, z = World.drew y3 := ⟨_, rfl⟩
  have hE41 : TrSt w y41 w1.heap.size ob #[.int .i64 l, .slice A n c, .slice (some ⟨b, o, none⟩) q cq, .int .i64 t] #[.int .i64 0, .slice none 0 0, .slice none 0 0, .int .i64 0] l A3 n c3 rs Q3 q d3 qs t := by rw [hy]; exact HE3.out.below (Below.refl _ _).drew
  rw [← hy] at hHeld
  rw [← hy]
  clear hy HE3
  refine wpAnyH_take (i := 0) (oi := ?oi193) (v := ?val193) ?hi193 ?hs193 ?hf193 ?hr193 ?hQ193 ?hy193 ?hS193 ?hrest193
  case hi193 => (simp only [List.getElem?_toArray, List.getElem?_cons_succ, List.getElem?_cons_zero] <;> exact rfl)
  case hs193 => kernel_rfl
  case hf193 => kernel_rfl
  case hr193 => kernel_rfl
  case hQ193 => exact fun _ _ _ h => h
  case hS193 => assumption
  case hy193 => (refine Or.inl ⟨by rfl, ?_⟩; intro w hSw; (try dsimp only at hSw); obtain ⟨z0, z1, z2, z3, z4, z5⟩ := hSw; go_simp; try with_reducible rfl)
  simp only [Act.put, List.setIfInBounds_toArray, List.set_cons_zero, List.set_cons_succ]
  refine wpAnyH_take (i := 1) (oi := ?oi202) (v := ?val202) ?hi202 ?hs202 ?hf202 ?hr202 ?hQ202 ?hy202 ?hS202 ?hrest202
  case hi202 => (simp only [List.getElem?_toArray, List.getElem?_cons_succ, List.getElem?_cons_zero] <;> exact rfl)
  case hs202 => kernel_rfl
  case hf202 => kernel_rfl
  case hr202 => kernel_rfl
  case hQ202 => exact fun _ _ _ h => h
  case hS202 => assumption
  case hy202 => (refine Or.inl ⟨by rfl, ?_⟩; intro w hSw; (try dsimp only at hSw); obtain ⟨z0, z1, z2, z3, z4, z5⟩ := hSw; go_simp; try with_reducible rfl)
  simp only [Act.put, List.setIfInBounds_toArray, List.set_cons_zero, List.set_cons_succ]
  refine wpAnyH_take (i := 2) (oi := ?oi211) (v := ?val211) ?hi211 ?hs211 ?hf211 ?hr211 ?hQ211 ?hy211 ?hS211 ?hrest211
  case hi211 => (simp only [List.getElem?_toArray, List.getElem?_cons_succ, List.getElem?_cons_zero] <;> exact rfl)
  case hs211 => kernel_rfl
  case hf211 => kernel_rfl
  case hr211 => kernel_rfl
  case hQ211 => exact fun _ _ _ h => h
  case hS211 => assumption
  case hy211 => (refine Or.inl ⟨by rfl, ?_⟩; intro w hSw; (try dsimp only at hSw); obtain ⟨z0, z1, z2, z3, z4, z5⟩ := hSw; go_simp; try with_reducible rfl)
  simp only [Act.put, List.setIfInBounds_toArray, List.set_cons_zero, List.set_cons_succ]
  refine wpAnyH_take (i := 3) (oi := ?oi220) (v := ?val220) ?hi220 ?hs220 ?hf220 ?hr220 ?hQ220 ?hy220 ?hS220 ?hrest220
  case hi220 => (simp only [List.getElem?_toArray, List.getElem?_cons_succ, List.getElem?_cons_zero] <;> exact rfl)
  case hs220 => kernel_rfl
  case hf220 => kernel_rfl
  case hr220 => kernel_rfl
  case hQ220 => exact fun _ _ _ h => h
  case hS220 => assumption
  case hy220 => (refine Or.inl ⟨by rfl, ?_⟩; intro w hSw; (try dsimp only at hSw); obtain ⟨z0, z1, z2, z3, z4, z5⟩ := hSw; go_simp; try with_reducible rfl)
  simp only [Act.put, List.setIfInBounds_toArray, List.set_cons_zero, List.set_cons_succ]
  refine wpAnyH_take (i := 4) (oi := ?oi229) (v := ?val229) ?hi229 ?hs229 ?hf229 ?hr229 ?hQ229 ?hy229 ?hS229 ?hrest229
  case hi229 => (simp only [List.getElem?_toArray, List.getElem?_cons_succ, List.getElem?_cons_zero] <;> exact rfl)
  case hs229 => kernel_rfl
  case hf229 => kernel_rfl
  case hr229 => kernel_rfl
  case hQ229 => exact fun _ _ _ h => h
  case hS229 => assumption
  case hy229 => (refine Or.inl ⟨by rfl, ?_⟩; intro w hSw; (try dsimp only at hSw); obtain ⟨z0, z1, z2, z3, z4, z5⟩ := hSw; go_simp; try with_reducible rfl)
  simp only [Act.put, List.setIfInBounds_toArray, List.set_cons_zero, List.set_cons_succ]
  refine wpAnyH_take (i := 5) (oi := ?oi238) (v := ?val238) ?hi238 ?hs238 ?hf238 ?hr238 ?hQ238 ?hy238 ?hS238 ?hrest238
  case hi238 => (simp only [List.getElem?_toArray, List.getElem?_cons_succ, List.getElem?_cons_zero] <;> exact rfl)
  case hs238 => kernel_rfl
  case hf238 => kernel_rfl
  case hr238 => kernel_rfl
  case hQ238 => exact fun _ _ _ h => h
  case hS238 => assumption
  case hy238 => (refine Or.inl ⟨by rfl, ?_⟩; intro w hSw; (try dsimp only at hSw); obtain ⟨z0, z1, z2, z3, z4, z5⟩ := hSw; go_simp; try with_reducible rfl)
  simp only [Act.put, List.setIfInBounds_toArray, List.set_cons_zero, List.set_cons_succ]
  refine wpAnyH_take (i := 6) (oi := ?oi247) (v := ?val247) ?hi247 ?hs247 ?hf247 ?hr247 ?hQ247 ?hy247 ?hS247 ?hrest247
  case hi247 => (simp only [List.getElem?_toArray, List.getElem?_cons_succ, List.getElem?_cons_zero] <;> exact rfl)
  case hs247 => kernel_rfl
  case hf247 => kernel_rfl
  case hr247 => kernel_rfl
  case hQ247 => exact fun _ _ _ h => h
  case hS247 => assumption
  case hy247 => (refine Or.inl ⟨by rfl, ?_⟩; intro w hSw; (try dsimp only at hSw); obtain ⟨z0, z1, z2, z3, z4, z5⟩ := hSw; go_simp; try with_reducible rfl)
  simp only [Act.put, List.setIfInBounds_toArray, List.set_cons_zero, List.set_cons_succ]
  refine wpAnyH_ready (rs := [7]) (by kernel_rfl) (by simp) ?_
  refine AllReadyH.cons rfl (fun K hK => ?_) AllReadyH.nil
  (go_simp; (with_reducible refine (HTr.out v0 Hwv.out.1 _ hE41.T.low).mono ?_); rintro e y4 ⟨Bt4, dt4, rfl, -, b5⟩; have hE4 := hE41.below b5; clear b5)
  refine hK.out _ _ ((by have hp := hE4.T.b1; have hlo := hE4.T.low; exact ⟨by rw [hp.cell]; rfl, by rw [hp.cell]; rfl, by rw [hp.cell]; rfl, by rw [hp.cell]; rfl, (hlo.cell (p := ⟨b, o, none⟩) hbl).trans p0, (hlo.cell (p := ⟨b, o + 1, none⟩) hbl).trans p1⟩)) (fun hHeld2 => ?_)
  clear hK K hHeld
  have hHeld := hHeld2
  clear hHeld2
  first | simp only [Act.put, List.setIfInBounds_toArray, List.set_cons_zero, List.set_cons_succ] | skip
  refine wpAnyH_take (i := 8) (oi := ?oi264) (v := ?val264) ?hi264 ?hs264 ?hf264 ?hr264 ?hQ264 ?hy264 ?hS264 ?hrest264
  case hi264 => (simp only [List.getElem?_toArray, List.getElem?_cons_succ, List.getElem?_cons_zero] <;> exact rfl)
  case hs264 => kernel_rfl
  case hf264 => kernel_rfl
  case hr264 => kernel_rfl
  case hQ264 => exact fun _ _ _ h => h
  case hS264 => assumption
  case hy264 => (refine Or.inl ⟨by rfl, ?_⟩; intro w hSw; (try dsimp only at hSw); obtain ⟨z0, z1, z2, z3, z4, z5⟩ := hSw; go_simp; try with_reducible rfl)
  simp only [Act.put, List.setIfInBounds_toArray, List.set_cons_zero, List.set_cons_succ]
  refine wpAnyH_take (i := 9) (oi := ?oi273) (v := ?val273) ?hi273 ?hs273 ?hf273 ?hr273 ?hQ273 ?hy273 ?hS273 ?hrest273
  case hi273 => (simp only [List.getElem?_toArray, List.getElem?_cons_succ, List.getElem?_cons_zero] <;> exact rfl)
  case hs273 => kernel_rfl
  case hf273 => kernel_rfl
  case hr273 => kernel_rfl
  case hQ273 => exact fun _ _ _ h => h
  case hS273 => assumption
  case hy273 => (refine Or.inl ⟨by rfl, ?_⟩; intro w hSw; (try dsimp only at hSw); obtain ⟨z0, z1, z2, z3, z4, z5⟩ := hSw; go_simp; try with_reducible rfl)
  simp only [Act.put, List.setIfInBounds_toArray, List.set_cons_zero, List.set_cons_succ]
  refine wpAnyH_take (i := 10) (oi := ?oi282) (v := ?val282) ?hi282 ?hs282 ?hf282 ?hr282 ?hQ282 ?hy282 ?hS282 ?hrest282
  case hi282 => (simp only [List.getElem?_toArray, List.getElem?_cons_succ, List.getElem?_cons_zero] <;> exact rfl)
  case hs282 => kernel_rfl
  case hf282 => kernel_rfl
  case hr282 => kernel_rfl
  case hQ282 => exact fun _ _ _ h => h
  case hS282 => assumption
  case hy282 => (refine Or.inl ⟨by rfl, ?_⟩; intro w hSw; (try dsimp only at hSw); obtain ⟨z0, z1, z2, z3, z4, z5⟩ := hSw; go_simp; try with_reducible rfl)
  simp only [Act.put, List.setIfInBounds_toArray, List.set_cons_zero, List.set_cons_succ]
  refine wpAnyH_take (i := 11) (oi := ?oi291) (v := ?val291) ?hi291 ?hs291 ?hf291 ?hr291 ?hQ291 ?hy291 ?hS291 ?hrest291
  case hi291 => (simp only [List.getElem?_toArray, List.getElem?_cons_succ, List.getElem?_cons_zero] <;> exact rfl)
  case hs291 => kernel_rfl
  case hf291 => kernel_rfl
  case hr291 => kernel_rfl
  case hQ291 => exact fun _ _ _ h => h
  case hS291 => assumption
  case hy291 => (refine Or.inl ⟨by rfl, ?_⟩; intro w hSw; (try dsimp only at hSw); obtain ⟨z0, z1, z2, z3, z4, z5⟩ := hSw; go_simp; try with_reducible rfl)
  simp only [Act.put, List.setIfInBounds_toArray, List.set_cons_zero, List.set_cons_succ]
  refine wpAnyH_take (i := 12) (oi := ?oi300) (v := ?val300) ?hi300 ?hs300 ?hf300 ?hr300 ?hQ300 ?hy300 ?hS300 ?hrest300
  case hi300 => (simp only [List.getElem?_toArray, List.getElem?_cons_succ, List.getElem?_cons_zero] <;> exact rfl)
  case hs300 => kernel_rfl
  case hf300 => kernel_rfl
  case hr300 => kernel_rfl
  case hQ300 => exact fun _ _ _ h => h
  case hS300 => assumption
  case hy300 => (refine Or.inl ⟨by rfl, ?_⟩; intro w hSw; (try dsimp only at hSw); obtain ⟨z0, z1, z2, z3, z4, z5⟩ := hSw; go_simp; try with_reducible rfl)
  simp only [Act.put, List.setIfInBounds_toArray, List.set_cons_zero, List.set_cons_succ]
  refine wpAnyH_done (by kernel_rfl) ?_ _
  clear hHeld hE41
  have HE4 := Lib.hid hE4
  clear hE4
  try go_wp2_with fail
  refine wp_region_held_drew (S := (fun W => W.cell? ⟨w.heap.size, 0, none⟩ = some (.int .i64 l) ∧ W.cell? ⟨w.heap.size, 1, none⟩ = some (.slice A n c) ∧ W.cell? ⟨w.heap.size, 2, none⟩ = some (.slice (some ⟨b, o, none⟩) q cq) ∧ W.cell? ⟨w.heap.size, 3, none⟩ = some (.int .i64 t) ∧ W.cell? ⟨b, o, none⟩ = some (.string v0) ∧ W.cell? ⟨b, o + 1, none⟩ = some (.string v1))) (by kernel_rfl) ((by have hp := (HE4.out.below (Below.refl _ _).drew).T.b1; have hlo := (HE4.out.below (Below.refl _ _).drew).T.low; exact ⟨by rw [hp.cell]; rfl, by rw [hp.cell]; rfl, by rw [hp.cell]; rfl, by rw [hp.cell]; rfl, (hlo.cell (p := ⟨b, o, none⟩) hbl).trans p0, (hlo.cell (p := ⟨b, o + 1, none⟩) hbl).trans p1⟩)) (fun hHeld => ?_)
  obtain ⟨y51, hy⟩ : ∃ z, z = World.drew y4 := ⟨_, rfl⟩
  have hE51 : TrSt w y51 w1.heap.size ob #[.int .i64 l, .slice A n c, .slice (some ⟨b, o, none⟩) q cq, .int .i64 t] #[.int .i64 0, .slice none 0 0, .slice none 0 0, .int .i64 0] l A3 n c3 rs Q3 q d3 qs t := by rw [hy]; exact HE4.out.below (Below.refl _ _).drew
  rw [← hy] at hHeld
  rw [← hy]
  clear hy HE4
  refine wpAnyH_take (i := 0) (oi := ?oi320) (v := ?val320) ?hi320 ?hs320 ?hf320 ?hr320 ?hQ320 ?hy320 ?hS320 ?hrest320
  case hi320 => (simp only [List.getElem?_toArray, List.getElem?_cons_succ, List.getElem?_cons_zero] <;> exact rfl)
  case hs320 => kernel_rfl
  case hf320 => kernel_rfl
  case hr320 => kernel_rfl
  case hQ320 => exact fun _ _ _ h => h
  case hS320 => assumption
  case hy320 => (refine Or.inl ⟨by rfl, ?_⟩; intro w hSw; (try dsimp only at hSw); obtain ⟨z0, z1, z2, z3, z4, z5⟩ := hSw; go_simp; try with_reducible rfl)
  simp only [Act.put, List.setIfInBounds_toArray, List.set_cons_zero, List.set_cons_succ]
  refine wpAnyH_take (i := 1) (oi := ?oi329) (v := ?val329) ?hi329 ?hs329 ?hf329 ?hr329 ?hQ329 ?hy329 ?hS329 ?hrest329
  case hi329 => (simp only [List.getElem?_toArray, List.getElem?_cons_succ, List.getElem?_cons_zero] <;> exact rfl)
  case hs329 => kernel_rfl
  case hf329 => kernel_rfl
  case hr329 => kernel_rfl
  case hQ329 => exact fun _ _ _ h => h
  case hS329 => assumption
  case hy329 => (refine Or.inl ⟨by rfl, ?_⟩; intro w hSw; (try dsimp only at hSw); obtain ⟨z0, z1, z2, z3, z4, z5⟩ := hSw; go_simp; try with_reducible rfl)
  simp only [Act.put, List.setIfInBounds_toArray, List.set_cons_zero, List.set_cons_succ]
  refine wpAnyH_take (i := 2) (oi := ?oi338) (v := ?val338) ?hi338 ?hs338 ?hf338 ?hr338 ?hQ338 ?hy338 ?hS338 ?hrest338
  case hi338 => (simp only [List.getElem?_toArray, List.getElem?_cons_succ, List.getElem?_cons_zero] <;> exact rfl)
  case hs338 => kernel_rfl
  case hf338 => kernel_rfl
  case hr338 => kernel_rfl
  case hQ338 => exact fun _ _ _ h => h
  case hS338 => assumption
  case hy338 => (refine Or.inl ⟨by rfl, ?_⟩; intro w hSw; (try dsimp only at hSw); obtain ⟨z0, z1, z2, z3, z4, z5⟩ := hSw; go_simp; try with_reducible rfl)
  simp only [Act.put, List.setIfInBounds_toArray, List.set_cons_zero, List.set_cons_succ]
  refine wpAnyH_take (i := 3) (oi := ?oi347) (v := ?val347) ?hi347 ?hs347 ?hf347 ?hr347 ?hQ347 ?hy347 ?hS347 ?hrest347
  case hi347 => (simp only [List.getElem?_toArray, List.getElem?_cons_succ, List.getElem?_cons_zero] <;> exact rfl)
  case hs347 => kernel_rfl
  case hf347 => kernel_rfl
  case hr347 => kernel_rfl
  case hQ347 => exact fun _ _ _ h => h
  case hS347 => assumption
  case hy347 => (refine Or.inl ⟨by rfl, ?_⟩; intro w hSw; (try dsimp only at hSw); obtain ⟨z0, z1, z2, z3, z4, z5⟩ := hSw; go_simp; try with_reducible rfl)
  simp only [Act.put, List.setIfInBounds_toArray, List.set_cons_zero, List.set_cons_succ]
  refine wpAnyH_take (i := 4) (oi := ?oi356) (v := ?val356) ?hi356 ?hs356 ?hf356 ?hr356 ?hQ356 ?hy356 ?hS356 ?hrest356
  case hi356 => (simp only [List.getElem?_toArray, List.getElem?_cons_succ, List.getElem?_cons_zero] <;> exact rfl)
  case hs356 => kernel_rfl
  case hf356 => kernel_rfl
  case hr356 => kernel_rfl
  case hQ356 => exact fun _ _ _ h => h
  case hS356 => assumption
  case hy356 => (refine Or.inl ⟨by rfl, ?_⟩; intro w hSw; (try dsimp only at hSw); obtain ⟨z0, z1, z2, z3, z4, z5⟩ := hSw; go_simp; try with_reducible rfl)
  simp only [Act.put, List.setIfInBounds_toArray, List.set_cons_zero, List.set_cons_succ]
  refine wpAnyH_take (i := 5) (oi := ?oi365) (v := ?val365) ?hi365 ?hs365 ?hf365 ?hr365 ?hQ365 ?hy365 ?hS365 ?hrest365
  case hi365 => (simp only [List.getElem?_toArray, List.getElem?_cons_succ, List.getElem?_cons_zero] <;> exact rfl)
  case hs365 => kernel_rfl
  case hf365 => kernel_rfl
  case hr365 => kernel_rfl
  case hQ365 => exact fun _ _ _ h => h
  case hS365 => assumption
  case hy365 => (refine Or.inl ⟨by rfl, ?_⟩; intro w hSw; (try dsimp only at hSw); obtain ⟨z0, z1, z2, z3, z4, z5⟩ := hSw; go_simp; try with_reducible rfl)
  simp only [Act.put, List.setIfInBounds_toArray, List.set_cons_zero, List.set_cons_succ]
  refine wpAnyH_take (i := 6) (oi := ?oi374) (v := ?val374) ?hi374 ?hs374 ?hf374 ?hr374 ?hQ374 ?hy374 ?hS374 ?hrest374
  case hi374 => (simp only [List.getElem?_toArray, List.getElem?_cons_succ, List.getElem?_cons_zero] <;> exact rfl)
  case hs374 => kernel_rfl
  case hf374 => kernel_rfl
  case hr374 => kernel_rfl
  case hQ374 => exact fun _ _ _ h => h
  case hS374 => assumption
  case hy374 => (refine Or.inl ⟨by rfl, ?_⟩; intro w hSw; (try dsimp only at hSw); obtain ⟨z0, z1, z2, z3, z4, z5⟩ := hSw; go_simp; try with_reducible rfl)
  simp only [Act.put, List.setIfInBounds_toArray, List.set_cons_zero, List.set_cons_succ]
  refine wpAnyH_ready (rs := [7]) (by kernel_rfl) (by simp) ?_
  refine AllReadyH.cons rfl (fun K hK => ?_) AllReadyH.nil
  (go_simp; (with_reducible refine (HTr.out v1 Hwv.out.2 _ hE51.T.low).mono ?_); rintro e y5 ⟨Bt5, dt5, rfl, -, b5⟩; have hE5 := hE51.below b5; clear b5)
  refine hK.out _ _ ((by have hp := hE5.T.b1; have hlo := hE5.T.low; exact ⟨by rw [hp.cell]; rfl, by rw [hp.cell]; rfl, by rw [hp.cell]; rfl, by rw [hp.cell]; rfl, (hlo.cell (p := ⟨b, o, none⟩) hbl).trans p0, (hlo.cell (p := ⟨b, o + 1, none⟩) hbl).trans p1⟩)) (fun hHeld2 => ?_)
  clear hK K hHeld
  have hHeld := hHeld2
  clear hHeld2
  first | simp only [Act.put, List.setIfInBounds_toArray, List.set_cons_zero, List.set_cons_succ] | skip
  refine wpAnyH_take (i := 8) (oi := ?oi391) (v := ?val391) ?hi391 ?hs391 ?hf391 ?hr391 ?hQ391 ?hy391 ?hS391 ?hrest391
  case hi391 => (simp only [List.getElem?_toArray, List.getElem?_cons_succ, List.getElem?_cons_zero] <;> exact rfl)
  case hs391 => kernel_rfl
  case hf391 => kernel_rfl
  case hr391 => kernel_rfl
  case hQ391 => exact fun _ _ _ h => h
  case hS391 => assumption
  case hy391 => (refine Or.inl ⟨by rfl, ?_⟩; intro w hSw; (try dsimp only at hSw); obtain ⟨z0, z1, z2, z3, z4, z5⟩ := hSw; go_simp; try with_reducible rfl)
  simp only [Act.put, List.setIfInBounds_toArray, List.set_cons_zero, List.set_cons_succ]
  refine wpAnyH_take (i := 9) (oi := ?oi400) (v := ?val400) ?hi400 ?hs400 ?hf400 ?hr400 ?hQ400 ?hy400 ?hS400 ?hrest400
  case hi400 => (simp only [List.getElem?_toArray, List.getElem?_cons_succ, List.getElem?_cons_zero] <;> exact rfl)
  case hs400 => kernel_rfl
  case hf400 => kernel_rfl
  case hr400 => kernel_rfl
  case hQ400 => exact fun _ _ _ h => h
  case hS400 => assumption
  case hy400 => (refine Or.inl ⟨by rfl, ?_⟩; intro w hSw; (try dsimp only at hSw); obtain ⟨z0, z1, z2, z3, z4, z5⟩ := hSw; go_simp; try with_reducible rfl)
  simp only [Act.put, List.setIfInBounds_toArray, List.set_cons_zero, List.set_cons_succ]
  refine wpAnyH_take (i := 10) (oi := ?oi409) (v := ?val409) ?hi409 ?hs409 ?hf409 ?hr409 ?hQ409 ?hy409 ?hS409 ?hrest409
  case hi409 => (simp only [List.getElem?_toArray, List.getElem?_cons_succ, List.getElem?_cons_zero] <;> exact rfl)
  case hs409 => kernel_rfl
  case hf409 => kernel_rfl
  case hr409 => kernel_rfl
  case hQ409 => exact fun _ _ _ h => h
  case hS409 => assumption
  case hy409 => (refine Or.inl ⟨by rfl, ?_⟩; intro w hSw; (try dsimp only at hSw); obtain ⟨z0, z1, z2, z3, z4, z5⟩ := hSw; go_simp; try with_reducible rfl)
  simp only [Act.put, List.setIfInBounds_toArray, List.set_cons_zero, List.set_cons_succ]
  refine wpAnyH_take (i := 11) (oi := ?oi418) (v := ?val418) ?hi418 ?hs418 ?hf418 ?hr418 ?hQ418 ?hy418 ?hS418 ?hrest418
  case hi418 => (simp only [List.getElem?_toArray, List.getElem?_cons_succ, List.getElem?_cons_zero] <;> exact rfl)
  case hs418 => kernel_rfl
  case hf418 => kernel_rfl
  case hr418 => kernel_rfl
  case hQ418 => exact fun _ _ _ h => h
  case hS418 => assumption
  case hy418 => (refine Or.inl ⟨by rfl, ?_⟩; intro w hSw; (try dsimp only at hSw); obtain ⟨z0, z1, z2, z3, z4, z5⟩ := hSw; go_simp; try with_reducible rfl)
  simp only [Act.put, List.setIfInBounds_toArray, List.set_cons_zero, List.set_cons_succ]
  refine wpAnyH_take (i := 12) (oi := ?oi427) (v := ?val427) ?hi427 ?hs427 ?hf427 ?hr427 ?hQ427 ?hy427 ?hS427 ?hrest427
  case hi427 => (simp only [List.getElem?_toArray, List.getElem?_cons_succ, List.getElem?_cons_zero] <;> exact rfl)
  case hs427 => kernel_rfl
  case hf427 => kernel_rfl
  case hr427 => kernel_rfl
  case hQ427 => exact fun _ _ _ h => h
  case hS427 => assumption
  case hy427 => (refine Or.inl ⟨by rfl, ?_⟩; intro w hSw; (try dsimp only at hSw); obtain ⟨z0, z1, z2, z3, z4, z5⟩ := hSw; go_simp; try with_reducible rfl)
  simp only [Act.put, List.setIfInBounds_toArray, List.set_cons_zero, List.set_cons_succ]
  refine wpAnyH_done (by kernel_rfl) ?_ _
  clear hHeld hE51
  obtain ⟨g3, d9, hv3, hg3, hgl3⟩ := hE5.oQ.form (by omega)
  injection hv3 with hv3 _ hd3
  subst hv3 hd3
  obtain ⟨q1, hq1e⟩ : ∃ z, q = z + 1 := ⟨q - 1, by omega⟩
  subst hq1e
  have hM5 := OwnM.of_own hE5.oQ
  obtain ⟨of3, hof, hMc⟩ := hM5.cut
  have m2 : y5.cell? ⟨ob, 2, none⟩ = some (.slice (some ⟨g3, 0, none⟩) (q1 + 1) d3) := by rw [hE5.bo.cell]; rfl
  have m3 : y5.cell? ⟨ob, 3, none⟩ = some (.int .i64 t) := by rw [hE5.bo.cell]; rfl
  have mf2 := hE5.bo.free 2
  have mf3 := hE5.bo.free 3
  have ml := hE5.bo.lt
  have m0 : y5.cell? ⟨ob, 0, none⟩ = some (.int .i64 l) := by rw [hE5.bo.cell]; rfl
  have m1 : y5.cell? ⟨ob, 1, none⟩ = some (.slice A3 n c3) := by rw [hE5.bo.cell]; rfl
  obtain ⟨a4, ha4⟩ : ∃ z, z = normS rs v0 := ⟨_, rfl⟩
  obtain ⟨b4, hb4⟩ : ∃ z, z = normS rs v1 := ⟨_, rfl⟩
  rw [← ha4, ← hb4]
  have hwa := norm_word hsy Hwv.out.1
  have hwb := norm_word hsy Hwv.out.2
  rw [← ha4] at hwa
  rw [← hb4] at hwb
  have hsa := wordOk_16 hwa
  have hsb := wordOk_16 hwb
  have hobw : w.heap.size + 2 ≤ ob := hz3
  have hTE := hE5.T
  have hgo : g3 ≠ ob := fun e9 => own_ne_bk hE5.oQ hE5.bo (by decide) (by rw [← e9]; rfl)
  have hAo : (Value.slice A3 n c3).ownBlock ≠ some ob := own_ne_bk hE5.oA hE5.bo (by decide)
  have hqt : (cellsRule qs).drop 2 = cellsRule qs.tail := cells_tail (v0 := v0) (v1 := v1) Hv.out
  rw [hqt] at hMc
  have hq1t : q1 = qs.tail.length := by rw [List.length_tail, ← Hqn.out]; rfl
  have hwt1 : t + 1 ≤ 200 := by omega
  by_cases hd : d3 = 1
  · subst hd
    have hof0 : of3 = 0 := by simpa using hof.symm
    subst hof0
    have hT6 : TwoB w ((y5.setCell ⟨ob, 2, none⟩ (.slice (some ⟨g3, 0, none⟩) q1 0)).setCell ⟨ob, 3, none⟩ (.int .i64 (t + 1))) 86 86 #[.int .i64 l, .slice A n c, .slice (some ⟨b, o, none⟩) (q1 + 1) cq, .int .i64 t] #[.int .i64 0, .slice none 0 0, .slice none 0 0, .int .i64 0] := ⟨(hTE.b1.far (p := ⟨ob, 2, none⟩) (by dsimp only; omega) _).far (p := ⟨ob, 3, none⟩) (by dsimp only; omega) _, (hTE.b2.far (p := ⟨ob, 2, none⟩) (by dsimp only; omega) _).far (p := ⟨ob, 3, none⟩) (by dsimp only; omega) _, hTE.low.trans (((Below.refl _ _).setCell (p := ⟨ob, 2, none⟩) (by dsimp only; omega) _).setCell (p := ⟨ob, 3, none⟩) (by dsimp only; omega) _), by have := hTE.size; simpa using this⟩
    have hB6 : Bk ((y5.setCell ⟨ob, 2, none⟩ (.slice (some ⟨g3, 0, none⟩) q1 0)).setCell ⟨ob, 3, none⟩ (.int .i64 (t + 1))) ob 86 #[.int .i64 l, .slice A3 n c3, .slice (some ⟨g3, 0, none⟩) q1 0, .int .i64 (t + 1)] := (hE5.bo.put 2 _).put 3 _
    have hA6 := own_far3 (own_far3 hE5.oA (p := ⟨ob, 2, none⟩) hAo (.slice (some ⟨g3, 0, none⟩) q1 0)) (p := ⟨ob, 3, none⟩) hAo (.int .i64 (t + 1))
    have hM6 := (hMc.far (p := ⟨ob, 2, none⟩) hgo (.slice (some ⟨g3, 0, none⟩) q1 0)).far (p := ⟨ob, 3, none⟩) hgo (.int .i64 (t + 1))
    by_cases hab : a4 = b4
    · subst hab
      have k0 : y5.cell? ⟨w.heap.size + 1, 0, none⟩ = some (.int .i64 0) := by rw [hTE.b2.cell]; rfl
      have kf0 := hTE.b2.free 0
      have k1 : y5.cell? ⟨w.heap.size + 1, 1, none⟩ = some (.slice none 0 0) := by rw [hTE.b2.cell]; rfl
      have kf1 := hTE.b2.free 1
      have k2 : y5.cell? ⟨w.heap.size + 1, 2, none⟩ = some (.slice none 0 0) := by rw [hTE.b2.cell]; rfl
      have kf2 := hTE.b2.free 2
      have k3 : y5.cell? ⟨w.heap.size + 1, 3, none⟩ = some (.int .i64 0) := by rw [hTE.b2.cell]; rfl
      have kf3 := hTE.b2.free 3
      have lr := hTE.b2.lt
      have hTP : TurnP l rs qs t rs qs.tail (t + 1) := turn_same hsy heq ht0 (by omega) Hv.out (by rw [← ha4, ← hb4])
      have HT6 := Lib.hid hT6
      clear hT6
      have HB6 := Lib.hid hB6
      clear hB6
      have HA6 := Lib.hid hA6
      clear hA6
      have HM6 := Lib.hid hM6
      clear hM6
      have HTE := Lib.hid hTE
      clear hTE
      have HE5 := Lib.hid hE5
      clear hE5
      have HMc := Lib.hid hMc
      clear hMc
      have HM5 := Lib.hid hM5
      clear hM5
      have HTP := Lib.hid hTP
      clear hTP
      have Ha4 := Lib.hid ha4
      clear ha4
      have Hb4 := Lib.hid hb4
      clear hb4
      have Hof := Lib.hid hof
      clear hof
      have Hq1t := Lib.hid hq1t
      clear hq1t
      go_wp2_with fail
      have hnA : (Value.slice A3 n c3).ownBlock ≠ some (w.heap.size + 1) := by intro e9; have := (HA6.out.lt _ e9).1; omega
      have hnM : g3 ≠ w.heap.size + 1 := by omega
      have hBf := ((((HT6.out.b2.put 0 (.int .i64 l)).put 1 (.slice A3 n c3)).put 2 (.slice (some ⟨g3, 0, none⟩) q1 0)).put 3 (.int .i64 (t + 1)))
      have hAf := (own_far3 (own_far3 (own_far3 (own_far3 HA6.out (p := ⟨w.heap.size + 1, 0, none⟩) hnA (.int .i64 l)) (p := ⟨w.heap.size + 1, 1, none⟩) hnA (.slice A3 n c3)) (p := ⟨w.heap.size + 1, 2, none⟩) hnA (.slice (some ⟨g3, 0, none⟩) q1 0)) (p := ⟨w.heap.size + 1, 3, none⟩) hnA (.int .i64 (t + 1)))
      have hMf := ((((HM6.out.far (p := ⟨w.heap.size + 1, 0, none⟩) hnM (.int .i64 l)).far (p := ⟨w.heap.size + 1, 1, none⟩) hnM (.slice A3 n c3)).far (p := ⟨w.heap.size + 1, 2, none⟩) hnM (.slice (some ⟨g3, 0, none⟩) q1 0)).far (p := ⟨w.heap.size + 1, 3, none⟩) hnM (.int .i64 (t + 1)))
      have hlw := HT6.out.low.trans (((((Below.refl w.heap.size ((y5.setCell ⟨ob, 2, none⟩ (.slice (some ⟨g3, 0, none⟩) q1 0)).setCell ⟨ob, 3, none⟩ (.int .i64 (t + 1)))).setCell (p := ⟨w.heap.size + 1, 0, none⟩) (by dsimp only; omega) (.int .i64 l)).setCell (p := ⟨w.heap.size + 1, 1, none⟩) (by dsimp only; omega) (.slice A3 n c3)).setCell (p := ⟨w.heap.size + 1, 2, none⟩) (by dsimp only; omega) (.slice (some ⟨g3, 0, none⟩) q1 0)).setCell (p := ⟨w.heap.size + 1, 3, none⟩) (by dsimp only; omega) (.int .i64 (t + 1)))
      have q0 := hBf.cell 0
      have q1c := hBf.cell 1
      have q2 := hBf.cell 2
      have q3 := hBf.cell 3
      refine bodyPost_ret (v := .tuple #[.agg #[.int .i64 l, .slice A3 n c3, .slice (some ⟨g3, 0, none⟩) q1 0, .int .i64 (t + 1)], .int .i64 0]) (by simp [results, Tryz.results80, go_sem, q0, q1c, q2, q3]) rfl ?_
      exact ⟨l, A3, n, c3, some ⟨g3, 0, none⟩, q1, 0, (t + 1), 0, rfl, hlw, fun _ _ => ⟨rs, qs.tail, rfl, Hn.out, Hq1t.out, by omega, Rd.of_own hAf, hMf.rd, HTP.out⟩⟩
    · have hab2 : (a4.toList == b4.toList) = false := by rw [str_eq]; simpa using hab
      obtain ⟨y6, hy6⟩ : ∃ z, z = ((y5.setCell ⟨ob, 2, none⟩ (.slice (some ⟨g3, 0, none⟩) q1 0)).setCell ⟨ob, 3, none⟩ (.int .i64 (t + 1))) := ⟨_, rfl⟩
      rw [← hy6] at hT6 hB6 hA6 hM6
      have HT6 := Lib.hid hT6
      clear hT6
      have HB6 := Lib.hid hB6
      clear hB6
      have HA6 := Lib.hid hA6
      clear hA6
      have HM6 := Lib.hid hM6
      clear hM6
      have HTE := Lib.hid hTE
      clear hTE
      have HE5 := Lib.hid hE5
      clear hE5
      have HMc := Lib.hid hMc
      clear hMc
      have HM5 := Lib.hid hM5
      clear hM5
      have Ha4 := Lib.hid ha4
      clear ha4
      have Hb4 := Lib.hid hb4
      clear hb4
      have Hof := Lib.hid hof
      clear hof
      have Hq1t := Lib.hid hq1t
      clear hq1t
      have Hy6 := Lib.hid hy6
      clear hy6
      go_wp2_with fail
      rw [← Hy6.out]
      clear m0 m1 m2 m3 mf2 mf3 ml
      refine (specLess_any a4 b4 _ (by omega) (by omega)).mono ?_
      rintro e y7 ⟨rfl, rfl⟩
      obtain ⟨le, hle⟩ : ∃ z, z = lessW a4 b4 := ⟨_, rfl⟩
      rw [← hle]
      cases le
      · have hnr : newR a4 b4 = (a4, b4) := by rw [newR, ← hle]; rfl
        have Hle := Lib.hid hle
        clear hle
        have Hnr := Lib.hid hnr
        clear hnr
        by_cases h8 : a4.size ≤ 8
        case neg =>
          have s0 : y6.cell? ⟨w.heap.size, 0, none⟩ = some (.int .i64 l) := by rw [HT6.out.b1.cell]; rfl
          have s1 : y6.cell? ⟨w.heap.size, 1, none⟩ = some (.slice A n c) := by rw [HT6.out.b1.cell]; rfl
          have s2 : y6.cell? ⟨w.heap.size, 2, none⟩ = some (.slice (some ⟨b, o, none⟩) (q1 + 1) cq) := by rw [HT6.out.b1.cell]; rfl
          have s3 : y6.cell? ⟨w.heap.size, 3, none⟩ = some (.int .i64 t) := by rw [HT6.out.b1.cell]; rfl
          have sl := HT6.out.b1.lt
          go_wp2_with fail
          with_reducible refine (HC.out _ HT6.out.low).mono ?_
          rintro e wC ⟨A9, c9, Q9, d9, rfl, -, -, -, bC⟩
          have hTC := HT6.out.below bC
          clear bC s0 s1 s2 s3 sl
          have k0 : wC.cell? ⟨w.heap.size + 1, 0, none⟩ = some (.int .i64 0) := by rw [hTC.b2.cell]; rfl
          have kf0 := hTC.b2.free 0
          have k1 : wC.cell? ⟨w.heap.size + 1, 1, none⟩ = some (.slice none 0 0) := by rw [hTC.b2.cell]; rfl
          have kf1 := hTC.b2.free 1
          have k2 : wC.cell? ⟨w.heap.size + 1, 2, none⟩ = some (.slice none 0 0) := by rw [hTC.b2.cell]; rfl
          have kf2 := hTC.b2.free 2
          have k3 : wC.cell? ⟨w.heap.size + 1, 3, none⟩ = some (.int .i64 0) := by rw [hTC.b2.cell]; rfl
          have kf3 := hTC.b2.free 3
          have lr := hTC.b2.lt
          have HTC := Lib.hid hTC
          clear hTC
          go_wp2_with fail
          have hB := ((((HTC.out.b2.put 0 (.int .i64 l)).put 1 (.slice A9 n c9)).put 2 (.slice Q9 (q1 + 1) d9)).put 3 (.int .i64 t))
          have hlw := HTC.out.low.trans (((((Below.refl w.heap.size wC).setCell (p := ⟨w.heap.size + 1, 0, none⟩) (by dsimp only; omega) (.int .i64 l)).setCell (p := ⟨w.heap.size + 1, 1, none⟩) (by dsimp only; omega) (.slice A9 n c9)).setCell (p := ⟨w.heap.size + 1, 2, none⟩) (by dsimp only; omega) (.slice Q9 (q1 + 1) d9)).setCell (p := ⟨w.heap.size + 1, 3, none⟩) (by dsimp only; omega) (.int .i64 t))
          have qc0 := hB.cell 0
          have qc1 := hB.cell 1
          have qc2 := hB.cell 2
          have qc3 := hB.cell 3
          refine bodyPost_ret (v := .tuple #[.agg #[.int .i64 l, .slice A9 n c9, .slice Q9 (q1 + 1) d9, .int .i64 t], .int .i64 1]) (by simp [results, Tryz.results80, go_sem, qc0, qc1, qc2, qc3]) rfl ?_
          exact ⟨l, A9, n, c9, Q9, (q1 + 1), d9, t, 1, rfl, hlw, fun h => absurd h (by decide)⟩
        have s0 : y6.cell? ⟨w.heap.size, 0, none⟩ = some (.int .i64 l) := by rw [HT6.out.b1.cell]; rfl
        have s1 : y6.cell? ⟨w.heap.size, 1, none⟩ = some (.slice A n c) := by rw [HT6.out.b1.cell]; rfl
        have s2 : y6.cell? ⟨w.heap.size, 2, none⟩ = some (.slice (some ⟨b, o, none⟩) (q1 + 1) cq) := by rw [HT6.out.b1.cell]; rfl
        have s3 : y6.cell? ⟨w.heap.size, 3, none⟩ = some (.int .i64 t) := by rw [HT6.out.b1.cell]; rfl
        have sl := HT6.out.b1.lt
        have hxr := new_rule hwa hwb hab (by rw [Hnr.out]; exact h8)
        rw [Hnr.out] at hxr
        have Hxr := Lib.hid hxr
        clear hxr
        go_wp2_with fail
        with_reducible refine (specInsert_any l A n c rs a4 b4 _ (Hr.out.keep HT6.out.low) Hn.out hsy Hxr.out).mono ?_
        rintro e y8 ⟨A8, n8, c8, B8, m8, d8, rfl, hn8, hm8, hrA8, hrB8, b8⟩
        clear s0 s1 s2 s3 sl
        have hT8 := HT6.out.below b8
        have hB8 := HB6.out.below b8 HB6.out.lt
        have hM8 := HM6.out.below b8
        have hal9 := (Below.refl y8.heap.size y8).alloc (Nat.le_refl _) (.cells #[.int .i64 l, .slice A8 n8 c8] 25)
        have hT9 := hT8.below hal9
        have hB9 := hB8.below hal9 hB8.lt
        have hM9 := hM8.below hal9
        have hrA9 := own_keep hrA8 hal9 (Nat.le_refl _)
        have hrB9 := own_keep hrB8 hal9 (Nat.le_refl _)
        have hS9 := Bk.new y8 25 #[.int .i64 l, .slice A8 n8 c8]
        clear hT8 hB8 hM8 hrA8 hrB8 hal9
        have HT9 := Lib.hid hT9
        clear hT9
        have HB9 := Lib.hid hB9
        clear hB9
        have HM9 := Lib.hid hM9
        clear hM9
        have HrA9 := Lib.hid hrA9
        clear hrA9
        have HrB9 := Lib.hid hrB9
        clear hrB9
        have Hn8 := Lib.hid hn8
        clear hn8
        have Hm8 := Lib.hid hm8
        clear hm8
        have HS9 := Lib.hid hS9
        clear hS9
        by_cases h12 : n8 ≤ 12
        case neg =>
          have s0 : (y8.alloc (.cells #[.int .i64 l, .slice A8 n8 c8] 25)).cell? ⟨w.heap.size, 0, none⟩ = some (.int .i64 l) := by rw [HT9.out.b1.cell]; rfl
          have s1 : (y8.alloc (.cells #[.int .i64 l, .slice A8 n8 c8] 25)).cell? ⟨w.heap.size, 1, none⟩ = some (.slice A n c) := by rw [HT9.out.b1.cell]; rfl
          have s2 : (y8.alloc (.cells #[.int .i64 l, .slice A8 n8 c8] 25)).cell? ⟨w.heap.size, 2, none⟩ = some (.slice (some ⟨b, o, none⟩) (q1 + 1) cq) := by rw [HT9.out.b1.cell]; rfl
          have s3 : (y8.alloc (.cells #[.int .i64 l, .slice A8 n8 c8] 25)).cell? ⟨w.heap.size, 3, none⟩ = some (.int .i64 t) := by rw [HT9.out.b1.cell]; rfl
          have sl := HT9.out.b1.lt
          go_wp2_with fail
          with_reducible refine (HC.out _ HT9.out.low).mono ?_
          rintro e wC ⟨A9, c9, Q9, d9, rfl, -, -, -, bC⟩
          have hTC := HT9.out.below bC
          clear bC s0 s1 s2 s3 sl
          have k0 : wC.cell? ⟨w.heap.size + 1, 0, none⟩ = some (.int .i64 0) := by rw [hTC.b2.cell]; rfl
          have kf0 := hTC.b2.free 0
          have k1 : wC.cell? ⟨w.heap.size + 1, 1, none⟩ = some (.slice none 0 0) := by rw [hTC.b2.cell]; rfl
          have kf1 := hTC.b2.free 1
          have k2 : wC.cell? ⟨w.heap.size + 1, 2, none⟩ = some (.slice none 0 0) := by rw [hTC.b2.cell]; rfl
          have kf2 := hTC.b2.free 2
          have k3 : wC.cell? ⟨w.heap.size + 1, 3, none⟩ = some (.int .i64 0) := by rw [hTC.b2.cell]; rfl
          have kf3 := hTC.b2.free 3
          have lr := hTC.b2.lt
          have HTC := Lib.hid hTC
          clear hTC
          go_wp2_with fail
          have hB := ((((HTC.out.b2.put 0 (.int .i64 l)).put 1 (.slice A9 n c9)).put 2 (.slice Q9 (q1 + 1) d9)).put 3 (.int .i64 t))
          have hlw := HTC.out.low.trans (((((Below.refl w.heap.size wC).setCell (p := ⟨w.heap.size + 1, 0, none⟩) (by dsimp only; omega) (.int .i64 l)).setCell (p := ⟨w.heap.size + 1, 1, none⟩) (by dsimp only; omega) (.slice A9 n c9)).setCell (p := ⟨w.heap.size + 1, 2, none⟩) (by dsimp only; omega) (.slice Q9 (q1 + 1) d9)).setCell (p := ⟨w.heap.size + 1, 3, none⟩) (by dsimp only; omega) (.int .i64 t))
          have qc0 := hB.cell 0
          have qc1 := hB.cell 1
          have qc2 := hB.cell 2
          have qc3 := hB.cell 3
          refine bodyPost_ret (v := .tuple #[.agg #[.int .i64 l, .slice A9 n c9, .slice Q9 (q1 + 1) d9, .int .i64 t], .int .i64 2]) (by simp [results, Tryz.results80, go_sem, qc0, qc1, qc2, qc3]) rfl ?_
          exact ⟨l, A9, n, c9, Q9, (q1 + 1), d9, t, 2, rfl, hlw, fun h => absurd h (by decide)⟩
        have hlt6 := HB6.out.lt
        have hlm6 := HM6.out.lt
        have hI9 : TrI w (y8.alloc (.cells #[.int .i64 l, .slice A8 n8 c8] 25)) w1.heap.size ob y8.heap.size #[.int .i64 l, .slice A n c, .slice (some ⟨b, o, none⟩) (q1 + 1) cq, .int .i64 t] #[.int .i64 0, .slice none 0 0, .slice none 0 0, .int .i64 0] #[.int .i64 l, .slice A3 n c3, .slice (some ⟨g3, 0, none⟩) q1 0, .int .i64 (t + 1)] l A8 n8 c8 (insL l rs (a4, b4)) y6.heap.size g3 0 q1 0 (cellsRule qs.tail) := ⟨HT9.out, HB9.out, HS9.out, HrA9.out, HM9.out, (fun e9 => by have h9 := (HrA9.out.lt _ e9).1; omega), hobw, hw1s, by omega⟩
        have hI10 : TrI w (((y8.alloc (.cells #[.int .i64 l, .slice A8 n8 c8] 25)).setCell ⟨ob, 0, none⟩ (.int .i64 l)).setCell ⟨ob, 1, none⟩ (.slice A8 n8 c8)) w1.heap.size ob y8.heap.size #[.int .i64 l, .slice A n c, .slice (some ⟨b, o, none⟩) (q1 + 1) cq, .int .i64 t] #[.int .i64 0, .slice none 0 0, .slice none 0 0, .int .i64 0] #[.int .i64 l, .slice A8 n8 c8, .slice (some ⟨g3, 0, none⟩) q1 0, .int .i64 (t + 1)] l A8 n8 c8 (insL l rs (a4, b4)) y6.heap.size g3 0 q1 0 (cellsRule qs.tail) := (hI9.put 0 (.int .i64 l)).put 1 (.slice A8 n8 c8)
        have o0 : (y8.alloc (.cells #[.int .i64 l, .slice A8 n8 c8] 25)).cell? ⟨ob, 0, none⟩ = some (.int .i64 l) := by rw [hI9.bo.cell]; rfl
        have o1 : (y8.alloc (.cells #[.int .i64 l, .slice A8 n8 c8] 25)).cell? ⟨ob, 1, none⟩ = some (.slice A3 n c3) := by rw [hI9.bo.cell]; rfl
        have o2 : (y8.alloc (.cells #[.int .i64 l, .slice A8 n8 c8] 25)).cell? ⟨ob, 2, none⟩ = some (.slice (some ⟨g3, 0, none⟩) q1 0) := by rw [hI9.bo.cell]; rfl
        have of0 := hI9.bo.free 0
        have of1 := hI9.bo.free 1
        have ol := hI9.bo.lt
        have hrB10 := Rd.of_own (own_far3 (own_far3 HrB9.out (p := ⟨ob, 0, none⟩) (fun e9 => by have h9 := (HrB9.out.lt _ e9).1; dsimp only at h9; omega) (.int .i64 l)) (p := ⟨ob, 1, none⟩) (fun e9 => by have h9 := (HrB9.out.lt _ e9).1; dsimp only at h9; omega) (.slice A8 n8 c8))
        have hm12 : m8 ≤ 12 := by have h9 := rulesOk_12 (sys_rules hsy); rw [Hm8.out]; exact Nat.le_trans (List.length_filter_le _ _) h9
        have hcm8 : (cellsRule (goneL rs (a4, b4))).length = m8 * 2 := by rw [cellsRule_len, Hm8.out]
        have hsy8 : systemOk l (insL l rs (a4, b4)) = true := ins_sys hsy Hxr.out (by rw [← Hn8.out]; exact h12)
        have hTP : TurnP l rs qs t (insL l rs (a4, b4)) (qs.tail ++ goneL rs (a4, b4) ++ pairsQ l (insL l rs (a4, b4))) (t + 1) := turn_new hsy heq (by omega) Hv.out Ha4.out Hb4.out hab Hnr.out h8 (by rw [← Hn8.out]; exact h12)
        have hzW : w1.heap.size ≤ (((y8.alloc (.cells #[.int .i64 l, .slice A8 n8 c8] 25)).setCell ⟨ob, 0, none⟩ (.int .i64 l)).setCell ⟨ob, 1, none⟩ (.slice A8 n8 c8)).heap.size := by have h9 := HT9.out.low.size; have h8 := hI10.oM.lt; have h7 : w1.heap.size ≤ g3 := hI10.oM.1; omega
        have HI9 := Lib.hid hI9
        clear hI9
        have HI10 := Lib.hid hI10
        clear hI10
        have HrB10 := Lib.hid hrB10
        clear hrB10
        have Hcm8 := Lib.hid hcm8
        clear hcm8
        have Hsy8 := Lib.hid hsy8
        clear hsy8
        have HTP := Lib.hid hTP
        clear hTP
        go_wp2_with (at_builtin; go_loud (refine wpList_append_M _ rfl _ _ 23 rfl w1.heap.size 68 2 32 _ Tryz.underlying23 info_Rule rfl (by omega) g3 0 q1 _ 0 rfl HI10.out.oM B8 m8 d8 (cellsRule (goneL rs (a4, b4))) rfl Hcm8.out HrB10.out (one_cell_rules _) (by unfold maxLen; omega) (by omega) hzW ?_; intro g5 of5 c5 y11 hM11 hG11 hat11; have hI11 := HI10.out.app hM11 hG11 hat11; have p2 : y11.cell? ⟨ob, 2, none⟩ = some (.slice (some ⟨g3, 0, none⟩) q1 0) := (by rw [hI11.bo.cell]; rfl); have pf := hI11.bo.free 2; have pl := hI11.bo.lt))
        clear o0 o1 o2 of0 of1 ol p2 pf pl
        obtain ⟨sb, hsb⟩ : ∃ z, z = y8.heap.size := ⟨_, rfl⟩
        obtain ⟨y12, hy12⟩ : ∃ z, z = y11.setCell ⟨ob, 2, none⟩ (.slice (some ⟨g5, of5, none⟩) (q1 + m8) c5) := ⟨_, rfl⟩
        have hI12 : TrI w (y11.setCell ⟨ob, 2, none⟩ (.slice (some ⟨g5, of5, none⟩) (q1 + m8) c5)) w1.heap.size ob y8.heap.size #[.int .i64 l, .slice A n c, .slice (some ⟨b, o, none⟩) (q1 + 1) cq, .int .i64 t] #[.int .i64 0, .slice none 0 0, .slice none 0 0, .int .i64 0] #[.int .i64 l, .slice A8 n8 c8, .slice (some ⟨g5, of5, none⟩) (q1 + m8) c5, .int .i64 (t + 1)] l A8 n8 c8 (insL l rs (a4, b4)) y6.heap.size g5 of5 (q1 + m8) c5 (cellsRule qs.tail ++ cellsRule (goneL rs (a4, b4))) := hI11.put 2 (.slice (some ⟨g5, of5, none⟩) (q1 + m8) c5)
        rw [← hsb, ← hy12] at hI12
        rw [← hy12, ← hsb]
        have hn12 : n8 ≤ 100 := by omega
        have hz8 : ∀ x ∈ (insL l rs (a4, b4)), x.1.size ≤ 1048576 ∧ x.2.size ≤ 1048576 := fun x hx => by obtain ⟨-, -, z8, z9, -⟩ := sys_mem Hsy8.out hx; omega
        have hPq := fun (W : World) (hw : Rd W A8 (cellsRule (insL l rs (a4, b4)))) => specPairsQ_any l A8 n8 c8 (insL l rs (a4, b4)) W hw Hn8.out hn12 hz8
        obtain ⟨pq, hpq⟩ : ∃ z, z = pairsQ l (insL l rs (a4, b4)) := ⟨_, rfl⟩
        rw [← hpq] at hPq
        have hpl : pq.length ≤ 6240 := by rw [hpq]; exact pairsQ_len l _
        have hTP := HTP.out
        rw [← hpq] at hTP
        clear HTP hM11 hG11 hat11 hI11 HI9 HI10 HrB10 hsb hy12
        have HI12 := Lib.hid hI12
        clear hI12
        have HPq := Lib.hid hPq
        clear hPq
        have Hpq := Lib.hid hpq
        clear hpq
        have HTP := Lib.hid hTP
        clear hTP
        have Hz8 := Lib.hid hz8
        clear hz8
        refine wp_region_held_drew (S := (fun W => W.cell? ⟨sb, 0, none⟩ = some (.int .i64 l) ∧ W.cell? ⟨sb, 1, none⟩ = some (.slice A8 n8 c8))) (by kernel_rfl) ((by have hq := (HI12.out.below (Below.refl _ _).drew).bs; exact ⟨by rw [hq.cell]; rfl, by rw [hq.cell]; rfl⟩)) (fun hHeld => ?_)
        obtain ⟨y13, hy⟩ : ∃ z, z = World.drew y12 := ⟨_, rfl⟩
        have hI13 := HI12.out.below (Below.refl _ _).drew
        rw [← hy] at hHeld hI13
        rw [← hy]
        clear hy HI12
        have p2 : y13.cell? ⟨ob, 2, none⟩ = some (.slice (some ⟨g5, of5, none⟩) (q1 + m8) c5) := by rw [hI13.bo.cell]; rfl
        obtain ⟨zb, hzb⟩ : ∃ z, z = y13.heap.size := ⟨_, rfl⟩
        have hRA := Rd.of_own hI13.oA
        have HI13 := Lib.hid hI13
        clear hI13
        have HRA := Lib.hid hRA
        clear hRA
        have Hzb := Lib.hid hzb
        clear hzb
        refine wpAnyH_take (i := 0) (oi := ?oi743) (v := ?val743) ?hi743 ?hs743 ?hf743 ?hr743 ?hQ743 ?hy743 ?hS743 ?hrest743
        case hi743 => (simp only [List.getElem?_toArray, List.getElem?_cons_succ, List.getElem?_cons_zero] <;> exact rfl)
        case hs743 => kernel_rfl
        case hf743 => kernel_rfl
        case hr743 => kernel_rfl
        case hQ743 => exact fun _ _ _ h => h
        case hS743 => assumption
        case hy743 => (refine Or.inl ⟨by rfl, ?_⟩; intro w hSw; (try dsimp only at hSw); obtain ⟨z0, z1⟩ := hSw; go_simp; try with_reducible rfl)
        simp only [Act.put, List.setIfInBounds_toArray, List.set_cons_zero, List.set_cons_succ]
        refine wpAnyH_take (i := 2) (oi := ?oi752) (v := ?val752) ?hi752 ?hs752 ?hf752 ?hr752 ?hQ752 ?hy752 ?hS752 ?hrest752
        case hi752 => (simp only [List.getElem?_toArray, List.getElem?_cons_succ, List.getElem?_cons_zero] <;> exact rfl)
        case hs752 => kernel_rfl
        case hf752 => kernel_rfl
        case hr752 => kernel_rfl
        case hQ752 => exact fun _ _ _ h => h
        case hS752 => assumption
        case hy752 => (refine Or.inl ⟨by rfl, ?_⟩; intro w hSw; (try dsimp only at hSw); obtain ⟨z0, z1⟩ := hSw; go_simp; try with_reducible rfl)
        simp only [Act.put, List.setIfInBounds_toArray, List.set_cons_zero, List.set_cons_succ]
        apply meetQ (F := fun P d y => TrI w y w1.heap.size ob sb #[.int .i64 l, .slice A n c, .slice (some ⟨b, o, none⟩) (q1 + 1) cq, .int .i64 t] #[.int .i64 0, .slice none 0 0, .slice none 0 0, .int .i64 0] #[.int .i64 l, .slice A8 n8 c8, .slice (some ⟨g5, of5, none⟩) (q1 + m8) c5, .int .i64 (t + 1)] l A8 n8 c8 (insL l rs (a4, b4)) y6.heap.size g5 of5 (q1 + m8) c5 (cellsRule qs.tail ++ cellsRule (goneL rs (a4, b4))) ∧ y.ownsRow zb 68 2 (.slice P pq.length d) pq.length (cellsRule pq))
        · intro hkey
          refine wpAnyH_ready (rs := [1, 3]) (by kernel_rfl) (by simp) ?_
          refine AllReadyH.cons rfl (fun K hK => ?_) (AllReadyH.cons rfl (fun K hK => ?_) AllReadyH.nil)
          · skip
            go_simp
            refine hK.out _ _ (by have hq := HI13.out.bs; exact ⟨by rw [hq.cell]; rfl, by rw [hq.cell]; rfl⟩) (fun hHeld => ?_)
            clear hK K
            first | simp only [Act.put, List.setIfInBounds_toArray, List.set_cons_zero, List.set_cons_succ] | skip
            refine wpAnyH_ready (rs := [3]) (by kernel_rfl) (by simp) ?_
            refine AllReadyH.cons rfl (fun K hK => ?_) AllReadyH.nil
            go_simp
            (with_reducible refine (HPq.out _ HRA.out).mono ?_)
            rintro e y14 ⟨P, d, rfl, hO14, b14⟩
            have hI14 := HI13.out.below b14
            refine hK.out _ _ (by have hq := hI14.bs; exact ⟨by rw [hq.cell]; rfl, by rw [hq.cell]; rfl⟩) (fun hHeld => ?_)
            clear hK K
            first | simp only [Act.put, List.setIfInBounds_toArray, List.set_cons_zero, List.set_cons_succ] | skip
            rw [← Hzb.out] at hO14
            exact hkey P d y14 ⟨hI14, hO14⟩
          · skip
            go_simp
            (with_reducible refine (HPq.out _ HRA.out).mono ?_)
            rintro e y14 ⟨P, d, rfl, hO14, b14⟩
            have hI14 := HI13.out.below b14
            refine hK.out _ _ (by have hq := hI14.bs; exact ⟨by rw [hq.cell]; rfl, by rw [hq.cell]; rfl⟩) (fun hHeld => ?_)
            clear hK K
            first | simp only [Act.put, List.setIfInBounds_toArray, List.set_cons_zero, List.set_cons_succ] | skip
            clear p2
            have p2 : y14.cell? ⟨ob, 2, none⟩ = some (.slice (some ⟨g5, of5, none⟩) (q1 + m8) c5) := by rw [hI14.bo.cell]; rfl
            refine wpAnyH_ready (rs := [1]) (by kernel_rfl) (by simp) ?_
            refine AllReadyH.cons rfl (fun K hK => ?_) AllReadyH.nil
            go_simp
            refine hK.out _ _ (by have hq := hI14.bs; exact ⟨by rw [hq.cell]; rfl, by rw [hq.cell]; rfl⟩) (fun hHeld => ?_)
            clear hK K
            first | simp only [Act.put, List.setIfInBounds_toArray, List.set_cons_zero, List.set_cons_succ] | skip
            rw [← Hzb.out] at hO14
            exact hkey P d y14 ⟨hI14, hO14⟩
        intro P14 d14 y14 ⟨hI14, hO14⟩
        clear p2
        have hRP := Rd.of_own hO14
        have hcp : (cellsRule pq).length = pq.length * 2 := cellsRule_len pq
        obtain ⟨np, hnp⟩ : ∃ z, z = pq.length := ⟨_, rfl⟩
        rw [← hnp] at hcp hpl
        rw [← hnp]
        have hz14 : w1.heap.size ≤ y14.heap.size := by have h8 := hI14.oM.lt; have h7 : w1.heap.size ≤ g5 := hI14.oM.1; omega
        have HRP := Lib.hid hRP
        clear hRP
        have Hcp := Lib.hid hcp
        clear hcp
        have Hnp := Lib.hid hnp
        clear hnp
        refine wpAnyH_ready (rs := [4]) (by kernel_rfl) (by simp) ?_
        refine AllReadyH.cons rfl (fun K hK => ?_) AllReadyH.nil
        refine step_append_M y14 rfl _ _ 23 rfl w1.heap.size 68 2 32 _ Tryz.underlying23 info_Rule rfl (by omega) g5 of5 (q1 + m8) (cellsRule qs.tail ++ cellsRule (goneL rs (a4, b4))) c5 rfl hI14.oM P14 np d14 (cellsRule pq) rfl Hcp.out HRP.out (one_cell_rules _) (by unfold maxLen; omega) (by omega) hz14 ?_
        intro g6 of6 c6 y15 hM15 hG15 hat15
        have hI15 := hI14.app hM15 hG15 hat15
        refine hK.out _ _ (by have hq := hI15.bs; exact ⟨by rw [hq.cell]; rfl, by rw [hq.cell]; rfl⟩) (fun hHeld2 => ?_)
        clear hK K
        first | simp only [Act.put, List.setIfInBounds_toArray, List.set_cons_zero, List.set_cons_succ] | skip
        refine wpAnyH_take (i := 5) (oi := ?oi821) (v := ?val821) ?hi821 ?hs821 ?hf821 ?hr821 ?hQ821 ?hy821 ?hS821 ?hrest821
        case hi821 => (simp only [List.getElem?_toArray, List.getElem?_cons_succ, List.getElem?_cons_zero] <;> exact rfl)
        case hs821 => kernel_rfl
        case hf821 => kernel_rfl
        case hr821 => kernel_rfl
        case hQ821 => exact fun _ _ _ h => h
        case hS821 => assumption
        case hy821 => (refine Or.inl ⟨by rfl, ?_⟩; intro w hSw; (try dsimp only at hSw); obtain ⟨z0, z1⟩ := hSw; go_simp; try with_reducible rfl)
        simp only [Act.put, List.setIfInBounds_toArray, List.set_cons_zero, List.set_cons_succ]
        have p3 : y15.cell? ⟨ob, 2, none⟩ = some (.slice (some ⟨g5, of5, none⟩) (q1 + m8) c5) := by rw [hI15.bo.cell]; rfl
        have pf3 := hI15.bo.free 2
        have pl3 := hI15.bo.lt
        obtain ⟨y16, hy16⟩ : ∃ z, z = y15.setCell ⟨ob, 2, none⟩ (.slice (some ⟨g6, of6, none⟩) (q1 + m8 + np) c6) := ⟨_, rfl⟩
        have hI16 : TrI w (y15.setCell ⟨ob, 2, none⟩ (.slice (some ⟨g6, of6, none⟩) (q1 + m8 + np) c6)) w1.heap.size ob sb #[.int .i64 l, .slice A n c, .slice (some ⟨b, o, none⟩) (q1 + 1) cq, .int .i64 t] #[.int .i64 0, .slice none 0 0, .slice none 0 0, .int .i64 0] #[.int .i64 l, .slice A8 n8 c8, .slice (some ⟨g6, of6, none⟩) (q1 + m8 + np) c6, .int .i64 (t + 1)] l A8 n8 c8 (insL l rs (a4, b4)) y6.heap.size g6 of6 (q1 + m8 + np) c6 (cellsRule qs.tail ++ cellsRule (goneL rs (a4, b4)) ++ cellsRule pq) := hI15.put 2 (.slice (some ⟨g6, of6, none⟩) (q1 + m8 + np) c6)
        rw [← hy16] at hI16
        refine wpAnyH_ready (rs := [6]) (by kernel_rfl) (by simp) ?_
        refine AllReadyH.cons rfl (fun K hK => ?_) AllReadyH.nil
        go_simp
        rw [← hy16]
        refine hK.out _ _ (by have hq := hI16.bs; exact ⟨by rw [hq.cell]; rfl, by rw [hq.cell]; rfl⟩) (fun hHeld3 => ?_)
        clear hK K
        first | simp only [Act.put, List.setIfInBounds_toArray, List.set_cons_zero, List.set_cons_succ] | skip
        refine wpAnyH_done (by kernel_rfl) ?_ _
        clear p3 pf3 pl3 hI15 hM15 hG15 hat15 hI14 hO14 hy16
        have HI16 := Lib.hid hI16
        clear hI16
        have o0 : y16.cell? ⟨ob, 0, none⟩ = some (.int .i64 l) := by rw [HI16.out.bo.cell]; rfl
        have o1 : y16.cell? ⟨ob, 1, none⟩ = some (.slice A8 n8 c8) := by rw [HI16.out.bo.cell]; rfl
        have o2 : y16.cell? ⟨ob, 2, none⟩ = some (.slice (some ⟨g6, of6, none⟩) (q1 + m8 + np) c6) := by rw [HI16.out.bo.cell]; rfl
        have o3 : y16.cell? ⟨ob, 3, none⟩ = some (.int .i64 (t + 1)) := by rw [HI16.out.bo.cell]; rfl
        have ol := HI16.out.bo.lt
        by_cases h400 : q1 + m8 + np ≤ 400
        case neg =>
          have s0 : y16.cell? ⟨w.heap.size, 0, none⟩ = some (.int .i64 l) := by rw [HI16.out.T.b1.cell]; rfl
          have s1 : y16.cell? ⟨w.heap.size, 1, none⟩ = some (.slice A n c) := by rw [HI16.out.T.b1.cell]; rfl
          have s2 : y16.cell? ⟨w.heap.size, 2, none⟩ = some (.slice (some ⟨b, o, none⟩) (q1 + 1) cq) := by rw [HI16.out.T.b1.cell]; rfl
          have s3 : y16.cell? ⟨w.heap.size, 3, none⟩ = some (.int .i64 t) := by rw [HI16.out.T.b1.cell]; rfl
          have sl := HI16.out.T.b1.lt
          go_wp2_with fail
          with_reducible refine (HC.out _ HI16.out.T.low).mono ?_
          rintro e wC ⟨A9, c9, Q9, d9, rfl, -, -, -, bC⟩
          have hTC := HI16.out.T.below bC
          clear bC s0 s1 s2 s3 sl
          have k0 : wC.cell? ⟨w.heap.size + 1, 0, none⟩ = some (.int .i64 0) := by rw [hTC.b2.cell]; rfl
          have kf0 := hTC.b2.free 0
          have k1 : wC.cell? ⟨w.heap.size + 1, 1, none⟩ = some (.slice none 0 0) := by rw [hTC.b2.cell]; rfl
          have kf1 := hTC.b2.free 1
          have k2 : wC.cell? ⟨w.heap.size + 1, 2, none⟩ = some (.slice none 0 0) := by rw [hTC.b2.cell]; rfl
          have kf2 := hTC.b2.free 2
          have k3 : wC.cell? ⟨w.heap.size + 1, 3, none⟩ = some (.int .i64 0) := by rw [hTC.b2.cell]; rfl
          have kf3 := hTC.b2.free 3
          have lr := hTC.b2.lt
          have HTC := Lib.hid hTC
          clear hTC
          go_wp2_with fail
          have hB := ((((HTC.out.b2.put 0 (.int .i64 l)).put 1 (.slice A9 n c9)).put 2 (.slice Q9 (q1 + 1) d9)).put 3 (.int .i64 t))
          have hlw := HTC.out.low.trans (((((Below.refl w.heap.size wC).setCell (p := ⟨w.heap.size + 1, 0, none⟩) (by dsimp only; omega) (.int .i64 l)).setCell (p := ⟨w.heap.size + 1, 1, none⟩) (by dsimp only; omega) (.slice A9 n c9)).setCell (p := ⟨w.heap.size + 1, 2, none⟩) (by dsimp only; omega) (.slice Q9 (q1 + 1) d9)).setCell (p := ⟨w.heap.size + 1, 3, none⟩) (by dsimp only; omega) (.int .i64 t))
          have qc0 := hB.cell 0
          have qc1 := hB.cell 1
          have qc2 := hB.cell 2
          have qc3 := hB.cell 3
          refine bodyPost_ret (v := .tuple #[.agg #[.int .i64 l, .slice A9 n c9, .slice Q9 (q1 + 1) d9, .int .i64 t], .int .i64 2]) (by simp [results, Tryz.results80, go_sem, qc0, qc1, qc2, qc3]) rfl ?_
          exact ⟨l, A9, n, c9, Q9, (q1 + 1), d9, t, 2, rfl, hlw, fun h => absurd h (by decide)⟩
        have k0 : y16.cell? ⟨w.heap.size + 1, 0, none⟩ = some (.int .i64 0) := by rw [HI16.out.T.b2.cell]; rfl
        have kf0 := HI16.out.T.b2.free 0
        have k1 : y16.cell? ⟨w.heap.size + 1, 1, none⟩ = some (.slice none 0 0) := by rw [HI16.out.T.b2.cell]; rfl
        have kf1 := HI16.out.T.b2.free 1
        have k2 : y16.cell? ⟨w.heap.size + 1, 2, none⟩ = some (.slice none 0 0) := by rw [HI16.out.T.b2.cell]; rfl
        have kf2 := HI16.out.T.b2.free 2
        have k3 : y16.cell? ⟨w.heap.size + 1, 3, none⟩ = some (.int .i64 0) := by rw [HI16.out.T.b2.cell]; rfl
        have kf3 := HI16.out.T.b2.free 3
        have lr := HI16.out.T.b2.lt
        go_wp2_with fail
        obtain ⟨hBf, hlw, hAf, hMf⟩ := HI16.out.fin (.int .i64 l) (.slice A8 n8 c8) (.slice (some ⟨g6, of6, none⟩) (q1 + m8 + np) c6) (.int .i64 (t + 1))
        have hlen : q1 + m8 + np = (qs.tail ++ goneL rs (a4, b4) ++ pq).length := by rw [List.length_append, List.length_append, ← Hq1t.out, ← Hm8.out, ← Hnp.out]
        have q0 := hBf.cell 0
        have q1c := hBf.cell 1
        have q2 := hBf.cell 2
        have q3 := hBf.cell 3
        refine bodyPost_ret (v := .tuple #[.agg #[.int .i64 l, .slice A8 n8 c8, .slice (some ⟨g6, of6, none⟩) (q1 + m8 + np) c6, .int .i64 (t + 1)], .int .i64 0]) (by simp [results, Tryz.results80, go_sem, q0, q1c, q2, q3]) rfl ?_
        exact ⟨l, A8, n8, c8, some ⟨g6, of6, none⟩, (q1 + m8 + np), c6, (t + 1), 0, rfl, hlw, fun _ _ => ⟨(insL l rs (a4, b4)), qs.tail ++ goneL rs (a4, b4) ++ pq, rfl, Hn8.out, hlen, h400, hAf, by rw [cellsRule_app, cellsRule_app]; exact hMf, HTP.out⟩⟩
      · have hnr : newR a4 b4 = (b4, a4) := by rw [newR, ← hle]; rfl
        have Hle := Lib.hid hle
        clear hle
        have Hnr := Lib.hid hnr
        clear hnr
        go_wp2_with fail
        go_wp2_with fail
        refine (swap_any a4 b4 _).mono ?_
        rintro e w' ⟨rfl, rfl⟩
        by_cases h8 : b4.size ≤ 8
        case neg =>
          have s0 : y6.cell? ⟨w.heap.size, 0, none⟩ = some (.int .i64 l) := by rw [HT6.out.b1.cell]; rfl
          have s1 : y6.cell? ⟨w.heap.size, 1, none⟩ = some (.slice A n c) := by rw [HT6.out.b1.cell]; rfl
          have s2 : y6.cell? ⟨w.heap.size, 2, none⟩ = some (.slice (some ⟨b, o, none⟩) (q1 + 1) cq) := by rw [HT6.out.b1.cell]; rfl
          have s3 : y6.cell? ⟨w.heap.size, 3, none⟩ = some (.int .i64 t) := by rw [HT6.out.b1.cell]; rfl
          have sl := HT6.out.b1.lt
          go_wp2_with fail
          with_reducible refine (HC.out _ HT6.out.low).mono ?_
          rintro e wC ⟨A9, c9, Q9, d9, rfl, -, -, -, bC⟩
          have hTC := HT6.out.below bC
          clear bC s0 s1 s2 s3 sl
          have k0 : wC.cell? ⟨w.heap.size + 1, 0, none⟩ = some (.int .i64 0) := by rw [hTC.b2.cell]; rfl
          have kf0 := hTC.b2.free 0
          have k1 : wC.cell? ⟨w.heap.size + 1, 1, none⟩ = some (.slice none 0 0) := by rw [hTC.b2.cell]; rfl
          have kf1 := hTC.b2.free 1
          have k2 : wC.cell? ⟨w.heap.size + 1, 2, none⟩ = some (.slice none 0 0) := by rw [hTC.b2.cell]; rfl
          have kf2 := hTC.b2.free 2
          have k3 : wC.cell? ⟨w.heap.size + 1, 3, none⟩ = some (.int .i64 0) := by rw [hTC.b2.cell]; rfl
          have kf3 := hTC.b2.free 3
          have lr := hTC.b2.lt
          have HTC := Lib.hid hTC
          clear hTC
          go_wp2_with fail
          have hB := ((((HTC.out.b2.put 0 (.int .i64 l)).put 1 (.slice A9 n c9)).put 2 (.slice Q9 (q1 + 1) d9)).put 3 (.int .i64 t))
          have hlw := HTC.out.low.trans (((((Below.refl w.heap.size wC).setCell (p := ⟨w.heap.size + 1, 0, none⟩) (by dsimp only; omega) (.int .i64 l)).setCell (p := ⟨w.heap.size + 1, 1, none⟩) (by dsimp only; omega) (.slice A9 n c9)).setCell (p := ⟨w.heap.size + 1, 2, none⟩) (by dsimp only; omega) (.slice Q9 (q1 + 1) d9)).setCell (p := ⟨w.heap.size + 1, 3, none⟩) (by dsimp only; omega) (.int .i64 t))
          have qc0 := hB.cell 0
          have qc1 := hB.cell 1
          have qc2 := hB.cell 2
          have qc3 := hB.cell 3
          refine bodyPost_ret (v := .tuple #[.agg #[.int .i64 l, .slice A9 n c9, .slice Q9 (q1 + 1) d9, .int .i64 t], .int .i64 1]) (by simp [results, Tryz.results80, go_sem, qc0, qc1, qc2, qc3]) rfl ?_
          exact ⟨l, A9, n, c9, Q9, (q1 + 1), d9, t, 1, rfl, hlw, fun h => absurd h (by decide)⟩
        have s0 : y6.cell? ⟨w.heap.size, 0, none⟩ = some (.int .i64 l) := by rw [HT6.out.b1.cell]; rfl
        have s1 : y6.cell? ⟨w.heap.size, 1, none⟩ = some (.slice A n c) := by rw [HT6.out.b1.cell]; rfl
        have s2 : y6.cell? ⟨w.heap.size, 2, none⟩ = some (.slice (some ⟨b, o, none⟩) (q1 + 1) cq) := by rw [HT6.out.b1.cell]; rfl
        have s3 : y6.cell? ⟨w.heap.size, 3, none⟩ = some (.int .i64 t) := by rw [HT6.out.b1.cell]; rfl
        have sl := HT6.out.b1.lt
        have hxr := new_rule hwa hwb hab (by rw [Hnr.out]; exact h8)
        rw [Hnr.out] at hxr
        have Hxr := Lib.hid hxr
        clear hxr
        go_wp2_with fail
        with_reducible refine (specInsert_any l A n c rs b4 a4 _ (Hr.out.keep HT6.out.low) Hn.out hsy Hxr.out).mono ?_
        rintro e y8 ⟨A8, n8, c8, B8, m8, d8, rfl, hn8, hm8, hrA8, hrB8, b8⟩
        clear s0 s1 s2 s3 sl
        have hT8 := HT6.out.below b8
        have hB8 := HB6.out.below b8 HB6.out.lt
        have hM8 := HM6.out.below b8
        have hal9 := (Below.refl y8.heap.size y8).alloc (Nat.le_refl _) (.cells #[.int .i64 l, .slice A8 n8 c8] 25)
        have hT9 := hT8.below hal9
        have hB9 := hB8.below hal9 hB8.lt
        have hM9 := hM8.below hal9
        have hrA9 := own_keep hrA8 hal9 (Nat.le_refl _)
        have hrB9 := own_keep hrB8 hal9 (Nat.le_refl _)
        have hS9 := Bk.new y8 25 #[.int .i64 l, .slice A8 n8 c8]
        clear hT8 hB8 hM8 hrA8 hrB8 hal9
        have HT9 := Lib.hid hT9
        clear hT9
        have HB9 := Lib.hid hB9
        clear hB9
        have HM9 := Lib.hid hM9
        clear hM9
        have HrA9 := Lib.hid hrA9
        clear hrA9
        have HrB9 := Lib.hid hrB9
        clear hrB9
        have Hn8 := Lib.hid hn8
        clear hn8
        have Hm8 := Lib.hid hm8
        clear hm8
        have HS9 := Lib.hid hS9
        clear hS9
        by_cases h12 : n8 ≤ 12
        case neg =>
          have s0 : (y8.alloc (.cells #[.int .i64 l, .slice A8 n8 c8] 25)).cell? ⟨w.heap.size, 0, none⟩ = some (.int .i64 l) := by rw [HT9.out.b1.cell]; rfl
          have s1 : (y8.alloc (.cells #[.int .i64 l, .slice A8 n8 c8] 25)).cell? ⟨w.heap.size, 1, none⟩ = some (.slice A n c) := by rw [HT9.out.b1.cell]; rfl
          have s2 : (y8.alloc (.cells #[.int .i64 l, .slice A8 n8 c8] 25)).cell? ⟨w.heap.size, 2, none⟩ = some (.slice (some ⟨b, o, none⟩) (q1 + 1) cq) := by rw [HT9.out.b1.cell]; rfl
          have s3 : (y8.alloc (.cells #[.int .i64 l, .slice A8 n8 c8] 25)).cell? ⟨w.heap.size, 3, none⟩ = some (.int .i64 t) := by rw [HT9.out.b1.cell]; rfl
          have sl := HT9.out.b1.lt
          go_wp2_with fail
          with_reducible refine (HC.out _ HT9.out.low).mono ?_
          rintro e wC ⟨A9, c9, Q9, d9, rfl, -, -, -, bC⟩
          have hTC := HT9.out.below bC
          clear bC s0 s1 s2 s3 sl
          have k0 : wC.cell? ⟨w.heap.size + 1, 0, none⟩ = some (.int .i64 0) := by rw [hTC.b2.cell]; rfl
          have kf0 := hTC.b2.free 0
          have k1 : wC.cell? ⟨w.heap.size + 1, 1, none⟩ = some (.slice none 0 0) := by rw [hTC.b2.cell]; rfl
          have kf1 := hTC.b2.free 1
          have k2 : wC.cell? ⟨w.heap.size + 1, 2, none⟩ = some (.slice none 0 0) := by rw [hTC.b2.cell]; rfl
          have kf2 := hTC.b2.free 2
          have k3 : wC.cell? ⟨w.heap.size + 1, 3, none⟩ = some (.int .i64 0) := by rw [hTC.b2.cell]; rfl
          have kf3 := hTC.b2.free 3
          have lr := hTC.b2.lt
          have HTC := Lib.hid hTC
          clear hTC
          go_wp2_with fail
          have hB := ((((HTC.out.b2.put 0 (.int .i64 l)).put 1 (.slice A9 n c9)).put 2 (.slice Q9 (q1 + 1) d9)).put 3 (.int .i64 t))
          have hlw := HTC.out.low.trans (((((Below.refl w.heap.size wC).setCell (p := ⟨w.heap.size + 1, 0, none⟩) (by dsimp only; omega) (.int .i64 l)).setCell (p := ⟨w.heap.size + 1, 1, none⟩) (by dsimp only; omega) (.slice A9 n c9)).setCell (p := ⟨w.heap.size + 1, 2, none⟩) (by dsimp only; omega) (.slice Q9 (q1 + 1) d9)).setCell (p := ⟨w.heap.size + 1, 3, none⟩) (by dsimp only; omega) (.int .i64 t))
          have qc0 := hB.cell 0
          have qc1 := hB.cell 1
          have qc2 := hB.cell 2
          have qc3 := hB.cell 3
          refine bodyPost_ret (v := .tuple #[.agg #[.int .i64 l, .slice A9 n c9, .slice Q9 (q1 + 1) d9, .int .i64 t], .int .i64 2]) (by simp [results, Tryz.results80, go_sem, qc0, qc1, qc2, qc3]) rfl ?_
          exact ⟨l, A9, n, c9, Q9, (q1 + 1), d9, t, 2, rfl, hlw, fun h => absurd h (by decide)⟩
        have hlt6 := HB6.out.lt
        have hlm6 := HM6.out.lt
        have hI9 : TrI w (y8.alloc (.cells #[.int .i64 l, .slice A8 n8 c8] 25)) w1.heap.size ob y8.heap.size #[.int .i64 l, .slice A n c, .slice (some ⟨b, o, none⟩) (q1 + 1) cq, .int .i64 t] #[.int .i64 0, .slice none 0 0, .slice none 0 0, .int .i64 0] #[.int .i64 l, .slice A3 n c3, .slice (some ⟨g3, 0, none⟩) q1 0, .int .i64 (t + 1)] l A8 n8 c8 (insL l rs (b4, a4)) y6.heap.size g3 0 q1 0 (cellsRule qs.tail) := ⟨HT9.out, HB9.out, HS9.out, HrA9.out, HM9.out, (fun e9 => by have h9 := (HrA9.out.lt _ e9).1; omega), hobw, hw1s, by omega⟩
        have hI10 : TrI w (((y8.alloc (.cells #[.int .i64 l, .slice A8 n8 c8] 25)).setCell ⟨ob, 0, none⟩ (.int .i64 l)).setCell ⟨ob, 1, none⟩ (.slice A8 n8 c8)) w1.heap.size ob y8.heap.size #[.int .i64 l, .slice A n c, .slice (some ⟨b, o, none⟩) (q1 + 1) cq, .int .i64 t] #[.int .i64 0, .slice none 0 0, .slice none 0 0, .int .i64 0] #[.int .i64 l, .slice A8 n8 c8, .slice (some ⟨g3, 0, none⟩) q1 0, .int .i64 (t + 1)] l A8 n8 c8 (insL l rs (b4, a4)) y6.heap.size g3 0 q1 0 (cellsRule qs.tail) := (hI9.put 0 (.int .i64 l)).put 1 (.slice A8 n8 c8)
        have o0 : (y8.alloc (.cells #[.int .i64 l, .slice A8 n8 c8] 25)).cell? ⟨ob, 0, none⟩ = some (.int .i64 l) := by rw [hI9.bo.cell]; rfl
        have o1 : (y8.alloc (.cells #[.int .i64 l, .slice A8 n8 c8] 25)).cell? ⟨ob, 1, none⟩ = some (.slice A3 n c3) := by rw [hI9.bo.cell]; rfl
        have o2 : (y8.alloc (.cells #[.int .i64 l, .slice A8 n8 c8] 25)).cell? ⟨ob, 2, none⟩ = some (.slice (some ⟨g3, 0, none⟩) q1 0) := by rw [hI9.bo.cell]; rfl
        have of0 := hI9.bo.free 0
        have of1 := hI9.bo.free 1
        have ol := hI9.bo.lt
        have hrB10 := Rd.of_own (own_far3 (own_far3 HrB9.out (p := ⟨ob, 0, none⟩) (fun e9 => by have h9 := (HrB9.out.lt _ e9).1; dsimp only at h9; omega) (.int .i64 l)) (p := ⟨ob, 1, none⟩) (fun e9 => by have h9 := (HrB9.out.lt _ e9).1; dsimp only at h9; omega) (.slice A8 n8 c8))
        have hm12 : m8 ≤ 12 := by have h9 := rulesOk_12 (sys_rules hsy); rw [Hm8.out]; exact Nat.le_trans (List.length_filter_le _ _) h9
        have hcm8 : (cellsRule (goneL rs (b4, a4))).length = m8 * 2 := by rw [cellsRule_len, Hm8.out]
        have hsy8 : systemOk l (insL l rs (b4, a4)) = true := ins_sys hsy Hxr.out (by rw [← Hn8.out]; exact h12)
        have hTP : TurnP l rs qs t (insL l rs (b4, a4)) (qs.tail ++ goneL rs (b4, a4) ++ pairsQ l (insL l rs (b4, a4))) (t + 1) := turn_new hsy heq (by omega) Hv.out Ha4.out Hb4.out hab Hnr.out h8 (by rw [← Hn8.out]; exact h12)
        have hzW : w1.heap.size ≤ (((y8.alloc (.cells #[.int .i64 l, .slice A8 n8 c8] 25)).setCell ⟨ob, 0, none⟩ (.int .i64 l)).setCell ⟨ob, 1, none⟩ (.slice A8 n8 c8)).heap.size := by have h9 := HT9.out.low.size; have h8 := hI10.oM.lt; have h7 : w1.heap.size ≤ g3 := hI10.oM.1; omega
        have HI9 := Lib.hid hI9
        clear hI9
        have HI10 := Lib.hid hI10
        clear hI10
        have HrB10 := Lib.hid hrB10
        clear hrB10
        have Hcm8 := Lib.hid hcm8
        clear hcm8
        have Hsy8 := Lib.hid hsy8
        clear hsy8
        have HTP := Lib.hid hTP
        clear hTP
        go_wp2_with (at_builtin; go_loud (refine wpList_append_M _ rfl _ _ 23 rfl w1.heap.size 68 2 32 _ Tryz.underlying23 info_Rule rfl (by omega) g3 0 q1 _ 0 rfl HI10.out.oM B8 m8 d8 (cellsRule (goneL rs (b4, a4))) rfl Hcm8.out HrB10.out (one_cell_rules _) (by unfold maxLen; omega) (by omega) hzW ?_; intro g5 of5 c5 y11 hM11 hG11 hat11; have hI11 := HI10.out.app hM11 hG11 hat11; have p2 : y11.cell? ⟨ob, 2, none⟩ = some (.slice (some ⟨g3, 0, none⟩) q1 0) := (by rw [hI11.bo.cell]; rfl); have pf := hI11.bo.free 2; have pl := hI11.bo.lt))
        clear o0 o1 o2 of0 of1 ol p2 pf pl
        obtain ⟨sb, hsb⟩ : ∃ z, z = y8.heap.size := ⟨_, rfl⟩
        obtain ⟨y12, hy12⟩ : ∃ z, z = y11.setCell ⟨ob, 2, none⟩ (.slice (some ⟨g5, of5, none⟩) (q1 + m8) c5) := ⟨_, rfl⟩
        have hI12 : TrI w (y11.setCell ⟨ob, 2, none⟩ (.slice (some ⟨g5, of5, none⟩) (q1 + m8) c5)) w1.heap.size ob y8.heap.size #[.int .i64 l, .slice A n c, .slice (some ⟨b, o, none⟩) (q1 + 1) cq, .int .i64 t] #[.int .i64 0, .slice none 0 0, .slice none 0 0, .int .i64 0] #[.int .i64 l, .slice A8 n8 c8, .slice (some ⟨g5, of5, none⟩) (q1 + m8) c5, .int .i64 (t + 1)] l A8 n8 c8 (insL l rs (b4, a4)) y6.heap.size g5 of5 (q1 + m8) c5 (cellsRule qs.tail ++ cellsRule (goneL rs (b4, a4))) := hI11.put 2 (.slice (some ⟨g5, of5, none⟩) (q1 + m8) c5)
        rw [← hsb, ← hy12] at hI12
        rw [← hy12, ← hsb]
        have hn12 : n8 ≤ 100 := by omega
        have hz8 : ∀ x ∈ (insL l rs (b4, a4)), x.1.size ≤ 1048576 ∧ x.2.size ≤ 1048576 := fun x hx => by obtain ⟨-, -, z8, z9, -⟩ := sys_mem Hsy8.out hx; omega
        have hPq := fun (W : World) (hw : Rd W A8 (cellsRule (insL l rs (b4, a4)))) => specPairsQ_any l A8 n8 c8 (insL l rs (b4, a4)) W hw Hn8.out hn12 hz8
        obtain ⟨pq, hpq⟩ : ∃ z, z = pairsQ l (insL l rs (b4, a4)) := ⟨_, rfl⟩
        rw [← hpq] at hPq
        have hpl : pq.length ≤ 6240 := by rw [hpq]; exact pairsQ_len l _
        have hTP := HTP.out
        rw [← hpq] at hTP
        clear HTP hM11 hG11 hat11 hI11 HI9 HI10 HrB10 hsb hy12
        have HI12 := Lib.hid hI12
        clear hI12
        have HPq := Lib.hid hPq
        clear hPq
        have Hpq := Lib.hid hpq
        clear hpq
        have HTP := Lib.hid hTP
        clear hTP
        have Hz8 := Lib.hid hz8
        clear hz8
        refine wp_region_held_drew (S := (fun W => W.cell? ⟨sb, 0, none⟩ = some (.int .i64 l) ∧ W.cell? ⟨sb, 1, none⟩ = some (.slice A8 n8 c8))) (by kernel_rfl) ((by have hq := (HI12.out.below (Below.refl _ _).drew).bs; exact ⟨by rw [hq.cell]; rfl, by rw [hq.cell]; rfl⟩)) (fun hHeld => ?_)
        obtain ⟨y13, hy⟩ : ∃ z, z = World.drew y12 := ⟨_, rfl⟩
        have hI13 := HI12.out.below (Below.refl _ _).drew
        rw [← hy] at hHeld hI13
        rw [← hy]
        clear hy HI12
        have p2 : y13.cell? ⟨ob, 2, none⟩ = some (.slice (some ⟨g5, of5, none⟩) (q1 + m8) c5) := by rw [hI13.bo.cell]; rfl
        obtain ⟨zb, hzb⟩ : ∃ z, z = y13.heap.size := ⟨_, rfl⟩
        have hRA := Rd.of_own hI13.oA
        have HI13 := Lib.hid hI13
        clear hI13
        have HRA := Lib.hid hRA
        clear hRA
        have Hzb := Lib.hid hzb
        clear hzb
        refine wpAnyH_take (i := 0) (oi := ?oi1084) (v := ?val1084) ?hi1084 ?hs1084 ?hf1084 ?hr1084 ?hQ1084 ?hy1084 ?hS1084 ?hrest1084
        case hi1084 => (simp only [List.getElem?_toArray, List.getElem?_cons_succ, List.getElem?_cons_zero] <;> exact rfl)
        case hs1084 => kernel_rfl
        case hf1084 => kernel_rfl
        case hr1084 => kernel_rfl
        case hQ1084 => exact fun _ _ _ h => h
        case hS1084 => assumption
        case hy1084 => (refine Or.inl ⟨by rfl, ?_⟩; intro w hSw; (try dsimp only at hSw); obtain ⟨z0, z1⟩ := hSw; go_simp; try with_reducible rfl)
        simp only [Act.put, List.setIfInBounds_toArray, List.set_cons_zero, List.set_cons_succ]
        refine wpAnyH_take (i := 2) (oi := ?oi1093) (v := ?val1093) ?hi1093 ?hs1093 ?hf1093 ?hr1093 ?hQ1093 ?hy1093 ?hS1093 ?hrest1093
        case hi1093 => (simp only [List.getElem?_toArray, List.getElem?_cons_succ, List.getElem?_cons_zero] <;> exact rfl)
        case hs1093 => kernel_rfl
        case hf1093 => kernel_rfl
        case hr1093 => kernel_rfl
        case hQ1093 => exact fun _ _ _ h => h
        case hS1093 => assumption
        case hy1093 => (refine Or.inl ⟨by rfl, ?_⟩; intro w hSw; (try dsimp only at hSw); obtain ⟨z0, z1⟩ := hSw; go_simp; try with_reducible rfl)
        simp only [Act.put, List.setIfInBounds_toArray, List.set_cons_zero, List.set_cons_succ]
        apply meetQ (F := fun P d y => TrI w y w1.heap.size ob sb #[.int .i64 l, .slice A n c, .slice (some ⟨b, o, none⟩) (q1 + 1) cq, .int .i64 t] #[.int .i64 0, .slice none 0 0, .slice none 0 0, .int .i64 0] #[.int .i64 l, .slice A8 n8 c8, .slice (some ⟨g5, of5, none⟩) (q1 + m8) c5, .int .i64 (t + 1)] l A8 n8 c8 (insL l rs (b4, a4)) y6.heap.size g5 of5 (q1 + m8) c5 (cellsRule qs.tail ++ cellsRule (goneL rs (b4, a4))) ∧ y.ownsRow zb 68 2 (.slice P pq.length d) pq.length (cellsRule pq))
        · intro hkey
          refine wpAnyH_ready (rs := [1, 3]) (by kernel_rfl) (by simp) ?_
          refine AllReadyH.cons rfl (fun K hK => ?_) (AllReadyH.cons rfl (fun K hK => ?_) AllReadyH.nil)
          · skip
            go_simp
            refine hK.out _ _ (by have hq := HI13.out.bs; exact ⟨by rw [hq.cell]; rfl, by rw [hq.cell]; rfl⟩) (fun hHeld => ?_)
            clear hK K
            first | simp only [Act.put, List.setIfInBounds_toArray, List.set_cons_zero, List.set_cons_succ] | skip
            refine wpAnyH_ready (rs := [3]) (by kernel_rfl) (by simp) ?_
            refine AllReadyH.cons rfl (fun K hK => ?_) AllReadyH.nil
            go_simp
            (with_reducible refine (HPq.out _ HRA.out).mono ?_)
            rintro e y14 ⟨P, d, rfl, hO14, b14⟩
            have hI14 := HI13.out.below b14
            refine hK.out _ _ (by have hq := hI14.bs; exact ⟨by rw [hq.cell]; rfl, by rw [hq.cell]; rfl⟩) (fun hHeld => ?_)
            clear hK K
            first | simp only [Act.put, List.setIfInBounds_toArray, List.set_cons_zero, List.set_cons_succ] | skip
            rw [← Hzb.out] at hO14
            exact hkey P d y14 ⟨hI14, hO14⟩
          · skip
            go_simp
            (with_reducible refine (HPq.out _ HRA.out).mono ?_)
            rintro e y14 ⟨P, d, rfl, hO14, b14⟩
            have hI14 := HI13.out.below b14
            refine hK.out _ _ (by have hq := hI14.bs; exact ⟨by rw [hq.cell]; rfl, by rw [hq.cell]; rfl⟩) (fun hHeld => ?_)
            clear hK K
            first | simp only [Act.put, List.setIfInBounds_toArray, List.set_cons_zero, List.set_cons_succ] | skip
            clear p2
            have p2 : y14.cell? ⟨ob, 2, none⟩ = some (.slice (some ⟨g5, of5, none⟩) (q1 + m8) c5) := by rw [hI14.bo.cell]; rfl
            refine wpAnyH_ready (rs := [1]) (by kernel_rfl) (by simp) ?_
            refine AllReadyH.cons rfl (fun K hK => ?_) AllReadyH.nil
            go_simp
            refine hK.out _ _ (by have hq := hI14.bs; exact ⟨by rw [hq.cell]; rfl, by rw [hq.cell]; rfl⟩) (fun hHeld => ?_)
            clear hK K
            first | simp only [Act.put, List.setIfInBounds_toArray, List.set_cons_zero, List.set_cons_succ] | skip
            rw [← Hzb.out] at hO14
            exact hkey P d y14 ⟨hI14, hO14⟩
        intro P14 d14 y14 ⟨hI14, hO14⟩
        clear p2
        have hRP := Rd.of_own hO14
        have hcp : (cellsRule pq).length = pq.length * 2 := cellsRule_len pq
        obtain ⟨np, hnp⟩ : ∃ z, z = pq.length := ⟨_, rfl⟩
        rw [← hnp] at hcp hpl
        rw [← hnp]
        have hz14 : w1.heap.size ≤ y14.heap.size := by have h8 := hI14.oM.lt; have h7 : w1.heap.size ≤ g5 := hI14.oM.1; omega
        have HRP := Lib.hid hRP
        clear hRP
        have Hcp := Lib.hid hcp
        clear hcp
        have Hnp := Lib.hid hnp
        clear hnp
        refine wpAnyH_ready (rs := [4]) (by kernel_rfl) (by simp) ?_
        refine AllReadyH.cons rfl (fun K hK => ?_) AllReadyH.nil
        refine step_append_M y14 rfl _ _ 23 rfl w1.heap.size 68 2 32 _ Tryz.underlying23 info_Rule rfl (by omega) g5 of5 (q1 + m8) (cellsRule qs.tail ++ cellsRule (goneL rs (b4, a4))) c5 rfl hI14.oM P14 np d14 (cellsRule pq) rfl Hcp.out HRP.out (one_cell_rules _) (by unfold maxLen; omega) (by omega) hz14 ?_
        intro g6 of6 c6 y15 hM15 hG15 hat15
        have hI15 := hI14.app hM15 hG15 hat15
        refine hK.out _ _ (by have hq := hI15.bs; exact ⟨by rw [hq.cell]; rfl, by rw [hq.cell]; rfl⟩) (fun hHeld2 => ?_)
        clear hK K
        first | simp only [Act.put, List.setIfInBounds_toArray, List.set_cons_zero, List.set_cons_succ] | skip
        refine wpAnyH_take (i := 5) (oi := ?oi1162) (v := ?val1162) ?hi1162 ?hs1162 ?hf1162 ?hr1162 ?hQ1162 ?hy1162 ?hS1162 ?hrest1162
        case hi1162 => (simp only [List.getElem?_toArray, List.getElem?_cons_succ, List.getElem?_cons_zero] <;> exact rfl)
        case hs1162 => kernel_rfl
        case hf1162 => kernel_rfl
        case hr1162 => kernel_rfl
        case hQ1162 => exact fun _ _ _ h => h
        case hS1162 => assumption
        case hy1162 => (refine Or.inl ⟨by rfl, ?_⟩; intro w hSw; (try dsimp only at hSw); obtain ⟨z0, z1⟩ := hSw; go_simp; try with_reducible rfl)
        simp only [Act.put, List.setIfInBounds_toArray, List.set_cons_zero, List.set_cons_succ]
        have p3 : y15.cell? ⟨ob, 2, none⟩ = some (.slice (some ⟨g5, of5, none⟩) (q1 + m8) c5) := by rw [hI15.bo.cell]; rfl
        have pf3 := hI15.bo.free 2
        have pl3 := hI15.bo.lt
        obtain ⟨y16, hy16⟩ : ∃ z, z = y15.setCell ⟨ob, 2, none⟩ (.slice (some ⟨g6, of6, none⟩) (q1 + m8 + np) c6) := ⟨_, rfl⟩
        have hI16 : TrI w (y15.setCell ⟨ob, 2, none⟩ (.slice (some ⟨g6, of6, none⟩) (q1 + m8 + np) c6)) w1.heap.size ob sb #[.int .i64 l, .slice A n c, .slice (some ⟨b, o, none⟩) (q1 + 1) cq, .int .i64 t] #[.int .i64 0, .slice none 0 0, .slice none 0 0, .int .i64 0] #[.int .i64 l, .slice A8 n8 c8, .slice (some ⟨g6, of6, none⟩) (q1 + m8 + np) c6, .int .i64 (t + 1)] l A8 n8 c8 (insL l rs (b4, a4)) y6.heap.size g6 of6 (q1 + m8 + np) c6 (cellsRule qs.tail ++ cellsRule (goneL rs (b4, a4)) ++ cellsRule pq) := hI15.put 2 (.slice (some ⟨g6, of6, none⟩) (q1 + m8 + np) c6)
        rw [← hy16] at hI16
        refine wpAnyH_ready (rs := [6]) (by kernel_rfl) (by simp) ?_
        refine AllReadyH.cons rfl (fun K hK => ?_) AllReadyH.nil
        go_simp
        rw [← hy16]
        refine hK.out _ _ (by have hq := hI16.bs; exact ⟨by rw [hq.cell]; rfl, by rw [hq.cell]; rfl⟩) (fun hHeld3 => ?_)
        clear hK K
        first | simp only [Act.put, List.setIfInBounds_toArray, List.set_cons_zero, List.set_cons_succ] | skip
        refine wpAnyH_done (by kernel_rfl) ?_ _
        clear p3 pf3 pl3 hI15 hM15 hG15 hat15 hI14 hO14 hy16
        have HI16 := Lib.hid hI16
        clear hI16
        have o0 : y16.cell? ⟨ob, 0, none⟩ = some (.int .i64 l) := by rw [HI16.out.bo.cell]; rfl
        have o1 : y16.cell? ⟨ob, 1, none⟩ = some (.slice A8 n8 c8) := by rw [HI16.out.bo.cell]; rfl
        have o2 : y16.cell? ⟨ob, 2, none⟩ = some (.slice (some ⟨g6, of6, none⟩) (q1 + m8 + np) c6) := by rw [HI16.out.bo.cell]; rfl
        have o3 : y16.cell? ⟨ob, 3, none⟩ = some (.int .i64 (t + 1)) := by rw [HI16.out.bo.cell]; rfl
        have ol := HI16.out.bo.lt
        by_cases h400 : q1 + m8 + np ≤ 400
        case neg =>
          have s0 : y16.cell? ⟨w.heap.size, 0, none⟩ = some (.int .i64 l) := by rw [HI16.out.T.b1.cell]; rfl
          have s1 : y16.cell? ⟨w.heap.size, 1, none⟩ = some (.slice A n c) := by rw [HI16.out.T.b1.cell]; rfl
          have s2 : y16.cell? ⟨w.heap.size, 2, none⟩ = some (.slice (some ⟨b, o, none⟩) (q1 + 1) cq) := by rw [HI16.out.T.b1.cell]; rfl
          have s3 : y16.cell? ⟨w.heap.size, 3, none⟩ = some (.int .i64 t) := by rw [HI16.out.T.b1.cell]; rfl
          have sl := HI16.out.T.b1.lt
          go_wp2_with fail
          with_reducible refine (HC.out _ HI16.out.T.low).mono ?_
          rintro e wC ⟨A9, c9, Q9, d9, rfl, -, -, -, bC⟩
          have hTC := HI16.out.T.below bC
          clear bC s0 s1 s2 s3 sl
          have k0 : wC.cell? ⟨w.heap.size + 1, 0, none⟩ = some (.int .i64 0) := by rw [hTC.b2.cell]; rfl
          have kf0 := hTC.b2.free 0
          have k1 : wC.cell? ⟨w.heap.size + 1, 1, none⟩ = some (.slice none 0 0) := by rw [hTC.b2.cell]; rfl
          have kf1 := hTC.b2.free 1
          have k2 : wC.cell? ⟨w.heap.size + 1, 2, none⟩ = some (.slice none 0 0) := by rw [hTC.b2.cell]; rfl
          have kf2 := hTC.b2.free 2
          have k3 : wC.cell? ⟨w.heap.size + 1, 3, none⟩ = some (.int .i64 0) := by rw [hTC.b2.cell]; rfl
          have kf3 := hTC.b2.free 3
          have lr := hTC.b2.lt
          have HTC := Lib.hid hTC
          clear hTC
          go_wp2_with fail
          have hB := ((((HTC.out.b2.put 0 (.int .i64 l)).put 1 (.slice A9 n c9)).put 2 (.slice Q9 (q1 + 1) d9)).put 3 (.int .i64 t))
          have hlw := HTC.out.low.trans (((((Below.refl w.heap.size wC).setCell (p := ⟨w.heap.size + 1, 0, none⟩) (by dsimp only; omega) (.int .i64 l)).setCell (p := ⟨w.heap.size + 1, 1, none⟩) (by dsimp only; omega) (.slice A9 n c9)).setCell (p := ⟨w.heap.size + 1, 2, none⟩) (by dsimp only; omega) (.slice Q9 (q1 + 1) d9)).setCell (p := ⟨w.heap.size + 1, 3, none⟩) (by dsimp only; omega) (.int .i64 t))
          have qc0 := hB.cell 0
          have qc1 := hB.cell 1
          have qc2 := hB.cell 2
          have qc3 := hB.cell 3
          refine bodyPost_ret (v := .tuple #[.agg #[.int .i64 l, .slice A9 n c9, .slice Q9 (q1 + 1) d9, .int .i64 t], .int .i64 2]) (by simp [results, Tryz.results80, go_sem, qc0, qc1, qc2, qc3]) rfl ?_
          exact ⟨l, A9, n, c9, Q9, (q1 + 1), d9, t, 2, rfl, hlw, fun h => absurd h (by decide)⟩
        have k0 : y16.cell? ⟨w.heap.size + 1, 0, none⟩ = some (.int .i64 0) := by rw [HI16.out.T.b2.cell]; rfl
        have kf0 := HI16.out.T.b2.free 0
        have k1 : y16.cell? ⟨w.heap.size + 1, 1, none⟩ = some (.slice none 0 0) := by rw [HI16.out.T.b2.cell]; rfl
        have kf1 := HI16.out.T.b2.free 1
        have k2 : y16.cell? ⟨w.heap.size + 1, 2, none⟩ = some (.slice none 0 0) := by rw [HI16.out.T.b2.cell]; rfl
        have kf2 := HI16.out.T.b2.free 2
        have k3 : y16.cell? ⟨w.heap.size + 1, 3, none⟩ = some (.int .i64 0) := by rw [HI16.out.T.b2.cell]; rfl
        have kf3 := HI16.out.T.b2.free 3
        have lr := HI16.out.T.b2.lt
        go_wp2_with fail
        obtain ⟨hBf, hlw, hAf, hMf⟩ := HI16.out.fin (.int .i64 l) (.slice A8 n8 c8) (.slice (some ⟨g6, of6, none⟩) (q1 + m8 + np) c6) (.int .i64 (t + 1))
        have hlen : q1 + m8 + np = (qs.tail ++ goneL rs (b4, a4) ++ pq).length := by rw [List.length_append, List.length_append, ← Hq1t.out, ← Hm8.out, ← Hnp.out]
        have q0 := hBf.cell 0
        have q1c := hBf.cell 1
        have q2 := hBf.cell 2
        have q3 := hBf.cell 3
        refine bodyPost_ret (v := .tuple #[.agg #[.int .i64 l, .slice A8 n8 c8, .slice (some ⟨g6, of6, none⟩) (q1 + m8 + np) c6, .int .i64 (t + 1)], .int .i64 0]) (by simp [results, Tryz.results80, go_sem, q0, q1c, q2, q3]) rfl ?_
        exact ⟨l, A8, n8, c8, some ⟨g6, of6, none⟩, (q1 + m8 + np), c6, (t + 1), 0, rfl, hlw, fun _ _ => ⟨(insL l rs (b4, a4)), qs.tail ++ goneL rs (b4, a4) ++ pq, rfl, Hn8.out, hlen, h400, hAf, by rw [cellsRule_app, cellsRule_app]; exact hMf, HTP.out⟩⟩
  · have hof0 : of3 = 2 := by rw [if_neg hd] at hof; simpa using hof.symm
    subst hof0
    have hT6 : TwoB w ((y5.setCell ⟨ob, 2, none⟩ (.slice (some ⟨g3, 2, none⟩) q1 (d3 - 1))).setCell ⟨ob, 3, none⟩ (.int .i64 (t + 1))) 86 86 #[.int .i64 l, .slice A n c, .slice (some ⟨b, o, none⟩) (q1 + 1) cq, .int .i64 t] #[.int .i64 0, .slice none 0 0, .slice none 0 0, .int .i64 0] := ⟨(hTE.b1.far (p := ⟨ob, 2, none⟩) (by dsimp only; omega) _).far (p := ⟨ob, 3, none⟩) (by dsimp only; omega) _, (hTE.b2.far (p := ⟨ob, 2, none⟩) (by dsimp only; omega) _).far (p := ⟨ob, 3, none⟩) (by dsimp only; omega) _, hTE.low.trans (((Below.refl _ _).setCell (p := ⟨ob, 2, none⟩) (by dsimp only; omega) _).setCell (p := ⟨ob, 3, none⟩) (by dsimp only; omega) _), by have := hTE.size; simpa using this⟩
    have hB6 : Bk ((y5.setCell ⟨ob, 2, none⟩ (.slice (some ⟨g3, 2, none⟩) q1 (d3 - 1))).setCell ⟨ob, 3, none⟩ (.int .i64 (t + 1))) ob 86 #[.int .i64 l, .slice A3 n c3, .slice (some ⟨g3, 2, none⟩) q1 (d3 - 1), .int .i64 (t + 1)] := (hE5.bo.put 2 _).put 3 _
    have hA6 := own_far3 (own_far3 hE5.oA (p := ⟨ob, 2, none⟩) hAo (.slice (some ⟨g3, 2, none⟩) q1 (d3 - 1))) (p := ⟨ob, 3, none⟩) hAo (.int .i64 (t + 1))
    have hM6 := (hMc.far (p := ⟨ob, 2, none⟩) hgo (.slice (some ⟨g3, 2, none⟩) q1 (d3 - 1))).far (p := ⟨ob, 3, none⟩) hgo (.int .i64 (t + 1))
    by_cases hab : a4 = b4
    · subst hab
      have k0 : y5.cell? ⟨w.heap.size + 1, 0, none⟩ = some (.int .i64 0) := by rw [hTE.b2.cell]; rfl
      have kf0 := hTE.b2.free 0
      have k1 : y5.cell? ⟨w.heap.size + 1, 1, none⟩ = some (.slice none 0 0) := by rw [hTE.b2.cell]; rfl
      have kf1 := hTE.b2.free 1
      have k2 : y5.cell? ⟨w.heap.size + 1, 2, none⟩ = some (.slice none 0 0) := by rw [hTE.b2.cell]; rfl
      have kf2 := hTE.b2.free 2
      have k3 : y5.cell? ⟨w.heap.size + 1, 3, none⟩ = some (.int .i64 0) := by rw [hTE.b2.cell]; rfl
      have kf3 := hTE.b2.free 3
      have lr := hTE.b2.lt
      have hTP : TurnP l rs qs t rs qs.tail (t + 1) := turn_same hsy heq ht0 (by omega) Hv.out (by rw [← ha4, ← hb4])
      have HT6 := Lib.hid hT6
      clear hT6
      have HB6 := Lib.hid hB6
      clear hB6
      have HA6 := Lib.hid hA6
      clear hA6
      have HM6 := Lib.hid hM6
      clear hM6
      have HTE := Lib.hid hTE
      clear hTE
      have HE5 := Lib.hid hE5
      clear hE5
      have HMc := Lib.hid hMc
      clear hMc
      have HM5 := Lib.hid hM5
      clear hM5
      have HTP := Lib.hid hTP
      clear hTP
      have Ha4 := Lib.hid ha4
      clear ha4
      have Hb4 := Lib.hid hb4
      clear hb4
      have Hof := Lib.hid hof
      clear hof
      have Hq1t := Lib.hid hq1t
      clear hq1t
      go_wp2_with fail
      have hnA : (Value.slice A3 n c3).ownBlock ≠ some (w.heap.size + 1) := by intro e9; have := (HA6.out.lt _ e9).1; omega
      have hnM : g3 ≠ w.heap.size + 1 := by omega
      have hBf := ((((HT6.out.b2.put 0 (.int .i64 l)).put 1 (.slice A3 n c3)).put 2 (.slice (some ⟨g3, 2, none⟩) q1 (d3 - 1))).put 3 (.int .i64 (t + 1)))
      have hAf := (own_far3 (own_far3 (own_far3 (own_far3 HA6.out (p := ⟨w.heap.size + 1, 0, none⟩) hnA (.int .i64 l)) (p := ⟨w.heap.size + 1, 1, none⟩) hnA (.slice A3 n c3)) (p := ⟨w.heap.size + 1, 2, none⟩) hnA (.slice (some ⟨g3, 2, none⟩) q1 (d3 - 1))) (p := ⟨w.heap.size + 1, 3, none⟩) hnA (.int .i64 (t + 1)))
      have hMf := ((((HM6.out.far (p := ⟨w.heap.size + 1, 0, none⟩) hnM (.int .i64 l)).far (p := ⟨w.heap.size + 1, 1, none⟩) hnM (.slice A3 n c3)).far (p := ⟨w.heap.size + 1, 2, none⟩) hnM (.slice (some ⟨g3, 2, none⟩) q1 (d3 - 1))).far (p := ⟨w.heap.size + 1, 3, none⟩) hnM (.int .i64 (t + 1)))
      have hlw := HT6.out.low.trans (((((Below.refl w.heap.size ((y5.setCell ⟨ob, 2, none⟩ (.slice (some ⟨g3, 2, none⟩) q1 (d3 - 1))).setCell ⟨ob, 3, none⟩ (.int .i64 (t + 1)))).setCell (p := ⟨w.heap.size + 1, 0, none⟩) (by dsimp only; omega) (.int .i64 l)).setCell (p := ⟨w.heap.size + 1, 1, none⟩) (by dsimp only; omega) (.slice A3 n c3)).setCell (p := ⟨w.heap.size + 1, 2, none⟩) (by dsimp only; omega) (.slice (some ⟨g3, 2, none⟩) q1 (d3 - 1))).setCell (p := ⟨w.heap.size + 1, 3, none⟩) (by dsimp only; omega) (.int .i64 (t + 1)))
      have q0 := hBf.cell 0
      have q1c := hBf.cell 1
      have q2 := hBf.cell 2
      have q3 := hBf.cell 3
      refine bodyPost_ret (v := .tuple #[.agg #[.int .i64 l, .slice A3 n c3, .slice (some ⟨g3, 2, none⟩) q1 (d3 - 1), .int .i64 (t + 1)], .int .i64 0]) (by simp [results, Tryz.results80, go_sem, q0, q1c, q2, q3]) rfl ?_
      exact ⟨l, A3, n, c3, some ⟨g3, 2, none⟩, q1, (d3 - 1), (t + 1), 0, rfl, hlw, fun _ _ => ⟨rs, qs.tail, rfl, Hn.out, Hq1t.out, by omega, Rd.of_own hAf, hMf.rd, HTP.out⟩⟩
    · have hab2 : (a4.toList == b4.toList) = false := by rw [str_eq]; simpa using hab
      obtain ⟨y6, hy6⟩ : ∃ z, z = ((y5.setCell ⟨ob, 2, none⟩ (.slice (some ⟨g3, 2, none⟩) q1 (d3 - 1))).setCell ⟨ob, 3, none⟩ (.int .i64 (t + 1))) := ⟨_, rfl⟩
      rw [← hy6] at hT6 hB6 hA6 hM6
      have HT6 := Lib.hid hT6
      clear hT6
      have HB6 := Lib.hid hB6
      clear hB6
      have HA6 := Lib.hid hA6
      clear hA6
      have HM6 := Lib.hid hM6
      clear hM6
      have HTE := Lib.hid hTE
      clear hTE
      have HE5 := Lib.hid hE5
      clear hE5
      have HMc := Lib.hid hMc
      clear hMc
      have HM5 := Lib.hid hM5
      clear hM5
      have Ha4 := Lib.hid ha4
      clear ha4
      have Hb4 := Lib.hid hb4
      clear hb4
      have Hof := Lib.hid hof
      clear hof
      have Hq1t := Lib.hid hq1t
      clear hq1t
      have Hy6 := Lib.hid hy6
      clear hy6
      go_wp2_with fail
      rw [← Hy6.out]
      clear m0 m1 m2 m3 mf2 mf3 ml
      refine (specLess_any a4 b4 _ (by omega) (by omega)).mono ?_
      rintro e y7 ⟨rfl, rfl⟩
      obtain ⟨le, hle⟩ : ∃ z, z = lessW a4 b4 := ⟨_, rfl⟩
      rw [← hle]
      cases le
      · have hnr : newR a4 b4 = (a4, b4) := by rw [newR, ← hle]; rfl
        have Hle := Lib.hid hle
        clear hle
        have Hnr := Lib.hid hnr
        clear hnr
        by_cases h8 : a4.size ≤ 8
        case neg =>
          have s0 : y6.cell? ⟨w.heap.size, 0, none⟩ = some (.int .i64 l) := by rw [HT6.out.b1.cell]; rfl
          have s1 : y6.cell? ⟨w.heap.size, 1, none⟩ = some (.slice A n c) := by rw [HT6.out.b1.cell]; rfl
          have s2 : y6.cell? ⟨w.heap.size, 2, none⟩ = some (.slice (some ⟨b, o, none⟩) (q1 + 1) cq) := by rw [HT6.out.b1.cell]; rfl
          have s3 : y6.cell? ⟨w.heap.size, 3, none⟩ = some (.int .i64 t) := by rw [HT6.out.b1.cell]; rfl
          have sl := HT6.out.b1.lt
          go_wp2_with fail
          with_reducible refine (HC.out _ HT6.out.low).mono ?_
          rintro e wC ⟨A9, c9, Q9, d9, rfl, -, -, -, bC⟩
          have hTC := HT6.out.below bC
          clear bC s0 s1 s2 s3 sl
          have k0 : wC.cell? ⟨w.heap.size + 1, 0, none⟩ = some (.int .i64 0) := by rw [hTC.b2.cell]; rfl
          have kf0 := hTC.b2.free 0
          have k1 : wC.cell? ⟨w.heap.size + 1, 1, none⟩ = some (.slice none 0 0) := by rw [hTC.b2.cell]; rfl
          have kf1 := hTC.b2.free 1
          have k2 : wC.cell? ⟨w.heap.size + 1, 2, none⟩ = some (.slice none 0 0) := by rw [hTC.b2.cell]; rfl
          have kf2 := hTC.b2.free 2
          have k3 : wC.cell? ⟨w.heap.size + 1, 3, none⟩ = some (.int .i64 0) := by rw [hTC.b2.cell]; rfl
          have kf3 := hTC.b2.free 3
          have lr := hTC.b2.lt
          have HTC := Lib.hid hTC
          clear hTC
          go_wp2_with fail
          have hB := ((((HTC.out.b2.put 0 (.int .i64 l)).put 1 (.slice A9 n c9)).put 2 (.slice Q9 (q1 + 1) d9)).put 3 (.int .i64 t))
          have hlw := HTC.out.low.trans (((((Below.refl w.heap.size wC).setCell (p := ⟨w.heap.size + 1, 0, none⟩) (by dsimp only; omega) (.int .i64 l)).setCell (p := ⟨w.heap.size + 1, 1, none⟩) (by dsimp only; omega) (.slice A9 n c9)).setCell (p := ⟨w.heap.size + 1, 2, none⟩) (by dsimp only; omega) (.slice Q9 (q1 + 1) d9)).setCell (p := ⟨w.heap.size + 1, 3, none⟩) (by dsimp only; omega) (.int .i64 t))
          have qc0 := hB.cell 0
          have qc1 := hB.cell 1
          have qc2 := hB.cell 2
          have qc3 := hB.cell 3
          refine bodyPost_ret (v := .tuple #[.agg #[.int .i64 l, .slice A9 n c9, .slice Q9 (q1 + 1) d9, .int .i64 t], .int .i64 1]) (by simp [results, Tryz.results80, go_sem, qc0, qc1, qc2, qc3]) rfl ?_
          exact ⟨l, A9, n, c9, Q9, (q1 + 1), d9, t, 1, rfl, hlw, fun h => absurd h (by decide)⟩
        have s0 : y6.cell? ⟨w.heap.size, 0, none⟩ = some (.int .i64 l) := by rw [HT6.out.b1.cell]; rfl
        have s1 : y6.cell? ⟨w.heap.size, 1, none⟩ = some (.slice A n c) := by rw [HT6.out.b1.cell]; rfl
        have s2 : y6.cell? ⟨w.heap.size, 2, none⟩ = some (.slice (some ⟨b, o, none⟩) (q1 + 1) cq) := by rw [HT6.out.b1.cell]; rfl
        have s3 : y6.cell? ⟨w.heap.size, 3, none⟩ = some (.int .i64 t) := by rw [HT6.out.b1.cell]; rfl
        have sl := HT6.out.b1.lt
        have hxr := new_rule hwa hwb hab (by rw [Hnr.out]; exact h8)
        rw [Hnr.out] at hxr
        have Hxr := Lib.hid hxr
        clear hxr
        go_wp2_with fail
        with_reducible refine (specInsert_any l A n c rs a4 b4 _ (Hr.out.keep HT6.out.low) Hn.out hsy Hxr.out).mono ?_
        rintro e y8 ⟨A8, n8, c8, B8, m8, d8, rfl, hn8, hm8, hrA8, hrB8, b8⟩
        clear s0 s1 s2 s3 sl
        have hT8 := HT6.out.below b8
        have hB8 := HB6.out.below b8 HB6.out.lt
        have hM8 := HM6.out.below b8
        have hal9 := (Below.refl y8.heap.size y8).alloc (Nat.le_refl _) (.cells #[.int .i64 l, .slice A8 n8 c8] 25)
        have hT9 := hT8.below hal9
        have hB9 := hB8.below hal9 hB8.lt
        have hM9 := hM8.below hal9
        have hrA9 := own_keep hrA8 hal9 (Nat.le_refl _)
        have hrB9 := own_keep hrB8 hal9 (Nat.le_refl _)
        have hS9 := Bk.new y8 25 #[.int .i64 l, .slice A8 n8 c8]
        clear hT8 hB8 hM8 hrA8 hrB8 hal9
        have HT9 := Lib.hid hT9
        clear hT9
        have HB9 := Lib.hid hB9
        clear hB9
        have HM9 := Lib.hid hM9
        clear hM9
        have HrA9 := Lib.hid hrA9
        clear hrA9
        have HrB9 := Lib.hid hrB9
        clear hrB9
        have Hn8 := Lib.hid hn8
        clear hn8
        have Hm8 := Lib.hid hm8
        clear hm8
        have HS9 := Lib.hid hS9
        clear hS9
        by_cases h12 : n8 ≤ 12
        case neg =>
          have s0 : (y8.alloc (.cells #[.int .i64 l, .slice A8 n8 c8] 25)).cell? ⟨w.heap.size, 0, none⟩ = some (.int .i64 l) := by rw [HT9.out.b1.cell]; rfl
          have s1 : (y8.alloc (.cells #[.int .i64 l, .slice A8 n8 c8] 25)).cell? ⟨w.heap.size, 1, none⟩ = some (.slice A n c) := by rw [HT9.out.b1.cell]; rfl
          have s2 : (y8.alloc (.cells #[.int .i64 l, .slice A8 n8 c8] 25)).cell? ⟨w.heap.size, 2, none⟩ = some (.slice (some ⟨b, o, none⟩) (q1 + 1) cq) := by rw [HT9.out.b1.cell]; rfl
          have s3 : (y8.alloc (.cells #[.int .i64 l, .slice A8 n8 c8] 25)).cell? ⟨w.heap.size, 3, none⟩ = some (.int .i64 t) := by rw [HT9.out.b1.cell]; rfl
          have sl := HT9.out.b1.lt
          go_wp2_with fail
          with_reducible refine (HC.out _ HT9.out.low).mono ?_
          rintro e wC ⟨A9, c9, Q9, d9, rfl, -, -, -, bC⟩
          have hTC := HT9.out.below bC
          clear bC s0 s1 s2 s3 sl
          have k0 : wC.cell? ⟨w.heap.size + 1, 0, none⟩ = some (.int .i64 0) := by rw [hTC.b2.cell]; rfl
          have kf0 := hTC.b2.free 0
          have k1 : wC.cell? ⟨w.heap.size + 1, 1, none⟩ = some (.slice none 0 0) := by rw [hTC.b2.cell]; rfl
          have kf1 := hTC.b2.free 1
          have k2 : wC.cell? ⟨w.heap.size + 1, 2, none⟩ = some (.slice none 0 0) := by rw [hTC.b2.cell]; rfl
          have kf2 := hTC.b2.free 2
          have k3 : wC.cell? ⟨w.heap.size + 1, 3, none⟩ = some (.int .i64 0) := by rw [hTC.b2.cell]; rfl
          have kf3 := hTC.b2.free 3
          have lr := hTC.b2.lt
          have HTC := Lib.hid hTC
          clear hTC
          go_wp2_with fail
          have hB := ((((HTC.out.b2.put 0 (.int .i64 l)).put 1 (.slice A9 n c9)).put 2 (.slice Q9 (q1 + 1) d9)).put 3 (.int .i64 t))
          have hlw := HTC.out.low.trans (((((Below.refl w.heap.size wC).setCell (p := ⟨w.heap.size + 1, 0, none⟩) (by dsimp only; omega) (.int .i64 l)).setCell (p := ⟨w.heap.size + 1, 1, none⟩) (by dsimp only; omega) (.slice A9 n c9)).setCell (p := ⟨w.heap.size + 1, 2, none⟩) (by dsimp only; omega) (.slice Q9 (q1 + 1) d9)).setCell (p := ⟨w.heap.size + 1, 3, none⟩) (by dsimp only; omega) (.int .i64 t))
          have qc0 := hB.cell 0
          have qc1 := hB.cell 1
          have qc2 := hB.cell 2
          have qc3 := hB.cell 3
          refine bodyPost_ret (v := .tuple #[.agg #[.int .i64 l, .slice A9 n c9, .slice Q9 (q1 + 1) d9, .int .i64 t], .int .i64 2]) (by simp [results, Tryz.results80, go_sem, qc0, qc1, qc2, qc3]) rfl ?_
          exact ⟨l, A9, n, c9, Q9, (q1 + 1), d9, t, 2, rfl, hlw, fun h => absurd h (by decide)⟩
        have hlt6 := HB6.out.lt
        have hlm6 := HM6.out.lt
        have hI9 : TrI w (y8.alloc (.cells #[.int .i64 l, .slice A8 n8 c8] 25)) w1.heap.size ob y8.heap.size #[.int .i64 l, .slice A n c, .slice (some ⟨b, o, none⟩) (q1 + 1) cq, .int .i64 t] #[.int .i64 0, .slice none 0 0, .slice none 0 0, .int .i64 0] #[.int .i64 l, .slice A3 n c3, .slice (some ⟨g3, 2, none⟩) q1 (d3 - 1), .int .i64 (t + 1)] l A8 n8 c8 (insL l rs (a4, b4)) y6.heap.size g3 2 q1 (d3 - 1) (cellsRule qs.tail) := ⟨HT9.out, HB9.out, HS9.out, HrA9.out, HM9.out, (fun e9 => by have h9 := (HrA9.out.lt _ e9).1; omega), hobw, hw1s, by omega⟩
        have hI10 : TrI w (((y8.alloc (.cells #[.int .i64 l, .slice A8 n8 c8] 25)).setCell ⟨ob, 0, none⟩ (.int .i64 l)).setCell ⟨ob, 1, none⟩ (.slice A8 n8 c8)) w1.heap.size ob y8.heap.size #[.int .i64 l, .slice A n c, .slice (some ⟨b, o, none⟩) (q1 + 1) cq, .int .i64 t] #[.int .i64 0, .slice none 0 0, .slice none 0 0, .int .i64 0] #[.int .i64 l, .slice A8 n8 c8, .slice (some ⟨g3, 2, none⟩) q1 (d3 - 1), .int .i64 (t + 1)] l A8 n8 c8 (insL l rs (a4, b4)) y6.heap.size g3 2 q1 (d3 - 1) (cellsRule qs.tail) := (hI9.put 0 (.int .i64 l)).put 1 (.slice A8 n8 c8)
        have o0 : (y8.alloc (.cells #[.int .i64 l, .slice A8 n8 c8] 25)).cell? ⟨ob, 0, none⟩ = some (.int .i64 l) := by rw [hI9.bo.cell]; rfl
        have o1 : (y8.alloc (.cells #[.int .i64 l, .slice A8 n8 c8] 25)).cell? ⟨ob, 1, none⟩ = some (.slice A3 n c3) := by rw [hI9.bo.cell]; rfl
        have o2 : (y8.alloc (.cells #[.int .i64 l, .slice A8 n8 c8] 25)).cell? ⟨ob, 2, none⟩ = some (.slice (some ⟨g3, 2, none⟩) q1 (d3 - 1)) := by rw [hI9.bo.cell]; rfl
        have of0 := hI9.bo.free 0
        have of1 := hI9.bo.free 1
        have ol := hI9.bo.lt
        have hrB10 := Rd.of_own (own_far3 (own_far3 HrB9.out (p := ⟨ob, 0, none⟩) (fun e9 => by have h9 := (HrB9.out.lt _ e9).1; dsimp only at h9; omega) (.int .i64 l)) (p := ⟨ob, 1, none⟩) (fun e9 => by have h9 := (HrB9.out.lt _ e9).1; dsimp only at h9; omega) (.slice A8 n8 c8))
        have hm12 : m8 ≤ 12 := by have h9 := rulesOk_12 (sys_rules hsy); rw [Hm8.out]; exact Nat.le_trans (List.length_filter_le _ _) h9
        have hcm8 : (cellsRule (goneL rs (a4, b4))).length = m8 * 2 := by rw [cellsRule_len, Hm8.out]
        have hsy8 : systemOk l (insL l rs (a4, b4)) = true := ins_sys hsy Hxr.out (by rw [← Hn8.out]; exact h12)
        have hTP : TurnP l rs qs t (insL l rs (a4, b4)) (qs.tail ++ goneL rs (a4, b4) ++ pairsQ l (insL l rs (a4, b4))) (t + 1) := turn_new hsy heq (by omega) Hv.out Ha4.out Hb4.out hab Hnr.out h8 (by rw [← Hn8.out]; exact h12)
        have hzW : w1.heap.size ≤ (((y8.alloc (.cells #[.int .i64 l, .slice A8 n8 c8] 25)).setCell ⟨ob, 0, none⟩ (.int .i64 l)).setCell ⟨ob, 1, none⟩ (.slice A8 n8 c8)).heap.size := by have h9 := HT9.out.low.size; have h8 := hI10.oM.lt; have h7 : w1.heap.size ≤ g3 := hI10.oM.1; omega
        have HI9 := Lib.hid hI9
        clear hI9
        have HI10 := Lib.hid hI10
        clear hI10
        have HrB10 := Lib.hid hrB10
        clear hrB10
        have Hcm8 := Lib.hid hcm8
        clear hcm8
        have Hsy8 := Lib.hid hsy8
        clear hsy8
        have HTP := Lib.hid hTP
        clear hTP
        go_wp2_with (at_builtin; go_loud (refine wpList_append_M _ rfl _ _ 23 rfl w1.heap.size 68 2 32 _ Tryz.underlying23 info_Rule rfl (by omega) g3 2 q1 _ (d3 - 1) rfl HI10.out.oM B8 m8 d8 (cellsRule (goneL rs (a4, b4))) rfl Hcm8.out HrB10.out (one_cell_rules _) (by unfold maxLen; omega) (by omega) hzW ?_; intro g5 of5 c5 y11 hM11 hG11 hat11; have hI11 := HI10.out.app hM11 hG11 hat11; have p2 : y11.cell? ⟨ob, 2, none⟩ = some (.slice (some ⟨g3, 2, none⟩) q1 (d3 - 1)) := (by rw [hI11.bo.cell]; rfl); have pf := hI11.bo.free 2; have pl := hI11.bo.lt))
        clear o0 o1 o2 of0 of1 ol p2 pf pl
        obtain ⟨sb, hsb⟩ : ∃ z, z = y8.heap.size := ⟨_, rfl⟩
        obtain ⟨y12, hy12⟩ : ∃ z, z = y11.setCell ⟨ob, 2, none⟩ (.slice (some ⟨g5, of5, none⟩) (q1 + m8) c5) := ⟨_, rfl⟩
        have hI12 : TrI w (y11.setCell ⟨ob, 2, none⟩ (.slice (some ⟨g5, of5, none⟩) (q1 + m8) c5)) w1.heap.size ob y8.heap.size #[.int .i64 l, .slice A n c, .slice (some ⟨b, o, none⟩) (q1 + 1) cq, .int .i64 t] #[.int .i64 0, .slice none 0 0, .slice none 0 0, .int .i64 0] #[.int .i64 l, .slice A8 n8 c8, .slice (some ⟨g5, of5, none⟩) (q1 + m8) c5, .int .i64 (t + 1)] l A8 n8 c8 (insL l rs (a4, b4)) y6.heap.size g5 of5 (q1 + m8) c5 (cellsRule qs.tail ++ cellsRule (goneL rs (a4, b4))) := hI11.put 2 (.slice (some ⟨g5, of5, none⟩) (q1 + m8) c5)
        rw [← hsb, ← hy12] at hI12
        rw [← hy12, ← hsb]
        have hn12 : n8 ≤ 100 := by omega
        have hz8 : ∀ x ∈ (insL l rs (a4, b4)), x.1.size ≤ 1048576 ∧ x.2.size ≤ 1048576 := fun x hx => by obtain ⟨-, -, z8, z9, -⟩ := sys_mem Hsy8.out hx; omega
        have hPq := fun (W : World) (hw : Rd W A8 (cellsRule (insL l rs (a4, b4)))) => specPairsQ_any l A8 n8 c8 (insL l rs (a4, b4)) W hw Hn8.out hn12 hz8
        obtain ⟨pq, hpq⟩ : ∃ z, z = pairsQ l (insL l rs (a4, b4)) := ⟨_, rfl⟩
        rw [← hpq] at hPq
        have hpl : pq.length ≤ 6240 := by rw [hpq]; exact pairsQ_len l _
        have hTP := HTP.out
        rw [← hpq] at hTP
        clear HTP hM11 hG11 hat11 hI11 HI9 HI10 HrB10 hsb hy12
        have HI12 := Lib.hid hI12
        clear hI12
        have HPq := Lib.hid hPq
        clear hPq
        have Hpq := Lib.hid hpq
        clear hpq
        have HTP := Lib.hid hTP
        clear hTP
        have Hz8 := Lib.hid hz8
        clear hz8
        refine wp_region_held_drew (S := (fun W => W.cell? ⟨sb, 0, none⟩ = some (.int .i64 l) ∧ W.cell? ⟨sb, 1, none⟩ = some (.slice A8 n8 c8))) (by kernel_rfl) ((by have hq := (HI12.out.below (Below.refl _ _).drew).bs; exact ⟨by rw [hq.cell]; rfl, by rw [hq.cell]; rfl⟩)) (fun hHeld => ?_)
        obtain ⟨y13, hy⟩ : ∃ z, z = World.drew y12 := ⟨_, rfl⟩
        have hI13 := HI12.out.below (Below.refl _ _).drew
        rw [← hy] at hHeld hI13
        rw [← hy]
        clear hy HI12
        have p2 : y13.cell? ⟨ob, 2, none⟩ = some (.slice (some ⟨g5, of5, none⟩) (q1 + m8) c5) := by rw [hI13.bo.cell]; rfl
        obtain ⟨zb, hzb⟩ : ∃ z, z = y13.heap.size := ⟨_, rfl⟩
        have hRA := Rd.of_own hI13.oA
        have HI13 := Lib.hid hI13
        clear hI13
        have HRA := Lib.hid hRA
        clear hRA
        have Hzb := Lib.hid hzb
        clear hzb
        refine wpAnyH_take (i := 0) (oi := ?oi1515) (v := ?val1515) ?hi1515 ?hs1515 ?hf1515 ?hr1515 ?hQ1515 ?hy1515 ?hS1515 ?hrest1515
        case hi1515 => (simp only [List.getElem?_toArray, List.getElem?_cons_succ, List.getElem?_cons_zero] <;> exact rfl)
        case hs1515 => kernel_rfl
        case hf1515 => kernel_rfl
        case hr1515 => kernel_rfl
        case hQ1515 => exact fun _ _ _ h => h
        case hS1515 => assumption
        case hy1515 => (refine Or.inl ⟨by rfl, ?_⟩; intro w hSw; (try dsimp only at hSw); obtain ⟨z0, z1⟩ := hSw; go_simp; try with_reducible rfl)
        simp only [Act.put, List.setIfInBounds_toArray, List.set_cons_zero, List.set_cons_succ]
        refine wpAnyH_take (i := 2) (oi := ?oi1524) (v := ?val1524) ?hi1524 ?hs1524 ?hf1524 ?hr1524 ?hQ1524 ?hy1524 ?hS1524 ?hrest1524
        case hi1524 => (simp only [List.getElem?_toArray, List.getElem?_cons_succ, List.getElem?_cons_zero] <;> exact rfl)
        case hs1524 => kernel_rfl
        case hf1524 => kernel_rfl
        case hr1524 => kernel_rfl
        case hQ1524 => exact fun _ _ _ h => h
        case hS1524 => assumption
        case hy1524 => (refine Or.inl ⟨by rfl, ?_⟩; intro w hSw; (try dsimp only at hSw); obtain ⟨z0, z1⟩ := hSw; go_simp; try with_reducible rfl)
        simp only [Act.put, List.setIfInBounds_toArray, List.set_cons_zero, List.set_cons_succ]
        apply meetQ (F := fun P d y => TrI w y w1.heap.size ob sb #[.int .i64 l, .slice A n c, .slice (some ⟨b, o, none⟩) (q1 + 1) cq, .int .i64 t] #[.int .i64 0, .slice none 0 0, .slice none 0 0, .int .i64 0] #[.int .i64 l, .slice A8 n8 c8, .slice (some ⟨g5, of5, none⟩) (q1 + m8) c5, .int .i64 (t + 1)] l A8 n8 c8 (insL l rs (a4, b4)) y6.heap.size g5 of5 (q1 + m8) c5 (cellsRule qs.tail ++ cellsRule (goneL rs (a4, b4))) ∧ y.ownsRow zb 68 2 (.slice P pq.length d) pq.length (cellsRule pq))
        · intro hkey
          refine wpAnyH_ready (rs := [1, 3]) (by kernel_rfl) (by simp) ?_
          refine AllReadyH.cons rfl (fun K hK => ?_) (AllReadyH.cons rfl (fun K hK => ?_) AllReadyH.nil)
          · skip
            go_simp
            refine hK.out _ _ (by have hq := HI13.out.bs; exact ⟨by rw [hq.cell]; rfl, by rw [hq.cell]; rfl⟩) (fun hHeld => ?_)
            clear hK K
            first | simp only [Act.put, List.setIfInBounds_toArray, List.set_cons_zero, List.set_cons_succ] | skip
            refine wpAnyH_ready (rs := [3]) (by kernel_rfl) (by simp) ?_
            refine AllReadyH.cons rfl (fun K hK => ?_) AllReadyH.nil
            go_simp
            (with_reducible refine (HPq.out _ HRA.out).mono ?_)
            rintro e y14 ⟨P, d, rfl, hO14, b14⟩
            have hI14 := HI13.out.below b14
            refine hK.out _ _ (by have hq := hI14.bs; exact ⟨by rw [hq.cell]; rfl, by rw [hq.cell]; rfl⟩) (fun hHeld => ?_)
            clear hK K
            first | simp only [Act.put, List.setIfInBounds_toArray, List.set_cons_zero, List.set_cons_succ] | skip
            rw [← Hzb.out] at hO14
            exact hkey P d y14 ⟨hI14, hO14⟩
          · skip
            go_simp
            (with_reducible refine (HPq.out _ HRA.out).mono ?_)
            rintro e y14 ⟨P, d, rfl, hO14, b14⟩
            have hI14 := HI13.out.below b14
            refine hK.out _ _ (by have hq := hI14.bs; exact ⟨by rw [hq.cell]; rfl, by rw [hq.cell]; rfl⟩) (fun hHeld => ?_)
            clear hK K
            first | simp only [Act.put, List.setIfInBounds_toArray, List.set_cons_zero, List.set_cons_succ] | skip
            clear p2
            have p2 : y14.cell? ⟨ob, 2, none⟩ = some (.slice (some ⟨g5, of5, none⟩) (q1 + m8) c5) := by rw [hI14.bo.cell]; rfl
            refine wpAnyH_ready (rs := [1]) (by kernel_rfl) (by simp) ?_
            refine AllReadyH.cons rfl (fun K hK => ?_) AllReadyH.nil
            go_simp
            refine hK.out _ _ (by have hq := hI14.bs; exact ⟨by rw [hq.cell]; rfl, by rw [hq.cell]; rfl⟩) (fun hHeld => ?_)
            clear hK K
            first | simp only [Act.put, List.setIfInBounds_toArray, List.set_cons_zero, List.set_cons_succ] | skip
            rw [← Hzb.out] at hO14
            exact hkey P d y14 ⟨hI14, hO14⟩
        intro P14 d14 y14 ⟨hI14, hO14⟩
        clear p2
        have hRP := Rd.of_own hO14
        have hcp : (cellsRule pq).length = pq.length * 2 := cellsRule_len pq
        obtain ⟨np, hnp⟩ : ∃ z, z = pq.length := ⟨_, rfl⟩
        rw [← hnp] at hcp hpl
        rw [← hnp]
        have hz14 : w1.heap.size ≤ y14.heap.size := by have h8 := hI14.oM.lt; have h7 : w1.heap.size ≤ g5 := hI14.oM.1; omega
        have HRP := Lib.hid hRP
        clear hRP
        have Hcp := Lib.hid hcp
        clear hcp
        have Hnp := Lib.hid hnp
        clear hnp
        refine wpAnyH_ready (rs := [4]) (by kernel_rfl) (by simp) ?_
        refine AllReadyH.cons rfl (fun K hK => ?_) AllReadyH.nil
        refine step_append_M y14 rfl _ _ 23 rfl w1.heap.size 68 2 32 _ Tryz.underlying23 info_Rule rfl (by omega) g5 of5 (q1 + m8) (cellsRule qs.tail ++ cellsRule (goneL rs (a4, b4))) c5 rfl hI14.oM P14 np d14 (cellsRule pq) rfl Hcp.out HRP.out (one_cell_rules _) (by unfold maxLen; omega) (by omega) hz14 ?_
        intro g6 of6 c6 y15 hM15 hG15 hat15
        have hI15 := hI14.app hM15 hG15 hat15
        refine hK.out _ _ (by have hq := hI15.bs; exact ⟨by rw [hq.cell]; rfl, by rw [hq.cell]; rfl⟩) (fun hHeld2 => ?_)
        clear hK K
        first | simp only [Act.put, List.setIfInBounds_toArray, List.set_cons_zero, List.set_cons_succ] | skip
        refine wpAnyH_take (i := 5) (oi := ?oi1593) (v := ?val1593) ?hi1593 ?hs1593 ?hf1593 ?hr1593 ?hQ1593 ?hy1593 ?hS1593 ?hrest1593
        case hi1593 => (simp only [List.getElem?_toArray, List.getElem?_cons_succ, List.getElem?_cons_zero] <;> exact rfl)
        case hs1593 => kernel_rfl
        case hf1593 => kernel_rfl
        case hr1593 => kernel_rfl
        case hQ1593 => exact fun _ _ _ h => h
        case hS1593 => assumption
        case hy1593 => (refine Or.inl ⟨by rfl, ?_⟩; intro w hSw; (try dsimp only at hSw); obtain ⟨z0, z1⟩ := hSw; go_simp; try with_reducible rfl)
        simp only [Act.put, List.setIfInBounds_toArray, List.set_cons_zero, List.set_cons_succ]
        have p3 : y15.cell? ⟨ob, 2, none⟩ = some (.slice (some ⟨g5, of5, none⟩) (q1 + m8) c5) := by rw [hI15.bo.cell]; rfl
        have pf3 := hI15.bo.free 2
        have pl3 := hI15.bo.lt
        obtain ⟨y16, hy16⟩ : ∃ z, z = y15.setCell ⟨ob, 2, none⟩ (.slice (some ⟨g6, of6, none⟩) (q1 + m8 + np) c6) := ⟨_, rfl⟩
        have hI16 : TrI w (y15.setCell ⟨ob, 2, none⟩ (.slice (some ⟨g6, of6, none⟩) (q1 + m8 + np) c6)) w1.heap.size ob sb #[.int .i64 l, .slice A n c, .slice (some ⟨b, o, none⟩) (q1 + 1) cq, .int .i64 t] #[.int .i64 0, .slice none 0 0, .slice none 0 0, .int .i64 0] #[.int .i64 l, .slice A8 n8 c8, .slice (some ⟨g6, of6, none⟩) (q1 + m8 + np) c6, .int .i64 (t + 1)] l A8 n8 c8 (insL l rs (a4, b4)) y6.heap.size g6 of6 (q1 + m8 + np) c6 (cellsRule qs.tail ++ cellsRule (goneL rs (a4, b4)) ++ cellsRule pq) := hI15.put 2 (.slice (some ⟨g6, of6, none⟩) (q1 + m8 + np) c6)
        rw [← hy16] at hI16
        refine wpAnyH_ready (rs := [6]) (by kernel_rfl) (by simp) ?_
        refine AllReadyH.cons rfl (fun K hK => ?_) AllReadyH.nil
        go_simp
        rw [← hy16]
        refine hK.out _ _ (by have hq := hI16.bs; exact ⟨by rw [hq.cell]; rfl, by rw [hq.cell]; rfl⟩) (fun hHeld3 => ?_)
        clear hK K
        first | simp only [Act.put, List.setIfInBounds_toArray, List.set_cons_zero, List.set_cons_succ] | skip
        refine wpAnyH_done (by kernel_rfl) ?_ _
        clear p3 pf3 pl3 hI15 hM15 hG15 hat15 hI14 hO14 hy16
        have HI16 := Lib.hid hI16
        clear hI16
        have o0 : y16.cell? ⟨ob, 0, none⟩ = some (.int .i64 l) := by rw [HI16.out.bo.cell]; rfl
        have o1 : y16.cell? ⟨ob, 1, none⟩ = some (.slice A8 n8 c8) := by rw [HI16.out.bo.cell]; rfl
        have o2 : y16.cell? ⟨ob, 2, none⟩ = some (.slice (some ⟨g6, of6, none⟩) (q1 + m8 + np) c6) := by rw [HI16.out.bo.cell]; rfl
        have o3 : y16.cell? ⟨ob, 3, none⟩ = some (.int .i64 (t + 1)) := by rw [HI16.out.bo.cell]; rfl
        have ol := HI16.out.bo.lt
        by_cases h400 : q1 + m8 + np ≤ 400
        case neg =>
          have s0 : y16.cell? ⟨w.heap.size, 0, none⟩ = some (.int .i64 l) := by rw [HI16.out.T.b1.cell]; rfl
          have s1 : y16.cell? ⟨w.heap.size, 1, none⟩ = some (.slice A n c) := by rw [HI16.out.T.b1.cell]; rfl
          have s2 : y16.cell? ⟨w.heap.size, 2, none⟩ = some (.slice (some ⟨b, o, none⟩) (q1 + 1) cq) := by rw [HI16.out.T.b1.cell]; rfl
          have s3 : y16.cell? ⟨w.heap.size, 3, none⟩ = some (.int .i64 t) := by rw [HI16.out.T.b1.cell]; rfl
          have sl := HI16.out.T.b1.lt
          go_wp2_with fail
          with_reducible refine (HC.out _ HI16.out.T.low).mono ?_
          rintro e wC ⟨A9, c9, Q9, d9, rfl, -, -, -, bC⟩
          have hTC := HI16.out.T.below bC
          clear bC s0 s1 s2 s3 sl
          have k0 : wC.cell? ⟨w.heap.size + 1, 0, none⟩ = some (.int .i64 0) := by rw [hTC.b2.cell]; rfl
          have kf0 := hTC.b2.free 0
          have k1 : wC.cell? ⟨w.heap.size + 1, 1, none⟩ = some (.slice none 0 0) := by rw [hTC.b2.cell]; rfl
          have kf1 := hTC.b2.free 1
          have k2 : wC.cell? ⟨w.heap.size + 1, 2, none⟩ = some (.slice none 0 0) := by rw [hTC.b2.cell]; rfl
          have kf2 := hTC.b2.free 2
          have k3 : wC.cell? ⟨w.heap.size + 1, 3, none⟩ = some (.int .i64 0) := by rw [hTC.b2.cell]; rfl
          have kf3 := hTC.b2.free 3
          have lr := hTC.b2.lt
          have HTC := Lib.hid hTC
          clear hTC
          go_wp2_with fail
          have hB := ((((HTC.out.b2.put 0 (.int .i64 l)).put 1 (.slice A9 n c9)).put 2 (.slice Q9 (q1 + 1) d9)).put 3 (.int .i64 t))
          have hlw := HTC.out.low.trans (((((Below.refl w.heap.size wC).setCell (p := ⟨w.heap.size + 1, 0, none⟩) (by dsimp only; omega) (.int .i64 l)).setCell (p := ⟨w.heap.size + 1, 1, none⟩) (by dsimp only; omega) (.slice A9 n c9)).setCell (p := ⟨w.heap.size + 1, 2, none⟩) (by dsimp only; omega) (.slice Q9 (q1 + 1) d9)).setCell (p := ⟨w.heap.size + 1, 3, none⟩) (by dsimp only; omega) (.int .i64 t))
          have qc0 := hB.cell 0
          have qc1 := hB.cell 1
          have qc2 := hB.cell 2
          have qc3 := hB.cell 3
          refine bodyPost_ret (v := .tuple #[.agg #[.int .i64 l, .slice A9 n c9, .slice Q9 (q1 + 1) d9, .int .i64 t], .int .i64 2]) (by simp [results, Tryz.results80, go_sem, qc0, qc1, qc2, qc3]) rfl ?_
          exact ⟨l, A9, n, c9, Q9, (q1 + 1), d9, t, 2, rfl, hlw, fun h => absurd h (by decide)⟩
        have k0 : y16.cell? ⟨w.heap.size + 1, 0, none⟩ = some (.int .i64 0) := by rw [HI16.out.T.b2.cell]; rfl
        have kf0 := HI16.out.T.b2.free 0
        have k1 : y16.cell? ⟨w.heap.size + 1, 1, none⟩ = some (.slice none 0 0) := by rw [HI16.out.T.b2.cell]; rfl
        have kf1 := HI16.out.T.b2.free 1
        have k2 : y16.cell? ⟨w.heap.size + 1, 2, none⟩ = some (.slice none 0 0) := by rw [HI16.out.T.b2.cell]; rfl
        have kf2 := HI16.out.T.b2.free 2
        have k3 : y16.cell? ⟨w.heap.size + 1, 3, none⟩ = some (.int .i64 0) := by rw [HI16.out.T.b2.cell]; rfl
        have kf3 := HI16.out.T.b2.free 3
        have lr := HI16.out.T.b2.lt
        go_wp2_with fail
        obtain ⟨hBf, hlw, hAf, hMf⟩ := HI16.out.fin (.int .i64 l) (.slice A8 n8 c8) (.slice (some ⟨g6, of6, none⟩) (q1 + m8 + np) c6) (.int .i64 (t + 1))
        have hlen : q1 + m8 + np = (qs.tail ++ goneL rs (a4, b4) ++ pq).length := by rw [List.length_append, List.length_append, ← Hq1t.out, ← Hm8.out, ← Hnp.out]
        have q0 := hBf.cell 0
        have q1c := hBf.cell 1
        have q2 := hBf.cell 2
        have q3 := hBf.cell 3
        refine bodyPost_ret (v := .tuple #[.agg #[.int .i64 l, .slice A8 n8 c8, .slice (some ⟨g6, of6, none⟩) (q1 + m8 + np) c6, .int .i64 (t + 1)], .int .i64 0]) (by simp [results, Tryz.results80, go_sem, q0, q1c, q2, q3]) rfl ?_
        exact ⟨l, A8, n8, c8, some ⟨g6, of6, none⟩, (q1 + m8 + np), c6, (t + 1), 0, rfl, hlw, fun _ _ => ⟨(insL l rs (a4, b4)), qs.tail ++ goneL rs (a4, b4) ++ pq, rfl, Hn8.out, hlen, h400, hAf, by rw [cellsRule_app, cellsRule_app]; exact hMf, HTP.out⟩⟩
      · have hnr : newR a4 b4 = (b4, a4) := by rw [newR, ← hle]; rfl
        have Hle := Lib.hid hle
        clear hle
        have Hnr := Lib.hid hnr
        clear hnr
        go_wp2_with fail
        go_wp2_with fail
        refine (swap_any a4 b4 _).mono ?_
        rintro e w' ⟨rfl, rfl⟩
        by_cases h8 : b4.size ≤ 8
        case neg =>
          have s0 : y6.cell? ⟨w.heap.size, 0, none⟩ = some (.int .i64 l) := by rw [HT6.out.b1.cell]; rfl
          have s1 : y6.cell? ⟨w.heap.size, 1, none⟩ = some (.slice A n c) := by rw [HT6.out.b1.cell]; rfl
          have s2 : y6.cell? ⟨w.heap.size, 2, none⟩ = some (.slice (some ⟨b, o, none⟩) (q1 + 1) cq) := by rw [HT6.out.b1.cell]; rfl
          have s3 : y6.cell? ⟨w.heap.size, 3, none⟩ = some (.int .i64 t) := by rw [HT6.out.b1.cell]; rfl
          have sl := HT6.out.b1.lt
          go_wp2_with fail
          with_reducible refine (HC.out _ HT6.out.low).mono ?_
          rintro e wC ⟨A9, c9, Q9, d9, rfl, -, -, -, bC⟩
          have hTC := HT6.out.below bC
          clear bC s0 s1 s2 s3 sl
          have k0 : wC.cell? ⟨w.heap.size + 1, 0, none⟩ = some (.int .i64 0) := by rw [hTC.b2.cell]; rfl
          have kf0 := hTC.b2.free 0
          have k1 : wC.cell? ⟨w.heap.size + 1, 1, none⟩ = some (.slice none 0 0) := by rw [hTC.b2.cell]; rfl
          have kf1 := hTC.b2.free 1
          have k2 : wC.cell? ⟨w.heap.size + 1, 2, none⟩ = some (.slice none 0 0) := by rw [hTC.b2.cell]; rfl
          have kf2 := hTC.b2.free 2
          have k3 : wC.cell? ⟨w.heap.size + 1, 3, none⟩ = some (.int .i64 0) := by rw [hTC.b2.cell]; rfl
          have kf3 := hTC.b2.free 3
          have lr := hTC.b2.lt
          have HTC := Lib.hid hTC
          clear hTC
          go_wp2_with fail
          have hB := ((((HTC.out.b2.put 0 (.int .i64 l)).put 1 (.slice A9 n c9)).put 2 (.slice Q9 (q1 + 1) d9)).put 3 (.int .i64 t))
          have hlw := HTC.out.low.trans (((((Below.refl w.heap.size wC).setCell (p := ⟨w.heap.size + 1, 0, none⟩) (by dsimp only; omega) (.int .i64 l)).setCell (p := ⟨w.heap.size + 1, 1, none⟩) (by dsimp only; omega) (.slice A9 n c9)).setCell (p := ⟨w.heap.size + 1, 2, none⟩) (by dsimp only; omega) (.slice Q9 (q1 + 1) d9)).setCell (p := ⟨w.heap.size + 1, 3, none⟩) (by dsimp only; omega) (.int .i64 t))
          have qc0 := hB.cell 0
          have qc1 := hB.cell 1
          have qc2 := hB.cell 2
          have qc3 := hB.cell 3
          refine bodyPost_ret (v := .tuple #[.agg #[.int .i64 l, .slice A9 n c9, .slice Q9 (q1 + 1) d9, .int .i64 t], .int .i64 1]) (by simp [results, Tryz.results80, go_sem, qc0, qc1, qc2, qc3]) rfl ?_
          exact ⟨l, A9, n, c9, Q9, (q1 + 1), d9, t, 1, rfl, hlw, fun h => absurd h (by decide)⟩
        have s0 : y6.cell? ⟨w.heap.size, 0, none⟩ = some (.int .i64 l) := by rw [HT6.out.b1.cell]; rfl
        have s1 : y6.cell? ⟨w.heap.size, 1, none⟩ = some (.slice A n c) := by rw [HT6.out.b1.cell]; rfl
        have s2 : y6.cell? ⟨w.heap.size, 2, none⟩ = some (.slice (some ⟨b, o, none⟩) (q1 + 1) cq) := by rw [HT6.out.b1.cell]; rfl
        have s3 : y6.cell? ⟨w.heap.size, 3, none⟩ = some (.int .i64 t) := by rw [HT6.out.b1.cell]; rfl
        have sl := HT6.out.b1.lt
        have hxr := new_rule hwa hwb hab (by rw [Hnr.out]; exact h8)
        rw [Hnr.out] at hxr
        have Hxr := Lib.hid hxr
        clear hxr
        go_wp2_with fail
        with_reducible refine (specInsert_any l A n c rs b4 a4 _ (Hr.out.keep HT6.out.low) Hn.out hsy Hxr.out).mono ?_
        rintro e y8 ⟨A8, n8, c8, B8, m8, d8, rfl, hn8, hm8, hrA8, hrB8, b8⟩
        clear s0 s1 s2 s3 sl
        have hT8 := HT6.out.below b8
        have hB8 := HB6.out.below b8 HB6.out.lt
        have hM8 := HM6.out.below b8
        have hal9 := (Below.refl y8.heap.size y8).alloc (Nat.le_refl _) (.cells #[.int .i64 l, .slice A8 n8 c8] 25)
        have hT9 := hT8.below hal9
        have hB9 := hB8.below hal9 hB8.lt
        have hM9 := hM8.below hal9
        have hrA9 := own_keep hrA8 hal9 (Nat.le_refl _)
        have hrB9 := own_keep hrB8 hal9 (Nat.le_refl _)
        have hS9 := Bk.new y8 25 #[.int .i64 l, .slice A8 n8 c8]
        clear hT8 hB8 hM8 hrA8 hrB8 hal9
        have HT9 := Lib.hid hT9
        clear hT9
        have HB9 := Lib.hid hB9
        clear hB9
        have HM9 := Lib.hid hM9
        clear hM9
        have HrA9 := Lib.hid hrA9
        clear hrA9
        have HrB9 := Lib.hid hrB9
        clear hrB9
        have Hn8 := Lib.hid hn8
        clear hn8
        have Hm8 := Lib.hid hm8
        clear hm8
        have HS9 := Lib.hid hS9
        clear hS9
        by_cases h12 : n8 ≤ 12
        case neg =>
          have s0 : (y8.alloc (.cells #[.int .i64 l, .slice A8 n8 c8] 25)).cell? ⟨w.heap.size, 0, none⟩ = some (.int .i64 l) := by rw [HT9.out.b1.cell]; rfl
          have s1 : (y8.alloc (.cells #[.int .i64 l, .slice A8 n8 c8] 25)).cell? ⟨w.heap.size, 1, none⟩ = some (.slice A n c) := by rw [HT9.out.b1.cell]; rfl
          have s2 : (y8.alloc (.cells #[.int .i64 l, .slice A8 n8 c8] 25)).cell? ⟨w.heap.size, 2, none⟩ = some (.slice (some ⟨b, o, none⟩) (q1 + 1) cq) := by rw [HT9.out.b1.cell]; rfl
          have s3 : (y8.alloc (.cells #[.int .i64 l, .slice A8 n8 c8] 25)).cell? ⟨w.heap.size, 3, none⟩ = some (.int .i64 t) := by rw [HT9.out.b1.cell]; rfl
          have sl := HT9.out.b1.lt
          go_wp2_with fail
          with_reducible refine (HC.out _ HT9.out.low).mono ?_
          rintro e wC ⟨A9, c9, Q9, d9, rfl, -, -, -, bC⟩
          have hTC := HT9.out.below bC
          clear bC s0 s1 s2 s3 sl
          have k0 : wC.cell? ⟨w.heap.size + 1, 0, none⟩ = some (.int .i64 0) := by rw [hTC.b2.cell]; rfl
          have kf0 := hTC.b2.free 0
          have k1 : wC.cell? ⟨w.heap.size + 1, 1, none⟩ = some (.slice none 0 0) := by rw [hTC.b2.cell]; rfl
          have kf1 := hTC.b2.free 1
          have k2 : wC.cell? ⟨w.heap.size + 1, 2, none⟩ = some (.slice none 0 0) := by rw [hTC.b2.cell]; rfl
          have kf2 := hTC.b2.free 2
          have k3 : wC.cell? ⟨w.heap.size + 1, 3, none⟩ = some (.int .i64 0) := by rw [hTC.b2.cell]; rfl
          have kf3 := hTC.b2.free 3
          have lr := hTC.b2.lt
          have HTC := Lib.hid hTC
          clear hTC
          go_wp2_with fail
          have hB := ((((HTC.out.b2.put 0 (.int .i64 l)).put 1 (.slice A9 n c9)).put 2 (.slice Q9 (q1 + 1) d9)).put 3 (.int .i64 t))
          have hlw := HTC.out.low.trans (((((Below.refl w.heap.size wC).setCell (p := ⟨w.heap.size + 1, 0, none⟩) (by dsimp only; omega) (.int .i64 l)).setCell (p := ⟨w.heap.size + 1, 1, none⟩) (by dsimp only; omega) (.slice A9 n c9)).setCell (p := ⟨w.heap.size + 1, 2, none⟩) (by dsimp only; omega) (.slice Q9 (q1 + 1) d9)).setCell (p := ⟨w.heap.size + 1, 3, none⟩) (by dsimp only; omega) (.int .i64 t))
          have qc0 := hB.cell 0
          have qc1 := hB.cell 1
          have qc2 := hB.cell 2
          have qc3 := hB.cell 3
          refine bodyPost_ret (v := .tuple #[.agg #[.int .i64 l, .slice A9 n c9, .slice Q9 (q1 + 1) d9, .int .i64 t], .int .i64 2]) (by simp [results, Tryz.results80, go_sem, qc0, qc1, qc2, qc3]) rfl ?_
          exact ⟨l, A9, n, c9, Q9, (q1 + 1), d9, t, 2, rfl, hlw, fun h => absurd h (by decide)⟩
        have hlt6 := HB6.out.lt
        have hlm6 := HM6.out.lt
        have hI9 : TrI w (y8.alloc (.cells #[.int .i64 l, .slice A8 n8 c8] 25)) w1.heap.size ob y8.heap.size #[.int .i64 l, .slice A n c, .slice (some ⟨b, o, none⟩) (q1 + 1) cq, .int .i64 t] #[.int .i64 0, .slice none 0 0, .slice none 0 0, .int .i64 0] #[.int .i64 l, .slice A3 n c3, .slice (some ⟨g3, 2, none⟩) q1 (d3 - 1), .int .i64 (t + 1)] l A8 n8 c8 (insL l rs (b4, a4)) y6.heap.size g3 2 q1 (d3 - 1) (cellsRule qs.tail) := ⟨HT9.out, HB9.out, HS9.out, HrA9.out, HM9.out, (fun e9 => by have h9 := (HrA9.out.lt _ e9).1; omega), hobw, hw1s, by omega⟩
        have hI10 : TrI w (((y8.alloc (.cells #[.int .i64 l, .slice A8 n8 c8] 25)).setCell ⟨ob, 0, none⟩ (.int .i64 l)).setCell ⟨ob, 1, none⟩ (.slice A8 n8 c8)) w1.heap.size ob y8.heap.size #[.int .i64 l, .slice A n c, .slice (some ⟨b, o, none⟩) (q1 + 1) cq, .int .i64 t] #[.int .i64 0, .slice none 0 0, .slice none 0 0, .int .i64 0] #[.int .i64 l, .slice A8 n8 c8, .slice (some ⟨g3, 2, none⟩) q1 (d3 - 1), .int .i64 (t + 1)] l A8 n8 c8 (insL l rs (b4, a4)) y6.heap.size g3 2 q1 (d3 - 1) (cellsRule qs.tail) := (hI9.put 0 (.int .i64 l)).put 1 (.slice A8 n8 c8)
        have o0 : (y8.alloc (.cells #[.int .i64 l, .slice A8 n8 c8] 25)).cell? ⟨ob, 0, none⟩ = some (.int .i64 l) := by rw [hI9.bo.cell]; rfl
        have o1 : (y8.alloc (.cells #[.int .i64 l, .slice A8 n8 c8] 25)).cell? ⟨ob, 1, none⟩ = some (.slice A3 n c3) := by rw [hI9.bo.cell]; rfl
        have o2 : (y8.alloc (.cells #[.int .i64 l, .slice A8 n8 c8] 25)).cell? ⟨ob, 2, none⟩ = some (.slice (some ⟨g3, 2, none⟩) q1 (d3 - 1)) := by rw [hI9.bo.cell]; rfl
        have of0 := hI9.bo.free 0
        have of1 := hI9.bo.free 1
        have ol := hI9.bo.lt
        have hrB10 := Rd.of_own (own_far3 (own_far3 HrB9.out (p := ⟨ob, 0, none⟩) (fun e9 => by have h9 := (HrB9.out.lt _ e9).1; dsimp only at h9; omega) (.int .i64 l)) (p := ⟨ob, 1, none⟩) (fun e9 => by have h9 := (HrB9.out.lt _ e9).1; dsimp only at h9; omega) (.slice A8 n8 c8))
        have hm12 : m8 ≤ 12 := by have h9 := rulesOk_12 (sys_rules hsy); rw [Hm8.out]; exact Nat.le_trans (List.length_filter_le _ _) h9
        have hcm8 : (cellsRule (goneL rs (b4, a4))).length = m8 * 2 := by rw [cellsRule_len, Hm8.out]
        have hsy8 : systemOk l (insL l rs (b4, a4)) = true := ins_sys hsy Hxr.out (by rw [← Hn8.out]; exact h12)
        have hTP : TurnP l rs qs t (insL l rs (b4, a4)) (qs.tail ++ goneL rs (b4, a4) ++ pairsQ l (insL l rs (b4, a4))) (t + 1) := turn_new hsy heq (by omega) Hv.out Ha4.out Hb4.out hab Hnr.out h8 (by rw [← Hn8.out]; exact h12)
        have hzW : w1.heap.size ≤ (((y8.alloc (.cells #[.int .i64 l, .slice A8 n8 c8] 25)).setCell ⟨ob, 0, none⟩ (.int .i64 l)).setCell ⟨ob, 1, none⟩ (.slice A8 n8 c8)).heap.size := by have h9 := HT9.out.low.size; have h8 := hI10.oM.lt; have h7 : w1.heap.size ≤ g3 := hI10.oM.1; omega
        have HI9 := Lib.hid hI9
        clear hI9
        have HI10 := Lib.hid hI10
        clear hI10
        have HrB10 := Lib.hid hrB10
        clear hrB10
        have Hcm8 := Lib.hid hcm8
        clear hcm8
        have Hsy8 := Lib.hid hsy8
        clear hsy8
        have HTP := Lib.hid hTP
        clear hTP
        go_wp2_with (at_builtin; go_loud (refine wpList_append_M _ rfl _ _ 23 rfl w1.heap.size 68 2 32 _ Tryz.underlying23 info_Rule rfl (by omega) g3 2 q1 _ (d3 - 1) rfl HI10.out.oM B8 m8 d8 (cellsRule (goneL rs (b4, a4))) rfl Hcm8.out HrB10.out (one_cell_rules _) (by unfold maxLen; omega) (by omega) hzW ?_; intro g5 of5 c5 y11 hM11 hG11 hat11; have hI11 := HI10.out.app hM11 hG11 hat11; have p2 : y11.cell? ⟨ob, 2, none⟩ = some (.slice (some ⟨g3, 2, none⟩) q1 (d3 - 1)) := (by rw [hI11.bo.cell]; rfl); have pf := hI11.bo.free 2; have pl := hI11.bo.lt))
        clear o0 o1 o2 of0 of1 ol p2 pf pl
        obtain ⟨sb, hsb⟩ : ∃ z, z = y8.heap.size := ⟨_, rfl⟩
        obtain ⟨y12, hy12⟩ : ∃ z, z = y11.setCell ⟨ob, 2, none⟩ (.slice (some ⟨g5, of5, none⟩) (q1 + m8) c5) := ⟨_, rfl⟩
        have hI12 : TrI w (y11.setCell ⟨ob, 2, none⟩ (.slice (some ⟨g5, of5, none⟩) (q1 + m8) c5)) w1.heap.size ob y8.heap.size #[.int .i64 l, .slice A n c, .slice (some ⟨b, o, none⟩) (q1 + 1) cq, .int .i64 t] #[.int .i64 0, .slice none 0 0, .slice none 0 0, .int .i64 0] #[.int .i64 l, .slice A8 n8 c8, .slice (some ⟨g5, of5, none⟩) (q1 + m8) c5, .int .i64 (t + 1)] l A8 n8 c8 (insL l rs (b4, a4)) y6.heap.size g5 of5 (q1 + m8) c5 (cellsRule qs.tail ++ cellsRule (goneL rs (b4, a4))) := hI11.put 2 (.slice (some ⟨g5, of5, none⟩) (q1 + m8) c5)
        rw [← hsb, ← hy12] at hI12
        rw [← hy12, ← hsb]
        have hn12 : n8 ≤ 100 := by omega
        have hz8 : ∀ x ∈ (insL l rs (b4, a4)), x.1.size ≤ 1048576 ∧ x.2.size ≤ 1048576 := fun x hx => by obtain ⟨-, -, z8, z9, -⟩ := sys_mem Hsy8.out hx; omega
        have hPq := fun (W : World) (hw : Rd W A8 (cellsRule (insL l rs (b4, a4)))) => specPairsQ_any l A8 n8 c8 (insL l rs (b4, a4)) W hw Hn8.out hn12 hz8
        obtain ⟨pq, hpq⟩ : ∃ z, z = pairsQ l (insL l rs (b4, a4)) := ⟨_, rfl⟩
        rw [← hpq] at hPq
        have hpl : pq.length ≤ 6240 := by rw [hpq]; exact pairsQ_len l _
        have hTP := HTP.out
        rw [← hpq] at hTP
        clear HTP hM11 hG11 hat11 hI11 HI9 HI10 HrB10 hsb hy12
        have HI12 := Lib.hid hI12
        clear hI12
        have HPq := Lib.hid hPq
        clear hPq
        have Hpq := Lib.hid hpq
        clear hpq
        have HTP := Lib.hid hTP
        clear hTP
        have Hz8 := Lib.hid hz8
        clear hz8
        refine wp_region_held_drew (S := (fun W => W.cell? ⟨sb, 0, none⟩ = some (.int .i64 l) ∧ W.cell? ⟨sb, 1, none⟩ = some (.slice A8 n8 c8))) (by kernel_rfl) ((by have hq := (HI12.out.below (Below.refl _ _).drew).bs; exact ⟨by rw [hq.cell]; rfl, by rw [hq.cell]; rfl⟩)) (fun hHeld => ?_)
        obtain ⟨y13, hy⟩ : ∃ z, z = World.drew y12 := ⟨_, rfl⟩
        have hI13 := HI12.out.below (Below.refl _ _).drew
        rw [← hy] at hHeld hI13
        rw [← hy]
        clear hy HI12
        have p2 : y13.cell? ⟨ob, 2, none⟩ = some (.slice (some ⟨g5, of5, none⟩) (q1 + m8) c5) := by rw [hI13.bo.cell]; rfl
        obtain ⟨zb, hzb⟩ : ∃ z, z = y13.heap.size := ⟨_, rfl⟩
        have hRA := Rd.of_own hI13.oA
        have HI13 := Lib.hid hI13
        clear hI13
        have HRA := Lib.hid hRA
        clear hRA
        have Hzb := Lib.hid hzb
        clear hzb
        refine wpAnyH_take (i := 0) (oi := ?oi1856) (v := ?val1856) ?hi1856 ?hs1856 ?hf1856 ?hr1856 ?hQ1856 ?hy1856 ?hS1856 ?hrest1856
        case hi1856 => (simp only [List.getElem?_toArray, List.getElem?_cons_succ, List.getElem?_cons_zero] <;> exact rfl)
        case hs1856 => kernel_rfl
        case hf1856 => kernel_rfl
        case hr1856 => kernel_rfl
        case hQ1856 => exact fun _ _ _ h => h
        case hS1856 => assumption
        case hy1856 => (refine Or.inl ⟨by rfl, ?_⟩; intro w hSw; (try dsimp only at hSw); obtain ⟨z0, z1⟩ := hSw; go_simp; try with_reducible rfl)
        simp only [Act.put, List.setIfInBounds_toArray, List.set_cons_zero, List.set_cons_succ]
        refine wpAnyH_take (i := 2) (oi := ?oi1865) (v := ?val1865) ?hi1865 ?hs1865 ?hf1865 ?hr1865 ?hQ1865 ?hy1865 ?hS1865 ?hrest1865
        case hi1865 => (simp only [List.getElem?_toArray, List.getElem?_cons_succ, List.getElem?_cons_zero] <;> exact rfl)
        case hs1865 => kernel_rfl
        case hf1865 => kernel_rfl
        case hr1865 => kernel_rfl
        case hQ1865 => exact fun _ _ _ h => h
        case hS1865 => assumption
        case hy1865 => (refine Or.inl ⟨by rfl, ?_⟩; intro w hSw; (try dsimp only at hSw); obtain ⟨z0, z1⟩ := hSw; go_simp; try with_reducible rfl)
        simp only [Act.put, List.setIfInBounds_toArray, List.set_cons_zero, List.set_cons_succ]
        apply meetQ (F := fun P d y => TrI w y w1.heap.size ob sb #[.int .i64 l, .slice A n c, .slice (some ⟨b, o, none⟩) (q1 + 1) cq, .int .i64 t] #[.int .i64 0, .slice none 0 0, .slice none 0 0, .int .i64 0] #[.int .i64 l, .slice A8 n8 c8, .slice (some ⟨g5, of5, none⟩) (q1 + m8) c5, .int .i64 (t + 1)] l A8 n8 c8 (insL l rs (b4, a4)) y6.heap.size g5 of5 (q1 + m8) c5 (cellsRule qs.tail ++ cellsRule (goneL rs (b4, a4))) ∧ y.ownsRow zb 68 2 (.slice P pq.length d) pq.length (cellsRule pq))
        · intro hkey
          refine wpAnyH_ready (rs := [1, 3]) (by kernel_rfl) (by simp) ?_
          refine AllReadyH.cons rfl (fun K hK => ?_) (AllReadyH.cons rfl (fun K hK => ?_) AllReadyH.nil)
          · skip
            go_simp
            refine hK.out _ _ (by have hq := HI13.out.bs; exact ⟨by rw [hq.cell]; rfl, by rw [hq.cell]; rfl⟩) (fun hHeld => ?_)
            clear hK K
            first | simp only [Act.put, List.setIfInBounds_toArray, List.set_cons_zero, List.set_cons_succ] | skip
            refine wpAnyH_ready (rs := [3]) (by kernel_rfl) (by simp) ?_
            refine AllReadyH.cons rfl (fun K hK => ?_) AllReadyH.nil
            go_simp
            (with_reducible refine (HPq.out _ HRA.out).mono ?_)
            rintro e y14 ⟨P, d, rfl, hO14, b14⟩
            have hI14 := HI13.out.below b14
            refine hK.out _ _ (by have hq := hI14.bs; exact ⟨by rw [hq.cell]; rfl, by rw [hq.cell]; rfl⟩) (fun hHeld => ?_)
            clear hK K
            first | simp only [Act.put, List.setIfInBounds_toArray, List.set_cons_zero, List.set_cons_succ] | skip
            rw [← Hzb.out] at hO14
            exact hkey P d y14 ⟨hI14, hO14⟩
          · skip
            go_simp
            (with_reducible refine (HPq.out _ HRA.out).mono ?_)
            rintro e y14 ⟨P, d, rfl, hO14, b14⟩
            have hI14 := HI13.out.below b14
            refine hK.out _ _ (by have hq := hI14.bs; exact ⟨by rw [hq.cell]; rfl, by rw [hq.cell]; rfl⟩) (fun hHeld => ?_)
            clear hK K
            first | simp only [Act.put, List.setIfInBounds_toArray, List.set_cons_zero, List.set_cons_succ] | skip
            clear p2
            have p2 : y14.cell? ⟨ob, 2, none⟩ = some (.slice (some ⟨g5, of5, none⟩) (q1 + m8) c5) := by rw [hI14.bo.cell]; rfl
            refine wpAnyH_ready (rs := [1]) (by kernel_rfl) (by simp) ?_
            refine AllReadyH.cons rfl (fun K hK => ?_) AllReadyH.nil
            go_simp
            refine hK.out _ _ (by have hq := hI14.bs; exact ⟨by rw [hq.cell]; rfl, by rw [hq.cell]; rfl⟩) (fun hHeld => ?_)
            clear hK K
            first | simp only [Act.put, List.setIfInBounds_toArray, List.set_cons_zero, List.set_cons_succ] | skip
            rw [← Hzb.out] at hO14
            exact hkey P d y14 ⟨hI14, hO14⟩
        intro P14 d14 y14 ⟨hI14, hO14⟩
        clear p2
        have hRP := Rd.of_own hO14
        have hcp : (cellsRule pq).length = pq.length * 2 := cellsRule_len pq
        obtain ⟨np, hnp⟩ : ∃ z, z = pq.length := ⟨_, rfl⟩
        rw [← hnp] at hcp hpl
        rw [← hnp]
        have hz14 : w1.heap.size ≤ y14.heap.size := by have h8 := hI14.oM.lt; have h7 : w1.heap.size ≤ g5 := hI14.oM.1; omega
        have HRP := Lib.hid hRP
        clear hRP
        have Hcp := Lib.hid hcp
        clear hcp
        have Hnp := Lib.hid hnp
        clear hnp
        refine wpAnyH_ready (rs := [4]) (by kernel_rfl) (by simp) ?_
        refine AllReadyH.cons rfl (fun K hK => ?_) AllReadyH.nil
        refine step_append_M y14 rfl _ _ 23 rfl w1.heap.size 68 2 32 _ Tryz.underlying23 info_Rule rfl (by omega) g5 of5 (q1 + m8) (cellsRule qs.tail ++ cellsRule (goneL rs (b4, a4))) c5 rfl hI14.oM P14 np d14 (cellsRule pq) rfl Hcp.out HRP.out (one_cell_rules _) (by unfold maxLen; omega) (by omega) hz14 ?_
        intro g6 of6 c6 y15 hM15 hG15 hat15
        have hI15 := hI14.app hM15 hG15 hat15
        refine hK.out _ _ (by have hq := hI15.bs; exact ⟨by rw [hq.cell]; rfl, by rw [hq.cell]; rfl⟩) (fun hHeld2 => ?_)
        clear hK K
        first | simp only [Act.put, List.setIfInBounds_toArray, List.set_cons_zero, List.set_cons_succ] | skip
        refine wpAnyH_take (i := 5) (oi := ?oi1934) (v := ?val1934) ?hi1934 ?hs1934 ?hf1934 ?hr1934 ?hQ1934 ?hy1934 ?hS1934 ?hrest1934
        case hi1934 => (simp only [List.getElem?_toArray, List.getElem?_cons_succ, List.getElem?_cons_zero] <;> exact rfl)
        case hs1934 => kernel_rfl
        case hf1934 => kernel_rfl
        case hr1934 => kernel_rfl
        case hQ1934 => exact fun _ _ _ h => h
        case hS1934 => assumption
        case hy1934 => (refine Or.inl ⟨by rfl, ?_⟩; intro w hSw; (try dsimp only at hSw); obtain ⟨z0, z1⟩ := hSw; go_simp; try with_reducible rfl)
        simp only [Act.put, List.setIfInBounds_toArray, List.set_cons_zero, List.set_cons_succ]
        have p3 : y15.cell? ⟨ob, 2, none⟩ = some (.slice (some ⟨g5, of5, none⟩) (q1 + m8) c5) := by rw [hI15.bo.cell]; rfl
        have pf3 := hI15.bo.free 2
        have pl3 := hI15.bo.lt
        obtain ⟨y16, hy16⟩ : ∃ z, z = y15.setCell ⟨ob, 2, none⟩ (.slice (some ⟨g6, of6, none⟩) (q1 + m8 + np) c6) := ⟨_, rfl⟩
        have hI16 : TrI w (y15.setCell ⟨ob, 2, none⟩ (.slice (some ⟨g6, of6, none⟩) (q1 + m8 + np) c6)) w1.heap.size ob sb #[.int .i64 l, .slice A n c, .slice (some ⟨b, o, none⟩) (q1 + 1) cq, .int .i64 t] #[.int .i64 0, .slice none 0 0, .slice none 0 0, .int .i64 0] #[.int .i64 l, .slice A8 n8 c8, .slice (some ⟨g6, of6, none⟩) (q1 + m8 + np) c6, .int .i64 (t + 1)] l A8 n8 c8 (insL l rs (b4, a4)) y6.heap.size g6 of6 (q1 + m8 + np) c6 (cellsRule qs.tail ++ cellsRule (goneL rs (b4, a4)) ++ cellsRule pq) := hI15.put 2 (.slice (some ⟨g6, of6, none⟩) (q1 + m8 + np) c6)
        rw [← hy16] at hI16
        refine wpAnyH_ready (rs := [6]) (by kernel_rfl) (by simp) ?_
        refine AllReadyH.cons rfl (fun K hK => ?_) AllReadyH.nil
        go_simp
        rw [← hy16]
        refine hK.out _ _ (by have hq := hI16.bs; exact ⟨by rw [hq.cell]; rfl, by rw [hq.cell]; rfl⟩) (fun hHeld3 => ?_)
        clear hK K
        first | simp only [Act.put, List.setIfInBounds_toArray, List.set_cons_zero, List.set_cons_succ] | skip
        refine wpAnyH_done (by kernel_rfl) ?_ _
        clear p3 pf3 pl3 hI15 hM15 hG15 hat15 hI14 hO14 hy16
        have HI16 := Lib.hid hI16
        clear hI16
        have o0 : y16.cell? ⟨ob, 0, none⟩ = some (.int .i64 l) := by rw [HI16.out.bo.cell]; rfl
        have o1 : y16.cell? ⟨ob, 1, none⟩ = some (.slice A8 n8 c8) := by rw [HI16.out.bo.cell]; rfl
        have o2 : y16.cell? ⟨ob, 2, none⟩ = some (.slice (some ⟨g6, of6, none⟩) (q1 + m8 + np) c6) := by rw [HI16.out.bo.cell]; rfl
        have o3 : y16.cell? ⟨ob, 3, none⟩ = some (.int .i64 (t + 1)) := by rw [HI16.out.bo.cell]; rfl
        have ol := HI16.out.bo.lt
        by_cases h400 : q1 + m8 + np ≤ 400
        case neg =>
          have s0 : y16.cell? ⟨w.heap.size, 0, none⟩ = some (.int .i64 l) := by rw [HI16.out.T.b1.cell]; rfl
          have s1 : y16.cell? ⟨w.heap.size, 1, none⟩ = some (.slice A n c) := by rw [HI16.out.T.b1.cell]; rfl
          have s2 : y16.cell? ⟨w.heap.size, 2, none⟩ = some (.slice (some ⟨b, o, none⟩) (q1 + 1) cq) := by rw [HI16.out.T.b1.cell]; rfl
          have s3 : y16.cell? ⟨w.heap.size, 3, none⟩ = some (.int .i64 t) := by rw [HI16.out.T.b1.cell]; rfl
          have sl := HI16.out.T.b1.lt
          go_wp2_with fail
          with_reducible refine (HC.out _ HI16.out.T.low).mono ?_
          rintro e wC ⟨A9, c9, Q9, d9, rfl, -, -, -, bC⟩
          have hTC := HI16.out.T.below bC
          clear bC s0 s1 s2 s3 sl
          have k0 : wC.cell? ⟨w.heap.size + 1, 0, none⟩ = some (.int .i64 0) := by rw [hTC.b2.cell]; rfl
          have kf0 := hTC.b2.free 0
          have k1 : wC.cell? ⟨w.heap.size + 1, 1, none⟩ = some (.slice none 0 0) := by rw [hTC.b2.cell]; rfl
          have kf1 := hTC.b2.free 1
          have k2 : wC.cell? ⟨w.heap.size + 1, 2, none⟩ = some (.slice none 0 0) := by rw [hTC.b2.cell]; rfl
          have kf2 := hTC.b2.free 2
          have k3 : wC.cell? ⟨w.heap.size + 1, 3, none⟩ = some (.int .i64 0) := by rw [hTC.b2.cell]; rfl
          have kf3 := hTC.b2.free 3
          have lr := hTC.b2.lt
          have HTC := Lib.hid hTC
          clear hTC
          go_wp2_with fail
          have hB := ((((HTC.out.b2.put 0 (.int .i64 l)).put 1 (.slice A9 n c9)).put 2 (.slice Q9 (q1 + 1) d9)).put 3 (.int .i64 t))
          have hlw := HTC.out.low.trans (((((Below.refl w.heap.size wC).setCell (p := ⟨w.heap.size + 1, 0, none⟩) (by dsimp only; omega) (.int .i64 l)).setCell (p := ⟨w.heap.size + 1, 1, none⟩) (by dsimp only; omega) (.slice A9 n c9)).setCell (p := ⟨w.heap.size + 1, 2, none⟩) (by dsimp only; omega) (.slice Q9 (q1 + 1) d9)).setCell (p := ⟨w.heap.size + 1, 3, none⟩) (by dsimp only; omega) (.int .i64 t))
          have qc0 := hB.cell 0
          have qc1 := hB.cell 1
          have qc2 := hB.cell 2
          have qc3 := hB.cell 3
          refine bodyPost_ret (v := .tuple #[.agg #[.int .i64 l, .slice A9 n c9, .slice Q9 (q1 + 1) d9, .int .i64 t], .int .i64 2]) (by simp [results, Tryz.results80, go_sem, qc0, qc1, qc2, qc3]) rfl ?_
          exact ⟨l, A9, n, c9, Q9, (q1 + 1), d9, t, 2, rfl, hlw, fun h => absurd h (by decide)⟩
        have k0 : y16.cell? ⟨w.heap.size + 1, 0, none⟩ = some (.int .i64 0) := by rw [HI16.out.T.b2.cell]; rfl
        have kf0 := HI16.out.T.b2.free 0
        have k1 : y16.cell? ⟨w.heap.size + 1, 1, none⟩ = some (.slice none 0 0) := by rw [HI16.out.T.b2.cell]; rfl
        have kf1 := HI16.out.T.b2.free 1
        have k2 : y16.cell? ⟨w.heap.size + 1, 2, none⟩ = some (.slice none 0 0) := by rw [HI16.out.T.b2.cell]; rfl
        have kf2 := HI16.out.T.b2.free 2
        have k3 : y16.cell? ⟨w.heap.size + 1, 3, none⟩ = some (.int .i64 0) := by rw [HI16.out.T.b2.cell]; rfl
        have kf3 := HI16.out.T.b2.free 3
        have lr := HI16.out.T.b2.lt
        go_wp2_with fail
        obtain ⟨hBf, hlw, hAf, hMf⟩ := HI16.out.fin (.int .i64 l) (.slice A8 n8 c8) (.slice (some ⟨g6, of6, none⟩) (q1 + m8 + np) c6) (.int .i64 (t + 1))
        have hlen : q1 + m8 + np = (qs.tail ++ goneL rs (b4, a4) ++ pq).length := by rw [List.length_append, List.length_append, ← Hq1t.out, ← Hm8.out, ← Hnp.out]
        have q0 := hBf.cell 0
        have q1c := hBf.cell 1
        have q2 := hBf.cell 2
        have q3 := hBf.cell 3
        refine bodyPost_ret (v := .tuple #[.agg #[.int .i64 l, .slice A8 n8 c8, .slice (some ⟨g6, of6, none⟩) (q1 + m8 + np) c6, .int .i64 (t + 1)], .int .i64 0]) (by simp [results, Tryz.results80, go_sem, q0, q1c, q2, q3]) rfl ?_
        exact ⟨l, A8, n8, c8, some ⟨g6, of6, none⟩, (q1 + m8 + np), c6, (t + 1), 0, rfl, hlw, fun _ _ => ⟨(insL l rs (b4, a4)), qs.tail ++ goneL rs (b4, a4) ++ pq, rfl, Hn8.out, hlen, h400, hAf, by rw [cellsRule_app, cellsRule_app]; exact hMf, HTP.out⟩⟩
end Go.Proofs.YteafeecndghapaaGreat
