/- A pair of a word and two steps: the laws' helpers toStep, toPair and szPair, and a pair that came in. -/
import Derived.Test.YtgnmfneinnojnaaStep
import Derived.Test.YtgnmfneinnojnaaOpenArgs
import Derived.Test.YtgnmfneinnojnaaApp2
namespace Go.Proofs.Ytgnmfneinnojnaa
open Go.ChangeShapes Go.WideShapes Go.ChangeAt Go.RowKit Go.Shelf

abbrev PairT : Type := ByteArray × Int × Int × Int × Int

set_option maxRecDepth 100000 in
set_option maxHeartbeats 400000 in
theorem toStep_any (x0 : Int) (x1 : Int) (w : World) : Calls Try.prog 115 #[.agg #[.int .i64 x0, .int .i64 x1]] w (Kept w (.agg #[.int .i64 x0, .int .i64 x1])) := by
  go_enter Try.func115, Try.ntmps115
  go_wp2
  refine bodyPost_ret (v := .agg #[.int .i64 x0, .int .i64 x1]) (by simp [results, Try.results115, go_sem]) rfl ⟨rfl, ?_⟩
  exact ((((Below.refl _ _).alloc (Nat.le_refl _) _).alloc (by simp) _).alloc (by simp <;> omega) _)

set_option maxRecDepth 100000 in
set_option maxHeartbeats 2000000 in
theorem toPair_any (s : ByteArray) (x0 x1 y0 y1 : Int) (w : World) : Calls Try.prog 55 #[.agg #[.string s, .int .i64 x0, .int .i64 x1, .int .i64 y0, .int .i64 y1]] w (Kept w (.agg #[.string s, .int .i64 x0, .int .i64 x1, .int .i64 y0, .int .i64 y1])) := by
  have hW0 : Below w.heap.size w (((w.alloc (.cells #[.string s, .int .i64 x0, .int .i64 x1, .int .i64 y0, .int .i64 y1] 75)).alloc (.cells #[.string ⟨#[]⟩, .int .i64 0, .int .i64 0, .int .i64 0, .int .i64 0] 80)).alloc (.cells #[.string s, .int .i64 0, .int .i64 0, .int .i64 0, .int .i64 0] 80)) := (((Below.refl _ _).alloc (Nat.le_refl _) _).alloc (by simp) _).alloc (by simp; omega) _
  have hP0 : Bk (((w.alloc (.cells #[.string s, .int .i64 x0, .int .i64 x1, .int .i64 y0, .int .i64 y1] 75)).alloc (.cells #[.string ⟨#[]⟩, .int .i64 0, .int .i64 0, .int .i64 0, .int .i64 0] 80)).alloc (.cells #[.string s, .int .i64 0, .int .i64 0, .int .i64 0, .int .i64 0] 80)) (w.heap.size) 75 #[.string s, .int .i64 x0, .int .i64 x1, .int .i64 y0, .int .i64 y1] := ((Bk.new w _ _).alloc _).alloc _
  have hR0 : Bk (((w.alloc (.cells #[.string s, .int .i64 x0, .int .i64 x1, .int .i64 y0, .int .i64 y1] 75)).alloc (.cells #[.string ⟨#[]⟩, .int .i64 0, .int .i64 0, .int .i64 0, .int .i64 0] 80)).alloc (.cells #[.string s, .int .i64 0, .int .i64 0, .int .i64 0, .int .i64 0] 80)) (w.heap.size + 1) 80 #[.string ⟨#[]⟩, .int .i64 0, .int .i64 0, .int .i64 0, .int .i64 0] := ((Bk.new (w.alloc (.cells #[.string s, .int .i64 x0, .int .i64 x1, .int .i64 y0, .int .i64 y1] 75)) 80 #[.string ⟨#[]⟩, .int .i64 0, .int .i64 0, .int .i64 0, .int .i64 0]).alloc _).cast (by simp)
  have hO0 : Bk (((w.alloc (.cells #[.string s, .int .i64 x0, .int .i64 x1, .int .i64 y0, .int .i64 y1] 75)).alloc (.cells #[.string ⟨#[]⟩, .int .i64 0, .int .i64 0, .int .i64 0, .int .i64 0] 80)).alloc (.cells #[.string s, .int .i64 0, .int .i64 0, .int .i64 0, .int .i64 0] 80)) (w.heap.size + 1 + 1) 80 #[.string s, .int .i64 0, .int .i64 0, .int .i64 0, .int .i64 0] := (Bk.new ((w.alloc (.cells #[.string s, .int .i64 x0, .int .i64 x1, .int .i64 y0, .int .i64 y1] 75)).alloc (.cells #[.string ⟨#[]⟩, .int .i64 0, .int .i64 0, .int .i64 0, .int .i64 0] 80)) 80 #[.string s, .int .i64 0, .int .i64 0, .int .i64 0, .int .i64 0]).cast (by simp)
  go_enter Try.func55, Try.ntmps55
  go_wp2_with fail
  refine (toStep_any x0 x1 _).mono ?_
  rintro e w1 ⟨rfl, b1⟩
  have hW1 := hW0.trans (b1.mono hW0.size)
  have hP1 := hP0.below b1 hP0.lt
  have hR1 := hR0.below b1 hR0.lt
  have hO1 := hO0.below b1 hO0.lt
  clear b1 hW0 hP0 hR0 hO0
  have o1 : World.cell? w1 ⟨w.heap.size + 1 + 1, 1, none⟩ = some (.int .i64 0) := by rw [hO1.cell]; rfl
  have of1 := hO1.free 1
  have o2 : World.cell? w1 ⟨w.heap.size + 1 + 1, 2, none⟩ = some (.int .i64 0) := by rw [hO1.cell]; rfl
  have of2 := hO1.free 2
  have ol := hO1.lt
  have hP2 := (hP1.far (p := ⟨w.heap.size + 1 + 1, 1, none⟩) (by dsimp only; omega) (.int .i64 x0)).far (p := ⟨w.heap.size + 1 + 1, 2, none⟩) (by dsimp only; omega) (.int .i64 x1)
  have hR2 := (hR1.far (p := ⟨w.heap.size + 1 + 1, 1, none⟩) (by dsimp only; omega) (.int .i64 x0)).far (p := ⟨w.heap.size + 1 + 1, 2, none⟩) (by dsimp only; omega) (.int .i64 x1)
  have hO2 : Bk (World.setCell (World.setCell w1 ⟨w.heap.size + 1 + 1, 1, none⟩ (.int .i64 x0)) ⟨w.heap.size + 1 + 1, 2, none⟩ (.int .i64 x1)) (w.heap.size + 1 + 1) 80 #[.string s, .int .i64 x0, .int .i64 x1, .int .i64 0, .int .i64 0] := (hO1.put 1 (.int .i64 x0)).put 2 (.int .i64 x1)
  have hW2 := (hW1.setCell (p := ⟨w.heap.size + 1 + 1, 1, none⟩) (by dsimp only; omega) (.int .i64 x0)).setCell (p := ⟨w.heap.size + 1 + 1, 2, none⟩) (by dsimp only; omega) (.int .i64 x1)
  have k3 : World.cell? (World.setCell (World.setCell w1 ⟨w.heap.size + 1 + 1, 1, none⟩ (.int .i64 x0)) ⟨w.heap.size + 1 + 1, 2, none⟩ (.int .i64 x1)) ⟨w.heap.size, 3, none⟩ = some (.int .i64 y0) := by rw [hP2.cell]; rfl
  have k4 : World.cell? (World.setCell (World.setCell w1 ⟨w.heap.size + 1 + 1, 1, none⟩ (.int .i64 x0)) ⟨w.heap.size + 1 + 1, 2, none⟩ (.int .i64 x1)) ⟨w.heap.size, 4, none⟩ = some (.int .i64 y1) := by rw [hP2.cell]; rfl
  have HP1 := Lib.hid hP1
  clear hP1
  have HR1 := Lib.hid hR1
  clear hR1
  have HO1 := Lib.hid hO1
  clear hO1
  have HW1 := Lib.hid hW1
  clear hW1
  have HP2 := Lib.hid hP2
  clear hP2
  have HR2 := Lib.hid hR2
  clear hR2
  have HO2 := Lib.hid hO2
  clear hO2
  have HW2 := Lib.hid hW2
  clear hW2
  go_wp2_with fail
  refine (toStep_any y0 y1 _).mono ?_
  rintro e w3 ⟨rfl, b3⟩
  have hW3 := HW2.out.trans (b3.mono HW2.out.size)
  have hR3 := HR2.out.below b3 HR2.out.lt
  have hO3 := HO2.out.below b3 HO2.out.lt
  clear b3 o1 o2 of1 of2 ol k3 k4 HP1 HR1 HO1 HW1 HP2 HR2 HO2 HW2
  have o3 : World.cell? w3 ⟨w.heap.size + 1 + 1, 3, none⟩ = some (.int .i64 0) := by rw [hO3.cell]; rfl
  have of3 := hO3.free 3
  have o4 : World.cell? w3 ⟨w.heap.size + 1 + 1, 4, none⟩ = some (.int .i64 0) := by rw [hO3.cell]; rfl
  have of4 := hO3.free 4
  have ol := hO3.lt
  have hR4 := (hR3.far (p := ⟨w.heap.size + 1 + 1, 3, none⟩) (by dsimp only; omega) (.int .i64 y0)).far (p := ⟨w.heap.size + 1 + 1, 4, none⟩) (by dsimp only; omega) (.int .i64 y1)
  have hO4 : Bk (World.setCell (World.setCell w3 ⟨w.heap.size + 1 + 1, 3, none⟩ (.int .i64 y0)) ⟨w.heap.size + 1 + 1, 4, none⟩ (.int .i64 y1)) (w.heap.size + 1 + 1) 80 #[.string s, .int .i64 x0, .int .i64 x1, .int .i64 y0, .int .i64 y1] := (hO3.put 3 (.int .i64 y0)).put 4 (.int .i64 y1)
  have hW4 := (hW3.setCell (p := ⟨w.heap.size + 1 + 1, 3, none⟩) (by dsimp only; omega) (.int .i64 y0)).setCell (p := ⟨w.heap.size + 1 + 1, 4, none⟩) (by dsimp only; omega) (.int .i64 y1)
  have p0 : World.cell? (World.setCell (World.setCell w3 ⟨w.heap.size + 1 + 1, 3, none⟩ (.int .i64 y0)) ⟨w.heap.size + 1 + 1, 4, none⟩ (.int .i64 y1)) ⟨w.heap.size + 1 + 1, 0, none⟩ = some (.string s) := by rw [hO4.cell]; rfl
  have p1 : World.cell? (World.setCell (World.setCell w3 ⟨w.heap.size + 1 + 1, 3, none⟩ (.int .i64 y0)) ⟨w.heap.size + 1 + 1, 4, none⟩ (.int .i64 y1)) ⟨w.heap.size + 1 + 1, 1, none⟩ = some (.int .i64 x0) := by rw [hO4.cell]; rfl
  have p2 : World.cell? (World.setCell (World.setCell w3 ⟨w.heap.size + 1 + 1, 3, none⟩ (.int .i64 y0)) ⟨w.heap.size + 1 + 1, 4, none⟩ (.int .i64 y1)) ⟨w.heap.size + 1 + 1, 2, none⟩ = some (.int .i64 x1) := by rw [hO4.cell]; rfl
  have p3 : World.cell? (World.setCell (World.setCell w3 ⟨w.heap.size + 1 + 1, 3, none⟩ (.int .i64 y0)) ⟨w.heap.size + 1 + 1, 4, none⟩ (.int .i64 y1)) ⟨w.heap.size + 1 + 1, 3, none⟩ = some (.int .i64 y0) := by rw [hO4.cell]; rfl
  have p4 : World.cell? (World.setCell (World.setCell w3 ⟨w.heap.size + 1 + 1, 3, none⟩ (.int .i64 y0)) ⟨w.heap.size + 1 + 1, 4, none⟩ (.int .i64 y1)) ⟨w.heap.size + 1 + 1, 4, none⟩ = some (.int .i64 y1) := by rw [hO4.cell]; rfl
  have r0 : World.cell? (World.setCell (World.setCell w3 ⟨w.heap.size + 1 + 1, 3, none⟩ (.int .i64 y0)) ⟨w.heap.size + 1 + 1, 4, none⟩ (.int .i64 y1)) ⟨w.heap.size + 1, 0, none⟩ = some (.string ⟨#[]⟩) := by rw [hR4.cell]; rfl
  have rf0 := hR4.free 0
  have r1 : World.cell? (World.setCell (World.setCell w3 ⟨w.heap.size + 1 + 1, 3, none⟩ (.int .i64 y0)) ⟨w.heap.size + 1 + 1, 4, none⟩ (.int .i64 y1)) ⟨w.heap.size + 1, 1, none⟩ = some (.int .i64 0) := by rw [hR4.cell]; rfl
  have rf1 := hR4.free 1
  have r2 : World.cell? (World.setCell (World.setCell w3 ⟨w.heap.size + 1 + 1, 3, none⟩ (.int .i64 y0)) ⟨w.heap.size + 1 + 1, 4, none⟩ (.int .i64 y1)) ⟨w.heap.size + 1, 2, none⟩ = some (.int .i64 0) := by rw [hR4.cell]; rfl
  have rf2 := hR4.free 2
  have r3 : World.cell? (World.setCell (World.setCell w3 ⟨w.heap.size + 1 + 1, 3, none⟩ (.int .i64 y0)) ⟨w.heap.size + 1 + 1, 4, none⟩ (.int .i64 y1)) ⟨w.heap.size + 1, 3, none⟩ = some (.int .i64 0) := by rw [hR4.cell]; rfl
  have rf3 := hR4.free 3
  have r4 : World.cell? (World.setCell (World.setCell w3 ⟨w.heap.size + 1 + 1, 3, none⟩ (.int .i64 y0)) ⟨w.heap.size + 1 + 1, 4, none⟩ (.int .i64 y1)) ⟨w.heap.size + 1, 4, none⟩ = some (.int .i64 0) := by rw [hR4.cell]; rfl
  have rf4 := hR4.free 4
  have rl := hR4.lt
  have HO3 := Lib.hid hO3
  clear hO3
  have HO4 := Lib.hid hO4
  clear hO4
  have HW3 := Lib.hid hW3
  clear hW3
  have HR3 := Lib.hid hR3
  clear hR3
  go_wp2_with fail
  have hBn := (((((hR4.put 0 (.string s)).put 1 (.int .i64 x0)).put 2 (.int .i64 x1)).put 3 (.int .i64 y0)).put 4 (.int .i64 y1))
  have q0 := hBn.cell 0
  have q1 := hBn.cell 1
  have q2 := hBn.cell 2
  have q3 := hBn.cell 3
  have q4 := hBn.cell 4
  refine bodyPost_ret (v := .agg #[.string s, .int .i64 x0, .int .i64 x1, .int .i64 y0, .int .i64 y1]) (by simp [results, Try.results55, go_sem, q0, q1, q2, q3, q4]) rfl ⟨rfl, ?_⟩
  exact (((((hW4.setCell (p := ⟨w.heap.size + 1, 0, none⟩) (by dsimp only; omega) _).setCell (p := ⟨w.heap.size + 1, 1, none⟩) (by dsimp only; omega) _).setCell (p := ⟨w.heap.size + 1, 2, none⟩) (by dsimp only; omega) _).setCell (p := ⟨w.heap.size + 1, 3, none⟩) (by dsimp only; omega) _).setCell (p := ⟨w.heap.size + 1, 4, none⟩) (by dsimp only; omega) _)

set_option maxRecDepth 100000 in
set_option maxHeartbeats 1000000 in
theorem szPair_any (s : ByteArray) (x0 x1 y0 y1 : Int) (left : Int) (w : World) (hs : s.size ≤ maxLen) (h0 : 0 ≤ left) (h1 : left ≤ 1048576) :
    Calls Try.prog 53 #[.agg #[.string s, .int .i64 x0, .int .i64 x1, .int .i64 y0, .int .i64 y1], .int .i64 left] w (Kept w (.int .i64 (szLeft left s.size))) := by
  have hW0 : Below w.heap.size w (w.alloc (.cells #[.string s, .int .i64 x0, .int .i64 x1, .int .i64 y0, .int .i64 y1] 75)) := (Below.refl _ _).alloc (Nat.le_refl _) _
  unfold maxLen at hs
  have hwr : IntKind.i64.wrap (left - (s.size : Int)) = left - (s.size : Int) := IntWalk.i64_in _ ⟨by omega, by omega⟩
  go_enter Try.func53, Try.ntmps53
  by_cases ht : (left : Int) - (s.size : Nat) < 0
  · go_wp2_with fail
    go_ret
    exact ⟨ret_int (by rw [szLeft, if_pos (by omega)]), hW0⟩
  · have ht' : (0 : Int) ≤ left - (s.size : Nat) := by omega
    go_wp2_with fail
    go_ret
    exact ⟨ret_int (by rw [szLeft, if_neg (by omega)]), hW0⟩

/-- A laws.Pair that came in. -/
def OpenPair (v : Value) (z : PairT) : Prop := v = .agg #[.string z.1, .int .i64 z.2.1, .int .i64 z.2.2.1, .int .i64 z.2.2.2.1, .int .i64 z.2.2.2.2] ∧ z.1.size ≤ maxLen
set_option maxRecDepth 100000 in
theorem open_pair {H : Type} {enc : TypeId × Value → H} {w : World} {r : Reach} {b0 : Nat} {v : Value} {d : DataW H} {p : List MemPlace} (hv : Value.okWide Try.prog w r b0 75 v) (h : DataW.Trod enc Try.prog w 0 (fun _ => true) true 75 v d p) : ∃ z, OpenPair v z := by
  obtain ⟨cs, rfl, hsz⟩ := okWide_struct Try.underlying75 hv
  have hC : Try.prog.cellsOf 75 = 5 := by kernel_rfl
  rw [hC] at hsz
  obtain ⟨l⟩ := cs
  match l, hsz with
  | [c0, c1, c2, c3, c4], _ =>
    obtain ⟨fuel, hf⟩ := h
    obtain ⟨y0, y1, y2, n, hx, _, h0, h1, h2⟩ := Go.Deep.trod_struct3 Try.underlying75 hf
    have k0 : Try.prog.cellsOf 9 = 1 := by kernel_rfl
    have k1 : Try.prog.cellsOf 73 = 2 := by kernel_rfl
    have k2 : Try.prog.cellsOf 3 = 1 := by kernel_rfl
    have g0 : DataW.trod enc Try.prog w 0 (fun _ => true) true n 9 [c0] = some y0 := by simpa [Value.cells, k0] using h0
    have g1 : DataW.trod enc Try.prog w 0 (fun _ => true) true n 73 [c1, c2] = some y1 := by simpa [Value.cells, k1] using h1
    have g2 : DataW.trod enc Try.prog w 0 (fun _ => true) true n 73 [c3, c4] = some y2 := by simpa [Value.cells, k1] using h2
    obtain ⟨u0, u1, m1, _, _, e0, e1⟩ := trod_struct2 Try.underlying73 g1
    obtain ⟨u2, u3, m2, _, _, e2, e3⟩ := trod_struct2 Try.underlying73 g2
    have e0' : DataW.trod enc Try.prog w 0 (fun _ => true) true m1 3 [c1] = some u0 := by simpa [k2] using e0
    have e1' : DataW.trod enc Try.prog w 0 (fun _ => true) true m1 3 [c2] = some u1 := by simpa [k2] using e1
    have e2' : DataW.trod enc Try.prog w 0 (fun _ => true) true m2 3 [c3] = some u2 := by simpa [k2] using e2
    have e3' : DataW.trod enc Try.prog w 0 (fun _ => true) true m2 3 [c4] = some u3 := by simpa [k2] using e3
    obtain ⟨s0, q0, _, z0⟩ := DataW.trod_string Try.underlying9 g0
    obtain ⟨l1, q1, _, _⟩ := DataW.trod_int Try.underlying3 e0'
    obtain ⟨l2, q2, _, _⟩ := DataW.trod_int Try.underlying3 e1'
    obtain ⟨l3, q3, _, _⟩ := DataW.trod_int Try.underlying3 e2'
    obtain ⟨l4, q4, _, _⟩ := DataW.trod_int Try.underlying3 e3'
    simp at q0 q1 q2 q3 q4
    subst q0 q1 q2 q3 q4
    exact ⟨(s0, l1, l2, l3, l4), rfl, z0⟩

end Go.Proofs.Ytgnmfneinnojnaa
