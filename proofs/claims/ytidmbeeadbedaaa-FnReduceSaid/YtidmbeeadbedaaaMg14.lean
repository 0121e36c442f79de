/- Merged texts: a claim has a limit of files. -/
import Derived.Test.YtidmbeeadbedaaaDrw
import Derived.Test.YtidmbeeadbedaaaMkB
import Derived.Test.YtidmbeeadbedaaaMg2
import Derived.Test.YtidmbeeadbedaaaMg4
import Derived.Test.YtidmbeeadbedaaaMg7
import Derived.Test.YtidmbeeadbedaaaMg1

/- Walk over MakeSystem of the reference: a system that is in order, in memory of its own. -/
namespace Go.Proofs.Ytidmbeeadbedaaa
open Go.RowKit Go.Shelf

def SysMade (w : World) (e : Ending) (w' : World) : Prop := ∃ (l : Int) (B : Option Addr) (k d : Nat) (rs : List RuleT), systemOk l rs = true ∧ k = rs.length ∧ e = .returned (.agg #[.int .i64 l, .slice B k d]) ∧ w'.ownsRow w.heap.size 156 2 (.slice B k d) k (cellsRule rs) ∧ Below w.heap.size w w'
set_option maxRecDepth 100000 in
set_option maxHeartbeats 2000000 in
theorem makeSystem_any (A : Option Addr) (n c : Nat) (zs : List Int) (p : Nat) (w : World) (hr : Rd w A (u8c zs)) (hn : n = zs.length) (hb : n ≤ 1048576) (hz : ∀ z ∈ zs, 0 ≤ z ∧ z ≤ 255) (hp : p ≤ 1000) :
    Calls Try.prog 29 #[.slice A n c, .int .i64 p] w (SysMade w) := by
  have hal := (Below.refl w.heap.size w).alloc (Nat.le_refl _) (.cells #[.int .i64 0, .slice none 0 0] 25)
  have hB := Bk.new w 25 #[.int .i64 0, .slice none 0 0]
  have hr1 := hr.keep hal
  obtain ⟨W, hWd⟩ : ∃ z, z = w.alloc (.cells #[.int .i64 0, .slice none 0 0] 25) := ⟨_, rfl⟩
  rw [← hWd] at hal hB hr1
  obtain ⟨P, hP⟩ : ∃ z, z = W.heap.size := ⟨_, rfl⟩
  have hne : u8c zs ≠ [] → ∀ a, A = some a → a.block ≠ P := fun hx => rd_ne hr1 hx (Nat.le_of_eq hP.symm)
  have lP : w.heap.size < P := by rw [hP]; exact hB.lt
  have hL := l31New_any A n c zs p W hr1 hn hb hz hp
  have Hr := Lib.hid hr
  clear hr
  have Hn := Lib.hid hn
  clear hn
  have Hz := Lib.hid hz
  clear hz
  have Hne := Lib.hid hne
  clear hne
  have HWd := Lib.hid hWd
  clear hWd
  have HL := Lib.hid hL
  clear hL
  have Hal := Lib.hid hal
  clear hal
  have HB := Lib.hid hB
  clear hB
  have Hr1 := Lib.hid hr1
  clear hr1
  have HP := Lib.hid hP
  clear hP
  go_enter Try.func29, Try.ntmps29
  go_wp2_with fail
  rw [← HWd.out]
  with_reducible refine HL.out.mono ?_
  rintro e w1 ⟨rfl, hC1, hb1⟩
  have hW1 := Hal.out.trans (hb1.mono Hal.out.size)
  have hB1 := HB.out.below hb1 HB.out.lt
  rw [← HP.out] at hC1
  rw [← HP.out]
  have hS1 : Src w1 P A n c zs := ⟨hC1, Hr1.out.keep hb1, Hn.out, hb, Hz.out, Hne.out⟩
  clear hC1 hb1
  have HS1 := Lib.hid hS1
  clear hS1
  have HW1 := Lib.hid hW1
  clear hW1
  have HB1 := Lib.hid hB1
  clear hB1
  go_wp2_with fail
  with_reducible refine (l03Draw_any _ HS1.out).mono ?_
  rintro e w2 ⟨l, B, k, d, rs, hok, hk, rfl, hO, -, hG2⟩
  have hW2 := HW1.out.trans (gb_below hG2 HW1.out.size (Nat.le_of_lt lP))
  have hB2 := HB1.out.grown hG2 (by intro e; injection e with e; omega)
  have hlt := HB1.out.lt
  have c0 : w2.cell? ⟨w.heap.size, 0, none⟩ = some (.int .i64 0) := by rw [hB2.cell]; rfl
  have c1 : w2.cell? ⟨w.heap.size, 1, none⟩ = some (.slice none 0 0) := by rw [hB2.cell]; rfl
  have f0 := hB2.free 0
  have f1 := hB2.free 1
  have lb := hB2.lt
  clear hG2
  have HW2 := Lib.hid hW2
  clear hW2
  have HB2 := Lib.hid hB2
  clear hB2
  have Hok := Lib.hid hok
  clear hok
  have Hk := Lib.hid hk
  clear hk
  have HO := Lib.hid hO
  clear hO
  go_wp2_with fail
  have hne : (Value.slice B k d).ownBlock ≠ some w.heap.size := by
    intro e
    have := (HO.out.lt _ e).1
    omega
  have hO9 := own_mono (own_far3 (own_far3 HO.out (p := ⟨w.heap.size, 0, none⟩) hne (.int .i64 l)) (p := ⟨w.heap.size, 1, none⟩) hne (.slice B k d)) (b' := w.heap.size) (Nat.le_of_lt hlt)
  have hW9 := (HW2.out.setCell (p := ⟨w.heap.size, 0, none⟩) (Nat.le_refl _) (.int .i64 l)).setCell (p := ⟨w.heap.size, 1, none⟩) (Nat.le_refl _) (.slice B k d)
  have hBn := (HB2.out.put 0 (.int .i64 l)).put 1 (.slice B k d)
  have q0 := hBn.cell 0
  have q1 := hBn.cell 1
  refine bodyPost_ret (v := .agg #[.int .i64 l, .slice B k d]) (by simp [results, Try.results29, go_sem, q0, q1]) rfl ?_
  exact ⟨l, B, k, d, rs, Hok.out, Hk.out, rfl, hO9, hW9⟩

end Go.Proofs.Ytidmbeeadbedaaa

/- A slice of bytes that came in, opened. -/
namespace Go.Proofs.Ytidmbeeadbedaaa
open Go.ChangeShapes Go.WideShapes Go.ChangeAt Go.RowKit Go.Shelf

section
variable {H : Type} {enc : TypeId × Value → H} {w : World} {base : Nat} {spare : Nat → Bool} {held : Bool}
/-- A slice of bytes that came in. -/
theorem open_byteS {a : Option Addr} {n c : Nat} {d : DataW H} {p : List MemPlace} (h : DataW.Trod enc Try.prog w 0 (fun _ => true) true 22 (.slice a n c) d p) :
    ∃ zs : List Int, Rd w a (u8c zs) ∧ n = zs.length ∧ n ≤ maxLen ∧ ∀ z ∈ zs, (Lit.int .u8 z).wf = true := by
  obtain ⟨fuel, hf⟩ := h
  rcases open_ints Try.underlying22 Try.underlying5 (by kernel_rfl) hf with ⟨hcs, _⟩ | ⟨x, l, cc, zs, hcs, _, hl, hm, hz, _, hcell, hwz⟩
  · simp [Value.cells] at hcs
    obtain ⟨rfl, rfl, rfl⟩ := hcs
    exact ⟨[], Rd.nil _ _, rfl, by unfold maxLen; omega, by simp⟩
  · simp [Value.cells] at hcs
    obtain ⟨rfl, rfl, rfl⟩ := hcs
    have hz' : zs.length = c := by simpa using hz
    refine ⟨zs.take n, rd_of_cells fun j u hu => ?_, by rw [List.length_take]; omega, Nat.le_trans hl hm, fun z hz => hwz z (List.mem_of_mem_take hz)⟩
    simp only [u8c, List.getElem?_map, List.getElem?_take] at hu
    split at hu
    · have hj : j < zs.length := by omega
      rw [hcell j hj]
      simp [hj] at hu ⊢
      exact hu
    · simp at hu
end
theorem byte_wf {z : Int} (h : (Lit.int .u8 z).wf = true) : 0 ≤ z ∧ z ≤ 255 := by
  have e1 : IntKind.u8.min = 0 := rfl
  have e2 : IntKind.u8.max = 255 := rfl
  simp [Lit.wf, e1, e2] at h
  exact h

end Go.Proofs.Ytidmbeeadbedaaa

/- Arguments opened: slices of structs of one-cell fields and structs of an int and a slice, for the rows' proofs. -/
namespace Go.Proofs.Ytidmbeeadbedaaa
open Go.ChangeShapes Go.WideShapes Go.ChangeAt Go.RowKit Go.Shelf

theorem list_of_forall {α : Type} {P : Nat → α → Prop} (n : Nat) (h : ∀ i, i < n → ∃ x, P i x) : ∃ xs : List α, xs.length = n ∧ ∀ i (hi : i < xs.length), P i xs[i] := by
  induction n with
  | zero => exact ⟨[], rfl, fun i hi => absurd hi (Nat.not_lt_zero _)⟩
  | succ n ih =>
    obtain ⟨xs, hl, hp⟩ := ih fun i hi => h i (by omega)
    obtain ⟨x, hx⟩ := h n (by omega)
    refine ⟨xs ++ [x], by simp [hl], fun i hi => ?_⟩
    by_cases e : i < xs.length
    · rw [List.getElem_append_left e]; exact hp i e
    · have : i = n := by simp at hi; omega
      subst this
      rw [List.getElem_append_right (by omega)]
      simpa [hl] using hx

section
variable {H : Type} {enc : TypeId × Value → H} {w : World}
/-- The elements' cells of a slice that came in. -/
theorem open_flat {α : Type} {f : α → List Value} {m : Nat} (hm : ∀ x, (f x).length = m) {t e : TypeId} {n c : Nat} {a : Option Addr} {d : DataW H} {p : List MemPlace} (good : α → Prop)
    (ht : Try.prog.underlying t = some (.slice e)) (hC : Try.prog.cellsOf e = m)
    (hel : ∀ (k : Nat) (cs : List Value) (x : DataW H × List MemPlace), cs.length = m → DataW.trod enc Try.prog w 0 (fun _ => true) true k e cs = some x → ∃ y, cs = f y ∧ good y)
    (h : DataW.Trod enc Try.prog w 0 (fun _ => true) true t (.slice a n c) d p) :
    ∃ xs : List α, Rd w a (xs.flatMap f) ∧ n = xs.length ∧ n ≤ maxLen ∧ ∀ x ∈ xs, good x := by
  obtain ⟨fuel, hf⟩ := h
  rcases Go.Deep.open_slice ht hf with ⟨hcs, _⟩ | ⟨x, l, cc, M, k, D, Pl, hcs, _, hl, hmx, hM, _, hi⟩
  · simp [Value.cells] at hcs
    obtain ⟨rfl, rfl, rfl⟩ := hcs
    exact ⟨[], Rd.nil _ _, rfl, by unfold maxLen; omega, by simp⟩
  · simp [Value.cells] at hcs
    obtain ⟨rfl, rfl, rfl⟩ := hcs
    have hM' : M = c := by simpa using hM
    subst hM'
    obtain ⟨xs, hlen, hp⟩ := list_of_forall (P := fun i y => good y ∧ ∀ j, j < m → w.cell? (x.add (i * m + j)) = (f y)[j]?) n fun i hin => by
      obtain ⟨cs, hc, htr⟩ := hi i (by omega)
      rw [hC] at hc
      obtain ⟨_, hcl, hat⟩ := World.cells?_some hc
      obtain ⟨y, rfl, hg⟩ := hel _ _ _ hcl htr
      exact ⟨y, hg, fun j hj => by rw [← hat j hj, Go.Deep.add_add]⟩
    refine ⟨xs, rd_of_cells fun j u hu => ?_, hlen.symm, Nat.le_trans hl hmx, fun y hy => ?_⟩
    · have hj : j < xs.length * m := by rw [← flat_len hm xs]; exact (List.getElem?_eq_some_iff.1 hu).1
      have hm0 : 0 < m := by
        rcases Nat.eq_zero_or_pos m with e0 | e0
        · rw [e0] at hj; omega
        · exact e0
      have hi' : j / m < xs.length := Nat.div_lt_of_lt_mul (by rw [Nat.mul_comm]; exact hj)
      have ej : j / m * m + j % m = j := by rw [Nat.mul_comm]; exact Nat.div_add_mod j m
      have := (hp (j / m) hi').2 (j % m) (Nat.mod_lt _ hm0)
      rw [ej] at this
      rw [this, ← flat_get hm xs (j / m) (j % m) hi' (Nat.mod_lt _ hm0), ej, hu]
    · obtain ⟨i, hi2, rfl⟩ := List.mem_iff_getElem.1 hy
      exact (hp i hi2).1
end




/-- A slice of laws.Rule that came in. -/
def OpenSlRules (w : World) (a : Option Addr) (n : Nat) (xs : List RuleT) : Prop := Rd w a (cellsRule xs) ∧ n = xs.length ∧ n ≤ maxLen ∧ ∀ x ∈ xs, (fun x : RuleT => x.1.size ≤ maxLen ∧ x.2.size ≤ maxLen) x
set_option maxRecDepth 100000 in
theorem open_ruleS {H : Type} {enc : TypeId × Value → H} {w : World} {a : Option Addr} {n c : Nat} {d : DataW H} {p : List MemPlace} (h : DataW.Trod enc Try.prog w 0 (fun _ => true) true 80 (.slice a n c) d p) : ∃ xs : List RuleT, OpenSlRules w a n xs := by
  refine open_flat (f := encRule) (m := 2) (fun _ => rfl) (fun x : RuleT => x.1.size ≤ maxLen ∧ x.2.size ≤ maxLen) Try.underlying80 (by kernel_rfl) ?_ h
  intro k cs x hl ht
  obtain ⟨ys, k', _, _, _, hlen, hf⟩ := DataW.trod_struct Try.underlying188 ht
  match cs, hl, ys, hlen with
  | [c0, c1], _, [y0, y1], _ =>
    have h0 := hf 0 _ rfl
    have k0 : Try.prog.cellsOf 9 = 1 := by kernel_rfl
    have g0 : DataW.trod enc Try.prog w 0 (fun _ => true) true k' 9 [c0] = some y0 := by simpa [k0] using h0
    obtain ⟨s0, q0, _, z0⟩ := DataW.trod_string Try.underlying9 g0
    simp at q0
    subst q0
    have h1 := hf 1 _ rfl
    have k1 : Try.prog.cellsOf 9 = 1 := by kernel_rfl
    have g1 : DataW.trod enc Try.prog w 0 (fun _ => true) true k' 9 [c1] = some y1 := by simpa [k1] using h1
    obtain ⟨s1, q1, _, z1⟩ := DataW.trod_string Try.underlying9 g1
    simp at q1
    subst q1
    exact ⟨(s0, s1), rfl, ⟨z0, z1⟩⟩


/-- A laws.System that came in. -/
def OpenSystem (w : World) (v : Value) (z : Int × Option Addr × Nat × Nat × List RuleT) : Prop :=
  v = .agg #[.int .i64 z.1, .slice z.2.1 z.2.2.1 z.2.2.2.1] ∧ Rd w z.2.1 (cellsRule z.2.2.2.2) ∧ z.2.2.1 = z.2.2.2.2.length ∧ z.2.2.1 ≤ maxLen ∧ ∀ x ∈ z.2.2.2.2, (fun x : RuleT => x.1.size ≤ maxLen ∧ x.2.size ≤ maxLen) x
set_option maxRecDepth 100000 in
theorem open_system {H : Type} {enc : TypeId × Value → H} {w : World} {r : Reach} {b0 : Nat} {v : Value} {d : DataW H} {p : List MemPlace} (hv : Value.okWide Try.prog w r b0 82 v) (h : DataW.Trod enc Try.prog w 0 (fun _ => true) true 82 v d p) : ∃ z, OpenSystem w v z := by
  obtain ⟨c0, c1, y0, y1, m, rfl, _, _, g0, g1⟩ := Go.Joins.open_agg2 Try.underlying82 (by kernel_rfl) (by kernel_rfl) hv h
  obtain ⟨l, q0, _, _⟩ := DataW.trod_int Try.underlying3 g0
  simp at q0
  subst q0
  obtain ⟨a, n, c, e1⟩ : ∃ a n c, c1 = .slice a n c := by
    rcases Go.Deep.open_slice Try.underlying80 g1 with ⟨hcs, _⟩ | ⟨x, l', cc, _, _, _, _, hcs, _⟩
    · simp at hcs; exact ⟨_, _, _, hcs⟩
    · simp at hcs; exact ⟨_, _, _, hcs⟩
  subst e1
  have h1' : DataW.Trod enc Try.prog w 0 (fun _ => true) true 80 (.slice a n c) y1.1 y1.2 := ⟨m, by simpa [Value.cells] using g1⟩
  obtain ⟨xs, k1, k2, k3, k4⟩ := open_ruleS h1'
  exact ⟨(l, a, n, c, xs), rfl, k1, k2, k3, k4⟩




end Go.Proofs.Ytidmbeeadbedaaa

/- What the laws' walks need: sizes that are counted down. -/
namespace Go.Proofs.Ytidmbeeadbedaaa
open Go.RowKit Go.Shelf

theorem le_big {n : Nat} (h : n ≤ 1048576) : n ≤ 9223372036854775807 := by omega

theorem le_big2 {n : Nat} (h : n ≤ 8589934592) : n ≤ 9223372036854775807 := by omega
theorem own_drew {w : World} {b : Nat} {t : TypeId} {m n : Nat} {v : Value} {xs : List Value} (h : w.ownsRow b t m v n xs) : w.drew.ownsRow b t m v n xs := h

end Go.Proofs.Ytidmbeeadbedaaa
