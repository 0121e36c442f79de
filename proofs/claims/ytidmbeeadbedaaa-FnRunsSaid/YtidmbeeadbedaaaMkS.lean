/- Walk over MakeSystem of the reference: a system that is in order, in memory of its own. -/
import Derived.Test.YtidmbeeadbedaaaDrw
namespace Go.Proofs.Ytidmbeeadbedaaa
open Go.RowKit Go.Shelf

def SysMade (w : World) (e : Ending) (w' : World) : Prop := ∃ (l : Int) (B : Option Addr) (k d : Nat) (rs : List RuleT), systemOk l rs = true ∧ k = rs.length ∧ e = .returned (.agg #[.int .i64 l, .slice B k d]) ∧ w'.ownsRow w.heap.size 156 2 (.slice B k d) k (cellsRule rs) ∧ Below w.heap.size w w'
set_option maxRecDepth 100000 in
set_option maxHeartbeats 2000000 in
theorem makeSystem_any (A : Option Addr) (n c : Nat) (zs : List Int) (p : Nat) (w : World) (hr : Rd w A (u8c zs)) (hn : n = zs.length) (hb : n ≤ 1048576) (hz : ∀ z ∈ zs, 0 ≤ z ∧ z ≤ 255) (hp : p ≤ 1000) :
    Calls Try.prog 29 #[.slice A n c, .int .i64 p] w (SysMade w) := by
  have hal := (Below.refl w.heap.size w).alloc (Nat.le_refl _) (.cells #[.int .i64 0, .slice none 0 0] 25)
  have hB := Bk.new w 25 #[.int .i64 0, .slice none 0 0]
  have hr1 := hr.keep hal
  obtain ⟨W, hWd⟩ : ∃ z, z = w.alloc (.cells #[.int .i64 0, .slice none 0 0] 25) := ⟨_, rfl⟩
  rw [← hWd] at hal hB hr1
  obtain ⟨P, hP⟩ : ∃ z, z = W.heap.size := ⟨_, rfl⟩
  have hne : u8c zs ≠ [] → ∀ a, A = some a → a.block ≠ P := fun hx => rd_ne hr1 hx (Nat.le_of_eq hP.symm)
  have lP : w.heap.size < P := by rw [hP]; exact hB.lt
  have hL := l31New_any A n c zs p W hr1 hn hb hz hp
  have Hr := Lib.hid hr
  clear hr
  have Hn := Lib.hid hn
  clear hn
  have Hz := Lib.hid hz
  clear hz
  have Hne := Lib.hid hne
  clear hne
  have HWd := Lib.hid hWd
  clear hWd
  have HL := Lib.hid hL
  clear hL
  have Hal := Lib.hid hal
  clear hal
  have HB := Lib.hid hB
  clear hB
  have Hr1 := Lib.hid hr1
  clear hr1
  have HP := Lib.hid hP
  clear hP
  go_enter Try.func29, Try.ntmps29
  go_wp2_with fail
  rw [← HWd.out]
  with_reducible refine HL.out.mono ?_
  rintro e w1 ⟨rfl, hC1, hb1⟩
  have hW1 := Hal.out.trans (hb1.mono Hal.out.size)
  have hB1 := HB.out.below hb1 HB.out.lt
  rw [← HP.out] at hC1
  rw [← HP.out]
  have hS1 : Src w1 P A n c zs := ⟨hC1, Hr1.out.keep hb1, Hn.out, hb, Hz.out, Hne.out⟩
  clear hC1 hb1
  have HS1 := Lib.hid hS1
  clear hS1
  have HW1 := Lib.hid hW1
  clear hW1
  have HB1 := Lib.hid hB1
  clear hB1
  go_wp2_with fail
  with_reducible refine (l03Draw_any _ HS1.out).mono ?_
  rintro e w2 ⟨l, B, k, d, rs, hok, hk, rfl, hO, -, hG2⟩
  have hW2 := HW1.out.trans (gb_below hG2 HW1.out.size (Nat.le_of_lt lP))
  have hB2 := HB1.out.grown hG2 (by intro e; injection e with e; omega)
  have hlt := HB1.out.lt
  have c0 : w2.cell? ⟨w.heap.size, 0, none⟩ = some (.int .i64 0) := by rw [hB2.cell]; rfl
  have c1 : w2.cell? ⟨w.heap.size, 1, none⟩ = some (.slice none 0 0) := by rw [hB2.cell]; rfl
  have f0 := hB2.free 0
  have f1 := hB2.free 1
  have lb := hB2.lt
  clear hG2
  have HW2 := Lib.hid hW2
  clear hW2
  have HB2 := Lib.hid hB2
  clear hB2
  have Hok := Lib.hid hok
  clear hok
  have Hk := Lib.hid hk
  clear hk
  have HO := Lib.hid hO
  clear hO
  go_wp2_with fail
  have hne : (Value.slice B k d).ownBlock ≠ some w.heap.size := by
    intro e
    have := (HO.out.lt _ e).1
    omega
  have hO9 := own_mono (own_far3 (own_far3 HO.out (p := ⟨w.heap.size, 0, none⟩) hne (.int .i64 l)) (p := ⟨w.heap.size, 1, none⟩) hne (.slice B k d)) (b' := w.heap.size) (Nat.le_of_lt hlt)
  have hW9 := (HW2.out.setCell (p := ⟨w.heap.size, 0, none⟩) (Nat.le_refl _) (.int .i64 l)).setCell (p := ⟨w.heap.size, 1, none⟩) (Nat.le_refl _) (.slice B k d)
  have hBn := (HB2.out.put 0 (.int .i64 l)).put 1 (.slice B k d)
  have q0 := hBn.cell 0
  have q1 := hBn.cell 1
  refine bodyPost_ret (v := .agg #[.int .i64 l, .slice B k d]) (by simp [results, Try.results29, go_sem, q0, q1]) rfl ?_
  exact ⟨l, B, k, d, rs, Hok.out, Hk.out, rfl, hO9, hW9⟩

end Go.Proofs.Ytidmbeeadbedaaa
