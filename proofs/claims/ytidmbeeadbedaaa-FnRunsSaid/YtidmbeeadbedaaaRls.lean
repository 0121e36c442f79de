/- Walk over l04Case of the reference: some system and some word, weakly. -/
import Derived.Test.YtidmbeeadbedaaaAnyS
namespace Go.Proofs.Ytidmbeeadbedaaa
open Go.RowKit Go.Shelf

/-- A system and a word that are not large, the system's rules in memory of its own. -/
def CaseS (P : Nat) (A : Option Addr) (n c : Nat) (zs : List Int) (w : World) (e : Ending) (w' : World) : Prop := ∃ (l : Int) (B : Option Addr) (k d : Nat) (rs : List RuleT) (u : ByteArray), (-9223372036854775808 ≤ l ∧ l ≤ 9223372036854775807) ∧ (k = rs.length ∧ Fair rs) ∧ u.size ≤ 24 ∧ e = .returned (.tuple #[.agg #[.int .i64 l, .slice B k d], .string u]) ∧ w'.ownsRow w.heap.size 156 2 (.slice B k d) k (cellsRule rs) ∧ Src w' P A n c zs ∧ w.grownBy w' (some P)
set_option maxRecDepth 100000 in
set_option maxHeartbeats 4000000 in
theorem l04Case_any {P : Nat} {A : Option Addr} {n c : Nat} {zs : List Int} (w : World) (h : Src w P A n c zs) : Calls Try.prog 122 #[.pointer (some ⟨P, 0, none⟩)] w (CaseS P A n c zs w) := by
  have lP := h.cur.lt
  have hw1 := (Below.refl w.heap.size w).alloc (Nat.le_refl _) (.cells #[.int .i64 0, .slice none 0 0] 25)
  have h1 := h.below hw1
  obtain ⟨W, hW⟩ : ∃ z, z = w.alloc (.cells #[.int .i64 0, .slice none 0 0] 25) := ⟨_, rfl⟩
  rw [← hW] at hw1 h1
  clear hw1
  have H := Lib.hid h
  clear h
  have H1 := Lib.hid h1
  clear h1
  have HW := Lib.hid hW
  clear hW
  go_enter Try.func122, Try.ntmps122
  go_wp2_with fail
  rw [← HW.out]
  with_reducible refine (l03Any_any _ H1.out).mono ?_
  rintro e w1 ⟨l, B, k, d, rs, hl, ⟨hk, hfr⟩, rfl, hO, hs1, hg1⟩
  have hD := AnySt.make (l := l) H.out HW.out hO hk hs1 hg1
  obtain ⟨sb, hsb⟩ : ∃ z, z = w1.heap.size := ⟨_, rfl⟩
  obtain ⟨w2, hw2⟩ : ∃ z, z = w1.alloc (.cells #[.int .i64 l, .slice B k d] 25) := ⟨_, rfl⟩
  rw [← hsb, ← hw2] at hD
  clear hO hs1 hg1 H1 HW
  obtain ⟨m4, hm4⟩ : ∃ z, (if (4 : Int) < l then (4 : Int) else l) = z := ⟨_, rfl⟩
  obtain ⟨m1, hm1⟩ : ∃ z, (if (1 : Int) < m4 then m4 else 1) = z := ⟨_, rfl⟩
  have hin : 1 ≤ m1 ∧ m1 ≤ 4 := by
    rw [← hm1]
    have : m4 ≤ 4 := by rw [← hm4]; split <;> omega
    split <;> omega
  obtain ⟨K, hK⟩ : ∃ K : Nat, m1 = (K : Int) := ⟨m1.toNat, by omega⟩
  have hK1 : 1 ≤ K := by omega
  have hK4 : K ≤ 4 := by omega
  clear hin
  have HD := Lib.hid hD
  clear hD
  have Hk := Lib.hid hk
  clear hk
  have Hfr := Lib.hid hfr
  clear hfr
  have Hsb := Lib.hid hsb
  clear hsb
  have Hw2 := Lib.hid hw2
  clear hw2
  have Hl := Lib.hid hl
  clear hl
  have HK := Lib.hid hK
  clear hK
  go_wp2_with fail
  rw [← Hw2.out]
  try rw [← Hsb.out]
  have sl0 := HD.out.bkS.lt
  with_reducible refine (HD.out.src.wordI K 8 m1 8 HK.out rfl hK1 hK4 (by omega)).mono ?_
  rintro e w3 ⟨u, hu, -, rfl, hs3, hg3⟩
  have hD3 := HD.out.next hs3 hg3
  clear hs3 hg3 HD sl0 hm4 hm1
  have c0 : w3.cell? ⟨w.heap.size, 0, none⟩ = some (.int .i64 0) := by rw [hD3.bkR.cell]; rfl
  have c1 : w3.cell? ⟨w.heap.size, 1, none⟩ = some (.slice none 0 0) := by rw [hD3.bkR.cell]; rfl
  have f0 := hD3.bkR.free 0
  have f1 := hD3.bkR.free 1
  have lb := hD3.bkR.lt
  have s0 : w3.cell? ⟨sb, 0, none⟩ = some (.int .i64 l) := by rw [hD3.bkS.cell]; rfl
  have s1 : w3.cell? ⟨sb, 1, none⟩ = some (.slice B k d) := by rw [hD3.bkS.cell]; rfl
  have sf0 := hD3.bkS.free 0
  have sf1 := hD3.bkS.free 1
  have sl := hD3.bkS.lt
  have HD3 := Lib.hid hD3
  clear hD3
  go_wp2_with fail
  with_reducible refine (HD3.out.src.onceI 10 10 rfl (by omega) (by omega)).mono ?_
  rintro e w4 ⟨ob, rfl, hs4, hg4⟩
  have hD4 := HD3.out.next hs4 hg4
  clear hs4 hg4 HD3 c0 c1 f0 f1 lb s0 s1 sf0 sf1 sl
  have c0 : w4.cell? ⟨w.heap.size, 0, none⟩ = some (.int .i64 0) := by rw [hD4.bkR.cell]; rfl
  have c1 : w4.cell? ⟨w.heap.size, 1, none⟩ = some (.slice none 0 0) := by rw [hD4.bkR.cell]; rfl
  have f0 := hD4.bkR.free 0
  have f1 := hD4.bkR.free 1
  have lb := hD4.bkR.lt
  have s0 : w4.cell? ⟨sb, 0, none⟩ = some (.int .i64 l) := by rw [hD4.bkS.cell]; rfl
  have s1 : w4.cell? ⟨sb, 1, none⟩ = some (.slice B k d) := by rw [hD4.bkS.cell]; rfl
  have sf0 := hD4.bkS.free 0
  have sf1 := hD4.bkS.free 1
  have sl := hD4.bkS.lt
  have HD4 := Lib.hid hD4
  clear hD4
  cases ob
  · skip
    have hlS := HD4.out.lS
    go_wp2_with fail
    have hW9 : Below w.heap.size w4 ((w4.setCell ⟨w.heap.size, 0, none⟩ (.int .i64 l)).setCell ⟨w.heap.size, 1, none⟩ (.slice B k d)) := ((Below.refl _ _).setCell (p := ⟨w.heap.size, 0, none⟩) (Nat.le_refl _) _).setCell (p := ⟨w.heap.size, 1, none⟩) (Nat.le_refl _) _
    have hne : (Value.slice B k d).ownBlock ≠ some w.heap.size := by
      intro e
      have := (HD4.out.own.lt _ e).1
      omega
    have hO9 := own_mono (own_far3 (own_far3 HD4.out.own (p := ⟨w.heap.size, 0, none⟩) hne (.int .i64 l)) (p := ⟨w.heap.size, 1, none⟩) hne (.slice B k d)) (b' := w.heap.size) (by omega)
    have hC9 := cur_low HD4.out.cur hW9 HD4.out.lP
    have hG9 := gb_up HD4.out.gb hW9
    have hBn := (HD4.out.bkR.put 0 (.int .i64 l)).put 1 (.slice B k d)
    have q0 := hBn.cell 0
    have q1 := hBn.cell 1
    refine bodyPost_ret (v := .tuple #[.agg #[.int .i64 l, .slice B k d], .string u]) (by simp [results, Try.results122, go_sem, q0, q1]) rfl ?_
    exact ⟨l, B, k, d, rs, u, Hl.out, ⟨Hk.out, Hfr.out⟩, (by omega), rfl, hO9, HD4.out.src0.next hC9 hG9, hG9⟩
  · go_wp2_with fail
    with_reducible refine (HD4.out.src.anyW).mono ?_
    rintro e w5 ⟨u2, hu2, rfl, hs5, hg5⟩
    have hD5 := HD4.out.next hs5 hg5
    clear hs5 hg5 HD4 c0 c1 f0 f1 lb s0 s1 sf0 sf1 sl
    have c0 : w5.cell? ⟨w.heap.size, 0, none⟩ = some (.int .i64 0) := by rw [hD5.bkR.cell]; rfl
    have c1 : w5.cell? ⟨w.heap.size, 1, none⟩ = some (.slice none 0 0) := by rw [hD5.bkR.cell]; rfl
    have f0 := hD5.bkR.free 0
    have f1 := hD5.bkR.free 1
    have lb := hD5.bkR.lt
    have s0 : w5.cell? ⟨sb, 0, none⟩ = some (.int .i64 l) := by rw [hD5.bkS.cell]; rfl
    have s1 : w5.cell? ⟨sb, 1, none⟩ = some (.slice B k d) := by rw [hD5.bkS.cell]; rfl
    have sf0 := hD5.bkS.free 0
    have sf1 := hD5.bkS.free 1
    have sl := hD5.bkS.lt
    have HD5 := Lib.hid hD5
    clear hD5
    have hlS := HD5.out.lS
    go_wp2_with fail
    have hW9 : Below w.heap.size w5 ((w5.setCell ⟨w.heap.size, 0, none⟩ (.int .i64 l)).setCell ⟨w.heap.size, 1, none⟩ (.slice B k d)) := ((Below.refl _ _).setCell (p := ⟨w.heap.size, 0, none⟩) (Nat.le_refl _) _).setCell (p := ⟨w.heap.size, 1, none⟩) (Nat.le_refl _) _
    have hne : (Value.slice B k d).ownBlock ≠ some w.heap.size := by
      intro e
      have := (HD5.out.own.lt _ e).1
      omega
    have hO9 := own_mono (own_far3 (own_far3 HD5.out.own (p := ⟨w.heap.size, 0, none⟩) hne (.int .i64 l)) (p := ⟨w.heap.size, 1, none⟩) hne (.slice B k d)) (b' := w.heap.size) (by omega)
    have hC9 := cur_low HD5.out.cur hW9 HD5.out.lP
    have hG9 := gb_up HD5.out.gb hW9
    have hBn := (HD5.out.bkR.put 0 (.int .i64 l)).put 1 (.slice B k d)
    have q0 := hBn.cell 0
    have q1 := hBn.cell 1
    refine bodyPost_ret (v := .tuple #[.agg #[.int .i64 l, .slice B k d], .string u2]) (by simp [results, Try.results122, go_sem, q0, q1]) rfl ?_
    exact ⟨l, B, k, d, rs, u2, Hl.out, ⟨Hk.out, Hfr.out⟩, hu2, rfl, hO9, HD5.out.src0.next hC9 hG9, hG9⟩

end Go.Proofs.Ytidmbeeadbedaaa
