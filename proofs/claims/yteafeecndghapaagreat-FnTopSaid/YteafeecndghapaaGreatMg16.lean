/- Merged texts: a claim has a limit of files. -/
import Derived.Test.YteafeecndghapaaGreatAnyS
import Derived.Test.YteafeecndghapaaGreatMg4

/- Walk over l04Case of the reference: some system and some word, weakly. -/
namespace Go.Proofs.YteafeecndghapaaGreat
open Go.RowKit Go.Shelf

/-- A system and a word that are not large, the system's rules in memory of its own. -/
def CaseS (P : Nat) (A : Option Addr) (n c : Nat) (zs : List Int) (w : World) (e : Ending) (w' : World) : Prop := ∃ (l : Int) (B : Option Addr) (k d : Nat) (rs : List RuleT) (u : ByteArray), (-9223372036854775808 ≤ l ∧ l ≤ 9223372036854775807) ∧ (k = rs.length ∧ Fair rs) ∧ u.size ≤ 24 ∧ e = .returned (.tuple #[.agg #[.int .i64 l, .slice B k d], .string u]) ∧ w'.ownsRow w.heap.size 68 2 (.slice B k d) k (cellsRule rs) ∧ Src w' P A n c zs ∧ w.grownBy w' (some P)
set_option maxRecDepth 100000 in
set_option maxHeartbeats 4000000 in
theorem l04Case_any {P : Nat} {A : Option Addr} {n c : Nat} {zs : List Int} (w : World) (h : Src w P A n c zs) : Calls Tryz.prog 30 #[.pointer (some ⟨P, 0, none⟩)] w (CaseS P A n c zs w) := by
  have lP := h.cur.lt
  have hw1 := (Below.refl w.heap.size w).alloc (Nat.le_refl _) (.cells #[.int .i64 0, .slice none 0 0] 25)
  have h1 := h.below hw1
  obtain ⟨W, hW⟩ : ∃ z, z = w.alloc (.cells #[.int .i64 0, .slice none 0 0] 25) := ⟨_, rfl⟩
  rw [← hW] at hw1 h1
  clear hw1
  have H := Lib.hid h
  clear h
  have H1 := Lib.hid h1
  clear h1
  have HW := Lib.hid hW
  clear hW
  go_enter Tryz.func30, Tryz.ntmps30
  go_wp2_with fail
  rw [← HW.out]
  with_reducible refine (l03Any_any _ H1.out).mono ?_
  rintro e w1 ⟨l, B, k, d, rs, hl, ⟨hk, hfr⟩, rfl, hO, hs1, hg1⟩
  have hD := AnySt.make (l := l) H.out HW.out hO hk hs1 hg1
  obtain ⟨sb, hsb⟩ : ∃ z, z = w1.heap.size := ⟨_, rfl⟩
  obtain ⟨w2, hw2⟩ : ∃ z, z = w1.alloc (.cells #[.int .i64 l, .slice B k d] 25) := ⟨_, rfl⟩
  rw [← hsb, ← hw2] at hD
  clear hO hs1 hg1 H1 HW
  obtain ⟨m4, hm4⟩ : ∃ z, (if (4 : Int) < l then (4 : Int) else l) = z := ⟨_, rfl⟩
  obtain ⟨m1, hm1⟩ : ∃ z, (if (1 : Int) < m4 then m4 else 1) = z := ⟨_, rfl⟩
  have hin : 1 ≤ m1 ∧ m1 ≤ 4 := by
    rw [← hm1]
    have : m4 ≤ 4 := by rw [← hm4]; split <;> omega
    split <;> omega
  obtain ⟨K, hK⟩ : ∃ K : Nat, m1 = (K : Int) := ⟨m1.toNat, by omega⟩
  have hK1 : 1 ≤ K := by omega
  have hK4 : K ≤ 4 := by omega
  clear hin
  have HD := Lib.hid hD
  clear hD
  have Hk := Lib.hid hk
  clear hk
  have Hfr := Lib.hid hfr
  clear hfr
  have Hsb := Lib.hid hsb
  clear hsb
  have Hw2 := Lib.hid hw2
  clear hw2
  have Hl := Lib.hid hl
  clear hl
  have HK := Lib.hid hK
  clear hK
  go_wp2_with fail
  rw [← Hw2.out]
  try rw [← Hsb.out]
  have sl0 := HD.out.bkS.lt
  with_reducible refine (HD.out.src.wordI K 8 m1 8 HK.out rfl hK1 hK4 (by omega)).mono ?_
  rintro e w3 ⟨u, hu, -, rfl, hs3, hg3⟩
  have hD3 := HD.out.next hs3 hg3
  clear hs3 hg3 HD sl0 hm4 hm1
  have c0 : w3.cell? ⟨w.heap.size, 0, none⟩ = some (.int .i64 0) := by rw [hD3.bkR.cell]; rfl
  have c1 : w3.cell? ⟨w.heap.size, 1, none⟩ = some (.slice none 0 0) := by rw [hD3.bkR.cell]; rfl
  have f0 := hD3.bkR.free 0
  have f1 := hD3.bkR.free 1
  have lb := hD3.bkR.lt
  have s0 : w3.cell? ⟨sb, 0, none⟩ = some (.int .i64 l) := by rw [hD3.bkS.cell]; rfl
  have s1 : w3.cell? ⟨sb, 1, none⟩ = some (.slice B k d) := by rw [hD3.bkS.cell]; rfl
  have sf0 := hD3.bkS.free 0
  have sf1 := hD3.bkS.free 1
  have sl := hD3.bkS.lt
  have HD3 := Lib.hid hD3
  clear hD3
  go_wp2_with fail
  with_reducible refine (HD3.out.src.onceI 10 10 rfl (by omega) (by omega)).mono ?_
  rintro e w4 ⟨ob, rfl, hs4, hg4⟩
  have hD4 := HD3.out.next hs4 hg4
  clear hs4 hg4 HD3 c0 c1 f0 f1 lb s0 s1 sf0 sf1 sl
  have c0 : w4.cell? ⟨w.heap.size, 0, none⟩ = some (.int .i64 0) := by rw [hD4.bkR.cell]; rfl
  have c1 : w4.cell? ⟨w.heap.size, 1, none⟩ = some (.slice none 0 0) := by rw [hD4.bkR.cell]; rfl
  have f0 := hD4.bkR.free 0
  have f1 := hD4.bkR.free 1
  have lb := hD4.bkR.lt
  have s0 : w4.cell? ⟨sb, 0, none⟩ = some (.int .i64 l) := by rw [hD4.bkS.cell]; rfl
  have s1 : w4.cell? ⟨sb, 1, none⟩ = some (.slice B k d) := by rw [hD4.bkS.cell]; rfl
  have sf0 := hD4.bkS.free 0
  have sf1 := hD4.bkS.free 1
  have sl := hD4.bkS.lt
  have HD4 := Lib.hid hD4
  clear hD4
  cases ob
  · skip
    have hlS := HD4.out.lS
    go_wp2_with fail
    have hW9 : Below w.heap.size w4 ((w4.setCell ⟨w.heap.size, 0, none⟩ (.int .i64 l)).setCell ⟨w.heap.size, 1, none⟩ (.slice B k d)) := ((Below.refl _ _).setCell (p := ⟨w.heap.size, 0, none⟩) (Nat.le_refl _) _).setCell (p := ⟨w.heap.size, 1, none⟩) (Nat.le_refl _) _
    have hne : (Value.slice B k d).ownBlock ≠ some w.heap.size := by
      intro e
      have := (HD4.out.own.lt _ e).1
      omega
    have hO9 := own_mono (own_far3 (own_far3 HD4.out.own (p := ⟨w.heap.size, 0, none⟩) hne (.int .i64 l)) (p := ⟨w.heap.size, 1, none⟩) hne (.slice B k d)) (b' := w.heap.size) (by omega)
    have hC9 := cur_low HD4.out.cur hW9 HD4.out.lP
    have hG9 := gb_up HD4.out.gb hW9
    have hBn := (HD4.out.bkR.put 0 (.int .i64 l)).put 1 (.slice B k d)
    have q0 := hBn.cell 0
    have q1 := hBn.cell 1
    refine bodyPost_ret (v := .tuple #[.agg #[.int .i64 l, .slice B k d], .string u]) (by simp [results, Tryz.results30, go_sem, q0, q1]) rfl ?_
    exact ⟨l, B, k, d, rs, u, Hl.out, ⟨Hk.out, Hfr.out⟩, (by omega), rfl, hO9, HD4.out.src0.next hC9 hG9, hG9⟩
  · go_wp2_with fail
    with_reducible refine (HD4.out.src.anyW).mono ?_
    rintro e w5 ⟨u2, hu2, rfl, hs5, hg5⟩
    have hD5 := HD4.out.next hs5 hg5
    clear hs5 hg5 HD4 c0 c1 f0 f1 lb s0 s1 sf0 sf1 sl
    have c0 : w5.cell? ⟨w.heap.size, 0, none⟩ = some (.int .i64 0) := by rw [hD5.bkR.cell]; rfl
    have c1 : w5.cell? ⟨w.heap.size, 1, none⟩ = some (.slice none 0 0) := by rw [hD5.bkR.cell]; rfl
    have f0 := hD5.bkR.free 0
    have f1 := hD5.bkR.free 1
    have lb := hD5.bkR.lt
    have s0 : w5.cell? ⟨sb, 0, none⟩ = some (.int .i64 l) := by rw [hD5.bkS.cell]; rfl
    have s1 : w5.cell? ⟨sb, 1, none⟩ = some (.slice B k d) := by rw [hD5.bkS.cell]; rfl
    have sf0 := hD5.bkS.free 0
    have sf1 := hD5.bkS.free 1
    have sl := hD5.bkS.lt
    have HD5 := Lib.hid hD5
    clear hD5
    have hlS := HD5.out.lS
    go_wp2_with fail
    have hW9 : Below w.heap.size w5 ((w5.setCell ⟨w.heap.size, 0, none⟩ (.int .i64 l)).setCell ⟨w.heap.size, 1, none⟩ (.slice B k d)) := ((Below.refl _ _).setCell (p := ⟨w.heap.size, 0, none⟩) (Nat.le_refl _) _).setCell (p := ⟨w.heap.size, 1, none⟩) (Nat.le_refl _) _
    have hne : (Value.slice B k d).ownBlock ≠ some w.heap.size := by
      intro e
      have := (HD5.out.own.lt _ e).1
      omega
    have hO9 := own_mono (own_far3 (own_far3 HD5.out.own (p := ⟨w.heap.size, 0, none⟩) hne (.int .i64 l)) (p := ⟨w.heap.size, 1, none⟩) hne (.slice B k d)) (b' := w.heap.size) (by omega)
    have hC9 := cur_low HD5.out.cur hW9 HD5.out.lP
    have hG9 := gb_up HD5.out.gb hW9
    have hBn := (HD5.out.bkR.put 0 (.int .i64 l)).put 1 (.slice B k d)
    have q0 := hBn.cell 0
    have q1 := hBn.cell 1
    refine bodyPost_ret (v := .tuple #[.agg #[.int .i64 l, .slice B k d], .string u2]) (by simp [results, Tryz.results30, go_sem, q0, q1]) rfl ?_
    exact ⟨l, B, k, d, rs, u2, Hl.out, ⟨Hk.out, Hfr.out⟩, hu2, rfl, hO9, HD5.out.src0.next hC9 hG9, hG9⟩

end Go.Proofs.YteafeecndghapaaGreat

/- Walk over l12Link of the reference: some link with small numbers. -/
namespace Go.Proofs.YteafeecndghapaaGreat
open Go.RowKit Go.Shelf

theorem gb_upL {w wr w' : World} {r : Option Nat} (h : w.grownBy wr r) (hb : Below w.heap.size wr w') : w.grownBy w' r :=
  ⟨hb.os.trans h.os, hb.tape.trans h.tape, hb.output.trans h.output, Nat.le_trans h.size hb.size, fun q hq hne => (hb.block q hq).trans (h.block q hq hne)⟩
theorem cur_lowL {w wr w' : World} {P : Nat} {A : Option Addr} {n c : Nat} (h : Cur wr P A n c) (hb : Below w.heap.size wr w') (hP : P < w.heap.size) : Cur w' P A n c := by
  obtain ⟨i, x, hB, hi⟩ := h
  exact ⟨i, x, hB.below hb hP, hi⟩

def LinkDrawn (P : Nat) (A : Option Addr) (n c : Nat) (zs : List Int) (w : World) (e : Ending) (w' : World) : Prop := ∃ (x y : Nat) (b : Bool), x < 3 ∧ y < 6 ∧ e = .returned (.agg #[.int .i64 x, .int .i64 y, .bool b]) ∧ Src w' P A n c zs ∧ w.grownBy w' (some P)
set_option maxRecDepth 100000 in
set_option maxHeartbeats 2000000 in
theorem Src.linkD {w : World} {P : Nat} {A : Option Addr} {n c : Nat} {zs : List Int} (h : Src w P A n c zs) :
    Calls Tryz.prog 31 #[.pointer (some ⟨P, 0, none⟩)] w (LinkDrawn P A n c zs w) := by
  have hal := (Below.refl w.heap.size w).alloc (Nat.le_refl _) (.cells #[.int .i64 0, .int .i64 0, .bool false] 45)
  have h1 := h.below hal
  have hg0 := gb_of_below hal (some P)
  have hB := Bk.new w 45 #[.int .i64 0, .int .i64 0, .bool false]
  have lP := h.cur.lt
  have H := Lib.hid h
  clear h
  have Hal := Lib.hid hal
  clear hal
  have H1 := Lib.hid h1
  clear h1
  have Hg0 := Lib.hid hg0
  clear hg0
  have HB := Lib.hid hB
  clear hB
  go_enter Tryz.func31, Tryz.ntmps31
  go_wp2_with fail
  with_reducible refine (H1.out.underI 3 3 rfl (by omega) (by omega)).mono ?_
  rintro e w1 ⟨x, hx, rfl, hS1, hG1⟩
  have hB1 := HB.out.grown hG1 (by intro e; injection e with e; omega)
  have hG2 := gb_trans Hg0.out hG1
  have c0 : w1.cell? ⟨w.heap.size, 0, none⟩ = some (.int .i64 0) := by rw [hB1.cell]; rfl
  have c1 : w1.cell? ⟨w.heap.size, 1, none⟩ = some (.int .i64 0) := by rw [hB1.cell]; rfl
  have c2 : w1.cell? ⟨w.heap.size, 2, none⟩ = some (.bool false) := by rw [hB1.cell]; rfl
  have f0 := hB1.free 0
  have f1 := hB1.free 1
  have f2 := hB1.free 2
  have lb := hB1.lt
  have HS1 := Lib.hid hS1
  clear hS1
  have HG2 := Lib.hid hG2
  clear hG2
  have HB1 := Lib.hid hB1
  clear hB1
  go_wp2_with fail
  with_reducible refine (HS1.out.underI 6 6 rfl (by omega) (by omega)).mono ?_
  rintro e w2 ⟨y, hy, rfl, hS3, hG3⟩
  have hB3 := HB1.out.grown hG3 (by intro e; injection e with e; omega)
  have hG4 := gb_trans HG2.out hG3
  clear hG3 c0 c1 c2 f0 f1 f2 lb
  have c0 : w2.cell? ⟨w.heap.size, 0, none⟩ = some (.int .i64 0) := by rw [hB3.cell]; rfl
  have c1 : w2.cell? ⟨w.heap.size, 1, none⟩ = some (.int .i64 0) := by rw [hB3.cell]; rfl
  have c2 : w2.cell? ⟨w.heap.size, 2, none⟩ = some (.bool false) := by rw [hB3.cell]; rfl
  have f0 := hB3.free 0
  have f1 := hB3.free 1
  have f2 := hB3.free 2
  have lb := hB3.lt
  have HS3 := Lib.hid hS3
  clear hS3
  have HG4 := Lib.hid hG4
  clear hG4
  have HB3 := Lib.hid hB3
  clear hB3
  go_wp2_with fail
  with_reducible refine (HS3.out.onceI 2 2 rfl (by omega) (by omega)).mono ?_
  rintro e w3 ⟨b, rfl, hS5, hG5⟩
  have hB5 := HB3.out.grown hG5 (by intro e; injection e with e; omega)
  have hG6 := gb_trans HG4.out hG5
  clear hG5 c0 c1 c2 f0 f1 f2 lb
  have c0 : w3.cell? ⟨w.heap.size, 0, none⟩ = some (.int .i64 0) := by rw [hB5.cell]; rfl
  have c1 : w3.cell? ⟨w.heap.size, 1, none⟩ = some (.int .i64 0) := by rw [hB5.cell]; rfl
  have c2 : w3.cell? ⟨w.heap.size, 2, none⟩ = some (.bool false) := by rw [hB5.cell]; rfl
  have f0 := hB5.free 0
  have f1 := hB5.free 1
  have f2 := hB5.free 2
  have lb := hB5.lt
  have HS5 := Lib.hid hS5
  clear hS5
  have HG6 := Lib.hid hG6
  clear hG6
  have HB5 := Lib.hid hB5
  clear hB5
  go_wp2_with fail
  have hb9 : Below w.heap.size w3 (((w3.setCell ⟨w.heap.size, 0, none⟩ (.int .i64 x)).setCell ⟨w.heap.size, 1, none⟩ (.int .i64 y)).setCell ⟨w.heap.size, 2, none⟩ (.bool b)) := (((Below.refl _ _).setCell (p := ⟨w.heap.size, 0, none⟩) (Nat.le_refl _) _).setCell (p := ⟨w.heap.size, 1, none⟩) (Nat.le_refl _) _).setCell (p := ⟨w.heap.size, 2, none⟩) (Nat.le_refl _) _
  have hG9 := gb_upL HG6.out hb9
  have hC9 := cur_lowL HS5.out.cur hb9 lP
  have hBn := ((HB5.out.put 0 (.int .i64 x)).put 1 (.int .i64 y)).put 2 (.bool b)
  have q0 := hBn.cell 0
  have q1 := hBn.cell 1
  have q2 := hBn.cell 2
  refine bodyPost_ret (v := .agg #[.int .i64 x, .int .i64 y, .bool b]) (by simp [results, Tryz.results31, go_sem, q0, q1, q2]) rfl ?_
  exact ⟨x, y, b, hx, hy, rfl, H.out.next hC9 hG9, hG9⟩

end Go.Proofs.YteafeecndghapaaGreat
