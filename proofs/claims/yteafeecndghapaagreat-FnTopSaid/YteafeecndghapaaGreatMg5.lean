/- Merged texts: a claim has a limit of files. -/
import Derived.Test.YteafeecndghapaaGreatMg2
import Derived.Test.YteafeecndghapaaGreatMg4
import Derived.Test.YteafeecndghapaaGreatMg3
import Derived.Test.YteafeecndghapaaGreatMg1

/- Walks over FormatRule and ParseRule of the reference, the latter told weakly. -/
namespace Go.Proofs.YteafeecndghapaaGreat
open Go.RowKit Go.Shelf

def fmtR (x y : ByteArray) : ByteArray := dot x ++ (⟨#[62]⟩ : ByteArray) ++ dot y

set_option maxRecDepth 100000 in
set_option maxHeartbeats 2000000 in
theorem specFormatRule_any (x y : ByteArray) (w : World) (hx : x.size ≤ 1048576) (hy : y.size ≤ 1048576) :
    Calls Tryz.prog 90 #[.agg #[.string x, .string y]] w (Kept w (.string (fmtR x y))) := by
  have hW0 : Below w.heap.size w (w.alloc (.cells #[.string x, .string y] 68)) := (Below.refl _ _).alloc (Nat.le_refl _) _
  have hD : ∀ s W, Calls Tryz.prog 104 #[.string s] W (fun e w' => e = .returned (.string (dot s)) ∧ w' = W) := specDot_any
  have d1 : (dot x).size ≤ 1048577 := by unfold dot; split <;> first | omega | decide
  have d2 : (dot y).size ≤ 1048577 := by unfold dot; split <;> first | omega | decide
  obtain ⟨dx, hdx⟩ : ∃ d, d = dot x := ⟨_, rfl⟩
  obtain ⟨dy, hdy⟩ : ∃ d, d = dot y := ⟨_, rfl⟩
  have e1 : fmtR x y = dx ++ (⟨#[62]⟩ : ByteArray) ++ dy := by rw [hdx, hdy]; rfl
  have hD1 : ∀ W, Calls Tryz.prog 104 #[.string x] W (fun e w' => e = .returned (.string dx) ∧ w' = W) := fun W => by rw [hdx]; exact hD x W
  have hD2 : ∀ W, Calls Tryz.prog 104 #[.string y] W (fun e w' => e = .returned (.string dy) ∧ w' = W) := fun W => by rw [hdy]; exact hD y W
  rw [← hdx] at d1
  rw [← hdy] at d2
  rw [e1]
  have z1 : (dx ++ (⟨#[62]⟩ : ByteArray)).size = dx.size + 1 := by rw [ByteArray.size_append]; rfl
  have g1 : ¬ 9223372036854775807 < dx.size + 1 := by omega
  have g2 : ¬ 9223372036854775807 < (dx ++ (⟨#[62]⟩ : ByteArray)).size + dy.size := by omega
  obtain ⟨dz, hdz⟩ : ∃ z, z = dx ++ (⟨#[62]⟩ : ByteArray) := ⟨_, rfl⟩
  rw [← hdz] at g2
  rw [← hdz]
  have hdz2 := hdz.symm
  clear hD z1
  have HW0 := Lib.hid hW0
  clear hW0
  have Hdx := Lib.hid hdx
  clear hdx
  have Hdy := Lib.hid hdy
  clear hdy
  have E1 := Lib.hid e1
  clear e1
  have HD1 := Lib.hid hD1
  clear hD1
  have HD2 := Lib.hid hD2
  clear hD2
  have Hdz := Lib.hid hdz
  clear hdz
  go_enter Tryz.func90, Tryz.ntmps90
  go_wp2_with fail
  have zS : (w.alloc (.cells #[.string x, .string y] 68)).cell? ⟨w.heap.size, 0, none⟩ = some (.string x) ∧ (w.alloc (.cells #[.string x, .string y] 68)).cell? ⟨w.heap.size, 1, none⟩ = some (.string y) := ⟨by rw [(Bk.new w 68 #[.string x, .string y]).cell]; rfl, by rw [(Bk.new w 68 #[.string x, .string y]).cell]; rfl⟩
  have ZS := Lib.hid zS
  clear zS
  go_region_held3 (fun w' => w'.cell? ⟨w.heap.size, 0, none⟩ = some (.string x) ∧ w'.cell? ⟨w.heap.size, 1, none⟩ = some (.string y)) (first | exact ZS.out | assumption) ((first | ((with_reducible refine (HD1.out _).mono ?_); rintro e y1 ⟨rfl, rfl⟩) | ((with_reducible refine (HD2.out _).mono ?_); rintro e y2 ⟨rfl, rfl⟩)))
  all_goals
    clear ZS
    go_wp2_with fail
    go_ret
    exact ⟨rfl, HW0.out.drew⟩

def PrMade (u : ByteArray) (w : World) (e : Ending) (w' : World) : Prop := ∃ (x y : ByteArray) (b : Bool), x.size ≤ u.size ∧ y.size ≤ u.size ∧ e = .returned (.tuple #[.agg #[.string x, .string y], .bool b]) ∧ Below w.heap.size w w'
set_option maxRecDepth 100000 in
set_option maxHeartbeats 2000000 in
theorem specParseRule_any (u : ByteArray) (w : World) (hu : u.size ≤ 1048576) : Calls Tryz.prog 75 #[.string u] w (PrMade u w) := by
  have hW0 : Below w.heap.size w (w.alloc (.cells #[.string ⟨#[]⟩, .string ⟨#[]⟩] 68)) := (Below.refl _ _).alloc (Nat.le_refl _) _
  have hB0 := Bk.new w 68 #[.string ⟨#[]⟩, .string ⟨#[]⟩]
  have HW0 := Lib.hid hW0
  clear hW0
  have HB0 := Lib.hid hB0
  clear hB0
  go_enter Tryz.func75, Tryz.ntmps75
  go_wp2_with fail
  with_reducible refine (specSplitG_any u 62 _ hu).mono ?_
  rintro e w1 ⟨L, hL1, hL2, hLs, B, d, rfl, hO, b1⟩
  have hW1 := HW0.out.trans (b1.mono HW0.out.size)
  have hB1 := HB0.out.below b1 HB0.out.lt
  obtain ⟨m, hm⟩ : ∃ m, m = L.length := ⟨_, rfl⟩
  rw [← hm] at hO
  rw [← hm]
  clear b1 HB0 HW0
  have c0 : w1.cell? ⟨w.heap.size, 0, none⟩ = some (.string ⟨#[]⟩) := by rw [hB1.cell]; rfl
  have c1 : w1.cell? ⟨w.heap.size, 1, none⟩ = some (.string ⟨#[]⟩) := by rw [hB1.cell]; rfl
  have f0 := hB1.free 0
  have f1 := hB1.free 1
  have lb := hB1.lt
  have HW1 := Lib.hid hW1
  clear hW1
  have HB1 := Lib.hid hB1
  clear hB1
  have HO := Lib.hid hO
  clear hO
  have Hm := Lib.hid hm
  clear hm
  have HLs := Lib.hid hLs
  clear hLs
  have HL1 := Lib.hid hL1
  clear hL1
  have HL2 := Lib.hid hL2
  clear hL2
  by_cases h2 : m = 2
  rotate_left
  · have h2i : ((m : Int) == 2) = false := by simp; omega
    go_wp2_with fail
    have hBn := (HB1.out.put 0 (.string ⟨#[]⟩)).put 1 (.string ⟨#[]⟩)
    have q0 := hBn.cell 0
    have q1 := hBn.cell 1
    have hW9 := (HW1.out.setCell (p := ⟨w.heap.size, 0, none⟩) (Nat.le_refl _) (.string ⟨#[]⟩)).setCell (p := ⟨w.heap.size, 1, none⟩) (Nat.le_refl _) (.string ⟨#[]⟩)
    refine bodyPost_ret (v := .tuple #[.agg #[.string ⟨#[]⟩, .string ⟨#[]⟩], .bool false]) (by simp [results, Tryz.results75, go_sem, q0, q1]) rfl ?_
    exact ⟨⟨#[]⟩, ⟨#[]⟩, false, Nat.zero_le _, Nat.zero_le _, rfl, hW9⟩
  subst h2
  obtain ⟨p, q, rfl⟩ : ∃ p q, L = [p, q] := by
    have h := Hm.out
    match L, h with
    | [p, q], _ => exact ⟨p, q, rfl⟩
  have hp := HLs.out p (by simp)
  have hq := HLs.out q (by simp)
  obtain ⟨g, rfl, hg1, hg2⟩ := own_some HO.out (by omega)
  have hgb : w.heap.size + 1 ≤ g := by
    have : (w.alloc (.cells #[.string ⟨#[]⟩, .string ⟨#[]⟩] 68)).heap.size = w.heap.size + 1 := by simp
    omega
  obtain ⟨base, hbase⟩ : ∃ b, b = (w.alloc (.cells #[.string ⟨#[]⟩, .string ⟨#[]⟩] 68)).heap.size := ⟨_, rfl⟩
  rw [← hbase] at HO
  clear Hm HLs HL1 HL2 hg2 hg1 hbase c0 c1 f0 f1 lb
  go_wp2_with fail
  go_loopw [16] (fun i wr => ∃ (j : Nat) (p q : ByteArray), i = .int .i64 j ∧ j ≤ 2 ∧ p.size ≤ u.size ∧ q.size ≤ u.size ∧ Hid (wr.ownsRow base 9 1 (.slice (some ⟨g, 0, none⟩) 2 d) 2 (strs [p, q])) ∧ Hid (Bk wr w.heap.size 68 #[.string ⟨#[]⟩, .string ⟨#[]⟩]) ∧ Hid (Below w.heap.size w wr)) (fun i _ => 2 - (intOf i).toNat)
  case atStart => exact ⟨0, p, q, rfl, by omega, hp, hq, HO, HB1, HW1⟩
  case round =>
    clear HO HB1 HW1 hp hq p q
    obtain ⟨j, p, q, rfl, hj, hp, hq, HO, HB1, HW1⟩ := hrel
    have hj3 : j = 0 ∨ j = 1 ∨ j = 2 := by omega
    have o0 := HO.out.cellAt 0 (by omega)
    have o1 := HO.out.cellAt 1 (by omega)
    rw [show (strs [p, q])[0]? = some (.string p) from rfl] at o0
    rw [show (strs [p, q])[1]? = some (.string q) from rfl] at o1
    have of0 := HO.out.frozenAt 0
    have of1 := HO.out.frozenAt 1
    have c0 : wr.cell? ⟨w.heap.size, 0, none⟩ = some (.string ⟨#[]⟩) := by rw [HB1.out.cell]; rfl
    have c1 : wr.cell? ⟨w.heap.size, 1, none⟩ = some (.string ⟨#[]⟩) := by rw [HB1.out.cell]; rfl
    have f0 := HB1.out.free 0
    have f1 := HB1.out.free 1
    have lb := HB1.out.lt
    have ne1 : ¬ w.heap.size = g := by omega
    have ne2 : ¬ g = w.heap.size := by omega
    have lg := (HO.out.lt g rfl).2
    rcases hj3 with rfl | rfl | rfl
    · go_wp2_with fail
      all_goals
        refine ⟨?_, by first | (simp [intOf]; done) | (simp [intOf] <;> omega)⟩
        first
          | exact ⟨1, p, q, rfl, by omega, hp, hq, HO, HB1, HW1⟩
          | exact ⟨1, ⟨#[]⟩, q, rfl, by omega, Nat.zero_le _, hq, Lib.hid (HO.out.stored 0 (.string ⟨#[]⟩)).1, Lib.hid (HB1.out.far (p := ⟨g, 0, none⟩) ne1 _), Lib.hid (HW1.out.setCell (p := ⟨g, 0, none⟩) (by dsimp only; omega) _)⟩
    · go_wp2_with fail
      all_goals
        refine ⟨?_, by first | (simp [intOf]; done) | (simp [intOf] <;> omega)⟩
        first
          | exact ⟨2, p, q, rfl, by omega, hp, hq, HO, HB1, HW1⟩
          | exact ⟨2, p, ⟨#[]⟩, rfl, by omega, hp, Nat.zero_le _, Lib.hid (HO.out.stored 1 (.string ⟨#[]⟩)).1, Lib.hid (HB1.out.far (p := ⟨g, 1, none⟩) ne1 _), Lib.hid (HW1.out.setCell (p := ⟨g, 1, none⟩) (by dsimp only; omega) _)⟩
    · go_wp2_with fail
      go_region
      all_goals
        go_wp2_with fail
        have hW2 := (HW1.out.alloc HW1.out.size (.cells #[.string p, .string q] 68)).drew
        have hB2 := (HB1.out.alloc (.cells #[.string p, .string q] 68)).drew
        have hR2 := (Bk.new wr 68 #[.string p, .string q]).drew
        obtain ⟨rb, hrb⟩ : ∃ b, b = wr.heap.size := ⟨_, rfl⟩
        obtain ⟨W, hWd⟩ : ∃ z, z = (wr.alloc (.cells #[.string p, .string q] 68)).drew := ⟨_, rfl⟩
        have lrb : w.heap.size < rb := by rw [hrb]; exact lb
        rw [← hWd] at hW2 hB2 hR2
        rw [← hrb] at hR2
        rw [← hWd, ← hrb]
        clear hWd hrb c0 c1 f0 f1 lb o0 o1 of0 of1 HO HB1 HW1 ne1 ne2 lg hgb
        have c0 : W.cell? ⟨w.heap.size, 0, none⟩ = some (.string ⟨#[]⟩) := by rw [hB2.cell]; rfl
        have c1 : W.cell? ⟨w.heap.size, 1, none⟩ = some (.string ⟨#[]⟩) := by rw [hB2.cell]; rfl
        have f0 := hB2.free 0
        have f1 := hB2.free 1
        have lb := hB2.lt
        have d0 : W.cell? ⟨rb, 0, none⟩ = some (.string p) := by rw [hR2.cell]; rfl
        have d1 : W.cell? ⟨rb, 1, none⟩ = some (.string q) := by rw [hR2.cell]; rfl
        have lr := hR2.lt
        have HW2 := Lib.hid hW2
        clear hW2
        have HB2 := Lib.hid hB2
        clear hB2
        have HR2 := Lib.hid hR2
        clear hR2
        with_reducible refine (specWord_any 4 p _ (by omega)).mono ?_
        rintro e w2 ⟨rfl, rfl⟩
        obtain ⟨r1, hrr⟩ : ∃ r', r' = (wordOk 4 p) := ⟨_, rfl⟩
        rw [← hrr]
        have H1 := Lib.hid hrr
        clear hrr
        cases r1
        · go_wp2_with fail
          have hBn := (HB2.out.put 0 (.string ⟨#[]⟩)).put 1 (.string ⟨#[]⟩)
          have q0 := hBn.cell 0
          have q1 := hBn.cell 1
          have hW9 := (HW2.out.setCell (p := ⟨w.heap.size, 0, none⟩) (Nat.le_refl _) (.string ⟨#[]⟩)).setCell (p := ⟨w.heap.size, 1, none⟩) (Nat.le_refl _) (.string ⟨#[]⟩)
          refine bodyPost_ret (v := .tuple #[.agg #[.string ⟨#[]⟩, .string ⟨#[]⟩], .bool false]) (by simp [results, Tryz.results75, go_sem, q0, q1]) rfl ?_
          exact ⟨⟨#[]⟩, ⟨#[]⟩, false, Nat.zero_le _, Nat.zero_le _, rfl, hW9⟩
        go_wp2_with fail
        with_reducible refine (specWord_any 4 q _ (by omega)).mono ?_
        rintro e w2 ⟨rfl, rfl⟩
        obtain ⟨r2, hrr⟩ : ∃ r', r' = (wordOk 4 q) := ⟨_, rfl⟩
        rw [← hrr]
        have H2 := Lib.hid hrr
        clear hrr
        cases r2
        · go_wp2_with fail
          have hBn := (HB2.out.put 0 (.string ⟨#[]⟩)).put 1 (.string ⟨#[]⟩)
          have q0 := hBn.cell 0
          have q1 := hBn.cell 1
          have hW9 := (HW2.out.setCell (p := ⟨w.heap.size, 0, none⟩) (Nat.le_refl _) (.string ⟨#[]⟩)).setCell (p := ⟨w.heap.size, 1, none⟩) (Nat.le_refl _) (.string ⟨#[]⟩)
          refine bodyPost_ret (v := .tuple #[.agg #[.string ⟨#[]⟩, .string ⟨#[]⟩], .bool false]) (by simp [results, Tryz.results75, go_sem, q0, q1]) rfl ?_
          exact ⟨⟨#[]⟩, ⟨#[]⟩, false, Nat.zero_le _, Nat.zero_le _, rfl, hW9⟩
        go_wp2_with fail
        with_reducible refine (specFormatRule_any p q _ (by omega) (by omega)).mono ?_
        rintro e w3 ⟨rfl, b3⟩
        have hW3 := HW2.out.trans (b3.mono HW2.out.size)
        have hB3 := HB2.out.below b3 HB2.out.lt
        have hR3 := HR2.out.below b3 HR2.out.lt
        clear b3 HB2 HW2 HR2 c0 c1 f0 f1 lb d0 d1 lr
        have c0 : w3.cell? ⟨w.heap.size, 0, none⟩ = some (.string ⟨#[]⟩) := by rw [hB3.cell]; rfl
        have c1 : w3.cell? ⟨w.heap.size, 1, none⟩ = some (.string ⟨#[]⟩) := by rw [hB3.cell]; rfl
        have f0 := hB3.free 0
        have f1 := hB3.free 1
        have lb := hB3.lt
        have d0 : w3.cell? ⟨rb, 0, none⟩ = some (.string p) := by rw [hR3.cell]; rfl
        have d1 : w3.cell? ⟨rb, 1, none⟩ = some (.string q) := by rw [hR3.cell]; rfl
        have lr := hR3.lt
        have HW3 := Lib.hid hW3
        clear hW3
        have HB3 := Lib.hid hB3
        clear hB3
        have HR3 := Lib.hid hR3
        clear hR3
        obtain ⟨fr, hrr⟩ : ∃ r', r' = (fmtR p q) := ⟨_, rfl⟩
        rw [← hrr]
        have HF := Lib.hid hrr
        clear hrr
        go_wp2_with fail
        · skip
          have hBn := (HB3.out.put 0 (.string ⟨#[]⟩)).put 1 (.string ⟨#[]⟩)
          have q0 := hBn.cell 0
          have q1 := hBn.cell 1
          have hW9 := (HW3.out.setCell (p := ⟨w.heap.size, 0, none⟩) (Nat.le_refl _) (.string ⟨#[]⟩)).setCell (p := ⟨w.heap.size, 1, none⟩) (Nat.le_refl _) (.string ⟨#[]⟩)
          refine bodyPost_ret (v := .tuple #[.agg #[.string ⟨#[]⟩, .string ⟨#[]⟩], .bool false]) (by simp [results, Tryz.results75, go_sem, q0, q1]) rfl ?_
          exact ⟨⟨#[]⟩, ⟨#[]⟩, false, Nat.zero_le _, Nat.zero_le _, rfl, hW9⟩
        · skip
          have hBn := (HB3.out.put 0 (.string p)).put 1 (.string q)
          have q0 := hBn.cell 0
          have q1 := hBn.cell 1
          have hW9 := (HW3.out.setCell (p := ⟨w.heap.size, 0, none⟩) (Nat.le_refl _) (.string p)).setCell (p := ⟨w.heap.size, 1, none⟩) (Nat.le_refl _) (.string q)
          refine bodyPost_ret (v := .tuple #[.agg #[.string p, .string q], .bool true]) (by simp [results, Tryz.results75, go_sem, q0, q1]) rfl ?_
          exact ⟨p, q, true, hp, hq, rfl, hW9⟩

end Go.Proofs.YteafeecndghapaaGreat

/- Walks over FormatTag of the reference, and FormatInt at a digit. -/
namespace Go.Proofs.YteafeecndghapaaGreat
open Go.RowKit Go.Shelf


def dig (n : Int) : ByteArray := ⟨#[UInt8.ofNat (48 + n).toNat]⟩
theorem dig_size (n : Int) : (dig n).size = 1 := rfl
set_option maxRecDepth 100000 in
set_option maxHeartbeats 1000000 in
theorem specDigit_any (x : Int) (w : World) (h0 : 0 ≤ x) (h9 : x ≤ 9) : Calls Tryz.prog 89 #[.int .i64 x] w (Kept w (.string (dig x))) := by
  have hcv := conv_byte w (48 + x)
  rw [show (⟨#[UInt8.ofNat (48 + x).toNat]⟩ : ByteArray) = dig x from rfl] at hcv
  have hn0 : ¬ x < 0 := by omega
  have hn9 : ¬ 9 < x := by omega
  have hsz := dig_size x
  go_enter Tryz.func89, Tryz.ntmps89
  go_wp2_with fail
  refine wp_loop_rounds 1 ?_
  rw [rounds_succ]
  go_wp2_with fail
  go_ret
  exact ⟨by first | rfl | (rw [show dig x ++ (⟨#[]⟩ : ByteArray) = dig x from by apply ba_eq; simp]), (Below.refl _ _).alloc (Nat.le_refl _) _⟩


end Go.Proofs.YteafeecndghapaaGreat

/- Walks over the laws' helpers for impl.Rule: eqRule, eqRuleS, markRuleS, heldRuleS and the readings of slices of them. -/
namespace Go.Proofs.YteafeecndghapaaGreat
open Go.RowKit Go.Shelf

abbrev RuleT : Type := ByteArray × ByteArray
def encRule (x : RuleT) : List Value := [.string x.1, .string x.2]
def cellsRule (xs : List RuleT) : List Value := xs.flatMap encRule
theorem cellsRule_len (xs : List RuleT) : (cellsRule xs).length = xs.length * 2 := flat_len (enc := encRule) (m := 2) (fun _ => rfl) xs
theorem info_Rule : (Tryz.prog.info? 68).map (fun i => (i.zero, i.size, i.bytes)) = some (some (.agg #[.string ⟨#[]⟩, .string ⟨#[]⟩]), 2, 32) := by kernel_rfl

/-- The cells of element k. -/
theorem rd_Rule {w : World} {A : Option Addr} {xs : List RuleT} (h : Rd w A (cellsRule xs)) {k : Nat} (hk : k < xs.length) : ∃ b off, A = some ⟨b, off, none⟩ ∧ b < w.heap.size ∧
    w.cell? ⟨b, off + k * 2, none⟩ = some (.string xs[k].1) ∧ w.cell? ⟨b, off + k * 2 + 1, none⟩ = some (.string xs[k].2) := by
  have f0 := flat_get (enc := encRule) (m := 2) (fun _ => rfl) xs k 0 hk (by omega)
  obtain ⟨b, off, e, hb, hc⟩ := h (by intro e; unfold cellsRule at e; rw [e] at f0; cases f0)
  refine ⟨b, off, e, hb, ?_, ?_⟩
  · exact hc (k * 2) _ f0
  · exact hc (k * 2 + 1) _ (flat_get (enc := encRule) (m := 2) (fun _ => rfl) xs k 1 hk (by omega))





end Go.Proofs.YteafeecndghapaaGreat

/- Walks over slices.IndexFunc and slices.ContainsFunc at []impl.Rule,impl.Rule: over any function value that keeps what was there. -/
namespace Go.Proofs.YteafeecndghapaaGreat
open Go.RowKit Go.Shelf

def evRule (x : RuleT) : Value := .agg #[.string x.1, .string x.2]
set_option maxRecDepth 100000 in
set_option maxHeartbeats 1000000 in
theorem indexFunc_Rule (A : Option Addr) (n c : Nat) (xs : List RuleT) (g : FuncId) (lb : Array Value) (p : RuleT → Bool) (w : World) (eg : ∀ args w, (callFunc g args).run Tryz.prog w = .ok (.enter g args) w) (hr : Rd w A (cellsRule xs)) (hn : n = xs.length) (hb : n ≤ 9223372036854775807)
    (hf : ∀ (W : World) (x : RuleT), x ∈ xs → Below w.heap.size w W → Calls Tryz.prog g (#[evRule x] ++ lb) W (Kept W (.bool (p x)))) :
    Calls Tryz.prog 67 #[.slice A n c, .func (.func g) #[] lb] w (Kept w (.int .i64 (idxI p xs))) := by
  subst hn
  go_enter Tryz.func67, Tryz.ntmps67
  have Hf := Lib.hid hf
  clear hf
  go_wp2_with fail
  go_loopw [8] (fun i wr => ∃ (j : Nat), j ≤ xs.length ∧ i = .int .i64 j ∧ Hid ((xs.take j).all (fun x => !p x) = true) ∧ Below w.heap.size w wr) (fun i _ => xs.length - (intOf i).toNat)
  case atStart => exact ⟨0, Nat.zero_le _, rfl, by simp [Hid], Below.refl _ _⟩
  case round =>
    obtain ⟨j, hj, rfl, HA, hW⟩ := hrel
    by_cases hlt : j < xs.length
    · skip
      obtain ⟨b, o, rfl, hbl, p0, p1⟩ := rd_Rule (hr.keep hW) hlt
      obtain ⟨⟨v0, v1⟩, hv⟩ : ∃ v, v = xs[j] := ⟨_, rfl⟩
      rw [← hv] at p0 p1
      have Hv := Lib.hid hv
      clear hv
      clear hr
      go_wp2_with fail
      refine (Hf.out _ (v0, v1) (by rw [Hv.out]; exact List.getElem_mem hlt) hW).mono ?_
      rintro e w' ⟨rfl, hW2⟩
      have hW3 := hW.trans (hW2.mono hW.size)
      obtain ⟨r, hrr⟩ : ∃ r', r' = (p (v0, v1)) := ⟨_, rfl⟩
      rw [← hrr]
      have HR := Lib.hid hrr
      clear hrr
      clear hW2
      cases r
      · go_wp2_with fail
        go_roundw
        case rel => exact ⟨j + 1, by omega, by go_num, by unfold Hid; rw [List.take_succ_eq_append_getElem hlt, List.all_append, HA.out]; simp [← Hv.out, ← HR.out], hW3⟩
        case measure => simp [intOf]; omega
      · go_wp2_with fail
        go_ret
        exact ⟨ret_int (by rw [idx_hit hlt HA.out (by rw [← Hv.out, ← HR.out])]), hW3⟩
    · have : j = xs.length := by omega
      subst this
      go_wp2_with fail
      go_ret
      exact ⟨ret_int (by rw [idx_miss (by simpa using HA.out)]), hW⟩

set_option maxRecDepth 100000 in
set_option maxHeartbeats 400000 in
theorem containsFunc_Rule (A : Option Addr) (n c : Nat) (xs : List RuleT) (g : FuncId) (lb : Array Value) (p : RuleT → Bool) (w : World) (eg : ∀ args w, (callFunc g args).run Tryz.prog w = .ok (.enter g args) w) (hr : Rd w A (cellsRule xs)) (hn : n = xs.length) (hb : n ≤ 9223372036854775807)
    (hf : ∀ (W : World) (x : RuleT), x ∈ xs → Below w.heap.size w W → Calls Tryz.prog g (#[evRule x] ++ lb) W (Kept W (.bool (p x)))) :
    Calls Tryz.prog 42 #[.slice A n c, .func (.func g) #[] lb] w (Kept w (.bool (xs.any p))) := by
  go_enter Tryz.func42, Tryz.ntmps42
  have Hf := Lib.hid hf
  clear hf
  have Hn := Lib.hid hn
  clear hn
  go_wp2_with fail
  refine (indexFunc_Rule A n c xs g lb p w eg hr Hn.out hb Hf.out).mono ?_
  rintro e w' ⟨rfl, hW⟩
  obtain ⟨r, hrr⟩ : ∃ r', r' = (idxI p xs) := ⟨_, rfl⟩
  rw [← hrr]
  have HR := Lib.hid hrr
  clear hrr
  go_wp2
  go_ret
  exact ⟨ret_bool (by rw [HR.out]; exact findIdx_bool p xs), hW⟩

end Go.Proofs.YteafeecndghapaaGreat
