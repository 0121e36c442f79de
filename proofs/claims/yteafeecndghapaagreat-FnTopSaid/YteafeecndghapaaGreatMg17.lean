/- Merged texts: a claim has a limit of files. -/
import Derived.Test.YteafeecndghapaaGreatMg3
import Derived.Test.YteafeecndghapaaGreatMg5
import Derived.Test.YteafeecndghapaaGreatMg2
import Derived.Test.YteafeecndghapaaGreatMg1
import Derived.Deep.RegionLaw
import Derived.Test.YteafeecndghapaaGreatMg16
import Derived.Test.YteafeecndghapaaGreatNormP

/- Walks over the known systems (BracketSystem, ProjectorSystem, SortingSystem): the program's and the reference's hand back the same rules. -/
namespace Go.Proofs.YteafeecndghapaaGreat
open Go.RowKit Go.Shelf

/-- A system in memory of the call's own, and a bool. -/
def MadeSys (w : World) (l : Int) (n : Nat) (rs : List RuleT) (b : Bool) (e : Ending) (w' : World) : Prop :=
  ∃ A c, e = .returned (.tuple #[.agg #[.int .i64 l, .slice A n c], .bool b]) ∧ w'.ownsRow w.heap.size 68 2 (.slice A n c) n (cellsRule rs) ∧ Below w.heap.size w w'

theorem cellsRule_snoc (rs : List RuleT) (r : RuleT) : cellsRule (rs ++ [r]) = cellsRule rs ++ [.string r.1, .string r.2] := by simp [cellsRule, encRule]
theorem one_cell_rule (a b : ByteArray) : ∀ u ∈ (#[Value.string a, Value.string b] : Array Value).toList, u.oneCell' = true := by
  intro u hu
  simp at hu
  rcases hu with rfl | rfl <;> rfl

end Go.Proofs.YteafeecndghapaaGreat

/- Walks over SortingSystem: the program's and the reference's hand back the same rules. -/
namespace Go.Proofs.YteafeecndghapaaGreat
open Go.RowKit Go.Shelf

def sortR (y x : Nat) : RuleT := (letter y ++ letter x, letter x ++ letter y)
/-- The rules of the rows before y. -/
def sortAcc (y : Nat) : List RuleT := (List.range y).flatMap (fun q => (List.range q).map (sortR q))
/-- The rules of the rows before y, and the first x of row y. -/
def sortTo (y x : Nat) : List RuleT := sortAcc y ++ (List.range x).map (sortR y)
/-- The rules of the sorting system. -/
def sorts (k : Int) : List RuleT := if inB k 1 4 then sortAcc k.toNat else []
def sortL (k : Int) : Int := if inB k 1 4 then k else 0
theorem sortTo_zero (y : Nat) : sortTo y 0 = sortAcc y := by simp [sortTo]
theorem sortTo_succ (y x : Nat) : sortTo y (x + 1) = sortTo y x ++ [sortR y x] := by rw [sortTo, sortTo, List.range_succ, List.map_append, List.append_assoc]; rfl
theorem sortAcc_succ (y : Nat) : sortAcc (y + 1) = sortTo y y := by rw [sortAcc, List.range_succ, List.flatMap_append, sortTo]; simp [sortAcc]
theorem sortTo_len (y x : Nat) : (sortTo y x).length = (sortAcc y).length + x := by simp [sortTo]
theorem sortAcc_le (y : Nat) (h : y ≤ 4) : (sortAcc y).length ≤ 6 := by
  have : y = 0 ∨ y = 1 ∨ y = 2 ∨ y = 3 ∨ y = 4 := by omega
  rcases this with rfl | rfl | rfl | rfl | rfl <;> simp [sortAcc, List.range_succ]
set_option maxRecDepth 100000 in
set_option maxHeartbeats 4000000 in
theorem specSortingSystem_any (k : Int) (w : World) : Calls Tryz.prog 15 #[.int .i64 k] w (MadeSys w (sortL k) (sorts k).length (sorts k) (inB k 1 4)) := by
  go_enter Tryz.func15, Tryz.ntmps15
  go_wp2_with fail
  refine (l01In_any k 1 4 _).mono ?_
  rintro e w1 ⟨rfl, rfl⟩
  obtain ⟨r, hrr⟩ : ∃ r', r' = (inB k 1 4) := ⟨_, rfl⟩
  rw [← hrr]
  have HR := Lib.hid hrr
  clear hrr
  cases r
  · go_wp2_with fail
    have e1 : sortL k = 0 := by rw [sortL, ← HR.out]; rfl
    have e2 : sorts k = [] := by rw [sorts, ← HR.out]; rfl
    refine bodyPost_ret (v := .tuple #[.agg #[.int .i64 0, .slice none 0 0], .bool false]) (by simp [results, Tryz.results15, go_sem]) rfl ?_
    rw [e1, e2]
    refine ⟨none, 0, by rw [← HR.out]; rfl, World.ownsRow_nil _ _ _ _, ?_⟩
    exact (Below.refl _ _).alloc (Nat.le_refl _) _
  · obtain ⟨hk1, hk2⟩ := inB_out HR.out
    obtain ⟨K, rfl⟩ := Int.eq_ofNat_of_zero_le (show 0 ≤ k by omega)
    go_wp2_with fail
    go_loopw [5] (fun i wr => ∃ (y : Nat) (A : Option Addr) (c m : Nat), 1 ≤ y ∧ y ≤ K ∧ i = .int .i64 y ∧ Hid (m = (sortAcc y).length) ∧ Bk wr w.heap.size 25 #[.int .i64 0, .slice none 0 0] ∧ Bk wr (w.heap.size + 1) 25 #[.int .i64 (K : Int), .slice A m c] ∧ wr.ownsRow (w.heap.size + 2) 68 2 (.slice A m c) m (cellsRule (sortAcc y)) ∧ Below w.heap.size w wr) (fun i _ => K - (intOf i).toNat)
    case atStart => exact ⟨1, none, 0, 0, Nat.le_refl _, by omega, rfl, rfl, (Bk.new w _ _).alloc _, by have := Bk.new (w.alloc (.cells #[.int .i64 0, .slice none 0 0] 25)) 25 #[.int .i64 (K : Int), .slice none 0 0]; simpa using this, World.ownsRow_nil _ _ _ _, ((Below.refl _ _).alloc (Nat.le_refl _) _).alloc (by simp) _⟩
    case round =>
      obtain ⟨y, A, c, m, hy1, hy, rfl, HM, hB0, hB1, hO, hW⟩ := hrel
      by_cases hlt : y < K
      · have hacc := sortAcc_le y (by omega)
        have Hacc := Lib.hid hacc
        clear hacc
        have HB0 := Lib.hid hB0
        clear hB0
        have HB1 := Lib.hid hB1
        clear hB1
        have HO := Lib.hid hO
        clear hO
        have HW := Lib.hid hW
        clear hW
        go_wp2_with fail
        go_loopw [6] (fun i wr => ∃ (x : Nat) (A : Option Addr) (c m : Nat), x ≤ y ∧ i = .int .i64 x ∧ Hid (m = (sortTo y x).length) ∧ Bk wr w.heap.size 25 #[.int .i64 0, .slice none 0 0] ∧ Bk wr (w.heap.size + 1) 25 #[.int .i64 (K : Int), .slice A m c] ∧ wr.ownsRow (w.heap.size + 2) 68 2 (.slice A m c) m (cellsRule (sortTo y x)) ∧ Below w.heap.size w wr) (fun i _ => y - (intOf i).toNat)
        case atStart => exact ⟨0, A, c, m, Nat.zero_le _, rfl, by unfold Hid; rw [sortTo_zero]; exact HM.out, HB0.out, HB1.out, by rw [sortTo_zero]; exact HO.out, HW.out⟩
        case round =>
          clear HB0 HB1 HO HW HM m A c
          obtain ⟨x, A, c, m, hx, rfl, HM, hB0, hB1, hO, hW⟩ := hrel
          by_cases hltx : x < y
          · have hml : m ≤ 10 := by rw [HM.out, sortTo_len]; have := Hacc.out; omega
            have hg : w.heap.size + 2 ≤ wr.heap.size := by have := hB1.lt; omega
            have eS : ∀ W, Below wr.drew.heap.size wr.drew W → W.cell? ⟨w.heap.size + 1, 1, none⟩ = some (.slice A m c) := fun W hb => (hb.cell (p := ⟨w.heap.size + 1, 1, none⟩) (by simp; omega)).trans (by rw [hB1.drew.cell]; rfl)
            have eO : ∀ W, Below wr.drew.heap.size wr.drew W → W.ownsRow (w.heap.size + 2) 68 2 (.slice A m c) m (cellsRule (sortTo y x)) := fun W hb => own_keep (w := wr.drew) hO hb (Nat.le_refl _)
            have c0 : wr.cell? ⟨w.heap.size + 1, 1, none⟩ = some (.slice A m c) := by rw [hB1.cell]; rfl
            have hV : Below wr.drew.heap.size wr.drew wr.drew := Below.refl _ _
            have hU : True := trivial
            have ES := Lib.hid eS
            clear eS
            have EO := Lib.hid eO
            clear eO
            have HB0 := Lib.hid hB0
            clear hB0
            have HB1 := Lib.hid hB1
            clear hB1
            have HO := Lib.hid hO
            clear hO
            have hcat1 : ∀ W : World, (Op.stringOp .add (letter (y : Int)) (letter (x : Int))).run Tryz.prog W = .ok (.string (letter (y : Int) ++ letter (x : Int))) W := fun W => run_string_add_sum W _ _ (by simp only [letter_size]; omega)
            have hcat2 : ∀ W : World, (Op.stringOp .add (letter (x : Int)) (letter (y : Int))).run Tryz.prog W = .ok (.string (letter (x : Int) ++ letter (y : Int))) W := fun W => run_string_add_sum W _ _ (by simp only [letter_size]; omega)
            go_wp2_with fail
            go_region_law (first | (refine step_app1 _ _ rfl _ _ 23 rfl (w.heap.size + 2) 68 2 32 _ Tryz.underlying23 info_Rule rfl (by omega) _ _ _ _ rfl rfl rfl (EO.out _ hV) rfl (one_cell_rule _ _) (by omega) (by unfold maxLen; omega) (by have := hV.size; simp at this; omega) ?_; intro A5 c5 w5 hO5 hW5; have hB5 := (HB1.out.drew.below hV (by simp; omega)).below hW5 (by omega); have hS5 := hB5.cell 1; have hF5 := hB5.free 1) | (go_simp; ((with_reducible refine (specLetter_any ((y : Int)) _ (by omega) (by omega)).mono ?_); rintro e u ⟨rfl, hU⟩; have hV := hV.trans (hU.mono hV.size); have hS := ES.out _ hV; have hz : w.heap.size + 1 < u.heap.size := by have := hV.size; simp at this; omega)) | (go_simp; ((with_reducible refine (specLetter_any ((x : Int)) _ (by omega) (by omega)).mono ?_); rintro e u ⟨rfl, hU⟩; have hV := hV.trans (hU.mono hV.size); have hS := ES.out _ hV; have hz : w.heap.size + 1 < u.heap.size := by have := hV.size; simp at this; omega)))
            all_goals
              have hN : Below w.heap.size w (w5.setCell ⟨w.heap.size + 1, 1, none⟩ (.slice A5 (m + 1) c5)) := (((hW.drew).trans (hV.mono hW.size)).trans (hW5.mono (by omega))).setCell (by simp) _
              have hB0n := ((HB0.out.drew.below hV (by simp; omega)).below hW5 (by omega)).far (p := ⟨w.heap.size + 1, 1, none⟩) (by simp) (.slice A5 (m + 1) c5)
              have hB1n := hB5.put 1 (.slice A5 (m + 1) c5)
              have hOn := ownsRow_setCell_below hO5 (a := ⟨w.heap.size + 1, 1, none⟩) (by simp) (.slice A5 (m + 1) c5)
              have hcl : cellsRule (sortTo y x) ++ (#[Value.string (letter (y : Int) ++ letter (x : Int)), Value.string (letter (x : Int) ++ letter (y : Int))] : Array Value).toList = cellsRule (sortTo y (x + 1)) := by
                rw [sortTo_succ, cellsRule_snoc]
                rfl
              rw [hcl] at hOn
              clear hO5 hB5 hcl hS5 hF5 hV hU ES EO HB0 HB1 HO
              go_wp2_with fail
              go_roundw
              case rel => exact ⟨x + 1, A5, c5, m + 1, by omega, by go_num, by unfold Hid; rw [HM.out, sortTo_succ, List.length_append]; rfl, hB0n, hB1n, hOn, hN⟩
              case measure => simp [intOf]; omega
          · have : x = y := by omega
            subst this
            have HB0 := Lib.hid hB0
            clear hB0
            have HB1 := Lib.hid hB1
            clear hB1
            have HO := Lib.hid hO
            clear hO
            have HW := Lib.hid hW
            clear hW
            go_wp2_with fail
            go_roundw
            case rel => exact ⟨x + 1, A, c, m, by omega, by omega, by go_num, by unfold Hid; rw [sortAcc_succ]; exact HM.out, HB0.out, HB1.out, by rw [sortAcc_succ]; exact HO.out, HW.out⟩
            case measure => simp [intOf]; omega
      · have : y = K := by omega
        subst this
        have l0 : wr.cell? ⟨w.heap.size + 1, 0, none⟩ = some (.int .i64 (y : Int)) := by rw [hB1.cell]; rfl
        have l1 : wr.cell? ⟨w.heap.size + 1, 1, none⟩ = some (.slice A m c) := by rw [hB1.cell]; rfl
        have r0 : wr.cell? ⟨w.heap.size, 0, none⟩ = some (.int .i64 0) := by rw [hB0.cell]; rfl
        have r1 : wr.cell? ⟨w.heap.size, 1, none⟩ = some (.slice none 0 0) := by rw [hB0.cell]; rfl
        have f0 := hB0.free 0
        have f1 := hB0.free 1
        have e1 : sortL (y : Int) = y := by rw [sortL, ← HR.out]; rfl
        have e2 : sorts (y : Int) = sortAcc y := by rw [sorts, ← HR.out]; rfl
        have E1 := Lib.hid e1
        clear e1
        have E2 := Lib.hid e2
        clear e2
        go_wp2_with fail
        have hBn := (hB0.put 0 (.int .i64 (y : Int))).put 1 (.slice A m c)
        have q0 := hBn.cell 0
        have q1 := hBn.cell 1
        refine bodyPost_ret (v := .tuple #[.agg #[.int .i64 (y : Int), .slice A m c], .bool true]) (by simp [results, Tryz.results15, go_sem, q0, q1]) rfl ?_
        rw [E1.out, E2.out, ← HM.out]
        refine ⟨A, c, ?_, ?_, ?_⟩
        · rw [← HR.out]
        · exact own_mono (ownsRow_setCell_below (ownsRow_setCell_below hO (a := ⟨w.heap.size, 0, none⟩) (by simp) _) (a := ⟨w.heap.size, 1, none⟩) (by simp) _) (by omega)
        · exact (hW.setCell (by simp) _).setCell (by simp) _

end Go.Proofs.YteafeecndghapaaGreat

/- Walk over MakeRules of the reference: rules of two letters that are in order, in memory of their own. -/
namespace Go.Proofs.YteafeecndghapaaGreat
open Go.RowKit Go.Shelf

theorem sorts2_sys : systemOk 2 (sorts 2) = true := by decide +kernel

end Go.Proofs.YteafeecndghapaaGreat

/- Plain theory of rewriting: words that are connected have one reduced form, if both sides of each critical pair are connected below its word. No walk, no condition. -/
namespace Go.Proofs.YteafeecndghapaaGreat
open Go.RowKit Go.Shelf

abbrev WL : Type := List UInt8
/-- u comes before v in the order of words, whatever stands around. -/
def Prec (u v : WL) : Prop := ∀ s, 1 ≤ s → V4 s u < V4 s v
theorem Prec.ctx {u v : WL} (h : Prec u v) (a b : WL) : Prec (a ++ u ++ b) (a ++ v ++ b) := fun s hs => by
  rw [V4_append, V4_append, V4_append, V4_append]
  exact V4_lt (h _ (V4_pos hs a)) b
theorem Prec.trans {u v w : WL} (h : Prec u v) (k : Prec v w) : Prec u w := fun s hs => Nat.lt_trans (h s hs) (k s hs)
theorem Prec.val {u v : WL} (h : Prec u v) : V4 1 u < V4 1 v := h 1 (Nat.le_refl _)
abbrev RL : Type := List (WL × WL)
def Red (R : RL) (u v : WL) : Prop := ∃ a b q, q ∈ R ∧ u = a ++ q.1 ++ b ∧ v = a ++ q.2 ++ b
theorem Red.ctx {R : RL} {u v : WL} (h : Red R u v) (a b : WL) : Red R (a ++ u ++ b) (a ++ v ++ b) := by
  obtain ⟨c, d, q, hq, rfl, rfl⟩ := h
  exact ⟨a ++ c, d ++ b, q, hq, by simp only [List.append_assoc], by simp only [List.append_assoc]⟩
def Falls (R : RL) : Prop := ∀ q ∈ R, Prec q.2 q.1
theorem Red.prec {R : RL} (hF : Falls R) {u v : WL} (h : Red R u v) : Prec v u := by
  obtain ⟨a, b, q, hq, rfl, rfl⟩ := h
  exact (hF q hq).ctx a b
inductive Star (R : RL) : WL → WL → Prop
  | refl (u : WL) : Star R u u
  | step {u v w : WL} : Red R u v → Star R v w → Star R u w
theorem Star.trans {R : RL} {u v w : WL} (h : Star R u v) (k : Star R v w) : Star R u w := by
  induction h with
  | refl u => exact k
  | step a _ ih => exact .step a (ih k)
theorem Star.ctx {R : RL} {u v : WL} (h : Star R u v) (a b : WL) : Star R (a ++ u ++ b) (a ++ v ++ b) := by
  induction h with
  | refl u => exact .refl _
  | step h _ ih => exact .step (h.ctx a b) ih
def Irr (R : RL) (u : WL) : Prop := ∀ v, ¬ Red R u v
theorem nf_ex {R : RL} (hF : Falls R) : ∀ (n : Nat) (u : WL), V4 1 u ≤ n → ∃ x, Star R u x ∧ Irr R x
  | 0, u, h => by have := V4_pos (Nat.le_refl 1) u; omega
  | n + 1, u, h => by
    by_cases hr : ∃ v, Red R u v
    · obtain ⟨v, hv⟩ := hr
      have := (hv.prec hF).val
      obtain ⟨x, h1, h2⟩ := nf_ex hF n v (by omega)
      exact ⟨x, .step hv h1, h2⟩
    · exact ⟨u, .refl u, fun v hv => hr ⟨v, hv⟩⟩
/-- A reduced form. -/
noncomputable def nfL (R : RL) (u : WL) : WL := open Classical in if h : ∃ x, Star R u x ∧ Irr R x then Classical.choose h else u
theorem nfL_out {R : RL} (hF : Falls R) (u : WL) : Star R u (nfL R u) ∧ Irr R (nfL R u) := by
  have h := nf_ex hF _ u (Nat.le_refl _)
  unfold nfL
  rw [dif_pos h]
  exact Classical.choose_spec h
theorem star_irr {R : RL} {u v : WL} (h : Star R u v) (hi : Irr R u) : v = u := by
  cases h with
  | refl => rfl
  | step a _ => exact absurd a (hi _)
theorem nfL_irr {R : RL} (hF : Falls R) {u : WL} (h : Irr R u) : nfL R u = u := star_irr (nfL_out hF u).1 h

/-- Connected, each step's greater word below w. -/
inductive CB (R : RL) (w : WL) : WL → WL → Prop
  | refl (x : WL) : CB R w x x
  | fwd {x y z : WL} : CB R w x y → Red R y z → Prec y w → CB R w x z
  | bwd {x y z : WL} : CB R w x y → Red R z y → Prec z w → CB R w x z
theorem CB.trans {R : RL} {w x y z : WL} (h : CB R w x y) (k : CB R w y z) : CB R w x z := by
  induction k with
  | refl => exact h
  | fwd _ a b ih => exact .fwd (ih) a b
  | bwd _ a b ih => exact .bwd (ih) a b
theorem CB.symm {R : RL} {w x y : WL} (h : CB R w x y) : CB R w y x := by
  induction h with
  | refl => exact .refl _
  | fwd _ a b ih => exact CB.trans (.bwd (.refl _) a b) ih
  | bwd _ a b ih => exact CB.trans (.fwd (.refl _) a b) ih
theorem CB.ctx {R : RL} {w x y : WL} (h : CB R w x y) (a b : WL) : CB R (a ++ w ++ b) (a ++ x ++ b) (a ++ y ++ b) := by
  induction h with
  | refl => exact .refl _
  | fwd _ h k ih => exact .fwd ih (h.ctx a b) (k.ctx a b)
  | bwd _ h k ih => exact .bwd ih (h.ctx a b) (k.ctx a b)
theorem CB.of_star {R : RL} (hF : Falls R) {w x y : WL} (h : Star R x y) (hx : Prec x w) : CB R w x y := by
  induction h with
  | refl => exact .refl _
  | step a _ ih => exact CB.trans (.fwd (.refl _) a hx) (ih ((a.prec hF).trans hx))
/-- Both sides of each critical pair are connected below its word. -/
structure Crit (R : RL) : Prop where
  ins : ∀ q ∈ R, ∀ p ∈ R, ∀ x z, q.1 = x ++ p.1 ++ z → CB R q.1 q.2 (x ++ p.2 ++ z)
  acr : ∀ q ∈ R, ∀ p ∈ R, ∀ x y z, x ≠ [] → y ≠ [] → z ≠ [] → q.1 = x ++ y → p.1 = y ++ z → CB R (x ++ y ++ z) (q.2 ++ z) (x ++ p.2)

theorem CB.nf {R : RL} {w x y : WL} (h : CB R w x y) (ih : ∀ u v, Prec u w → Red R u v → nfL R u = nfL R v) : nfL R x = nfL R y := by
  induction h with
  | refl => rfl
  | fwd _ a b k => rw [k, ih _ _ b a]
  | bwd _ a b k => rw [k, ih _ _ b a]

/-- Two steps from one word, the first one's place not behind the second one's. -/
theorem peak {R : RL} (hF : Falls R) (hC : Crit R) {q p : WL × WL} (hq : q ∈ R) (hp : p ∈ R) {u a b c d : WL} (h1 : u = a ++ q.1 ++ b) (h2 : u = c ++ p.1 ++ d) (hle : a.length ≤ c.length) : CB R u (a ++ q.2 ++ b) (c ++ p.2 ++ d) := by
  have e : a ++ (q.1 ++ b) = c ++ (p.1 ++ d) := by rw [← List.append_assoc, ← List.append_assoc, ← h1, ← h2]
  obtain ⟨x, rfl, e2⟩ : ∃ x, c = a ++ x ∧ q.1 ++ b = x ++ (p.1 ++ d) := by
    rcases List.append_eq_append_iff.1 e with ⟨x, h, k⟩ | ⟨x, h, k⟩
    · exact ⟨x, h, k⟩
    · have : x = [] := by
        apply List.eq_nil_of_length_eq_zero
        rw [h, List.length_append] at hle
        omega
      subst this
      exact ⟨[], by rw [h, List.append_nil, List.append_nil], by rw [List.nil_append, k, List.nil_append]⟩
  rcases List.append_eq_append_iff.1 e2 with ⟨m, rfl, e3⟩ | ⟨y, e3, e4⟩
  · -- the second one lies behind the first one
    subst e3
    have g1 : Red R (a ++ q.2 ++ (m ++ (p.1 ++ d))) (a ++ q.2 ++ (m ++ (p.2 ++ d))) := ⟨a ++ q.2 ++ m, d, p, hp, by simp only [List.append_assoc], by simp only [List.append_assoc]⟩
    have g2 : Red R (a ++ (q.1 ++ m) ++ p.2 ++ d) (a ++ q.2 ++ (m ++ (p.2 ++ d))) := ⟨a, m ++ (p.2 ++ d), q, hq, by simp only [List.append_assoc], by simp only [List.append_assoc]⟩
    have l1 : Prec (a ++ q.2 ++ (m ++ (p.1 ++ d))) u := by rw [h1]; exact (hF q hq).ctx _ _
    have l2 : Prec (a ++ (q.1 ++ m) ++ p.2 ++ d) u := by rw [h2]; exact (hF p hp).ctx _ _
    exact .bwd (.fwd (.refl _) g1 l1) g2 l2
  · rcases List.append_eq_append_iff.1 e4.symm with ⟨z, e5, e6⟩ | ⟨z, e5, e6⟩
    · -- the first one ends within the second one
      have e6' : p.1 = y ++ z := e5
      have e7 : b = z ++ d := e6
      by_cases hx : x = []
      · subst hx
        rw [List.nil_append] at e3
        have h := hC.ins p hp q hq [] z (by rw [e5, e3, List.nil_append])
        have h' := (h.symm.ctx a d)
        rw [h2]
        rw [e7]
        simp only [List.append_assoc, List.nil_append, List.append_nil] at h' ⊢
        exact h'
      · by_cases hy : y = []
        · subst hy
          rw [List.append_nil] at e3
          rw [List.nil_append] at e5
          subst e7
          rw [← e5] at *
          have g1 : Red R (a ++ q.2 ++ (p.1 ++ d)) (a ++ q.2 ++ (p.2 ++ d)) := ⟨a ++ q.2, d, p, hp, by simp only [List.append_assoc], by simp only [List.append_assoc]⟩
          have g2 : Red R (a ++ x ++ p.2 ++ d) (a ++ q.2 ++ (p.2 ++ d)) := ⟨a, p.2 ++ d, q, hq, by rw [e3]; simp only [List.append_assoc], by simp only [List.append_assoc]⟩
          have l1 : Prec (a ++ q.2 ++ (p.1 ++ d)) u := by rw [h1]; exact (hF q hq).ctx _ _
          have l2 : Prec (a ++ x ++ p.2 ++ d) u := by rw [h2]; exact (hF p hp).ctx _ _
          exact .bwd (.fwd (.refl _) g1 l1) g2 l2
        · by_cases hz : z = []
          · subst hz
            rw [List.append_nil] at e5
            rw [List.nil_append] at e7
            have h := hC.ins q hq p hp x [] (by rw [e3, e5, List.append_nil])
            have h' := h.ctx a b
            rw [h1]
            subst e7
            simp only [List.append_assoc, List.append_nil] at h' ⊢
            exact h'
          · have h := hC.acr q hq p hp x y z hx hy hz e3 e5
            have h' := h.ctx a d
            have eu : u = a ++ (x ++ y ++ z) ++ d := by rw [h1, e3, e7]; simp only [List.append_assoc]
            rw [eu, e7]
            simp only [List.append_assoc] at h' ⊢
            exact h'
    · -- the second one lies within the first one
      have h := hC.ins q hq p hp x z (by rw [e3, e5, List.append_assoc])
      have h' := h.ctx a b
      rw [h1, e6]
      simp only [List.append_assoc] at h' ⊢
      exact h'

theorem star_cases {R : RL} {u x : WL} (h : Star R u x) : u = x ∨ ∃ v, Red R u v ∧ Star R v x := by
  cases h with
  | refl => exact .inl rfl
  | step a b => exact .inr ⟨_, a, b⟩
theorem conf_step {R : RL} (hF : Falls R) (hC : Crit R) : ∀ (n : Nat) (u v : WL), V4 1 u ≤ n → Red R u v → nfL R u = nfL R v := by
  intro n
  induction n with
  | zero => intro u v h; have := V4_pos (Nat.le_refl 1) u; omega
  | succ n ih =>
    intro u v hn hv
    have low : ∀ x y, Prec x u → Red R x y → nfL R x = nfL R y := fun x y hx hy => ih x y (by have := hx.val; omega) hy
    have lows : ∀ x y, Star R x y → Prec x u → nfL R x = nfL R y := by
      intro x y h
      induction h with
      | refl => intro _; rfl
      | step a _ k => intro hx; rw [low _ _ hx a]; exact k ((a.prec hF).trans hx)
    obtain ⟨h1, h2⟩ := nfL_out hF u
    rcases star_cases h1 with e | ⟨v0, hv0, hs0⟩
    · rw [← e] at h2; exact absurd hv (h2 v)
    · have e0 : nfL R v0 = nfL R u := by rw [lows v0 _ hs0 (hv0.prec hF), nfL_irr hF h2]
      rw [← e0]
      obtain ⟨a, b, q, hq, e1, rfl⟩ := hv
      obtain ⟨c, d, p, hp, e2, rfl⟩ := hv0
      rcases Nat.le_total a.length c.length with hl | hl
      · exact ((peak hF hC hq hp e1 e2 hl).nf low).symm
      · exact (peak hF hC hp hq e2 e1 hl).nf low
theorem conf {R : RL} (hF : Falls R) (hC : Crit R) {u v : WL} (h : Red R u v) : nfL R u = nfL R v := conf_step hF hC _ u v (Nat.le_refl _) h
theorem conf_star {R : RL} (hF : Falls R) (hC : Crit R) {u v : WL} (h : Star R u v) : nfL R u = nfL R v := by
  induction h with
  | refl => rfl
  | step a _ ih => rw [conf hF hC a, ih]
theorem nf_only {R : RL} (hF : Falls R) (hC : Crit R) {u x : WL} (h : Star R u x) (hi : Irr R x) : x = nfL R u := by
  rw [conf_star hF hC h, nfL_irr hF hi]

end Go.Proofs.YteafeecndghapaaGreat
