/- Walk over CountWeights of the program: a loop over the iterator of boxes. -/
import Derived.Test.YtidmbeeadbedaaaBx
import Derived.Test.YtidmbeeadbedaaaKeeps
import Derived.Test.YtidmbeeadbedaaaMg21
namespace Go.Proofs.Ytidmbeeadbedaaa
open Go.RowKit Go.Shelf
attribute [local go_sem] Oper.semAt_some

def cwN (l : Int) (rs : List RuleT) (m : Int) : Int := if (rulesOk l rs && decide (1 ≤ m) && decide (m ≤ 6)) = true then ((keptL l rs m).length : Int) else -1

theorem rd_bk {w : World} {g : Nat} {t : TypeId} {xs : List Value} (h : Bk w g t xs.toArray) : Rd w (some ⟨g, 0, none⟩) xs := fun _ => ⟨g, 0, rfl, h.lt, fun j u hu => by
  rw [h.cell, Nat.zero_add]
  simpa using hu⟩
theorem others_below {W W' : World} (h : Below W.heap.size W W') : KeepsOthers W W' := ⟨h.size, fun k o hk _ => (h.block k (Array.getElem?_eq_some_iff.1 hk).1).trans hk⟩
theorem cells_below {B : Nat} {W W' : World} (h : Below W.heap.size W W') : CellsFrom B W W' := fun k o _ hk _ => (h.block k (Array.getElem?_eq_some_iff.1 hk).1).trans hk
theorem cells_set {B : Nat} {W : World} {p : Addr} (h : p.block < B) (u : Value) : CellsFrom B W (W.setCell p u) := fun k o hB hk _ => (Below.heap_setCell W p u k (by omega)).trans hk
theorem bk_old {W W' : World} {row : Option Nat} {B k : Nat} {t : TypeId} {cs : Array Value} (h : Bk W k t cs) (hg : W.grownBy W' row) (hr : ∀ r, row = some r → B ≤ r) (hkB : k < B) : Bk W' k t cs := grown_old hg hr h hkB
theorem boxMem_put {b L : Nat} (pre : List (Nat × List Int)) (x : Nat × List Int) (W : World) (l : Nat) (o o' : Obj) (hl : W.heap[l]? = some o) (hc : o.isCells = false) (h : boxMem b L pre x W) : boxMem b L pre x (W.putObj l o') :=
  ⟨(World.putObj_heap_other (fun e => by have h1 := h.1; unfold Bk at h1; rw [e, hl] at h1; cases h1; cases hc)).trans h.1, h.2⟩
theorem box_few {b L : Nat} (hb : b ≤ 6) (hL : L ≤ 4) : b ^ L ≤ 1296 := Nat.le_trans (Nat.pow_le_pow_left hb L) (Nat.pow_le_pow_right (n := 6) (by omega) hL)
/-- How many of the lists that have come are kept. -/
def cntK (rs : List RuleT) (m : Int) (pre : List (Nat × List Int)) : Nat := (pre.filter (fun x => keepsAll m x.2 rs)).length
theorem cntK_snoc (rs : List RuleT) (m : Int) (pre : List (Nat × List Int)) (x : Nat × List Int) : cntK rs m (pre ++ [x]) = cntK rs m pre + (if keepsAll m x.2 rs = true then 1 else 0) := by
  rw [cntK, List.filter_append, List.length_append, ← cntK]
  by_cases h : keepsAll m x.2 rs = true <;> simp [h]
theorem cntK_le (rs : List RuleT) (m : Int) (pre : List (Nat × List Int)) : cntK rs m pre ≤ pre.length := List.length_filter_le _ _
/-- The lists that have come are the first ones. -/
def came (b L : Nat) (pre : List (Nat × List Int)) : Prop := pre.map (·.2) = (List.range pre.length).map (boxAt b L)
theorem came_nil (b L : Nat) : came b L [] := rfl
theorem came_snoc {b L : Nat} {pre : List (Nat × List Int)} {x : Nat × List Int} (h : came b L pre) (hx : x.2 = boxAt b L pre.length) : came b L (pre ++ [x]) := by
  unfold came at h ⊢
  rw [List.map_append, h, List.length_append, List.length_singleton, List.range_succ, List.map_append, List.map_cons, List.map_nil, List.map_cons, List.map_nil, hx]
theorem cntK_all {l : Int} {rs : List RuleT} {m : Int} {pre : List (Nat × List Int)} (h : came m.toNat l.toNat pre) (hl : pre.length = m.toNat ^ l.toNat) : cntK rs m pre = (keptL l rs m).length := by
  rw [keptL, boxes, ← hl, ← h, cntK, List.filter_map, List.length_map]
  rfl

theorem rules_letters {l : Int} {rs : List RuleT} (h : rulesOk l rs = true) : 1 ≤ l ∧ l ≤ 4 := by
  unfold rulesOk inB at h
  simp only [Bool.and_eq_true, decide_eq_true_eq] at h
  exact h.1.1

set_option maxHeartbeats 1000000 in
theorem implBoxes_any (l b : Int) (w : World) :
    Calls Try.prog 107 #[.int .i64 l, .int .i64 b] w (fun e W' => e = .returned (.func (.func 157) #[] #[.pointer (some ⟨w.heap.size, 0, none⟩), .pointer (some ⟨w.heap.size + 1, 0, none⟩)]) ∧ Below w.heap.size w W' ∧ Bk W' w.heap.size 3 #[.int .i64 l] ∧ Bk W' (w.heap.size + 1) 3 #[.int .i64 b]) := by
  have hmf : ∀ (fn : Fn) (first cap : Array Value) (w : World), (Instr.makeFunc fn first cap).run Try.prog w = .ok (.func fn first cap) w := fun _ _ _ _ => rfl
  go_enter Try.func107, Try.ntmps107
  go_wp2_with fail
  go_ret
  exact ⟨by simp, ((Below.refl _ _).alloc (Nat.le_refl _) _).alloc (by simp) _, (Bk.new w 3 #[.int .i64 l]).alloc _, (Bk.new (w.alloc (.cells #[.int .i64 l] 3)) 3 #[.int .i64 b]).cast (by simp)⟩

set_option maxRecDepth 100000 in
set_option maxHeartbeats 4000000 in
theorem implCountWeights_any (l : Int) (A : Option Addr) (n c : Nat) (rs : List RuleT) (m : Int) (w : World) (hr : Rd w A (cellsRule rs)) (hn : n = rs.length) (hb : n ≤ 1048576) (hz : ∀ x ∈ rs, x.1.size ≤ 1048576 ∧ x.2.size ≤ 1048576) :
    Calls Try.prog 46 #[.agg #[.int .i64 l, .slice A n c], .int .i64 m] w (Kept w (.int .i64 (cwN l rs m))) := by
  refine (callsIn_wide (n := 8)).1 ?_
  have hW0 : Below w.heap.size w ((w.alloc (.cells #[.int .i64 l, .slice A n c] 25)).alloc (.cells #[.int .i64 m] 3)) := ((Below.refl _ _).alloc (Nat.le_refl _) _).alloc (by simp) _
  have hS0 := (Bk.new w 25 #[.int .i64 l, .slice A n c]).alloc (.cells #[.int .i64 m] 3)
  have hM0 := (Bk.new (w.alloc (.cells #[.int .i64 l, .slice A n c] 25)) 3 #[.int .i64 m]).cast (g' := w.heap.size + 1) (by simp)
  have Hr := Lib.hid hr
  clear hr
  have Hn := Lib.hid hn
  clear hn
  have Hz := Lib.hid hz
  clear hz
  refine callsIn_of_wp_marks Try.func46 rfl trivial ?_ rfl
  simp only [Try.ntmps46, List.size_toArray, List.length_cons, List.length_nil, Nat.reduceAdd, Nat.reduceSub, Array.replicate_succ, Array.replicate_zero, List.push_toArray, List.append_toArray, List.nil_append, List.cons_append]
  have s0_0 : ((w.alloc (.cells #[.int .i64 l, .slice A n c] 25)).alloc (.cells #[.int .i64 m] 3)).cell? ⟨w.heap.size, 0, none⟩ = some (.int .i64 l) := by rw [hS0.cell]; rfl
  have s1_0 : ((w.alloc (.cells #[.int .i64 l, .slice A n c] 25)).alloc (.cells #[.int .i64 m] 3)).cell? ⟨w.heap.size, 1, none⟩ = some (.slice A n c) := by rw [hS0.cell]; rfl
  have m_0 : ((w.alloc (.cells #[.int .i64 l, .slice A n c] 25)).alloc (.cells #[.int .i64 m] 3)).cell? ⟨w.heap.size + 1, 0, none⟩ = some (.int .i64 m) := by rw [hM0.cell]; rfl
  gi_wp2
  refine ⟨trivial, (callsIn_wide.2 (implRulesOk_any l A n c rs _ (Hr.out.keep hW0) Hn.out hb Hz.out)).mono ?_⟩
  rintro e w1 ⟨rfl, b1⟩
  have hW1 := hW0.trans (b1.mono hW0.size)
  have hS1 := hS0.below b1 hS0.lt
  have hM1 := hM0.below b1 hM0.lt
  clear s0_0 s1_0 m_0 hW0 hS0 hM0 b1
  have s0_1 : w1.cell? ⟨w.heap.size, 0, none⟩ = some (.int .i64 l) := by rw [hS1.cell]; rfl
  have s1_1 : w1.cell? ⟨w.heap.size, 1, none⟩ = some (.slice A n c) := by rw [hS1.cell]; rfl
  have m_1 : w1.cell? ⟨w.heap.size + 1, 0, none⟩ = some (.int .i64 m) := by rw [hM1.cell]; rfl
  have sl_1 := hS1.lt
  have ml_1 := hM1.lt
  obtain ⟨r1, hrr⟩ : ∃ r', r' = (rulesOk l rs) := ⟨_, rfl⟩
  rw [← hrr]
  have H1 := Lib.hid hrr
  clear hrr
  cases r1
  · gi_wp2
    refine ⟨trivial, ?_⟩
    gi_wp2
    refine ⟨_, results_tmp rfl _ _ _, ?_⟩
    exact ⟨by rw [cwN, ← H1.out]; rfl, hW1⟩
  gi_wp2
  refine ⟨trivial, (callsIn_wide.2 (within_any m 1 6 _)).mono ?_⟩
  rintro e w2 ⟨rfl, hw2⟩
  subst hw2
  by_cases hmm : 1 ≤ m ∧ m ≤ 6
  · obtain ⟨hm1, hm2⟩ := hmm
    have hin : inB m 1 6 = true := by unfold inB; simp [hm1, hm2]
    rw [hin]
    have hS2 := hS1.alloc (.cells #[.int .i64 0] 3)
    have hM2 := hM1.alloc (.cells #[.int .i64 0] 3)
    have hC2 := Bk.new w1 3 #[.int .i64 0]
    have hW2 := hW1.alloc hW1.size (.cells #[.int .i64 0] 3)
    have s0_2 : (w1.alloc (.cells #[.int .i64 0] 3)).cell? ⟨w.heap.size, 0, none⟩ = some (.int .i64 l) := by rw [hS2.cell]; rfl
    have s1_2 : (w1.alloc (.cells #[.int .i64 0] 3)).cell? ⟨w.heap.size, 1, none⟩ = some (.slice A n c) := by rw [hS2.cell]; rfl
    have m_2 : (w1.alloc (.cells #[.int .i64 0] 3)).cell? ⟨w.heap.size + 1, 0, none⟩ = some (.int .i64 m) := by rw [hM2.cell]; rfl
    gi_wp2
    refine ⟨trivial, (callsIn_wide.2 (implBoxes_any l m _)).mono ?_⟩
    rintro e w3 ⟨rfl, b3, hL3, hB3⟩
    have hC3 := hC2.below b3 hC2.lt
    have hS3 := hS2.below b3 hS2.lt
    have hM3 := hM2.below b3 hM2.lt
    have hW3 := hW2.trans (b3.mono hW2.size)
    clear s0_1 s1_1 m_1 s0_2 s1_2 m_2 hS1 hM1 hS2 hM2 hC2 hW2
    have hz2 : (w1.alloc (.cells #[.int .i64 0] 3)).heap.size = w1.heap.size + 1 := by simp
    rw [hz2] at hL3 hB3 b3
    have hz3 := hB3.lt
    obtain ⟨L, hL⟩ : ∃ L, L = l.toNat := ⟨_, rfl⟩
    obtain ⟨b, hb'⟩ : ∃ b, b = m.toNat := ⟨_, rfl⟩
    have hl4 := rules_letters H1.out.symm
    have hLl : (L : Int) = l := by omega
    have hbm : (b : Int) = m := by omega
    gi_wp2
    refine rangeFunc_mem rfl (by omega) (gf := 157) (lb := #[.pointer (some ⟨w1.heap.size + 1, 0, none⟩), .pointer (some ⟨w1.heap.size + 1 + 1, 0, none⟩)]) rfl trivial (enters_of Try.func157 (by kernel_rfl) rfl) (encs := boxVals) (Mem := boxMem b L) (S := fun xs => xs.length = b ^ L) (N := b ^ L) (B := w1.heap.size + 1)
      (boxes1_stops _ (by omega) _ _ L b _ (Nat.le_refl _) (Nat.le_succ _) (by omega) (by omega) (by omega) (by omega) w3 (by rw [hLl]; exact hL3) (by rw [hbm]; exact hB3)) boxMem_put (fun _ => rfl)
      (fun pre W => (came b L pre ∧ Bk W w1.heap.size 3 #[.int .i64 (cntK rs m pre : Nat)] ∧ Bk W w.heap.size 25 #[.int .i64 l, .slice A n c] ∧ Bk W (w.heap.size + 1) 3 #[.int .i64 m]) ∧ Below w.heap.size w W)
      (fun _ _ => False) ?hI ?hIx ?h0
      (fun x => { tmps := #[.agg #[.int .i64 l, .slice A n c], .int .i64 m, .pointer (some ⟨w.heap.size, 0, none⟩), .pointer (some ⟨w.heap.size + 1, 0, none⟩), .int .i64 0, .pointer (some ⟨w1.heap.size, 0, none⟩), .slice (some ⟨x.1, 0, none⟩) x.2.length x.2.length, .agg #[.int .i64 l, .slice A n c], .bool true, .bool false, .bool false, .int .i64 m, .bool true, .bool false, .bool false, .pointer (some ⟨w.heap.size, 0, none⟩), .int .i64 l, .int .i64 m, .func (.func 157) #[] #[.pointer (some ⟨w1.heap.size + 1, 0, none⟩), .pointer (some ⟨w1.heap.size + 1 + 1, 0, none⟩)], .slice (some ⟨x.1, 0, none⟩) x.2.length x.2.length, undef, undef, undef, undef, undef, undef, undef], defers := [] }) ?assign ?body ?done ?stop
    case hI =>
      rintro pre A B row ⟨⟨h1, h2, h3, h4⟩, h5⟩ hg hr'
      have hr2 : ∀ r, row = some r → w3.heap.size ≤ r := hr'
      exact ⟨⟨h1, bk_old h2 hg hr2 (by omega), bk_old h3 hg hr2 (by omega), bk_old h4 hg hr2 (by omega)⟩, h5.grown hg h5.size (fun k e => by have := hr2 k e; omega)⟩
    case hIx => exact fun _ _ _ _ _ _ _ _ h => h
    case h0 => exact ⟨⟨came_nil _ _, hC3, hS3, hM3⟩, hW3⟩
    case assign =>
      intro l x W K hK
      simp only [boxVals]
      gi_wp2
      exact hK
    case body =>
      rintro j pre ⟨g, ws⟩ W ⟨⟨hca, hC, hS, hM⟩, hBW⟩ ⟨hK, hx⟩ hlen
      dsimp only at hK hx ⊢
      have hwl : ws.length = L := by rw [hx, boxAt_len]
      have hcn := cntK_le rs m pre
      have hfew := box_few (b := b) (L := L) (by omega) (by omega)
      have s0 : W.cell? ⟨w.heap.size, 0, none⟩ = some (.int .i64 l) := by rw [hS.cell]; rfl
      have s1 : W.cell? ⟨w.heap.size, 1, none⟩ = some (.slice A n c) := by rw [hS.cell]; rfl
      have m0 : W.cell? ⟨w.heap.size + 1, 0, none⟩ = some (.int .i64 m) := by rw [hM.cell]; rfl
      have hcam := came_snoc hca hx (x := (g, ws))
      have hrdK := rd_bk hK
      have hkb : ∀ k (hk : k < ws.length), 0 ≤ ws[k] ∧ ws[k] ≤ 1000 := fun k hk => by
        have h9 := boxAt_mem (b := b) (by omega) L pre.length ws[k] (by rw [← hx]; exact List.getElem_mem hk)
        omega
      have hwe : ∀ r ∈ rs, weighs ((ws.length : Nat) : Int) r := by rw [hwl, hLl]; exact rules_weigh H1.out.symm
      have hwl2 : ws.length ≤ 1048576 := by omega
      have hm12 : m ≤ 12 := by omega
      have hrdR := Hr.out.keep hBW
      have hco := (callsIn_wide (n := 5)).2 (implKeeps_any l A n c rs m (some ⟨g, 0, none⟩) ws.length ws.length ws W hrdR Hn.out hb hrdK rfl hwl2 hm1 hm12 hkb hwe)
      clear hL hb' hwl hx hkb hwe hwl2 hm12 hrdR hrdK hca
      have HC := Lib.hid hC
      clear hC
      have HS := Lib.hid hS
      clear hS
      have HM := Lib.hid hM
      clear hM
      have Hcam := Lib.hid hcam
      clear hcam
      have Hco := Lib.hid hco
      clear hco
      have Hcn := Lib.hid hcn
      clear hcn
      have HBW := Lib.hid hBW
      clear hBW
      gi_wp2
      refine ⟨trivial, (CallsIn.inRound _ Hco.out).mono ?_⟩
      rintro e W2 ⟨rfl, b2⟩
      clear Hco
      have hC := HC.out
      have hS := HS.out
      have hM := HM.out
      have hBW := HBW.out
      have hcn := Hcn.out
      clear HC HS HM HBW Hcn
      have hcnt := cntK_snoc rs m pre (g, ws)
      dsimp only at hcnt
      obtain ⟨q, hq⟩ : ∃ q, q = cntK rs m pre := ⟨_, rfl⟩
      rw [← hq] at hC hcn hcnt
      clear hq
      obtain ⟨r, hrr⟩ : ∃ r', r' = (keepsAll m ws rs) := ⟨_, rfl⟩
      rw [← hrr]
      have HR := Lib.hid hrr
      clear hrr
      rw [← HR.out] at hcnt
      clear HR
      have hC2 := hC.below b2 hC.lt
      have hS2 := hS.below b2 hS.lt
      have hM2 := hM.below b2 hM.lt
      have hW2 := hBW.trans (b2.mono hBW.size)
      have c0 : W2.cell? ⟨w1.heap.size, 0, none⟩ = some (.int .i64 (q : Int)) := by rw [hC2.cell]; rfl
      have cf := hC2.free 0
      cases r
      · rw [if_neg (by simp), Nat.add_zero] at hcnt
        rw [← hcnt] at hC2
        gi_wp2
        exact ⟨others_below b2, cells_below b2, ⟨Hcam.out, hC2, hS2, hM2⟩, hW2⟩
      · rw [if_pos rfl] at hcnt
        have hC4 := hC2.put 0 (.int .i64 ((q : Int) + 1))
        have hS4 := hS2.far (p := ⟨w1.heap.size, 0, none⟩) (by show w.heap.size ≠ w1.heap.size; omega) (.int .i64 ((q : Int) + 1))
        have hM4 := hM2.far (p := ⟨w1.heap.size, 0, none⟩) (by show w.heap.size + 1 ≠ w1.heap.size; omega) (.int .i64 ((q : Int) + 1))
        have eC : (#[Value.int .i64 (q : Int)] : Array Value).setIfInBounds 0 (.int .i64 ((q : Int) + 1)) = #[.int .i64 ((cntK rs m (pre ++ [(g, ws)]) : Nat) : Int)] := by rw [hcnt]; rfl
        rw [eC] at hC4
        have hW4 := hW2.setCell (p := ⟨w1.heap.size, 0, none⟩) (by show w.heap.size ≤ w1.heap.size; omega) (.int .i64 ((q : Int) + 1))
        have hcs := (cells_below (B := w1.heap.size + 1) b2).trans (cells_set (p := ⟨w1.heap.size, 0, none⟩) (Nat.lt_succ_self _) (.int .i64 ((q : Int) + 1)))
        have hko := (others_below b2).trans (KeepsOthers.setCell _ ⟨w1.heap.size, 0, none⟩ (.int .i64 ((q : Int) + 1)))
        clear hcnt
        gi_wp2
        exact ⟨hko, hcs, ⟨Hcam.out, hC4, hS4, hM4⟩, hW4⟩
    case done =>
      rintro D pre W hD hlen ⟨⟨hca, hC, hS, hM⟩, hBW⟩ hDf
      have hcn := cntK_le rs m pre
      have hfew := box_few (b := b) (L := L) (by omega) (by omega)
      have hall := cntK_all (l := l) (rs := rs) (m := m) (pre := pre) (by rw [← hL, ← hb']; exact hca) (by rw [← hL, ← hb']; exact hlen)
      have c0 : W.cell? ⟨w1.heap.size, 0, none⟩ = some (.int .i64 (cntK rs m pre : Nat)) := by rw [hC.cell]; rfl
      gi_wp2
      refine ⟨by simp, .inl ⟨_, _, rfl, run_takeDeferred hDf, ?_⟩⟩
      refine ⟨_, results_tmp rfl _ _ _, ?_⟩
      refine ⟨?_, hBW.grown (grownBy_putObj' W D _) hBW.size (fun k e => by cases e; omega)⟩
      rw [cwN, if_pos (by rw [← H1.out]; simp [hm1, hm2]), ← hall]
      rfl
    case stop =>
      intro D pre W _ h _
      exact h.elim
  · have hin : inB m 1 6 = false := by unfold inB; simp; omega
    rw [hin]
    gi_wp2
    refine ⟨_, results_tmp rfl _ _ _, ?_⟩
    exact ⟨by rw [cwN, if_neg (by simp; omega)]; rfl, hW1⟩

end Go.Proofs.Ytidmbeeadbedaaa
