/- The iterator of impl.boxes: it gives all lists of L digits to base b, in order, each in the same block. -/
import Derived.Test.YtidmbeeadbedaaaBxP
import Derived.Test.YtidmbeeadbedaaaMg21
import Derived.RangeFuncNested
import Derived.RangeFuncBound
import Derived.RangeFuncCalls
import Derived.RangeFuncLeaves
import Derived.OwnWalkIn
import Derived.TacticsInMore
import Derived.LoopNIn
import Derived.LoopIn
import Derived.Sort.QuietIn
namespace Go.Proofs.Ytidmbeeadbedaaa
open Go.RowKit Go.Shelf
attribute [local go_sem] Oper.semAt_some

theorem CellsFrom.bk {B : Nat} {W W' : World} {g : Nat} {t : TypeId} {cs : Array Value} (h : CellsFrom B W W') (hg : B ≤ g) (hb : Bk W g t cs) : Bk W' g t cs := h g _ hg hb rfl
theorem bk_grown_put {w : World} {g : Nat} (i : Nat) (u : Value) : w.grownBy (w.setCell ⟨g, i, none⟩ u) (some g) := by
  have h := Below.refl 0 w
  exact ⟨rfl, rfl, rfl, by simp, fun k _ hk => Below.heap_setCell w _ u k (fun e => hk (by rw [e]))⟩

theorem grown_drewN (w : World) (k : Nat) : w.grownBy (w.drewN k) none := ⟨rfl, rfl, rfl, Nat.le_refl _, fun _ _ _ => rfl⟩
def boxVals (x : Nat × List Int) : Array Value := #[.slice (some ⟨x.1, 0, none⟩) x.2.length x.2.length]
def boxMem (b L : Nat) (pre : List (Nat × List Int)) (x : Nat × List Int) (W : World) : Prop := Bk W x.1 3 (ints x.2).toArray ∧ x.2 = boxAt b L pre.length

set_option maxRecDepth 100000 in
set_option maxHeartbeats 4000000 in
theorem boxes1_stops (n : Nat) (h1 : 1 ≤ n) (Bl Bb L b B : Nat) (hB1 : B ≤ Bl) (hB2 : B ≤ Bb) (hL1 : 1 ≤ L) (hL2 : L ≤ 4) (hb1 : 1 ≤ b) (hb2 : b ≤ 6) (w : World) (hcl : Bk w Bl 3 #[.int .i64 (L : Int)]) (hcb : Bk w Bb 3 #[.int .i64 (b : Int)]) :
    StopsM Fence.wide n Try.prog 157 #[.pointer (some ⟨Bl, 0, none⟩), .pointer (some ⟨Bb, 0, none⟩)] boxVals (boxMem b L) (fun xs => xs.length = b ^ L) (b ^ L) B w := by
  intro l J Jx W hW hJ hY h0
  have hcl0 := hcl.below hW hcl.lt
  have hcb0 := hcb.below hW hcb.lt
  have sl0 : W.cell? ⟨Bl, 0, none⟩ = some (.int .i64 (L : Int)) := by rw [hcl0.cell]; rfl
  obtain ⟨i0, hi, hz0, hz1, hz2⟩ := info_parts info_int
  have hmk := fun (W : World) => run_make (P := Try.prog) W 73 3 i0 (.int .i64 0) Try.underlying73 hi hz0 .i64 .i64 L L (by omega) (by omega) (by rw [hz2]; omega) (by omega)
  refine callsIn_of_wp Try.func157 rfl trivial ?_ rfl
  simp only [Try.ntmps157, List.size_toArray, List.length_cons, List.length_nil, Nat.reduceAdd, Nat.reduceSub, Array.replicate_succ, Array.replicate_zero, List.push_toArray, List.append_toArray, List.nil_append, List.cons_append]
  gi_wp2
  have hM : madeCells #[Value.int IntKind.i64 0] L = (ints (boxAt b L 0)).toArray := by
    rw [boxAt_zero, made_zeros hL1 hL2]
  have hpos : 0 < b ^ L := Nat.pow_pos hb1
  rw [hM]
  have hK0 := Bk.new W 3 (ints (boxAt b L 0)).toArray
  have hJ0 := newOk_alloc hJ (.cells (ints (boxAt b L 0)).toArray 3) h0
  have hcl1 := hcl0.alloc (.cells (ints (boxAt b L 0)).toArray 3)
  have hcb1 := hcb0.alloc (.cells (ints (boxAt b L 0)).toArray 3)
  have hsz := hW.size
  have hcll := hcl.lt
  have hcbl := hcb.lt
  have HK0 := Lib.hid hK0
  clear hK0
  have HJ0 := Lib.hid hJ0
  clear hJ0
  have Hcl1 := Lib.hid hcl1
  clear hcl1
  have Hcb1 := Lib.hid hcb1
  clear hcb1
  have HY := Lib.hid hY
  clear hY
  gi_loopw [5] (fun _ wr => ∃ (pre : List (Nat × List Int)) (k : Nat), k = pre.length ∧ k < b ^ L ∧ Bk wr W.heap.size 3 (ints (boxAt b L k)).toArray ∧ Bk wr Bl 3 #[.int .i64 (L : Int)] ∧ Bk wr Bb 3 #[.int .i64 (b : Int)] ∧ J pre wr) (fun _ wr => b ^ L - numOf b (cellsAt wr W.heap.size))
  case atStart => exact ⟨[], 0, rfl, hpos, HK0.out, Hcl1.out, Hcb1.out, HJ0.out⟩
  case round =>
    clear HK0 HJ0 Hcl1 Hcb1 hM hmk sl0 hcl0 hcb0
    obtain ⟨pre, k, hk, hkN, hK, hl, hb, hj⟩ := hrel
    obtain ⟨fn, tmps, assign, body, hy, hR⟩ := HY.out pre (W.heap.size, boxAt b L k) wr hj ⟨hK, by rw [hk]⟩ (by omega)
    have hxv : boxVals (W.heap.size, boxAt b L k) = #[.slice (some ⟨W.heap.size, 0, none⟩) L L] := by simp only [boxVals, boxAt_len]
    rw [hxv] at hy
    gi_wp2
    refine hR.mono ?_
    rintro e w1 (⟨rfl, hj1, hc1⟩ | ⟨rfl, hx1⟩)
    · have hK1 := hc1.bk (by omega) hK
      have hl1 := hc1.bk hB1 hl
      have hb1' := hc1.bk hB2 hb
      have sl1 : w1.cell? ⟨Bl, 0, none⟩ = some (.int .i64 (L : Int)) := by rw [hl1.cell]; rfl
      have HK1 := Lib.hid hK1
      clear hK1
      have Hl1 := Lib.hid hl1
      clear hl1
      have Hb1' := Lib.hid hb1'
      clear hb1'
      have Hj1 := Lib.hid hj1
      clear hj1
      have hm0 : numOf b (cellsAt wr W.heap.size) = k := by rw [cellsAt_bk hK]; exact numOf_box hb1 L k hkN
      have hlen : k + 1 = (pre ++ [(W.heap.size, boxAt b L k)]).length := by rw [List.length_append, ← hk]; rfl
      clear hK hl hb hj hc1 hR hy
      have Hm0 := Lib.hid hm0
      clear hm0
      have Hlen := Lib.hid hlen
      clear hlen
      have Hk := Lib.hid hk
      clear hk
      gi_wp2
      gi_loopw [5] (fun v wr => ∃ (c j q : Nat), v = .int .i64 ((c : Int) - 1) ∧ c + j = L ∧ Hid ((q + 1) * b ^ j = k + 1) ∧ Hid (q < b ^ c) ∧ Bk wr W.heap.size 3 (ints (boxAt b c q ++ List.replicate j 0)).toArray ∧ Bk wr Bl 3 #[.int .i64 (L : Int)] ∧ Bk wr Bb 3 #[.int .i64 (b : Int)] ∧ J (pre ++ [(W.heap.size, boxAt b L k)]) wr) (fun v _ => (intOf v + 1).toNat)
      case atStart => exact ⟨L, 0, k, rfl, rfl, Lib.hid (by simp), Lib.hid hkN, by simpa using HK1.out, Hl1.out, Hb1'.out, Hj1.out⟩
      case round =>
        clear HK1 Hl1 Hb1' Hj1 sl1
        obtain ⟨c, j, q, rfl, hcj, Hq, HqN, hK, hl, hb, hj⟩ := hrel
        cases c with
        | zero =>
          gi_wp2
          gi_quiet (fail)
          gi_wp2
          refine bodyPost_ret (results_none rfl _ _ _) rfl ?_
          exact ⟨⟨_, rfl⟩, .inl ⟨_, Hlen.out.symm.trans (box_end hcj Hq.out HqN.out), hJ _ _ _ none hj (grown_drewN wr nq) (fun r e => by cases e)⟩⟩
        | succ c =>
          obtain ⟨d, hd⟩ : ∃ d, d = q % b := ⟨_, rfl⟩
          have hdb : d < b := by rw [hd]; exact Nat.mod_lt q hb1
          have hc0 : wr.cell? ⟨W.heap.size, c, none⟩ = some (.int .i64 (d : Int)) := by rw [hK.cell]; exact boxAt_get b c q j d hd
          have hf0 := hK.free c
          have sb : wr.cell? ⟨Bb, 0, none⟩ = some (.int .i64 (b : Int)) := by rw [hb.cell]; rfl
          have ec : ((c + 1 : Nat) : Int) - 1 = (c : Int) := by omega
          rw [ec]
          by_cases hdd : d + 1 = b
          · have hdi : (d : Int) = (b : Int) - 1 := by omega
            have hj2 : ∀ nq, J (pre ++ [(W.heap.size, boxAt b L k)]) ((wr.drewN nq).setCell ⟨W.heap.size, c, none⟩ (.int .i64 0)) := fun nq => hJ _ _ _ (some W.heap.size) (hJ _ _ _ none hj (grown_drewN wr nq) (fun r e => by cases e)) (bk_grown_put c _) (fun r e => by cases e; exact Nat.le_refl _)
            have hK2 : ∀ nq, Bk ((wr.drewN nq).setCell ⟨W.heap.size, c, none⟩ (.int .i64 0)) W.heap.size 3 (ints (boxAt b c (q / b) ++ List.replicate (j + 1) 0)).toArray := fun nq => by
              have h := (hK.drewN nq).put c (.int .i64 0)
              rwa [boxAt_set, zeros_snoc] at h
            have hl2 : ∀ nq, Bk ((wr.drewN nq).setCell ⟨W.heap.size, c, none⟩ (.int .i64 0)) Bl 3 #[.int .i64 (L : Int)] := fun nq => (hl.drewN nq).far (by show Bl ≠ W.heap.size; omega) _
            have hb2 : ∀ nq, Bk ((wr.drewN nq).setCell ⟨W.heap.size, c, none⟩ (.int .i64 0)) Bb 3 #[.int .i64 (b : Int)] := fun nq => (hb.drewN nq).far (by show Bb ≠ W.heap.size; omega) _
            have Hd := Lib.hid hd
            clear hd
            have Hj2 := Lib.hid hj2
            clear hj2
            have HK2 := Lib.hid hK2
            clear hK2
            have Hl2 := Lib.hid hl2
            clear hl2
            have Hb2 := Lib.hid hb2
            clear hb2
            have HK := Lib.hid hK
            clear hK
            have Hl := Lib.hid hl
            clear hl
            have Hb := Lib.hid hb
            clear hb
            have Hj := Lib.hid hj
            clear hj
            gi_wp2
            gi_quiet (fail)
            gi_wp2
            exact ⟨⟨c, j + 1, q / b, rfl, by omega, Lib.hid (box_carry hb1 Hd.out hdd Hq.out), Lib.hid (box_lt hb1 HqN.out), HK2.out nq, Hl2.out nq, Hb2.out nq, Hj2.out nq⟩, by simp [intOf] <;> omega⟩
          · have hdi : ¬ (d : Int) = (b : Int) - 1 := by omega
            have hj2 : ∀ nq, J (pre ++ [(W.heap.size, boxAt b L k)]) ((wr.drewN nq).setCell ⟨W.heap.size, c, none⟩ (.int .i64 ((d : Int) + 1))) := fun nq => hJ _ _ _ (some W.heap.size) (hJ _ _ _ none hj (grown_drewN wr nq) (fun r e => by cases e)) (bk_grown_put c _) (fun r e => by cases e; exact Nat.le_refl _)
            have hK2 : ∀ nq, Bk ((wr.drewN nq).setCell ⟨W.heap.size, c, none⟩ (.int .i64 ((d : Int) + 1))) W.heap.size 3 (ints (boxAt b L (k + 1))).toArray := fun nq => by
              have h := (hK.drewN nq).put c (.int .i64 ((d : Int) + 1))
              rwa [boxAt_set, box_list hb1 hcj hd Hq.out (by omega)] at h
            have hl2 : ∀ nq, Bk ((wr.drewN nq).setCell ⟨W.heap.size, c, none⟩ (.int .i64 ((d : Int) + 1))) Bl 3 #[.int .i64 (L : Int)] := fun nq => (hl.drewN nq).far (by show Bl ≠ W.heap.size; omega) _
            have hb2 : ∀ nq, Bk ((wr.drewN nq).setCell ⟨W.heap.size, c, none⟩ (.int .i64 ((d : Int) + 1))) Bb 3 #[.int .i64 (b : Int)] := fun nq => (hb.drewN nq).far (by show Bb ≠ W.heap.size; omega) _
            have hlt := box_step hb1 hcj hd Hq.out HqN.out (by omega)
            have Hd := Lib.hid hd
            clear hd
            have Hj2 := Lib.hid hj2
            clear hj2
            have HK2 := Lib.hid hK2
            clear hK2
            have Hl2 := Lib.hid hl2
            clear hl2
            have Hb2 := Lib.hid hb2
            clear hb2
            have HK := Lib.hid hK
            clear hK
            have Hl := Lib.hid hl
            clear hl
            have Hb := Lib.hid hb
            clear hb
            have Hj := Lib.hid hj
            clear hj
            gi_wp2
            gi_quiet (fail)
            gi_wp2
            refine ⟨⟨_, k + 1, Hlen.out, hlt, HK2.out nq, Hl2.out nq, Hb2.out nq, Hj2.out nq⟩, ?_⟩
            rw [Hm0.out, cellsAt_bk (HK2.out nq), numOf_box hb1 L (k + 1) hlt]
            omega
    · gi_wp2
      go_end0
      exact ⟨⟨_, rfl⟩, .inr ⟨_, hx1⟩⟩

end Go.Proofs.Ytidmbeeadbedaaa
