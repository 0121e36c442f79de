/- The laws' markText: the text of a mark, a plain function of its number; and cells of slices of structs. -/



import Derived.Test.YtgceabbeeobmgaaDoorOpen
import Derived.Deep.RegionHeld3
import Derived.StillTailTactics
namespace Go.Proofs.YtgceabbeeobmgaaDoor

open Go.RowKit Go.Shelf

/-- 'string([]byte{x})': the slice of one byte that has just been laid. -/
theorem conv_byte (w : World) (x : Int) :
    (convert 22 9 (.slice (some ⟨w.heap.size, 0, none⟩) 1 1)).run Tryd.prog (w.alloc (.cells #[.int .u8 x] 5)) = .ok (.string ⟨#[UInt8.ofNat x.toNat]⟩) (w.alloc (.cells #[.int .u8 x] 5)) := by
  rw [run_convert_bytes_string _ _ _ _ _ _ _ Tryd.underlying22 Tryd.underlying5 Tryd.underlying9]
  rw [run_bytesToString _ _ _ _ [x] ?_]
  · rfl
  · simp [loadCells, loadCellsFrom, go_sem]

/-- The digits of j ahead of out (f rounds at most). -/
def mdig : Nat → Nat → List UInt8 → List UInt8
  | 0, _, out => out
  | f + 1, j, out => if j = 0 then out else mdig f (j / 10) (UInt8.ofNat (48 + j % 10) :: out)
/-- markText's result. -/
def mt (k : Int) : ByteArray := if k ≤ 0 then ⟨#[109, 48]⟩ else ⟨(109 :: mdig k.toNat k.toNat []).toArray⟩

theorem mdig_zero (f : Nat) (out : List UInt8) : mdig f 0 out = out := by cases f <;> simp [mdig]
theorem mark_end {f k : Nat} {out : ByteArray} (h : mdig f 0 out.data.toList = mdig k k []) : Ending.returned (.string (⟨#[109]⟩ ++ out)) = .returned (.string ⟨(109 :: mdig k k []).toArray⟩) := by
  rw [← h, mdig_zero]
  congr 2

theorem mark_step {f j : Nat} {out : ByteArray} {R : List UInt8} (hj : 0 < j) (h : mdig (f + 1) j out.data.toList = R) :
    mdig f (j / 10) ((⟨#[UInt8.ofNat (48 + (j : Int) % 10).toNat]⟩ : ByteArray) ++ out).data.toList = R := by
  rw [mdig, if_neg (by omega)] at h
  have e : (48 + (j : Int) % 10).toNat = 48 + j % 10 := by omega
  rw [e]
  simpa using h

set_option maxRecDepth 100000 in
set_option maxHeartbeats 400000 in
theorem markText_any (k : Int) (w : World) (h0 : 0 ≤ k) (hk : k ≤ 4611686018427387904) :
    Calls Tryd.prog 75 #[.int .i64 k] w (Kept w (.string (mt k))) := by
  by_cases hz : k ≤ 0
  · have e : mt k = ⟨#[109, 48]⟩ := by unfold mt; rw [if_pos hz]
    rw [e]
    clear e
    go_enter Tryd.func75, Tryd.ntmps75
    go_wp2
    go_ret
    exact ⟨rfl, Below.refl _ _⟩
  · have e : mt k = ⟨(109 :: mdig k.toNat k.toNat []).toArray⟩ := by unfold mt; rw [if_neg hz]
    rw [e]
    clear e
    have hp : 0 < k := by omega
    go_enter Tryd.func75, Tryd.ntmps75
    go_wp2
    go_loopw [0, 3] (fun kk o wr => ∃ (f j : Nat) (out : ByteArray), j ≤ f ∧ out.size + f ≤ k.toNat ∧ kk = .int .i64 j ∧ o = .string out ∧ Hid (mdig f j out.data.toList = mdig k.toNat k.toNat []) ∧ Below w.heap.size w wr) (fun kk _ _ => (intOf kk).toNat)
    case atStart => exact ⟨k.toNat, k.toNat, ⟨#[]⟩, Nat.le_refl _, Nat.le_of_eq (Nat.zero_add _), by simp; omega, rfl, rfl, Below.refl _ _⟩
    case round =>
      obtain ⟨f, j, out, hf, hfk, rfl, rfl, HM, hW⟩ := hrel
      by_cases hj : j = 0
      · subst hj
        go_wp2
        go_ret
        exact ⟨mark_end HM.out, hW⟩
      · have hjp : (0 : Int) < j := by omega
        have hjn : 0 < j := by omega
        obtain ⟨f', rfl⟩ : ∃ f', f = f' + 1 := ⟨f - 1, by omega⟩
        have hcv := conv_byte wr (48 + (j : Int) % 10)
        have HS : Hid (mdig f' (j / 10) ((⟨#[UInt8.ofNat (48 + (j : Int) % 10).toNat]⟩ : ByteArray) ++ out).data.toList = mdig k.toNat k.toNat []) := mark_step hjn HM.out
        obtain ⟨c, hc⟩ : ∃ c : ByteArray, c = ⟨#[UInt8.ofNat (48 + (j : Int) % 10).toNat]⟩ := ⟨_, rfl⟩
        rw [← hc] at hcv HS
        have hsz : c.size ≤ 1 := by rw [hc]; exact Nat.le_refl _
        clear hc
        go_wp2
        go_roundw
        case rel => exact ⟨f', j / 10, _, by omega, by simp; omega, by go_num, rfl, HS, hW.alloc hW.size _⟩
        case measure => simp [intOf]; omega

theorem str_eq (x y : ByteArray) : (x.toList == y.toList) = decide (x = y) := by
  rw [Bool.eq_iff_iff, beq_iff_eq, decide_eq_true_iff]
  constructor
  · intro h
    rw [ByteArray.toList_eq, ByteArray.toList_eq] at h
    exact ByteArray.ext (Array.toList_inj.1 h)
  · intro h; rw [h]

theorem grown_of_below {w w' : World} (h : Below w.heap.size w w') (row : Option Nat) : w.grownBy w' row :=
  ⟨h.os, h.tape, h.output, h.size, fun k hk _ => h.block k hk⟩

/-- A cell of an owned row, for a store. -/
theorem own_cell {w : World} {base : Nat} {t : TypeId} {m g n c j : Nat} {xs : List Value} (h : w.ownsRow base t m (.slice (some ⟨g, 0, none⟩) n c) n xs) (hj : j < n * m) :
    (∃ v, w.cell? ⟨g, j, none⟩ = some v) ∧ w.frozen? ⟨g, j, none⟩ = false := by
  refine ⟨?_, h.frozenAt j⟩
  rw [h.cellAt j hj]
  exact ⟨xs[j]'(by rw [h.1]; exact hj), List.getElem?_eq_getElem _⟩

/-- A row made before another is another block. -/
theorem own_apart {w1 w2 : World} {b1 b2 : Nat} {t1 t2 : TypeId} {m1 m2 n1 n2 : Nat} {v1 v2 : Value} {xs1 xs2 : List Value} (h1 : w1.ownsRow b1 t1 m1 v1 n1 xs1) (h2 : w2.ownsRow b2 t2 m2 v2 n2 xs2) (hb : w1.heap.size ≤ b2) :
    v1.ownBlock = none ∨ v1.ownBlock ≠ v2.ownBlock := by
  cases e : v1.ownBlock with
  | none => exact .inl rfl
  | some g =>
    refine .inr fun e2 => ?_
    have := (h1.lt g e).2
    have := (h2.lt g e2.symm).1
    omega
/-- ... and the other way round. -/
theorem own_apart' {w1 w2 : World} {b1 b2 : Nat} {t1 t2 : TypeId} {m1 m2 n1 n2 : Nat} {v1 v2 : Value} {xs1 xs2 : List Value} (h1 : w1.ownsRow b1 t1 m1 v1 n1 xs1) (h2 : w2.ownsRow b2 t2 m2 v2 n2 xs2) (hb : w2.heap.size ≤ b1) :
    v1.ownBlock = none ∨ v1.ownBlock ≠ v2.ownBlock := by
  cases e : v1.ownBlock with
  | none => exact .inl rfl
  | some g =>
    refine .inr fun e2 => ?_
    have := (h1.lt g e).1
    have := (h2.lt g e2.symm).2
    omega
theorem below_marked {w w3 w4 : World} {base : Nat} {t : TypeId} {m n : Nat} {v : Value} {xs : List Value} (h : Below w.heap.size w w3) (hg : w3.grownBy w4 v.ownBlock) (ho : w3.ownsRow base t m v n xs) (hb : w.heap.size ≤ base) : Below w.heap.size w w4 :=
  h.grown hg h.size fun k hk => Nat.le_trans hb (ho.lt k hk).1

end Go.Proofs.YtgceabbeeobmgaaDoor
