/- Merged texts: a claim has a limit of files. -/
import Derived.Test.YtidmbeeadbedaaaMg2
import Derived.Deep.RegionHeld3
import Derived.StillTailTactics
import Derived.Test.YtidmbeeadbedaaaMg1

/- The laws' markText: the text of a mark, a plain function of its number; and cells of slices of structs. -/
namespace Go.Proofs.Ytidmbeeadbedaaa
open Go.RowKit Go.Shelf

/-- 'string([]byte{x})': the slice of one byte that has just been laid. -/
theorem conv_byte (w : World) (x : Int) :
    (convert 22 9 (.slice (some ⟨w.heap.size, 0, none⟩) 1 1)).run Try.prog (w.alloc (.cells #[.int .u8 x] 5)) = .ok (.string ⟨#[UInt8.ofNat x.toNat]⟩) (w.alloc (.cells #[.int .u8 x] 5)) := by
  rw [run_convert_bytes_string _ _ _ _ _ _ _ Try.underlying22 Try.underlying5 Try.underlying9]
  rw [run_bytesToString _ _ _ _ [x] ?_]
  · rfl
  · simp [loadCells, loadCellsFrom, go_sem]

/-- The digits of j ahead of out (f rounds at most). -/
def mdig : Nat → Nat → List UInt8 → List UInt8
  | 0, _, out => out
  | f + 1, j, out => if j = 0 then out else mdig f (j / 10) (UInt8.ofNat (48 + j % 10) :: out)
/-- markText's result. -/
def mt (k : Int) : ByteArray := if k ≤ 0 then ⟨#[109, 48]⟩ else ⟨(109 :: mdig k.toNat k.toNat []).toArray⟩

theorem mdig_zero (f : Nat) (out : List UInt8) : mdig f 0 out = out := by cases f <;> simp [mdig]
theorem mark_end {f k : Nat} {out : ByteArray} (h : mdig f 0 out.data.toList = mdig k k []) : Ending.returned (.string (⟨#[109]⟩ ++ out)) = .returned (.string ⟨(109 :: mdig k k []).toArray⟩) := by
  rw [← h, mdig_zero]
  congr 2

theorem mark_step {f j : Nat} {out : ByteArray} {R : List UInt8} (hj : 0 < j) (h : mdig (f + 1) j out.data.toList = R) :
    mdig f (j / 10) ((⟨#[UInt8.ofNat (48 + (j : Int) % 10).toNat]⟩ : ByteArray) ++ out).data.toList = R := by
  rw [mdig, if_neg (by omega)] at h
  have e : (48 + (j : Int) % 10).toNat = 48 + j % 10 := by omega
  rw [e]
  simpa using h

set_option maxRecDepth 100000 in
set_option maxHeartbeats 400000 in
theorem markText_any (k : Int) (w : World) (h0 : 0 ≤ k) (hk : k ≤ 4611686018427387904) :
    Calls Try.prog 120 #[.int .i64 k] w (Kept w (.string (mt k))) := by
  by_cases hz : k ≤ 0
  · have e : mt k = ⟨#[109, 48]⟩ := by unfold mt; rw [if_pos hz]
    rw [e]
    clear e
    go_enter Try.func120, Try.ntmps120
    go_wp2
    go_ret
    exact ⟨rfl, Below.refl _ _⟩
  · have e : mt k = ⟨(109 :: mdig k.toNat k.toNat []).toArray⟩ := by unfold mt; rw [if_neg hz]
    rw [e]
    clear e
    have hp : 0 < k := by omega
    go_enter Try.func120, Try.ntmps120
    go_wp2
    go_loopw [0, 3] (fun kk o wr => ∃ (f j : Nat) (out : ByteArray), j ≤ f ∧ out.size + f ≤ k.toNat ∧ kk = .int .i64 j ∧ o = .string out ∧ Hid (mdig f j out.data.toList = mdig k.toNat k.toNat []) ∧ Below w.heap.size w wr) (fun kk _ _ => (intOf kk).toNat)
    case atStart => exact ⟨k.toNat, k.toNat, ⟨#[]⟩, Nat.le_refl _, Nat.le_of_eq (Nat.zero_add _), by simp; omega, rfl, rfl, Below.refl _ _⟩
    case round =>
      obtain ⟨f, j, out, hf, hfk, rfl, rfl, HM, hW⟩ := hrel
      by_cases hj : j = 0
      · subst hj
        go_wp2
        go_ret
        exact ⟨mark_end HM.out, hW⟩
      · have hjp : (0 : Int) < j := by omega
        have hjn : 0 < j := by omega
        obtain ⟨f', rfl⟩ : ∃ f', f = f' + 1 := ⟨f - 1, by omega⟩
        have hcv := conv_byte wr (48 + (j : Int) % 10)
        have HS : Hid (mdig f' (j / 10) ((⟨#[UInt8.ofNat (48 + (j : Int) % 10).toNat]⟩ : ByteArray) ++ out).data.toList = mdig k.toNat k.toNat []) := mark_step hjn HM.out
        obtain ⟨c, hc⟩ : ∃ c : ByteArray, c = ⟨#[UInt8.ofNat (48 + (j : Int) % 10).toNat]⟩ := ⟨_, rfl⟩
        rw [← hc] at hcv HS
        have hsz : c.size ≤ 1 := by rw [hc]; exact Nat.le_refl _
        clear hc
        go_wp2
        go_roundw
        case rel => exact ⟨f', j / 10, _, by omega, by simp; omega, by go_num, rfl, HS, hW.alloc hW.size _⟩
        case measure => simp [intOf]; omega

theorem str_eq (x y : ByteArray) : (x.toList == y.toList) = decide (x = y) := by
  rw [Bool.eq_iff_iff, beq_iff_eq, decide_eq_true_iff]
  constructor
  · intro h
    rw [ByteArray.toList_eq, ByteArray.toList_eq] at h
    exact ByteArray.ext (Array.toList_inj.1 h)
  · intro h; rw [h]

theorem flat_len {α : Type} {enc : α → List Value} {m : Nat} (hm : ∀ x, (enc x).length = m) (xs : List α) : (xs.flatMap enc).length = xs.length * m := by
  induction xs with
  | nil => simp
  | cons x t ih => simp [List.flatMap_cons, hm, ih, Nat.add_mul, Nat.add_comm]
theorem flat_get {α : Type} {enc : α → List Value} {m : Nat} (hm : ∀ x, (enc x).length = m) (xs : List α) (i f : Nat) (hi : i < xs.length) (hf : f < m) : (xs.flatMap enc)[i * m + f]? = (enc xs[i])[f]? := by
  induction xs generalizing i with
  | nil => simp at hi
  | cons x t ih =>
    rw [List.flatMap_cons]
    cases i with
    | zero => rw [List.getElem?_append_left (by rw [hm]; omega)]; simp
    | succ i =>
      rw [List.getElem?_append_right (by rw [hm, Nat.add_mul]; omega), hm]
      have e : (i + 1) * m + f - m = i * m + f := by rw [Nat.add_mul]; omega
      rw [e, ih i (by simpa using hi)]
      simp

theorem grown_of_below {w w' : World} (h : Below w.heap.size w w') (row : Option Nat) : w.grownBy w' row :=
  ⟨h.os, h.tape, h.output, h.size, fun k hk _ => h.block k hk⟩

/-- A cell of an owned row, for a store. -/
theorem own_cell {w : World} {base : Nat} {t : TypeId} {m g n c j : Nat} {xs : List Value} (h : w.ownsRow base t m (.slice (some ⟨g, 0, none⟩) n c) n xs) (hj : j < n * m) :
    (∃ v, w.cell? ⟨g, j, none⟩ = some v) ∧ w.frozen? ⟨g, j, none⟩ = false := by
  refine ⟨?_, h.frozenAt j⟩
  rw [h.cellAt j hj]
  exact ⟨xs[j]'(by rw [h.1]; exact hj), List.getElem?_eq_getElem _⟩

/-- A row made before another is another block. -/
theorem own_apart {w1 w2 : World} {b1 b2 : Nat} {t1 t2 : TypeId} {m1 m2 n1 n2 : Nat} {v1 v2 : Value} {xs1 xs2 : List Value} (h1 : w1.ownsRow b1 t1 m1 v1 n1 xs1) (h2 : w2.ownsRow b2 t2 m2 v2 n2 xs2) (hb : w1.heap.size ≤ b2) :
    v1.ownBlock = none ∨ v1.ownBlock ≠ v2.ownBlock := by
  cases e : v1.ownBlock with
  | none => exact .inl rfl
  | some g =>
    refine .inr fun e2 => ?_
    have := (h1.lt g e).2
    have := (h2.lt g e2.symm).1
    omega
/-- ... and the other way round. -/
theorem own_apart' {w1 w2 : World} {b1 b2 : Nat} {t1 t2 : TypeId} {m1 m2 n1 n2 : Nat} {v1 v2 : Value} {xs1 xs2 : List Value} (h1 : w1.ownsRow b1 t1 m1 v1 n1 xs1) (h2 : w2.ownsRow b2 t2 m2 v2 n2 xs2) (hb : w2.heap.size ≤ b1) :
    v1.ownBlock = none ∨ v1.ownBlock ≠ v2.ownBlock := by
  cases e : v1.ownBlock with
  | none => exact .inl rfl
  | some g =>
    refine .inr fun e2 => ?_
    have := (h1.lt g e).1
    have := (h2.lt g e2.symm).2
    omega
theorem below_marked {w w3 w4 : World} {base : Nat} {t : TypeId} {m n : Nat} {v : Value} {xs : List Value} (h : Below w.heap.size w w3) (hg : w3.grownBy w4 v.ownBlock) (ho : w3.ownsRow base t m v n xs) (hb : w.heap.size ≤ base) : Below w.heap.size w w4 :=
  h.grown hg h.size fun k hk => Nat.le_trans hb (ho.lt k hk).1

end Go.Proofs.Ytidmbeeadbedaaa

/- Walks over the laws' helpers for impl.Order: eqOrder, eqOrderS, markOrderS, heldOrderS and the readings of slices of them. -/
namespace Go.Proofs.Ytidmbeeadbedaaa
open Go.RowKit Go.Shelf

abbrev OrderT : Type := ByteArray × ByteArray × Bool
def encOrder (x : OrderT) : List Value := [.string x.1, .string x.2.1, .bool x.2.2]
def cellsOrder (xs : List OrderT) : List Value := xs.flatMap encOrder
theorem encOrder_len (x : OrderT) : (encOrder x).length = 3 := rfl
theorem cellsOrder_len (xs : List OrderT) : (cellsOrder xs).length = xs.length * 3 := flat_len (enc := encOrder) (m := 3) (fun _ => rfl) xs
/-- The cells of element k. -/
theorem rd_Order {w : World} {A : Option Addr} {xs : List OrderT} (h : Rd w A (cellsOrder xs)) {k : Nat} (hk : k < xs.length) : ∃ b off, A = some ⟨b, off, none⟩ ∧ b < w.heap.size ∧
    w.cell? ⟨b, off + k * 3, none⟩ = some (.string xs[k].1) ∧ w.cell? ⟨b, off + k * 3 + 1, none⟩ = some (.string xs[k].2.1) ∧ w.cell? ⟨b, off + k * 3 + 2, none⟩ = some (.bool xs[k].2.2) := by
  have f0 := flat_get (enc := encOrder) (m := 3) (fun _ => rfl) xs k 0 hk (by omega)
  obtain ⟨b, off, e, hb, hc⟩ := h (by intro e; unfold cellsOrder at e; rw [e] at f0; cases f0)
  refine ⟨b, off, e, hb, ?_, ?_, ?_⟩
  · exact hc (k * 3) _ f0
  · exact hc (k * 3 + 1) _ (flat_get (enc := encOrder) (m := 3) (fun _ => rfl) xs k 1 hk (by omega))
  · exact hc (k * 3 + 2) _ (flat_get (enc := encOrder) (m := 3) (fun _ => rfl) xs k 2 hk (by omega))





end Go.Proofs.Ytidmbeeadbedaaa

/- Walks over the laws' helpers for slices of strings: toStringS, eqStringS, markStringS, heldStringS, szStringS. -/
namespace Go.Proofs.Ytidmbeeadbedaaa
open Go.RowKit Go.Shelf

def strs (ss : List ByteArray) : List Value := ss.map Value.string
theorem strs_get (ss : List ByteArray) (k : Nat) (h : k < ss.length) : (strs ss)[k]? = some (.string ss[k]) := by simp [strs, h]
theorem strs_len (ss : List ByteArray) : (strs ss).length = ss.length := by simp [strs]
theorem info_str : (Try.prog.info? 9).map (fun i => (i.zero, i.size, i.bytes)) = some (some (.string ⟨#[]⟩), 1, 16) := by kernel_rfl
/-- A slice of strings that came in. -/
def OpenSlStrs (w : World) (A : Option Addr) (n : Nat) (ss : List ByteArray) : Prop := Rd w A (strs ss) ∧ n = ss.length ∧ n ≤ maxLen ∧ ∀ s ∈ ss, s.size ≤ maxLen


set_option maxRecDepth 100000 in
set_option maxHeartbeats 1000000 in
theorem eqStringS_k (A : Option Addr) (n c : Nat) (xs : List ByteArray) (B : Option Addr) (m d : Nat) (ys : List ByteArray) (w : World) (hx : Rd w A (strs xs)) (hn : n = xs.length) (hb : n ≤ 9223372036854775807) (hy : Rd w B (strs ys)) (hm : m = ys.length) (hbm : m ≤ 9223372036854775807) :
    Calls Try.prog 55 #[.slice A n c, .slice B m d] w (Kept w (.bool (decide (xs = ys)))) := by
  subst hn hm
  by_cases hl : xs.length = ys.length
  · have hd : ((xs.length : Int) != ys.length) = false := by simp [hl]
    have h1 : xs.length ≤ ys.length := by omega
    have h2 : ys.length ≤ xs.length := by omega
    have Hl := Lib.hid hl
    clear hl
    go_enter Try.func55, Try.ntmps55
    go_wp2
    go_loopw [5] (fun i wr => ∃ (k q : Nat), k ≤ xs.length ∧ i = .int .i64 k ∧ wr = w.drewN q ∧ Same xs ys k) (fun i _ => xs.length - (intOf i).toNat)
    case atStart => exact ⟨0, 0, Nat.zero_le _, rfl, rfl, fun _ h => absurd h (Nat.not_lt_zero _)⟩
    case round =>
      obtain ⟨k, q, hk, rfl, rfl, hS⟩ := hrel
      clear hd
      by_cases hlt : k < xs.length
      · have hlt2 : k < ys.length := by omega
        have hz1 := strs_get xs k hlt
        have hz2 := strs_get ys k hlt2
        obtain ⟨b1, o1, rfl, hb1, hc1⟩ := hx (by intro e; rw [e] at hz1; cases hz1)
        obtain ⟨b2, o2, rfl, hb2, hc2⟩ := hy (by intro e; rw [e] at hz2; cases hz2)
        have c1 := hc1 k _ hz1
        have c2 := hc2 k _ hz2
        obtain ⟨x, hxv⟩ : ∃ x, x = xs[k] := ⟨_, rfl⟩
        obtain ⟨y, hyv⟩ : ∃ y, y = ys[k] := ⟨_, rfl⟩
        rw [← hxv] at c1
        rw [← hyv] at c2
        have hse := str_eq x y
        by_cases he : x = y
        · have hd : (x.toList == y.toList) = true := by rw [hse, decide_eq_true he]
          have HE : Hid (xs[k] = ys[k]) := by rw [← hxv, ← hyv]; exact he
          clear he hz1 hz2 hc1 hc2 hx hy hxv hyv hse
          go_wp2
          go_quiet (fail)
          go_wp2
          go_roundw
          case rel => exact ⟨k + 1, _, by omega, by go_num, rfl, hS.snoc hlt hlt2 HE.out⟩
          case measure => simp [intOf]; omega
        · have hd : (x.toList == y.toList) = false := by rw [hse, decide_eq_false he]
          have HE : Hid (¬ xs[k] = ys[k]) := by rw [← hxv, ← hyv]; exact he
          clear he hz1 hz2 hc1 hc2 hx hy hxv hyv hse
          go_wp2
          go_quiet (fail)
          go_wp2
          go_ret
          exact ⟨ret_bool (by symm; rw [decide_eq_false_iff_not]; exact ne_at HE.out), below_drewN (below_drewN (Below.refl _ _) _) _⟩
      · have : k = xs.length := by omega
        subst this
        go_wp2
        go_ret
        exact ⟨ret_bool (by symm; rw [decide_eq_true_iff]; exact hS.all Hl.out), below_drewN (Below.refl _ _) _⟩
  · have hd : ((xs.length : Int) != ys.length) = true := by simp; omega
    go_enter Try.func55, Try.ntmps55
    go_wp2
    go_ret
    exact ⟨ret_bool (by simp; intro e; exact hl (by rw [e])), Below.refl _ _⟩

def mkS (k : Int) (j : Nat) : Value := .string (mt (k + j))
set_option maxRecDepth 100000 in
set_option maxHeartbeats 1000000 in
theorem markStringS_any (A : Option Addr) (n c : Nat) (zs : List Value) (k : Int) (base : Nat) (w : World) (ho : w.ownsRow base 9 1 (.slice A n c) n zs) (h0 : 0 ≤ k) (hk : k + n ≤ 4611686018427387904) :
    Calls Try.prog 58 #[.slice A n c, .int .i64 k] w (Marks w base 9 1 A n c k (mkS k)) := by
  go_enter Try.func58, Try.ntmps58
  go_wp2_with fail
  go_loopw [1, 5] (fun kk i wr => ∃ (j : Nat) (ys : List Value), j ≤ n ∧ i = .int .i64 j ∧ kk = .int .i64 (k + j) ∧ wr.ownsRow base 9 1 (.slice A n c) n ys ∧ Told ys (mkS k) j ∧ w.grownBy wr (Value.slice A n c).ownBlock) (fun _ i _ => n - (intOf i).toNat)
  case atStart => exact ⟨0, zs, Nat.zero_le _, rfl, by simp, ho, Told.zero _ _, grown_refl _ _⟩
  case round =>
    obtain ⟨j, ys, hj, rfl, rfl, hO, hT, hG⟩ := hrel
    by_cases hlt : j < n
    · obtain ⟨g, rfl, hbg, hlt'⟩ := own_some hO (by omega)
      have hys : j < ys.length := by have := hO.1; omega
      clear ho
      go_wp2_with fail
      refine (markText_any (k + j) _ (by omega) (by omega)).mono ?_
      rintro e u0 ⟨rfl, hU0⟩
      have hA0 := own_keep hO hU0 (Nat.le_refl _)
      have hG0 := grown_trans hG (grown_of_below hU0 _)
      obtain ⟨⟨v0, hv0⟩, hf0⟩ := own_cell hA0 (j := j) (by omega)
      have hB0 := hA0.stored j (mkS k j)
      have hT0 := hT.put hys
      have hK0 := grown_trans hG0 hB0.2
      have hO0 := hB0.1
      clear hB0
      go_wp2_with fail
      go_roundw
      case rel => exact ⟨j + 1, _, by omega, by go_num, by go_num, hO0, hT0, hK0⟩
      case measure => simp [intOf]; omega
    · have : j = n := by omega
      subst this
      go_wp2
      go_ret
      have e := hT.all (j := j) (by have := hO.1; omega)
      exact ⟨ret_int (by simp), by rw [Nat.mul_one, ← e]; exact hO, hG⟩

set_option maxRecDepth 100000 in
set_option maxHeartbeats 8000000 in
theorem heldStringS_k (A : Option Addr) (n c : Nat) (k : Int) (w : World) (hr : Rd w A ((List.range (n * 1)).map (mkS k))) (h0 : 0 ≤ k) (hk : k + n ≤ 4611686018427387904) :
    Calls Try.prog 59 #[.slice A n c, .int .i64 k] w (Kept w (.int .i64 (k + (n * 1 : Nat)))) := by
  go_enter Try.func59, Try.ntmps59
  go_wp2_with fail
  go_loopw [1, 5] (fun kk i wr => ∃ (j : Nat), j ≤ n ∧ i = .int .i64 j ∧ kk = .int .i64 (k + j) ∧ Below w.heap.size w wr) (fun _ i _ => n - (intOf i).toNat)
  case atStart => exact ⟨0, Nat.zero_le _, rfl, by simp, Below.refl _ _⟩
  case round =>
    obtain ⟨j, hj, rfl, rfl, hW⟩ := hrel
    by_cases hlt : j < n
    · have z0 := range_map_get (mkS k) (n * 1) j (by omega)
      obtain ⟨b, o, rfl, hb, hc⟩ := (hr.keep hW) (by intro e; rw [e] at z0; cases z0)
      have c0 : wr.cell? ⟨b, o + j, none⟩ = some (.string (mt (k + j))) := hc j _ z0
      clear z0 hr hc
      obtain ⟨s0, hs0⟩ : ∃ s, s = mt (k + (j : Int)) := ⟨_, rfl⟩
      rw [← hs0] at c0
      have hcall0 := fun W => markText_any (k + (j : Int)) W (by omega) (by omega)
      rw [← hs0] at hcall0
      have Hs0 := Lib.hid hs0
      clear hs0
      have Hcall0 := Lib.hid hcall0
      clear hcall0
      have e0 : ∀ (W : World), Below wr.drew.heap.size wr.drew W → W.cell? ⟨b, o + j, none⟩ = some (.string s0) ∧ Below w.heap.size w W := fun W hW1 => ⟨(hW1.cell (p := ⟨b, o + j, none⟩) hb).trans c0, hW.drew.trans (hW1.mono hW.size)⟩
      have z0 := e0 _ (Below.refl _ _)
      have E0 := Lib.hid e0
      clear e0
      have Z0 := Lib.hid z0
      clear z0
      go_wp2_with fail
      go_region_held3 (fun w' => w'.cell? ⟨b, o + j, none⟩ = some (.string s0) ∧ Below w.heap.size w w') (first | exact Z0.out | exact E0.out _ hV0) ((refine (Hcall0.out _).mono ?_; rintro e u0 ⟨rfl, hV0⟩))
      have hY0 := hW.trans ((((Below.refl _ wr).drew).trans hV0).mono hW.size)
      clear c0 E0 Z0 Hcall0 hV0
      go_wp2_with fail
      go_roundw
      case rel => exact ⟨j + 1, by omega, by go_num, by go_num, hY0⟩
      case measure => simp [intOf]; omega
    · have : j = n := by omega
      subst this
      go_wp2
      go_ret
      exact ⟨ret_int (by simp), hW⟩


end Go.Proofs.Ytidmbeeadbedaaa
