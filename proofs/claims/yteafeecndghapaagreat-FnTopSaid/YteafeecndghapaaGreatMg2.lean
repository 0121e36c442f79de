/- Merged texts: a claim has a limit of files. -/
import Derived.Test.YteafeecndghapaaGreatBase
import Derived.ProofKit
import Derived.OpenShut
import Derived.ShutString
import Derived.ChangeOld
import Derived.Deep.Slices
import Derived.Deep.Fields
import Derived.Lib.SmallJoins
import Derived.Test.YteafeecndghapaaGreatMg1
import Derived.Deep.RegionHeld3
import Derived.StillTailTactics
import Derived.Deep.RegionLaw
import Derived.Lib.Join

/- Arguments opened: how the parameters of the laws read, as values and cells, for the rows' proofs. -/
namespace Go.Proofs.YteafeecndghapaaGreat
open Go.ChangeShapes Go.WideShapes Go.ChangeAt Go.RowKit Go.Shelf

theorem own_knob : ownKnob Tryz.prog.godebug = none := by kernel_rfl
theorem laid_out : laidOutB Tryz.prog = true := by kernel_rfl

theorem cell_spot {w : World} {a : Addr} {v : Value} (h : w.cell? a = some v) : a = ⟨a.block, a.off, none⟩ ∧ a.block < w.heap.size := by
  refine ⟨?_, World.block_lt_of_cell? w a h⟩
  unfold World.cell? at h
  split at h
  · split at h
    · cases h
    · next hs =>
      obtain ⟨b, o, s⟩ := a
      simp at hs
      subst hs
      rfl
  · cases h

theorem rd_of_cells {w : World} {a : Addr} {xs : List Value} (h : ∀ j u, xs[j]? = some u → w.cell? (a.add j) = some u) : Rd w (some a) xs := fun hn => by
  obtain ⟨x, t, rfl⟩ := List.exists_cons_of_ne_nil hn
  have h0 := h 0 x rfl
  have e0 : a.add 0 = a := by unfold Addr.add; simp
  rw [e0] at h0
  obtain ⟨e, hl⟩ := cell_spot h0
  refine ⟨a.block, a.off, by rw [← e], hl, fun j u hu => ?_⟩
  have hj := h j u hu
  have ea : a.add j = ⟨a.block, a.off + j, none⟩ := by
    rw [e]
    unfold Addr.add
    by_cases hz : j = 0 <;> simp [hz]
  rw [ea] at hj
  exact hj

section
variable {H : Type} {enc : TypeId × Value → H} {w : World} {base : Nat} {spare : Nat → Bool} {held : Bool}
end

end Go.Proofs.YteafeecndghapaaGreat

/- Walks over within, l01In, allWithin, slices.IndexFunc and ContainsFunc at []int, and both WeightsOk: each returns what wtsOk says, for all arguments. -/
namespace Go.Proofs.YteafeecndghapaaGreat
open Go.RowKit Go.Shelf

set_option maxHeartbeats 400000 in
theorem l01In_any (n lo hi : Int) (w : World) :
    Calls Tryz.prog 37 #[.int .i64 n, .int .i64 lo, .int .i64 hi] w fun e w' => e = .returned (.bool (inB n lo hi)) ∧ w = w' := by
  unfold inB
  by_cases h1 : lo ≤ n <;> by_cases h2 : n ≤ hi
  all_goals
    go_enter Tryz.func37, Tryz.ntmps37
    go_wp2
    go_ret
    exact ⟨by simp [*], rfl⟩

set_option maxHeartbeats 400000 in
theorem within_any (n lo hi : Int) (w : World) :
    Calls Tryz.prog 40 #[.int .i64 n, .int .i64 lo, .int .i64 hi] w fun e w' => e = .returned (.bool (inB n lo hi)) ∧ w = w' := by
  unfold inB
  by_cases h1 : lo ≤ n <;> by_cases h2 : n ≤ hi
  all_goals
    go_enter Tryz.func40, Tryz.ntmps40
    go_wp2
    go_ret
    exact ⟨by simp [*], rfl⟩

end Go.Proofs.YteafeecndghapaaGreat

/- Walks over WordOk (the program's and the reference's) and hasLetters, and over the weight of a word: each returns what wordOk and wsum say, for all arguments. -/
namespace Go.Proofs.YteafeecndghapaaGreat
open Go.RowKit Go.Shelf

/-- The letters of s are among the first k. -/
def lettersOk (k : Int) (s : ByteArray) : Bool := s.data.toList.all (fun b => inB b.toNat 97 (96 + k))
/-- WordOk, in plain words. -/
def wordOk (k : Int) (s : ByteArray) : Bool := inB k 1 4 && decide (s.size ≤ 16) && lettersOk k s

theorem bytes_len (s : ByteArray) : s.data.toList.length = s.size := by rw [Array.length_toList]; rfl
theorem byte_get (s : ByteArray) (j : Nat) (h : j < s.size) : s[j] = s.data.toList.getD j 0 := by
  have h' : j < s.data.toList.length := by rw [bytes_len]; exact h
  rw [List.getD_eq_getElem?_getD, List.getElem?_eq_getElem h']
  rfl

set_option maxRecDepth 100000 in
set_option maxHeartbeats 400000 in
theorem hasLetters_any (k : Int) (s : ByteArray) (w : World) (h1 : 1 ≤ k) (h2 : k ≤ 4) (hs : s.size ≤ 9223372036854775807) :
    Calls Tryz.prog 72 #[.int .i64 k, .string s] w fun e w' => e = .returned (.bool (lettersOk k s)) ∧ w = w' := by
  go_enter Tryz.func72, Tryz.ntmps72
  go_wp2_with fail
  go_loop [8] (fun i => ∃ (j : Nat), j ≤ s.size ∧ i = .int .i64 j ∧ Hid ((s.data.toList.take j).all (fun b => inB b.toNat 97 (96 + k)) = true)) (fun i => s.size - (intOf i).toNat)
  case atStart => exact ⟨0, Nat.zero_le _, rfl, by simp [Hid]⟩
  case round =>
    obtain ⟨j, hj, rfl, HA⟩ := hrel
    by_cases hlt : j < s.size
    · have h256 : s[j].toNat < 256 := s[j].toNat_lt
      have hlt' : j < s.data.toList.length := by rw [bytes_len]; exact hlt
      have hv := byte_get s j hlt
      have Hv := Lib.hid hv
      clear hv
      have Hlt' := Lib.hid hlt'
      clear hlt'
      go_wp2_with fail
      refine (within_any (s[j].toNat : Int) 97 (97 + k - 1) _).mono ?_
      rintro e w' ⟨rfl, rfl⟩
      obtain ⟨r, hrr⟩ : ∃ r, r = inB (s[j].toNat : Int) 97 (97 + k - 1) := ⟨_, rfl⟩
      rw [← hrr]
      have HR : Hid ((fun b : UInt8 => inB b.toNat 97 (96 + k)) s[j] = r) := by
        unfold Hid
        rw [hrr, show (97 + k - 1) = 96 + k from by omega]
      clear hrr
      cases r
      · go_wp2_with fail
        go_ret
        exact ⟨ret_bool (by rw [lettersOk, all_miss (Hlt'.out) Hv.out HR.out]), rfl⟩
      · go_wp2_with fail
        go_round
        case rel => exact ⟨j + 1, by omega, by go_num, all_snoc (Hlt'.out) HA.out Hv.out HR.out⟩
        case measure => simp [intOf]; omega
    · have : j = s.size := by omega
      subst this
      go_wp2_with fail
      go_ret
      exact ⟨ret_bool (by have := HA.out; rw [List.take_of_length_le (by rw [bytes_len]; omega)] at this; rw [lettersOk, this]), rfl⟩

set_option maxRecDepth 100000 in
set_option maxHeartbeats 400000 in
theorem implWord_any (k : Int) (s : ByteArray) (w : World) (hs : s.size ≤ 9223372036854775807) :
    Calls Tryz.prog 49 #[.int .i64 k, .string s] w fun e w' => e = .returned (.bool (wordOk k s)) ∧ w = w' := by
  go_enter Tryz.func49, Tryz.ntmps49
  go_wp2_with fail
  refine (within_any k 1 4 _).mono ?_
  rintro e w' ⟨rfl, rfl⟩
  obtain ⟨r1, hrr⟩ : ∃ r', r' = (inB k 1 4) := ⟨_, rfl⟩
  rw [← hrr]
  have H1 := Lib.hid hrr
  clear hrr
  cases r1
  · go_wp2_with fail
    go_ret
    exact ⟨ret_bool (by rw [wordOk, ← H1.out]; rfl), rfl⟩
  · obtain ⟨hm1, hm2⟩ := inB_out H1.out
    by_cases hl : s.size ≤ 16
    · skip
      go_wp2_with fail
      refine (hasLetters_any k s _ hm1 hm2 hs).mono ?_
      rintro e w' ⟨rfl, rfl⟩
      obtain ⟨r2, hrr⟩ : ∃ r', r' = (lettersOk k s) := ⟨_, rfl⟩
      rw [← hrr]
      have H2 := Lib.hid hrr
      clear hrr
      go_wp2_with fail
      go_ret
      exact ⟨ret_bool (by rw [H2.out, wordOk, ← H1.out, decide_eq_true hl]; rfl), rfl⟩
    · go_wp2_with fail
      go_ret
      exact ⟨ret_bool (by rw [wordOk, ← H1.out, decide_eq_false hl]; rfl), rfl⟩

set_option maxRecDepth 100000 in
set_option maxHeartbeats 400000 in
theorem specWord_any (k : Int) (s : ByteArray) (w : World) (hs : s.size ≤ 9223372036854775807) :
    Calls Tryz.prog 14 #[.int .i64 k, .string s] w fun e w' => e = .returned (.bool (wordOk k s)) ∧ w = w' := by
  go_enter Tryz.func14, Tryz.ntmps14
  go_wp2_with fail
  refine (l01In_any k 1 4 _).mono ?_
  rintro e w' ⟨rfl, rfl⟩
  obtain ⟨r1, hrr⟩ : ∃ r', r' = (inB k 1 4) := ⟨_, rfl⟩
  rw [← hrr]
  have H1 := Lib.hid hrr
  clear hrr
  cases r1
  · go_wp2_with fail
    go_ret
    exact ⟨ret_bool (by rw [wordOk, ← H1.out]; rfl), rfl⟩
  · obtain ⟨hm1, hm2⟩ := inB_out H1.out
    by_cases hl : s.size ≤ 16
    · skip
      go_wp2_with fail
      go_loop [5] (fun i => ∃ (j : Nat), j ≤ s.size ∧ i = .int .i64 j ∧ Hid ((s.data.toList.take j).all (fun b => inB b.toNat 97 (96 + k)) = true)) (fun i => s.size - (intOf i).toNat)
      case atStart => exact ⟨0, Nat.zero_le _, rfl, by simp [Hid]⟩
      case round =>
        obtain ⟨j, hj, rfl, HA⟩ := hrel
        by_cases hlt : j < s.size
        · have hlt' : j < s.data.toList.length := by rw [bytes_len]; exact hlt
          have hv := byte_get s j hlt
          have Hv := Lib.hid hv
          clear hv
          have Hlt' := Lib.hid hlt'
          clear hlt'
          have h256 : s[j].toNat < 256 := s[j].toNat_lt
          by_cases c1 : (s[j].toNat : Int) < 97
          · go_wp2
            go_ret
            exact ⟨ret_bool (by rw [wordOk, lettersOk, all_miss (Hlt'.out) Hv.out (by simp [inB]; omega), Bool.and_false]), rfl⟩
          · by_cases c2 : k ≤ (s[j].toNat : Int) - 97
            · go_wp2
              go_ret
              exact ⟨ret_bool (by rw [wordOk, lettersOk, all_miss (Hlt'.out) Hv.out (by simp [inB]; omega), Bool.and_false]), rfl⟩
            · go_wp2
              go_round
              case rel => exact ⟨j + 1, by omega, by go_num, all_snoc (Hlt'.out) HA.out Hv.out (by simp [inB]; omega)⟩
              case measure => simp [intOf]; omega
        · have : j = s.size := by omega
          subst this
          go_wp2
          go_ret
          exact ⟨ret_bool (by have := HA.out; rw [List.take_of_length_le (by rw [bytes_len]; omega)] at this; rw [wordOk, lettersOk, this, ← H1.out, decide_eq_true hl]; rfl), rfl⟩
    · go_wp2_with fail
      go_ret
      exact ⟨ret_bool (by rw [wordOk, ← H1.out, decide_eq_false hl]; rfl), rfl⟩

end Go.Proofs.YteafeecndghapaaGreat

/- The laws' markText: the text of a mark, a plain function of its number; and cells of slices of structs. -/
namespace Go.Proofs.YteafeecndghapaaGreat
open Go.RowKit Go.Shelf

/-- 'string([]byte{x})': the slice of one byte that has just been laid. -/
theorem conv_byte (w : World) (x : Int) :
    (convert 22 9 (.slice (some ⟨w.heap.size, 0, none⟩) 1 1)).run Tryz.prog (w.alloc (.cells #[.int .u8 x] 5)) = .ok (.string ⟨#[UInt8.ofNat x.toNat]⟩) (w.alloc (.cells #[.int .u8 x] 5)) := by
  rw [run_convert_bytes_string _ _ _ _ _ _ _ Tryz.underlying22 Tryz.underlying5 Tryz.underlying9]
  rw [run_bytesToString _ _ _ _ [x] ?_]
  · rfl
  · simp [loadCells, loadCellsFrom, go_sem]

/-- The digits of j ahead of out (f rounds at most). -/
def mdig : Nat → Nat → List UInt8 → List UInt8
  | 0, _, out => out
  | f + 1, j, out => if j = 0 then out else mdig f (j / 10) (UInt8.ofNat (48 + j % 10) :: out)
/-- markText's result. -/
def mt (k : Int) : ByteArray := if k ≤ 0 then ⟨#[109, 48]⟩ else ⟨(109 :: mdig k.toNat k.toNat []).toArray⟩

theorem str_eq (x y : ByteArray) : (x.toList == y.toList) = decide (x = y) := by
  rw [Bool.eq_iff_iff, beq_iff_eq, decide_eq_true_iff]
  constructor
  · intro h
    rw [ByteArray.toList_eq, ByteArray.toList_eq] at h
    exact ByteArray.ext (Array.toList_inj.1 h)
  · intro h; rw [h]

theorem flat_len {α : Type} {enc : α → List Value} {m : Nat} (hm : ∀ x, (enc x).length = m) (xs : List α) : (xs.flatMap enc).length = xs.length * m := by
  induction xs with
  | nil => simp
  | cons x t ih => simp [List.flatMap_cons, hm, ih, Nat.add_mul, Nat.add_comm]
theorem flat_get {α : Type} {enc : α → List Value} {m : Nat} (hm : ∀ x, (enc x).length = m) (xs : List α) (i f : Nat) (hi : i < xs.length) (hf : f < m) : (xs.flatMap enc)[i * m + f]? = (enc xs[i])[f]? := by
  induction xs generalizing i with
  | nil => simp at hi
  | cons x t ih =>
    rw [List.flatMap_cons]
    cases i with
    | zero => rw [List.getElem?_append_left (by rw [hm]; omega)]; simp
    | succ i =>
      rw [List.getElem?_append_right (by rw [hm, Nat.add_mul]; omega), hm]
      have e : (i + 1) * m + f - m = i * m + f := by rw [Nat.add_mul]; omega
      rw [e, ih i (by simpa using hi)]
      simp

/-- A cell of an owned row, for a store. -/
theorem own_cell {w : World} {base : Nat} {t : TypeId} {m g n c j : Nat} {xs : List Value} (h : w.ownsRow base t m (.slice (some ⟨g, 0, none⟩) n c) n xs) (hj : j < n * m) :
    (∃ v, w.cell? ⟨g, j, none⟩ = some v) ∧ w.frozen? ⟨g, j, none⟩ = false := by
  refine ⟨?_, h.frozenAt j⟩
  rw [h.cellAt j hj]
  exact ⟨xs[j]'(by rw [h.1]; exact hj), List.getElem?_eq_getElem _⟩

end Go.Proofs.YteafeecndghapaaGreat

/- Walks over the laws' helpers for slices of strings: toStringS, eqStringS, markStringS, heldStringS, szStringS. -/
namespace Go.Proofs.YteafeecndghapaaGreat
open Go.RowKit Go.Shelf

def strs (ss : List ByteArray) : List Value := ss.map Value.string
theorem strs_get (ss : List ByteArray) (k : Nat) (h : k < ss.length) : (strs ss)[k]? = some (.string ss[k]) := by simp [strs, h]
theorem strs_len (ss : List ByteArray) : (strs ss).length = ss.length := by simp [strs]
theorem info_str : (Tryz.prog.info? 9).map (fun i => (i.zero, i.size, i.bytes)) = some (some (.string ⟨#[]⟩), 1, 16) := by kernel_rfl
end Go.Proofs.YteafeecndghapaaGreat

/- Walks over dotted, l03Side, Join of the reference and FormatOrders of both: both give the same text. -/
namespace Go.Proofs.YteafeecndghapaaGreat
open Go.RowKit Go.Shelf

def dot (s : ByteArray) : ByteArray := if s = ⟨#[]⟩ then ⟨#[46]⟩ else s
theorem one_cell_strF (x : ByteArray) : ∀ u ∈ (#[Value.string x] : Array Value).toList, u.oneCell' = true := by
  intro u hu
  simp at hu
  subst hu
  rfl
theorem rd_StrG {w : World} {A : Option Addr} {xs : List ByteArray} (h : Rd w A (strs xs)) {k : Nat} (hk : k < xs.length) : ∃ b off, A = some ⟨b, off, none⟩ ∧ b < w.heap.size ∧ w.cell? ⟨b, off + k, none⟩ = some (.string xs[k]) := by
  have f0 := strs_get xs k hk
  obtain ⟨b, off, e, hb, hc⟩ := h (by intro e; rw [e] at f0; cases f0)
  exact ⟨b, off, e, hb, hc k _ f0⟩
theorem dot_size {s : ByteArray} {k : Nat} (h : s.size ≤ k) (hk : 1 ≤ k) : (dot s).size ≤ k := by
  unfold dot
  split
  · exact hk
  · exact h
theorem ba_eq {a b : ByteArray} (h : a.data.toList = b.data.toList) : a = b := by
  cases a; cases b; simp_all
set_option maxRecDepth 100000 in
theorem specDot_any (s : ByteArray) (w : World) : Calls Tryz.prog 104 #[.string s] w (fun e w' => e = .returned (.string (dot s)) ∧ w' = w) := by
  have hq : s.toList.isEmpty = decide (s = ⟨#[]⟩) := by
    rw [← str_eq, show (⟨#[]⟩ : ByteArray).toList = [] by rw [ByteArray.toList_eq]]
    cases s.toList <;> rfl
  go_enter Tryz.func104, Tryz.ntmps104
  by_cases h : s = ⟨#[]⟩
  · rw [decide_eq_true h] at hq
    have e1 : dot s = ⟨#[46]⟩ := if_pos h
    rw [e1]
    clear h
    go_wp2_with fail
    go_ret
    exact ⟨rfl, rfl⟩
  · rw [decide_eq_false h] at hq
    have e1 : dot s = s := if_neg h
    rw [e1]
    clear h
    go_wp2_with fail
    go_ret
    exact ⟨rfl, rfl⟩


theorem own_capF {w : World} {base : Nat} {t : TypeId} {m n c : Nat} {A : Option Addr} {xs : List Value} (h : w.ownsRow base t m (.slice A n c) n xs) : n ≤ c := by
  rcases h.2 with ⟨h1, h2⟩ | ⟨g, cap, cur, hv, _, _, hc, _⟩
  · injection h1 with _ h3 h4; omega
  · injection hv with _ _ h4
    omega

theorem own_drewF {w : World} {base : Nat} {t : TypeId} {m n : Nat} {v : Value} {xs : List Value} (h : w.ownsRow base t m v n xs) : w.drew.ownsRow base t m v n xs := h


end Go.Proofs.YteafeecndghapaaGreat

/- Walk over SplitAny of the reference at one byte, told weakly: a list of texts no longer than the text. -/
namespace Go.Proofs.YteafeecndghapaaGreat
open Go.RowKit Go.Shelf

def SplMade (s : ByteArray) (w : World) (e : Ending) (w' : World) : Prop := ∃ L : List ByteArray, L.length ≤ s.size + 1 ∧ 1 ≤ L.length ∧ (∀ x ∈ L, x.size ≤ s.size) ∧ MadeSl w 9 1 L.length (strs L) e w'

set_option maxRecDepth 100000 in
set_option maxHeartbeats 4000000 in
theorem specSplitG_any (s : ByteArray) (q : UInt8) (w : World) (hs : s.size ≤ 1048576) :
    Calls Tryz.prog 73 #[.string s, .string ⟨#[q]⟩] w (SplMade s w) := by
  have hO0 := own_of_bk (base := w.heap.size) (m := 1) (n := 0) (Bk.new w 9 #[]) (Nat.le_refl _) rfl (by unfold maxLen; omega)
  have hW0 : Below w.heap.size w (w.alloc (.cells #[] 9)) := (Below.refl _ _).alloc (Nat.le_refl _) _
  obtain ⟨sp, hsp⟩ : ∃ p, p = (⟨#[q]⟩ : ByteArray) := ⟨_, rfl⟩
  have hsz : sp.size = 1 := by rw [hsp]; rfl
  have hsv : ∀ h : 0 < sp.size, (sp[0]'h).toNat = q.toNat := by subst hsp; intro h; rfl
  have hq256 : q.toNat < 256 := q.toNat_lt
  obtain ⟨qn, hqn⟩ : ∃ n, n = q.toNat := ⟨_, rfl⟩
  rw [← hqn] at hsv hq256
  rw [← hsp]
  have HO0 := Lib.hid hO0
  clear hO0
  have HW0 := Lib.hid hW0
  clear hW0
  have Hsp := Lib.hid hsp
  clear hsp
  have Hqn := Lib.hid hqn
  clear hqn
  go_enter Tryz.func73, Tryz.ntmps73
  go_wp2_with fail
  go_loopw [5, 6, 7] (fun v f i wr => ∃ (j p z : Nat) (B : Option Addr) (d : Nat) (A : List ByteArray), v = .slice B z d ∧ f = .int .i64 p ∧ i = .int .i64 j ∧ j ≤ s.size ∧ p ≤ j ∧ z ≤ j ∧ Hid (z = A.length) ∧ Hid (∀ x ∈ A, x.size ≤ s.size) ∧ wr.ownsRow w.heap.size 9 1 (.slice B z d) z (strs A) ∧ Below w.heap.size w wr) (fun _ _ i _ => s.size - (intOf i).toNat)
  case atStart => exact ⟨0, 0, 0, some ⟨w.heap.size, 0, none⟩, 0, [], rfl, rfl, rfl, Nat.zero_le _, Nat.le_refl _, Nat.le_refl _, Lib.hid rfl, Lib.hid (by simp), HO0.out, HW0.out⟩
  case round =>
    clear HO0 HW0
    obtain ⟨j, p, z, B, d, A, rfl, rfl, rfl, hj, hp, hzj, HZ, HA, hown, hW⟩ := hrel
    by_cases hlt : j < s.size
    · have h256 : s[j].toNat < 256 := s[j].toNat_lt
      obtain ⟨b, hb⟩ : ∃ b : Nat, b = s[j].toNat := ⟨_, rfl⟩
      go_wp2_with fail
      refine wp_loop_rounds 2 ?_
      rw [rounds_succ]
      by_cases h32 : (s[j].toNat : Int) = (qn : Int)
      · have hx : (s.extract p j).size ≤ s.size := by rw [ByteArray.size_extract]; omega
        obtain ⟨nx, hnx⟩ : ∃ x, x = s.extract p j := ⟨_, rfl⟩
        rw [← hnx] at hx
        have hA1 : ∀ x ∈ A ++ [nx], x.size ≤ s.size := fun x hx' => by rcases List.mem_append.1 hx' with h | h; exact HA.out x h; rw [List.mem_singleton.1 h]; exact hx
        have hZ1 : z + 1 = (A ++ [nx]).length := by rw [List.length_append, HZ.out]; rfl
        have hstr : strs (A ++ [nx]) = strs A ++ [.string (s.extract p j)] := by rw [← hnx]; simp [strs]
        have hws := hW.size
        have HA1 := Lib.hid hA1
        clear hA1
        have Hx := Lib.hid hx
        clear hx
        have HZ1 := Lib.hid hZ1
        clear hZ1
        have HW := Lib.hid hW
        clear hW
        have Hnx := Lib.hid hnx
        clear hnx
        have Hstr := Lib.hid hstr
        clear hstr
        go_wp2_with fail
        go_region
        all_goals
          go_wp2_with (at_builtin; go_loud (refine wpList_app5 _ wr.drew _ rfl rfl _ _ 29 rfl w.heap.size 9 1 16 _ Tryz.underlying29 info_str rfl (by omega) (.slice B z d) z _ _ rfl rfl rfl (own_drewF hown) rfl (one_cell_strF _) (by omega) (by unfold maxLen; omega) hws ?_); intro g5 c5 w5 hO5 hV5 hG5 hat5)
          have hO6 : w5.ownsRow w.heap.size 9 1 (.slice (some ⟨g5, 0, none⟩) (z + 1) c5) (z + 1) (strs (A ++ [nx])) := by rw [Hstr.out]; exact hO5
          have hW6 := HW.out.drew.trans hV5
          clear hO5 hG5 hat5 hV5
          go_wp2_with fail
          go_roundw
          case rel => exact ⟨j + 1, j + 1, z + 1, _, c5, _, rfl, by go_num, by go_num, by omega, by omega, by omega, HZ1, HA1, hO6, hW6⟩
          case measure => simp [intOf] <;> omega
      · skip
        have hne : ((s[j].toNat : Int) == (qn : Int)) = false := by simp; omega
        have HW := Lib.hid hW
        clear hW
        go_wp2_with fail
        go_region
        all_goals
          go_wp2_with fail
          rw [rounds_succ]
          go_wp2_with fail
          go_roundw
          case rel => exact ⟨j + 1, p, z, B, d, A, rfl, rfl, by go_num, by omega, by omega, by omega, HZ, HA, own_drewF hown, HW.out.drew⟩
          case measure => simp [intOf] <;> omega
    · have : j = s.size := by omega
      subst this
      have hx : (s.extract p s.size).size ≤ s.size := by rw [ByteArray.size_extract]; omega
      have hall : ∀ x ∈ A ++ [s.extract p s.size], x.size ≤ s.size := fun x hx' => by rcases List.mem_append.1 hx' with h | h; exact HA.out x h; rw [List.mem_singleton.1 h]; exact hx
      have hlen : (A ++ [s.extract p s.size]).length = z + 1 := by rw [List.length_append, HZ.out]; rfl
      have hw2 : strs (A ++ [s.extract p s.size]) = strs A ++ [.string (s.extract p s.size)] := by simp [strs]
      have hws := hW.size
      have Hx := Lib.hid hx
      clear hx
      have Hw2 := Lib.hid hw2
      clear hw2
      have Hlen := Lib.hid hlen
      clear hlen
      have HW := Lib.hid hW
      clear hW
      have Hall := Lib.hid hall
      clear hall
      go_wp2_with (at_builtin; go_loud (refine wpList_app5 _ _ _ rfl rfl _ _ 29 rfl w.heap.size 9 1 16 _ Tryz.underlying29 info_str rfl (by omega) (.slice B z d) z _ _ rfl rfl rfl hown rfl (one_cell_strF _) (by omega) (by unfold maxLen; omega) hws ?_); intro g5 c5 w5 hO5 hV5 hG5 hat5)
      have hO6 : w5.ownsRow w.heap.size 9 1 (.slice (some ⟨g5, 0, none⟩) (z + 1) c5) (z + 1) (strs (A ++ [s.extract p s.size])) := by rw [Hw2.out]; exact hO5
      have hW6 := HW.out.trans hV5
      clear hO5 hG5 hat5 hV5
      go_wp2_with fail
      go_ret
      exact ⟨_, by rw [Hlen.out]; omega, by rw [Hlen.out]; omega, Hall.out, by rw [Hlen.out]; exact ⟨_, c5, rfl, hO6, hW6⟩⟩

end Go.Proofs.YteafeecndghapaaGreat
