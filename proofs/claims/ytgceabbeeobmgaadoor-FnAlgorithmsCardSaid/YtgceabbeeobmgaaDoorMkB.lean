/- The reference's source of numbers (l01New, l01Byte, l01Below, l31New): it hands back some number in its bounds, and turns no memory but its own. -/



import Derived.Test.YtgceabbeeobmgaaDoorWord
import Derived.Test.YtgceabbeeobmgaaDoorOpen
import Derived.Laws.BitsLemmas
namespace Go.Proofs.YtgceabbeeobmgaaDoor

open Go.RowKit Go.Shelf

theorem and_le (x : Int) (m : Nat) (hm : m < 2147483648) : ∃ r : Nat, r ≤ m ∧ bits .and .i64 x (m : Int) = (r : Int) := by
  refine ⟨(BitVec.ofInt 64 x &&& BitVec.ofInt 64 (m : Int)).toNat, ?_, ?_⟩
  · rw [BitVec.toNat_and]
    have : (BitVec.ofInt 64 (m : Int)).toNat = m := by
      rw [BitVec.toNat_ofInt]
      omega
    rw [this]
    exact Nat.and_le_right
  · show IntKind.i64.wrap ((BitVec.ofInt 64 x &&& BitVec.ofInt 64 (m : Int)).toNat : Int) = _
    have h : (BitVec.ofInt 64 x &&& BitVec.ofInt 64 (m : Int)).toNat ≤ m := by
      rw [BitVec.toNat_and]
      have : (BitVec.ofInt 64 (m : Int)).toNat = m := by
        rw [BitVec.toNat_ofInt]
        omega
      rw [this]
      exact Nat.and_le_right
    exact IntWalk.i64_in _ ⟨by omega, by omega⟩
noncomputable def byteOf (x : Int) : Nat := (and_le x 255 (by decide)).choose
theorem byteOf_le (x : Int) : byteOf x ≤ 255 := (and_le x 255 (by decide)).choose_spec.1
theorem byteOf_eq (x : Int) : bits .and .i64 x 255 = (byteOf x : Int) := (and_le x 255 (by decide)).choose_spec.2
noncomputable def maskOf (x : Int) : Nat := (and_le x 1073741823 (by decide)).choose
theorem maskOf_le (x : Int) : maskOf x ≤ 1073741823 := (and_le x 1073741823 (by decide)).choose_spec.1
theorem maskOf_eq (x : Int) : bits .and .i64 x 1073741823 = (maskOf x : Int) := (and_le x 1073741823 (by decide)).choose_spec.2

def u8c (zs : List Int) : List Value := zs.map (Value.int .u8)
theorem gb_trans {w1 w2 w3 : World} {r : Option Nat} (h1 : w1.grownBy w2 r) (h2 : w2.grownBy w3 r) : w1.grownBy w3 r := by
  obtain ⟨a1, a2, a3, a4, a5⟩ := h1
  obtain ⟨b1, b2, b3, b4, b5⟩ := h2
  exact ⟨b1.trans a1, b2.trans a2, b3.trans a3, Nat.le_trans a4 b4, fun k hk hne => (b5 k (Nat.lt_of_lt_of_le hk a4) hne).trans (a5 k hk hne)⟩
theorem gb_drew {w : World} {r : Option Nat} : w.grownBy w.drew r := ⟨rfl, rfl, rfl, Nat.le_refl _, fun _ _ _ => rfl⟩
theorem gb_set (w : World) (g i : Nat) (u : Value) : w.grownBy (w.setCell ⟨g, i, none⟩ u) (some g) :=
  ⟨rfl, rfl, rfl, by simp, fun k _ hne => Below.heap_setCell w ⟨g, i, none⟩ u k (fun e => hne (by rw [e]))⟩
theorem gb_below {w w' : World} {g B : Nat} (h : w.grownBy w' (some g)) (hB : B ≤ w.heap.size) (hg : B ≤ g) : Below B w w' := (Below.refl B w).grown h hB (fun k hk => by cases hk; exact hg)

/-- The source's block: the bytes, the place, the number that is stirred. -/
def Cur (w : World) (P : Nat) (A : Option Addr) (n c : Nat) : Prop := ∃ (i : Nat) (h : Int), Bk w P 79 #[.slice A n c, .int .i64 i, .int .i64 h] ∧ i ≤ n
def NumMade (P : Nat) (A : Option Addr) (n c : Nat) (k : Nat) (w : World) (e : Ending) (w' : World) : Prop := ∃ x : Nat, x ≤ k ∧ e = .returned (.int .i64 x) ∧ Cur w' P A n c ∧ w.grownBy w' (some P)

set_option maxRecDepth 100000 in
set_option maxHeartbeats 2000000 in
theorem byte_any (P : Nat) (A : Option Addr) (n c : Nat) (zs : List Int) (w : World) (hC : Cur w P A n c) (hr : Rd w A (u8c zs)) (hn : n = zs.length) (hb : n ≤ 1048576) (hz : ∀ z ∈ zs, 0 ≤ z ∧ z ≤ 255) (hA : u8c zs ≠ [] → ∀ a, A = some a → a.block ≠ P) :
    Calls Tryd.prog 27 #[.pointer (some ⟨P, 0, none⟩)] w (NumMade P A n c 255 w) := by
  obtain ⟨i, h, hB, hi⟩ := hC
  have hbo := byteOf_eq
  obtain ⟨a, ha⟩ : ∃ a, IntKind.i64.wrap (h * 6364136223846793005) = a := ⟨_, rfl⟩
  obtain ⟨b, hbb⟩ : ∃ b, IntKind.i64.wrap (a + 1442695040888963407) = b := ⟨_, rfl⟩
  have c0 : w.cell? ⟨P, 0, none⟩ = some (.slice A n c) := by rw [hB.cell]; rfl
  have c1 : w.cell? ⟨P, 1, none⟩ = some (.int .i64 i) := by rw [hB.cell]; rfl
  have c2 : w.cell? ⟨P, 2, none⟩ = some (.int .i64 h) := by rw [hB.cell]; rfl
  have f1 := hB.free 1
  have f2 := hB.free 2
  have bl := hB.lt
  have hB1 := hB.put 2 (.int .i64 b)
  have hG1 := gb_set w P 2 (.int .i64 b)
  by_cases hlt : i < n
  · have hlz : i < zs.length := by rw [← hn]; exact hlt
    have hu : (u8c zs)[i]? = some (.int .u8 zs[i]) := by simp [u8c, hlz]
    obtain ⟨g, o, rfl, hbl, hc⟩ := hr (by intro e; rw [e] at hu; cases hu)
    have p0 := hc i _ hu
    obtain ⟨z, hzz⟩ : ∃ z, z = zs[i] := ⟨_, rfl⟩
    have hz2 := hz _ (List.getElem_mem hlz)
    rw [← hzz] at p0 hz2
    obtain ⟨hz0, hz1⟩ := hz2
    have hne := hA (by intro e; rw [e] at hu; cases hu) _ rfl
    dsimp only at hne
    clear hr hc hu hA
    have HB := Lib.hid hB
    clear hB
    have HB1 := Lib.hid hB1
    clear hB1
    have HG1 := Lib.hid hG1
    clear hG1
    have Hn := Lib.hid hn
    clear hn
    have Hz := Lib.hid hz
    clear hz
    have Hzz := Lib.hid hzz
    clear hzz
    go_enter Tryd.func27, Tryd.ntmps27
    go_wp2_with fail
    go_region
    all_goals
      go_wp2_with fail
      go_region
      all_goals
        go_wp2_with fail
        go_region
        all_goals
          go_wp2_with fail
          go_ret
          refine ⟨_, byteOf_le _, rfl, ⟨i + 1, b, ?_, by omega⟩, ?_⟩
          · exact (HB1.out.put 1 (.int .i64 ((i : Int) + 1)))
          · exact gb_trans HG1.out (gb_trans (gb_set _ P 1 _) (gb_trans gb_drew (gb_trans gb_drew gb_drew)))
  · clear hr hz hn hA
    have HB := Lib.hid hB
    clear hB
    have HB1 := Lib.hid hB1
    clear hB1
    have HG1 := Lib.hid hG1
    clear hG1
    go_enter Tryd.func27, Tryd.ntmps27
    go_wp2_with fail
    go_region
    all_goals
      go_wp2_with fail
      go_region
      all_goals
        go_wp2_with fail
        go_ret
        exact ⟨_, byteOf_le _, rfl, ⟨i, b, HB1.out, hi⟩, gb_trans HG1.out (gb_trans gb_drew gb_drew)⟩

theorem Cur.lt {w : World} {P : Nat} {A : Option Addr} {n c : Nat} (h : Cur w P A n c) : P < w.heap.size := by
  obtain ⟨i, x, hB, _⟩ := h
  exact hB.lt
theorem Cur.below {w w' : World} {P : Nat} {A : Option Addr} {n c : Nat} (h : Cur w P A n c) (hb : Below w.heap.size w w') : Cur w' P A n c := by
  obtain ⟨i, x, hB, hi⟩ := h
  exact ⟨i, x, hB.below hb hB.lt, hi⟩
theorem Cur.drew {w : World} {P : Nat} {A : Option Addr} {n c : Nat} (h : Cur w P A n c) : Cur w.drew P A n c := h
/-- A slice that came in reads the same where only the block P has turned. -/
theorem Rd.gb {w w' : World} {P : Nat} {A : Option Addr} {xs : List Value} (h : Rd w A xs) (hg : w.grownBy w' (some P)) (hA : xs ≠ [] → ∀ a, A = some a → a.block ≠ P) : Rd w' A xs :=
  fun hn => h.grown hg (fun a ha e => hA hn a ha (by injection e with e; exact e.symm)) hn

set_option maxRecDepth 100000 in
set_option maxHeartbeats 2000000 in
theorem l01New_any (A : Option Addr) (n c : Nat) (zs : List Int) (w : World) (hr : Rd w A (u8c zs)) (hn : n = zs.length) (hb : n ≤ 1048576) (hz : ∀ z ∈ zs, 0 ≤ z ∧ z ≤ 255) :
    Calls Tryd.prog 56 #[.slice A n c] w (fun e w' => e = .returned (.pointer (some ⟨w.heap.size, 0, none⟩)) ∧ ∃ h, w' = w.alloc (.cells #[.slice A n c, .int .i64 0, .int .i64 h] 79)) := by
  have hmo := maskOf_eq
  have Hr := Lib.hid hr
  clear hr
  have Hn := Lib.hid hn
  clear hn
  have Hz := Lib.hid hz
  clear hz
  go_enter Tryd.func56, Tryd.ntmps56
  go_wp2_with fail
  go_loop [3, 4] (fun h i => ∃ (j : Nat) (x : Int), h = .int .i64 x ∧ i = .int .i64 j ∧ 0 ≤ x ∧ x ≤ 1073741823 ∧ j ≤ n) (fun _ i => n - (intOf i).toNat)
  case atStart => exact ⟨0, _, rfl, rfl, by omega, by omega, Nat.zero_le _⟩
  case round =>
    obtain ⟨j, x, rfl, rfl, hx0, hx1, hj⟩ := hrel
    by_cases hlt : j < n ∧ j < 4000
    · obtain ⟨hlt, hj4⟩ := hlt
      have hlz : j < zs.length := by rw [← Hn.out]; exact hlt
      have hu : (u8c zs)[j]? = some (.int .u8 zs[j]) := by simp [u8c, hlz]
      obtain ⟨g, o, rfl, hbl, hc⟩ := Hr.out (by intro e; rw [e] at hu; cases hu)
      have p0 := hc j _ hu
      obtain ⟨z, hzz⟩ : ∃ z, z = zs[j] := ⟨_, rfl⟩
      have hz2 := Hz.out _ (List.getElem_mem hlz)
      rw [← hzz] at p0 hz2
      obtain ⟨hz0, hz1⟩ := hz2
      have hml := maskOf_le (x * 139 + z + 7)
      clear hc hu
      have Hzz := Lib.hid hzz
      clear hzz
      go_wp2_with fail
      go_round
      case rel => exact ⟨j + 1, maskOf (x * 139 + z + 7), by go_num, by go_num, by omega, by omega, by omega⟩
      case measure => simp [intOf] <;> omega
    · by_cases hjn : j < n
      · have hj4 : ¬ j < 4000 := fun h => hlt ⟨hjn, h⟩
        clear hlt
        go_wp2_with fail
        go_ret
        exact ⟨rfl, x, rfl⟩
      · clear hlt
        go_wp2_with fail
        go_ret
        exact ⟨rfl, x, rfl⟩

/-- A source in memory of the call's own. -/
def CurMade (A : Option Addr) (n c : Nat) (w : World) (e : Ending) (w' : World) : Prop := e = .returned (.pointer (some ⟨w.heap.size, 0, none⟩)) ∧ Cur w' w.heap.size A n c ∧ Below w.heap.size w w'
theorem rd_ne {w : World} {A : Option Addr} {xs : List Value} {b : Nat} (h : Rd w A xs) (hx : xs ≠ []) (hb : w.heap.size ≤ b) : ∀ a, A = some a → a.block ≠ b := fun a ha e => by
  obtain ⟨g, o, e1, hl, _⟩ := h hx
  rw [ha] at e1
  injection e1 with e1
  rw [e1] at e
  dsimp only at e
  omega

set_option maxRecDepth 100000 in
set_option maxHeartbeats 2000000 in
theorem l31New_any (A : Option Addr) (n c : Nat) (zs : List Int) (m : Nat) (w : World) (hr : Rd w A (u8c zs)) (hn : n = zs.length) (hb : n ≤ 1048576) (hz : ∀ z ∈ zs, 0 ≤ z ∧ z ≤ 255) (hm : m ≤ 1000) :
    Calls Tryd.prog 26 #[.slice A n c, .int .i64 m] w (CurMade A n c w) := by
  have hne : u8c zs ≠ [] → ∀ a, A = some a → a.block ≠ w.heap.size := fun hx => rd_ne hr hx (Nat.le_refl _)
  have Hr := Lib.hid hr
  clear hr
  have Hn := Lib.hid hn
  clear hn
  have Hz := Lib.hid hz
  clear hz
  have Hne := Lib.hid hne
  clear hne
  go_enter Tryd.func26, Tryd.ntmps26
  go_wp2_with fail
  with_reducible refine (l01New_any A n c zs _ Hr.out Hn.out hb Hz.out).mono ?_
  rintro e w1 ⟨rfl, h, rfl⟩
  have hC1 : Cur (w.alloc (.cells #[.slice A n c, .int .i64 0, .int .i64 h] 79)) w.heap.size A n c := ⟨0, h, Bk.new w 79 #[.slice A n c, .int .i64 0, .int .i64 h], Nat.zero_le _⟩
  have hW1 : Below w.heap.size w (w.alloc (.cells #[.slice A n c, .int .i64 0, .int .i64 h] 79)) := (Below.refl _ _).alloc (Nat.le_refl _) _
  have HC1 := Lib.hid hC1
  clear hC1
  have HW1 := Lib.hid hW1
  clear hW1
  go_wp2_with fail
  go_loopw [6] (fun i wr => ∃ (j : Nat), j ≤ m ∧ i = .int .i64 j ∧ Cur wr w.heap.size A n c ∧ Below w.heap.size w wr) (fun i _ => m - (intOf i).toNat)
  case atStart => exact ⟨0, Nat.zero_le _, rfl, HC1.out, HW1.out⟩
  case round =>
    clear HC1 HW1
    obtain ⟨j, hj, rfl, hC, hW⟩ := hrel
    by_cases hlt : j < m
    · skip
      have HC := Lib.hid hC
      clear hC
      have HW := Lib.hid hW
      clear hW
      go_wp2_with fail
      with_reducible refine (byte_any w.heap.size A n c zs _ HC.out (Hr.out.keep HW.out) Hn.out hb Hz.out Hne.out).mono ?_
      rintro e w2 ⟨x, hx, rfl, hC2, hG2⟩
      have hW2 := HW.out.trans (gb_below hG2 HW.out.size (Nat.le_refl _))
      clear HC HW hG2
      go_wp2_with fail
      go_roundw
      case rel => exact ⟨j + 1, by omega, by go_num, hC2, hW2⟩
      case measure => simp [intOf] <;> omega
    · go_wp2_with fail
      go_ret
      exact ⟨rfl, hC, hW⟩

set_option maxRecDepth 100000 in
set_option maxHeartbeats 2000000 in
theorem l01Below_any (P : Nat) (A : Option Addr) (n c : Nat) (zs : List Int) (k : Nat) (w : World) (hC : Cur w P A n c) (hr : Rd w A (u8c zs)) (hn : n = zs.length) (hb : n ≤ 1048576) (hz : ∀ z ∈ zs, 0 ≤ z ∧ z ≤ 255) (hA : u8c zs ≠ [] → ∀ a, A = some a → a.block ≠ P) (h1 : 1 ≤ k) (h2 : k ≤ 256) :
    Calls Tryd.prog 57 #[.pointer (some ⟨P, 0, none⟩), .int .i64 k] w (NumMade P A n c (k - 1) w) := by
  have Hr := Lib.hid hr
  clear hr
  have Hn := Lib.hid hn
  clear hn
  have Hz := Lib.hid hz
  clear hz
  have HA := Lib.hid hA
  clear hA
  have HC := Lib.hid hC
  clear hC
  go_enter Tryd.func57, Tryd.ntmps57
  go_wp2_with fail
  with_reducible refine (byte_any P A n c zs _ HC.out Hr.out Hn.out hb Hz.out HA.out).mono ?_
  rintro e w2 ⟨x, hx, rfl, hC2, hG2⟩
  have hrem : (x : Int).tmod (k : Int) = ((x % k : Nat) : Int) := by rw [Int.tmod_eq_emod_of_nonneg (by omega)]; rfl
  have hxk : x % k ≤ k - 1 := by (have := Nat.mod_lt x (show 0 < k by omega)); omega
  obtain ⟨y, hy⟩ : ∃ y, y = x % k := ⟨_, rfl⟩
  rw [← hy] at hrem hxk
  have Hy := Lib.hid hy
  clear hy
  have HC2 := Lib.hid hC2
  clear hC2
  have HG2 := Lib.hid hG2
  clear hG2
  go_wp2_with fail
  go_ret
  exact ⟨y, hxk, rfl, HC2.out, HG2.out⟩

set_option maxRecDepth 100000 in
set_option maxHeartbeats 2000000 in
theorem makeNum_any (A : Option Addr) (n c : Nat) (zs : List Int) (m : Nat) (w : World) (hr : Rd w A (u8c zs)) (hn : n = zs.length) (hb : n ≤ 1048576) (hz : ∀ z ∈ zs, 0 ≤ z ∧ z ≤ 255) (hm : m ≤ 1000) :
    Calls Tryd.prog 6 #[.slice A n c, .int .i64 m] w (fun e w' => ∃ x : Nat, x ≤ 65535 ∧ e = .returned (.int .i64 x) ∧ Below w.heap.size w w') := by
  have hne : u8c zs ≠ [] → ∀ a, A = some a → a.block ≠ w.heap.size := fun hx => rd_ne hr hx (Nat.le_refl _)
  have Hr := Lib.hid hr
  clear hr
  have Hn := Lib.hid hn
  clear hn
  have Hz := Lib.hid hz
  clear hz
  have Hne := Lib.hid hne
  clear hne
  go_enter Tryd.func6, Tryd.ntmps6
  go_wp2_with fail
  with_reducible refine (l31New_any A n c zs m _ Hr.out Hn.out hb Hz.out hm).mono ?_
  rintro e w1 ⟨rfl, hC1, hW1⟩
  have HC1 := Lib.hid hC1
  clear hC1
  have HW1 := Lib.hid hW1
  clear hW1
  go_wp2_with fail
  with_reducible refine (byte_any w.heap.size A n c zs _ HC1.out (Hr.out.keep HW1.out) Hn.out hb Hz.out Hne.out).mono ?_
  rintro e w2 ⟨x, hx, rfl, hC2, hG2⟩
  have hW2 := HW1.out.trans (gb_below hG2 HW1.out.size (Nat.le_refl _))
  clear hG2
  have HC2 := Lib.hid hC2
  clear hC2
  have HW2 := Lib.hid hW2
  clear hW2
  go_wp2_with fail
  with_reducible refine (byte_any w.heap.size A n c zs _ HC2.out (Hr.out.keep HW2.out) Hn.out hb Hz.out Hne.out).mono ?_
  rintro e w3 ⟨y, hy, rfl, hC3, hG3⟩
  have hW3 := HW2.out.trans (gb_below hG3 HW2.out.size (Nat.le_refl _))
  clear hG3
  have HC3 := Lib.hid hC3
  clear hC3
  have HW3 := Lib.hid hW3
  clear hW3
  go_wp2_with fail
  go_ret
  exact ⟨x * 256 + y, by omega, by simp, HW3.out⟩

end Go.Proofs.YtgceabbeeobmgaaDoor
