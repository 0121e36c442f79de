/- Walks over PlacesOf, l18Place, l18Next and OrderFor of the reference and orderFor and OrderFor of the program: both tell the same order. -/
import Derived.Test.YtgnmfneinnojnaaAlgOk
import Derived.Test.YtgnmfneinnojnaaWord
import Derived.Test.YtgnmfneinnojnaaApp2
import Derived.Test.YtgnmfneinnojnaaOrderF
import Derived.Test.YtgnmfneinnojnaaShelfP
import Derived.Lib.IndexMore
namespace Go.Proofs.Ytgnmfneinnojnaa
open Go.RowKit Go.Shelf

/-- The word s has the part l at place i. -/
def oc (s l : ByteArray) (i : Nat) : Bool := (s.extract i (i + l.size)).toList == l.toList
theorem oc_occ {s l : ByteArray} {i : Nat} (h : i + l.size ≤ s.size) : oc s l i = Lib.occAt s.data.toList l.data.toList i := by
  rw [Lib.occAt_iff_take _ _ _ h, oc, ByteArray.toList_eq, ByteArray.toList_eq]
  congr 1
  simp [ByteArray.data_extract, List.extract_eq_take_drop]
def plc (s l : ByteArray) (q : Nat) : List Int := ((List.range q).filter (oc s l)).map fun i : Nat => (i : Int)
theorem plc_yes {s l : ByteArray} {q : Nat} (h : oc s l q = true) : plc s l (q + 1) = plc s l q ++ [(q : Int)] := by
  rw [plc, List.range_succ, List.filter_append, List.map_append]; simp [plc, h]
theorem plc_no {s l : ByteArray} {q : Nat} (h : oc s l q = false) : plc s l (q + 1) = plc s l q := by
  rw [plc, List.range_succ, List.filter_append, List.map_append]; simp [plc, h]
theorem plc_len (s l : ByteArray) (q : Nat) : (plc s l q).length ≤ q := by
  rw [plc, List.length_map]
  exact Nat.le_trans (List.length_filter_le _ _) (by rw [List.length_range]; exact Nat.le_refl _)
def has18 (s l : ByteArray) : Bool := Lib.contains s.data.toList l.data.toList
theorem has18_nil (s : ByteArray) : has18 s ⟨#[]⟩ = true := by
  unfold has18 Lib.contains
  apply decide_eq_true
  rcases Lib.index_spec s.data.toList [] with ⟨_, h⟩ | ⟨i, h, _⟩
  · have := h 0 (Nat.zero_le _)
    simp [Lib.occAt] at this
  · show 0 ≤ Lib.index s.data.toList []
    rw [h]; omega
theorem has18_plc {s l : ByteArray} (hl : l ≠ ⟨#[]⟩) : has18 s l = !(plc s l (s.size + 1 - l.size)).isEmpty := by
  have hln : l.data.toList ≠ [] := fun e => hl (by cases l; simp_all)
  have hsz : ∀ b : ByteArray, b.data.toList.length = b.size := fun b => rfl
  rcases Lib.index_spec s.data.toList l.data.toList with ⟨h0, h1⟩ | ⟨i, h0, h1, h2, h3⟩
  · have e1 : has18 s l = false := by unfold has18 Lib.contains; rw [h0]; rfl
    have e2 : plc s l (s.size + 1 - l.size) = [] := by
      rw [plc, List.map_eq_nil_iff, List.filter_eq_nil_iff]
      intro j hj
      rw [List.mem_range] at hj
      rw [oc_occ (by omega), h1 j (by rw [hsz]; omega)]
      simp
    rw [e1, e2]; rfl
  · have e1 : has18 s l = true := by unfold has18 Lib.contains; rw [h0]; exact decide_eq_true (by omega)
    have hroom : i + l.size ≤ s.size := by
      rcases Lib.occAt_room h2 with h | h
      · exact h
      · exact absurd h hln
    have hm : (i : Int) ∈ plc s l (s.size + 1 - l.size) := List.mem_map.2 ⟨i, List.mem_filter.2 ⟨List.mem_range.2 (by omega), by rw [oc_occ hroom]; exact h2⟩, rfl⟩
    rw [e1]
    cases hp : plc s l (s.size + 1 - l.size) with
    | nil => rw [hp] at hm; cases hm
    | cons a r => rfl
theorem plc_nonneg {s l : ByteArray} {q : Nat} : ∀ x ∈ plc s l q, 0 ≤ x := fun x hx => by
  obtain ⟨i, _, rfl⟩ := List.mem_map.1 hx
  omega
theorem keepM {w W : World} {m : Int} (h : w.cell? ⟨0, 0, none⟩ = some (.int .i64 m)) (hb : Below w.heap.size w W) : ∃ m, W.cell? ⟨0, 0, none⟩ = some (.int .i64 m) := ⟨m, (hb.cell (p := ⟨0, 0, none⟩) (World.block_lt_of_cell? w _ h)).trans h⟩
/-- OrderFor, in plain words. -/
def ordFor (xs : List OrderT) (s : ByteArray) : Int := if algOk xs && wordOk 4 s then idxI (fun o : OrderT => has18 s o.1) xs else -1
theorem isEmpty_eq (s : ByteArray) : s.toList.isEmpty = decide (s = ⟨#[]⟩) := by
  rw [← str_eq, show (⟨#[]⟩ : ByteArray).toList = [] by rw [ByteArray.toList_eq]]
  cases s.toList <;> rfl

set_option maxRecDepth 100000 in
set_option maxHeartbeats 1000000 in
theorem specPlaces_any (s l : ByteArray) (w : World) (hs : s.size ≤ 1048576) (hl : l.size ≤ 1048576) (hne : l ≠ ⟨#[]⟩) :
    Calls Try.prog 166 #[.string s, .string l] w (MadeSl w 3 1 (plc s l (s.size + 1 - l.size)).length (ints (plc s l (s.size + 1 - l.size)))) := by
  have hq := isEmpty_eq l
  rw [decide_eq_false hne] at hq
  have hO0 := own_of_bk (base := w.heap.size) (m := 1) (n := 0) (Bk.new w 3 #[]) (Nat.le_refl _) rfl (by unfold maxLen; omega)
  have hW0 : Below w.heap.size w (w.alloc (.cells #[] 3)) := (Below.refl _ _).alloc (Nat.le_refl _) _
  obtain ⟨N, hN⟩ : ∃ N, N = s.size + 1 - l.size := ⟨_, rfl⟩
  rw [← hN]
  have HO0 := Lib.hid hO0
  clear hO0
  have HW0 := Lib.hid hW0
  clear hW0
  have HN := Lib.hid hN
  clear hN
  go_enter Try.func166, Try.ntmps166
  go_wp2_with fail
  go_loopw [5, 6] (fun v i wr => ∃ (q : Nat) (B : Option Addr) (d z : Nat), q ≤ N ∧ i = .int .i64 q ∧ v = .slice B z d ∧ Hid (z = (plc s l q).length) ∧ wr.ownsRow w.heap.size 3 1 (.slice B z d) z (ints (plc s l q)) ∧ Below w.heap.size w wr) (fun _ i _ => N - (intOf i).toNat)
  case atStart => exact ⟨0, _, _, 0, Nat.zero_le _, rfl, rfl, Lib.hid rfl, HO0.out, HW0.out⟩
  case round =>
    clear HO0 HW0
    obtain ⟨q, B, d, z, hqN, rfl, rfl, HZ, hown, hW⟩ := hrel
    have hz : z ≤ q := by rw [HZ.out]; exact plc_len s l q
    have hN' := HN.out
    by_cases hlt : q < N
    · have hr : q + l.size ≤ s.size := by omega
      have hri : (q : Int) + (l.size : Int) ≤ (s.size : Int) := by omega
      have hsum : IntKind.i64.wrap ((q : Int) + (l.size : Int)) = (q : Int) + (l.size : Int) := IntWalk.i64_in _ ⟨by omega, by omega⟩
      have g4 : (0 : Int) ≤ (q : Int) + (l.size : Int) := by omega
      have g5 : ((q : Int) + (l.size : Int)).toNat = q + l.size := by omega
      have g7 : (q : Int) ≤ (q : Int) + (l.size : Int) := by omega
      have hws := hW.size
      cases h5 : (s.extract q (q + l.size)).toList == l.toList
      · have e1 := plc_no (s := s) (l := l) (q := q) h5
        clear hN'
        have E1 := Lib.hid e1
        clear e1
        go_wp2_with fail
        go_roundw
        case rel => exact ⟨q + 1, B, d, z, by omega, by go_num, rfl, Lib.hid (by rw [E1.out]; exact HZ.out), by rw [E1.out]; exact hown, hW⟩
        case measure => simp [intOf] <;> omega
      · have e1 := plc_yes (s := s) (l := l) (q := q) h5
        clear hN'
        have E1 := Lib.hid e1
        clear e1
        go_wp2_with (at_builtin; refine wpList_app1 _ _ rfl _ _ 22 rfl w.heap.size 3 1 8 _ Try.underlying22 info_int rfl (by omega) _ _ _ _ rfl rfl rfl hown rfl (one_cell1 _) (by omega) (by unfold maxLen; omega) (by omega) ?_; intro A5 c5 w5 hO5 hW5)
        have hO6 : w5.ownsRow w.heap.size 3 1 (.slice A5 (z + 1) c5) (z + 1) (ints (plc s l (q + 1))) := by rw [E1.out, ints_snoc]; exact hO5
        clear hO5
        go_wp2_with fail
        go_roundw
        case rel => exact ⟨q + 1, A5, c5, z + 1, by omega, by go_num, rfl, Lib.hid (by rw [E1.out, List.length_append, ← HZ.out]; rfl), hO6, hW.trans hW5⟩
        case measure => simp [intOf] <;> omega
    · have : q = N := by omega
      subst this
      have hr : ¬ (q + l.size ≤ s.size) := by omega
      have hri : ¬ ((q : Int) + (l.size : Int) ≤ (s.size : Int)) := by omega
      have hsum : IntKind.i64.wrap ((q : Int) + (l.size : Int)) = (q : Int) + (l.size : Int) := IntWalk.i64_in _ ⟨by omega, by omega⟩
      clear hN'
      go_wp2_with fail
      go_ret
      rw [← HZ.out]
      exact ⟨B, d, rfl, hown, hW⟩

set_option maxRecDepth 100000 in
set_option maxHeartbeats 1000000 in
theorem specPlace_any (s l : ByteArray) (w : World) (hs : s.size ≤ 1048576) (hl : l.size ≤ 1048576) :
    Calls Try.prog 128 #[.string s, .string l] w (fun e w' => ∃ r : Int, e = .returned (.int .i64 r) ∧ (decide (0 ≤ r) = has18 s l) ∧ Below w.heap.size w w') := by
  have hq := isEmpty_eq l
  go_enter Try.func128, Try.ntmps128
  by_cases hne : l = ⟨#[]⟩
  · rw [decide_eq_true hne] at hq
    have e1 : has18 s l = true := by rw [hne]; exact has18_nil s
    clear hne
    have E1 := Lib.hid e1
    clear e1
    go_wp2_with fail
    go_ret
    exact ⟨0, rfl, by rw [E1.out]; rfl, Below.refl _ _⟩
  · rw [decide_eq_false hne] at hq
    have e1 := has18_plc (s := s) hne
    have hb : (plc s l (s.size + 1 - l.size)).length ≤ 1048577 := Nat.le_trans (plc_len _ _ _) (by omega)
    have hp := specPlaces_any s l w hs hl hne
    have hnn := plc_nonneg (s := s) (l := l) (q := s.size + 1 - l.size)
    obtain ⟨P, hP⟩ : ∃ P, P = plc s l (s.size + 1 - l.size) := ⟨_, rfl⟩
    rw [← hP] at e1 hb hp hnn
    clear hne
    have E1 := Lib.hid e1
    clear e1
    have HP := Lib.hid hP
    clear hP
    have Hnn := Lib.hid hnn
    clear hnn
    go_wp2_with fail
    refine hp.mono ?_
    rintro e w1 ⟨B, d, rfl, hO, b1⟩
    cases P with
    | nil =>
      clear hO hp
      rw [List.length_nil]
      go_wp2_with fail
      go_ret
      exact ⟨-1, rfl, by rw [E1.out]; rfl, b1⟩
    | cons a r =>
      obtain ⟨g, rfl, -, hg⟩ := own_some hO (by simp)
      have hc := (Rd.of_own hO) (by simp [ints])
      obtain ⟨b, o, hbo, hbl, hcc⟩ := hc
      injection hbo with hbo
      injection hbo with e1' e2'
      subst e1' e2'
      have p0 : w1.cell? ⟨g, 0, none⟩ = some (.int .i64 a) := hcc 0 _ rfl
      have ha : 0 ≤ a := Hnn.out a (List.mem_cons_self)
      obtain ⟨m, hm⟩ : ∃ m, m = (a :: r).length := ⟨_, rfl⟩
      have hm0 : 0 < m := by rw [hm]; simp
      rw [← hm] at hO hb ⊢
      have hmz : ((m : Int) == 0) = false := by simp; omega
      clear hO hp hcc
      have Hm := Lib.hid hm
      clear hm
      go_wp2_with fail
      go_ret
      exact ⟨a, rfl, by rw [E1.out]; simpa using ha, b1⟩

set_option maxRecDepth 100000 in
set_option maxHeartbeats 1000000 in
theorem specNext_any (A : Option Addr) (n c : Nat) (xs : List OrderT) (s : ByteArray) (w : World) (hr : Rd w A (cellsOrder xs)) (hn : n = xs.length) (hb : n ≤ 1048576) (hz : ∀ x ∈ xs, x.1.size ≤ 1048576 ∧ x.2.1.size ≤ 1048576) (hs : s.size ≤ 1048576) :
    Calls Try.prog 77 #[.slice A n c, .string s] w (Kept w (.int .i64 (idxI (fun o : OrderT => has18 s o.1) xs))) := by
  have Hr := Lib.hid hr
  clear hr
  have Hn := Lib.hid hn
  clear hn
  have Hz := Lib.hid hz
  clear hz
  go_enter Try.func77, Try.ntmps77
  go_wp2_with fail
  go_loopw [9] (fun i wr => ∃ (j : Nat), j ≤ n ∧ i = .int .i64 j ∧ Hid ((xs.take j).all (fun o => !has18 s o.1) = true) ∧ Below w.heap.size w wr) (fun i _ => n - (intOf i).toNat)
  case atStart => exact ⟨0, Nat.zero_le _, rfl, by simp [Hid], Below.refl _ _⟩
  case round =>
    obtain ⟨j, hj, rfl, HA, hW⟩ := hrel
    by_cases hlt : j < n
    · have hj2 : j < xs.length := by rw [← Hn.out]; exact hlt
      obtain ⟨b, o, rfl, hbl, p0, p1, p2⟩ := rd_Order (Hr.out.keep hW) hj2
      obtain ⟨⟨v0, v1, v2⟩, hv⟩ : ∃ v, v = xs[j] := ⟨_, rfl⟩
      have hzz := (Hz.out _ (List.getElem_mem hj2)).1
      rw [← hv] at p0 p1 p2 hzz
      dsimp only at p0 p1 p2 hzz
      have hWa := hW.alloc hW.size (.cells #[.string v0, .string v1, .bool v2] 95)
      have Hv := Lib.hid hv
      clear hv
      go_wp2_with fail
      refine (specPlace_any s v0 _ hs hzz).mono ?_
      rintro e w2 ⟨r, rfl, hrr, b2⟩
      have hW2 := hWa.trans (b2.mono hWa.size)
      by_cases h0 : 0 ≤ r
      · have hh : has18 s v0 = true := by rw [← hrr]; exact decide_eq_true h0
        have e1 : idxI (fun o : OrderT => has18 s o.1) xs = (j : Int) := idx_hit hj2 HA.out (by rw [← Hv.out]; exact hh)
        clear hrr
        have Hh := Lib.hid hh
        clear hh
        have E1 := Lib.hid e1
        clear e1
        go_wp2_with fail
        go_ret
        exact ⟨ret_int (by rw [E1.out]), hW2⟩
      · have hh : has18 s v0 = false := by rw [← hrr]; exact decide_eq_false h0
        have hA2 : (xs.take (j + 1)).all (fun o => !has18 s o.1) = true := by
          rw [List.take_succ_eq_append_getElem hj2, List.all_append, HA.out, ← Hv.out]
          simp [hh]
        clear hrr
        have Hh := Lib.hid hh
        clear hh
        have HA2 := Lib.hid hA2
        clear hA2
        go_wp2_with fail
        go_roundw
        case rel => exact ⟨j + 1, by omega, by go_num, HA2, hW2⟩
        case measure => simp [intOf] <;> omega
    · have : j = n := by omega
      subst this
      have hT : xs.take j = xs := List.take_of_length_le (by rw [← Hn.out]; exact Nat.le_refl _)
      rw [hT] at HA
      have e1 : idxI (fun o : OrderT => has18 s o.1) xs = -1 := idx_miss HA.out
      have E1 := Lib.hid e1
      clear e1
      go_wp2_with fail
      go_ret
      exact ⟨ret_int (by rw [E1.out]), hW⟩

set_option maxRecDepth 100000 in
set_option maxHeartbeats 1000000 in
theorem ordLit_any (x : OrderT) (s : ByteArray) (b : Nat) (m : Int) (w : World) (h0 : w.cell? ⟨b, 0, none⟩ = some (.string s)) (hm : w.cell? ⟨0, 0, none⟩ = some (.int .i64 m)) (hs : s.size ≤ 1048576) (hx : x.1.size ≤ 1048576) :
    Calls Try.prog 134 #[evOrder x, .pointer (some ⟨b, 0, none⟩)] w (Kept w (.bool (has18 s x.1))) := by
  obtain ⟨v0, v1, v2⟩ := x
  have hW0 : Below w.heap.size w (w.alloc (.cells #[.string v0, .string v1, .bool v2] 95)) := (Below.refl _ _).alloc (Nat.le_refl _) _
  have hbl := World.block_lt_of_cell? w _ h0
  have h0l := World.block_lt_of_cell? w _ hm
  dsimp only at hx hbl h0l
  have hm1 : (w.alloc (.cells #[.string v0, .string v1, .bool v2] 95)).cell? ⟨0, 0, none⟩ = some (.int .i64 m) := (hW0.cell (p := ⟨0, 0, none⟩) h0l).trans hm
  have ev : evOrder (v0, v1, v2) = .agg #[.string v0, .string v1, .bool v2] := rfl
  rw [ev]
  have Hm := Lib.hid hm
  clear hm
  have Hm1 := Lib.hid hm1
  clear hm1
  go_enter Try.func134, Try.ntmps134
  go_wp2_with fail
  refine (Try.strings_Contains s v0 m _ (by omega) Hm1.out).mono ?_
  rintro e w2 ⟨rfl, rfl⟩
  have eh : Lib.contains s.data.toList v0.data.toList = has18 s v0 := rfl
  rw [eh]
  obtain ⟨r, hrr⟩ : ∃ r', r' = (has18 s v0) := ⟨_, rfl⟩
  rw [← hrr]
  have Hr9 := Lib.hid hrr
  clear hrr
  go_wp2_with fail
  go_ret
  exact ⟨ret_bool Hr9.out, hW0⟩

set_option maxRecDepth 100000 in
set_option maxHeartbeats 1000000 in
theorem implordFor_any (A : Option Addr) (n c : Nat) (xs : List OrderT) (s : ByteArray) (m : Int) (w : World) (hr : Rd w A (cellsOrder xs)) (hn : n = xs.length) (hb : n ≤ 1048576) (hz : ∀ x ∈ xs, x.1.size ≤ 1048576 ∧ x.2.1.size ≤ 1048576) (hs : s.size ≤ 1048576) (hm : w.cell? ⟨0, 0, none⟩ = some (.int .i64 m)) :
    Calls Try.prog 80 #[.slice A n c, .string s] w (Kept w (.int .i64 (idxI (fun o : OrderT => has18 s o.1) xs))) := by
  have hmf : ∀ (fn : Fn) (first cap : Array Value) (w : World), (Instr.makeFunc fn first cap).run Try.prog w = .ok (.func fn first cap) w := fun _ _ _ _ => rfl
  have eg : ∀ args w, (callFunc 134 args).run Try.prog w = .ok (.enter 134 args) w := enters_of Try.func134 (by kernel_rfl) rfl
  have hW0 : Below w.heap.size w (w.alloc (.cells #[.string s] 9)) := (Below.refl _ _).alloc (Nat.le_refl _) _
  have hS0 := Bk.new w 9 #[.string s]
  have h0l : 0 < w.heap.size := World.block_lt_of_cell? w _ hm
  have hm1 : ∀ W, Below w.heap.size w W → W.cell? ⟨0, 0, none⟩ = some (.int .i64 m) := fun W h => (h.cell (p := ⟨0, 0, none⟩) h0l).trans hm
  have Hr := Lib.hid hr
  clear hr
  have Hn := Lib.hid hn
  clear hn
  have Hz := Lib.hid hz
  clear hz
  have Eg := Lib.hid eg
  clear eg
  have Hm1 := Lib.hid hm1
  clear hm1
  have Hm := Lib.hid hm
  clear hm
  go_enter Try.func80, Try.ntmps80
  go_wp2_with fail
  refine (indexFunc_Order A n c xs 134 #[.pointer (some ⟨w.heap.size, 0, none⟩)] (fun o => has18 s o.1) _ Eg.out (Hr.out.keep hW0) Hn.out (by omega) (fun W x hx hB => ordLit_any x s w.heap.size m W (by rw [(hS0.below hB hS0.lt).cell]; rfl) (Hm1.out W (hW0.trans (hB.mono hW0.size))) hs (Hz.out x hx).1)).mono ?_
  rintro e w1 ⟨rfl, b1⟩
  have hW1 := hW0.trans (b1.mono hW0.size)
  obtain ⟨r, hrr⟩ : ∃ r', r' = (idxI (fun o : OrderT => has18 s o.1) xs) := ⟨_, rfl⟩
  rw [← hrr]
  have Hr9 := Lib.hid hrr
  clear hrr
  go_wp2_with fail
  go_ret
  exact ⟨ret_int (by rw [Hr9.out]), hW1⟩

set_option maxRecDepth 100000 in
set_option maxHeartbeats 1000000 in
theorem specOrderFor_any (A : Option Addr) (n c : Nat) (xs : List OrderT) (s : ByteArray) (w : World) (hr : Rd w A (cellsOrder xs)) (hn : n = xs.length) (hb : n ≤ 1048576) (hz : ∀ x ∈ xs, x.1.size ≤ 1048576 ∧ x.2.1.size ≤ 1048576) (hs : s.size ≤ 1048576) (hm : ∃ m, w.cell? ⟨0, 0, none⟩ = some (.int .i64 m)) :
    Calls Try.prog 27 #[.slice A n c, .string s] w (Kept w (.int .i64 (ordFor xs s))) := by
  obtain ⟨m, hm⟩ := hm
  have h0l : 0 < w.heap.size := World.block_lt_of_cell? w _ hm
  have Hr := Lib.hid hr
  clear hr
  have Hn := Lib.hid hn
  clear hn
  have Hz := Lib.hid hz
  clear hz
  have Hm := Lib.hid hm
  clear hm
  go_enter Try.func27, Try.ntmps27
  go_wp2_with fail
  refine (specAlgorithmOk_any A n c xs _ Hr.out Hn.out hb Hz.out).mono ?_
  rintro e w1 ⟨rfl, b1⟩
  obtain ⟨r1, hrr⟩ : ∃ r', r' = (algOk xs) := ⟨_, rfl⟩
  rw [← hrr]
  have H1 := Lib.hid hrr
  clear hrr
  cases r1
  · go_wp2_with fail
    go_ret
    exact ⟨ret_int (by rw [ordFor, ← H1.out]; rfl), b1⟩
  go_wp2_with fail
  refine (specWord_any 4 s _ (by omega)).mono ?_
  rintro e w2 ⟨rfl, rfl⟩
  obtain ⟨r2, hrr⟩ : ∃ r', r' = (wordOk 4 s) := ⟨_, rfl⟩
  rw [← hrr]
  have H2 := Lib.hid hrr
  clear hrr
  cases r2
  · go_wp2_with fail
    go_ret
    exact ⟨ret_int (by rw [ordFor, ← H1.out, ← H2.out]; rfl), b1⟩
  have e1 : ordFor xs s = idxI (fun o : OrderT => has18 s o.1) xs := by rw [ordFor, ← H1.out, ← H2.out]; rfl
  have E1 := Lib.hid e1
  clear e1
  go_wp2_with fail
  refine (specNext_any A n c xs s _ (Hr.out.keep b1) Hn.out hb Hz.out hs).mono ?_
  rintro e w3 ⟨rfl, b3⟩
  obtain ⟨r, hrr⟩ : ∃ r', r' = (idxI (fun o : OrderT => has18 s o.1) xs) := ⟨_, rfl⟩
  rw [← hrr]
  have Hr9 := Lib.hid hrr
  clear hrr
  go_wp2_with fail
  go_ret
  exact ⟨ret_int (by rw [E1.out, Hr9.out]), b1.trans (b3.mono b1.size)⟩

set_option maxRecDepth 100000 in
set_option maxHeartbeats 1000000 in
theorem implOrderFor_any (A : Option Addr) (n c : Nat) (xs : List OrderT) (s : ByteArray) (w : World) (hr : Rd w A (cellsOrder xs)) (hn : n = xs.length) (hb : n ≤ 1048576) (hz : ∀ x ∈ xs, x.1.size ≤ 1048576 ∧ x.2.1.size ≤ 1048576) (hs : s.size ≤ 1048576) (hm : ∃ m, w.cell? ⟨0, 0, none⟩ = some (.int .i64 m)) :
    Calls Try.prog 28 #[.slice A n c, .string s] w (Kept w (.int .i64 (ordFor xs s))) := by
  obtain ⟨m, hm⟩ := hm
  have h0l : 0 < w.heap.size := World.block_lt_of_cell? w _ hm
  have Hr := Lib.hid hr
  clear hr
  have Hn := Lib.hid hn
  clear hn
  have Hz := Lib.hid hz
  clear hz
  have Hm := Lib.hid hm
  clear hm
  go_enter Try.func28, Try.ntmps28
  go_wp2_with fail
  refine (implAlgorithmOk_any A n c xs _ Hr.out Hn.out hb Hz.out).mono ?_
  rintro e w1 ⟨rfl, b1⟩
  obtain ⟨r1, hrr⟩ : ∃ r', r' = (algOk xs) := ⟨_, rfl⟩
  rw [← hrr]
  have H1 := Lib.hid hrr
  clear hrr
  cases r1
  · go_wp2_with fail
    go_ret
    exact ⟨ret_int (by rw [ordFor, ← H1.out]; rfl), b1⟩
  go_wp2_with fail
  refine (implWord_any 4 s _ (by omega)).mono ?_
  rintro e w2 ⟨rfl, rfl⟩
  obtain ⟨r2, hrr⟩ : ∃ r', r' = (wordOk 4 s) := ⟨_, rfl⟩
  rw [← hrr]
  have H2 := Lib.hid hrr
  clear hrr
  cases r2
  · go_wp2_with fail
    go_ret
    exact ⟨ret_int (by rw [ordFor, ← H1.out, ← H2.out]; rfl), b1⟩
  have e1 : ordFor xs s = idxI (fun o : OrderT => has18 s o.1) xs := by rw [ordFor, ← H1.out, ← H2.out]; rfl
  have E1 := Lib.hid e1
  clear e1
  go_wp2_with fail
  refine (implordFor_any A n c xs s m _ (Hr.out.keep b1) Hn.out hb Hz.out hs ((b1.cell (p := ⟨0, 0, none⟩) h0l).trans Hm.out)).mono ?_
  rintro e w3 ⟨rfl, b3⟩
  obtain ⟨r, hrr⟩ : ∃ r', r' = (idxI (fun o : OrderT => has18 s o.1) xs) := ⟨_, rfl⟩
  rw [← hrr]
  have Hr9 := Lib.hid hrr
  clear hrr
  go_wp2_with fail
  go_ret
  exact ⟨ret_int (by rw [E1.out, Hr9.out]), b1.trans (b3.mono b1.size)⟩

end Go.Proofs.Ytgnmfneinnojnaa
