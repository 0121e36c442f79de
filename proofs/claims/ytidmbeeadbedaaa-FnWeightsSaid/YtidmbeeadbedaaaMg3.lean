/- Merged texts: a claim has a limit of files. -/
import Derived.Test.YtidmbeeadbedaaaMg2
import Derived.Test.YtidmbeeadbedaaaMg1

/- Walks over both AddWeights: each returns the sums, for all arguments. -/
namespace Go.Proofs.Ytidmbeeadbedaaa
open Go.RowKit Go.Shelf

def addOk (m : Int) (xs ys : List Int) : Bool := wtsOk m xs && wtsOk m ys && decide (xs.length = ys.length)
def addS (m : Int) (xs ys : List Int) : List Int := List.zipWith (fun x y => (x + y) % m) xs ys
/-- The sums, or nothing. -/
def addW (m : Int) (xs ys : List Int) : List Int := if addOk m xs ys then addS m xs ys else []
theorem addW_no {m : Int} {xs ys : List Int} (h : addOk m xs ys = false) : addW m xs ys = [] := by unfold addW; rw [h]; rfl
theorem addW_yes {m : Int} {xs ys : List Int} (h : addOk m xs ys = true) : addW m xs ys = addS m xs ys := by unfold addW; rw [h]; rfl

theorem addW_len (m : Int) (xs ys : List Int) : (addW m xs ys).length ≤ 1048576 := by
  unfold addW
  split
  · next h =>
    unfold addOk wtsOk at h
    simp only [Bool.and_eq_true] at h
    have := inB_out h.1.1.1.2.symm
    unfold addS
    rw [List.length_zipWith]
    omega
  · simp

theorem wts_bounds {m : Int} {xs : List Int} (h : wtsOk m xs = true) : 1 ≤ m ∧ m ≤ 12 ∧ 1 ≤ xs.length ∧ xs.length ≤ 4 ∧ ∀ k (hk : k < xs.length), 0 ≤ xs[k] ∧ xs[k] ≤ m - 1 := by
  unfold wtsOk at h
  simp only [Bool.and_eq_true, List.all_eq_true] at h
  obtain ⟨⟨h1, h2⟩, h3⟩ := h
  have h1 := inB_out h1.symm
  have h2 := inB_out h2.symm
  refine ⟨h1.1, h1.2, by omega, by omega, fun k hk => ?_⟩
  have := inB_out (h3 xs[k] (List.getElem_mem hk)).symm
  omega


set_option maxRecDepth 100000 in
set_option maxHeartbeats 1000000 in
theorem implAddWeights_any (m : Int) (A : Option Addr) (n c : Nat) (xs : List Int) (B : Option Addr) (k d : Nat) (ys : List Int) (w : World) (hx : Rd w A (ints xs)) (hn : n = xs.length) (hb : n ≤ 1048576) (hy : Rd w B (ints ys)) (hk : k = ys.length) (hbk : k ≤ 1048576) :
    Calls Try.prog 50 #[.int .i64 m, .slice A n c, .slice B k d] w (MadeSlB w 3 1 (addW m xs ys).length (ints (addW m xs ys)) (addOk m xs ys)) := by
  obtain ⟨i0, hi, hz0, hz1, hz2⟩ := info_parts info_int
  go_enter Try.func50, Try.ntmps50
  have Hn := Lib.hid hn
  clear hn
  have Hk := Lib.hid hk
  clear hk
  go_wp2_with fail
  refine (implWts_any m A n c xs _ hx Hn.out hb).mono ?_
  rintro e w1 ⟨rfl, b1⟩
  have t1 := b1
  obtain ⟨r1, hrr⟩ : ∃ r', r' = (wtsOk m xs) := ⟨_, rfl⟩
  rw [← hrr]
  have H1 := Lib.hid hrr
  clear hrr
  cases r1
  · go_wp2_with fail
    go_ret2
    have e : addOk m xs ys = false := by unfold addOk; rw [← H1.out]; rfl
    rw [e, addW_no e]
    exact ⟨_, _, rfl, World.ownsRow_nil _ _ _ _, b1⟩
  go_wp2_with fail
  refine (implWts_any m B k d ys _ (hy.keep t1) Hk.out hbk).mono ?_
  rintro e w2 ⟨rfl, b2⟩
  have t2 := t1.trans (b2.mono t1.size)
  obtain ⟨r2, hrr⟩ : ∃ r', r' = (wtsOk m ys) := ⟨_, rfl⟩
  rw [← hrr]
  have H2 := Lib.hid hrr
  clear hrr
  cases r2
  · go_wp2_with fail
    go_ret2
    have e : addOk m xs ys = false := by unfold addOk; rw [← H1.out, ← H2.out]; rfl
    rw [e, addW_no e]
    exact ⟨_, _, rfl, World.ownsRow_nil _ _ _ _, t2⟩
  by_cases hl : n = k
  · have hd : ((n : Int) != k) = false := by simp [hl]
    have hl1 : n ≤ k := by omega
    have hl2 : k ≤ n := by omega
    obtain ⟨hm1, hm2, hlo, hup, hbx⟩ := wts_bounds H1.out.symm
    obtain ⟨_, _, _, _, hby⟩ := wts_bounds H2.out.symm
    have e : addOk m xs ys = true := by unfold addOk; rw [← H1.out, ← H2.out]; simp; rw [← Hn.out, ← Hk.out]; exact hl
    have EO := Lib.hid e
    clear e
    have Hl := Lib.hid hl
    clear hl
    have Hbx := Lib.hid hbx
    clear hbx
    have Hby := Lib.hid hby
    clear hby
    have hz : Hid (∀ j (hj : j < n), (addS m xs ys)[j]? = some ((xs.getD j 0 + ys.getD j 0) % m)) := by
      intro j hj
      have h1 : j < xs.length := by rw [← Hn.out]; exact hj
      have h2 : j < ys.length := by rw [← Hk.out]; omega
      unfold addS
      simp [List.getElem?_zipWith, h1, h2]
    go_wp2_with fail
    go_loopw [8, 30] (fun v i wr => ∃ (j : Nat) (A1 : Option Addr) (c1 : Nat), j ≤ n ∧ i = .int .i64 j ∧ v = .slice A1 j c1 ∧ wr.ownsRow w.heap.size 3 1 (.slice A1 j c1) j (ints ((addS m xs ys).take j)) ∧ Below w.heap.size w wr) (fun _ i _ => n - (intOf i).toNat)
    case atStart => exact ⟨0, none, 0, Nat.zero_le _, rfl, rfl, World.ownsRow_nil _ _ _ _, t2⟩
    case round =>
      obtain ⟨j, A1, c1, hj, rfl, rfl, hO, hW⟩ := hrel
      clear hd
      by_cases hlt : j < n
      · have h1 : j < xs.length := by rw [← Hn.out]; exact hlt
        have h2 : j < ys.length := by rw [← Hk.out]; omega
        obtain ⟨b1, o1, rfl, hb1, hc1⟩ := (hx.keep hW) (by intro e; have := ints_get xs j h1; rw [e] at this; cases this)
        obtain ⟨b2, o2, rfl, hb2, hc2⟩ := (hy.keep hW) (by intro e; have := ints_get ys j h2; rw [e] at this; cases this)
        have p1 := hc1 j _ (ints_get xs j h1)
        have p2 := hc2 j _ (ints_get ys j h2)
        have bx := Hbx.out j h1
        have by_ := Hby.out j h2
        clear hc1 hc2 hx hy
        have hzj := hz.out j hlt
        have e1 : xs.getD j 0 = xs[j] := by simp [h1]
        have e2 : ys.getD j 0 = ys[j] := by simp [h2]
        rw [e1, e2] at hzj
        have HZ := Lib.hid hzj
        clear hzj e1 e2 hz
        obtain ⟨xv, hxv⟩ : ∃ xv, xv = xs[j] := ⟨_, rfl⟩
        obtain ⟨yv, hyv⟩ : ∃ yv, yv = ys[j] := ⟨_, rfl⟩
        rw [← hxv, ← hyv] at HZ
        rw [← hxv] at p1 bx
        rw [← hyv] at p2 by_
        clear hxv hyv
        go_wp2_with (at_builtin; refine wpList_app1 _ wr rfl _ _ 73 rfl w.heap.size 3 1 8 _ Try.underlying73 info_int rfl (by omega) _ _ _ _ rfl rfl rfl hO rfl (one_cell1 _) (by omega) (by unfold maxLen; omega) hW.size ?_; intro A2 c2 w5 hO5 hW5)
        have hW6 := hW.trans hW5
        have hO6 := ints_next hO5 HZ.out
        clear hO hO5
        go_wp2_with fail
        go_roundw
        case rel => exact ⟨j + 1, A2, c2, by omega, by go_num, rfl, hO6, hW6⟩
        case measure => simp [intOf]; omega
      · have : j = n := by omega
        subst this
        go_wp2_with fail
        go_ret2
        have e : (addS m xs ys).length = j := by unfold addS; rw [List.length_zipWith, ← Hn.out, ← Hk.out]; omega
        rw [List.take_of_length_le (by omega)] at hO
        have eL := addW_yes EO.out
        exact ⟨A1, c1, by rw [eL, e, EO.out]; rfl, by rw [eL, e]; exact hO, hW⟩
  · have hd : ((n : Int) != k) = true := by simp; omega
    go_wp2_with fail
    go_ret2
    have e : addOk m xs ys = false := by unfold addOk; simp; intro _ _; rw [← Hn.out, ← Hk.out]; exact hl
    rw [e, addW_no e]
    exact ⟨_, _, rfl, World.ownsRow_nil _ _ _ _, t2⟩

end Go.Proofs.Ytidmbeeadbedaaa

/- Walks over WordOk (the program's and the reference's) and hasLetters, and over the weight of a word: each returns what wordOk and wsum say, for all arguments. -/
namespace Go.Proofs.Ytidmbeeadbedaaa
open Go.RowKit Go.Shelf

/-- The letters of s are among the first k. -/
def lettersOk (k : Int) (s : ByteArray) : Bool := s.data.toList.all (fun b => inB b.toNat 97 (96 + k))
/-- WordOk, in plain words. -/
def wordOk (k : Int) (s : ByteArray) : Bool := inB k 1 4 && decide (s.size ≤ 16) && lettersOk k s

theorem bytes_len (s : ByteArray) : s.data.toList.length = s.size := by rw [Array.length_toList]; rfl
theorem byte_get (s : ByteArray) (j : Nat) (h : j < s.size) : s[j] = s.data.toList.getD j 0 := by
  have h' : j < s.data.toList.length := by rw [bytes_len]; exact h
  rw [List.getD_eq_getElem?_getD, List.getElem?_eq_getElem h']
  rfl

set_option maxRecDepth 100000 in
set_option maxHeartbeats 400000 in
theorem hasLetters_any (k : Int) (s : ByteArray) (w : World) (h1 : 1 ≤ k) (h2 : k ≤ 4) (hs : s.size ≤ 9223372036854775807) :
    Calls Try.prog 147 #[.int .i64 k, .string s] w fun e w' => e = .returned (.bool (lettersOk k s)) ∧ w = w' := by
  go_enter Try.func147, Try.ntmps147
  go_wp2_with fail
  go_loop [8] (fun i => ∃ (j : Nat), j ≤ s.size ∧ i = .int .i64 j ∧ Hid ((s.data.toList.take j).all (fun b => inB b.toNat 97 (96 + k)) = true)) (fun i => s.size - (intOf i).toNat)
  case atStart => exact ⟨0, Nat.zero_le _, rfl, by simp [Hid]⟩
  case round =>
    obtain ⟨j, hj, rfl, HA⟩ := hrel
    by_cases hlt : j < s.size
    · have h256 : s[j].toNat < 256 := s[j].toNat_lt
      have hlt' : j < s.data.toList.length := by rw [bytes_len]; exact hlt
      have hv := byte_get s j hlt
      have Hv := Lib.hid hv
      clear hv
      have Hlt' := Lib.hid hlt'
      clear hlt'
      go_wp2_with fail
      refine (within_any (s[j].toNat : Int) 97 (97 + k - 1) _).mono ?_
      rintro e w' ⟨rfl, rfl⟩
      obtain ⟨r, hrr⟩ : ∃ r, r = inB (s[j].toNat : Int) 97 (97 + k - 1) := ⟨_, rfl⟩
      rw [← hrr]
      have HR : Hid ((fun b : UInt8 => inB b.toNat 97 (96 + k)) s[j] = r) := by
        unfold Hid
        rw [hrr, show (97 + k - 1) = 96 + k from by omega]
      clear hrr
      cases r
      · go_wp2_with fail
        go_ret
        exact ⟨ret_bool (by rw [lettersOk, all_miss (Hlt'.out) Hv.out HR.out]), rfl⟩
      · go_wp2_with fail
        go_round
        case rel => exact ⟨j + 1, by omega, by go_num, all_snoc (Hlt'.out) HA.out Hv.out HR.out⟩
        case measure => simp [intOf]; omega
    · have : j = s.size := by omega
      subst this
      go_wp2_with fail
      go_ret
      exact ⟨ret_bool (by have := HA.out; rw [List.take_of_length_le (by rw [bytes_len]; omega)] at this; rw [lettersOk, this]), rfl⟩

set_option maxRecDepth 100000 in
set_option maxHeartbeats 400000 in
theorem implWord_any (k : Int) (s : ByteArray) (w : World) (hs : s.size ≤ 9223372036854775807) :
    Calls Try.prog 87 #[.int .i64 k, .string s] w fun e w' => e = .returned (.bool (wordOk k s)) ∧ w = w' := by
  go_enter Try.func87, Try.ntmps87
  go_wp2_with fail
  refine (within_any k 1 4 _).mono ?_
  rintro e w' ⟨rfl, rfl⟩
  obtain ⟨r1, hrr⟩ : ∃ r', r' = (inB k 1 4) := ⟨_, rfl⟩
  rw [← hrr]
  have H1 := Lib.hid hrr
  clear hrr
  cases r1
  · go_wp2_with fail
    go_ret
    exact ⟨ret_bool (by rw [wordOk, ← H1.out]; rfl), rfl⟩
  · obtain ⟨hm1, hm2⟩ := inB_out H1.out
    by_cases hl : s.size ≤ 16
    · skip
      go_wp2_with fail
      refine (hasLetters_any k s _ hm1 hm2 hs).mono ?_
      rintro e w' ⟨rfl, rfl⟩
      obtain ⟨r2, hrr⟩ : ∃ r', r' = (lettersOk k s) := ⟨_, rfl⟩
      rw [← hrr]
      have H2 := Lib.hid hrr
      clear hrr
      go_wp2_with fail
      go_ret
      exact ⟨ret_bool (by rw [H2.out, wordOk, ← H1.out, decide_eq_true hl]; rfl), rfl⟩
    · go_wp2_with fail
      go_ret
      exact ⟨ret_bool (by rw [wordOk, ← H1.out, decide_eq_false hl]; rfl), rfl⟩

set_option maxRecDepth 100000 in
set_option maxHeartbeats 400000 in
theorem specWord_any (k : Int) (s : ByteArray) (w : World) (hs : s.size ≤ 9223372036854775807) :
    Calls Try.prog 63 #[.int .i64 k, .string s] w fun e w' => e = .returned (.bool (wordOk k s)) ∧ w = w' := by
  go_enter Try.func63, Try.ntmps63
  go_wp2_with fail
  refine (l01In_any k 1 4 _).mono ?_
  rintro e w' ⟨rfl, rfl⟩
  obtain ⟨r1, hrr⟩ : ∃ r', r' = (inB k 1 4) := ⟨_, rfl⟩
  rw [← hrr]
  have H1 := Lib.hid hrr
  clear hrr
  cases r1
  · go_wp2_with fail
    go_ret
    exact ⟨ret_bool (by rw [wordOk, ← H1.out]; rfl), rfl⟩
  · obtain ⟨hm1, hm2⟩ := inB_out H1.out
    by_cases hl : s.size ≤ 16
    · skip
      go_wp2_with fail
      go_loop [5] (fun i => ∃ (j : Nat), j ≤ s.size ∧ i = .int .i64 j ∧ Hid ((s.data.toList.take j).all (fun b => inB b.toNat 97 (96 + k)) = true)) (fun i => s.size - (intOf i).toNat)
      case atStart => exact ⟨0, Nat.zero_le _, rfl, by simp [Hid]⟩
      case round =>
        obtain ⟨j, hj, rfl, HA⟩ := hrel
        by_cases hlt : j < s.size
        · have hlt' : j < s.data.toList.length := by rw [bytes_len]; exact hlt
          have hv := byte_get s j hlt
          have Hv := Lib.hid hv
          clear hv
          have Hlt' := Lib.hid hlt'
          clear hlt'
          have h256 : s[j].toNat < 256 := s[j].toNat_lt
          by_cases c1 : (s[j].toNat : Int) < 97
          · go_wp2
            go_ret
            exact ⟨ret_bool (by rw [wordOk, lettersOk, all_miss (Hlt'.out) Hv.out (by simp [inB]; omega), Bool.and_false]), rfl⟩
          · by_cases c2 : k ≤ (s[j].toNat : Int) - 97
            · go_wp2
              go_ret
              exact ⟨ret_bool (by rw [wordOk, lettersOk, all_miss (Hlt'.out) Hv.out (by simp [inB]; omega), Bool.and_false]), rfl⟩
            · go_wp2
              go_round
              case rel => exact ⟨j + 1, by omega, by go_num, all_snoc (Hlt'.out) HA.out Hv.out (by simp [inB]; omega)⟩
              case measure => simp [intOf]; omega
        · have : j = s.size := by omega
          subst this
          go_wp2
          go_ret
          exact ⟨ret_bool (by have := HA.out; rw [List.take_of_length_le (by rw [bytes_len]; omega)] at this; rw [wordOk, lettersOk, this, ← H1.out, decide_eq_true hl]; rfl), rfl⟩
    · go_wp2_with fail
      go_ret
      exact ⟨ret_bool (by rw [wordOk, ← H1.out, decide_eq_false hl]; rfl), rfl⟩

end Go.Proofs.Ytidmbeeadbedaaa
