/- Walks over within, l01In, allWithin, slices.IndexFunc and ContainsFunc at []int, and both WeightsOk: each returns what wtsOk says, for all arguments. -/
import Derived.Test.YtgnmfneinnojnaaInt
namespace Go.Proofs.Ytgnmfneinnojnaa
open Go.RowKit Go.Shelf

set_option maxHeartbeats 400000 in
theorem l01In_any (n lo hi : Int) (w : World) :
    Calls Try.prog 123 #[.int .i64 n, .int .i64 lo, .int .i64 hi] w fun e w' => e = .returned (.bool (inB n lo hi)) ∧ w = w' := by
  unfold inB
  by_cases h1 : lo ≤ n <;> by_cases h2 : n ≤ hi
  all_goals
    go_enter Try.func123, Try.ntmps123
    go_wp2
    go_ret
    exact ⟨by simp [*], rfl⟩

set_option maxHeartbeats 400000 in
theorem within_any (n lo hi : Int) (w : World) :
    Calls Try.prog 124 #[.int .i64 n, .int .i64 lo, .int .i64 hi] w fun e w' => e = .returned (.bool (inB n lo hi)) ∧ w = w' := by
  unfold inB
  by_cases h1 : lo ≤ n <;> by_cases h2 : n ≤ hi
  all_goals
    go_enter Try.func124, Try.ntmps124
    go_wp2
    go_ret
    exact ⟨by simp [*], rfl⟩

set_option maxHeartbeats 400000 in
theorem indexFunc_int (A : Option Addr) (n c : Nat) (xs : List Int) (g : FuncId) (lb : Array Value) (p : Int → Bool) (w : World) (eg : ∀ args w, (callFunc g args).run Try.prog w = .ok (.enter g args) w) (hr : Rd w A (ints xs)) (hn : n = xs.length) (hb : n ≤ 1048576)
    (hf : ∀ (W : World) (x : Int), Below w.heap.size w W → Calls Try.prog g (#[.int .i64 x] ++ lb) W (Kept W (.bool (p x)))) :
    Calls Try.prog 183 #[.slice A n c, .func (.func g) #[] lb] w (Kept w (.int .i64 (idxI p xs))) := by
  subst hn
  go_enter Try.func183, Try.ntmps183
  have HF := Lib.hid hf
  clear hf
  go_wp2
  go_loopw [8] (fun i wr => ∃ (j : Nat), j ≤ xs.length ∧ i = .int .i64 j ∧ (xs.take j).all (fun x => !p x) = true ∧ Below w.heap.size w wr) (fun i _ => xs.length - (intOf i).toNat)
  case atStart => exact ⟨0, Nat.zero_le _, rfl, by simp, Below.refl _ _⟩
  case round =>
    obtain ⟨j, hj, rfl, hA, hW⟩ := hrel
    have HA := Lib.hid hA
    clear hA
    by_cases hlt : j < xs.length
    · have hz := ints_get xs j hlt
      obtain ⟨b, o, rfl, hbl, hc⟩ := hr (by intro e; rw [e] at hz; cases hz)
      obtain ⟨v, hv⟩ : ∃ v, v = xs[j] := ⟨_, rfl⟩
      rw [← hv] at hz
      have c1 := (hW.cell (p := ⟨b, o + j, none⟩) hbl).trans (hc j _ hz)
      have HV := Lib.hid hv
      clear hc hr hz hv
      go_wp2_with fail
      refine (HF.out _ v hW).mono ?_
      rintro e w' ⟨rfl, hW2⟩
      have hW3 := hW.trans (hW2.mono hW.size)
      obtain ⟨r, hrr⟩ : ∃ r, r = p v := ⟨_, rfl⟩
      rw [← hrr]
      have HR := Lib.hid hrr
      clear hrr hW2
      cases r
      · go_wp2_with fail
        go_roundw
        case rel => exact ⟨j + 1, by omega, by go_num, by rw [List.take_succ_eq_append_getElem hlt, List.all_append, HA.out]; simp [← HV.out, ← HR.out], hW3⟩
        case measure => simp [intOf]; omega
      · go_wp2_with fail
        go_ret
        exact ⟨ret_int (by rw [idx_hit hlt HA.out (by rw [← HV.out, ← HR.out])]), hW3⟩
    · have : j = xs.length := by omega
      subst this
      go_wp2
      go_ret
      exact ⟨ret_int (by rw [idx_miss (by simpa using HA.out)]), hW⟩

set_option maxHeartbeats 400000 in
theorem containsFunc_int (A : Option Addr) (n c : Nat) (xs : List Int) (g : FuncId) (lb : Array Value) (p : Int → Bool) (w : World) (eg : ∀ args w, (callFunc g args).run Try.prog w = .ok (.enter g args) w) (hr : Rd w A (ints xs)) (hn : n = xs.length) (hb : n ≤ 1048576)
    (hf : ∀ (W : World) (x : Int), Below w.heap.size w W → Calls Try.prog g (#[.int .i64 x] ++ lb) W (Kept W (.bool (p x)))) :
    Calls Try.prog 161 #[.slice A n c, .func (.func g) #[] lb] w (Kept w (.bool (xs.any p))) := by
  go_enter Try.func161, Try.ntmps161
  have HF := Lib.hid hf
  have HN := Lib.hid hn
  clear hf hn
  go_wp2_with fail
  refine (indexFunc_int A n c xs g lb p w eg hr HN.out hb HF.out).mono ?_
  rintro e w' ⟨rfl, hW⟩
  obtain ⟨r, hrr⟩ : ∃ r, r = idxI p xs := ⟨_, rfl⟩
  rw [← hrr]
  have HR := Lib.hid hrr
  clear hrr
  go_wp2
  go_ret
  exact ⟨ret_bool (by rw [HR.out]; exact findIdx_bool p xs), hW⟩


/-- WeightsOk, in plain words. -/
def wtsOk (m : Int) (zs : List Int) : Bool := inB m 1 12 && inB zs.length 1 4 && zs.all (fun x => inB x 0 (m - 1))

/-- The literal of allWithin: it has captured two variables of one cell each. -/
theorem allWithin1_any (x lo hi : Int) (b1 b2 : Nat) (w : World) (h1 : w.cell? ⟨b1, 0, none⟩ = some (.int .i64 lo)) (h2 : w.cell? ⟨b2, 0, none⟩ = some (.int .i64 hi)) :
    Calls Try.prog 162 #[.int .i64 x, .pointer (some ⟨b1, 0, none⟩), .pointer (some ⟨b2, 0, none⟩)] w (Kept w (.bool (!inB x lo hi))) := by
  go_enter Try.func162, Try.ntmps162
  go_wp2_with fail
  refine (within_any x lo hi _).mono ?_
  rintro e w' ⟨rfl, rfl⟩
  obtain ⟨r, hrr⟩ : ∃ r', r' = (inB x lo hi) := ⟨_, rfl⟩
  rw [← hrr]
  have HR := Lib.hid hrr
  clear hrr
  go_wp2_with fail
  go_ret
  exact ⟨ret_bool (by rw [HR.out]), Below.refl _ _⟩

theorem allWithin_any (A : Option Addr) (n c : Nat) (zs : List Int) (lo hi : Int) (w : World) (hr : Rd w A (ints zs)) (hn : n = zs.length) (hb : n ≤ 1048576) :
    Calls Try.prog 125 #[.slice A n c, .int .i64 lo, .int .i64 hi] w (Kept w (.bool (zs.all (fun x => inB x lo hi)))) := by
  have hmf : ∀ (fn : Fn) (first cap : Array Value) (w : World), (Instr.makeFunc fn first cap).run Try.prog w = .ok (.func fn first cap) w := fun _ _ _ _ => rfl
  have eg := enters_of Try.func162 (by kernel_rfl) rfl
  have Hn := Lib.hid hn
  clear hn
  go_enter Try.func125, Try.ntmps125
  go_wp2_with fail
  have hW : Below w.heap.size w ((w.alloc (.cells #[.int .i64 lo] 3)).alloc (.cells #[.int .i64 hi] 3)) := (((Below.refl _ _).alloc (Nat.le_refl _) _).alloc (by simp) _)
  refine (containsFunc_int A n c zs _ _ (fun x => !inB x lo hi) _ eg (hr.keep hW) Hn.out hb ?_).mono ?_
  · intro W x hB
    exact allWithin1_any x lo hi _ _ W ((hB.cell (by simp <;> omega)).trans (by simp [go_sem])) ((hB.cell (by simp <;> omega)).trans (by simp [go_sem]))
  rintro e w' ⟨rfl, hW2⟩
  obtain ⟨r, hrr⟩ : ∃ r', r' = (zs.any (fun x => !inB x lo hi)) := ⟨_, rfl⟩
  rw [← hrr]
  have HR := Lib.hid hrr
  clear hrr
  go_wp2_with fail
  go_ret
  exact ⟨ret_bool (by rw [HR.out]; exact not_any_not _ _), hW.trans (hW2.mono (by simp; omega))⟩

end Go.Proofs.Ytgnmfneinnojnaa
