/- Walks over AlgorithmOk (the program's and the reference's): each returns what algOk says, for all arguments. -/
import Derived.Test.YtgnmfneinnojnaaSides
import Derived.Test.YtgnmfneinnojnaaOrderF
namespace Go.Proofs.Ytgnmfneinnojnaa
open Go.RowKit Go.Shelf

/-- AlgorithmOk, in plain words. -/
def algOk (xs : List OrderT) : Bool := decide (xs.length ≤ 12) && xs.all (fun o => sidesOk 4 o.1 o.2.1)

theorem algOk1_any (x : OrderT) (w : World) (h : x.1.size ≤ 1048576 ∧ x.2.1.size ≤ 1048576) :
    Calls Try.prog 130 (#[evOrder x] ++ #[]) w (Kept w (.bool (!sidesOk 4 x.1 x.2.1))) := by
  obtain ⟨x0, x1, x2⟩ := x
  dsimp only at h
  obtain ⟨h0, h1⟩ := h
  show Calls Try.prog 130 #[.agg #[.string x0, .string x1, .bool x2]] w _
  have hW : Below w.heap.size w (w.alloc (.cells #[.string x0, .string x1, .bool x2] 95)) := (Below.refl _ _).alloc (Nat.le_refl _) _
  go_enter Try.func130, Try.ntmps130
  go_wp2_with fail
  refine (implSides_any 4 x0 x1 _ (by omega) (by omega)).mono ?_
  rintro e w' ⟨rfl, b1⟩
  obtain ⟨r, hrr⟩ : ∃ r', r' = (sidesOk 4 x0 x1) := ⟨_, rfl⟩
  rw [← hrr]
  have HR := Lib.hid hrr
  clear hrr
  go_wp2_with fail
  go_ret
  exact ⟨ret_bool (by rw [HR.out]), hW.trans (b1.mono hW.size)⟩

set_option maxRecDepth 100000 in
set_option maxHeartbeats 1000000 in
theorem implAlgorithmOk_any (A : Option Addr) (n c : Nat) (xs : List OrderT) (w : World) (hr : Rd w A (cellsOrder xs)) (hn : n = xs.length) (hb : n ≤ 1048576) (hz : ∀ x ∈ xs, x.1.size ≤ 1048576 ∧ x.2.1.size ≤ 1048576) :
    Calls Try.prog 78 #[.slice A n c] w (Kept w (.bool (algOk xs))) := by
  have hmf : ∀ (fn : Fn) (first cap : Array Value) (w : World), (Instr.makeFunc fn first cap).run Try.prog w = .ok (.func fn first cap) w := fun _ _ _ _ => rfl
  have eg := enters_of Try.func130 (by kernel_rfl) rfl
  by_cases h12 : n ≤ 12
  · have e12 : decide (xs.length ≤ 12) = true := by rw [← hn]; exact decide_eq_true h12
    have Hn := Lib.hid hn
    clear hn
    have E12 := Lib.hid e12
    clear e12
    go_enter Try.func78, Try.ntmps78
    go_wp2_with fail
    refine (containsFunc_Order A n c xs _ #[] (fun o => !sidesOk 4 o.1 o.2.1) _ eg hr Hn.out (by omega) (fun W x hx _ => algOk1_any x W (hz x hx))).mono ?_
    rintro e w1 ⟨rfl, b1⟩
    obtain ⟨r, hrr⟩ : ∃ r', r' = (xs.any (fun o => !sidesOk 4 o.1 o.2.1)) := ⟨_, rfl⟩
    rw [← hrr]
    have HR := Lib.hid hrr
    clear hrr
    go_wp2_with fail
    go_ret
    exact ⟨ret_bool (by rw [algOk, E12.out, HR.out, ← not_any_not]; rfl), b1⟩
  · have e12 : decide (xs.length ≤ 12) = false := by rw [← hn]; exact decide_eq_false h12
    have Hn := Lib.hid hn
    clear hn
    have E12 := Lib.hid e12
    clear e12
    go_enter Try.func78, Try.ntmps78
    go_wp2_with fail
    go_ret
    exact ⟨ret_bool (by rw [algOk, E12.out]; rfl), Below.refl _ _⟩

set_option maxRecDepth 100000 in
set_option maxHeartbeats 1000000 in
theorem specAlgorithmOk_any (A : Option Addr) (n c : Nat) (xs : List OrderT) (w : World) (hr : Rd w A (cellsOrder xs)) (hn : n = xs.length) (hb : n ≤ 1048576) (hz : ∀ x ∈ xs, x.1.size ≤ 1048576 ∧ x.2.1.size ≤ 1048576) :
    Calls Try.prog 75 #[.slice A n c] w (Kept w (.bool (algOk xs))) := by
  subst hn
  go_enter Try.func75, Try.ntmps75
  go_wp2_with fail
  go_loopw [7] (fun i wr => ∃ (j : Nat), j ≤ xs.length ∧ i = .int .i64 j ∧ Hid ((xs.take j).all (fun o => sidesOk 4 o.1 o.2.1) = true) ∧ Below w.heap.size w wr) (fun i _ => xs.length - (intOf i).toNat)
  case atStart => exact ⟨0, Nat.zero_le _, rfl, by simp [Hid], Below.refl _ _⟩
  case round =>
    obtain ⟨j, hj, rfl, HA, hW⟩ := hrel
    by_cases hlt : j < xs.length
    · obtain ⟨b, o, rfl, hbl, p0, p1, p2⟩ := rd_Order (hr.keep hW) hlt
      have hzj := hz xs[j] (List.getElem_mem hlt)
      obtain ⟨⟨v0, v1, v2⟩, hv⟩ : ∃ v, v = xs[j] := ⟨_, rfl⟩
      rw [← hv] at p0 p1 p2 hzj
      dsimp only at hzj
      obtain ⟨z0, z1⟩ := hzj
      have Hv := Lib.hid hv
      clear hv
      clear hr
      go_wp2_with fail
      refine (specSides_any 4 v0 v1 _ (by omega) (by omega)).mono ?_
      rintro e w1 ⟨rfl, b1⟩
      have hW2 := (hW.alloc hW.size (.cells #[.string v0, .string v1, .bool v2] 95))
      have hW3 := hW2.trans (b1.mono hW2.size)
      obtain ⟨r, hrr⟩ : ∃ r', r' = sidesOk 4 v0 v1 := ⟨_, rfl⟩
      rw [← hrr]
      have HR : Hid ((fun o : OrderT => sidesOk 4 o.1 o.2.1) (v0, v1, v2) = r) := hrr.symm
      clear hrr
      cases r
      · go_wp2_with fail
        go_ret
        refine ⟨ret_bool ?_, hW3⟩
        have hall : xs.all (fun o => sidesOk 4 o.1 o.2.1) = false := by
          rw [List.all_eq_false]
          exact ⟨xs[j], List.getElem_mem hlt, by rw [← Hv.out]; simpa using HR.out⟩
        rw [algOk, hall, Bool.and_false]
      · go_wp2_with fail
        go_roundw
        case rel => exact ⟨j + 1, by omega, by go_num, by unfold Hid; rw [List.take_succ_eq_append_getElem hlt, List.all_append, HA.out]; simp [← Hv.out]; exact HR.out, hW3⟩
        case measure => simp [intOf]; omega
    · have : j = xs.length := by omega
      subst this
      have hall : xs.all (fun o => sidesOk 4 o.1 o.2.1) = true := by have := HA.out; rwa [List.take_length] at this
      have Hall := Lib.hid hall
      clear hall
      by_cases h12 : xs.length ≤ 12
      · go_wp2
        go_ret
        exact ⟨ret_bool (by rw [algOk, Hall.out, decide_eq_true h12]; simp; omega), hW⟩
      · go_wp2
        go_ret
        exact ⟨ret_bool (by rw [algOk, Hall.out, decide_eq_false h12]; simp; omega), hW⟩

end Go.Proofs.Ytgnmfneinnojnaa
