/- Walks over TagOk (the program's and the reference's): each returns what tagOk says, for all arguments. -/



import Derived.Test.YtgceabbeeobmgaaDoorWord
import Derived.Test.YtgceabbeeobmgaaDoorStrF
import Derived.Test.YtgceabbeeobmgaaDoorApp2
namespace Go.Proofs.YtgceabbeeobmgaaDoor

open Go.RowKit Go.Shelf

/-- TagOk, in plain words. -/
def tagOk (l : Int) (t : List ByteArray) : Bool := inB l 1 4 && inB t.length 1 4 && t.all (fun p => wordOk t.length p && decide (p.size ≤ 8))

theorem tag_any_not (xs : List ByteArray) (f : ByteArray → Bool) : (!xs.any (fun x => !f x)) = xs.all f := by
  induction xs with
  | nil => rfl
  | cons x xs ih => simp only [List.any_cons, List.all_cons, Bool.not_or, ih, Bool.not_not]

set_option maxRecDepth 100000 in
set_option maxHeartbeats 1000000 in
theorem specTagOk_any (l : Int) (A : Option Addr) (n c : Nat) (xs : List ByteArray) (w : World) (hr : Rd w A (strs xs)) (hn : n = xs.length) (hb : n ≤ 1048576) (hz : ∀ x ∈ xs, x.size ≤ 1048576) :
    Calls Tryd.prog 40 #[.agg #[.int .i64 l, .slice A n c]] w (Kept w (.bool (tagOk l xs))) := by
  subst hn
  have hW : Below w.heap.size w (w.alloc (.cells #[.int .i64 l, .slice A xs.length c] 42)) := (Below.refl _ _).alloc (Nat.le_refl _) _
  have hrk := hr.keep hW
  clear hr
  have Hz := Lib.hid hz
  clear hz
  go_enter Tryd.func40, Tryd.ntmps40
  go_wp2_with fail
  refine (l01In_any l 1 4 _).mono ?_
  rintro e w' ⟨rfl, rfl⟩
  obtain ⟨r1, hrr⟩ : ∃ r', r' = (inB l 1 4) := ⟨_, rfl⟩
  rw [← hrr]
  have H1 := Lib.hid hrr
  clear hrr
  cases r1
  · go_wp2_with fail
    go_ret
    exact ⟨ret_bool (by rw [tagOk, ← H1.out]; rfl), hW⟩
  go_wp2_with fail
  refine (l01In_any _ 1 4 _).mono ?_
  rintro e w' ⟨rfl, rfl⟩
  obtain ⟨r2, hrr⟩ : ∃ r', r' = (inB xs.length 1 4) := ⟨_, rfl⟩
  rw [← hrr]
  have H2 := Lib.hid hrr
  clear hrr
  cases r2
  · go_wp2_with fail
    go_ret
    exact ⟨ret_bool (by rw [tagOk, ← H1.out, ← H2.out]; rfl), hW⟩
  go_wp2_with fail
  go_loop [19] (fun i => ∃ (j : Nat), j ≤ xs.length ∧ i = .int .i64 j ∧ Hid ((xs.take j).all (fun p => wordOk xs.length p && decide (p.size ≤ 8)) = true)) (fun i => xs.length - (intOf i).toNat)
  case atStart => exact ⟨0, Nat.zero_le _, rfl, by simp [Hid]⟩
  case round =>
    obtain ⟨j, hj, rfl, HA⟩ := hrel
    by_cases hlt : j < xs.length
    · have hg := strs_get xs j hlt
      obtain ⟨b, o, rfl, hbl, hc⟩ := hrk (by intro e; rw [e] at hg; cases hg)
      have hzj := Hz.out xs[j] (List.getElem_mem hlt)
      obtain ⟨v, hv⟩ : ∃ v, v = xs[j] := ⟨_, rfl⟩
      rw [← hv] at hg hzj
      have c1 := hc j _ hg
      have Hv := Lib.hid hv
      clear hv
      clear hc hrk hg
      go_wp2_with fail
      refine (specWord_any _ v _ (by omega)).mono ?_
      rintro e w' ⟨rfl, rfl⟩
      obtain ⟨r, hrr⟩ : ∃ r', r' = (wordOk xs.length v) := ⟨_, rfl⟩
      rw [← hrr]
      have HR := Lib.hid hrr
      clear hrr
      cases r
      · go_wp2_with fail
        go_ret
        refine ⟨ret_bool ?_, hW⟩
        have hall : xs.all (fun p => wordOk xs.length p && decide (p.size ≤ 8)) = false := by
          rw [List.all_eq_false]
          exact ⟨xs[j], List.getElem_mem hlt, by rw [← Hv.out, ← HR.out]; simp⟩
        rw [tagOk, hall, Bool.and_false]
      · by_cases h8 : v.size ≤ 8
        · go_wp2_with fail
          go_round
          case rel => exact ⟨j + 1, by omega, by go_num, by unfold Hid; rw [List.take_succ_eq_append_getElem hlt, List.all_append, HA.out, List.all_cons, ← Hv.out, ← HR.out, decide_eq_true h8]; rfl⟩
          case measure => simp [intOf]; omega
        · go_wp2_with fail
          go_ret
          refine ⟨ret_bool ?_, hW⟩
          have hall : xs.all (fun p => wordOk xs.length p && decide (p.size ≤ 8)) = false := by
            rw [List.all_eq_false]
            exact ⟨xs[j], List.getElem_mem hlt, by rw [← Hv.out, decide_eq_false h8]; simp⟩
          rw [tagOk, hall, Bool.and_false]
    · have : j = xs.length := by omega
      subst this
      have hall : xs.all (fun p => wordOk xs.length p && decide (p.size ≤ 8)) = true := by have := HA.out; rwa [List.take_length] at this
      have Hall := Lib.hid hall
      clear hall
      go_wp2_with fail
      go_ret
      exact ⟨ret_bool (by rw [tagOk, Hall.out, ← H1.out, ← H2.out]; rfl), hW⟩

set_option maxRecDepth 100000 in
set_option maxHeartbeats 1000000 in
theorem tagOk1_any (l : Int) (A : Option Addr) (n c b : Nat) (x : ByteArray) (w : World) (hx : x.size ≤ 1048576)
    (p1 : w.cell? ⟨b, 1, none⟩ = some (.slice A n c)) (_ : w.cell? ⟨b, 0, none⟩ = some (.int .i64 l)) (_ : b < w.heap.size) :
    Calls Tryd.prog 69 (#[evString x] ++ #[.pointer (some ⟨b, 0, none⟩)]) w (Kept w (.bool (!(wordOk n x && decide (x.size ≤ 8))))) := by
  show Calls Tryd.prog 69 #[.string x, .pointer (some ⟨b, 0, none⟩)] w _
  by_cases h8 : x.size ≤ 8
  · skip
    go_enter Tryd.func69, Tryd.ntmps69
    go_wp2_with fail
    refine (implWord_any n x _ (by omega)).mono ?_
    rintro e w' ⟨rfl, rfl⟩
    obtain ⟨r, hrr⟩ : ∃ r', r' = (wordOk n x) := ⟨_, rfl⟩
    rw [← hrr]
    have HR := Lib.hid hrr
    clear hrr
    go_wp2_with fail
    go_ret
    exact ⟨ret_bool (by rw [HR.out, decide_eq_true h8, Bool.and_true, show decide ((8 : Int) < (x.size : Int)) = false from by simp; omega, Bool.false_or]), Below.refl _ _⟩
  · skip
    go_enter Tryd.func69, Tryd.ntmps69
    go_wp2_with fail
    go_ret
    exact ⟨ret_bool (by first | rfl | (rw [decide_eq_false h8, Bool.and_false]; rfl)), Below.refl _ _⟩

set_option maxRecDepth 100000 in
set_option maxHeartbeats 1000000 in
theorem implTagOk_any (l : Int) (A : Option Addr) (n c : Nat) (xs : List ByteArray) (w : World) (hr : Rd w A (strs xs)) (hn : n = xs.length) (hb : n ≤ 1048576) (hz : ∀ x ∈ xs, x.size ≤ 1048576) :
    Calls Tryd.prog 44 #[.agg #[.int .i64 l, .slice A n c]] w (Kept w (.bool (tagOk l xs))) := by
  have hmf : ∀ (fn : Fn) (first cap : Array Value) (w : World), (Instr.makeFunc fn first cap).run Tryd.prog w = .ok (.func fn first cap) w := fun _ _ _ _ => rfl
  have eg := enters_of Tryd.func69 (by kernel_rfl) rfl
  have hW : Below w.heap.size w (w.alloc (.cells #[.int .i64 l, .slice A n c] 42)) := (Below.refl _ _).alloc (Nat.le_refl _) _
  have hrk := hr.keep hW
  have hB := Bk.new w 42 #[.int .i64 l, .slice A n c]
  clear hr
  have Hz := Lib.hid hz
  clear hz
  have Hn := Lib.hid hn
  clear hn
  have HB := Lib.hid hB
  clear hB
  go_enter Tryd.func44, Tryd.ntmps44
  go_wp2_with fail
  go_wp2_with fail
  refine (within_any l 1 4 _).mono ?_
  rintro e w' ⟨rfl, rfl⟩
  obtain ⟨r1, hrr⟩ : ∃ r', r' = (inB l 1 4) := ⟨_, rfl⟩
  rw [← hrr]
  have H1 := Lib.hid hrr
  clear hrr
  cases r1
  · go_wp2_with fail
    go_ret
    exact ⟨ret_bool (by rw [tagOk, ← H1.out]; rfl), hW⟩
  go_wp2_with fail
  refine (within_any _ 1 4 _).mono ?_
  rintro e w' ⟨rfl, rfl⟩
  obtain ⟨r2, hrr⟩ : ∃ r', r' = (inB n 1 4) := ⟨_, rfl⟩
  rw [← hrr]
  have H2 := Lib.hid hrr
  clear hrr
  cases r2
  · go_wp2_with fail
    go_ret
    exact ⟨ret_bool (by rw [tagOk, ← Hn.out, ← H1.out, ← H2.out]; rfl), hW⟩
  go_wp2_with fail
  refine (containsFunc_String A n c xs _ #[.pointer (some ⟨w.heap.size, 0, none⟩)] (fun p => !(wordOk n p && decide (p.size ≤ 8))) _ eg hrk Hn.out (by omega) (fun W x hx hS => tagOk1_any l A n c w.heap.size x W (Hz.out x hx) ?_ ?_ ?_)).mono ?_
  · exact (hS.cell (p := ⟨w.heap.size, 1, none⟩) HB.out.lt).trans (by rw [HB.out.cell]; rfl)
  · exact (hS.cell (p := ⟨w.heap.size, 0, none⟩) HB.out.lt).trans (by rw [HB.out.cell]; rfl)
  · exact Nat.lt_of_lt_of_le HB.out.lt hS.size
  rintro e w1 ⟨rfl, b1⟩
  obtain ⟨r, hrr⟩ : ∃ r', r' = (xs.any (fun p => !(wordOk n p && decide (p.size ≤ 8)))) := ⟨_, rfl⟩
  rw [← hrr]
  have HR := Lib.hid hrr
  clear hrr
  go_wp2_with fail
  go_ret
  exact ⟨ret_bool (by rw [tagOk, ← Hn.out, ← H1.out, ← H2.out, HR.out, tag_any_not xs (fun p => wordOk n p && decide (p.size ≤ 8))]; rfl), hW.trans (b1.mono hW.size)⟩

end Go.Proofs.YtgceabbeeobmgaaDoor
