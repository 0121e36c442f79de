/- Walks over slices.IndexFunc and slices.ContainsFunc at []impl.Rule,impl.Rule: over any function value that keeps what was there. -/
import Derived.Test.YtnlagiopmkjmlaaRule
namespace Go.Proofs.Ytnlagiopmkjmlaa
open Go.RowKit Go.Shelf

def evRule (x : RuleT) : Value := .agg #[.string x.1, .string x.2]
set_option maxRecDepth 100000 in
set_option maxHeartbeats 1000000 in
theorem indexFunc_Rule (A : Option Addr) (n c : Nat) (xs : List RuleT) (g : FuncId) (lb : Array Value) (p : RuleT → Bool) (w : World) (eg : ∀ args w, (callFunc g args).run Try.prog w = .ok (.enter g args) w) (hr : Rd w A (cellsRule xs)) (hn : n = xs.length) (hb : n ≤ 9223372036854775807)
    (hf : ∀ (W : World) (x : RuleT), x ∈ xs → Below w.heap.size w W → Calls Try.prog g (#[evRule x] ++ lb) W (Kept W (.bool (p x)))) :
    Calls Try.prog 150 #[.slice A n c, .func (.func g) #[] lb] w (Kept w (.int .i64 (idxI p xs))) := by
  subst hn
  go_enter Try.func150, Try.ntmps150
  have Hf := Lib.hid hf
  clear hf
  go_wp2_with fail
  go_loopw [8] (fun i wr => ∃ (j : Nat), j ≤ xs.length ∧ i = .int .i64 j ∧ Hid ((xs.take j).all (fun x => !p x) = true) ∧ Below w.heap.size w wr) (fun i _ => xs.length - (intOf i).toNat)
  case atStart => exact ⟨0, Nat.zero_le _, rfl, by simp [Hid], Below.refl _ _⟩
  case round =>
    obtain ⟨j, hj, rfl, HA, hW⟩ := hrel
    by_cases hlt : j < xs.length
    · skip
      obtain ⟨b, o, rfl, hbl, p0, p1⟩ := rd_Rule (hr.keep hW) hlt
      obtain ⟨⟨v0, v1⟩, hv⟩ : ∃ v, v = xs[j] := ⟨_, rfl⟩
      rw [← hv] at p0 p1
      have Hv := Lib.hid hv
      clear hv
      clear hr
      go_wp2_with fail
      refine (Hf.out _ (v0, v1) (by rw [Hv.out]; exact List.getElem_mem hlt) hW).mono ?_
      rintro e w' ⟨rfl, hW2⟩
      have hW3 := hW.trans (hW2.mono hW.size)
      obtain ⟨r, hrr⟩ : ∃ r', r' = (p (v0, v1)) := ⟨_, rfl⟩
      rw [← hrr]
      have HR := Lib.hid hrr
      clear hrr
      clear hW2
      cases r
      · go_wp2_with fail
        go_roundw
        case rel => exact ⟨j + 1, by omega, by go_num, by unfold Hid; rw [List.take_succ_eq_append_getElem hlt, List.all_append, HA.out]; simp [← Hv.out, ← HR.out], hW3⟩
        case measure => simp [intOf]; omega
      · go_wp2_with fail
        go_ret
        exact ⟨ret_int (by rw [idx_hit hlt HA.out (by rw [← Hv.out, ← HR.out])]), hW3⟩
    · have : j = xs.length := by omega
      subst this
      go_wp2_with fail
      go_ret
      exact ⟨ret_int (by rw [idx_miss (by simpa using HA.out)]), hW⟩

set_option maxRecDepth 100000 in
set_option maxHeartbeats 400000 in
theorem containsFunc_Rule (A : Option Addr) (n c : Nat) (xs : List RuleT) (g : FuncId) (lb : Array Value) (p : RuleT → Bool) (w : World) (eg : ∀ args w, (callFunc g args).run Try.prog w = .ok (.enter g args) w) (hr : Rd w A (cellsRule xs)) (hn : n = xs.length) (hb : n ≤ 9223372036854775807)
    (hf : ∀ (W : World) (x : RuleT), x ∈ xs → Below w.heap.size w W → Calls Try.prog g (#[evRule x] ++ lb) W (Kept W (.bool (p x)))) :
    Calls Try.prog 126 #[.slice A n c, .func (.func g) #[] lb] w (Kept w (.bool (xs.any p))) := by
  go_enter Try.func126, Try.ntmps126
  have Hf := Lib.hid hf
  clear hf
  have Hn := Lib.hid hn
  clear hn
  go_wp2_with fail
  refine (indexFunc_Rule A n c xs g lb p w eg hr Hn.out hb Hf.out).mono ?_
  rintro e w' ⟨rfl, hW⟩
  obtain ⟨r, hrr⟩ : ∃ r', r' = (idxI p xs) := ⟨_, rfl⟩
  rw [← hrr]
  have HR := Lib.hid hrr
  clear hrr
  go_wp2
  go_ret
  exact ⟨ret_bool (by rw [HR.out]; exact findIdx_bool p xs), hW⟩

end Go.Proofs.Ytnlagiopmkjmlaa
