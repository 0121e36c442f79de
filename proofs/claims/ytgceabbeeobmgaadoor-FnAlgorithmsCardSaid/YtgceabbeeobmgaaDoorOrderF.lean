/- Walks over slices.IndexFunc and slices.ContainsFunc at []impl.Order,impl.Order: over any function value that keeps what was there. -/

import Derived.Test.YtgceabbeeobmgaaDoorOrder
namespace Go.Proofs.YtgceabbeeobmgaaDoor

open Go.RowKit Go.Shelf

def evOrder (x : OrderT) : Value := .agg #[.string x.1, .string x.2.1, .bool x.2.2]
set_option maxRecDepth 100000 in
set_option maxHeartbeats 1000000 in
theorem indexFunc_Order (A : Option Addr) (n c : Nat) (xs : List OrderT) (g : FuncId) (lb : Array Value) (p : OrderT → Bool) (w : World) (eg : ∀ args w, (callFunc g args).run Tryd.prog w = .ok (.enter g args) w) (hr : Rd w A (cellsOrder xs)) (hn : n = xs.length) (hb : n ≤ 9223372036854775807)
    (hf : ∀ (W : World) (x : OrderT), x ∈ xs → Below w.heap.size w W → Calls Tryd.prog g (#[evOrder x] ++ lb) W (Kept W (.bool (p x)))) :
    Calls Tryd.prog 63 #[.slice A n c, .func (.func g) #[] lb] w (Kept w (.int .i64 (idxI p xs))) := by
  subst hn
  go_enter Tryd.func63, Tryd.ntmps63
  have Hf := Lib.hid hf
  clear hf
  go_wp2_with fail
  go_loopw [8] (fun i wr => ∃ (j : Nat), j ≤ xs.length ∧ i = .int .i64 j ∧ Hid ((xs.take j).all (fun x => !p x) = true) ∧ Below w.heap.size w wr) (fun i _ => xs.length - (intOf i).toNat)
  case atStart => exact ⟨0, Nat.zero_le _, rfl, by simp [Hid], Below.refl _ _⟩
  case round =>
    obtain ⟨j, hj, rfl, HA, hW⟩ := hrel
    by_cases hlt : j < xs.length
    · skip
      obtain ⟨b, o, rfl, hbl, p0, p1, p2⟩ := rd_Order (hr.keep hW) hlt
      obtain ⟨⟨v0, v1, v2⟩, hv⟩ : ∃ v, v = xs[j] := ⟨_, rfl⟩
      rw [← hv] at p0 p1 p2
      have Hv := Lib.hid hv
      clear hv
      clear hr
      go_wp2_with fail
      refine (Hf.out _ (v0, v1, v2) (by rw [Hv.out]; exact List.getElem_mem hlt) hW).mono ?_
      rintro e w' ⟨rfl, hW2⟩
      have hW3 := hW.trans (hW2.mono hW.size)
      obtain ⟨r, hrr⟩ : ∃ r', r' = (p (v0, v1, v2)) := ⟨_, rfl⟩
      rw [← hrr]
      have HR := Lib.hid hrr
      clear hrr
      clear hW2
      cases r
      · go_wp2_with fail
        go_roundw
        case rel => exact ⟨j + 1, by omega, by go_num, by unfold Hid; rw [List.take_succ_eq_append_getElem hlt, List.all_append, HA.out]; simp [← Hv.out, ← HR.out], hW3⟩
        case measure => simp [intOf]; omega
      · go_wp2_with fail
        go_ret
        exact ⟨ret_int (by rw [idx_hit hlt HA.out (by rw [← Hv.out, ← HR.out])]), hW3⟩
    · have : j = xs.length := by omega
      subst this
      go_wp2_with fail
      go_ret
      exact ⟨ret_int (by rw [idx_miss (by simpa using HA.out)]), hW⟩

set_option maxRecDepth 100000 in
set_option maxHeartbeats 400000 in
theorem containsFunc_Order (A : Option Addr) (n c : Nat) (xs : List OrderT) (g : FuncId) (lb : Array Value) (p : OrderT → Bool) (w : World) (eg : ∀ args w, (callFunc g args).run Tryd.prog w = .ok (.enter g args) w) (hr : Rd w A (cellsOrder xs)) (hn : n = xs.length) (hb : n ≤ 9223372036854775807)
    (hf : ∀ (W : World) (x : OrderT), x ∈ xs → Below w.heap.size w W → Calls Tryd.prog g (#[evOrder x] ++ lb) W (Kept W (.bool (p x)))) :
    Calls Tryd.prog 36 #[.slice A n c, .func (.func g) #[] lb] w (Kept w (.bool (xs.any p))) := by
  go_enter Tryd.func36, Tryd.ntmps36
  have Hf := Lib.hid hf
  clear hf
  have Hn := Lib.hid hn
  clear hn
  go_wp2_with fail
  refine (indexFunc_Order A n c xs g lb p w eg hr Hn.out hb Hf.out).mono ?_
  rintro e w' ⟨rfl, hW⟩
  obtain ⟨r, hrr⟩ : ∃ r', r' = (idxI p xs) := ⟨_, rfl⟩
  rw [← hrr]
  have HR := Lib.hid hrr
  clear hrr
  go_wp2
  go_ret
  exact ⟨ret_bool (by rw [HR.out]; exact findIdx_bool p xs), hW⟩

end Go.Proofs.YtgceabbeeobmgaaDoor
