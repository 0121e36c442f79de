/- Walks over FormatInt and ParseInt of the program, by the shelf's contracts of Itoa and Atoi. -/




import Derived.Test.YtgceabbeeobmgaaDoorPiP
import Derived.Test.YtgceabbeeobmgaaDoorPiS
import Derived.Test.YtgceabbeeobmgaaDoorShelfP
import Derived.Lib.AtoiErrMem
namespace Go.Proofs.YtgceabbeeobmgaaDoor

open Go.RowKit Go.Shelf Go.Sort

theorem var_keep {P : Program} {w w' : World} {n : String} {cs : Array Value} (h : w.var? P n = some cs) (hb : Below w.heap.size w w') : w'.var? P n = some cs := by
  unfold World.var? at h ⊢
  cases hg : P.globalNamed n with
  | none => rw [hg] at h; cases h
  | some g =>
    rw [hg] at h
    simp only [Option.bind_some] at h ⊢
    have hlt : g < w.heap.size := by
      rcases Nat.lt_or_ge g w.heap.size with h1 | h1
      · exact h1
      · rw [Array.getElem?_eq_none h1] at h; cases h
    rw [hb.block g hlt]
    exact h
/-- What the library's variables hold that the walk reads. -/
def LaidW (w : World) : Prop := (∃ m, w.cell? ⟨0, 0, none⟩ = some (.int .i64 m)) ∧ (∃ tp p, w.var? Tryd.prog "strconv.ErrSyntax" = some #[.iface tp p]) ∧ (∃ tp p, w.var? Tryd.prog "strconv.ErrRange" = some #[.iface tp p]) ∧ Lib.TabIs Tryd.prog w "internal/strconv.uint64pow10" .u64 Lib.pow10Tab
theorem LaidW.keep {w w' : World} (h : LaidW w) (hb : Below w.heap.size w w') : LaidW w' := by
  obtain ⟨⟨m, h0⟩, ⟨a, b, h1⟩, ⟨c, d, h2⟩, h3⟩ := h
  exact ⟨⟨m, (hb.cell (p := ⟨0, 0, none⟩) (World.block_lt_of_cell? w _ h0)).trans h0⟩, ⟨a, b, var_keep h1 hb⟩, ⟨c, d, var_keep h2 hb⟩, var_keep h3 hb⟩
theorem below_grow (w : World) (k : Nat) (os : Array Obj) : Below w.heap.size w (grow (w.drewN k) os) :=
  ⟨rfl, rfl, rfl, by simp [grow], fun j hj => by rw [heap_grow_old _ _ (by simpa using hj)]; rfl⟩

theorem itoa_dig {k : Int} (h1 : 1 ≤ k) (h4 : k ≤ 4) : (⟨(Lib.itoa k).toArray⟩ : ByteArray) = dig k := by
  have : k = 1 ∨ k = 2 ∨ k = 3 ∨ k = 4 := by omega
  rcases this with rfl | rfl | rfl | rfl
  · rw [show Lib.itoa 1 = [49] by decide +kernel]; rfl
  · rw [show Lib.itoa 2 = [50] by decide +kernel]; rfl
  · rw [show Lib.itoa 3 = [51] by decide +kernel]; rfl
  · rw [show Lib.itoa 4 = [52] by decide +kernel]; rfl
theorem atoi_dig {k : Int} (h1 : 1 ≤ k) (h4 : k ≤ 4) : Lib.atoiAll (dig k).data.toList = .ok k := by
  have : k = 1 ∨ k = 2 ∨ k = 3 ∨ k = 4 := by omega
  rcases this with rfl | rfl | rfl | rfl
  · show Lib.atoiAll [49] = .ok 1
    rfl
  · show Lib.atoiAll [50] = .ok 2
    rfl
  · show Lib.atoiAll [51] = .ok 3
    rfl
  · show Lib.atoiAll [52] = .ok 4
    rfl

set_option maxRecDepth 100000 in
set_option maxHeartbeats 1000000 in
theorem implFmt_any (x : Int) (w : World) (h0 : -9223372036854775808 ≤ x) (h1 : x ≤ 9223372036854775807) (hL : LaidW w) : Calls Tryd.prog 45 #[.int .i64 x] w (Kept w (.string ⟨(Lib.itoa x).toArray⟩)) := by
  have hc := Tryd.strconv_Itoa x h0 h1 w hL.2.2.2
  obtain ⟨r, hr⟩ : ∃ r : ByteArray, r = ⟨(Lib.itoa x).toArray⟩ := ⟨_, rfl⟩
  rw [← hr] at hc ⊢
  clear hL
  have Hc := Lib.hid hc
  clear hc
  have Hr := Lib.hid hr
  clear hr
  go_enter Tryd.func45, Tryd.ntmps45
  go_wp2_with fail
  refine Hc.out.mono ?_
  rintro e w1 ⟨rfl, k, os, rfl⟩
  have b1 := below_grow w k os
  have B1 := Lib.hid b1
  clear b1
  go_wp2_with fail
  go_ret
  exact ⟨rfl, B1.out⟩

set_option maxRecDepth 100000 in
set_option maxHeartbeats 4000000 in
theorem implParseInt_any (u : ByteArray) (w : World) (hs : u.size ≤ 1048576) (hL : LaidW w) : Calls Tryd.prog 52 #[.string u] w (PiMade u w) := by
  have hL2 := hL
  obtain ⟨-, ⟨t1, p1, hv1⟩, ⟨t2, p2, hv2⟩, htab⟩ := hL2
  cases hA : Lib.atoiAll u.data.toList with
  | ok v =>
    obtain ⟨bd1, bd2⟩ := Lib.atoiAll_bounds hA
    have hc : Calls Tryd.prog 74 #[.string u] w fun e w' => e = .returned (.tuple #[.int .i64 v, .nilIface]) ∧ Below w.heap.size w w' := (Tryd.strconv_Atoi_ok u (by omega) v hA w).mono fun e w' ⟨he, hw⟩ => ⟨he, by
      rcases hw with rfl | ⟨t, rfl⟩
      · exact Below.refl _ _
      · exact Lib.bytesWorld_below w _ t⟩
    have hk : ∀ k : Int, 1 ≤ k → k ≤ 4 → u = dig k → v = k := fun k h1 h4 e => by
      rw [e, atoi_dig h1 h4] at hA
      cases hA
      rfl
    obtain ⟨r, hr⟩ : ∃ r : ByteArray, r = ⟨(Lib.itoa v).toArray⟩ := ⟨_, rfl⟩
    have hF : ∀ W, Below w.heap.size w W → Calls Tryd.prog 45 #[.int .i64 v] W (Kept W (.string r)) := fun W hW => by rw [hr]; exact implFmt_any v W (by omega) (by omega) (hL.keep hW)
    clear hL hv1 hv2 htab hA
    have Hc := Lib.hid hc
    clear hc
    have Hk := Lib.hid hk
    clear hk
    have Hr := Lib.hid hr
    clear hr
    have HF := Lib.hid hF
    clear hF
    go_enter Tryd.func52, Tryd.ntmps52
    go_wp2_with fail
    refine Hc.out.mono ?_
    rintro e w1 ⟨rfl, b1⟩
    go_wp2_with fail
    refine (HF.out _ b1).mono ?_
    rintro e w2 ⟨rfl, b2⟩
    have hW2 := b1.trans (b2.mono b1.size)
    cases hru : (r.toList == u.toList)
    · have hf : PiOk u 0 false := pi_fail fun k h1 h4 e => by
        have h := Hk.out k h1 h4 e
        have h2 := Hr.out
        rw [h, itoa_dig h1 h4, ← e] at h2
        rw [h2] at hru
        simp at hru
      have Hf := Lib.hid hf
      clear hf
      have HW2 := Lib.hid hW2
      clear hW2
      go_wp2_with fail
      go_ret2
      exact ⟨0, false, rfl, Hf.out, by omega, by omega, HW2.out⟩
    · have hf : PiOk u v true := by
        refine ⟨fun _ h1 h4 => ?_, fun k h1 h4 e => ⟨Hk.out k h1 h4 e, rfl⟩, fun h => by cases h⟩
        rw [← beq_ba hru, Hr.out]
        exact itoa_dig h1 h4
      have Hf := Lib.hid hf
      clear hf
      have HW2 := Lib.hid hW2
      clear hW2
      go_wp2_with fail
      go_ret2
      exact ⟨v, true, rfl, Hf.out, by omega, by omega, HW2.out⟩
  | range =>
    have hf : PiOk u 0 false := pi_fail fun k h1 h4 e => by
      rw [e, atoi_dig h1 h4] at hA
      cases hA
    have hc := Tryd.strconv_Atoi_range_var u (by omega) hA t2 p2 w hv2
    clear hL hv1 hv2 htab
    have Hf := Lib.hid hf
    clear hf
    have Hc := Lib.hid hc
    clear hc
    go_enter Tryd.func52, Tryd.ntmps52
    go_wp2_with fail
    refine Hc.out.mono ?_
    rintro e w1 ⟨N, rfl, -, -, b1⟩
    go_wp2_with fail
    go_ret2
    exact ⟨0, false, rfl, Hf.out, by omega, by omega, b1⟩
  | _ =>
    have hf : PiOk u 0 false := pi_fail fun k h1 h4 e => by
      rw [e, atoi_dig h1 h4] at hA
      cases hA
    have hc := Any.strconv_Atoi_syntax_var Tryd.laysC172 u (by omega) hA t1 p1 w hv1
    clear hL hv1 hv2 htab
    have Hf := Lib.hid hf
    clear hf
    have Hc := Lib.hid hc
    clear hc
    go_enter Tryd.func52, Tryd.ntmps52
    go_wp2_with fail
    refine Hc.out.mono ?_
    rintro e w1 ⟨N, rfl, -, -, b1⟩
    go_wp2_with fail
    go_ret2
    exact ⟨0, false, rfl, Hf.out, by omega, by omega, b1⟩

end Go.Proofs.YtgceabbeeobmgaaDoor
