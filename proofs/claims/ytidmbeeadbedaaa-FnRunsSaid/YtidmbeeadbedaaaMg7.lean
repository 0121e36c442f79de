/- Merged texts: a claim has a limit of files. -/
import Derived.Test.YtidmbeeadbedaaaNormP
import Derived.Test.YtidmbeeadbedaaaMg5
import Derived.Deep.RegionHeld3
import Derived.Test.YtidmbeeadbedaaaFirst
import Derived.Test.YtidmbeeadbedaaaMg6

/- Walks over ApplyStep, FirstStep of the reference and apply of the program. -/
namespace Go.Proofs.Ytidmbeeadbedaaa
open Go.RowKit Go.Shelf

set_option maxRecDepth 100000 in
set_option maxHeartbeats 2000000 in
theorem implApply_any (l : Int) (A : Option Addr) (n c : Nat) (rs : List RuleT) (s : ByteArray) (x0 x1 : Int) (K : Nat) (w : World) (hr : Rd w A (cellsRule rs)) (hn : n = rs.length) (hb : n ≤ 1048576) (hz : ∀ x ∈ rs, x.1.size ≤ 1048576 ∧ x.2.size ≤ 1048576) (hs : s.size ≤ 1048576) (hx : x0 = (K : Int)) (hK : K < rs.length) :
    Calls Try.prog 92 #[.agg #[.int .i64 l, .slice A n c], .string s, .agg #[.int .i64 x0, .int .i64 x1]] w (Kept w (.tuple #[.string (applyS rs s (x0, x1)), .bool (applyOk rs s (x0, x1))])) := by
  subst hx
  have hW0 : Below w.heap.size w ((w.alloc (.cells #[.int .i64 l, .slice A n c] 25)).alloc (.cells #[.int .i64 (K : Int), .int .i64 x1] 61)) := ((Below.refl _ _).alloc (Nat.le_refl _) _).alloc (by simp) _
  have hKn : K < n := by rw [hn]; exact hK
  obtain ⟨b2, o2, rfl, hbl2, r0, r1⟩ := rd_Rule (hr.keep hW0) hK
  have hzz := hz _ (List.getElem_mem hK)
  obtain ⟨⟨v0, v1⟩, hv⟩ : ∃ v, v = rs[K] := ⟨_, rfl⟩
  rw [← hv] at r0 r1 hzz
  dsimp only at r0 r1 hzz
  obtain ⟨z0, z1⟩ := hzz
  have hA_ : ruleAt rs K = (v0, v1) := by rw [ruleAt_get hK, hv]
  have e3 : applyS rs s ((K : Int), x1) = replS s x1 (v0.size : Int) v1 := by rw [applyS, Int.toNat_natCast, hA_]
  have e4 : applyOk rs s ((K : Int), x1) = replOk s x1 (v0.size : Int) v1 := by rw [applyOk, Int.toNat_natCast, hA_]
  clear hr
  have Hv := Lib.hid hv
  clear hv
  have HA_ := Lib.hid hA_
  clear hA_
  have E3 := Lib.hid e3
  clear e3
  have E4 := Lib.hid e4
  clear e4
  have Hn := Lib.hid hn
  clear hn
  have Hz := Lib.hid hz
  clear hz
  go_enter Try.func92, Try.ntmps92
  go_wp2_with fail
  refine (implReplace_any s x1 (v0.size : Int) v1 _ hs (by omega)).mono ?_
  rintro e w3 ⟨rfl, b3⟩
  obtain ⟨a, ha⟩ : ∃ a, a = replS s x1 (v0.size : Int) v1 := ⟨_, rfl⟩
  obtain ⟨g, hg⟩ : ∃ g, g = replOk s x1 (v0.size : Int) v1 := ⟨_, rfl⟩
  rw [← ha, ← hg]
  have Ha := Lib.hid ha
  clear ha
  have Hg := Lib.hid hg
  clear hg
  go_wp2_with fail
  go_ret2
  have hWb := (hW0.alloc hW0.size (.cells #[.string v0, .string v1] 156))
  exact ⟨by rw [E3.out, E4.out, Ha.out, Hg.out]; rfl, hWb.trans (b3.mono hWb.size)⟩

end Go.Proofs.Ytidmbeeadbedaaa

/- Walks over IsReduced (the program's and the reference's): each returns what isReduced says, for all arguments. -/
namespace Go.Proofs.Ytidmbeeadbedaaa
open Go.RowKit Go.Shelf

theorem sys_rules {l : Int} {rs : List RuleT} (h : systemOk l rs = true) : rulesOk l rs = true := by
  unfold systemOk at h
  simp only [Bool.and_eq_true] at h
  exact h.1
end Go.Proofs.Ytidmbeeadbedaaa
