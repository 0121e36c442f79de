/- Walks over the laws' helpers for impl.System: toSystem, szSystem, eqSystem, markSystem, heldSystem. -/



import Derived.Test.YtgceabbeeobmgaaRule
import Derived.Test.YtgceabbeeobmgaaApp2
namespace Go.Proofs.Ytgceabbeeobmgaa

open Go.RowKit Go.Shelf

set_option maxRecDepth 100000 in
set_option maxHeartbeats 1000000 in
theorem eqSystem_k (l : Int) (A : Option Addr) (n c : Nat) (xs : List RuleT) (k : Int) (B : Option Addr) (m d : Nat) (ys : List RuleT) (w : World) (hx : Rd w A (cellsRule xs)) (hn : n = xs.length) (hb : n ≤ 9223372036854775807) (hy : Rd w B (cellsRule ys)) (hm : m = ys.length) (hbm : m ≤ 9223372036854775807) :
    Calls Try.prog 6 #[.agg #[.int .i64 l, .slice A n c], .agg #[.int .i64 k, .slice B m d]] w (Kept w (.bool (decide (l = k) && decide (xs = ys)))) := by
  have e0 : (l == k) = decide (l = k) := rfl
  have i0 : (l != k) = !decide (l = k) := rfl
  generalize decide (l = k) = b0 at *
  have hW0 : Below w.heap.size w ((w.alloc (.cells #[.int .i64 l, .slice A n c] 24)).alloc (.cells #[.int .i64 k, .slice B m d] 24)) := ((Below.refl _ _).alloc (Nat.le_refl _) _).alloc (by simp) _
  have Hn := Lib.hid hn
  clear hn
  have Hm := Lib.hid hm
  clear hm
  go_enter Try.func6, Try.ntmps6
  cases b0
  · go_wp2
    go_ret
    exact ⟨rfl, hW0⟩
  · go_wp2_with fail
    refine (eqRuleS_k A n c xs B m d ys _ (hx.keep hW0) Hn.out hb (hy.keep hW0) Hm.out hbm).mono ?_
    rintro e w1 ⟨rfl, b1⟩
    have t1 := hW0.trans (b1.mono hW0.size)
    obtain ⟨r, hrr⟩ : ∃ r', r' = (decide (xs = ys)) := ⟨_, rfl⟩
    rw [← hrr]
    have HR := Lib.hid hrr
    clear hrr
    cases r
    · go_wp2_with fail
      go_ret
      exact ⟨ret_bool (by rw [← HR.out]; rfl), t1⟩
    · go_wp2_with fail
      go_ret
      exact ⟨ret_bool (by rw [← HR.out]; rfl), t1⟩

set_option maxRecDepth 100000 in
set_option maxHeartbeats 1000000 in
theorem markSystem_any (l : Int) (A : Option Addr) (n c : Nat) (zs : List Value) (k : Int) (base : Nat) (w : World) (ho : w.ownsRow base 34 2 (.slice A n c) n zs) (h0 : 0 ≤ k) (hk : k + n * 2 ≤ 4611686018427387904) :
    Calls Try.prog 7 #[.agg #[.int .i64 l, .slice A n c], .int .i64 k] w (Marks w base 34 2 A n c k (mkRule k)) := by
  go_enter Try.func7, Try.ntmps7
  go_wp2_with fail
  refine (markRuleS_any A n c zs k base _ (ho.alloc _) h0 hk).mono ?_
  rintro e w1 ⟨rfl, o1, g1⟩
  have hg := grown_trans (World.grownBy_alloc w (.cells #[.int .i64 l, .slice A n c] 24) (Value.slice A n c).ownBlock) g1
  go_wp2_with fail
  go_ret
  exact ⟨ret_int (by simp), o1, hg⟩

set_option maxRecDepth 100000 in
set_option maxHeartbeats 1000000 in
theorem heldSystem_k (l : Int) (A : Option Addr) (n c : Nat) (k : Int) (w : World) (hr : Rd w A ((List.range (n * 2)).map (mkRule k))) (h0 : 0 ≤ k) (hk : k + n * 2 ≤ 4611686018427387904) :
    Calls Try.prog 8 #[.agg #[.int .i64 l, .slice A n c], .int .i64 k] w (Kept w (.int .i64 (k + (n * 2 : Nat)))) := by
  have hW0 : Below w.heap.size w (w.alloc (.cells #[.int .i64 l, .slice A n c] 24)) := (Below.refl _ _).alloc (Nat.le_refl _) _
  go_enter Try.func8, Try.ntmps8
  go_wp2_with fail
  refine (heldRuleS_k A n c k _ (hr.keep hW0) h0 hk).mono ?_
  rintro e w1 ⟨rfl, b1⟩
  have t1 := hW0.trans (b1.mono hW0.size)
  have hnn : (0 : Int) ≤ k + (n * 2 : Nat) := by omega
  go_wp2_with fail
  go_ret
  exact ⟨ret_int (by simp), t1⟩

end Go.Proofs.Ytgceabbeeobmgaa
