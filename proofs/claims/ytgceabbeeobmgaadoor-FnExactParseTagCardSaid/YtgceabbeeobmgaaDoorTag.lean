/- Walks over the laws' helpers for impl.Tag: toTag, szTag, eqTag, markTag, heldTag. -/


import Derived.Test.YtgceabbeeobmgaaDoorStr
import Derived.Test.YtgceabbeeobmgaaDoorApp2
namespace Go.Proofs.YtgceabbeeobmgaaDoor

open Go.RowKit Go.Shelf

set_option maxRecDepth 100000 in
set_option maxHeartbeats 1000000 in
theorem eqTag_k (l : Int) (A : Option Addr) (n c : Nat) (xs : List ByteArray) (k : Int) (B : Option Addr) (m d : Nat) (ys : List ByteArray) (w : World) (hx : Rd w A (strs xs)) (hn : n = xs.length) (hb : n ≤ 9223372036854775807) (hy : Rd w B (strs ys)) (hm : m = ys.length) (hbm : m ≤ 9223372036854775807) :
    Calls Tryd.prog 21 #[.agg #[.int .i64 l, .slice A n c], .agg #[.int .i64 k, .slice B m d]] w (Kept w (.bool (decide (l = k) && decide (xs = ys)))) := by
  have e0 : (l == k) = decide (l = k) := rfl
  have i0 : (l != k) = !decide (l = k) := rfl
  generalize decide (l = k) = b0 at *
  have hW0 : Below w.heap.size w ((w.alloc (.cells #[.int .i64 l, .slice A n c] 42)).alloc (.cells #[.int .i64 k, .slice B m d] 42)) := ((Below.refl _ _).alloc (Nat.le_refl _) _).alloc (by simp) _
  have Hn := Lib.hid hn
  clear hn
  have Hm := Lib.hid hm
  clear hm
  go_enter Tryd.func21, Tryd.ntmps21
  cases b0
  · go_wp2
    go_ret
    exact ⟨rfl, hW0⟩
  · go_wp2_with fail
    refine (eqStringS_k A n c xs B m d ys _ (hx.keep hW0) Hn.out hb (hy.keep hW0) Hm.out hbm).mono ?_
    rintro e w1 ⟨rfl, b1⟩
    have t1 := hW0.trans (b1.mono hW0.size)
    obtain ⟨r, hrr⟩ : ∃ r', r' = (decide (xs = ys)) := ⟨_, rfl⟩
    rw [← hrr]
    have HR := Lib.hid hrr
    clear hrr
    cases r
    · go_wp2_with fail
      go_ret
      exact ⟨ret_bool (by rw [← HR.out]; rfl), t1⟩
    · go_wp2_with fail
      go_ret
      exact ⟨ret_bool (by rw [← HR.out]; rfl), t1⟩

set_option maxRecDepth 100000 in
set_option maxHeartbeats 1000000 in
theorem markTag_any (l : Int) (A : Option Addr) (n c : Nat) (zs : List Value) (k : Int) (base : Nat) (w : World) (ho : w.ownsRow base 9 1 (.slice A n c) n zs) (h0 : 0 ≤ k) (hk : k + n ≤ 4611686018427387904) :
    Calls Tryd.prog 24 #[.agg #[.int .i64 l, .slice A n c], .int .i64 k] w (Marks w base 9 1 A n c k (mkS k)) := by
  go_enter Tryd.func24, Tryd.ntmps24
  go_wp2_with fail
  refine (markStringS_any A n c zs k base _ (ho.alloc _) h0 hk).mono ?_
  rintro e w1 ⟨rfl, o1, g1⟩
  have hg := grown_trans (World.grownBy_alloc w (.cells #[.int .i64 l, .slice A n c] 42) (Value.slice A n c).ownBlock) g1
  go_wp2_with fail
  go_ret
  exact ⟨ret_int (by simp), o1, hg⟩

set_option maxRecDepth 100000 in
set_option maxHeartbeats 1000000 in
theorem heldTag_k (l : Int) (A : Option Addr) (n c : Nat) (k : Int) (w : World) (hr : Rd w A ((List.range (n * 1)).map (mkS k))) (h0 : 0 ≤ k) (hk : k + n ≤ 4611686018427387904) :
    Calls Tryd.prog 25 #[.agg #[.int .i64 l, .slice A n c], .int .i64 k] w (Kept w (.int .i64 (k + (n * 1 : Nat)))) := by
  have hW0 : Below w.heap.size w (w.alloc (.cells #[.int .i64 l, .slice A n c] 42)) := (Below.refl _ _).alloc (Nat.le_refl _) _
  go_enter Tryd.func25, Tryd.ntmps25
  go_wp2_with fail
  refine (heldStringS_k A n c k _ (hr.keep hW0) h0 hk).mono ?_
  rintro e w1 ⟨rfl, b1⟩
  have t1 := hW0.trans (b1.mono hW0.size)
  have hnn : (0 : Int) ≤ k + (n * 1 : Nat) := by omega
  go_wp2_with fail
  go_ret
  exact ⟨ret_int (by simp), t1⟩

end Go.Proofs.YtgceabbeeobmgaaDoor
