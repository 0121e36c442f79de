/- What the walk of FnSearch needs besides: distances are small, a cell of a row, and the law's own comparison of two lists of words. -/
import Derived.Test.YtidmbeeadbedaaaSeaP
import Derived.Test.YtidmbeeadbedaaaMg3
import Derived.Test.YtidmbeeadbedaaaChain
namespace Go.Proofs.Ytidmbeeadbedaaa
open Go.RowKit Go.Shelf

theorem dist_le {l : Int} {rs : List RuleT} {lim : Int} {u v : ByteArray} (hu : In15 l rs lim u) (hv : In15 l rs lim v) : distB l rs u v lim ≤ 131072 := by
  obtain ⟨hro, hg, hl, -⟩ := hu.out
  have hG := srAll_good (rs := rs) hro hl hg
  have hlen := srGood_len hG
  rw [dist_eq hu hv]
  cases hf : fnd (srWords (srAll rs u lim)) v with
  | none => simp
  | some i =>
    obtain ⟨k1, -⟩ := srWords_at (fnd_at hf)
    have := (hG.2.2 i k1).2
    dsimp only
    omega
theorem fw_le {l : Int} {rs : List RuleT} {lim : Int} {u : ByteArray} (hu : In15 l rs lim u) : fwF l rs u lim ≤ 131072 ∧ (fwS l rs u lim).size ≤ 16 := by
  obtain ⟨a, b, -⟩ := fw_in hu
  rw [← b]
  exact ⟨dist_le hu a, by have := (wordOk_out a.out.2.2.2.2.2.1).2.2.1; exact this⟩
theorem rd_get {w : World} {b off : Nat} {xs : List Value} (h : Rd w (some ⟨b, off, none⟩) xs) {j : Nat} {u : Value} (hu : xs[j]? = some u) : w.cell? ⟨b, off + j, none⟩ = some u := by
  obtain ⟨b', off', e, -, hc⟩ := h (by intro e; rw [e] at hu; cases hu)
  have e2 : b = b' ∧ off = off' := by
    injection e with e
    injection e with e1 e2
    exact ⟨e1, e2⟩
  obtain ⟨rfl, rfl⟩ := e2
  exact hc j u hu
theorem rd_some {w : World} {A : Option Addr} {xs : List Value} (h : Rd w A xs) (hx : 0 < xs.length) : ∃ b off, A = some ⟨b, off, none⟩ := by
  obtain ⟨b, off, e, -⟩ := h (by intro e; rw [e] at hx; exact absurd hx (Nat.not_lt_zero _))
  exact ⟨b, off, e⟩
theorem strs_at {ws : List ByteArray} {j : Nat} (h : j < ws.length) : (strs ws)[j]? = some (.string ws[j]) := by simp [strs, h]

set_option maxRecDepth 100000 in
set_option maxHeartbeats 2000000 in
theorem words_same (A B : Option Addr) (n c d : Nat) (ws : List ByteArray) (w : World) (hx : Rd w A (strs ws)) (hy : Rd w B (strs ws)) (hn : n = ws.length) (hb : n ≤ 1048576) :
    Calls Try.prog 27 #[.slice A n c, .slice B n d] w (fun e w' => e = .returned (.bool true) ∧ w' = w) := by
  have Hx := Lib.hid hx
  clear hx
  have Hy := Lib.hid hy
  clear hy
  have Hn := Lib.hid hn
  clear hn
  go_enter Try.func27, Try.ntmps27
  go_wp2_with fail
  go_loopw [14] (fun i wr => ∃ j : Nat, i = .int .i64 j ∧ j ≤ n ∧ wr = w) (fun i _ => n - (intOf i).toNat)
  case atStart => exact ⟨0, rfl, Nat.zero_le _, rfl⟩
  case round =>
    obtain ⟨j, rfl, hj, hwr⟩ := hrel
    have hwr2 := hwr.symm
    subst hwr2
    clear hwr
    by_cases hlt : j < n
    · have hlt2 : j < ws.length := by rw [← Hn.out]; exact hlt
      obtain ⟨b1, o1, rfl, -, p1⟩ := rd_Str Hx.out hlt2
      obtain ⟨b2, o2, rfl, -, p2⟩ := rd_Str Hy.out hlt2
      obtain ⟨x, hx2⟩ : ∃ x, x = ws[j] := ⟨_, rfl⟩
      rw [← hx2] at p1 p2
      clear hx2
      go_wp2_with fail
      go_roundw
      case rel => exact ⟨j + 1, by go_num, by omega, by trivial⟩
      case measure => simp [intOf] <;> omega
    · go_wp2_with fail
      go_ret
      exact ⟨rfl, rfl⟩

end Go.Proofs.Ytidmbeeadbedaaa
