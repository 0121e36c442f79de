/- Walk over SplitAny of the reference at one byte, told weakly: a list of texts no longer than the text. -/
import Derived.Test.YtidmbeeadbedaaaApp5
import Derived.Test.YtidmbeeadbedaaaWord
import Derived.Test.YtidmbeeadbedaaaMg3
namespace Go.Proofs.Ytidmbeeadbedaaa
open Go.RowKit Go.Shelf

def SplMade (s : ByteArray) (w : World) (e : Ending) (w' : World) : Prop := ∃ L : List ByteArray, L.length ≤ s.size + 1 ∧ 1 ≤ L.length ∧ (∀ x ∈ L, x.size ≤ s.size) ∧ MadeSl w 9 1 L.length (strs L) e w'

set_option maxRecDepth 100000 in
set_option maxHeartbeats 4000000 in
theorem specSplitG_any (s : ByteArray) (q : UInt8) (w : World) (hs : s.size ≤ 1048576) :
    Calls Try.prog 176 #[.string s, .string ⟨#[q]⟩] w (SplMade s w) := by
  have hO0 := own_of_bk (base := w.heap.size) (m := 1) (n := 0) (Bk.new w 9 #[]) (Nat.le_refl _) rfl (by unfold maxLen; omega)
  have hW0 : Below w.heap.size w (w.alloc (.cells #[] 9)) := (Below.refl _ _).alloc (Nat.le_refl _) _
  obtain ⟨sp, hsp⟩ : ∃ p, p = (⟨#[q]⟩ : ByteArray) := ⟨_, rfl⟩
  have hsz : sp.size = 1 := by rw [hsp]; rfl
  have hsv : ∀ h : 0 < sp.size, (sp[0]'h).toNat = q.toNat := by subst hsp; intro h; rfl
  have hq256 : q.toNat < 256 := q.toNat_lt
  obtain ⟨qn, hqn⟩ : ∃ n, n = q.toNat := ⟨_, rfl⟩
  rw [← hqn] at hsv hq256
  rw [← hsp]
  have HO0 := Lib.hid hO0
  clear hO0
  have HW0 := Lib.hid hW0
  clear hW0
  have Hsp := Lib.hid hsp
  clear hsp
  have Hqn := Lib.hid hqn
  clear hqn
  go_enter Try.func176, Try.ntmps176
  go_wp2_with fail
  go_loopw [5, 6, 7] (fun v f i wr => ∃ (j p z : Nat) (B : Option Addr) (d : Nat) (A : List ByteArray), v = .slice B z d ∧ f = .int .i64 p ∧ i = .int .i64 j ∧ j ≤ s.size ∧ p ≤ j ∧ z ≤ j ∧ Hid (z = A.length) ∧ Hid (∀ x ∈ A, x.size ≤ s.size) ∧ wr.ownsRow w.heap.size 9 1 (.slice B z d) z (strs A) ∧ Below w.heap.size w wr) (fun _ _ i _ => s.size - (intOf i).toNat)
  case atStart => exact ⟨0, 0, 0, some ⟨w.heap.size, 0, none⟩, 0, [], rfl, rfl, rfl, Nat.zero_le _, Nat.le_refl _, Nat.le_refl _, Lib.hid rfl, Lib.hid (by simp), HO0.out, HW0.out⟩
  case round =>
    clear HO0 HW0
    obtain ⟨j, p, z, B, d, A, rfl, rfl, rfl, hj, hp, hzj, HZ, HA, hown, hW⟩ := hrel
    by_cases hlt : j < s.size
    · have h256 : s[j].toNat < 256 := s[j].toNat_lt
      obtain ⟨b, hb⟩ : ∃ b : Nat, b = s[j].toNat := ⟨_, rfl⟩
      go_wp2_with fail
      refine wp_loop_rounds 2 ?_
      rw [rounds_succ]
      by_cases h32 : (s[j].toNat : Int) = (qn : Int)
      · have hx : (s.extract p j).size ≤ s.size := by rw [ByteArray.size_extract]; omega
        obtain ⟨nx, hnx⟩ : ∃ x, x = s.extract p j := ⟨_, rfl⟩
        rw [← hnx] at hx
        have hA1 : ∀ x ∈ A ++ [nx], x.size ≤ s.size := fun x hx' => by rcases List.mem_append.1 hx' with h | h; exact HA.out x h; rw [List.mem_singleton.1 h]; exact hx
        have hZ1 : z + 1 = (A ++ [nx]).length := by rw [List.length_append, HZ.out]; rfl
        have hstr : strs (A ++ [nx]) = strs A ++ [.string (s.extract p j)] := by rw [← hnx]; simp [strs]
        have hws := hW.size
        have HA1 := Lib.hid hA1
        clear hA1
        have Hx := Lib.hid hx
        clear hx
        have HZ1 := Lib.hid hZ1
        clear hZ1
        have HW := Lib.hid hW
        clear hW
        have Hnx := Lib.hid hnx
        clear hnx
        have Hstr := Lib.hid hstr
        clear hstr
        go_wp2_with fail
        go_region
        all_goals
          go_wp2_with (at_builtin; go_loud (refine wpList_app5 _ wr.drew _ rfl rfl _ _ 29 rfl w.heap.size 9 1 16 _ Try.underlying29 info_str rfl (by omega) (.slice B z d) z _ _ rfl rfl rfl (own_drewF hown) rfl (one_cell_strF _) (by omega) (by unfold maxLen; omega) hws ?_); intro g5 c5 w5 hO5 hV5 hG5 hat5)
          have hO6 : w5.ownsRow w.heap.size 9 1 (.slice (some ⟨g5, 0, none⟩) (z + 1) c5) (z + 1) (strs (A ++ [nx])) := by rw [Hstr.out]; exact hO5
          have hW6 := HW.out.drew.trans hV5
          clear hO5 hG5 hat5 hV5
          go_wp2_with fail
          go_roundw
          case rel => exact ⟨j + 1, j + 1, z + 1, _, c5, _, rfl, by go_num, by go_num, by omega, by omega, by omega, HZ1, HA1, hO6, hW6⟩
          case measure => simp [intOf] <;> omega
      · skip
        have hne : ((s[j].toNat : Int) == (qn : Int)) = false := by simp; omega
        have HW := Lib.hid hW
        clear hW
        go_wp2_with fail
        go_region
        all_goals
          go_wp2_with fail
          rw [rounds_succ]
          go_wp2_with fail
          go_roundw
          case rel => exact ⟨j + 1, p, z, B, d, A, rfl, rfl, by go_num, by omega, by omega, by omega, HZ, HA, own_drewF hown, HW.out.drew⟩
          case measure => simp [intOf] <;> omega
    · have : j = s.size := by omega
      subst this
      have hx : (s.extract p s.size).size ≤ s.size := by rw [ByteArray.size_extract]; omega
      have hall : ∀ x ∈ A ++ [s.extract p s.size], x.size ≤ s.size := fun x hx' => by rcases List.mem_append.1 hx' with h | h; exact HA.out x h; rw [List.mem_singleton.1 h]; exact hx
      have hlen : (A ++ [s.extract p s.size]).length = z + 1 := by rw [List.length_append, HZ.out]; rfl
      have hw2 : strs (A ++ [s.extract p s.size]) = strs A ++ [.string (s.extract p s.size)] := by simp [strs]
      have hws := hW.size
      have Hx := Lib.hid hx
      clear hx
      have Hw2 := Lib.hid hw2
      clear hw2
      have Hlen := Lib.hid hlen
      clear hlen
      have HW := Lib.hid hW
      clear hW
      have Hall := Lib.hid hall
      clear hall
      go_wp2_with (at_builtin; go_loud (refine wpList_app5 _ _ _ rfl rfl _ _ 29 rfl w.heap.size 9 1 16 _ Try.underlying29 info_str rfl (by omega) (.slice B z d) z _ _ rfl rfl rfl hown rfl (one_cell_strF _) (by omega) (by unfold maxLen; omega) hws ?_); intro g5 c5 w5 hO5 hV5 hG5 hat5)
      have hO6 : w5.ownsRow w.heap.size 9 1 (.slice (some ⟨g5, 0, none⟩) (z + 1) c5) (z + 1) (strs (A ++ [s.extract p s.size])) := by rw [Hw2.out]; exact hO5
      have hW6 := HW.out.trans hV5
      clear hO5 hG5 hat5 hV5
      go_wp2_with fail
      go_ret
      exact ⟨_, by rw [Hlen.out]; omega, by rw [Hlen.out]; omega, Hall.out, by rw [Hlen.out]; exact ⟨_, c5, rfl, hO6, hW6⟩⟩

end Go.Proofs.Ytidmbeeadbedaaa
