/- Merged texts: a claim has a limit of files. -/
import Derived.Test.YtidmbeeadbedaaaPairP
import Derived.Test.YtidmbeeadbedaaaTurn
import Derived.Test.YtidmbeeadbedaaaApp5
import Derived.Test.YtidmbeeadbedaaaProof

/- Walks over PlacesOf of the program and OverlapsOf of both. -/
namespace Go.Proofs.Ytidmbeeadbedaaa
open Go.RowKit Go.Shelf

set_option maxRecDepth 100000 in
set_option maxHeartbeats 1000000 in
theorem implPlaces_any (s l : ByteArray) (w : World) (hs : s.size ≤ 1048576) (hl : l.size ≤ 1048576) (hne : l ≠ ⟨#[]⟩) :
    Calls Try.prog 195 #[.string s, .string l] w (MadeSl w 3 1 (pls s l).length (ints (pls s l))) := by
  have hq := isEmpty_eq l
  rw [decide_eq_false hne] at hq
  have hE : pls s l = plcI s l s.size := (plcI_plc hne).symm
  rw [hE]
  clear hE
  go_enter Try.func195, Try.ntmps195
  go_wp2_with fail
  go_loopw [5, 11] (fun v i wr => ∃ (q : Nat) (B : Option Addr) (d z : Nat), q ≤ s.size ∧ i = .int .i64 q ∧ v = .slice B z d ∧ Hid (z = (plcI s l q).length) ∧ wr.ownsRow w.heap.size 3 1 (.slice B z d) z (ints (plcI s l q)) ∧ Below w.heap.size w wr) (fun _ i _ => s.size - (intOf i).toNat)
  case atStart => exact ⟨0, none, 0, 0, Nat.zero_le _, rfl, rfl, Lib.hid rfl, World.ownsRow_nil _ _ _ _, Below.refl _ _⟩
  case round =>
    obtain ⟨q, B, d, z, hqN, rfl, rfl, HZ, hown, hW⟩ := hrel
    have hz : z ≤ q := by rw [HZ.out]; exact plcI_len s l q
    by_cases hlt : q < s.size
    · have hws := hW.size
      have zx : (s.extract q s.size).size ≤ 1048576 := by simp; omega
      obtain ⟨r, hrr⟩ : ∃ r', r' = hasAt s l q := ⟨_, rfl⟩
      have hpr : hasPre (s.extract q s.size) l = r := by rw [hasPre_at s l q (by omega)]; exact hrr.symm
      have Hrr := Lib.hid hrr
      clear hrr
      have Hpr := Lib.hid hpr
      clear hpr
      have Hown := Lib.hid hown
      clear hown
      go_wp2_with fail
      refine (hasPrefix_any (s.extract q s.size) l _ (by omega) (by omega)).mono ?_
      rintro e w2 ⟨rfl, b2⟩
      rw [Hpr.out]
      have hW2 := hW.trans (b2.mono hws)
      have hown2 := own_keep Hown.out b2 (Nat.le_refl _)
      have hws2 := hW2.size
      clear b2 Hown hW
      cases r
      · have e1 := plcI_no (s := s) (l := l) (q := q) Hrr.out.symm
        have E1 := Lib.hid e1
        clear e1
        go_wp2_with fail
        go_roundw
        case rel => exact ⟨q + 1, B, d, z, by omega, by go_num, rfl, Lib.hid (by rw [E1.out]; exact HZ.out), by rw [E1.out]; exact hown2, hW2⟩
        case measure => simp [intOf] <;> omega
      · have e1 := plcI_yes (s := s) (l := l) (q := q) Hrr.out.symm
        have E1 := Lib.hid e1
        clear e1
        go_wp2_with (at_builtin; refine wpList_app1 _ w2 rfl _ _ 73 rfl w.heap.size 3 1 8 _ Try.underlying73 info_int rfl (by omega) _ _ _ _ rfl rfl rfl hown2 rfl (one_cell1 _) (by omega) (by unfold maxLen; omega) (by omega) ?_; intro A5 c5 w5 hO5 hW5)
        have hO6 : w5.ownsRow w.heap.size 3 1 (.slice A5 (z + 1) c5) (z + 1) (ints (plcI s l (q + 1))) := by rw [E1.out, ints_snoc]; exact hO5
        clear hO5
        go_wp2_with fail
        go_roundw
        case rel => exact ⟨q + 1, A5, c5, z + 1, by omega, by go_num, rfl, Lib.hid (by rw [E1.out, List.length_append, ← HZ.out]; rfl), hO6, hW2.trans hW5⟩
        case measure => simp [intOf] <;> omega
    · have : q = s.size := by omega
      subst this
      go_wp2_with fail
      go_ret
      rw [← HZ.out]
      exact ⟨B, d, rfl, hown, hW⟩


set_option maxRecDepth 100000 in
set_option maxHeartbeats 1000000 in
theorem implOverlaps_any (s l : ByteArray) (w : World) (hs : s.size ≤ 1048576) (hl : l.size ≤ 1048576) :
    Calls Try.prog 196 #[.string s, .string l] w (MadeSl w 3 1 (ovs s l).length (ints (ovs s l))) := by
  obtain ⟨N, hN⟩ : ∃ N, N = ovN s l := ⟨_, rfl⟩
  have hNs : N = min s.size l.size - 1 := hN
  have hE : ovs s l = ovl s l N := by rw [hN]; rfl
  rw [hE]
  clear hE
  have HN := Lib.hid hN
  clear hN
  have HNs := Lib.hid hNs
  clear hNs
  rcases (show (l.size : Int) < (s.size : Int) ∨ (s.size : Int) ≤ (l.size : Int) by omega) with hls | hls
  all_goals
    go_enter Try.func196, Try.ntmps196
    go_wp2_with fail
    go_loopw [5, 6] (fun v i wr => ∃ (q : Nat) (B : Option Addr) (d z : Nat), q ≤ N ∧ i = .int .i64 ((q + 1 : Nat) : Int) ∧ v = .slice B z d ∧ Hid (z = (ovl s l q).length) ∧ wr.ownsRow w.heap.size 3 1 (.slice B z d) z (ints (ovl s l q)) ∧ Below w.heap.size w wr) (fun _ i _ => N + 1 - (intOf i).toNat)
    case atStart => exact ⟨0, none, 0, 0, Nat.zero_le _, rfl, rfl, Lib.hid rfl, World.ownsRow_nil _ _ _ _, Below.refl _ _⟩
    case round =>
      obtain ⟨q, B, d, z, hqN, rfl, rfl, HZ, hown, hW⟩ := hrel
      have hz : z ≤ q := by rw [HZ.out]; exact ovl_len s l q
      have hN' := HNs.out
      obtain ⟨r, hr⟩ : ∃ r, r = q + 1 := ⟨_, rfl⟩
      rw [← hr]
      by_cases hlt : r < s.size ∧ r < l.size
      · obtain ⟨hr1, hr2⟩ := hlt
        have hi0 : (r : Int) < min (s.size : Int) (l.size : Int) := by omega
        have hi2 : (r : Int) < (l.size : Int) := by omega
        have hsub : IntKind.i64.wrap ((s.size : Int) - (r : Int)) = (s.size : Int) - (r : Int) := IntWalk.i64_in _ ⟨by omega, by omega⟩
        have hadd : IntKind.i64.wrap ((r : Int) + 1) = (r : Int) + 1 := IntWalk.i64_in _ ⟨by omega, by omega⟩
        have g4 : (0 : Int) ≤ (s.size : Int) - (r : Int) := by omega
        have g5 : ((s.size : Int) - (r : Int)).toNat = s.size - r := by omega
        have g6 : (s.size : Int) - (r : Int) ≤ (s.size : Int) := by omega
        have g7 : s.size - r ≤ s.size := by omega
        have hws := hW.size
        have hqr : q < N := by omega
        have hzb : z ≤ 1048576 := by omega
        cases h5 : (s.extract (s.size - r) s.size).toList == (l.extract 0 r).toList
        · have e1 := ovl_no (s := s) (l := l) (q := q) (by rw [ovAt, ← hr]; exact h5)
          rw [← hr] at e1
          clear hN'
          have E1 := Lib.hid e1
          clear e1
          have Hr := Lib.hid hr
          clear hr
          go_wp2_with fail
          go_region
          all_goals
            go_wp2_with fail
            go_roundw
            case rel => exact ⟨r, B, d, z, by have := Hr.out; omega, by go_num, rfl, Lib.hid (by rw [E1.out]; exact HZ.out), by rw [E1.out]; exact hown, hW.drew⟩
            case measure => have := Hr.out; simp [intOf] <;> omega
        · have e1 := ovl_yes (s := s) (l := l) (q := q) (by rw [ovAt, ← hr]; exact h5)
          rw [← hr] at e1
          clear hN'
          have E1 := Lib.hid e1
          clear e1
          have Hr := Lib.hid hr
          clear hr
          go_wp2_with fail
          go_region
          all_goals
            go_wp2_with (at_builtin; refine wpList_app1 _ wr.drew rfl _ _ 73 rfl w.heap.size 3 1 8 _ Try.underlying73 info_int rfl (by omega) _ _ _ _ rfl rfl rfl (own_drew1 hown) rfl (one_cell1 _) (by omega) (by unfold maxLen; omega) hws ?_; intro A5 c5 w5 hO5 hW5)
            have hO6 : w5.ownsRow w.heap.size 3 1 (.slice A5 (z + 1) c5) (z + 1) (ints (ovl s l r)) := by rw [E1.out, ints_snoc]; exact hO5
            clear hO5
            go_wp2_with fail
            go_roundw
            case rel => exact ⟨r, A5, c5, z + 1, by have := Hr.out; omega, by go_num, rfl, Lib.hid (by rw [E1.out, List.length_append, ← HZ.out]; rfl), hO6, (hW.drew).trans hW5⟩
            case measure => have := Hr.out; simp [intOf] <;> omega
      · have : q = N := by omega
        subst this
        clear hN'
        have hi0 : ¬ (r : Int) < min (s.size : Int) (l.size : Int) := by omega
        clear hlt
        go_wp2_with fail
        all_goals
          go_ret
          rw [← HZ.out]
          exact ⟨B, d, rfl, hown, hW⟩

end Go.Proofs.Ytidmbeeadbedaaa

/- Walks over l05Inside, l05Across and PairsOf of the reference. -/
namespace Go.Proofs.Ytidmbeeadbedaaa
open Go.RowKit Go.Shelf

theorem info_Pair : (Try.prog.info? 162).map (fun i => (i.zero, i.size, i.bytes)) = some (some (.agg #[.string ⟨#[]⟩, .int .i64 0, .int .i64 0, .int .i64 0, .int .i64 0]), 5, 48) := by kernel_rfl
theorem rd_I {w : World} {A : Option Addr} {xs : List Int} (h : Rd w A (ints xs)) {k : Nat} (hk : k < xs.length) : ∃ b off, A = some ⟨b, off, none⟩ ∧ b < w.heap.size ∧ w.cell? ⟨b, off + k, none⟩ = some (.int .i64 xs[k]) := by
  have hu := ints_get xs k hk
  obtain ⟨b, o, e, hl, hc⟩ := h (by intro e; rw [e] at hu; cases hu)
  exact ⟨b, o, e, hl, hc k _ hu⟩
end Go.Proofs.Ytidmbeeadbedaaa
