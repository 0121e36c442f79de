/- For every input the law FnAlgorithms returns true and leaves its argument as it was. -/













import Derived.Test.YtgceabbeeobmgaaDoorAlg3
import Derived.Test.YtgceabbeeobmgaaDoorMkW
import Derived.Test.YtgceabbeeobmgaaDoorOpenB
import Derived.Test.YtgceabbeeobmgaaDoorOpen
import Derived.Test.YtgceabbeeobmgaaDoorMark
import Derived.Test.YtgceabbeeobmgaaDoorStr
import Derived.Test.YtgceabbeeobmgaaDoorApp
import Derived.Test.YtgceabbeeobmgaaDoorTie
import Derived.Test.YtgceabbeeobmgaaDoorCards
import Derived.LaidMore
import Derived.SevenTiedAt
import Derived.Stop.Joined
import Derived.ProofKit
import Derived.OpenShut
import Derived.Lay
namespace Go.Proofs.YtgceabbeeobmgaaDoor

open Go.ChangeShapes Go.WideShapes Go.ChangeAt Go.RowKit Go.Shelf

theorem meet5 {F G : Option Addr → Nat → Nat → Nat → World → Prop} {goal : Prop} (leaf : (∀ A c b1 b2 y, F A c b1 b2 y → G A c b1 b2 y) → goal) (key : ∀ A c b1 b2 y, F A c b1 b2 y → G A c b1 b2 y) : goal := leaf key
theorem meet4 {F G : Option Addr → Nat → Nat → World → Prop} {goal : Prop} (leaf : (∀ A c b1 y, F A c b1 y → G A c b1 y) → goal) (key : ∀ A c b1 y, F A c b1 y → G A c b1 y) : goal := leaf key
theorem rd_alloc1 (Y : World) (x : ByteArray) : Rd (Y.alloc (.cells #[.string x] 9)) (some ⟨Y.heap.size, 0, none⟩) (strs [x]) := fun _ => ⟨Y.heap.size, 0, rfl, by simp, fun j u hu => by
  rw [Nat.zero_add, (Bk.new Y 9 #[.string x]).cell j]
  simpa [strs] using hu⟩
theorem letters2 {s : ByteArray} (h : lettersOk 2 s = true) : ∀ b ∈ s.data.toList, b = 97 ∨ b = 98 := fun b hb => by
  unfold lettersOk at h
  rw [List.all_eq_true] at h
  have h2 := h b hb
  unfold inB at h2
  simp only [Bool.and_eq_true, decide_eq_true_eq] at h2
  have : b.toNat = 97 ∨ b.toNat = 98 := by omega
  rcases this with e | e
  · exact .inl (UInt8.toNat_inj.1 (by rw [e]; rfl))
  · exact .inr (UInt8.toNat_inj.1 (by rw [e]; rfl))

set_option maxRecDepth 100000 in
set_option maxHeartbeats 20000000 in
theorem law_FnAlgorithms (w : World) (A0 : Option Addr) (n0 c0 : Nat) (zs : List Int) (R0 : Rd w A0 (u8c zs) ∧ n0 = zs.length ∧ n0 ≤ maxLen ∧ ∀ z ∈ zs, (Lit.int .u8 z).wf = true) (mx : Int) (hmx : w.cell? ⟨0, 0, none⟩ = some (.int .i64 mx)) :
    Calls Tryd.prog 3 #[.slice A0 n0 c0] w (Kept w (.bool true)) := by
  obtain ⟨hr, hn, hm0, hwf⟩ := R0
  have hz : ∀ z ∈ zs, 0 ≤ z ∧ z ≤ 255 := fun z h => byte_wf (hwf z h)
  unfold maxLen at hm0
  have h0l : 0 < w.heap.size := World.block_lt_of_cell? w _ hmx
  have hM : ∀ W, Below w.heap.size w W → W.cell? ⟨0, 0, none⟩ = some (.int .i64 mx) := fun W h => (h.cell (p := ⟨0, 0, none⟩) h0l).trans hmx
  by_cases hb : n0 ≤ 1048576
  rotate_left
  · have hbi : (1048576 : Int) < (n0 : Int) := by omega
    go_enter Tryd.func3, Tryd.ntmps3
    go_wp2_with fail
    go_ret
    exact ⟨rfl, Below.refl _ _⟩
  have hN1 : Calls Tryd.prog 6 #[.slice A0 n0 c0, .int .i64 0] w _ := makeNum_any A0 n0 c0 zs 0 w hr hn hb hz (by omega)
  have hN2 : ∀ W, Below w.heap.size w W → Calls Tryd.prog 6 #[.slice A0 n0 c0, .int .i64 2] W _ := fun W h => makeNum_any A0 n0 c0 zs 2 W (hr.keep h) hn hb hz (by omega)
  have hMw : ∀ W, Below w.heap.size w W → Calls Tryd.prog 7 #[.slice A0 n0 c0, .int .i64 4, .int .i64 2, .int .i64 8] W _ := fun W h => makeWord_any A0 n0 c0 zs 4 2 8 W (hr.keep h) hn hb hz (by omega) (by omega) (by omega) (by omega)
  clear hr hn hz hwf hm0
  have HN1 := Lib.hid hN1
  clear hN1
  have HN2 := Lib.hid hN2
  clear hN2
  have HMw := Lib.hid hMw
  clear hMw
  have HM := Lib.hid hM
  clear hM
  go_enter Tryd.func3, Tryd.ntmps3
  go_wp2_with fail
  with_reducible refine HN1.out.mono ?_
  rintro e w1 ⟨x1, -, rfl, b1⟩
  have hmod1 : (x1 : Int).tmod 5 = ((x1 % 5 : Nat) : Int) := by rw [Int.tmod_eq_emod_of_nonneg (by omega)]; rfl
  have hm5 : x1 % 5 < 5 := Nat.mod_lt _ (by omega)
  obtain ⟨m, hmm⟩ : ∃ m, m = x1 % 5 := ⟨_, rfl⟩
  rw [← hmm] at hmod1 hm5
  have Hmm := Lib.hid hmm
  clear hmm
  go_wp2_with fail
  with_reducible refine (HN2.out _ b1).mono ?_
  rintro e w2 ⟨x2, -, rfl, b2'⟩
  have b2 := b1.trans (b2'.mono b1.size)
  have hmod2 : (x2 : Int).tmod 5 = ((x2 % 5 : Nat) : Int) := by rw [Int.tmod_eq_emod_of_nonneg (by omega)]; rfl
  have hn5 : x2 % 5 < 5 := Nat.mod_lt _ (by omega)
  obtain ⟨n, hnn⟩ : ∃ m, m = x2 % 5 := ⟨_, rfl⟩
  rw [← hnn] at hmod2 hn5
  clear b2'
  have Hnn := Lib.hid hnn
  clear hnn
  go_wp2_with fail
  rw [show (⟨#[97, 97, 97, 97, 97, 97, 97, 97, 97, 97, 97, 97, 97, 97, 97, 97]⟩ : ByteArray) = a16 from rfl]
  have ha16 : a16.size = 16 := rfl
  with_reducible refine (HMw.out _ b2).mono ?_
  rintro e w3 ⟨wd, hwd8, hwdL, rfl, b3'⟩
  have b3 := b2.trans (b3'.mono b2.size)
  have hl2 := letters2 hwdL
  have hlen := bytes_len wd
  obtain ⟨k0, hk0⟩ : ∃ k : Nat, k = wd.data.toList.count 97 := ⟨_, rfl⟩
  obtain ⟨k1, hk1⟩ : ∃ k : Nat, k = wd.data.toList.count 98 := ⟨_, rfl⟩
  have hk08 : k0 ≤ 8 := by (have := List.count_le_length (a := (97 : UInt8)) (l := wd.data.toList)); omega
  have hk18 : k1 ≤ 8 := by (have := List.count_le_length (a := (98 : UInt8)) (l := wd.data.toList)); omega
  have hK0 : ∀ W, Calls Tryd.prog 8 #[.string wd, .int .i64 0] W (Kept W (.int .i64 k0)) := fun W => by rw [hk0]; exact countLetter_any wd 0 W (by omega)
  have hK1 : ∀ W, Calls Tryd.prog 8 #[.string wd, .int .i64 1] W (Kept W (.int .i64 k1)) := fun W => by rw [hk1]; exact countLetter_any wd 1 W (by omega)
  clear b3' b1 b2
  have HwdL := Lib.hid hwdL
  clear hwdL
  have Hl2 := Lib.hid hl2
  clear hl2
  have Hlen := Lib.hid hlen
  clear hlen
  have Hk0 := Lib.hid hk0
  clear hk0
  have Hk1 := Lib.hid hk1
  clear hk1
  have HK0 := Lib.hid hK0
  clear hK0
  have HK1 := Lib.hid hK1
  clear hK1
  have B3 := Lib.hid b3
  clear b3
  go_wp2_with fail
  go_loopw [7, 8] (fun s i wr => ∃ j : Nat, s = .string (bL (aN j)) ∧ i = .int .i64 j ∧ j ≤ k0 ∧ Below w.heap.size w wr) (fun _ i _ => 20 - (intOf i).toNat)
  case atStart => exact ⟨0, rfl, rfl, Nat.zero_le _, B3.out⟩
  case round =>
    clear B3
    obtain ⟨j, rfl, rfl, hj, hW⟩ := hrel
    have HW := Lib.hid hW
    clear hW
    go_wp2_with fail
    with_reducible refine (HK0.out _).mono ?_
    rintro e w4 ⟨rfl, b4⟩
    have hW4 := HW.out.trans (b4.mono HW.out.size)
    clear HW b4
    by_cases hlt : j < k0
    · have hj9 : j < 9 := by omega
      obtain ⟨cur, hcur⟩ : ∃ c, c = bL (aN j) := ⟨_, rfl⟩
      have hcz : cur.size = j := by rw [hcur, bL_size, aN_len]
      have hnx : cur ++ (⟨#[97]⟩ : ByteArray) = bL (aN (j + 1)) := by
        rw [hcur, show (⟨#[97]⟩ : ByteArray) = bL [97] from rfl, bL_app, aN, aN, List.replicate_succ']
      rw [← hcur]
      have Hcur := Lib.hid hcur
      clear hcur
      have Hnx := Lib.hid hnx
      clear hnx
      go_wp2_with fail
      go_roundw
      case rel => exact ⟨j + 1, by rw [← Hnx.out], by go_num, by omega, hW4⟩
      case measure => simp [intOf] <;> omega
    have hjk : j = k0 := by omega
    subst hjk
    obtain ⟨s0, hs0⟩ : ∃ s, s = bL (aN j) := ⟨_, rfl⟩
    rw [← hs0]
    have Hs0 := Lib.hid hs0
    clear hs0
    have HW4 := Lib.hid hW4
    clear hW4
    go_wp2_with fail
    go_loopw [7, 9] (fun s i wr => ∃ (q : Nat) (cur : ByteArray), s = .string cur ∧ Hid (cur = bL (aN j ++ bN q)) ∧ i = .int .i64 q ∧ q ≤ k1 ∧ Below w.heap.size w wr) (fun _ i _ => 20 - (intOf i).toNat)
    case atStart => exact ⟨0, s0, rfl, Lib.hid (by rw [Hs0.out]; simp [bN]), rfl, Nat.zero_le _, HW4.out⟩
    case round =>
      clear HW4
      obtain ⟨q, cur, rfl, HCr, rfl, hq, hW⟩ := hrel
      have HW := Lib.hid hW
      clear hW
      go_wp2_with fail
      with_reducible refine (HK1.out _).mono ?_
      rintro e w5 ⟨rfl, b5⟩
      have hW5 := HW.out.trans (b5.mono HW.out.size)
      clear HW b5
      have hcz : cur.size = j + q := by rw [HCr.out, bL_size, List.length_append, aN_len, bN_len]
      by_cases hlt2 : q < k1
      · have hq9 : q < 9 := by omega
        have hnx : cur ++ (⟨#[98]⟩ : ByteArray) = bL (aN j ++ bN (q + 1)) := by
          rw [HCr.out, show (⟨#[98]⟩ : ByteArray) = bL [98] from rfl, bL_app, bN, bN, List.replicate_succ', List.append_assoc]
        have Hnx := Lib.hid hnx
        clear hnx
        go_wp2_with fail
        go_roundw
        case rel => exact ⟨q + 1, _, rfl, Hnx, by go_num, by omega, hW5⟩
        case measure => simp [intOf] <;> omega
      have hqk : q = k1 := by omega
      subst hqk
      obtain ⟨em, hem⟩ : ∃ e, a16.extract 0 m = e := ⟨_, rfl⟩
      obtain ⟨en, hen⟩ : ∃ e, a16.extract 0 n = e := ⟨_, rfl⟩
      obtain ⟨es, hes⟩ : ∃ e, a16.extract 0 (m + n) = e := ⟨_, rfl⟩
      obtain ⟨ed, hed⟩ : ∃ e, a16.extract 0 (2 * m) = e := ⟨_, rfl⟩
      have eem : em = bL (aN m) := by rw [← hem, a16_ext (by omega)]
      have een : en = bL (aN n) := by rw [← hen, a16_ext (by omega)]
      have ees : es = bL (aN (m + n)) := by rw [← hes, a16_ext (by omega)]
      have eed : ed = bL (aN (2 * m)) := by rw [← hed, a16_ext (by omega)]
      have szm : em.size = m := by rw [eem, bL_size, aN_len]
      have szn : en.size = n := by rw [een, bL_size, aN_len]
      obtain ⟨xm, hxm⟩ : ∃ x, em ++ (⟨#[98]⟩ : ByteArray) = x := ⟨_, rfl⟩
      have szx : xm.size = m + 1 := by rw [← hxm, ByteArray.size_append, szm]; rfl
      obtain ⟨xa, hxa⟩ : ∃ x, xm ++ en = x := ⟨_, rfl⟩
      have exa : xa = bL (addU m n) := by rw [← hxa, ← hxm, eem, een, show (⟨#[98]⟩ : ByteArray) = bL [98] from rfl, bL_app, bL_app]; rfl
      have g1 : ¬ 9223372036854775807 < em.size + 1 := by omega
      have g2 : ¬ 9223372036854775807 < xm.size + en.size := by omega
      obtain ⟨ga, gs, gd⟩ := good_add
      obtain ⟨oa, os, od⟩ := algOk_add
      have hra := add_run hm5 hn5
      obtain ⟨us, hus⟩ := sort_run (l := wd.data.toList) (by rw [Hlen.out]; omega) Hl2.out
      rw [bL_of, ← Hk0.out, ← Hk1.out, ← HCr.out] at hus
      obtain ⟨ud, hud, hudl, hud0, hud1⟩ := dbl_run hm5
      have hC1 : ∀ A c b1 b2 y, Below w.heap.size w y → Rd y A (cellsOrder addO) → Rd y (some ⟨b1, 0, none⟩) (strs [xa]) → Rd y (some ⟨b2, 0, none⟩) (strs [es]) → Calls Tryd.prog 9 #[.slice A 1 c, .slice (some ⟨b1, 0, none⟩) 1 1, .slice (some ⟨b2, 0, none⟩) 1 1] y (Kept y (.bool true)) := fun A c b1 b2 y hy rO r1 r2 =>
        computesOn_any A 1 c addO _ _ 1 1 xa es [0] mx y rO rfl (by omega) ga oa (by rw [exa, bL_size]; simp [addU, aN_len]; omega) (by rw [exa]; exact ascii_bL fun b hb => by (have := addU_all m n b hb); omega) (by rw [exa]; exact wordOk_bL (by simp [addU, aN_len]; omega) (addU_all m n)) (HM.out y hy) r1 r2 (by rw [exa, ees]; exact hra)
      have hwdU : ∀ b ∈ wd.data.toList, 97 ≤ b.toNat ∧ b.toNat ≤ 100 := fun b hb => by rcases Hl2.out b hb with rfl | rfl <;> decide
      have hC2 : ∀ A c b1 b2 y, Below w.heap.size w y → Rd y A (cellsOrder srtO) → Rd y (some ⟨b1, 0, none⟩) (strs [wd]) → Rd y (some ⟨b2, 0, none⟩) (strs [cur]) → Calls Tryd.prog 9 #[.slice A 1 c, .slice (some ⟨b1, 0, none⟩) 1 1, .slice (some ⟨b2, 0, none⟩) 1 1] y (Kept y (.bool true)) := fun A c b1 b2 y hy rO r1 r2 =>
        computesOn_any A 1 c srtO _ _ 1 1 wd cur us mx y rO rfl (by omega) gs os (by omega) (ascii_mem.2 fun b hb => by (have := hwdU b hb); omega) (by rw [← bL_of wd]; exact wordOk_bL (by rw [Hlen.out]; omega) hwdU) (HM.out y hy) r1 r2 hus
      have aNU : ∀ b ∈ aN m, 97 ≤ b.toNat ∧ b.toNat ≤ 100 := fun b hb => by rw [aN_mem m b hb]; decide
      have hC3 : ∀ A c b1 b2 y, Below w.heap.size w y → Rd y A (cellsOrder dblO) → Rd y (some ⟨b1, 0, none⟩) (strs [em]) → Rd y (some ⟨b2, 0, none⟩) (strs [ed]) → Calls Tryd.prog 9 #[.slice A 3 c, .slice (some ⟨b1, 0, none⟩) 1 1, .slice (some ⟨b2, 0, none⟩) 1 1] y (Kept y (.bool true)) := fun A c b1 b2 y hy rO r1 r2 =>
        computesOn_any A 3 c dblO _ _ 1 1 em ed ud mx y rO rfl (by omega) gd od (by omega) (by rw [eem]; exact ascii_bL fun b hb => by (have := aNU b hb); omega) (by rw [eem]; exact wordOk_bL (by rw [aN_len]; omega) aNU) (HM.out y hy) r1 r2 (by rw [eem, eed]; exact hud)
      have hRA : ∀ A c y, Below w.heap.size w y → Rd y A (cellsOrder dblO) → Calls Tryd.prog 13 #[.slice A 3 c, .string em, .int .i64 500] y (Kept y (.agg #[.string ed, .int .i64 ((m : Int) + 2), .int .i64 0])) := fun A c y hy rO => by
        have h := runAlg_any A 3 c dblO em 500 mx y rO rfl (by omega) gd od (by omega) (by rw [eem]; exact ascii_bL fun b hb => by (have := aNU b hb); omega) (by rw [eem]; exact wordOk_bL (by rw [aN_len]; omega) aNU) (by omega) (HM.out y hy)
        rw [eem, hud, ← eed, ← eem] at h
        dsimp only at h
        rw [hudl, show ((m + 2 : Nat) : Int) = (m : Int) + 2 by omega] at h
        exact h
      have hOU : ∀ A c y, Below w.heap.size w y → Rd y A (cellsOrder dblO) → Calls Tryd.prog 14 #[.slice A 3 c, .string em, .int .i64 500] y (MadeSl y 3 1 (m + 2) (ints ud)) := fun A c y hy rO => by
        have h := ordersUsed_any A 3 c dblO em 500 mx y rO rfl (by omega) gd od (by omega) (by rw [eem]; exact ascii_bL fun b hb => by (have := aNU b hb); omega) (by rw [eem]; exact wordOk_bL (by rw [aN_len]; omega) aNU) (by omega) (HM.out y hy)
        rw [eem, hud, ← eem] at h
        dsimp only at h
        rw [hudl] at h
        exact h
      have hzd : ∀ x ∈ dblO, x.1.size ≤ 1048576 ∧ x.2.1.size ≤ 1048576 := fun x hx => by (have := gd x hx); omega
      have hzs : ∀ x ∈ srtO, x.1.size ≤ 1048576 ∧ x.2.1.size ≤ 1048576 := fun x hx => by (have := gs x hx); omega
      have hOF : ∀ A c y, Below w.heap.size w y → Rd y A (cellsOrder dblO) → Calls Tryd.prog 15 #[.slice A 3 c, .string ⟨#[97, 99, 97]⟩] y (Kept y (.int .i64 0)) := fun A c y hy rO => by
        have h := implOrderFor_any A 3 c dblO ⟨#[97, 99, 97]⟩ y rO rfl (by omega) hzd (by decide) ⟨mx, HM.out y hy⟩
        rw [show ordFor dblO ⟨#[97, 99, 97]⟩ = 0 from dbl_for] at h
        exact h
      have hAO : ∀ A c y, Rd y A (cellsOrder srtO) → Calls Tryd.prog 16 #[.slice A 1 c] y (Kept y (.bool true)) := fun A c y rO => by
        have h := implAlgorithmOk_any A 1 c srtO y rO rfl (by omega) hzs
        rw [os] at h
        exact h
      clear ga gs gd oa os od hra hus hud hwdU aNU hzd hzs exa eem een ees eed
      have hY0 := hW5.drew
      have hme1 : IntKind.i64.wrap ((m : Int) + (n : Int)) = (m : Int) + n := IntWalk.i64_in _ ⟨by omega, by omega⟩
      have hme2 : IntKind.i64.wrap (2 * (m : Int)) = 2 * (m : Int) := IntWalk.i64_in _ ⟨by omega, by omega⟩
      have htn1 : ((m : Int) + (n : Int)).toNat = m + n := by omega
      have htn2 : (2 * (m : Int)).toNat = 2 * m := by omega
      have hm16 : (m : Int) ≤ 16 := by omega
      have hn16 : (n : Int) ≤ 16 := by omega
      have hs16 : (m : Int) + (n : Int) ≤ 16 := by omega
      have hd16 : 2 * (m : Int) ≤ 16 := by omega
      have hs0 : (0 : Int) ≤ (m : Int) + (n : Int) := by omega
      have hd0 : (0 : Int) ≤ 2 * (m : Int) := by omega
      have HC1 := Lib.hid hC1
      clear hC1
      have HC2 := Lib.hid hC2
      clear hC2
      have HC3 := Lib.hid hC3
      clear hC3
      have HRA := Lib.hid hRA
      clear hRA
      have HOU := Lib.hid hOU
      clear hOU
      have HOF := Lib.hid hOF
      clear hOF
      have HAO := Lib.hid hAO
      clear hAO
      have HW5 := Lib.hid hW5
      clear hW5
      have Szm := Lib.hid szm
      clear szm
      have Szn := Lib.hid szn
      clear szn
      have Szx := Lib.hid szx
      clear szx
      have Hcz := Lib.hid hcz
      clear hcz
      clear hlt hlt2
      go_wp2_with fail
      refine wp_region_held_drew (S := (fun _ => True)) (by kernel_rfl) (trivial) (fun hHeld => ?_)
      obtain ⟨y0, hy0⟩ : ∃ z, z = World.drew w5 := ⟨_, rfl⟩
      rw [← hy0] at hY0
      rw [← hy0]
      clear hy0
      refine wpAnyH_take (i := 1) (oi := ?oi270) (v := ?val270) ?hi270 ?hs270 ?hf270 ?hr270 ?hQ270 ?hy270 ?hS270 ?hrest270
      case hi270 => (simp only [List.getElem?_toArray, List.getElem?_cons_succ, List.getElem?_cons_zero] <;> exact rfl)
      case hs270 => kernel_rfl
      case hf270 => kernel_rfl
      case hr270 => kernel_rfl
      case hQ270 => exact fun _ _ _ h => h
      case hS270 => assumption
      case hy270 => (refine Or.inl ⟨by rfl, ?_⟩; intro w hSw; (try dsimp only at hSw); go_simp; try with_reducible rfl)
      simp only [Act.put, List.setIfInBounds_toArray, List.set_cons_zero, List.set_cons_succ]
      refine wpAnyH_take (i := 2) (oi := ?oi279) (v := ?val279) ?hi279 ?hs279 ?hf279 ?hr279 ?hQ279 ?hy279 ?hS279 ?hrest279
      case hi279 => (simp only [List.getElem?_toArray, List.getElem?_cons_succ, List.getElem?_cons_zero] <;> exact rfl)
      case hs279 => kernel_rfl
      case hf279 => kernel_rfl
      case hr279 => kernel_rfl
      case hQ279 => exact fun _ _ _ h => h
      case hS279 => assumption
      case hy279 => (refine Or.inl ⟨by rfl, ?_⟩; intro w hSw; (try dsimp only at hSw); go_simp; try with_reducible rfl)
      simp only [Act.put, List.setIfInBounds_toArray, List.set_cons_zero, List.set_cons_succ]
      refine wpAnyH_take (i := 3) (oi := ?oi288) (v := ?val288) ?hi288 ?hs288 ?hf288 ?hr288 ?hQ288 ?hy288 ?hS288 ?hrest288
      case hi288 => (simp only [List.getElem?_toArray, List.getElem?_cons_succ, List.getElem?_cons_zero] <;> exact rfl)
      case hs288 => kernel_rfl
      case hf288 => kernel_rfl
      case hr288 => kernel_rfl
      case hQ288 => exact fun _ _ _ h => h
      case hS288 => assumption
      case hy288 => (refine Or.inl ⟨by rfl, ?_⟩; intro w hSw; (try dsimp only at hSw); go_simp; try with_reducible rfl)
      simp only [Act.put, List.setIfInBounds_toArray, List.set_cons_zero, List.set_cons_succ]
      refine wpAnyH_take (i := 4) (oi := ?oi297) (v := ?val297) ?hi297 ?hs297 ?hf297 ?hr297 ?hQ297 ?hy297 ?hS297 ?hrest297
      case hi297 => (simp only [List.getElem?_toArray, List.getElem?_cons_succ, List.getElem?_cons_zero] <;> exact rfl)
      case hs297 => kernel_rfl
      case hf297 => kernel_rfl
      case hr297 => kernel_rfl
      case hQ297 => exact fun _ _ _ h => h
      case hS297 => assumption
      case hy297 => (refine Or.inl ⟨by rfl, ?_⟩; intro w hSw; (try dsimp only at hSw); go_simp; try with_reducible rfl)
      simp only [Act.put, List.setIfInBounds_toArray, List.set_cons_zero, List.set_cons_succ]
      refine wpAnyH_take (i := 5) (oi := ?oi306) (v := ?val306) ?hi306 ?hs306 ?hf306 ?hr306 ?hQ306 ?hy306 ?hS306 ?hrest306
      case hi306 => (simp only [List.getElem?_toArray, List.getElem?_cons_succ, List.getElem?_cons_zero] <;> exact rfl)
      case hs306 => kernel_rfl
      case hf306 => kernel_rfl
      case hr306 => kernel_rfl
      case hQ306 => exact fun _ _ _ h => h
      case hS306 => assumption
      case hy306 => (refine Or.inl ⟨by rfl, ?_⟩; intro w hSw; (try dsimp only at hSw); go_simp; try with_reducible rfl)
      simp only [Act.put, List.setIfInBounds_toArray, List.set_cons_zero, List.set_cons_succ]
      refine wpAnyH_take (i := 6) (oi := ?oi315) (v := ?val315) ?hi315 ?hs315 ?hf315 ?hr315 ?hQ315 ?hy315 ?hS315 ?hrest315
      case hi315 => (simp only [List.getElem?_toArray, List.getElem?_cons_succ, List.getElem?_cons_zero] <;> exact rfl)
      case hs315 => kernel_rfl
      case hf315 => kernel_rfl
      case hr315 => kernel_rfl
      case hQ315 => exact fun _ _ _ h => h
      case hS315 => assumption
      case hy315 => (refine Or.inl ⟨by rfl, ?_⟩; intro w hSw; (try dsimp only at hSw); go_simp; try with_reducible rfl)
      simp only [Act.put, List.setIfInBounds_toArray, List.set_cons_zero, List.set_cons_succ]
      refine wpAnyH_take (i := 7) (oi := ?oi324) (v := ?val324) ?hi324 ?hs324 ?hf324 ?hr324 ?hQ324 ?hy324 ?hS324 ?hrest324
      case hi324 => (simp only [List.getElem?_toArray, List.getElem?_cons_succ, List.getElem?_cons_zero] <;> exact rfl)
      case hs324 => kernel_rfl
      case hf324 => kernel_rfl
      case hr324 => kernel_rfl
      case hQ324 => exact fun _ _ _ h => h
      case hS324 => assumption
      case hy324 => (refine Or.inl ⟨by rfl, ?_⟩; intro w hSw; (try dsimp only at hSw); go_simp; try with_reducible rfl)
      simp only [Act.put, List.setIfInBounds_toArray, List.set_cons_zero, List.set_cons_succ]
      refine wpAnyH_take (i := 8) (oi := ?oi333) (v := ?val333) ?hi333 ?hs333 ?hf333 ?hr333 ?hQ333 ?hy333 ?hS333 ?hrest333
      case hi333 => (simp only [List.getElem?_toArray, List.getElem?_cons_succ, List.getElem?_cons_zero] <;> exact rfl)
      case hs333 => kernel_rfl
      case hf333 => kernel_rfl
      case hr333 => kernel_rfl
      case hQ333 => exact fun _ _ _ h => h
      case hS333 => assumption
      case hy333 => (refine Or.inl ⟨by rfl, ?_⟩; intro w hSw; (try dsimp only at hSw); go_simp; try with_reducible rfl)
      simp only [Act.put, List.setIfInBounds_toArray, List.set_cons_zero, List.set_cons_succ]
      refine wpAnyH_take (i := 10) (oi := ?oi342) (v := ?val342) ?hi342 ?hs342 ?hf342 ?hr342 ?hQ342 ?hy342 ?hS342 ?hrest342
      case hi342 => (simp only [List.getElem?_toArray, List.getElem?_cons_succ, List.getElem?_cons_zero] <;> exact rfl)
      case hs342 => kernel_rfl
      case hf342 => kernel_rfl
      case hr342 => kernel_rfl
      case hQ342 => exact fun _ _ _ h => h
      case hS342 => assumption
      case hy342 => (refine Or.inl ⟨by rfl, ?_⟩; intro w hSw; (try dsimp only at hSw); go_simp; try with_reducible rfl)
      simp only [Act.put, List.setIfInBounds_toArray, List.set_cons_zero, List.set_cons_succ]
      refine wpAnyH_take (i := 11) (oi := ?oi351) (v := ?val351) ?hi351 ?hs351 ?hf351 ?hr351 ?hQ351 ?hy351 ?hS351 ?hrest351
      case hi351 => (simp only [List.getElem?_toArray, List.getElem?_cons_succ, List.getElem?_cons_zero] <;> exact rfl)
      case hs351 => kernel_rfl
      case hf351 => kernel_rfl
      case hr351 => kernel_rfl
      case hQ351 => exact fun _ _ _ h => h
      case hS351 => assumption
      case hy351 => (refine Or.inl ⟨by rfl, ?_⟩; intro w hSw; (try dsimp only at hSw); go_simp; try with_reducible rfl)
      simp only [Act.put, List.setIfInBounds_toArray, List.set_cons_zero, List.set_cons_succ]
      refine wpAnyH_take (i := 12) (oi := ?oi360) (v := ?val360) ?hi360 ?hs360 ?hf360 ?hr360 ?hQ360 ?hy360 ?hS360 ?hrest360
      case hi360 => (simp only [List.getElem?_toArray, List.getElem?_cons_succ, List.getElem?_cons_zero] <;> exact rfl)
      case hs360 => kernel_rfl
      case hf360 => kernel_rfl
      case hr360 => kernel_rfl
      case hQ360 => exact fun _ _ _ h => h
      case hS360 => assumption
      case hy360 => (refine Or.inl ⟨by rfl, ?_⟩; intro w hSw; (try dsimp only at hSw); go_simp; try with_reducible rfl)
      simp only [Act.put, List.setIfInBounds_toArray, List.set_cons_zero, List.set_cons_succ]
      refine wpAnyH_take (i := 13) (oi := ?oi369) (v := ?val369) ?hi369 ?hs369 ?hf369 ?hr369 ?hQ369 ?hy369 ?hS369 ?hrest369
      case hi369 => (simp only [List.getElem?_toArray, List.getElem?_cons_succ, List.getElem?_cons_zero] <;> exact rfl)
      case hs369 => kernel_rfl
      case hf369 => kernel_rfl
      case hr369 => kernel_rfl
      case hQ369 => exact fun _ _ _ h => h
      case hS369 => assumption
      case hy369 => (refine Or.inl ⟨by rfl, ?_⟩; intro w hSw; (try dsimp only at hSw); go_simp; try with_reducible rfl)
      simp only [Act.put, List.setIfInBounds_toArray, List.set_cons_zero, List.set_cons_succ]
      refine wpAnyH_take (i := 14) (oi := ?oi378) (v := ?val378) ?hi378 ?hs378 ?hf378 ?hr378 ?hQ378 ?hy378 ?hS378 ?hrest378
      case hi378 => (simp only [List.getElem?_toArray, List.getElem?_cons_succ, List.getElem?_cons_zero] <;> exact rfl)
      case hs378 => kernel_rfl
      case hf378 => kernel_rfl
      case hr378 => kernel_rfl
      case hQ378 => exact fun _ _ _ h => h
      case hS378 => assumption
      case hy378 => (refine Or.inl ⟨by rfl, ?_⟩; intro w hSw; (try dsimp only at hSw); go_simp; try with_reducible rfl)
      simp only [Act.put, List.setIfInBounds_toArray, List.set_cons_zero, List.set_cons_succ]
      apply meet5 (F := fun A c b1 b2 y => Below w.heap.size w y ∧ Rd y A (cellsOrder addO) ∧ Rd y (some ⟨b1, 0, none⟩) (strs [xa]) ∧ Rd y (some ⟨b2, 0, none⟩) (strs [es]))
      · intro hkey
        refine wpAnyH_ready (rs := [0, 9, 15]) (by kernel_rfl) (by simp) ?_
        refine AllReadyH.cons rfl (fun K hK => ?_) (AllReadyH.cons rfl (fun K hK => ?_) (AllReadyH.cons rfl (fun K hK => ?_) AllReadyH.nil))
        · skip
          go_simp
          with_reducible refine (addO_any _).mono ?_
          rintro e y1 ⟨A4, c5, rfl, oO6, b2⟩
          have hY3 := hY0.trans (b2.mono hY0.size)
          have rO7 := Rd.of_own oO6
          refine hK.out _ _ trivial (fun hHeld => ?_)
          clear hK K
          first | simp only [Act.put, List.setIfInBounds_toArray, List.set_cons_zero, List.set_cons_succ] | skip
          refine wpAnyH_ready (rs := [9, 15]) (by kernel_rfl) (by simp) ?_
          refine AllReadyH.cons rfl (fun K hK => ?_) (AllReadyH.cons rfl (fun K hK => ?_) AllReadyH.nil)
          · skip
            go_simp
            have hY9 := hY3.alloc hY3.size (.cells #[.string xa] 9)
            have r11 := rd_alloc1 y1 xa
            have kb12 := (Below.refl _ y1).alloc (Nat.le_refl _) (.cells #[.string xa] 9)
            have rO13 := rO7.keep kb12
            clear kb12
            refine hK.out _ _ trivial (fun hHeld => ?_)
            clear hK K
            first | simp only [Act.put, List.setIfInBounds_toArray, List.set_cons_zero, List.set_cons_succ] | skip
            obtain ⟨y8, hy⟩ : ∃ z, z = World.alloc y1 (.cells #[.string xa] 9) := ⟨_, rfl⟩
            obtain ⟨b10, hb⟩ : ∃ z, z = (World.heap y1).size := ⟨_, rfl⟩
            rw [← hy] at r11 hY9 rO13
            rw [← hb] at r11
            rw [← hy, ← hb]
            clear hy hb
            refine wpAnyH_ready (rs := [15]) (by kernel_rfl) (by simp) ?_
            refine AllReadyH.cons rfl (fun K hK => ?_) AllReadyH.nil
            go_simp
            have hY15 := hY9.alloc hY9.size (.cells #[.string es] 9)
            have r17 := rd_alloc1 y8 es
            have kb18 := (Below.refl _ y8).alloc (Nat.le_refl _) (.cells #[.string es] 9)
            have rO19 := rO13.keep kb18
            have r20 := r11.keep kb18
            clear kb18
            refine hK.out _ _ trivial (fun hHeld => ?_)
            clear hK K
            first | simp only [Act.put, List.setIfInBounds_toArray, List.set_cons_zero, List.set_cons_succ] | skip
            obtain ⟨y14, hy⟩ : ∃ z, z = World.alloc y8 (.cells #[.string es] 9) := ⟨_, rfl⟩
            obtain ⟨b16, hb⟩ : ∃ z, z = (World.heap y8).size := ⟨_, rfl⟩
            rw [← hy] at r17 hY15 rO19 r20
            rw [← hb] at r17
            rw [← hy, ← hb]
            clear hy hb
            exact hkey A4 c5 b10 b16 y14 ⟨hY15, rO19, r20, r17⟩
          · skip
            go_simp
            have hY22 := hY3.alloc hY3.size (.cells #[.string es] 9)
            have r24 := rd_alloc1 y1 es
            have kb25 := (Below.refl _ y1).alloc (Nat.le_refl _) (.cells #[.string es] 9)
            have rO26 := rO7.keep kb25
            clear kb25
            refine hK.out _ _ trivial (fun hHeld => ?_)
            clear hK K
            first | simp only [Act.put, List.setIfInBounds_toArray, List.set_cons_zero, List.set_cons_succ] | skip
            obtain ⟨y21, hy⟩ : ∃ z, z = World.alloc y1 (.cells #[.string es] 9) := ⟨_, rfl⟩
            obtain ⟨b23, hb⟩ : ∃ z, z = (World.heap y1).size := ⟨_, rfl⟩
            rw [← hy] at r24 hY22 rO26
            rw [← hb] at r24
            rw [← hy, ← hb]
            clear hy hb
            refine wpAnyH_ready (rs := [9]) (by kernel_rfl) (by simp) ?_
            refine AllReadyH.cons rfl (fun K hK => ?_) AllReadyH.nil
            go_simp
            have hY28 := hY22.alloc hY22.size (.cells #[.string xa] 9)
            have r30 := rd_alloc1 y21 xa
            have kb31 := (Below.refl _ y21).alloc (Nat.le_refl _) (.cells #[.string xa] 9)
            have rO32 := rO26.keep kb31
            have r33 := r24.keep kb31
            clear kb31
            refine hK.out _ _ trivial (fun hHeld => ?_)
            clear hK K
            first | simp only [Act.put, List.setIfInBounds_toArray, List.set_cons_zero, List.set_cons_succ] | skip
            obtain ⟨y27, hy⟩ : ∃ z, z = World.alloc y21 (.cells #[.string xa] 9) := ⟨_, rfl⟩
            obtain ⟨b29, hb⟩ : ∃ z, z = (World.heap y21).size := ⟨_, rfl⟩
            rw [← hy] at r30 hY28 rO32 r33
            rw [← hb] at r30
            rw [← hy, ← hb]
            clear hy hb
            exact hkey A4 c5 b29 b23 y27 ⟨hY28, rO32, r30, r33⟩
        · skip
          go_simp
          have hY35 := hY0.alloc hY0.size (.cells #[.string xa] 9)
          have r37 := rd_alloc1 y0 xa
          have kb38 := (Below.refl _ y0).alloc (Nat.le_refl _) (.cells #[.string xa] 9)
          clear kb38
          refine hK.out _ _ trivial (fun hHeld => ?_)
          clear hK K
          first | simp only [Act.put, List.setIfInBounds_toArray, List.set_cons_zero, List.set_cons_succ] | skip
          obtain ⟨y34, hy⟩ : ∃ z, z = World.alloc y0 (.cells #[.string xa] 9) := ⟨_, rfl⟩
          obtain ⟨b36, hb⟩ : ∃ z, z = (World.heap y0).size := ⟨_, rfl⟩
          rw [← hy] at r37 hY35
          rw [← hb] at r37
          rw [← hy, ← hb]
          clear hy hb
          refine wpAnyH_ready (rs := [0, 15]) (by kernel_rfl) (by simp) ?_
          refine AllReadyH.cons rfl (fun K hK => ?_) (AllReadyH.cons rfl (fun K hK => ?_) AllReadyH.nil)
          · skip
            go_simp
            with_reducible refine (addO_any _).mono ?_
            rintro e y39 ⟨A42, c43, rfl, oO44, b40⟩
            have hY41 := hY35.trans (b40.mono hY35.size)
            have rO45 := Rd.of_own oO44
            have r46 := r37.keep b40
            refine hK.out _ _ trivial (fun hHeld => ?_)
            clear hK K
            first | simp only [Act.put, List.setIfInBounds_toArray, List.set_cons_zero, List.set_cons_succ] | skip
            refine wpAnyH_ready (rs := [15]) (by kernel_rfl) (by simp) ?_
            refine AllReadyH.cons rfl (fun K hK => ?_) AllReadyH.nil
            go_simp
            have hY48 := hY41.alloc hY41.size (.cells #[.string es] 9)
            have r50 := rd_alloc1 y39 es
            have kb51 := (Below.refl _ y39).alloc (Nat.le_refl _) (.cells #[.string es] 9)
            have rO52 := rO45.keep kb51
            have r53 := r46.keep kb51
            clear kb51
            refine hK.out _ _ trivial (fun hHeld => ?_)
            clear hK K
            first | simp only [Act.put, List.setIfInBounds_toArray, List.set_cons_zero, List.set_cons_succ] | skip
            obtain ⟨y47, hy⟩ : ∃ z, z = World.alloc y39 (.cells #[.string es] 9) := ⟨_, rfl⟩
            obtain ⟨b49, hb⟩ : ∃ z, z = (World.heap y39).size := ⟨_, rfl⟩
            rw [← hy] at r50 hY48 rO52 r53
            rw [← hb] at r50
            rw [← hy, ← hb]
            clear hy hb
            exact hkey A42 c43 b36 b49 y47 ⟨hY48, rO52, r53, r50⟩
          · skip
            go_simp
            have hY55 := hY35.alloc hY35.size (.cells #[.string es] 9)
            have r57 := rd_alloc1 y34 es
            have kb58 := (Below.refl _ y34).alloc (Nat.le_refl _) (.cells #[.string es] 9)
            have r59 := r37.keep kb58
            clear kb58
            refine hK.out _ _ trivial (fun hHeld => ?_)
            clear hK K
            first | simp only [Act.put, List.setIfInBounds_toArray, List.set_cons_zero, List.set_cons_succ] | skip
            obtain ⟨y54, hy⟩ : ∃ z, z = World.alloc y34 (.cells #[.string es] 9) := ⟨_, rfl⟩
            obtain ⟨b56, hb⟩ : ∃ z, z = (World.heap y34).size := ⟨_, rfl⟩
            rw [← hy] at r57 hY55 r59
            rw [← hb] at r57
            rw [← hy, ← hb]
            clear hy hb
            refine wpAnyH_ready (rs := [0]) (by kernel_rfl) (by simp) ?_
            refine AllReadyH.cons rfl (fun K hK => ?_) AllReadyH.nil
            go_simp
            with_reducible refine (addO_any _).mono ?_
            rintro e y60 ⟨A63, c64, rfl, oO65, b61⟩
            have hY62 := hY55.trans (b61.mono hY55.size)
            have rO66 := Rd.of_own oO65
            have r67 := r59.keep b61
            have r68 := r57.keep b61
            refine hK.out _ _ trivial (fun hHeld => ?_)
            clear hK K
            first | simp only [Act.put, List.setIfInBounds_toArray, List.set_cons_zero, List.set_cons_succ] | skip
            exact hkey A63 c64 b36 b56 y60 ⟨hY62, rO66, r67, r68⟩
        · skip
          go_simp
          have hY70 := hY0.alloc hY0.size (.cells #[.string es] 9)
          have r72 := rd_alloc1 y0 es
          have kb73 := (Below.refl _ y0).alloc (Nat.le_refl _) (.cells #[.string es] 9)
          clear kb73
          refine hK.out _ _ trivial (fun hHeld => ?_)
          clear hK K
          first | simp only [Act.put, List.setIfInBounds_toArray, List.set_cons_zero, List.set_cons_succ] | skip
          obtain ⟨y69, hy⟩ : ∃ z, z = World.alloc y0 (.cells #[.string es] 9) := ⟨_, rfl⟩
          obtain ⟨b71, hb⟩ : ∃ z, z = (World.heap y0).size := ⟨_, rfl⟩
          rw [← hy] at r72 hY70
          rw [← hb] at r72
          rw [← hy, ← hb]
          clear hy hb
          refine wpAnyH_ready (rs := [0, 9]) (by kernel_rfl) (by simp) ?_
          refine AllReadyH.cons rfl (fun K hK => ?_) (AllReadyH.cons rfl (fun K hK => ?_) AllReadyH.nil)
          · skip
            go_simp
            with_reducible refine (addO_any _).mono ?_
            rintro e y74 ⟨A77, c78, rfl, oO79, b75⟩
            have hY76 := hY70.trans (b75.mono hY70.size)
            have rO80 := Rd.of_own oO79
            have r81 := r72.keep b75
            refine hK.out _ _ trivial (fun hHeld => ?_)
            clear hK K
            first | simp only [Act.put, List.setIfInBounds_toArray, List.set_cons_zero, List.set_cons_succ] | skip
            refine wpAnyH_ready (rs := [9]) (by kernel_rfl) (by simp) ?_
            refine AllReadyH.cons rfl (fun K hK => ?_) AllReadyH.nil
            go_simp
            have hY83 := hY76.alloc hY76.size (.cells #[.string xa] 9)
            have r85 := rd_alloc1 y74 xa
            have kb86 := (Below.refl _ y74).alloc (Nat.le_refl _) (.cells #[.string xa] 9)
            have rO87 := rO80.keep kb86
            have r88 := r81.keep kb86
            clear kb86
            refine hK.out _ _ trivial (fun hHeld => ?_)
            clear hK K
            first | simp only [Act.put, List.setIfInBounds_toArray, List.set_cons_zero, List.set_cons_succ] | skip
            obtain ⟨y82, hy⟩ : ∃ z, z = World.alloc y74 (.cells #[.string xa] 9) := ⟨_, rfl⟩
            obtain ⟨b84, hb⟩ : ∃ z, z = (World.heap y74).size := ⟨_, rfl⟩
            rw [← hy] at r85 hY83 rO87 r88
            rw [← hb] at r85
            rw [← hy, ← hb]
            clear hy hb
            exact hkey A77 c78 b84 b71 y82 ⟨hY83, rO87, r85, r88⟩
          · skip
            go_simp
            have hY90 := hY70.alloc hY70.size (.cells #[.string xa] 9)
            have r92 := rd_alloc1 y69 xa
            have kb93 := (Below.refl _ y69).alloc (Nat.le_refl _) (.cells #[.string xa] 9)
            have r94 := r72.keep kb93
            clear kb93
            refine hK.out _ _ trivial (fun hHeld => ?_)
            clear hK K
            first | simp only [Act.put, List.setIfInBounds_toArray, List.set_cons_zero, List.set_cons_succ] | skip
            obtain ⟨y89, hy⟩ : ∃ z, z = World.alloc y69 (.cells #[.string xa] 9) := ⟨_, rfl⟩
            obtain ⟨b91, hb⟩ : ∃ z, z = (World.heap y69).size := ⟨_, rfl⟩
            rw [← hy] at r92 hY90 r94
            rw [← hb] at r92
            rw [← hy, ← hb]
            clear hy hb
            refine wpAnyH_ready (rs := [0]) (by kernel_rfl) (by simp) ?_
            refine AllReadyH.cons rfl (fun K hK => ?_) AllReadyH.nil
            go_simp
            with_reducible refine (addO_any _).mono ?_
            rintro e y95 ⟨A98, c99, rfl, oO100, b96⟩
            have hY97 := hY90.trans (b96.mono hY90.size)
            have rO101 := Rd.of_own oO100
            have r102 := r92.keep b96
            have r103 := r94.keep b96
            refine hK.out _ _ trivial (fun hHeld => ?_)
            clear hK K
            first | simp only [Act.put, List.setIfInBounds_toArray, List.set_cons_zero, List.set_cons_succ] | skip
            exact hkey A98 c99 b91 b71 y95 ⟨hY97, rO101, r102, r103⟩
      intro A1 c1 p1 q1 z1 ⟨hZ1, rO1, rP1, rQ1⟩
      refine wpAnyH_ready (rs := [16]) (by kernel_rfl) (by simp) ?_
      refine AllReadyH.cons rfl (fun K hK => ?_) AllReadyH.nil
      (go_simp; (with_reducible refine (HC1.out A1 c1 p1 q1 z1 hZ1 rO1 rP1 rQ1).mono ?_); rintro e y1_ ⟨rfl, bY1⟩)
      refine hK.out _ _ (trivial) (fun hHeld2 => ?_)
      clear hK K hHeld
      have hHeld := hHeld2
      clear hHeld2
      first | simp only [Act.put, List.setIfInBounds_toArray, List.set_cons_zero, List.set_cons_succ] | skip
      have hY1_ := hZ1.trans (bY1.mono hZ1.size)
      clear bY1 hZ1 rO1 rP1 rQ1
      refine wpAnyH_take (i := 17) (oi := ?oi633) (v := ?val633) ?hi633 ?hs633 ?hf633 ?hr633 ?hQ633 ?hy633 ?hS633 ?hrest633
      case hi633 => (simp only [List.getElem?_toArray, List.getElem?_cons_succ, List.getElem?_cons_zero] <;> exact rfl)
      case hs633 => kernel_rfl
      case hf633 => kernel_rfl
      case hr633 => kernel_rfl
      case hQ633 => exact fun _ _ _ h => h
      case hS633 => assumption
      case hy633 => (refine Or.inl ⟨by rfl, ?_⟩; intro w hSw; (try dsimp only at hSw); go_simp; try with_reducible rfl)
      simp only [Act.put, List.setIfInBounds_toArray, List.set_cons_zero, List.set_cons_succ]
      refine wpAnyH_take (i := 18) (oi := ?oi642) (v := ?val642) ?hi642 ?hs642 ?hf642 ?hr642 ?hQ642 ?hy642 ?hS642 ?hrest642
      case hi642 => (simp only [List.getElem?_toArray, List.getElem?_cons_succ, List.getElem?_cons_zero] <;> exact rfl)
      case hs642 => kernel_rfl
      case hf642 => kernel_rfl
      case hr642 => kernel_rfl
      case hQ642 => exact fun _ _ _ h => h
      case hS642 => assumption
      case hy642 => (refine Or.inl ⟨by rfl, ?_⟩; intro w hSw; (try dsimp only at hSw); go_simp; try with_reducible rfl)
      simp only [Act.put, List.setIfInBounds_toArray, List.set_cons_zero, List.set_cons_succ]
      refine wpAnyH_take (i := 20) (oi := ?oi651) (v := ?val651) ?hi651 ?hs651 ?hf651 ?hr651 ?hQ651 ?hy651 ?hS651 ?hrest651
      case hi651 => (simp only [List.getElem?_toArray, List.getElem?_cons_succ, List.getElem?_cons_zero] <;> exact rfl)
      case hs651 => kernel_rfl
      case hf651 => kernel_rfl
      case hr651 => kernel_rfl
      case hQ651 => exact fun _ _ _ h => h
      case hS651 => assumption
      case hy651 => (refine Or.inl ⟨by rfl, ?_⟩; intro w hSw; (try dsimp only at hSw); go_simp; try with_reducible rfl)
      simp only [Act.put, List.setIfInBounds_toArray, List.set_cons_zero, List.set_cons_succ]
      refine wpAnyH_take (i := 22) (oi := ?oi660) (v := ?val660) ?hi660 ?hs660 ?hf660 ?hr660 ?hQ660 ?hy660 ?hS660 ?hrest660
      case hi660 => (simp only [List.getElem?_toArray, List.getElem?_cons_succ, List.getElem?_cons_zero] <;> exact rfl)
      case hs660 => kernel_rfl
      case hf660 => kernel_rfl
      case hr660 => kernel_rfl
      case hQ660 => exact fun _ _ _ h => h
      case hS660 => assumption
      case hy660 => (refine Or.inl ⟨by rfl, ?_⟩; intro w hSw; (try dsimp only at hSw); go_simp; try with_reducible rfl)
      simp only [Act.put, List.setIfInBounds_toArray, List.set_cons_zero, List.set_cons_succ]
      apply meet5 (F := fun A c b1 b2 y => Below w.heap.size w y ∧ Rd y A (cellsOrder srtO) ∧ Rd y (some ⟨b1, 0, none⟩) (strs [wd]) ∧ Rd y (some ⟨b2, 0, none⟩) (strs [cur]))
      · intro hkey
        refine wpAnyH_ready (rs := [19, 21, 23]) (by kernel_rfl) (by simp) ?_
        refine AllReadyH.cons rfl (fun K hK => ?_) (AllReadyH.cons rfl (fun K hK => ?_) (AllReadyH.cons rfl (fun K hK => ?_) AllReadyH.nil))
        · skip
          go_simp
          with_reducible refine (srtO_any _).mono ?_
          rintro e y104 ⟨A107, c108, rfl, oO109, b105⟩
          have hY106 := hY1_.trans (b105.mono hY1_.size)
          have rO110 := Rd.of_own oO109
          refine hK.out _ _ trivial (fun hHeld => ?_)
          clear hK K
          first | simp only [Act.put, List.setIfInBounds_toArray, List.set_cons_zero, List.set_cons_succ] | skip
          refine wpAnyH_ready (rs := [21, 23]) (by kernel_rfl) (by simp) ?_
          refine AllReadyH.cons rfl (fun K hK => ?_) (AllReadyH.cons rfl (fun K hK => ?_) AllReadyH.nil)
          · skip
            go_simp
            have hY112 := hY106.alloc hY106.size (.cells #[.string wd] 9)
            have r114 := rd_alloc1 y104 wd
            have kb115 := (Below.refl _ y104).alloc (Nat.le_refl _) (.cells #[.string wd] 9)
            have rO116 := rO110.keep kb115
            clear kb115
            refine hK.out _ _ trivial (fun hHeld => ?_)
            clear hK K
            first | simp only [Act.put, List.setIfInBounds_toArray, List.set_cons_zero, List.set_cons_succ] | skip
            obtain ⟨y111, hy⟩ : ∃ z, z = World.alloc y104 (.cells #[.string wd] 9) := ⟨_, rfl⟩
            obtain ⟨b113, hb⟩ : ∃ z, z = (World.heap y104).size := ⟨_, rfl⟩
            rw [← hy] at r114 hY112 rO116
            rw [← hb] at r114
            rw [← hy, ← hb]
            clear hy hb
            refine wpAnyH_ready (rs := [23]) (by kernel_rfl) (by simp) ?_
            refine AllReadyH.cons rfl (fun K hK => ?_) AllReadyH.nil
            go_simp
            have hY118 := hY112.alloc hY112.size (.cells #[.string cur] 9)
            have r120 := rd_alloc1 y111 cur
            have kb121 := (Below.refl _ y111).alloc (Nat.le_refl _) (.cells #[.string cur] 9)
            have rO122 := rO116.keep kb121
            have r123 := r114.keep kb121
            clear kb121
            refine hK.out _ _ trivial (fun hHeld => ?_)
            clear hK K
            first | simp only [Act.put, List.setIfInBounds_toArray, List.set_cons_zero, List.set_cons_succ] | skip
            obtain ⟨y117, hy⟩ : ∃ z, z = World.alloc y111 (.cells #[.string cur] 9) := ⟨_, rfl⟩
            obtain ⟨b119, hb⟩ : ∃ z, z = (World.heap y111).size := ⟨_, rfl⟩
            rw [← hy] at r120 hY118 rO122 r123
            rw [← hb] at r120
            rw [← hy, ← hb]
            clear hy hb
            exact hkey A107 c108 b113 b119 y117 ⟨hY118, rO122, r123, r120⟩
          · skip
            go_simp
            have hY125 := hY106.alloc hY106.size (.cells #[.string cur] 9)
            have r127 := rd_alloc1 y104 cur
            have kb128 := (Below.refl _ y104).alloc (Nat.le_refl _) (.cells #[.string cur] 9)
            have rO129 := rO110.keep kb128
            clear kb128
            refine hK.out _ _ trivial (fun hHeld => ?_)
            clear hK K
            first | simp only [Act.put, List.setIfInBounds_toArray, List.set_cons_zero, List.set_cons_succ] | skip
            obtain ⟨y124, hy⟩ : ∃ z, z = World.alloc y104 (.cells #[.string cur] 9) := ⟨_, rfl⟩
            obtain ⟨b126, hb⟩ : ∃ z, z = (World.heap y104).size := ⟨_, rfl⟩
            rw [← hy] at r127 hY125 rO129
            rw [← hb] at r127
            rw [← hy, ← hb]
            clear hy hb
            refine wpAnyH_ready (rs := [21]) (by kernel_rfl) (by simp) ?_
            refine AllReadyH.cons rfl (fun K hK => ?_) AllReadyH.nil
            go_simp
            have hY131 := hY125.alloc hY125.size (.cells #[.string wd] 9)
            have r133 := rd_alloc1 y124 wd
            have kb134 := (Below.refl _ y124).alloc (Nat.le_refl _) (.cells #[.string wd] 9)
            have rO135 := rO129.keep kb134
            have r136 := r127.keep kb134
            clear kb134
            refine hK.out _ _ trivial (fun hHeld => ?_)
            clear hK K
            first | simp only [Act.put, List.setIfInBounds_toArray, List.set_cons_zero, List.set_cons_succ] | skip
            obtain ⟨y130, hy⟩ : ∃ z, z = World.alloc y124 (.cells #[.string wd] 9) := ⟨_, rfl⟩
            obtain ⟨b132, hb⟩ : ∃ z, z = (World.heap y124).size := ⟨_, rfl⟩
            rw [← hy] at r133 hY131 rO135 r136
            rw [← hb] at r133
            rw [← hy, ← hb]
            clear hy hb
            exact hkey A107 c108 b132 b126 y130 ⟨hY131, rO135, r133, r136⟩
        · skip
          go_simp
          have hY138 := hY1_.alloc hY1_.size (.cells #[.string wd] 9)
          have r140 := rd_alloc1 y1_ wd
          have kb141 := (Below.refl _ y1_).alloc (Nat.le_refl _) (.cells #[.string wd] 9)
          clear kb141
          refine hK.out _ _ trivial (fun hHeld => ?_)
          clear hK K
          first | simp only [Act.put, List.setIfInBounds_toArray, List.set_cons_zero, List.set_cons_succ] | skip
          obtain ⟨y137, hy⟩ : ∃ z, z = World.alloc y1_ (.cells #[.string wd] 9) := ⟨_, rfl⟩
          obtain ⟨b139, hb⟩ : ∃ z, z = (World.heap y1_).size := ⟨_, rfl⟩
          rw [← hy] at r140 hY138
          rw [← hb] at r140
          rw [← hy, ← hb]
          clear hy hb
          refine wpAnyH_ready (rs := [19, 23]) (by kernel_rfl) (by simp) ?_
          refine AllReadyH.cons rfl (fun K hK => ?_) (AllReadyH.cons rfl (fun K hK => ?_) AllReadyH.nil)
          · skip
            go_simp
            with_reducible refine (srtO_any _).mono ?_
            rintro e y142 ⟨A145, c146, rfl, oO147, b143⟩
            have hY144 := hY138.trans (b143.mono hY138.size)
            have rO148 := Rd.of_own oO147
            have r149 := r140.keep b143
            refine hK.out _ _ trivial (fun hHeld => ?_)
            clear hK K
            first | simp only [Act.put, List.setIfInBounds_toArray, List.set_cons_zero, List.set_cons_succ] | skip
            refine wpAnyH_ready (rs := [23]) (by kernel_rfl) (by simp) ?_
            refine AllReadyH.cons rfl (fun K hK => ?_) AllReadyH.nil
            go_simp
            have hY151 := hY144.alloc hY144.size (.cells #[.string cur] 9)
            have r153 := rd_alloc1 y142 cur
            have kb154 := (Below.refl _ y142).alloc (Nat.le_refl _) (.cells #[.string cur] 9)
            have rO155 := rO148.keep kb154
            have r156 := r149.keep kb154
            clear kb154
            refine hK.out _ _ trivial (fun hHeld => ?_)
            clear hK K
            first | simp only [Act.put, List.setIfInBounds_toArray, List.set_cons_zero, List.set_cons_succ] | skip
            obtain ⟨y150, hy⟩ : ∃ z, z = World.alloc y142 (.cells #[.string cur] 9) := ⟨_, rfl⟩
            obtain ⟨b152, hb⟩ : ∃ z, z = (World.heap y142).size := ⟨_, rfl⟩
            rw [← hy] at r153 hY151 rO155 r156
            rw [← hb] at r153
            rw [← hy, ← hb]
            clear hy hb
            exact hkey A145 c146 b139 b152 y150 ⟨hY151, rO155, r156, r153⟩
          · skip
            go_simp
            have hY158 := hY138.alloc hY138.size (.cells #[.string cur] 9)
            have r160 := rd_alloc1 y137 cur
            have kb161 := (Below.refl _ y137).alloc (Nat.le_refl _) (.cells #[.string cur] 9)
            have r162 := r140.keep kb161
            clear kb161
            refine hK.out _ _ trivial (fun hHeld => ?_)
            clear hK K
            first | simp only [Act.put, List.setIfInBounds_toArray, List.set_cons_zero, List.set_cons_succ] | skip
            obtain ⟨y157, hy⟩ : ∃ z, z = World.alloc y137 (.cells #[.string cur] 9) := ⟨_, rfl⟩
            obtain ⟨b159, hb⟩ : ∃ z, z = (World.heap y137).size := ⟨_, rfl⟩
            rw [← hy] at r160 hY158 r162
            rw [← hb] at r160
            rw [← hy, ← hb]
            clear hy hb
            refine wpAnyH_ready (rs := [19]) (by kernel_rfl) (by simp) ?_
            refine AllReadyH.cons rfl (fun K hK => ?_) AllReadyH.nil
            go_simp
            with_reducible refine (srtO_any _).mono ?_
            rintro e y163 ⟨A166, c167, rfl, oO168, b164⟩
            have hY165 := hY158.trans (b164.mono hY158.size)
            have rO169 := Rd.of_own oO168
            have r170 := r162.keep b164
            have r171 := r160.keep b164
            refine hK.out _ _ trivial (fun hHeld => ?_)
            clear hK K
            first | simp only [Act.put, List.setIfInBounds_toArray, List.set_cons_zero, List.set_cons_succ] | skip
            exact hkey A166 c167 b139 b159 y163 ⟨hY165, rO169, r170, r171⟩
        · skip
          go_simp
          have hY173 := hY1_.alloc hY1_.size (.cells #[.string cur] 9)
          have r175 := rd_alloc1 y1_ cur
          have kb176 := (Below.refl _ y1_).alloc (Nat.le_refl _) (.cells #[.string cur] 9)
          clear kb176
          refine hK.out _ _ trivial (fun hHeld => ?_)
          clear hK K
          first | simp only [Act.put, List.setIfInBounds_toArray, List.set_cons_zero, List.set_cons_succ] | skip
          obtain ⟨y172, hy⟩ : ∃ z, z = World.alloc y1_ (.cells #[.string cur] 9) := ⟨_, rfl⟩
          obtain ⟨b174, hb⟩ : ∃ z, z = (World.heap y1_).size := ⟨_, rfl⟩
          rw [← hy] at r175 hY173
          rw [← hb] at r175
          rw [← hy, ← hb]
          clear hy hb
          refine wpAnyH_ready (rs := [19, 21]) (by kernel_rfl) (by simp) ?_
          refine AllReadyH.cons rfl (fun K hK => ?_) (AllReadyH.cons rfl (fun K hK => ?_) AllReadyH.nil)
          · skip
            go_simp
            with_reducible refine (srtO_any _).mono ?_
            rintro e y177 ⟨A180, c181, rfl, oO182, b178⟩
            have hY179 := hY173.trans (b178.mono hY173.size)
            have rO183 := Rd.of_own oO182
            have r184 := r175.keep b178
            refine hK.out _ _ trivial (fun hHeld => ?_)
            clear hK K
            first | simp only [Act.put, List.setIfInBounds_toArray, List.set_cons_zero, List.set_cons_succ] | skip
            refine wpAnyH_ready (rs := [21]) (by kernel_rfl) (by simp) ?_
            refine AllReadyH.cons rfl (fun K hK => ?_) AllReadyH.nil
            go_simp
            have hY186 := hY179.alloc hY179.size (.cells #[.string wd] 9)
            have r188 := rd_alloc1 y177 wd
            have kb189 := (Below.refl _ y177).alloc (Nat.le_refl _) (.cells #[.string wd] 9)
            have rO190 := rO183.keep kb189
            have r191 := r184.keep kb189
            clear kb189
            refine hK.out _ _ trivial (fun hHeld => ?_)
            clear hK K
            first | simp only [Act.put, List.setIfInBounds_toArray, List.set_cons_zero, List.set_cons_succ] | skip
            obtain ⟨y185, hy⟩ : ∃ z, z = World.alloc y177 (.cells #[.string wd] 9) := ⟨_, rfl⟩
            obtain ⟨b187, hb⟩ : ∃ z, z = (World.heap y177).size := ⟨_, rfl⟩
            rw [← hy] at r188 hY186 rO190 r191
            rw [← hb] at r188
            rw [← hy, ← hb]
            clear hy hb
            exact hkey A180 c181 b187 b174 y185 ⟨hY186, rO190, r188, r191⟩
          · skip
            go_simp
            have hY193 := hY173.alloc hY173.size (.cells #[.string wd] 9)
            have r195 := rd_alloc1 y172 wd
            have kb196 := (Below.refl _ y172).alloc (Nat.le_refl _) (.cells #[.string wd] 9)
            have r197 := r175.keep kb196
            clear kb196
            refine hK.out _ _ trivial (fun hHeld => ?_)
            clear hK K
            first | simp only [Act.put, List.setIfInBounds_toArray, List.set_cons_zero, List.set_cons_succ] | skip
            obtain ⟨y192, hy⟩ : ∃ z, z = World.alloc y172 (.cells #[.string wd] 9) := ⟨_, rfl⟩
            obtain ⟨b194, hb⟩ : ∃ z, z = (World.heap y172).size := ⟨_, rfl⟩
            rw [← hy] at r195 hY193 r197
            rw [← hb] at r195
            rw [← hy, ← hb]
            clear hy hb
            refine wpAnyH_ready (rs := [19]) (by kernel_rfl) (by simp) ?_
            refine AllReadyH.cons rfl (fun K hK => ?_) AllReadyH.nil
            go_simp
            with_reducible refine (srtO_any _).mono ?_
            rintro e y198 ⟨A201, c202, rfl, oO203, b199⟩
            have hY200 := hY193.trans (b199.mono hY193.size)
            have rO204 := Rd.of_own oO203
            have r205 := r195.keep b199
            have r206 := r197.keep b199
            refine hK.out _ _ trivial (fun hHeld => ?_)
            clear hK K
            first | simp only [Act.put, List.setIfInBounds_toArray, List.set_cons_zero, List.set_cons_succ] | skip
            exact hkey A201 c202 b194 b174 y198 ⟨hY200, rO204, r205, r206⟩
      intro A2 c2 p2 q2 z2 ⟨hZ2, rO2, rP2, rQ2⟩
      refine wpAnyH_ready (rs := [24]) (by kernel_rfl) (by simp) ?_
      refine AllReadyH.cons rfl (fun K hK => ?_) AllReadyH.nil
      (go_simp; (with_reducible refine (HC2.out A2 c2 p2 q2 z2 hZ2 rO2 rP2 rQ2).mono ?_); rintro e y2_ ⟨rfl, bY2⟩)
      refine hK.out _ _ (trivial) (fun hHeld2 => ?_)
      clear hK K hHeld
      have hHeld := hHeld2
      clear hHeld2
      first | simp only [Act.put, List.setIfInBounds_toArray, List.set_cons_zero, List.set_cons_succ] | skip
      have hY2_ := hZ2.trans (bY2.mono hZ2.size)
      clear bY2 hZ2 rO2 rP2 rQ2
      refine wpAnyH_take (i := 25) (oi := ?oi915) (v := ?val915) ?hi915 ?hs915 ?hf915 ?hr915 ?hQ915 ?hy915 ?hS915 ?hrest915
      case hi915 => (simp only [List.getElem?_toArray, List.getElem?_cons_succ, List.getElem?_cons_zero] <;> exact rfl)
      case hs915 => kernel_rfl
      case hf915 => kernel_rfl
      case hr915 => kernel_rfl
      case hQ915 => exact fun _ _ _ h => h
      case hS915 => assumption
      case hy915 => (refine Or.inl ⟨by rfl, ?_⟩; intro w hSw; (try dsimp only at hSw); go_simp; try with_reducible rfl)
      simp only [Act.put, List.setIfInBounds_toArray, List.set_cons_zero, List.set_cons_succ]
      refine wpAnyH_take (i := 26) (oi := ?oi924) (v := ?val924) ?hi924 ?hs924 ?hf924 ?hr924 ?hQ924 ?hy924 ?hS924 ?hrest924
      case hi924 => (simp only [List.getElem?_toArray, List.getElem?_cons_succ, List.getElem?_cons_zero] <;> exact rfl)
      case hs924 => kernel_rfl
      case hf924 => kernel_rfl
      case hr924 => kernel_rfl
      case hQ924 => exact fun _ _ _ h => h
      case hS924 => assumption
      case hy924 => (refine Or.inl ⟨by rfl, ?_⟩; intro w hSw; (try dsimp only at hSw); go_simp; try with_reducible rfl)
      simp only [Act.put, List.setIfInBounds_toArray, List.set_cons_zero, List.set_cons_succ]
      refine wpAnyH_take (i := 27) (oi := ?oi933) (v := ?val933) ?hi933 ?hs933 ?hf933 ?hr933 ?hQ933 ?hy933 ?hS933 ?hrest933
      case hi933 => (simp only [List.getElem?_toArray, List.getElem?_cons_succ, List.getElem?_cons_zero] <;> exact rfl)
      case hs933 => kernel_rfl
      case hf933 => kernel_rfl
      case hr933 => kernel_rfl
      case hQ933 => exact fun _ _ _ h => h
      case hS933 => assumption
      case hy933 => (refine Or.inl ⟨by rfl, ?_⟩; intro w hSw; (try dsimp only at hSw); go_simp; try with_reducible rfl)
      simp only [Act.put, List.setIfInBounds_toArray, List.set_cons_zero, List.set_cons_succ]
      refine wpAnyH_take (i := 29) (oi := ?oi942) (v := ?val942) ?hi942 ?hs942 ?hf942 ?hr942 ?hQ942 ?hy942 ?hS942 ?hrest942
      case hi942 => (simp only [List.getElem?_toArray, List.getElem?_cons_succ, List.getElem?_cons_zero] <;> exact rfl)
      case hs942 => kernel_rfl
      case hf942 => kernel_rfl
      case hr942 => kernel_rfl
      case hQ942 => exact fun _ _ _ h => h
      case hS942 => assumption
      case hy942 => (refine Or.inl ⟨by rfl, ?_⟩; intro w hSw; (try dsimp only at hSw); go_simp; try with_reducible rfl)
      simp only [Act.put, List.setIfInBounds_toArray, List.set_cons_zero, List.set_cons_succ]
      refine wpAnyH_take (i := 30) (oi := ?oi951) (v := ?val951) ?hi951 ?hs951 ?hf951 ?hr951 ?hQ951 ?hy951 ?hS951 ?hrest951
      case hi951 => (simp only [List.getElem?_toArray, List.getElem?_cons_succ, List.getElem?_cons_zero] <;> exact rfl)
      case hs951 => kernel_rfl
      case hf951 => kernel_rfl
      case hr951 => kernel_rfl
      case hQ951 => exact fun _ _ _ h => h
      case hS951 => assumption
      case hy951 => (refine Or.inl ⟨by rfl, ?_⟩; intro w hSw; (try dsimp only at hSw); go_simp; try with_reducible rfl)
      simp only [Act.put, List.setIfInBounds_toArray, List.set_cons_zero, List.set_cons_succ]
      refine wpAnyH_take (i := 31) (oi := ?oi960) (v := ?val960) ?hi960 ?hs960 ?hf960 ?hr960 ?hQ960 ?hy960 ?hS960 ?hrest960
      case hi960 => (simp only [List.getElem?_toArray, List.getElem?_cons_succ, List.getElem?_cons_zero] <;> exact rfl)
      case hs960 => kernel_rfl
      case hf960 => kernel_rfl
      case hr960 => kernel_rfl
      case hQ960 => exact fun _ _ _ h => h
      case hS960 => assumption
      case hy960 => (refine Or.inl ⟨by rfl, ?_⟩; intro w hSw; (try dsimp only at hSw); go_simp; try with_reducible rfl)
      simp only [Act.put, List.setIfInBounds_toArray, List.set_cons_zero, List.set_cons_succ]
      refine wpAnyH_take (i := 33) (oi := ?oi969) (v := ?val969) ?hi969 ?hs969 ?hf969 ?hr969 ?hQ969 ?hy969 ?hS969 ?hrest969
      case hi969 => (simp only [List.getElem?_toArray, List.getElem?_cons_succ, List.getElem?_cons_zero] <;> exact rfl)
      case hs969 => kernel_rfl
      case hf969 => kernel_rfl
      case hr969 => kernel_rfl
      case hQ969 => exact fun _ _ _ h => h
      case hS969 => assumption
      case hy969 => (refine Or.inl ⟨by rfl, ?_⟩; intro w hSw; (try dsimp only at hSw); go_simp; try with_reducible rfl)
      simp only [Act.put, List.setIfInBounds_toArray, List.set_cons_zero, List.set_cons_succ]
      refine wpAnyH_take (i := 34) (oi := ?oi978) (v := ?val978) ?hi978 ?hs978 ?hf978 ?hr978 ?hQ978 ?hy978 ?hS978 ?hrest978
      case hi978 => (simp only [List.getElem?_toArray, List.getElem?_cons_succ, List.getElem?_cons_zero] <;> exact rfl)
      case hs978 => kernel_rfl
      case hf978 => kernel_rfl
      case hr978 => kernel_rfl
      case hQ978 => exact fun _ _ _ h => h
      case hS978 => assumption
      case hy978 => (refine Or.inl ⟨by rfl, ?_⟩; intro w hSw; (try dsimp only at hSw); go_simp; try with_reducible rfl)
      simp only [Act.put, List.setIfInBounds_toArray, List.set_cons_zero, List.set_cons_succ]
      refine wpAnyH_take (i := 35) (oi := ?oi987) (v := ?val987) ?hi987 ?hs987 ?hf987 ?hr987 ?hQ987 ?hy987 ?hS987 ?hrest987
      case hi987 => (simp only [List.getElem?_toArray, List.getElem?_cons_succ, List.getElem?_cons_zero] <;> exact rfl)
      case hs987 => kernel_rfl
      case hf987 => kernel_rfl
      case hr987 => kernel_rfl
      case hQ987 => exact fun _ _ _ h => h
      case hS987 => assumption
      case hy987 => (refine Or.inl ⟨by rfl, ?_⟩; intro w hSw; (try dsimp only at hSw); go_simp; try with_reducible rfl)
      simp only [Act.put, List.setIfInBounds_toArray, List.set_cons_zero, List.set_cons_succ]
      refine wpAnyH_take (i := 36) (oi := ?oi996) (v := ?val996) ?hi996 ?hs996 ?hf996 ?hr996 ?hQ996 ?hy996 ?hS996 ?hrest996
      case hi996 => (simp only [List.getElem?_toArray, List.getElem?_cons_succ, List.getElem?_cons_zero] <;> exact rfl)
      case hs996 => kernel_rfl
      case hf996 => kernel_rfl
      case hr996 => kernel_rfl
      case hQ996 => exact fun _ _ _ h => h
      case hS996 => assumption
      case hy996 => (refine Or.inl ⟨by rfl, ?_⟩; intro w hSw; (try dsimp only at hSw); go_simp; try with_reducible rfl)
      simp only [Act.put, List.setIfInBounds_toArray, List.set_cons_zero, List.set_cons_succ]
      apply meet5 (F := fun A c b1 b2 y => Below w.heap.size w y ∧ Rd y A (cellsOrder dblO) ∧ Rd y (some ⟨b1, 0, none⟩) (strs [em]) ∧ Rd y (some ⟨b2, 0, none⟩) (strs [ed]))
      · intro hkey
        refine wpAnyH_ready (rs := [28, 32, 37]) (by kernel_rfl) (by simp) ?_
        refine AllReadyH.cons rfl (fun K hK => ?_) (AllReadyH.cons rfl (fun K hK => ?_) (AllReadyH.cons rfl (fun K hK => ?_) AllReadyH.nil))
        · skip
          go_simp
          with_reducible refine (dblO_any _).mono ?_
          rintro e y207 ⟨A210, c211, rfl, oO212, b208⟩
          have hY209 := hY2_.trans (b208.mono hY2_.size)
          have rO213 := Rd.of_own oO212
          refine hK.out _ _ trivial (fun hHeld => ?_)
          clear hK K
          first | simp only [Act.put, List.setIfInBounds_toArray, List.set_cons_zero, List.set_cons_succ] | skip
          refine wpAnyH_ready (rs := [32, 37]) (by kernel_rfl) (by simp) ?_
          refine AllReadyH.cons rfl (fun K hK => ?_) (AllReadyH.cons rfl (fun K hK => ?_) AllReadyH.nil)
          · skip
            go_simp
            have hY215 := hY209.alloc hY209.size (.cells #[.string em] 9)
            have r217 := rd_alloc1 y207 em
            have kb218 := (Below.refl _ y207).alloc (Nat.le_refl _) (.cells #[.string em] 9)
            have rO219 := rO213.keep kb218
            clear kb218
            refine hK.out _ _ trivial (fun hHeld => ?_)
            clear hK K
            first | simp only [Act.put, List.setIfInBounds_toArray, List.set_cons_zero, List.set_cons_succ] | skip
            obtain ⟨y214, hy⟩ : ∃ z, z = World.alloc y207 (.cells #[.string em] 9) := ⟨_, rfl⟩
            obtain ⟨b216, hb⟩ : ∃ z, z = (World.heap y207).size := ⟨_, rfl⟩
            rw [← hy] at r217 hY215 rO219
            rw [← hb] at r217
            rw [← hy, ← hb]
            clear hy hb
            refine wpAnyH_ready (rs := [37]) (by kernel_rfl) (by simp) ?_
            refine AllReadyH.cons rfl (fun K hK => ?_) AllReadyH.nil
            go_simp
            have hY221 := hY215.alloc hY215.size (.cells #[.string ed] 9)
            have r223 := rd_alloc1 y214 ed
            have kb224 := (Below.refl _ y214).alloc (Nat.le_refl _) (.cells #[.string ed] 9)
            have rO225 := rO219.keep kb224
            have r226 := r217.keep kb224
            clear kb224
            refine hK.out _ _ trivial (fun hHeld => ?_)
            clear hK K
            first | simp only [Act.put, List.setIfInBounds_toArray, List.set_cons_zero, List.set_cons_succ] | skip
            obtain ⟨y220, hy⟩ : ∃ z, z = World.alloc y214 (.cells #[.string ed] 9) := ⟨_, rfl⟩
            obtain ⟨b222, hb⟩ : ∃ z, z = (World.heap y214).size := ⟨_, rfl⟩
            rw [← hy] at r223 hY221 rO225 r226
            rw [← hb] at r223
            rw [← hy, ← hb]
            clear hy hb
            exact hkey A210 c211 b216 b222 y220 ⟨hY221, rO225, r226, r223⟩
          · skip
            go_simp
            have hY228 := hY209.alloc hY209.size (.cells #[.string ed] 9)
            have r230 := rd_alloc1 y207 ed
            have kb231 := (Below.refl _ y207).alloc (Nat.le_refl _) (.cells #[.string ed] 9)
            have rO232 := rO213.keep kb231
            clear kb231
            refine hK.out _ _ trivial (fun hHeld => ?_)
            clear hK K
            first | simp only [Act.put, List.setIfInBounds_toArray, List.set_cons_zero, List.set_cons_succ] | skip
            obtain ⟨y227, hy⟩ : ∃ z, z = World.alloc y207 (.cells #[.string ed] 9) := ⟨_, rfl⟩
            obtain ⟨b229, hb⟩ : ∃ z, z = (World.heap y207).size := ⟨_, rfl⟩
            rw [← hy] at r230 hY228 rO232
            rw [← hb] at r230
            rw [← hy, ← hb]
            clear hy hb
            refine wpAnyH_ready (rs := [32]) (by kernel_rfl) (by simp) ?_
            refine AllReadyH.cons rfl (fun K hK => ?_) AllReadyH.nil
            go_simp
            have hY234 := hY228.alloc hY228.size (.cells #[.string em] 9)
            have r236 := rd_alloc1 y227 em
            have kb237 := (Below.refl _ y227).alloc (Nat.le_refl _) (.cells #[.string em] 9)
            have rO238 := rO232.keep kb237
            have r239 := r230.keep kb237
            clear kb237
            refine hK.out _ _ trivial (fun hHeld => ?_)
            clear hK K
            first | simp only [Act.put, List.setIfInBounds_toArray, List.set_cons_zero, List.set_cons_succ] | skip
            obtain ⟨y233, hy⟩ : ∃ z, z = World.alloc y227 (.cells #[.string em] 9) := ⟨_, rfl⟩
            obtain ⟨b235, hb⟩ : ∃ z, z = (World.heap y227).size := ⟨_, rfl⟩
            rw [← hy] at r236 hY234 rO238 r239
            rw [← hb] at r236
            rw [← hy, ← hb]
            clear hy hb
            exact hkey A210 c211 b235 b229 y233 ⟨hY234, rO238, r236, r239⟩
        · skip
          go_simp
          have hY241 := hY2_.alloc hY2_.size (.cells #[.string em] 9)
          have r243 := rd_alloc1 y2_ em
          have kb244 := (Below.refl _ y2_).alloc (Nat.le_refl _) (.cells #[.string em] 9)
          clear kb244
          refine hK.out _ _ trivial (fun hHeld => ?_)
          clear hK K
          first | simp only [Act.put, List.setIfInBounds_toArray, List.set_cons_zero, List.set_cons_succ] | skip
          obtain ⟨y240, hy⟩ : ∃ z, z = World.alloc y2_ (.cells #[.string em] 9) := ⟨_, rfl⟩
          obtain ⟨b242, hb⟩ : ∃ z, z = (World.heap y2_).size := ⟨_, rfl⟩
          rw [← hy] at r243 hY241
          rw [← hb] at r243
          rw [← hy, ← hb]
          clear hy hb
          refine wpAnyH_ready (rs := [28, 37]) (by kernel_rfl) (by simp) ?_
          refine AllReadyH.cons rfl (fun K hK => ?_) (AllReadyH.cons rfl (fun K hK => ?_) AllReadyH.nil)
          · skip
            go_simp
            with_reducible refine (dblO_any _).mono ?_
            rintro e y245 ⟨A248, c249, rfl, oO250, b246⟩
            have hY247 := hY241.trans (b246.mono hY241.size)
            have rO251 := Rd.of_own oO250
            have r252 := r243.keep b246
            refine hK.out _ _ trivial (fun hHeld => ?_)
            clear hK K
            first | simp only [Act.put, List.setIfInBounds_toArray, List.set_cons_zero, List.set_cons_succ] | skip
            refine wpAnyH_ready (rs := [37]) (by kernel_rfl) (by simp) ?_
            refine AllReadyH.cons rfl (fun K hK => ?_) AllReadyH.nil
            go_simp
            have hY254 := hY247.alloc hY247.size (.cells #[.string ed] 9)
            have r256 := rd_alloc1 y245 ed
            have kb257 := (Below.refl _ y245).alloc (Nat.le_refl _) (.cells #[.string ed] 9)
            have rO258 := rO251.keep kb257
            have r259 := r252.keep kb257
            clear kb257
            refine hK.out _ _ trivial (fun hHeld => ?_)
            clear hK K
            first | simp only [Act.put, List.setIfInBounds_toArray, List.set_cons_zero, List.set_cons_succ] | skip
            obtain ⟨y253, hy⟩ : ∃ z, z = World.alloc y245 (.cells #[.string ed] 9) := ⟨_, rfl⟩
            obtain ⟨b255, hb⟩ : ∃ z, z = (World.heap y245).size := ⟨_, rfl⟩
            rw [← hy] at r256 hY254 rO258 r259
            rw [← hb] at r256
            rw [← hy, ← hb]
            clear hy hb
            exact hkey A248 c249 b242 b255 y253 ⟨hY254, rO258, r259, r256⟩
          · skip
            go_simp
            have hY261 := hY241.alloc hY241.size (.cells #[.string ed] 9)
            have r263 := rd_alloc1 y240 ed
            have kb264 := (Below.refl _ y240).alloc (Nat.le_refl _) (.cells #[.string ed] 9)
            have r265 := r243.keep kb264
            clear kb264
            refine hK.out _ _ trivial (fun hHeld => ?_)
            clear hK K
            first | simp only [Act.put, List.setIfInBounds_toArray, List.set_cons_zero, List.set_cons_succ] | skip
            obtain ⟨y260, hy⟩ : ∃ z, z = World.alloc y240 (.cells #[.string ed] 9) := ⟨_, rfl⟩
            obtain ⟨b262, hb⟩ : ∃ z, z = (World.heap y240).size := ⟨_, rfl⟩
            rw [← hy] at r263 hY261 r265
            rw [← hb] at r263
            rw [← hy, ← hb]
            clear hy hb
            refine wpAnyH_ready (rs := [28]) (by kernel_rfl) (by simp) ?_
            refine AllReadyH.cons rfl (fun K hK => ?_) AllReadyH.nil
            go_simp
            with_reducible refine (dblO_any _).mono ?_
            rintro e y266 ⟨A269, c270, rfl, oO271, b267⟩
            have hY268 := hY261.trans (b267.mono hY261.size)
            have rO272 := Rd.of_own oO271
            have r273 := r265.keep b267
            have r274 := r263.keep b267
            refine hK.out _ _ trivial (fun hHeld => ?_)
            clear hK K
            first | simp only [Act.put, List.setIfInBounds_toArray, List.set_cons_zero, List.set_cons_succ] | skip
            exact hkey A269 c270 b242 b262 y266 ⟨hY268, rO272, r273, r274⟩
        · skip
          go_simp
          have hY276 := hY2_.alloc hY2_.size (.cells #[.string ed] 9)
          have r278 := rd_alloc1 y2_ ed
          have kb279 := (Below.refl _ y2_).alloc (Nat.le_refl _) (.cells #[.string ed] 9)
          clear kb279
          refine hK.out _ _ trivial (fun hHeld => ?_)
          clear hK K
          first | simp only [Act.put, List.setIfInBounds_toArray, List.set_cons_zero, List.set_cons_succ] | skip
          obtain ⟨y275, hy⟩ : ∃ z, z = World.alloc y2_ (.cells #[.string ed] 9) := ⟨_, rfl⟩
          obtain ⟨b277, hb⟩ : ∃ z, z = (World.heap y2_).size := ⟨_, rfl⟩
          rw [← hy] at r278 hY276
          rw [← hb] at r278
          rw [← hy, ← hb]
          clear hy hb
          refine wpAnyH_ready (rs := [28, 32]) (by kernel_rfl) (by simp) ?_
          refine AllReadyH.cons rfl (fun K hK => ?_) (AllReadyH.cons rfl (fun K hK => ?_) AllReadyH.nil)
          · skip
            go_simp
            with_reducible refine (dblO_any _).mono ?_
            rintro e y280 ⟨A283, c284, rfl, oO285, b281⟩
            have hY282 := hY276.trans (b281.mono hY276.size)
            have rO286 := Rd.of_own oO285
            have r287 := r278.keep b281
            refine hK.out _ _ trivial (fun hHeld => ?_)
            clear hK K
            first | simp only [Act.put, List.setIfInBounds_toArray, List.set_cons_zero, List.set_cons_succ] | skip
            refine wpAnyH_ready (rs := [32]) (by kernel_rfl) (by simp) ?_
            refine AllReadyH.cons rfl (fun K hK => ?_) AllReadyH.nil
            go_simp
            have hY289 := hY282.alloc hY282.size (.cells #[.string em] 9)
            have r291 := rd_alloc1 y280 em
            have kb292 := (Below.refl _ y280).alloc (Nat.le_refl _) (.cells #[.string em] 9)
            have rO293 := rO286.keep kb292
            have r294 := r287.keep kb292
            clear kb292
            refine hK.out _ _ trivial (fun hHeld => ?_)
            clear hK K
            first | simp only [Act.put, List.setIfInBounds_toArray, List.set_cons_zero, List.set_cons_succ] | skip
            obtain ⟨y288, hy⟩ : ∃ z, z = World.alloc y280 (.cells #[.string em] 9) := ⟨_, rfl⟩
            obtain ⟨b290, hb⟩ : ∃ z, z = (World.heap y280).size := ⟨_, rfl⟩
            rw [← hy] at r291 hY289 rO293 r294
            rw [← hb] at r291
            rw [← hy, ← hb]
            clear hy hb
            exact hkey A283 c284 b290 b277 y288 ⟨hY289, rO293, r291, r294⟩
          · skip
            go_simp
            have hY296 := hY276.alloc hY276.size (.cells #[.string em] 9)
            have r298 := rd_alloc1 y275 em
            have kb299 := (Below.refl _ y275).alloc (Nat.le_refl _) (.cells #[.string em] 9)
            have r300 := r278.keep kb299
            clear kb299
            refine hK.out _ _ trivial (fun hHeld => ?_)
            clear hK K
            first | simp only [Act.put, List.setIfInBounds_toArray, List.set_cons_zero, List.set_cons_succ] | skip
            obtain ⟨y295, hy⟩ : ∃ z, z = World.alloc y275 (.cells #[.string em] 9) := ⟨_, rfl⟩
            obtain ⟨b297, hb⟩ : ∃ z, z = (World.heap y275).size := ⟨_, rfl⟩
            rw [← hy] at r298 hY296 r300
            rw [← hb] at r298
            rw [← hy, ← hb]
            clear hy hb
            refine wpAnyH_ready (rs := [28]) (by kernel_rfl) (by simp) ?_
            refine AllReadyH.cons rfl (fun K hK => ?_) AllReadyH.nil
            go_simp
            with_reducible refine (dblO_any _).mono ?_
            rintro e y301 ⟨A304, c305, rfl, oO306, b302⟩
            have hY303 := hY296.trans (b302.mono hY296.size)
            have rO307 := Rd.of_own oO306
            have r308 := r298.keep b302
            have r309 := r300.keep b302
            refine hK.out _ _ trivial (fun hHeld => ?_)
            clear hK K
            first | simp only [Act.put, List.setIfInBounds_toArray, List.set_cons_zero, List.set_cons_succ] | skip
            exact hkey A304 c305 b297 b277 y301 ⟨hY303, rO307, r308, r309⟩
      intro A3 c3 p3 q3 z3 ⟨hZ3, rO3, rP3, rQ3⟩
      refine wpAnyH_ready (rs := [38]) (by kernel_rfl) (by simp) ?_
      refine AllReadyH.cons rfl (fun K hK => ?_) AllReadyH.nil
      (go_simp; (with_reducible refine (HC3.out A3 c3 p3 q3 z3 hZ3 rO3 rP3 rQ3).mono ?_); rintro e y3_ ⟨rfl, bY3⟩)
      refine hK.out _ _ (trivial) (fun hHeld2 => ?_)
      clear hK K hHeld
      have hHeld := hHeld2
      clear hHeld2
      first | simp only [Act.put, List.setIfInBounds_toArray, List.set_cons_zero, List.set_cons_succ] | skip
      have hY3_ := hZ3.trans (bY3.mono hZ3.size)
      clear bY3 hZ3 rO3 rP3 rQ3
      refine wpAnyH_take (i := 39) (oi := ?oi1251) (v := ?val1251) ?hi1251 ?hs1251 ?hf1251 ?hr1251 ?hQ1251 ?hy1251 ?hS1251 ?hrest1251
      case hi1251 => (simp only [List.getElem?_toArray, List.getElem?_cons_succ, List.getElem?_cons_zero] <;> exact rfl)
      case hs1251 => kernel_rfl
      case hf1251 => kernel_rfl
      case hr1251 => kernel_rfl
      case hQ1251 => exact fun _ _ _ h => h
      case hS1251 => assumption
      case hy1251 => (refine Or.inl ⟨by rfl, ?_⟩; intro w hSw; (try dsimp only at hSw); go_simp; try with_reducible rfl)
      simp only [Act.put, List.setIfInBounds_toArray, List.set_cons_zero, List.set_cons_succ]
      refine wpAnyH_take (i := 40) (oi := ?oi1260) (v := ?val1260) ?hi1260 ?hs1260 ?hf1260 ?hr1260 ?hQ1260 ?hy1260 ?hS1260 ?hrest1260
      case hi1260 => (simp only [List.getElem?_toArray, List.getElem?_cons_succ, List.getElem?_cons_zero] <;> exact rfl)
      case hs1260 => kernel_rfl
      case hf1260 => kernel_rfl
      case hr1260 => kernel_rfl
      case hQ1260 => exact fun _ _ _ h => h
      case hS1260 => assumption
      case hy1260 => (refine Or.inl ⟨by rfl, ?_⟩; intro w hSw; (try dsimp only at hSw); go_simp; try with_reducible rfl)
      simp only [Act.put, List.setIfInBounds_toArray, List.set_cons_zero, List.set_cons_succ]
      refine wpAnyH_done (by kernel_rfl) ?_ _
      clear hHeld
      go_wp2_with fail
      refine wp_region_held_drew (S := (fun _ => True)) (by kernel_rfl) (trivial) (fun hHeld => ?_)
      obtain ⟨y4_, hy4⟩ : ∃ z, z = World.drew y3_ := ⟨_, rfl⟩
      have hY4_ := hY3_.drew
      rw [← hy4] at hY4_
      rw [← hy4]
      clear hy4
      refine wpAnyH_take (i := 1) (oi := ?oi1278) (v := ?val1278) ?hi1278 ?hs1278 ?hf1278 ?hr1278 ?hQ1278 ?hy1278 ?hS1278 ?hrest1278
      case hi1278 => (simp only [List.getElem?_toArray, List.getElem?_cons_succ, List.getElem?_cons_zero] <;> exact rfl)
      case hs1278 => kernel_rfl
      case hf1278 => kernel_rfl
      case hr1278 => kernel_rfl
      case hQ1278 => exact fun _ _ _ h => h
      case hS1278 => assumption
      case hy1278 => (refine Or.inl ⟨by rfl, ?_⟩; intro w hSw; (try dsimp only at hSw); go_simp; try with_reducible rfl)
      simp only [Act.put, List.setIfInBounds_toArray, List.set_cons_zero, List.set_cons_succ]
      refine wpAnyH_take (i := 2) (oi := ?oi1287) (v := ?val1287) ?hi1287 ?hs1287 ?hf1287 ?hr1287 ?hQ1287 ?hy1287 ?hS1287 ?hrest1287
      case hi1287 => (simp only [List.getElem?_toArray, List.getElem?_cons_succ, List.getElem?_cons_zero] <;> exact rfl)
      case hs1287 => kernel_rfl
      case hf1287 => kernel_rfl
      case hr1287 => kernel_rfl
      case hQ1287 => exact fun _ _ _ h => h
      case hS1287 => assumption
      case hy1287 => (refine Or.inl ⟨by rfl, ?_⟩; intro w hSw; (try dsimp only at hSw); go_simp; try with_reducible rfl)
      simp only [Act.put, List.setIfInBounds_toArray, List.set_cons_zero, List.set_cons_succ]
      refine wpAnyH_take (i := 3) (oi := ?oi1296) (v := ?val1296) ?hi1296 ?hs1296 ?hf1296 ?hr1296 ?hQ1296 ?hy1296 ?hS1296 ?hrest1296
      case hi1296 => (simp only [List.getElem?_toArray, List.getElem?_cons_succ, List.getElem?_cons_zero] <;> exact rfl)
      case hs1296 => kernel_rfl
      case hf1296 => kernel_rfl
      case hr1296 => kernel_rfl
      case hQ1296 => exact fun _ _ _ h => h
      case hS1296 => assumption
      case hy1296 => (refine Or.inl ⟨by rfl, ?_⟩; intro w hSw; (try dsimp only at hSw); go_simp; try with_reducible rfl)
      simp only [Act.put, List.setIfInBounds_toArray, List.set_cons_zero, List.set_cons_succ]
      apply meet4 (F := fun A c b1 y => Below w.heap.size w y ∧ Bk y b1 31 #[.string ⟨#[]⟩, .int .i64 0, .int .i64 0] ∧ w.heap.size ≤ b1)
      · intro hkey
        refine wpAnyH_ready (rs := [0, 5]) (by kernel_rfl) (by simp) ?_
        refine AllReadyH.cons rfl (fun K hK => ?_) (AllReadyH.cons rfl (fun K hK => ?_) AllReadyH.nil)
        · skip
          go_simp
          with_reducible refine (dblO_any _).mono ?_
          rintro e y310 ⟨A313, c314, rfl, oO315, b311⟩
          have hY312 := hY4_.trans (b311.mono hY4_.size)
          have rO316 := Rd.of_own oO315
          refine hK.out _ _ trivial (fun hHeld => ?_)
          clear hK K
          first | simp only [Act.put, List.setIfInBounds_toArray, List.set_cons_zero, List.set_cons_succ] | skip
          refine wpAnyH_ready (rs := [4, 5]) (by kernel_rfl) (by simp) ?_
          refine AllReadyH.cons rfl (fun K hK => ?_) (AllReadyH.cons rfl (fun K hK => ?_) AllReadyH.nil)
          · skip
            go_simp
            with_reducible refine (HRA.out A313 c314 y310 hY312 rO316).mono ?_
            rintro e y317 ⟨rfl, b318⟩
            have hY319 := hY312.trans (b318.mono hY312.size)
            refine hK.out _ _ trivial (fun hHeld => ?_)
            clear hK K
            first | simp only [Act.put, List.setIfInBounds_toArray, List.set_cons_zero, List.set_cons_succ] | skip
            refine wpAnyH_ready (rs := [5]) (by kernel_rfl) (by simp) ?_
            refine AllReadyH.cons rfl (fun K hK => ?_) AllReadyH.nil
            go_simp
            have hY321 := hY319.alloc hY319.size (.cells #[.string ⟨#[]⟩, .int .i64 0, .int .i64 0] 31)
            have bk323 := Bk.new y317 31 #[.string ⟨#[]⟩, .int .i64 0, .int .i64 0]
            have le324 : w.heap.size ≤ (World.heap y317).size := hY319.size
            refine hK.out _ _ trivial (fun hHeld => ?_)
            clear hK K
            first | simp only [Act.put, List.setIfInBounds_toArray, List.set_cons_zero, List.set_cons_succ] | skip
            obtain ⟨y320, hy⟩ : ∃ z, z = World.alloc y317 (.cells #[.string ⟨#[]⟩, .int .i64 0, .int .i64 0] 31) := ⟨_, rfl⟩
            obtain ⟨b322, hb⟩ : ∃ z, z = (World.heap y317).size := ⟨_, rfl⟩
            rw [← hy] at bk323 hY321
            rw [← hb] at bk323 le324
            rw [← hy, ← hb]
            clear hy hb
            exact hkey A313 c314 b322 y320 ⟨hY321, bk323, le324⟩
          · skip
            go_simp
            have hY326 := hY312.alloc hY312.size (.cells #[.string ⟨#[]⟩, .int .i64 0, .int .i64 0] 31)
            have bk328 := Bk.new y310 31 #[.string ⟨#[]⟩, .int .i64 0, .int .i64 0]
            have le329 : w.heap.size ≤ (World.heap y310).size := hY312.size
            have rO330 := rO316.keep ((Below.refl _ y310).alloc (Nat.le_refl _) (.cells #[.string ⟨#[]⟩, .int .i64 0, .int .i64 0] 31))
            refine hK.out _ _ trivial (fun hHeld => ?_)
            clear hK K
            first | simp only [Act.put, List.setIfInBounds_toArray, List.set_cons_zero, List.set_cons_succ] | skip
            obtain ⟨y325, hy⟩ : ∃ z, z = World.alloc y310 (.cells #[.string ⟨#[]⟩, .int .i64 0, .int .i64 0] 31) := ⟨_, rfl⟩
            obtain ⟨b327, hb⟩ : ∃ z, z = (World.heap y310).size := ⟨_, rfl⟩
            rw [← hy] at bk328 hY326 rO330
            rw [← hb] at bk328 le329
            rw [← hy, ← hb]
            clear hy hb
            refine wpAnyH_ready (rs := [4]) (by kernel_rfl) (by simp) ?_
            refine AllReadyH.cons rfl (fun K hK => ?_) AllReadyH.nil
            go_simp
            with_reducible refine (HRA.out A313 c314 y325 hY326 rO330).mono ?_
            rintro e y331 ⟨rfl, b332⟩
            have hY333 := hY326.trans (b332.mono hY326.size)
            have bk334 := bk328.below b332 bk328.lt
            refine hK.out _ _ trivial (fun hHeld => ?_)
            clear hK K
            first | simp only [Act.put, List.setIfInBounds_toArray, List.set_cons_zero, List.set_cons_succ] | skip
            exact hkey A313 c314 b327 y331 ⟨hY333, bk334, le329⟩
        · skip
          go_simp
          have hY336 := hY4_.alloc hY4_.size (.cells #[.string ⟨#[]⟩, .int .i64 0, .int .i64 0] 31)
          have bk338 := Bk.new y4_ 31 #[.string ⟨#[]⟩, .int .i64 0, .int .i64 0]
          have le339 : w.heap.size ≤ (World.heap y4_).size := hY4_.size
          refine hK.out _ _ trivial (fun hHeld => ?_)
          clear hK K
          first | simp only [Act.put, List.setIfInBounds_toArray, List.set_cons_zero, List.set_cons_succ] | skip
          obtain ⟨y335, hy⟩ : ∃ z, z = World.alloc y4_ (.cells #[.string ⟨#[]⟩, .int .i64 0, .int .i64 0] 31) := ⟨_, rfl⟩
          obtain ⟨b337, hb⟩ : ∃ z, z = (World.heap y4_).size := ⟨_, rfl⟩
          rw [← hy] at bk338 hY336
          rw [← hb] at bk338 le339
          rw [← hy, ← hb]
          clear hy hb
          refine wpAnyH_ready (rs := [0]) (by kernel_rfl) (by simp) ?_
          refine AllReadyH.cons rfl (fun K hK => ?_) AllReadyH.nil
          go_simp
          with_reducible refine (dblO_any _).mono ?_
          rintro e y340 ⟨A343, c344, rfl, oO345, b341⟩
          have hY342 := hY336.trans (b341.mono hY336.size)
          have rO346 := Rd.of_own oO345
          have bk347 := bk338.below b341 bk338.lt
          refine hK.out _ _ trivial (fun hHeld => ?_)
          clear hK K
          first | simp only [Act.put, List.setIfInBounds_toArray, List.set_cons_zero, List.set_cons_succ] | skip
          refine wpAnyH_ready (rs := [4]) (by kernel_rfl) (by simp) ?_
          refine AllReadyH.cons rfl (fun K hK => ?_) AllReadyH.nil
          go_simp
          with_reducible refine (HRA.out A343 c344 y340 hY342 rO346).mono ?_
          rintro e y348 ⟨rfl, b349⟩
          have hY350 := hY342.trans (b349.mono hY342.size)
          have bk351 := bk347.below b349 bk347.lt
          refine hK.out _ _ trivial (fun hHeld => ?_)
          clear hK K
          first | simp only [Act.put, List.setIfInBounds_toArray, List.set_cons_zero, List.set_cons_succ] | skip
          exact hkey A343 c344 b337 y348 ⟨hY350, bk351, le339⟩
      intro A4 c4 T z4 ⟨hZ4, bk4, lT⟩
      have r4_0 : z4.cell? ⟨T, 0, none⟩ = some (.string ⟨#[]⟩) := by rw [bk4.cell]; rfl
      have r4_1 : z4.cell? ⟨T, 1, none⟩ = some (.int .i64 0) := by rw [bk4.cell]; rfl
      have r4_2 : z4.cell? ⟨T, 2, none⟩ = some (.int .i64 0) := by rw [bk4.cell]; rfl
      have f4_0 := bk4.free 0
      have f4_1 := bk4.free 1
      have f4_2 := bk4.free 2
      have tl4 := bk4.lt
      have hBk := ((bk4.put 0 (.string ed)).put 1 (.int .i64 ((m : Int) + 2))).put 2 (.int .i64 0)
      have hY5_ := ((hZ4.setCell (p := ⟨T, 0, none⟩) lT (.string ed)).setCell (p := ⟨T, 1, none⟩) lT (.int .i64 ((m : Int) + 2))).setCell (p := ⟨T, 2, none⟩) lT (.int .i64 0)
      refine wpAnyH_ready (rs := [6]) (by kernel_rfl) (by simp) ?_
      refine AllReadyH.cons rfl (fun K hK => ?_) AllReadyH.nil
      (go_simp)
      refine hK.out _ _ (trivial) (fun hHeld2 => ?_)
      clear hK K hHeld
      have hHeld := hHeld2
      clear hHeld2
      first | simp only [Act.put, List.setIfInBounds_toArray, List.set_cons_zero, List.set_cons_succ] | skip
      obtain ⟨y5_, hy5⟩ : ∃ z, z = (((World.setCell z4 ⟨T, 0, none⟩ (.string ed)).setCell ⟨T, 1, none⟩ (.int .i64 ((m : Int) + 2))).setCell ⟨T, 2, none⟩ (.int .i64 0)) := ⟨_, rfl⟩
      rw [← hy5] at hY5_ hBk
      rw [← hy5]
      clear hy5 r4_0 r4_1 r4_2 f4_0 f4_1 f4_2 tl4 bk4 hZ4
      refine wpAnyH_done (by kernel_rfl) ?_ _
      clear hHeld
      go_wp2_with fail
      refine wp_region_held_drew (S := (fun _ => True)) (by kernel_rfl) (trivial) (fun hHeld => ?_)
      obtain ⟨y6_, hy6⟩ : ∃ z, z = World.drew y5_ := ⟨_, rfl⟩
      have hY6_ := hY5_.drew
      have bk6 := hBk.drew
      rw [← hy6] at hY6_ bk6
      rw [← hy6]
      clear hy6 hBk
      refine wpAnyH_take (i := 1) (oi := ?oi1438) (v := ?val1438) ?hi1438 ?hs1438 ?hf1438 ?hr1438 ?hQ1438 ?hy1438 ?hS1438 ?hrest1438
      case hi1438 => (simp only [List.getElem?_toArray, List.getElem?_cons_succ, List.getElem?_cons_zero] <;> exact rfl)
      case hs1438 => kernel_rfl
      case hf1438 => kernel_rfl
      case hr1438 => kernel_rfl
      case hQ1438 => exact fun _ _ _ h => h
      case hS1438 => assumption
      case hy1438 => (refine Or.inl ⟨by rfl, ?_⟩; intro w hSw; (try dsimp only at hSw); go_simp; try with_reducible rfl)
      simp only [Act.put, List.setIfInBounds_toArray, List.set_cons_zero, List.set_cons_succ]
      refine wpAnyH_take (i := 2) (oi := ?oi1447) (v := ?val1447) ?hi1447 ?hs1447 ?hf1447 ?hr1447 ?hQ1447 ?hy1447 ?hS1447 ?hrest1447
      case hi1447 => (simp only [List.getElem?_toArray, List.getElem?_cons_succ, List.getElem?_cons_zero] <;> exact rfl)
      case hs1447 => kernel_rfl
      case hf1447 => kernel_rfl
      case hr1447 => kernel_rfl
      case hQ1447 => exact fun _ _ _ h => h
      case hS1447 => assumption
      case hy1447 => (refine Or.inl ⟨by rfl, ?_⟩; intro w hSw; (try dsimp only at hSw); go_simp; try with_reducible rfl)
      simp only [Act.put, List.setIfInBounds_toArray, List.set_cons_zero, List.set_cons_succ]
      refine wpAnyH_take (i := 3) (oi := ?oi1456) (v := ?val1456) ?hi1456 ?hs1456 ?hf1456 ?hr1456 ?hQ1456 ?hy1456 ?hS1456 ?hrest1456
      case hi1456 => (simp only [List.getElem?_toArray, List.getElem?_cons_succ, List.getElem?_cons_zero] <;> exact rfl)
      case hs1456 => kernel_rfl
      case hf1456 => kernel_rfl
      case hr1456 => kernel_rfl
      case hQ1456 => exact fun _ _ _ h => h
      case hS1456 => assumption
      case hy1456 => (refine Or.inl ⟨by rfl, ?_⟩; intro w hSw; (try dsimp only at hSw); go_simp; try with_reducible rfl)
      simp only [Act.put, List.setIfInBounds_toArray, List.set_cons_zero, List.set_cons_succ]
      refine wpAnyH_ready (rs := [0]) (by kernel_rfl) (by simp) ?_
      refine AllReadyH.cons rfl (fun K hK => ?_) AllReadyH.nil
      (go_simp; (with_reducible refine (dblO_any _).mono ?_); rintro e y7_ ⟨A5, c5, rfl, oO5, b7_⟩)
      refine hK.out _ _ (trivial) (fun hHeld2 => ?_)
      clear hK K hHeld
      have hHeld := hHeld2
      clear hHeld2
      first | simp only [Act.put, List.setIfInBounds_toArray, List.set_cons_zero, List.set_cons_succ] | skip
      have hY7_ := hY6_.trans (b7_.mono hY6_.size)
      have bk7 := bk6.below b7_ bk6.lt
      have rO5 := Rd.of_own oO5
      clear b7_ bk6
      refine wpAnyH_ready (rs := [4]) (by kernel_rfl) (by simp) ?_
      refine AllReadyH.cons rfl (fun K hK => ?_) AllReadyH.nil
      (go_simp; (with_reducible refine (HOU.out A5 c5 y7_ hY7_ rO5).mono ?_); rintro e y8_ ⟨A6, c6, rfl, oO6, b8_⟩)
      refine hK.out _ _ (trivial) (fun hHeld2 => ?_)
      clear hK K hHeld
      have hHeld := hHeld2
      clear hHeld2
      first | simp only [Act.put, List.setIfInBounds_toArray, List.set_cons_zero, List.set_cons_succ] | skip
      have hY8_ := hY7_.trans (b8_.mono hY7_.size)
      have bk8 := bk7.below b8_ bk7.lt
      have rL := Rd.of_own oO6
      clear b8_ bk7
      refine wpAnyH_take (i := 5) (oi := ?oi1489) (v := ?val1489) ?hi1489 ?hs1489 ?hf1489 ?hr1489 ?hQ1489 ?hy1489 ?hS1489 ?hrest1489
      case hi1489 => (simp only [List.getElem?_toArray, List.getElem?_cons_succ, List.getElem?_cons_zero] <;> exact rfl)
      case hs1489 => kernel_rfl
      case hf1489 => kernel_rfl
      case hr1489 => kernel_rfl
      case hQ1489 => exact fun _ _ _ h => h
      case hS1489 => assumption
      case hy1489 => (refine Or.inl ⟨by rfl, ?_⟩; intro w hSw; (try dsimp only at hSw); go_simp; try with_reducible rfl)
      simp only [Act.put, List.setIfInBounds_toArray, List.set_cons_zero, List.set_cons_succ]
      refine wpAnyH_done (by kernel_rfl) ?_ _
      clear hHeld
      have q0 : y8_.cell? ⟨T, 0, none⟩ = some (.string ed) := by rw [bk8.cell]; rfl
      have q1 : y8_.cell? ⟨T, 1, none⟩ = some (.int .i64 ((m : Int) + 2)) := by rw [bk8.cell]; rfl
      have q2 : y8_.cell? ⟨T, 2, none⟩ = some (.int .i64 0) := by rw [bk8.cell]; rfl
      have hu0 : (ints ud)[0]? = some (.int .i64 2) := by simp [ints, hud0]
      have hu1 : (ints ud)[m + 1]? = some (.int .i64 1) := by simp [ints, hud1]
      obtain ⟨g6, o6, rfl, hg6, hcL⟩ := rL (by intro e; rw [e] at hu0; cases hu0)
      have q3 := hcL 0 _ hu0
      have q4 := hcL (m + 1) _ hu1
      rw [Nat.add_zero] at q3
      have e5 : IntKind.i64.wrap ((m : Int) + 1) = (m : Int) + 1 := IntWalk.i64_in _ ⟨by omega, by omega⟩
      have e6 : ((m : Int) + 1).toNat = m + 1 := by omega
      have e7 : IntKind.i64.wrap ((m : Int) + 2) = (m : Int) + 2 := IntWalk.i64_in _ ⟨by omega, by omega⟩
      have e8 : ((m + 2 : Nat) : Int) = (m : Int) + 2 := by omega
      have i1 : (m : Int) + 1 < (m : Int) + 2 := by omega
      have i2 : (0 : Int) ≤ (m : Int) + 1 := by omega
      have i3 : m + 1 < m + 2 := by omega
      have i4 : (0 : Int) < (m : Int) + 2 := by omega
      clear rL hcL hu0 hu1 hud0 hud1 hg6 oO6 oO5
      have RO5 := Lib.hid rO5
      clear rO5
      have Bk8 := Lib.hid bk8
      clear bk8
      go_wp2_with fail
      with_reducible refine (dblO_any _).mono ?_
      rintro e y9_ ⟨A7, c7, rfl, oO7, b9_⟩
      have hY9_ := hY8_.trans (b9_.mono hY8_.size)
      have rO7 := Rd.of_own oO7
      clear oO7 b9_ q0 q1 q2 q3 q4
      have HY9_ := Lib.hid hY9_
      clear hY9_
      have RO7 := Lib.hid rO7
      clear rO7
      go_wp2_with fail
      with_reducible refine (HOF.out A7 c7 y9_ HY9_.out RO7.out).mono ?_
      rintro e y10_ ⟨rfl, b10_⟩
      have hY10_ := HY9_.out.trans (b10_.mono HY9_.out.size)
      clear b10_ RO7 HY9_
      have HY10_ := Lib.hid hY10_
      clear hY10_
      go_wp2_with fail
      with_reducible refine (srtO_any _).mono ?_
      rintro e y11_ ⟨A8, c8, rfl, oO8, b11_⟩
      have hY11_ := HY10_.out.trans (b11_.mono HY10_.out.size)
      have rO8 := Rd.of_own oO8
      clear oO8 b11_ HY10_
      have HY11_ := Lib.hid hY11_
      clear hY11_
      have RO8 := Lib.hid rO8
      clear rO8
      go_wp2_with fail
      with_reducible refine (HAO.out A8 c8 y11_ RO8.out).mono ?_
      rintro e y12_ ⟨rfl, b12_⟩
      have hY12_ := HY11_.out.trans (b12_.mono HY11_.out.size)
      clear b12_ RO8 HY11_
      go_wp2_with fail
      go_ret
      exact ⟨rfl, hY12_⟩

end Go.Proofs.YtgceabbeeobmgaaDoor
