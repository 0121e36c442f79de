/- Walks over isAlgorithmRun, RunAlgorithm, OrdersUsed, ComputesOn (at one input) and CountLetter of the program. -/


import Derived.Test.YtgceabbeeobmgaaDoorAlg
import Derived.Test.YtgceabbeeobmgaaDoorLetter
namespace Go.Proofs.YtgceabbeeobmgaaDoor

open Go.RowKit Go.Shelf

set_option maxRecDepth 100000 in
set_option maxHeartbeats 1000000 in
theorem isAlg_any (A : Option Addr) (n c : Nat) (xs : List OrderT) (s : ByteArray) (most : Nat) (w : World) (hr : Rd w A (cellsOrder xs)) (hn : n = xs.length) (hb : n ≤ 1000) (hg : goodO xs) (hok : algOk xs = true) (hs : s.size ≤ 16) (hwd : wordOk 4 s = true) (hmo : most ≤ 500) :
    Calls Tryd.prog 32 #[.slice A n c, .string s, .int .i64 most] w (Kept w (.bool true)) := by
  have hz : ∀ x ∈ xs, x.1.size ≤ 1048576 ∧ x.2.1.size ≤ 1048576 := fun x hx => by (have := hg x hx); omega
  have hA := implAlgorithmOk_any A n c xs w hr hn (by omega) hz
  rw [hok] at hA
  have hW : ∀ W, Calls Tryd.prog 34 #[.int .i64 4, .string s] W fun e w' => e = .returned (.bool true) ∧ W = w' := fun W => by rw [← hwd]; exact implWord_any 4 s W (by omega)
  have hI : ∀ W, Calls Tryd.prog 29 #[.int .i64 most, .int .i64 0, .int .i64 500] W fun e w' => e = .returned (.bool true) ∧ W = w' := fun W => by
    have e : inB (most : Int) 0 500 = true := by unfold inB; rw [Bool.and_eq_true]; exact ⟨decide_eq_true (by omega), decide_eq_true (by omega)⟩
    rw [← e]
    exact within_any most 0 500 W
  clear hr hn hg hok hwd hz
  have HA := Lib.hid hA
  clear hA
  have HW := Lib.hid hW
  clear hW
  have HI := Lib.hid hI
  clear hI
  go_enter Tryd.func32, Tryd.ntmps32
  go_wp2_with fail
  with_reducible refine HA.out.mono ?_
  rintro e w1 ⟨rfl, b1⟩
  go_wp2_with fail
  with_reducible refine (HW.out _).mono ?_
  rintro e w2 ⟨rfl, rfl⟩
  go_wp2_with fail
  with_reducible refine (HI.out _).mono ?_
  rintro e w3 ⟨rfl, rfl⟩
  go_wp2_with fail
  go_ret
  exact ⟨rfl, b1⟩

set_option maxRecDepth 100000 in
set_option maxHeartbeats 2000000 in
theorem runAlg_any (A : Option Addr) (n c : Nat) (xs : List OrderT) (s : ByteArray) (most : Nat) (m : Int) (w : World) (hr : Rd w A (cellsOrder xs)) (hn : n = xs.length) (hb : n ≤ 1000) (hg : goodO xs) (hok : algOk xs = true) (hs : s.size ≤ 16) (ha : ascii s) (hwd : wordOk 4 s = true) (hmo : most ≤ 500) (hm : w.cell? ⟨0, 0, none⟩ = some (.int .i64 m)) :
    Calls Tryd.prog 13 #[.slice A n c, .string s, .int .i64 most] w (Kept w (.agg #[.string (aruns xs most s).1, .int .i64 ((aruns xs most s).2.1.length : Nat), .int .i64 (aruns xs most s).2.2])) := by
  have hR0 := Bk.new w 31 #[.string ⟨#[]⟩, .int .i64 0, .int .i64 0]
  have hW0 : Below w.heap.size w (w.alloc (.cells #[.string ⟨#[]⟩, .int .i64 0, .int .i64 0] 31)) := (Below.refl _ _).alloc (Nat.le_refl _) _
  have h0l : 0 < w.heap.size := World.block_lt_of_cell? w _ hm
  have hm1 : ∀ W, Below w.heap.size w W → W.cell? ⟨0, 0, none⟩ = some (.int .i64 m) := fun W h => (h.cell (p := ⟨0, 0, none⟩) h0l).trans hm
  obtain ⟨⟨v0, v1, v2⟩, hv⟩ : ∃ v, v = aruns xs most s := ⟨_, rfl⟩
  rw [← hv]
  dsimp only
  have Hr := Lib.hid hr
  clear hr
  have Hn := Lib.hid hn
  clear hn
  have Hg := Lib.hid hg
  clear hg
  have Hok := Lib.hid hok
  clear hok
  have Ha := Lib.hid ha
  clear ha
  have Hwd := Lib.hid hwd
  clear hwd
  have Hm1 := Lib.hid hm1
  clear hm1
  have Hm := Lib.hid hm
  clear hm
  have HR0 := Lib.hid hR0
  clear hR0
  have HW0 := Lib.hid hW0
  clear hW0
  have Hv := Lib.hid hv
  clear hv
  go_enter Tryd.func13, Tryd.ntmps13
  go_wp2_with fail
  with_reducible refine (isAlg_any A n c xs s most _ (Hr.out.keep HW0.out) Hn.out hb Hg.out Hok.out hs Hwd.out hmo).mono ?_
  rintro e w1 ⟨rfl, b1⟩
  have hR1 := HR0.out.below b1 HR0.out.lt
  have hW1 := HW0.out.trans (b1.mono HW0.out.size)
  clear HR0 HW0 b1
  have HR1 := Lib.hid hR1
  clear hR1
  have HW1 := Lib.hid hW1
  clear hW1
  go_wp2_with fail
  with_reducible refine (runOrders_any A n c xs s most m _ (Hr.out.keep HW1.out) Hn.out hb Hg.out hs Ha.out hmo (Hm1.out _ HW1.out)).mono ?_
  rw [← Hv.out]
  rintro e w2 ⟨B, d, rfl, ho2, b2⟩
  dsimp only at ho2 ⊢
  have hR2 := HR1.out.below b2 HR1.out.lt
  have hW2 := HW1.out.trans (b2.mono HW1.out.size)
  have r0 : w2.cell? ⟨w.heap.size, 0, none⟩ = some (.string ⟨#[]⟩) := by rw [hR2.cell]; rfl
  have r1 : w2.cell? ⟨w.heap.size, 1, none⟩ = some (.int .i64 0) := by rw [hR2.cell]; rfl
  have r2 : w2.cell? ⟨w.heap.size, 2, none⟩ = some (.int .i64 0) := by rw [hR2.cell]; rfl
  have f0 := hR2.free 0
  have f1 := hR2.free 1
  have f2 := hR2.free 2
  have rl := hR2.lt
  clear HR1 HW1 b2 ho2
  go_wp2_with fail
  have hBn := (((hR2.put 0 (.string v0)).put 1 (.int .i64 (v1.length : Nat))).put 2 (.int .i64 v2)).alloc (.cells #[.string v0, .int .i64 (v1.length : Nat), .int .i64 v2] 31)
  have y0 := hBn.cell 0
  have y1 := hBn.cell 1
  have y2 := hBn.cell 2
  refine bodyPost_ret (v := .agg #[.string v0, .int .i64 (v1.length : Nat), .int .i64 v2]) (by simp [results, Tryd.results13, go_sem, y0, y1, y2]) rfl ?_
  exact ⟨rfl, (((hW2.setCell (by dsimp only; omega) _).setCell (by dsimp only; omega) _).setCell (by dsimp only; omega) _).alloc (by simp; exact hW2.size) _⟩

set_option maxRecDepth 100000 in
set_option maxHeartbeats 2000000 in
theorem ordersUsed_any (A : Option Addr) (n c : Nat) (xs : List OrderT) (s : ByteArray) (most : Nat) (m : Int) (w : World) (hr : Rd w A (cellsOrder xs)) (hn : n = xs.length) (hb : n ≤ 1000) (hg : goodO xs) (hok : algOk xs = true) (hs : s.size ≤ 16) (ha : ascii s) (hwd : wordOk 4 s = true) (hmo : most ≤ 500) (hm : w.cell? ⟨0, 0, none⟩ = some (.int .i64 m)) :
    Calls Tryd.prog 14 #[.slice A n c, .string s, .int .i64 most] w (MadeSl w 3 1 (aruns xs most s).2.1.length (ints (aruns xs most s).2.1)) := by
  have h0l : 0 < w.heap.size := World.block_lt_of_cell? w _ hm
  have hm1 : ∀ W, Below w.heap.size w W → W.cell? ⟨0, 0, none⟩ = some (.int .i64 m) := fun W h => (h.cell (p := ⟨0, 0, none⟩) h0l).trans hm
  obtain ⟨⟨v0, v1, v2⟩, hv⟩ : ∃ v, v = aruns xs most s := ⟨_, rfl⟩
  rw [← hv]
  dsimp only
  have Hr := Lib.hid hr
  clear hr
  have Hn := Lib.hid hn
  clear hn
  have Hg := Lib.hid hg
  clear hg
  have Hok := Lib.hid hok
  clear hok
  have Ha := Lib.hid ha
  clear ha
  have Hwd := Lib.hid hwd
  clear hwd
  have Hm1 := Lib.hid hm1
  clear hm1
  have Hm := Lib.hid hm
  clear hm
  have Hv := Lib.hid hv
  clear hv
  go_enter Tryd.func14, Tryd.ntmps14
  go_wp2_with fail
  with_reducible refine (isAlg_any A n c xs s most _ Hr.out Hn.out hb Hg.out Hok.out hs Hwd.out hmo).mono ?_
  rintro e w1 ⟨rfl, b1⟩
  go_wp2_with fail
  with_reducible refine (runOrders_any A n c xs s most m _ (Hr.out.keep b1) Hn.out hb Hg.out hs Ha.out hmo (Hm1.out _ b1)).mono ?_
  rw [← Hv.out]
  rintro e w2 ⟨B, d, rfl, ho2, b2⟩
  dsimp only at ho2 ⊢
  have hW2 := b1.trans (b2.mono b1.size)
  have ho3 := own_mono (b' := w.heap.size) (own_keep ho2 ((Below.refl _ w2).alloc (Nat.le_refl _) (.cells #[.string v0, .int .i64 (v1.length : Nat), .int .i64 v2] 31)) (Nat.le_refl _)) b1.size
  have hW3 := hW2.alloc hW2.size (.cells #[.string v0, .int .i64 (v1.length : Nat), .int .i64 v2] 31)
  clear ho2 b2
  have Ho3 := Lib.hid ho3
  clear ho3
  have HW3 := Lib.hid hW3
  clear hW3
  go_wp2_with fail
  go_ret
  exact ⟨B, d, rfl, Ho3.out, HW3.out⟩

set_option maxRecDepth 100000 in
set_option maxHeartbeats 2000000 in
theorem computesOn_any (A : Option Addr) (n c : Nat) (xs : List OrderT) (P Q : Option Addr) (c1 c2 : Nat) (u v : ByteArray) (us : List Int) (m : Int) (w : World) (hr : Rd w A (cellsOrder xs)) (hn : n = xs.length) (hb : n ≤ 1000) (hg : goodO xs) (hok : algOk xs = true) (hs : u.size ≤ 16) (ha : ascii u) (hwd : wordOk 4 u = true) (hm : w.cell? ⟨0, 0, none⟩ = some (.int .i64 m)) (hP : Rd w P (strs [u])) (hQ : Rd w Q (strs [v])) (hres : aruns xs 500 u = (v, us, 0)) :
    Calls Tryd.prog 9 #[.slice A n c, .slice P 1 c1, .slice Q 1 c2] w (Kept w (.bool true)) := by
  obtain ⟨b1, o1, rfl, hl1, hc1⟩ := hP (by simp [strs])
  obtain ⟨b2, o2, rfl, hl2, hc2⟩ := hQ (by simp [strs])
  have p0 := hc1 0 _ (show (strs [u])[0]? = some (.string u) from rfl)
  have p1 := hc2 0 _ (show (strs [v])[0]? = some (.string v) from rfl)
  rw [Nat.add_zero] at p0 p1
  clear hP hQ hc1 hc2
  have hrun := runAlg_any A n c xs u 500 m w hr hn hb hg hok hs ha hwd (by omega) hm
  rw [hres] at hrun
  dsimp only at hrun
  clear hr hn hg hok ha hwd hm hres
  obtain ⟨k, hk⟩ : ∃ k : Int, k = (us.length : Nat) := ⟨_, rfl⟩
  rw [← hk] at hrun
  rw [show ((500 : Nat) : Int) = 500 from rfl] at hrun
  have Hrun := Lib.hid hrun
  clear hrun
  have Hk := Lib.hid hk
  clear hk
  go_enter Tryd.func9, Tryd.ntmps9
  go_wp2_with fail
  refine wp_loop_rounds 2 ?_
  rw [rounds_succ]
  go_wp2_with fail
  with_reducible refine Hrun.out.mono ?_
  rintro e w1 ⟨rfl, b1⟩
  have p2 := (b1.cell (p := ⟨b2, o2, none⟩) hl2).trans p1
  have hl3 : b2 < w1.heap.size := Nat.lt_of_lt_of_le hl2 b1.size
  have hW2 := b1.alloc b1.size (.cells #[.string v, .int .i64 k, .int .i64 0] 31)
  clear p0 p1
  have HW2 := Lib.hid hW2
  clear hW2
  go_wp2_with fail
  go_region
  all_goals
    go_wp2_with fail
    rw [rounds_succ]
    go_wp2_with fail
    go_ret
    exact ⟨rfl, HW2.out.drew⟩

set_option maxRecDepth 100000 in
set_option maxHeartbeats 1000000 in
theorem countLetter_any (s : ByteArray) (x : Nat) (w : World) (hx : x ≤ 3) : Calls Tryd.prog 8 #[.string s, .int .i64 x] w (Kept w (.int .i64 (Lib.countByte s.data.toList (UInt8.ofNat (97 + x))))) := by
  have hI : ∀ W, Calls Tryd.prog 29 #[.int .i64 x, .int .i64 0, .int .i64 3] W fun e w' => e = .returned (.bool true) ∧ W = w' := fun W => by
    have e : inB (x : Int) 0 3 = true := by unfold inB; rw [Bool.and_eq_true]; exact ⟨decide_eq_true (by omega), decide_eq_true (by omega)⟩
    rw [← e]
    exact within_any x 0 3 W
  have hC := fun W => Tryd.strings_Count_one s (UInt8.ofNat (97 + x)) W
  have hLt : letter (x : Int) = ⟨#[UInt8.ofNat (97 + x)]⟩ := by
    unfold letter
    rw [show (97 + (x : Int)).toNat = 97 + x by omega]
  obtain ⟨l, hl⟩ : ∃ l, l = letter (x : Int) := ⟨_, rfl⟩
  rw [← hLt, ← hl] at hC
  obtain ⟨k, hk⟩ : ∃ k : Int, k = Lib.countByte s.data.toList (UInt8.ofNat (97 + x)) := ⟨_, rfl⟩
  rw [← hk] at hC ⊢
  clear hLt
  have HI := Lib.hid hI
  clear hI
  have HC := Lib.hid hC
  clear hC
  have Hl := Lib.hid hl
  clear hl
  have Hk := Lib.hid hk
  clear hk
  go_enter Tryd.func8, Tryd.ntmps8
  go_wp2_with fail
  with_reducible refine (HI.out _).mono ?_
  rintro e w1 ⟨rfl, rfl⟩
  go_wp2_with fail
  with_reducible refine (implLetter_any (x : Int) _ (by omega) (by omega)).mono ?_
  rintro e w2 ⟨rfl, b2⟩
  rw [← Hl.out]
  go_wp2_with fail
  with_reducible refine (HC.out _).mono ?_
  rintro e w3 ⟨rfl, rfl⟩
  go_wp2_with fail
  go_ret
  exact ⟨rfl, b2⟩

end Go.Proofs.YtgceabbeeobmgaaDoor
