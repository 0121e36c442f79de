/- Walks over PlacesOf, l18Place, l18Next and OrderFor of the reference and orderFor and OrderFor of the program: both tell the same order. -/







import Derived.Test.YtgceabbeeobmgaaDoorAlgOk
import Derived.Test.YtgceabbeeobmgaaDoorWord
import Derived.Test.YtgceabbeeobmgaaDoorMark
import Derived.Test.YtgceabbeeobmgaaDoorApp2
import Derived.Lib.IndexMore
import Derived.Test.YtgceabbeeobmgaaDoorOrderF
import Derived.Test.YtgceabbeeobmgaaDoorShelfP
namespace Go.Proofs.YtgceabbeeobmgaaDoor

open Go.RowKit Go.Shelf

def has18 (s l : ByteArray) : Bool := Lib.contains s.data.toList l.data.toList
/-- OrderFor, in plain words. -/
def ordFor (xs : List OrderT) (s : ByteArray) : Int := if algOk xs && wordOk 4 s then idxI (fun o : OrderT => has18 s o.1) xs else -1



set_option maxRecDepth 100000 in
set_option maxHeartbeats 1000000 in
theorem ordLit_any (x : OrderT) (s : ByteArray) (b : Nat) (m : Int) (w : World) (h0 : w.cell? ⟨b, 0, none⟩ = some (.string s)) (hm : w.cell? ⟨0, 0, none⟩ = some (.int .i64 m)) (hs : s.size ≤ 1048576) (hx : x.1.size ≤ 1048576) :
    Calls Tryd.prog 64 #[evOrder x, .pointer (some ⟨b, 0, none⟩)] w (Kept w (.bool (has18 s x.1))) := by
  obtain ⟨v0, v1, v2⟩ := x
  have hW0 : Below w.heap.size w (w.alloc (.cells #[.string v0, .string v1, .bool v2] 58)) := (Below.refl _ _).alloc (Nat.le_refl _) _
  have hbl := World.block_lt_of_cell? w _ h0
  have h0l := World.block_lt_of_cell? w _ hm
  dsimp only at hx hbl h0l
  have hm1 : (w.alloc (.cells #[.string v0, .string v1, .bool v2] 58)).cell? ⟨0, 0, none⟩ = some (.int .i64 m) := (hW0.cell (p := ⟨0, 0, none⟩) h0l).trans hm
  have ev : evOrder (v0, v1, v2) = .agg #[.string v0, .string v1, .bool v2] := rfl
  rw [ev]
  have Hm := Lib.hid hm
  clear hm
  have Hm1 := Lib.hid hm1
  clear hm1
  go_enter Tryd.func64, Tryd.ntmps64
  go_wp2_with fail
  refine (Tryd.strings_Contains s v0 m _ (by omega) Hm1.out).mono ?_
  rintro e w2 ⟨rfl, rfl⟩
  have eh : Lib.contains s.data.toList v0.data.toList = has18 s v0 := rfl
  rw [eh]
  obtain ⟨r, hrr⟩ : ∃ r', r' = (has18 s v0) := ⟨_, rfl⟩
  rw [← hrr]
  have Hr9 := Lib.hid hrr
  clear hrr
  go_wp2_with fail
  go_ret
  exact ⟨ret_bool Hr9.out, hW0⟩

set_option maxRecDepth 100000 in
set_option maxHeartbeats 1000000 in
theorem implordFor_any (A : Option Addr) (n c : Nat) (xs : List OrderT) (s : ByteArray) (m : Int) (w : World) (hr : Rd w A (cellsOrder xs)) (hn : n = xs.length) (hb : n ≤ 1048576) (hz : ∀ x ∈ xs, x.1.size ≤ 1048576 ∧ x.2.1.size ≤ 1048576) (hs : s.size ≤ 1048576) (hm : w.cell? ⟨0, 0, none⟩ = some (.int .i64 m)) :
    Calls Tryd.prog 35 #[.slice A n c, .string s] w (Kept w (.int .i64 (idxI (fun o : OrderT => has18 s o.1) xs))) := by
  have hmf : ∀ (fn : Fn) (first cap : Array Value) (w : World), (Instr.makeFunc fn first cap).run Tryd.prog w = .ok (.func fn first cap) w := fun _ _ _ _ => rfl
  have eg : ∀ args w, (callFunc 64 args).run Tryd.prog w = .ok (.enter 64 args) w := enters_of Tryd.func64 (by kernel_rfl) rfl
  have hW0 : Below w.heap.size w (w.alloc (.cells #[.string s] 9)) := (Below.refl _ _).alloc (Nat.le_refl _) _
  have hS0 := Bk.new w 9 #[.string s]
  have h0l : 0 < w.heap.size := World.block_lt_of_cell? w _ hm
  have hm1 : ∀ W, Below w.heap.size w W → W.cell? ⟨0, 0, none⟩ = some (.int .i64 m) := fun W h => (h.cell (p := ⟨0, 0, none⟩) h0l).trans hm
  have Hr := Lib.hid hr
  clear hr
  have Hn := Lib.hid hn
  clear hn
  have Hz := Lib.hid hz
  clear hz
  have Eg := Lib.hid eg
  clear eg
  have Hm1 := Lib.hid hm1
  clear hm1
  have Hm := Lib.hid hm
  clear hm
  go_enter Tryd.func35, Tryd.ntmps35
  go_wp2_with fail
  refine (indexFunc_Order A n c xs 64 #[.pointer (some ⟨w.heap.size, 0, none⟩)] (fun o => has18 s o.1) _ Eg.out (Hr.out.keep hW0) Hn.out (by omega) (fun W x hx hB => ordLit_any x s w.heap.size m W (by rw [(hS0.below hB hS0.lt).cell]; rfl) (Hm1.out W (hW0.trans (hB.mono hW0.size))) hs (Hz.out x hx).1)).mono ?_
  rintro e w1 ⟨rfl, b1⟩
  have hW1 := hW0.trans (b1.mono hW0.size)
  obtain ⟨r, hrr⟩ : ∃ r', r' = (idxI (fun o : OrderT => has18 s o.1) xs) := ⟨_, rfl⟩
  rw [← hrr]
  have Hr9 := Lib.hid hrr
  clear hrr
  go_wp2_with fail
  go_ret
  exact ⟨ret_int (by rw [Hr9.out]), hW1⟩


set_option maxRecDepth 100000 in
set_option maxHeartbeats 1000000 in
theorem implOrderFor_any (A : Option Addr) (n c : Nat) (xs : List OrderT) (s : ByteArray) (w : World) (hr : Rd w A (cellsOrder xs)) (hn : n = xs.length) (hb : n ≤ 1048576) (hz : ∀ x ∈ xs, x.1.size ≤ 1048576 ∧ x.2.1.size ≤ 1048576) (hs : s.size ≤ 1048576) (hm : ∃ m, w.cell? ⟨0, 0, none⟩ = some (.int .i64 m)) :
    Calls Tryd.prog 15 #[.slice A n c, .string s] w (Kept w (.int .i64 (ordFor xs s))) := by
  obtain ⟨m, hm⟩ := hm
  have h0l : 0 < w.heap.size := World.block_lt_of_cell? w _ hm
  have Hr := Lib.hid hr
  clear hr
  have Hn := Lib.hid hn
  clear hn
  have Hz := Lib.hid hz
  clear hz
  have Hm := Lib.hid hm
  clear hm
  go_enter Tryd.func15, Tryd.ntmps15
  go_wp2_with fail
  refine (implAlgorithmOk_any A n c xs _ Hr.out Hn.out hb Hz.out).mono ?_
  rintro e w1 ⟨rfl, b1⟩
  obtain ⟨r1, hrr⟩ : ∃ r', r' = (algOk xs) := ⟨_, rfl⟩
  rw [← hrr]
  have H1 := Lib.hid hrr
  clear hrr
  cases r1
  · go_wp2_with fail
    go_ret
    exact ⟨ret_int (by rw [ordFor, ← H1.out]; rfl), b1⟩
  go_wp2_with fail
  refine (implWord_any 4 s _ (by omega)).mono ?_
  rintro e w2 ⟨rfl, rfl⟩
  obtain ⟨r2, hrr⟩ : ∃ r', r' = (wordOk 4 s) := ⟨_, rfl⟩
  rw [← hrr]
  have H2 := Lib.hid hrr
  clear hrr
  cases r2
  · go_wp2_with fail
    go_ret
    exact ⟨ret_int (by rw [ordFor, ← H1.out, ← H2.out]; rfl), b1⟩
  have e1 : ordFor xs s = idxI (fun o : OrderT => has18 s o.1) xs := by rw [ordFor, ← H1.out, ← H2.out]; rfl
  have E1 := Lib.hid e1
  clear e1
  go_wp2_with fail
  refine (implordFor_any A n c xs s m _ (Hr.out.keep b1) Hn.out hb Hz.out hs ((b1.cell (p := ⟨0, 0, none⟩) h0l).trans Hm.out)).mono ?_
  rintro e w3 ⟨rfl, b3⟩
  obtain ⟨r, hrr⟩ : ∃ r', r' = (idxI (fun o : OrderT => has18 s o.1) xs) := ⟨_, rfl⟩
  rw [← hrr]
  have Hr9 := Lib.hid hrr
  clear hrr
  go_wp2_with fail
  go_ret
  exact ⟨ret_int (by rw [E1.out, Hr9.out]), b1.trans (b3.mono b1.size)⟩

end Go.Proofs.YtgceabbeeobmgaaDoor
