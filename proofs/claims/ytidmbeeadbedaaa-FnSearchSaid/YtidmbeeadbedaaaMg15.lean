/- Merged texts: a claim has a limit of files. -/
import Derived.Test.YtidmbeeadbedaaaEqP
import Derived.Test.YtidmbeeadbedaaaMg10
import Derived.Test.YtidmbeeadbedaaaShelfP
import Derived.Sort.OwnSorted
import Derived.Test.YtidmbeeadbedaaaSearchI

/- slices.SortFunc with compareWords, by the shelf's contract: the row holds the one sorted list. -/
namespace Go.Proofs.Ytidmbeeadbedaaa
open Go.RowKit Go.Shelf Go.Sort

section
variable {α : Type} [Inhabited α]
theorem holdsE {w : World} {enc : α → Value} {g : Nat} {cur : Array Value} {e : TypeId} {ss : List α} (hb : w.heap[g]? = some (.cells cur e (0, 0))) (ht : cur.toList.take ss.length = ss.map enc) : Holds enc w g 0 ss.toArray := by
  intro j hj
  have hj' : j < ss.length := by simpa using hj
  refine ⟨?_, by simp [World.frozen?, hb]⟩
  have h1 : (cur.toList.take ss.length)[j]? = (ss.map enc)[j]? := by rw [ht]
  rw [List.getElem?_take_of_lt hj'] at h1
  simp only [World.cell?, hb, Nat.zero_add]
  simp only [Option.isSome_none, Bool.false_eq_true, if_false]
  rw [← Array.getElem?_toList, h1]
  simp [hj']
theorem heapE {w : World} {enc : α → Value} {g n : Nat} {os : Array Obj} {cur : Array Value} {e : TypeId} {fr : Nat × Nat} (d : Array α) (hb : w.heap[g]? = some (.cells cur e fr)) :
    (grow (putRow enc (Sort.ahead w n) g 0 d) os).heap[g]? = some (.cells (putCells enc 0 d cur) e fr) := by
  have hg : g < w.heap.size := (Array.getElem?_eq_some_iff.1 hb).1
  rw [heap_grow_old _ _ (by simpa using hg)]
  simp [putRow, mapBlock, Sort.ahead, Array.getElem?_modify, hb, onCells]
theorem grownE {w : World} {enc : α → Value} {g n : Nat} {os : Array Obj} (d : Array α) : w.grownBy (grow (putRow enc (Sort.ahead w n) g 0 d) os) (some g) := by
  refine ⟨rfl, rfl, rfl, by simp, fun k hk hne => ?_⟩
  rw [heap_grow_old _ _ (by simpa using hk)]
  have : g ≠ k := fun e => hne (by rw [e])
  simp [putRow, mapBlock, Sort.ahead, Array.getElem?_modify, this]
theorem takeE (enc : α → Value) (cur : Array Value) (ts : List α) (h : ts.length ≤ cur.size) : (putCells enc 0 ts.toArray cur).toList.take ts.length = ts.map enc := by
  apply List.ext_getElem?
  intro j
  by_cases hj : j < ts.length
  · rw [List.getElem?_take_of_lt hj, Array.getElem?_toList]
    simp [putCells, hj, show j < cur.size by omega]
  · rw [List.getElem?_take_eq_none (by omega), List.getElem?_eq_none (by simp; omega)]
end

theorem alloc_grow (w : World) (o : Obj) : w.alloc o = grow (w.drewN 0) #[o] := by
  show w.alloc o = grow w #[o]
  simp [grow]

set_option maxRecDepth 100000 in
set_option maxHeartbeats 1000000 in
theorem compareWords_lays (u v : ByteArray) (w : World) (_ : u.size ≤ 1048576) (_ : v.size ≤ 1048576) :
    Calls Try.prog 71 #[.string u, .string v] w (fun e w' => e = .returned (.int .i64 (cmpW u v)) ∧ ∃ q os, w' = grow (w.drewN q) os) := by
  go_enter Try.func71, Try.ntmps71
  go_wp2_with fail
  refine (compare_int u.size v.size _).mono ?_
  rintro e w' ⟨rfl, rfl⟩
  go_wp2_with fail
  refine (compare_string u v _).mono ?_
  rintro e w' ⟨rfl, rfl⟩
  obtain ⟨p, hrr⟩ : ∃ r', r' = (cmpI u.size v.size) := ⟨_, rfl⟩
  rw [← hrr]
  have HP := Lib.hid hrr
  clear hrr
  obtain ⟨q, hrr⟩ : ∃ r', r' = (cmpS u v) := ⟨_, rfl⟩
  rw [← hrr]
  have HQ := Lib.hid hrr
  clear hrr
  go_wp2_with fail
  refine (or_two _ _ p q _ ?_).mono ?_
  · intro _
    refine ⟨w.heap.size, 0, rfl, by simp, fun k v hk => ?_⟩
    rw [Nat.zero_add, (Bk.new w 3 #[Value.int .i64 p, Value.int .i64 q]).cell k]
    simpa [ints] using hk
  rintro e w1 ⟨rfl, rfl⟩
  go_wp2_with fail
  go_ret
  exact ⟨ret_int (by rw [cmpW, HP.out, HQ.out]), 0, #[.cells #[Value.int .i64 p, Value.int .i64 q] 3 (0, 0)], alloc_grow _ _⟩

set_option maxRecDepth 100000 in
set_option maxHeartbeats 1000000 in
theorem sortWords_any (g c base : Nat) (ws : List ByteArray) (hz : ∀ s ∈ ws, s.size ≤ 1048576) (w : World) (h : OwnG w g base 9 1 ws.length (strs ws) c) (hl : ws.length ≤ 1048576) :
    Calls Try.prog 83 #[.slice (some ⟨g, 0, none⟩) ws.length c, .func (.func 71) #[] #[]] w (fun e w' => e = .returned (.tuple #[]) ∧ OwnG w' g base 9 1 ws.length (strs (srtW ws)) c ∧ w.grownBy w' (some g)) := by
  obtain ⟨hown, hg⟩ := h
  rcases hown.2 with ⟨h0, _⟩ | ⟨g', cap, cur, hv, hbase, hb, h1, h2, h3, h4⟩
  · cases h0
  cases hv
  obtain ⟨ds, hds⟩ : ∃ ds, ds = w8s ws hz := ⟨_, rfl⟩
  have hval : ds.map (·.1) = ws := by rw [hds]; exact w8s_val ws hz
  have hlen : ds.length = ws.length := by rw [← hval, List.length_map]
  have henc : strs ws = ds.map encW := by
    rw [← hval]
    simp [strs, encW, List.map_map, Function.comp_def]
  have eg : ∀ args w, (callFunc 71 args).run Try.prog w = .ok (.enter 71 args) w := enters_of Try.func71 (by kernel_rfl) rfl
  have hH : Holds encW w g 0 ds.toArray := holdsE hb (by rw [hlen, ← henc]; simpa using h4)
  have hc : CmpLays1 Try.prog 71 #[] encW cfW g 0 ds.toArray.size w := fun m os dk _ x y => (compareWords_lays x.1 y.1 _ x.2 y.2).mono fun e w' ⟨he, q, os', hw⟩ => ⟨he, q, os', hw⟩
  have hS := Try.slices_SortFunc encW (fun _ => rfl) cfW swoW 71 #[] g 0 c ds.toArray w eg hc hH hg (by simp; omega)
  have e1 : ds.toArray.size = ws.length := by simpa using hlen
  rw [e1] at hS
  refine Calls.mono (show Calls Try.prog 83 _ _ _ from hS) ?_
  rintro e w' ⟨he, d', n, os, hp, hs, rfl⟩
  have hd := sorted_unique_holds swoW totW ds.toArray d' (by rw [e1]; exact hp) (by rw [e1]; exact hs)
  obtain ⟨ts, hts⟩ : ∃ ts, ts = ds.toArray.toList.mergeSort fun x y => !ltOf cfW y x := ⟨_, rfl⟩
  have hd2 : d' = ts.toArray := by rw [hts, ← hd]
  rw [hd2]
  clear hd hd2 hp hs
  have htv : ts.map (·.1) = srtW ws := by rw [hts, ← hval]; exact merge_one ds
  have htl : ts.length = ws.length := by rw [← srtW_len ws, ← htv, List.length_map]
  have hte : strs (srtW ws) = ts.map encW := by
    rw [← htv]
    simp [strs, encW, List.map_map, Function.comp_def]
  have hG : w.grownBy (sortWorld encW w g 0 n ts.toArray os) (some g) := grownE ts.toArray
  refine ⟨he, ⟨⟨by rw [hte]; simp [htl], .inr ⟨g, c, _, rfl, hbase, heapE ts.toArray hb, h1, h2, by simp [putCells, h3], ?_⟩⟩, Nat.lt_of_lt_of_le hg hG.size⟩, hG⟩
  rw [hte, Nat.mul_one, ← htl]
  exact takeE encW cur ts (by omega)

end Go.Proofs.Ytidmbeeadbedaaa

/- Walk over EqualWords of the program. -/
namespace Go.Proofs.Ytidmbeeadbedaaa
open Go.RowKit Go.Shelf

set_option maxRecDepth 100000 in
set_option maxHeartbeats 4000000 in
theorem implEqualWords_any (l : Int) (A : Option Addr) (n c : Nat) (rs : List RuleT) (u : ByteArray) (lim : Int) (w : World) (hr : Rd w A (cellsRule rs)) (hn : n = rs.length) (hb : n ≤ 1048576) (hz : ∀ x ∈ rs, x.1.size ≤ 1048576 ∧ x.2.size ≤ 1048576) (hs : u.size ≤ 1048576) :
    Calls Try.prog 23 #[.agg #[.int .i64 l, .slice A n c], .string u, .int .i64 lim] w (MadeSlB w 9 1 (eqL l rs u lim).length (strs (eqL l rs u lim)) (searched l rs u lim)) := by
  have hW0 : Below w.heap.size w (w.alloc (.cells #[.int .i64 l, .slice A n c] 25)) := (Below.refl _ _).alloc (Nat.le_refl _) _
  have hS0 := Bk.new w 25 #[.int .i64 l, .slice A n c]
  have Hr := Lib.hid hr
  clear hr
  have Hn := Lib.hid hn
  clear hn
  have Hz := Lib.hid hz
  clear hz
  go_enter Try.func23, Try.ntmps23
  go_wp2_with fail
  with_reducible refine (implSearched_any l A n c rs u lim _ (Hr.out.keep hW0) Hn.out hb Hz.out hs).mono ?_
  rintro e w1 ⟨rfl, b1⟩
  have hW1 := hW0.trans (b1.mono hW0.size)
  have hS1 := hS0.below b1 hS0.lt
  have s0_1 : w1.cell? ⟨w.heap.size, 0, none⟩ = some (.int .i64 l) := by rw [hS1.cell]; rfl
  have s1_1 : w1.cell? ⟨w.heap.size, 1, none⟩ = some (.slice A n c) := by rw [hS1.cell]; rfl
  have sl_1 := hS1.lt
  clear b1
  obtain ⟨r1, hrr⟩ : ∃ r', r' = (searched l rs u lim) := ⟨_, rfl⟩
  rw [← hrr]
  have H1 := Lib.hid hrr
  clear hrr
  cases r1
  · have e1 : eqL l rs u lim = [] := by rw [eqL, ← H1.out]; rfl
    have E1 := Lib.hid e1
    clear e1
    go_wp2_with fail
    go_ret2
    rw [E1.out, ← H1.out]
    exact ⟨none, 0, rfl, World.ownsRow_nil _ _ _ _, hW1⟩
  obtain ⟨hso, hwu⟩ : searchOk l rs lim = true ∧ word15 l u lim = true := by
    have h := H1.out.symm
    unfold searched at h
    simpa using h
  obtain ⟨hro, hg8, hl8⟩ := searched_out hso hwu
  obtain ⟨S, hS⟩ : ∃ S, S = srAll rs u lim := ⟨_, rfl⟩
  have hgd := srAll_good hro hl8 hg8
  have hlen := srGood_len hgd
  have hsr := implSearch_any l A n c rs u lim w1 (Hr.out.keep hW1) Hn.out hb Hz.out hro hg8 hl8
  have e1 : eqL l rs u lim = srtW (srWords (srAll rs u lim)) := by rw [eqL, if_pos H1.out.symm]
  rw [← hS] at hgd hlen hsr e1
  have hwl : ∀ s ∈ srWords S, s.size ≤ 1048576 := fun s hs => by (have := (hgd.2.1 s hs).2.2); omega
  have Hgd := Lib.hid hgd
  clear hgd
  have HS := Lib.hid hS
  clear hS
  have Hro := Lib.hid hro
  clear hro
  have Hg8 := Lib.hid hg8
  clear hg8
  have Hsr := Lib.hid hsr
  clear hsr
  have Hso := Lib.hid hso
  clear hso
  have Hwu := Lib.hid hwu
  clear hwu
  have Hwl := Lib.hid hwl
  clear hwl
  have E1 := Lib.hid e1
  clear e1
  go_wp2_with fail
  refine Hsr.out.mono ?_
  rintro e w3 ⟨gm, g1, c1, nM, D, rfl, hmp, hM, o1, b3, hgm⟩
  have hW3 := hW1.trans (b3.mono hW1.size)
  have hw1 := hW1.size
  have hg1 : w.heap.size ≤ g1 := Nat.le_trans hW1.size ((o1.1.lt g1 rfl).1)
  rw [← srWords_len] at o1 hlen ⊢
  have hso2 := sortWords_any g1 c1 _ (srWords S) Hwl.out w3 o1 (by omega)
  clear b3 s0_1 s1_1 sl_1 hS1 hW1 hmp hM o1
  have Hso2 := Lib.hid hso2
  clear hso2
  have HW3 := Lib.hid hW3
  clear hW3
  go_wp2_with fail
  refine Hso2.out.mono ?_
  rintro e w4 ⟨rfl, o4, hG4⟩
  have hW4 := HW3.out.grown hG4 HW3.out.size (fun k hk => by cases hk; exact hg1)
  have o5 := own_mono (b' := w.heap.size) o4.1 hw1
  clear o4 hG4
  have HW4 := Lib.hid hW4
  clear hW4
  have O5 := Lib.hid o5
  clear o5
  go_wp2_with fail
  go_ret2
  rw [E1.out, ← H1.out, srtW_len]
  exact ⟨_, _, rfl, O5.out, HW4.out⟩

end Go.Proofs.Ytidmbeeadbedaaa
