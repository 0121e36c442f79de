/- Walks over runOrders, RunAlgorithm and OrdersUsed of the program. -/




import Derived.Test.YtgceabbeeobmgaaDoorOrdFor
import Derived.Test.YtgceabbeeobmgaaDoorRepl0
import Derived.Test.YtgceabbeeobmgaaDoorApp5
import Derived.Deep.RegionLaw
namespace Go.Proofs.YtgceabbeeobmgaaDoor

open Go.RowKit Go.Shelf

theorem idx_cases {α : Type} (p : α → Bool) (xs : List α) : idxI p xs = -1 ∨ ∃ j : Nat, j < xs.length ∧ idxI p xs = j := by
  unfold idxI
  cases h : xs.findIdx? p with
  | none => exact .inl rfl
  | some i => exact .inr ⟨i, (List.findIdx?_eq_some_iff_getElem.1 h).1, rfl⟩
theorem repK_len (old new : List UInt8) : ∀ (k : Nat) (s : List UInt8), (Lib.replaceK old new k s).length ≤ s.length + k * new.length
  | 0, s => by rw [Lib.replaceK]; omega
  | k + 1, s => by
    rw [Lib.replaceK]
    split
    · omega
    · have ih := repK_len old new k (s.drop ((Lib.index s old).toNat + old.length))
      rw [List.length_drop] at ih
      rw [List.length_append, List.length_append, List.length_take, Nat.add_mul]
      omega
theorem repK_mem (old new : List UInt8) : ∀ (k : Nat) (s : List UInt8), ∀ b ∈ Lib.replaceK old new k s, b ∈ s ∨ b ∈ new
  | 0, s => fun b hb => .inl hb
  | k + 1, s => fun b hb => by
    rw [Lib.replaceK] at hb
    split at hb
    · exact .inl hb
    · rw [List.mem_append, List.mem_append] at hb
      rcases hb with (hb | hb) | hb
      · exact .inl (List.mem_of_mem_take hb)
      · exact .inr hb
      · rcases repK_mem old new k _ b hb with h | h
        · exact .inl (List.mem_of_mem_drop h)
        · exact .inr h
theorem repNum1 (s old : List UInt8) : Lib.replaceNum s old 1 ≤ 1 := by
  unfold Lib.replaceNum
  split
  · omega
  · decide
theorem ascii_mem {s : ByteArray} : ascii s ↔ ∀ b ∈ s.data.toList, b.toNat < 128 :=
  ⟨fun h b hb => by obtain ⟨j, hj, rfl⟩ := List.getElem_of_mem hb; exact h j _ (List.getElem?_eq_getElem hj), fun h j b hj => h b (List.mem_of_getElem? hj)⟩
theorem rp1_size (s l r : ByteArray) : (rp1 s l r).size ≤ s.size + r.size := by
  unfold rp1
  split
  · rw [ByteArray.size_append]; omega
  · show (Lib.replace s.data.toList l.data.toList r.data.toList 1).toArray.size ≤ _
    rw [List.size_toArray, Lib.replace, ← bytes_len s, ← bytes_len r]
    split
    · omega
    · have h := repK_len l.data.toList r.data.toList (Lib.replaceNum s.data.toList l.data.toList 1) s.data.toList
      have h2 := Nat.mul_le_mul_right r.data.toList.length (repNum1 s.data.toList l.data.toList)
      omega
theorem rp1_ascii {s l r : ByteArray} (hs : ascii s) (hr : ascii r) : ascii (rp1 s l r) := by
  rw [ascii_mem] at *
  intro b hb
  unfold rp1 at hb
  split at hb
  · rw [ByteArray.data_append, Array.toList_append, List.mem_append] at hb
    rcases hb with hb | hb
    · exact hr b hb
    · exact hs b hb
  · have hb' : b ∈ Lib.replace s.data.toList l.data.toList r.data.toList 1 := by simpa using hb
    rw [Lib.replace] at hb'
    split at hb'
    · exact hs b hb'
    · rcases repK_mem _ _ _ _ b hb' with h | h
      · exact hs b h
      · exact hr b h

def ai (xs : List OrderT) (s : ByteArray) : Int := idxI (fun o : OrderT => has18 s o.1) xs
def ordAt (xs : List OrderT) (i : Int) : OrderT := xs.getD i.toNat (⟨#[]⟩, ⟨#[]⟩, false)
def goodO (xs : List OrderT) : Prop := ∀ x ∈ xs, x.1.size ≤ 16 ∧ x.2.1.size ≤ 16 ∧ (x.1.size = 0 → 1 ≤ x.2.1.size) ∧ ascii x.2.1
/-- A run of an algorithm: the last word, the orders of its steps, how it ended. -/
def arun (xs : List OrderT) (most : Nat) : Nat → ByteArray → List Int → ByteArray × List Int × Int
  | 0, s, u => (s, u, 3)
  | f + 1, s, u =>
    if ai xs s < 0 then (s, u, 0)
    else if u.length = most then (s, u, 3)
    else if 16 < (rp1 s (ordAt xs (ai xs s)).1 (ordAt xs (ai xs s)).2.1).size then (s, u, 2)
    else if (ordAt xs (ai xs s)).2.2 = true then (rp1 s (ordAt xs (ai xs s)).1 (ordAt xs (ai xs s)).2.1, u ++ [ai xs s], 0)
    else arun xs most f (rp1 s (ordAt xs (ai xs s)).1 (ordAt xs (ai xs s)).2.1) (u ++ [ai xs s])
def aruns (xs : List OrderT) (most : Nat) (s : ByteArray) : ByteArray × List Int × Int := arun xs most (most + 1) s []
theorem arun_end {xs : List OrderT} {most f : Nat} {s : ByteArray} {u : List Int} (h : ai xs s < 0) : arun xs most (f + 1) s u = (s, u, 0) := by rw [arun, if_pos h]
theorem arun_limit {xs : List OrderT} {most f : Nat} {s : ByteArray} {u : List Int} (h : ¬ ai xs s < 0) (h2 : u.length = most) : arun xs most (f + 1) s u = (s, u, 3) := by rw [arun, if_neg h, if_pos h2]
theorem arun_long {xs : List OrderT} {most f : Nat} {s : ByteArray} {u : List Int} (h : ¬ ai xs s < 0) (h2 : u.length ≠ most) (h3 : 16 < (rp1 s (ordAt xs (ai xs s)).1 (ordAt xs (ai xs s)).2.1).size) : arun xs most (f + 1) s u = (s, u, 2) := by rw [arun, if_neg h, if_neg h2, if_pos h3]
theorem arun_last {xs : List OrderT} {most f : Nat} {s : ByteArray} {u : List Int} (h : ¬ ai xs s < 0) (h2 : u.length ≠ most) (h3 : ¬ 16 < (rp1 s (ordAt xs (ai xs s)).1 (ordAt xs (ai xs s)).2.1).size) (h4 : (ordAt xs (ai xs s)).2.2 = true) : arun xs most (f + 1) s u = (rp1 s (ordAt xs (ai xs s)).1 (ordAt xs (ai xs s)).2.1, u ++ [ai xs s], 0) := by rw [arun, if_neg h, if_neg h2, if_neg h3, if_pos h4]
theorem arun_step {xs : List OrderT} {most f : Nat} {s : ByteArray} {u : List Int} (h : ¬ ai xs s < 0) (h2 : u.length ≠ most) (h3 : ¬ 16 < (rp1 s (ordAt xs (ai xs s)).1 (ordAt xs (ai xs s)).2.1).size) (h4 : (ordAt xs (ai xs s)).2.2 = false) : arun xs most (f + 1) s u = arun xs most f (rp1 s (ordAt xs (ai xs s)).1 (ordAt xs (ai xs s)).2.1) (u ++ [ai xs s]) := by rw [arun, if_neg h, if_neg h2, if_neg h3, if_neg (by rw [h4]; simp)]

def slenA (v : Value) : Nat := match v with
  | .slice _ n _ => n
  | _ => 0
def MadeARun (w : World) (r : ByteArray × List Int × Int) (e : Ending) (w' : World) : Prop :=
  ∃ B d, e = .returned (.tuple #[.agg #[.string r.1, .int .i64 (r.2.1.length : Nat), .int .i64 r.2.2], .slice B r.2.1.length d]) ∧ w'.ownsRow w.heap.size 3 1 (.slice B r.2.1.length d) r.2.1.length (ints r.2.1) ∧ Below w.heap.size w w'

set_option maxRecDepth 100000 in
set_option maxHeartbeats 4000000 in
theorem runOrders_any (A : Option Addr) (n c : Nat) (xs : List OrderT) (s : ByteArray) (most : Nat) (m : Int) (w : World) (hr : Rd w A (cellsOrder xs)) (hn : n = xs.length) (hb : n ≤ 1000) (hg : goodO xs) (hs : s.size ≤ 16) (ha : ascii s) (hmo : most ≤ 500) (hm : w.cell? ⟨0, 0, none⟩ = some (.int .i64 m)) :
    Calls Tryd.prog 33 #[.slice A n c, .string s, .int .i64 most] w (MadeARun w (aruns xs most s)) := by
  have hR0 := Bk.new w 31 #[.string ⟨#[]⟩, .int .i64 0, .int .i64 0]
  have hW0 : Below w.heap.size w (w.alloc (.cells #[.string ⟨#[]⟩, .int .i64 0, .int .i64 0] 31)) := (Below.refl _ _).alloc (Nat.le_refl _) _
  have h0l : 0 < w.heap.size := World.block_lt_of_cell? w _ hm
  have hm1 : ∀ W, Below w.heap.size w W → W.cell? ⟨0, 0, none⟩ = some (.int .i64 m) := fun W h => (h.cell (p := ⟨0, 0, none⟩) h0l).trans hm
  have hz : ∀ x ∈ xs, x.1.size ≤ 1048576 ∧ x.2.1.size ≤ 1048576 := fun x hx => by (have := hg x hx); omega
  have Hr := Lib.hid hr
  clear hr
  have Hn := Lib.hid hn
  clear hn
  have Hz := Lib.hid hz
  clear hz
  have Hg := Lib.hid hg
  clear hg
  have Hm1 := Lib.hid hm1
  clear hm1
  have Hm := Lib.hid hm
  clear hm
  have HR0 := Lib.hid hR0
  clear hR0
  have HW0 := Lib.hid hW0
  clear hW0
  have Ha := Lib.hid ha
  clear ha
  go_enter Tryd.func33, Tryd.ntmps33
  go_wp2_with fail
  go_loopw [1, 8] (fun v u wr => ∃ (cur : ByteArray) (us : List Int) (z : Nat) (B : Option Addr) (d : Nat), v = .string cur ∧ u = .slice B z d ∧ Hid (z = us.length) ∧ z ≤ most ∧ cur.size ≤ 16 ∧ Hid (ascii cur) ∧ Hid (aruns xs most s = arun xs most (most + 1 - z) cur us) ∧ Bk wr w.heap.size 31 #[.string ⟨#[]⟩, .int .i64 0, .int .i64 0] ∧ wr.ownsRow (w.heap.size + 1) 3 1 (.slice B z d) z (ints us) ∧ Below w.heap.size w wr) (fun _ u _ => 501 - slenA u)
  case atStart => exact ⟨s, [], 0, none, 0, rfl, rfl, Lib.hid rfl, Nat.zero_le _, hs, Ha, Lib.hid rfl, HR0.out, World.ownsRow_nil _ _ _ _, HW0.out⟩
  case round =>
    clear HR0 HW0 Ha
    obtain ⟨cur, us, z, B, d, rfl, rfl, HZ, hz0, hcz, HA, HE, hR, hown, hW⟩ := hrel
    have hor := implordFor_any A n c xs cur m wr (Hr.out.keep hW) Hn.out (by omega) Hz.out (by omega) (Hm1.out _ hW)
    obtain ⟨i, hi⟩ : ∃ i, i = ai xs cur := ⟨_, rfl⟩
    have hcs := idx_cases (fun o : OrderT => has18 cur o.1) xs
    rw [show idxI (fun o : OrderT => has18 cur o.1) xs = i from hi.symm] at hor hcs
    obtain ⟨f, hf⟩ : ∃ f, most + 1 - z = f + 1 := ⟨most - z, by omega⟩
    have hf2 : f = most + 1 - (z + 1) := by omega
    have Hor := Lib.hid hor
    clear hor
    have Hi := Lib.hid hi
    clear hi
    have HR := Lib.hid hR
    clear hR
    have Hown := Lib.hid hown
    clear hown
    have HW := Lib.hid hW
    clear hW
    have Hf := Lib.hid hf
    clear hf
    have Hf2 := Lib.hid hf2
    clear hf2
    go_wp2_with fail
    with_reducible refine Hor.out.mono ?_
    rintro e w2 ⟨rfl, b2⟩
    have hR2 := HR.out.below b2 HR.out.lt
    have ho2 := own_keep Hown.out b2 (Nat.le_refl _)
    have hW2 := HW.out.trans (b2.mono HW.out.size)
    have hR3 := hR2.alloc (.cells #[.string cur, .int .i64 z, .int .i64 0] 31)
    have ho3 := own_keep ho2 ((Below.refl _ w2).alloc (Nat.le_refl _) (.cells #[.string cur, .int .i64 z, .int .i64 0] 31)) (Nat.le_refl _)
    have hW3 := hW2.alloc hW2.size (.cells #[.string cur, .int .i64 z, .int .i64 0] 31)
    have hS3 := Bk.new w2 31 #[.string cur, .int .i64 z, .int .i64 0]
    have hTl : w.heap.size < w2.heap.size := hR2.lt
    have hne3 := own_new_ne3 ho2 (Nat.le_refl _)
    have r0 : w2.cell? ⟨w.heap.size, 0, none⟩ = some (.string ⟨#[]⟩) := by rw [hR2.cell]; rfl
    have r1 : w2.cell? ⟨w.heap.size, 1, none⟩ = some (.int .i64 0) := by rw [hR2.cell]; rfl
    have r2 : w2.cell? ⟨w.heap.size, 2, none⟩ = some (.int .i64 0) := by rw [hR2.cell]; rfl
    have rf0 := hR2.free 0
    have rf1 := hR2.free 1
    have rf2 := hR2.free 2
    clear HR Hown HW Hor b2
    have HR2 := Lib.hid hR2
    clear hR2
    have Ho2 := Lib.hid ho2
    clear ho2
    have HW2 := Lib.hid hW2
    clear hW2
    have l0 : (w2.alloc (.cells #[.string cur, .int .i64 z, .int .i64 0] 31)).cell? ⟨w2.heap.size, 0, none⟩ = some (.string cur) := by rw [hS3.cell]; rfl
    have l1 : (w2.alloc (.cells #[.string cur, .int .i64 z, .int .i64 0] 31)).cell? ⟨w2.heap.size, 1, none⟩ = some (.int .i64 z) := by rw [hS3.cell]; rfl
    have l2 : (w2.alloc (.cells #[.string cur, .int .i64 z, .int .i64 0] 31)).cell? ⟨w2.heap.size, 2, none⟩ = some (.int .i64 0) := by rw [hS3.cell]; rfl
    have lf2 := hS3.free 2
    have sl := hS3.lt
    have q0 : (w2.alloc (.cells #[.string cur, .int .i64 z, .int .i64 0] 31)).cell? ⟨w.heap.size, 0, none⟩ = some (.string ⟨#[]⟩) := by rw [hR3.cell]; rfl
    have q1 : (w2.alloc (.cells #[.string cur, .int .i64 z, .int .i64 0] 31)).cell? ⟨w.heap.size, 1, none⟩ = some (.int .i64 0) := by rw [hR3.cell]; rfl
    have q2 : (w2.alloc (.cells #[.string cur, .int .i64 z, .int .i64 0] 31)).cell? ⟨w.heap.size, 2, none⟩ = some (.int .i64 0) := by rw [hR3.cell]; rfl
    have f0 := hR3.free 0
    have f1 := hR3.free 1
    have f2 := hR3.free 2
    have rl := hR3.lt
    rcases hcs with hneg | ⟨j, hj, hij⟩
    · have e0 : aruns xs most s = (cur, us, 0) := by rw [HE.out, Hf.out]; exact arun_end (by rw [← Hi.out, hneg]; omega)
      subst hneg
      have E0 := Lib.hid e0
      clear e0
      have HS3 := Lib.hid hS3
      clear hS3
      have Hne3 := Lib.hid hne3
      clear hne3
      go_wp2_with fail
      have hBn := (((HR2.out.put 0 (.string cur)).put 1 (.int .i64 z)).put 2 (.int .i64 0)).alloc (.cells #[.string cur, .int .i64 z, .int .i64 0] 31)
      have y0 := hBn.cell 0
      have y1 := hBn.cell 1
      have y2 := hBn.cell 2
      (try simp only [Exit.inBlock, Exit.then])
      refine bodyPost_ret (v := .tuple #[.agg #[.string cur, .int .i64 z, .int .i64 0], .slice B z d]) (by simp [results, Tryd.results33, go_sem, y0, y1, y2]) rfl ?_
      rw [E0.out]
      unfold MadeARun
      dsimp only
      rw [← HZ.out]
      refine ⟨B, d, rfl, ?_, ?_⟩
      · exact own_keep (own_mono (ownsRow_setCell_below (ownsRow_setCell_below (ownsRow_setCell_below Ho2.out (a := ⟨w.heap.size, 0, none⟩) (by dsimp only; omega) _) (a := ⟨w.heap.size, 1, none⟩) (by dsimp only; omega) _) (a := ⟨w.heap.size, 2, none⟩) (by dsimp only; omega) _) (by omega)) ((Below.refl _ _).alloc (Nat.le_refl _) _) (Nat.le_refl _)
      · exact (((HW2.out.setCell (by dsimp only; omega) _).setCell (by dsimp only; omega) _).setCell (by dsimp only; omega) _).alloc (by simp; exact HW2.out.size) _
    have hi0 : ¬ i < 0 := by omega
    by_cases hzm : z = most
    · have e0 : aruns xs most s = (cur, us, 3) := by rw [HE.out, Hf.out]; exact arun_limit (by rw [← Hi.out]; omega) (by rw [← HZ.out]; exact hzm)
      subst hzm
      have hS4 := hS3.put 2 (.int .i64 3)
      have hR4 := hR3.far (p := ⟨w2.heap.size, 2, none⟩) (by dsimp only; omega) (.int .i64 3)
      have ho4 := own_far3 ho3 (p := ⟨w2.heap.size, 2, none⟩) hne3 (.int .i64 3)
      have hW4 := hW3.setCell (p := ⟨w2.heap.size, 2, none⟩) (by dsimp only; omega) (.int .i64 3)
      have E0 := Lib.hid e0
      clear e0
      have HS3 := Lib.hid hS3
      clear hS3
      have Hne3 := Lib.hid hne3
      clear hne3
      have HS4 := Lib.hid hS4
      clear hS4
      go_wp2_with fail
      have hBn := (((HR2.out.put 0 (.string cur)).put 1 (.int .i64 z)).put 2 (.int .i64 3)).alloc (.cells #[.string cur, .int .i64 z, .int .i64 3] 31)
      have y0 := hBn.cell 0
      have y1 := hBn.cell 1
      have y2 := hBn.cell 2
      (try simp only [Exit.inBlock, Exit.then])
      refine bodyPost_ret (v := .tuple #[.agg #[.string cur, .int .i64 z, .int .i64 3], .slice B z d]) (by simp [results, Tryd.results33, go_sem, y0, y1, y2]) rfl ?_
      rw [E0.out]
      unfold MadeARun
      dsimp only
      rw [← HZ.out]
      refine ⟨B, d, rfl, ?_, ?_⟩
      · exact own_keep (own_mono (ownsRow_setCell_below (ownsRow_setCell_below (ownsRow_setCell_below Ho2.out (a := ⟨w.heap.size, 0, none⟩) (by dsimp only; omega) _) (a := ⟨w.heap.size, 1, none⟩) (by dsimp only; omega) _) (a := ⟨w.heap.size, 2, none⟩) (by dsimp only; omega) _) (by omega)) ((Below.refl _ _).alloc (Nat.le_refl _) _) (Nat.le_refl _)
      · exact (((HW2.out.setCell (by dsimp only; omega) _).setCell (by dsimp only; omega) _).setCell (by dsimp only; omega) _).alloc (by simp; exact HW2.out.size) _
    have hzm2 : ((z : Int) == (most : Int)) = false := by simp; omega
    have hjx : j < xs.length := hj
    obtain ⟨b, o, rfl, hbl, p0, p1, p2⟩ := rd_Order Hr.out hjx
    have hgx := Hg.out xs[j] (List.getElem_mem hjx)
    have hox : ordAt xs (ai xs cur) = xs[j] := by rw [← Hi.out, hij, ordAt, Int.toNat_natCast, List.getD_eq_getElem?_getD, List.getElem?_eq_getElem hjx]; rfl
    obtain ⟨⟨v0, v1, v2⟩, hv⟩ : ∃ v, v = xs[j] := ⟨_, rfl⟩
    rw [← hv] at p0 p1 p2 hgx hox
    dsimp only at p0 p1 p2 hgx hox
    obtain ⟨g0, g1, g2, g3⟩ := hgx
    have pA : ∀ W, Below w.heap.size w W → W.cell? ⟨b, o + j * 3, none⟩ = some (.string v0) ∧ W.cell? ⟨b, o + j * 3 + 1, none⟩ = some (.string v1) ∧ W.cell? ⟨b, o + j * 3 + 2, none⟩ = some (.bool v2) := fun W h => ⟨(h.cell (p := ⟨b, o + j * 3, none⟩) hbl).trans p0, (h.cell (p := ⟨b, o + j * 3 + 1, none⟩) hbl).trans p1, (h.cell (p := ⟨b, o + j * 3 + 2, none⟩) hbl).trans p2⟩
    clear p0 p1 p2
    obtain ⟨p0, p1, -⟩ := pA _ hW3
    obtain ⟨t, ht⟩ : ∃ t, t = rp1 cur v0 v1 := ⟨_, rfl⟩
    have htz : t.size ≤ 32 := by (have := rp1_size cur v0 v1); rw [ht]; omega
    have hta : ascii t := by rw [ht]; exact rp1_ascii HA.out g3
    have hjn : (j : Int) < (n : Int) := by (have := Hn.out); omega
    have hM3 : ∀ W, Below (w2.alloc (.cells #[.string cur, .int .i64 z, .int .i64 0] 31)).heap.size (w2.alloc (.cells #[.string cur, .int .i64 z, .int .i64 0] 31)) W → W.cell? ⟨0, 0, none⟩ = some (.int .i64 m) := fun W hb => Hm1.out W (hW3.trans (hb.mono hW3.size))
    have hRp : ∀ W, Below (w2.alloc (.cells #[.string cur, .int .i64 z, .int .i64 0] 31)).heap.size (w2.alloc (.cells #[.string cur, .int .i64 z, .int .i64 0] 31)) W → Calls Tryd.prog 61 #[.string cur, .string v0, .string v1, .int .i64 1] W (Kept W (.string t)) := fun W hb => by rw [ht]; exact repl1_any cur v0 v1 m W (by omega) (by omega) g2 HA.out (hM3 W hb)
    have hRp1 := hRp _ (Below.refl _ _).drew
    subst hij
    have Hv := Lib.hid hv
    clear hv
    have Hox := Lib.hid hox
    clear hox
    have Ht := Lib.hid ht
    clear ht
    have Hta := Lib.hid hta
    clear hta
    have HM3 := Lib.hid hM3
    clear hM3
    have HRp := Lib.hid hRp
    clear hRp
    have HRp1 := Lib.hid hRp1
    clear hRp1
    have HS3 := Lib.hid hS3
    clear hS3
    have Hne3 := Lib.hid hne3
    clear hne3
    have HR3 := Lib.hid hR3
    clear hR3
    have Ho3 := Lib.hid ho3
    clear ho3
    have HW3 := Lib.hid hW3
    clear hW3
    have PA := Lib.hid pA
    clear pA
    go_wp2_with fail
    go_region_law (first | (go_simp; ((with_reducible refine HRp1.out.mono ?_); rintro e w4 ⟨rfl, b4⟩)))
    all_goals
      have hR4 := HR3.out.drew.below b4 HR3.out.lt
      have hS4 := HS3.out.drew.below b4 HS3.out.lt
      have ho4 := own_keep (own_drewF Ho3.out) b4 (Nat.le_refl _)
      have hW4 := HW3.out.drew.trans (b4.mono HW3.out.size)
      have l0 : w4.cell? ⟨w2.heap.size, 0, none⟩ = some (.string cur) := by rw [hS4.cell]; rfl
      have l1 : w4.cell? ⟨w2.heap.size, 1, none⟩ = some (.int .i64 z) := by rw [hS4.cell]; rfl
      have l2 : w4.cell? ⟨w2.heap.size, 2, none⟩ = some (.int .i64 0) := by rw [hS4.cell]; rfl
      have lf2 := hS4.free 2
      have sl4 := hS4.lt
      have q0 : w4.cell? ⟨w.heap.size, 0, none⟩ = some (.string ⟨#[]⟩) := by rw [hR4.cell]; rfl
      have q1 : w4.cell? ⟨w.heap.size, 1, none⟩ = some (.int .i64 0) := by rw [hR4.cell]; rfl
      have q2 : w4.cell? ⟨w.heap.size, 2, none⟩ = some (.int .i64 0) := by rw [hR4.cell]; rfl
      have f0 := hR4.free 0
      have f1 := hR4.free 1
      have f2 := hR4.free 2
      have rl4 := hR4.lt
      have hws4 := hW4.size
      have hne4 : (Value.slice B z d).ownBlock ≠ some w2.heap.size := Hne3.out
      by_cases h16 : 16 < t.size
      · have e0 : aruns xs most s = (cur, us, 2) := by rw [HE.out, Hf.out]; exact arun_long (by rw [← Hi.out]; omega) (by rw [← HZ.out]; exact hzm) (by rw [Hox.out, ← Ht.out]; exact h16)
        have h16i : (16 : Int) < (t.size : Int) := by omega
        have hneB : w.heap.size ≠ w2.heap.size := by omega
        have E0 := Lib.hid e0
        clear e0
        have HR4 := Lib.hid hR4
        clear hR4
        have HS4 := Lib.hid hS4
        clear hS4
        have Ho4 := Lib.hid ho4
        clear ho4
        have HW4 := Lib.hid hW4
        clear hW4
        go_wp2_with fail
        have hBn := (((HR4.out.far (p := ⟨w2.heap.size, 2, none⟩) (by dsimp only; omega) (.int .i64 2)).put 0 (.string cur)).put 1 (.int .i64 z)).put 2 (.int .i64 2)
        have y0 := hBn.cell 0
        have y1 := hBn.cell 1
        have y2 := hBn.cell 2
        (try simp only [Exit.inBlock, Exit.then])
        refine bodyPost_ret (v := .tuple #[.agg #[.string cur, .int .i64 z, .int .i64 2], .slice B z d]) (by simp [results, Tryd.results33, go_sem, y0, y1, y2]) rfl ?_
        rw [E0.out]
        unfold MadeARun
        dsimp only
        rw [← HZ.out]
        refine ⟨B, d, rfl, ?_, ?_⟩
        · exact own_mono (ownsRow_setCell_below (ownsRow_setCell_below (ownsRow_setCell_below (own_far3 Ho4.out (p := ⟨w2.heap.size, 2, none⟩) hne4 (.int .i64 2)) (a := ⟨w.heap.size, 0, none⟩) (by dsimp only; omega) _) (a := ⟨w.heap.size, 1, none⟩) (by dsimp only; omega) _) (a := ⟨w.heap.size, 2, none⟩) (by dsimp only; omega) _) (by omega)
        · exact (((HW4.out.setCell (p := ⟨w2.heap.size, 2, none⟩) (by dsimp only; omega) _).setCell (by dsimp only; omega) _).setCell (by dsimp only; omega) _).setCell (by dsimp only; omega) _
      · have h16i : ¬ (16 : Int) < (t.size : Int) := by omega
        have hz1 : z + 1 = (us ++ [(j : Int)]).length := by rw [List.length_append, HZ.out]; rfl
        have hcat : ints us ++ (#[Value.int .i64 j] : Array Value).toList = ints (us ++ [(j : Int)]) := (ints_snoc us (j : Int)).symm
        have HR4 := Lib.hid hR4
        clear hR4
        have HS4 := Lib.hid hS4
        clear hS4
        have HW4 := Lib.hid hW4
        clear hW4
        have Hz1 := Lib.hid hz1
        clear hz1
        have Hcat := Lib.hid hcat
        clear hcat
        clear l0 l1 l2 lf2 q0 q1 q2 f0 f1 f2
        cases v2
        · have e0 : aruns xs most s = arun xs most (most + 1 - (z + 1)) t (us ++ [(j : Int)]) := by
            rw [HE.out, Hf.out, ← Hf2.out, Ht.out]
            have h := arun_step (f := f) (u := us) (most := most) (xs := xs) (s := cur) (by rw [← Hi.out]; omega) (by rw [← HZ.out]; exact hzm) (by rw [Hox.out, ← Ht.out]; exact h16) (by rw [Hox.out])
            rw [Hox.out, ← Hi.out] at h
            exact h
          have E0 := Lib.hid e0
          clear e0
          go_wp2_with (at_builtin; go_loud (refine wpList_app5 _ w4 _ rfl rfl _ _ 33 rfl (w.heap.size + 1) 3 1 8 _ Tryd.underlying33 info_int rfl (by omega) (.slice B z d) z _ _ rfl rfl rfl ho4 rfl (one_cell1 _) (by omega) (by unfold maxLen; omega) (by omega) ?_); intro g5 c5 w5 hO5 hV5 hG5 hat5; have hW5 := HW4.out.trans (hV5.mono (by omega)); have pc5 := (PA.out _ hW5).2.2)
          have hO6 : w5.ownsRow (w.heap.size + 1) 3 1 (.slice (some ⟨g5, 0, none⟩) (z + 1) c5) (z + 1) (ints (us ++ [(j : Int)])) := by rw [← Hcat.out]; exact hO5
          have hR5 := HR4.out.below hV5 (by omega)
          clear hO5 hG5 hat5 hV5
          go_wp2_with fail
          go_roundw
          case rel => exact ⟨t, us ++ [(j : Int)], z + 1, _, c5, rfl, by go_num, Hz1, by omega, by omega, Hta, E0, hR5, hO6, hW5⟩
          case measure => simp [slenA] <;> omega
        · have e0 : aruns xs most s = (t, us ++ [(j : Int)], 0) := by
            rw [HE.out, Hf.out, Ht.out]
            have h := arun_last (f := f) (u := us) (most := most) (xs := xs) (s := cur) (by rw [← Hi.out]; omega) (by rw [← HZ.out]; exact hzm) (by rw [Hox.out, ← Ht.out]; exact h16) (by rw [Hox.out])
            rw [Hox.out, ← Hi.out] at h
            exact h
          have E0 := Lib.hid e0
          clear e0
          go_wp2_with (at_builtin; go_loud (refine wpList_app5 _ w4 _ rfl rfl _ _ 33 rfl (w.heap.size + 1) 3 1 8 _ Tryd.underlying33 info_int rfl (by omega) (.slice B z d) z _ _ rfl rfl rfl ho4 rfl (one_cell1 _) (by omega) (by unfold maxLen; omega) (by omega) ?_); intro g5 c5 w5 hO5 hV5 hG5 hat5; have hW5 := HW4.out.trans (hV5.mono (by omega)); have pc5 := (PA.out _ hW5).2.2; have hR5 := HR4.out.below hV5 (by omega); have q0 := hR5.cell 0; have q1 := hR5.cell 1; have q2 := hR5.cell 2; have f0 := hR5.free 0; have f1 := hR5.free 1; have f2 := hR5.free 2; have rl5 := hR5.lt; simp at q0 q1 q2)
          have hO6 : w5.ownsRow (w.heap.size + 1) 3 1 (.slice (some ⟨g5, 0, none⟩) (z + 1) c5) (z + 1) (ints (us ++ [(j : Int)])) := by rw [← Hcat.out]; exact hO5
          clear hO5 hG5 hat5 hV5
          go_wp2_with fail
          have hBn := ((hR5.put 0 (.string t)).put 1 (.int .i64 ((z : Int) + 1))).put 2 (.int .i64 0)
          have y0 := hBn.cell 0
          have y1 := hBn.cell 1
          have y2 := hBn.cell 2
          (try simp only [Exit.inBlock, Exit.then])
          refine bodyPost_ret (v := .tuple #[.agg #[.string t, .int .i64 ((z : Int) + 1), .int .i64 0], .slice (some ⟨g5, 0, none⟩) (z + 1) c5]) (by simp [results, Tryd.results33, go_sem, y0, y1, y2]) rfl ?_
          rw [E0.out]
          unfold MadeARun
          dsimp only
          rw [← Hz1.out]
          refine ⟨some ⟨g5, 0, none⟩, c5, by simp, ?_, ?_⟩
          · exact own_mono (ownsRow_setCell_below (ownsRow_setCell_below (ownsRow_setCell_below hO6 (a := ⟨w.heap.size, 0, none⟩) (by dsimp only; omega) _) (a := ⟨w.heap.size, 1, none⟩) (by dsimp only; omega) _) (a := ⟨w.heap.size, 2, none⟩) (by dsimp only; omega) _) (by omega)
          · exact ((hW5.setCell (by dsimp only; omega) _).setCell (by dsimp only; omega) _).setCell (by dsimp only; omega) _

end Go.Proofs.YtgceabbeeobmgaaDoor
