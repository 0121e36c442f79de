/- Walk over l14All of the reference: the lists of weights that are kept, as a slice of slices. -/
import Derived.Test.YtnlagiopmkjmlaaBxP
import Derived.Test.YtnlagiopmkjmlaaKeeps
import Derived.Test.YtnlagiopmkjmlaaApp5
import Derived.Test.YtnlagiopmkjmlaaTurn
namespace Go.Proofs.Ytnlagiopmkjmlaa
open Go.RowKit Go.Shelf

/-- The lists of weights that all rules keep, in order. -/
def keptL (l : Int) (rs : List RuleT) (m : Int) : List (List Int) := (boxes m.toNat l.toNat).filter (fun ws => keepsAll m ws rs)

theorem info_sl : (Try.prog.info? 60).map (fun i => (i.zero, i.size, i.bytes)) = some (some (.slice none 0 0), 1, 24) := by kernel_rfl

/-- A slice of ints that begins a block of its own. -/
def El (b0 : Nat) (w : World) (v : Value) (l : List Int) : Prop := ∃ (g c : Nat) (cur : Array Value), v = .slice (some ⟨g, 0, none⟩) l.length c ∧ Bk w g 3 cur ∧ cur.toList.take l.length = ints l ∧ b0 ≤ g ∧ l.length ≤ c ∧ c ≤ maxLen ∧ cur.size = c * 1
def Els (b0 : Nat) (w : World) (vs : List Value) (ls : List (List Int)) : Prop := vs.length = ls.length ∧ ∀ (i : Nat) (l : List Int), ls[i]? = some l → ∃ v, vs[i]? = some v ∧ El b0 w v l
theorem El.below {b0 : Nat} {w w' : World} {v : Value} {l : List Int} (h : El b0 w v l) (hb : Below w.heap.size w w') : El b0 w' v l := by
  obtain ⟨g, c, cur, e, hB, ht, hx⟩ := h
  exact ⟨g, c, cur, e, hB.below hb hB.lt, ht, hx⟩
theorem El.grown {b0 : Nat} {w w' : World} {v : Value} {l : List Int} {row : Option Nat} (h : El b0 w v l) (hg : w.grownBy w' row) (hr : ∀ k, row = some k → ∃ cs, Bk w k 60 cs) : El b0 w' v l := by
  obtain ⟨g, c, cur, e, hB, ht, hx⟩ := h
  refine ⟨g, c, cur, e, hB.grown hg (fun e2 => ?_), ht, hx⟩
  obtain ⟨cs, h2⟩ := hr g e2.symm
  unfold Bk at hB h2
  rw [hB] at h2
  injection h2 with h2
  injection h2 with _ h2
  exact absurd h2 (by decide)
theorem Els.below {b0 : Nat} {w w' : World} {vs : List Value} {ls : List (List Int)} (h : Els b0 w vs ls) (hb : Below w.heap.size w w') : Els b0 w' vs ls := ⟨h.1, fun i l hl => by
  obtain ⟨v, hv, he⟩ := h.2 i l hl
  exact ⟨v, hv, he.below hb⟩⟩
theorem Els.grown {b0 : Nat} {w w' : World} {vs : List Value} {ls : List (List Int)} {row : Option Nat} (h : Els b0 w vs ls) (hg : w.grownBy w' row) (hr : ∀ k, row = some k → ∃ cs, Bk w k 60 cs) : Els b0 w' vs ls := ⟨h.1, fun i l hl => by
  obtain ⟨v, hv, he⟩ := h.2 i l hl
  exact ⟨v, hv, he.grown hg hr⟩⟩
theorem Els.nil (b0 : Nat) (w : World) : Els b0 w [] [] := ⟨rfl, fun i l h => by cases h⟩
theorem Els.snoc {b0 : Nat} {w : World} {vs : List Value} {ls : List (List Int)} {v : Value} {l : List Int} (h : Els b0 w vs ls) (hv : El b0 w v l) : Els b0 w (vs ++ [v]) (ls ++ [l]) := by
  refine ⟨by rw [List.length_append, List.length_append, h.1]; rfl, fun i x hx => ?_⟩
  by_cases hi : i < ls.length
  · rw [List.getElem?_append_left hi] at hx
    obtain ⟨u, hu, he⟩ := h.2 i x hx
    exact ⟨u, by rw [List.getElem?_append_left (by rw [h.1]; exact hi)]; exact hu, he⟩
  · have hi2 : i = ls.length := by
      have := (List.getElem?_eq_some_iff.1 hx).1
      rw [List.length_append, List.length_singleton] at this
      omega
    subst hi2
    rw [List.getElem?_append_right (Nat.le_refl _), Nat.sub_self] at hx
    injection hx with hx
    subst hx
    exact ⟨v, by rw [← h.1, List.getElem?_append_right (Nat.le_refl _), Nat.sub_self]; rfl, hv⟩
theorem El.rd {b0 : Nat} {w : World} {g n c : Nat} {l : List Int} (h : El b0 w (.slice (some ⟨g, 0, none⟩) n c) l) : Rd w (some ⟨g, 0, none⟩) (ints l) := fun _ => by
  obtain ⟨g', c', cur, e, hB, ht, _⟩ := h
  injection e with e1 e2 e3
  injection e1 with e1
  injection e1 with e1
  subst e1
  refine ⟨g, 0, rfl, hB.lt, fun j u hu => ?_⟩
  rw [hB.cell, Nat.zero_add, ← Array.getElem?_toList]
  rw [← ht] at hu
  have hj : j < l.length := by
    have h := (List.getElem?_eq_some_iff.1 hu).1
    rw [List.length_take] at h
    omega
  rwa [List.getElem?_take_of_lt hj] at hu
theorem el_of_own {b0 : Nat} {w : World} {base g n c : Nat} {l : List Int} (h : w.ownsRow base 3 1 (.slice (some ⟨g, 0, none⟩) n c) n (ints l)) (hn : n = l.length) (hb : b0 ≤ base) : El b0 w (.slice (some ⟨g, 0, none⟩) n c) l := by
  rcases h.2 with ⟨e, _⟩ | ⟨g', cap, cur, e, hx1, hB, hx2, hx3, hx4, ht⟩
  · cases e
  · injection e with e1 e2 e3
    injection e1 with e1
    injection e1 with e1
    subst e1
    subst hn
    subst e3
    exact ⟨g, c, cur, rfl, hB, by rwa [Nat.mul_one] at ht, Nat.le_trans hb hx1, hx2, hx3, hx4⟩
theorem own_row_bk {w : World} {base n : Nat} {t : TypeId} {v : Value} {xs : List Value} (h : w.ownsRow base t 1 v n xs) : ∀ k, v.ownBlock = some k → ∃ cs, Bk w k t cs := fun k hk => by
  rcases h.2 with ⟨e, _⟩ | ⟨g', cap, cur, e, _, hB, _⟩
  · subst e
    cases hk
  · subst e
    injection hk with hk
    subst hk
    exact ⟨cur, hB⟩
theorem rd_at {w : World} {g : Nat} {xs : List Value} (h : Rd w (some ⟨g, 0, none⟩) xs) {j : Nat} {u : Value} (hu : xs[j]? = some u) : w.cell? ⟨g, j, none⟩ = some u := by
  obtain ⟨b, o, e, _, hc⟩ := h (by intro e; rw [e] at hu; cases hu)
  injection e with e
  injection e with e1 e2
  subst e1
  subst e2
  have h := hc j u hu
  rwa [Nat.zero_add] at h
theorem one_sl (A : Option Addr) (n c : Nat) : ∀ u ∈ (#[Value.slice A n c] : Array Value).toList, u.oneCell' = true := by
  intro u hu
  simp at hu
  subst hu
  rfl

/-- All lists with one digit more. -/
def addD (b : Nat) (l : List Int) : List (List Int) := (List.range b).map (fun x => l ++ [((x : Nat) : Int)])
def addTo (l : List Int) (x : Nat) : List (List Int) := (List.range x).map (fun x => l ++ [((x : Nat) : Int)])
theorem addTo_succ (l : List Int) (x : Nat) : addTo l (x + 1) = addTo l x ++ [l ++ [(x : Int)]] := by simp [addTo, List.range_succ]
theorem boxes_get {b L k : Nat} (hk : k < b ^ L) : (boxes b L)[k]? = some (boxAt b L k) := by simp [boxes, hk]
theorem boxes_take {b L k : Nat} (hk : k < b ^ L) : (((boxes b L).take (k + 1)).map (addD b)).flatten = (((boxes b L).take k).map (addD b)).flatten ++ addD b (boxAt b L k) := by
  rw [List.take_succ_eq_append_getElem (by rw [boxes_len]; exact hk)]
  have h := boxes_get hk
  rw [List.getElem?_eq_getElem (by rw [boxes_len]; exact hk)] at h
  injection h with h
  rw [h]
  simp
theorem boxes_all {b : Nat} (hb : 0 < b) (L : Nat) : (((boxes b L).take (b ^ L)).map (addD b)).flatten = boxes b (L + 1) := by
  rw [List.take_of_length_le (by rw [boxes_len]; exact Nat.le_refl _), boxes_succ hb]
  rfl
theorem few_pairs {b i L k : Nat} (hb1 : 1 ≤ b) (hb2 : b ≤ 6) (hi : i < L) (hL : L ≤ 4) (hk : k < b ^ i) : k * b + b ≤ 1296 ∧ (k + 1) * b = k * b + b := by
  have e : (k + 1) * b = k * b + b := by rw [Nat.add_mul, Nat.one_mul]
  refine ⟨?_, e⟩
  rw [← e]
  refine Nat.le_trans (Nat.mul_le_mul_right b hk) ?_
  rw [← Nat.pow_succ]
  exact Nat.le_trans (Nat.pow_le_pow_left hb2 _) (Nat.pow_le_pow_right (n := 6) (j := 4) (by omega) (by omega))

set_option maxRecDepth 100000 in
set_option maxHeartbeats 8000000 in
theorem specAll_any (l : Int) (A : Option Addr) (n c : Nat) (rs : List RuleT) (m : Int) (w : World) (hr : Rd w A (cellsRule rs)) (hn : n = rs.length) (hb : n ≤ 1048576) (hR : rulesOk l rs = true) (hl1 : 1 ≤ l) (hl2 : l ≤ 4) (hm1 : 1 ≤ m) (hm2 : m ≤ 6) :
    Calls Try.prog 99 #[.agg #[.int .i64 l, .slice A n c], .int .i64 m] w (fun e W' => ∃ (B : Option Addr) (d z : Nat) (vs : List Value), e = .returned (.slice B z d) ∧ z = (keptL l rs m).length ∧ W'.ownsRow w.heap.size 60 1 (.slice B z d) z vs ∧ Els w.heap.size W' vs (keptL l rs m) ∧ Below w.heap.size w W') := by
  obtain ⟨b, hbm⟩ : ∃ b : Nat, (b : Int) = m := ⟨m.toNat, by omega⟩
  obtain ⟨L, hLl⟩ : ∃ L : Nat, (L : Int) = l := ⟨l.toNat, by omega⟩
  have hkl : keptL l rs m = (boxes b L).filter (fun ws => keepsAll m ws rs) := by
    rw [keptL, ← hbm, ← hLl]
    rfl
  have hS0 := Bk.new w 29 #[.int .i64 l, .slice A n c]
  have hW0 : Below w.heap.size w (w.alloc (.cells #[.int .i64 l, .slice A n c] 29)) := (Below.refl _ _).alloc (Nat.le_refl _) _
  have Hr := Lib.hid hr
  clear hr
  have Hn := Lib.hid hn
  clear hn
  have HR := Lib.hid hR
  clear hR
  have Hkl := Lib.hid hkl
  clear hkl
  go_enter Try.func99, Try.ntmps99
  go_wp2_with fail
  have hb1 : 1 ≤ b := by omega
  have hb6 : b ≤ 6 := by omega
  have hL1 : 1 ≤ L := by omega
  have hL4 : L ≤ 4 := by omega
  have hS1 := (hS0.alloc (.cells #[] 3)).alloc (.cells #[.slice (some ⟨w.heap.size + 1, 0, none⟩) 0 0] 60)
  have hE1 : Bk (((w.alloc (.cells #[.int .i64 l, .slice A n c] 29)).alloc (.cells #[] 3)).alloc (.cells #[.slice (some ⟨w.heap.size + 1, 0, none⟩) 0 0] 60)) (w.heap.size + 1) 3 #[] := ((Bk.new (w.alloc (.cells #[.int .i64 l, .slice A n c] 29)) 3 #[]).cast (g' := w.heap.size + 1) (by simp)).alloc _
  have hN1 : Bk (((w.alloc (.cells #[.int .i64 l, .slice A n c] 29)).alloc (.cells #[] 3)).alloc (.cells #[.slice (some ⟨w.heap.size + 1, 0, none⟩) 0 0] 60)) (w.heap.size + 1 + 1) 60 #[.slice (some ⟨w.heap.size + 1, 0, none⟩) 0 0] := (Bk.new ((w.alloc (.cells #[.int .i64 l, .slice A n c] 29)).alloc (.cells #[] 3)) 60 _).cast (g' := w.heap.size + 1 + 1) (by simp)
  have hW1 := (hW0.alloc (by simp) (.cells #[] 3)).alloc (by simp; omega) (.cells #[.slice (some ⟨w.heap.size + 1, 0, none⟩) 0 0] 60)
  have hO1 := own_of_bk (base := w.heap.size) (m := 1) (n := 1) hN1 (by omega) rfl (by unfold maxLen; omega)
  have hL0 : Els w.heap.size (((w.alloc (.cells #[.int .i64 l, .slice A n c] 29)).alloc (.cells #[] 3)).alloc (.cells #[.slice (some ⟨w.heap.size + 1, 0, none⟩) 0 0] 60)) [.slice (some ⟨w.heap.size + 1, 0, none⟩) 0 0] (boxes b 0) := by
    rw [boxes_zero]
    exact (Els.nil _ _).snoc ⟨w.heap.size + 1, 0, #[], rfl, hE1, rfl, by omega, Nat.le_refl _, by unfold maxLen; omega, rfl⟩
  clear hS0 hW0 hE1 hN1
  have HS1 := Lib.hid hS1
  clear hS1
  have HW1 := Lib.hid hW1
  clear hW1
  have HO1 := Lib.hid hO1
  clear hO1
  have HL0 := Lib.hid hL0
  clear hL0
  go_loopw [5, 6, 7] (fun v5 v6 _ wr => ∃ (i : Nat) (A1 : Option Addr) (n1 c1 : Nat) (us : List Value), v5 = .slice A1 n1 c1 ∧ v6 = .int .i64 (i : Int) ∧ i ≤ L ∧ Hid (n1 = b ^ i) ∧ n1 ≤ 1296 ∧ Bk wr w.heap.size 29 #[.int .i64 l, .slice A n c] ∧ wr.ownsRow w.heap.size 60 1 (.slice A1 n1 c1) n1 us ∧ Els w.heap.size wr us (boxes b i) ∧ Below w.heap.size w wr) (fun _ v6 _ _ => L - (intOf v6).toNat)
  case atStart => exact ⟨0, _, 1, 1, _, rfl, rfl, Nat.zero_le _, Lib.hid (by simp), by omega, HS1.out, HO1.out, HL0.out, HW1.out⟩
  case round =>
    clear HS1 HW1 HO1 HL0
    obtain ⟨wo, rfl⟩ : ∃ x, x = wr := ⟨_, rfl⟩
    obtain ⟨i, A1, n1, c1, us, rfl, rfl, hiL, Hn1, hn1, hS, hO, hE, hW⟩ := hrel
    have s0 : wo.cell? ⟨w.heap.size, 0, none⟩ = some (.int .i64 l) := by rw [hS.cell]; rfl
    have sl := hS.lt
    by_cases hlt : i < L
    · have hltI : (i : Int) < l := by omega
      have hp0 : 0 < b ^ i := Nat.pow_pos hb1
      have hnp : 0 < n1 := by rw [Hn1.out]; exact hp0
      obtain ⟨g1, rfl, hg1, hg2⟩ := own_some hO hnp
      have hrd := Rd.of_own hO
      have hN0 := own_of_bk (base := wo.heap.size) (m := 1) (n := 0) (Bk.new wo 60 #[]) (Nat.le_refl _) rfl (by unfold maxLen; omega)
      have hV0 : Below wo.heap.size wo (wo.alloc (.cells #[] 60)) := (Below.refl _ _).alloc (Nat.le_refl _) _
      have HS := Lib.hid hS
      clear hS
      have HO := Lib.hid hO
      clear hO
      have HE := Lib.hid hE
      clear hE
      have HW := Lib.hid hW
      clear hW
      have Hrd := Lib.hid hrd
      clear hrd
      have HN0 := Lib.hid hN0
      clear hN0
      have HV0 := Lib.hid hV0
      clear hV0
      go_wp2_with fail
      go_loopw [7, 25] (fun v7 v25 wr => ∃ (k z : Nat) (B : Option Addr) (d : Nat) (vs : List Value) (ls : List (List Int)), v7 = .slice B z d ∧ v25 = .int .i64 (k : Int) ∧ k ≤ n1 ∧ z = k * b ∧ Hid (ls = (((boxes b i).take k).map (addD b)).flatten) ∧ wr.ownsRow wo.heap.size 60 1 (.slice B z d) z vs ∧ Els w.heap.size wr vs ls ∧ Below wo.heap.size wo wr) (fun _ v25 _ => n1 - (intOf v25).toNat)
      case atStart => exact ⟨0, 0, _, 0, [], [], rfl, rfl, Nat.zero_le _, by simp, Lib.hid rfl, HN0.out, Els.nil _ _, HV0.out⟩
      case round =>
        obtain ⟨wk, rfl⟩ : ∃ x, x = wr := ⟨_, rfl⟩
        clear HN0 HV0
        obtain ⟨k, z, B, d, vs, ls, rfl, rfl, hkn, hz, Hls, hNx, hEx, hV⟩ := hrel
        by_cases hk : k < n1
        · have hki : k < b ^ i := by rw [← Hn1.out]; exact hk
          obtain ⟨hfew, hsucc⟩ := few_pairs hb1 hb6 hlt hL4 hki
          obtain ⟨v, hv, g, c2, cur, hve, hB, ht, hqx⟩ := HE.out.2 k _ (boxes_get hki)
          subst hve
          rw [boxAt_len] at hv ht hqx
          have hcell : wo.cell? ⟨g1, k, none⟩ = some (.slice (some ⟨g, 0, none⟩) i c2) := rd_at Hrd.out hv
          have hcellk := (hV.cell (p := ⟨g1, k, none⟩) hg2).trans hcell
          have hsl := hV.size
          clear hcell
          obtain ⟨P, hP⟩ : ∃ P, P = (((boxes b i).take k).map (addD b)).flatten := ⟨_, rfl⟩
          have hls0 : ls = P ++ addTo (boxAt b i k) 0 := by rw [Hls.out, hP]; simp [addTo]
          have hPn : P ++ addTo (boxAt b i k) b = (((boxes b i).take (k + 1)).map (addD b)).flatten := by rw [boxes_take hki, ← hP]; rfl
          have Hv := Lib.hid hv
          clear hv
          have HB := Lib.hid hB
          clear hB
          have Ht := Lib.hid ht
          clear ht
          have HNx := Lib.hid hNx
          clear hNx
          have HEx := Lib.hid hEx
          clear hEx
          have HV := Lib.hid hV
          clear hV
          have HP := Lib.hid hP
          clear hP
          have Hls0 := Lib.hid hls0
          clear hls0
          have HPn := Lib.hid hPn
          clear hPn
          have Hz := Lib.hid hz
          clear hz
          go_wp2_with fail
          go_loopw [7, 10] (fun v7 v10 wr => ∃ (x z : Nat) (B : Option Addr) (d : Nat) (vs : List Value) (ls : List (List Int)), v7 = .slice B z d ∧ v10 = .int .i64 (x : Int) ∧ x ≤ b ∧ z = k * b + x ∧ Hid (ls = P ++ addTo (boxAt b i k) x) ∧ wr.ownsRow wo.heap.size 60 1 (.slice B z d) z vs ∧ Els w.heap.size wr vs ls ∧ Below wo.heap.size wo wr) (fun _ v10 _ => b - (intOf v10).toNat)
          case atStart => exact ⟨0, z, B, d, vs, ls, rfl, rfl, Nat.zero_le _, Hz.out, Hls0, HNx.out, HEx.out, HV.out⟩
          case round =>
            obtain ⟨wx, rfl⟩ : ∃ x, x = wr := ⟨_, rfl⟩
            clear HNx HEx HV Hls0 Hz Hls
            obtain ⟨x, z, B, d, vs, ls, rfl, rfl, hxb, hz, Hls, hNx, hEx, hV⟩ := hrel
            by_cases hx : x < b
            · have hxm : (x : Int) < m := by omega
              have hBx := HB.out.below hV HB.out.lt
              have hElx : El w.heap.size wx (.slice (some ⟨g, 0, none⟩) (boxAt b i k).length c2) (boxAt b i k) := ⟨g, c2, cur, rfl, hBx, by rw [boxAt_len]; exact Ht.out, by rw [boxAt_len]; exact hqx⟩
              have hM0 : Below wx.heap.size wx (wx.alloc (.cells #[] 3)) := (Below.refl _ _).alloc (Nat.le_refl _) _
              have hrd2 := hElx.rd.keep hM0
              have hnews : ∀ j u, (ints (boxAt b i k))[j]? = some u → (wx.alloc (.cells #[] 3)).cell? ((⟨g, 0, none⟩ : Addr).add j) = some u := fun j u hu => by
                rw [Addr.add_lit, Nat.zero_add]
                exact rd_at hrd2 hu
              have hF0 := own_of_bk (base := wx.heap.size) (m := 1) (n := 0) (Bk.new wx 3 #[]) (Nat.le_refl _) rfl (by unfold maxLen; omega)
              have hli : (ints (boxAt b i k)).length = i * 1 := by rw [ints_len, boxAt_len, Nat.mul_one]
              have hone : ∀ u ∈ ints (boxAt b i k), u.oneCell' = true := fun u hu => by
                obtain ⟨q, _, rfl⟩ := List.mem_map.1 hu
                rfl
              obtain ⟨i0, hi, hz0, hz1, hz2⟩ := info_parts info_int
              have hs2 : wx.heap.size ≤ (wx.alloc (.cells #[] 3)).heap.size := hM0.size
              have hwx := hV.size
              have hz6 : z ≤ 1295 := by omega
              have Hz := Lib.hid hz
              clear hz
              have HBx := Lib.hid hBx
              clear hBx
              have HElx := Lib.hid hElx
              clear hElx
              have HM0 := Lib.hid hM0
              clear hM0
              have Hrd2 := Lib.hid hrd2
              clear hrd2
              have Hnews := Lib.hid hnews
              clear hnews
              have HF0 := Lib.hid hF0
              clear hF0
              have Hli := Lib.hid hli
              clear hli
              have Hone := Lib.hid hone
              clear hone
              have HNx := Lib.hid hNx
              clear hNx
              have HEx := Lib.hid hEx
              clear hEx
              have HV := Lib.hid hV
              clear hV
              have Hz0 := Lib.hid hz0
              clear hz0
              have Hz1 := Lib.hid hz1
              clear hz1
              have Hz2 := Lib.hid hz2
              clear hz2
              have Hi := Lib.hid hi
              clear hi
              go_wp2_with (first | (at_builtin; refine wpList_append_own _ rfl _ _ 60 rfl wx.heap.size 3 i0 _ 1 8 Try.underlying60 Hi.out Hz0.out Hz1.out Hz2.out rfl (by omega) (.slice (some ⟨wx.heap.size, 0, none⟩) 0 0) 0 [] rfl HF0.out ⟨g, 0, none⟩ i c2 (ints (boxAt b i k)) rfl Hli.out Hnews.out Hone.out (by unfold maxLen; omega) (by omega) hs2 ?_; intro v3 w3 hO3 hG3 hX3; rw [Nat.zero_add, List.nil_append] at hO3; obtain ⟨A3, c3, rfl⟩ := own_form hO3; have hV3 := HM0.out.grown hG3 hs2 (fun q hq => (HF0.out.lt q hq).1); have hs3 := hV3.size; clear hG3 hX3) | (at_builtin; refine wpList_app5 _ w3 _ rfl rfl _ _ 60 rfl wx.heap.size 3 1 8 _ Try.underlying60 info_int rfl (by omega) (.slice A3 i c3) i _ _ rfl rfl rfl hO3 rfl (one_cell1 _) (by omega) (by unfold maxLen; omega) hs3 ?_; intro g5 c5 w5 hO5 hV5 hG5 hat5; have hVx5 := hV3.trans hV5; have hN5 := own_keep HNx.out hVx5 (Nat.le_refl _); have hs5 := hVx5.size; clear hG5 hat5 hO3 hV3 hV5) | (at_builtin; refine wpList_app5 _ w5 _ rfl rfl _ _ 120 rfl wo.heap.size 60 1 24 _ Try.underlying120 info_sl rfl (by omega) (.slice B z d) z vs _ rfl rfl rfl hN5 rfl (one_sl _ _ _) (by omega) (by unfold maxLen; omega) (by omega) ?_; intro g7 c7 w7 hO7 hV7 hG7 hat7))
              have hEl5 := el_of_own (by rw [ints_snoc]; exact hO5) (by rw [List.length_append, boxAt_len]; rfl) (b0 := w.heap.size) (by have := HW.out.size; omega) (l := boxAt b i k ++ [(x : Int)])
              have hE7 := ((HEx.out.below hVx5).snoc hEl5).grown hG7 (own_row_bk hN5)
              have hV8 := HV.out.trans ((hVx5.mono hwx).trans hV7)
              have hz := Hz.out
              exact ⟨⟨x + 1, z + 1, _, c7, _, _, rfl, by go_num, by omega, by omega, Lib.hid (by rw [addTo_succ, ← List.append_assoc, ← Hls.out]), hO7, hE7, hV8⟩, by simp [intOf]; omega⟩
            · have hxm : ¬ (x : Int) < m := by omega
              have hxe : x = b := by omega
              have HNx := Lib.hid hNx
              clear hNx
              have HEx := Lib.hid hEx
              clear hEx
              have HV := Lib.hid hV
              clear hV
              go_wp2_with fail
              exact ⟨⟨k + 1, z, B, d, vs, ls, rfl, by go_num, by omega, by rw [hsucc, hz, hxe], Lib.hid (by rw [Hls.out, hxe, HPn.out]), HNx.out, HEx.out, HV.out⟩, by simp [intOf]; omega⟩
        · have hke : k = n1 := by omega
          have hlsb : ls = boxes b (i + 1) := by rw [Hls.out, hke, Hn1.out, boxes_all hb1]
          have hzb : z = b ^ (i + 1) := by rw [hz, hke, Hn1.out, ← Nat.pow_succ]
          have hz6 : z ≤ 1296 := by
            rw [hzb]
            exact Nat.le_trans (Nat.pow_le_pow_left hb6 _) (Nat.pow_le_pow_right (n := 6) (j := 4) (by omega) (by omega))
          rw [hlsb] at hEx
          have hS2 := HS.out.below hV HS.out.lt
          have hN2 := own_mono (b' := w.heap.size) hNx HW.out.size
          have hW2 := HW.out.trans (hV.mono HW.out.size)
          have HEx := Lib.hid hEx
          clear hEx
          have HS2 := Lib.hid hS2
          clear hS2
          have HN2 := Lib.hid hN2
          clear hN2
          have HW2 := Lib.hid hW2
          clear hW2
          have Hzb := Lib.hid hzb
          clear hzb
          have HV := Lib.hid hV
          clear hV
          have HNx := Lib.hid hNx
          clear hNx
          clear hlsb hz
          go_wp2_with fail
          exact ⟨⟨i + 1, B, z, d, vs, rfl, by go_num, by omega, Hzb, hz6, HS2.out, HN2.out, HEx.out, HW2.out⟩, by simp [intOf]; omega⟩
    · have hltI : ¬ (i : Int) < l := by omega
      have hiLe : i = L := by omega
      subst hiLe
      have hrd := Rd.of_own hO
      have hN0 := own_of_bk (base := wo.heap.size) (m := 1) (n := 0) (Bk.new wo 60 #[]) (Nat.le_refl _) rfl (by unfold maxLen; omega)
      have hV0 : Below wo.heap.size wo (wo.alloc (.cells #[] 60)) := (Below.refl _ _).alloc (Nat.le_refl _) _
      have HS := Lib.hid hS
      clear hS
      have HO := Lib.hid hO
      clear hO
      have HE := Lib.hid hE
      clear hE
      have HW := Lib.hid hW
      clear hW
      have Hrd := Lib.hid hrd
      clear hrd
      have HN0 := Lib.hid hN0
      clear hN0
      have HV0 := Lib.hid hV0
      clear hV0
      go_wp2_with fail
      go_loopw [11, 48] (fun v11 v48 wr => ∃ (k z : Nat) (B : Option Addr) (d : Nat) (vs : List Value), v11 = .slice B z d ∧ v48 = .int .i64 (k : Int) ∧ k ≤ n1 ∧ z ≤ k ∧ Hid (z = (((boxes b i).take k).filter (fun ws => keepsAll m ws rs)).length) ∧ wr.ownsRow wo.heap.size 60 1 (.slice B z d) z vs ∧ Els w.heap.size wr vs (((boxes b i).take k).filter (fun ws => keepsAll m ws rs)) ∧ Below wo.heap.size wo wr) (fun _ v48 _ => n1 - (intOf v48).toNat)
      case atStart => exact ⟨0, 0, _, 0, [], rfl, rfl, Nat.zero_le _, Nat.le_refl _, Lib.hid rfl, HN0.out, Els.nil _ _, HV0.out⟩
      case round =>
        obtain ⟨wx, rfl⟩ : ∃ x, x = wr := ⟨_, rfl⟩
        clear HN0 HV0
        obtain ⟨k, z, B, d, vs, rfl, rfl, hkn, hzk, Hzf, hNx, hEx, hV⟩ := hrel
        have hsl := hV.size
        by_cases hk : k < n1
        · have hki : k < b ^ i := by rw [← Hn1.out]; exact hk
          have hnp : 0 < n1 := by omega
          obtain ⟨g1, rfl, hg1, hg2⟩ := own_some HO.out hnp
          obtain ⟨v, hv, g, c2, cur, hve, hB, ht, hqx⟩ := HE.out.2 k _ (boxes_get hki)
          subst hve
          rw [boxAt_len] at hv ht hqx
          have hcellk := (hV.cell (p := ⟨g1, k, none⟩) hg2).trans (rd_at Hrd.out hv)
          have hBx := hB.below hV hB.lt
          have hElx : El w.heap.size wx (.slice (some ⟨g, 0, none⟩) i c2) (boxAt b i k) := ⟨g, c2, cur, by rw [boxAt_len], hBx, by rw [boxAt_len]; exact ht, by rw [boxAt_len]; exact hqx⟩
          have hrx := hElx.rd
          have hS1 := HS.out.below hV HS.out.lt
          have s0 : wx.cell? ⟨w.heap.size, 0, none⟩ = some (.int .i64 l) := by rw [hS1.cell]; rfl
          have s1 : wx.cell? ⟨w.heap.size, 1, none⟩ = some (.slice A n c) := by rw [hS1.cell]; rfl
          have hsl1 := hS1.lt
          have htk : ((boxes b i).take (k + 1)).filter (fun ws => keepsAll m ws rs) = ((boxes b i).take k).filter (fun ws => keepsAll m ws rs) ++ (if keepsAll m (boxAt b i k) rs = true then [boxAt b i k] else []) := by
            rw [take_next (boxes_get hki), List.filter_append]
            congr 1
            by_cases h : keepsAll m (boxAt b i k) rs = true <;> simp [h]
          have hkb : ∀ q (hq : q < (boxAt b i k).length), 0 ≤ (boxAt b i k)[q] ∧ (boxAt b i k)[q] ≤ 1000 := fun q hq => by
            have h9 := boxAt_mem (b := b) (by omega) i k (boxAt b i k)[q] (List.getElem_mem hq)
            omega
          have hwe : ∀ r ∈ rs, weighs (i : Int) r := by rw [hLl]; exact rules_weigh HR.out
          have hm12 : m ≤ 12 := by omega
          have hWx := HW.out.trans (hV.mono HW.out.size)
          have hco := specKeeps_any l A n c rs m (some ⟨g, 0, none⟩) i c2 (boxAt b i k) wx (Hr.out.keep hWx) Hn.out hb hrx (boxAt_len b i k).symm (by omega) hm1 hm12 hkb hwe
          have Hv := Lib.hid hv
          clear hv
          have HB := Lib.hid hB
          clear hB
          have Ht := Lib.hid ht
          clear ht
          have HBx := Lib.hid hBx
          clear hBx
          have HElx := Lib.hid hElx
          clear hElx
          have Hrx := Lib.hid hrx
          clear hrx
          have HS1 := Lib.hid hS1
          clear hS1
          have Htk := Lib.hid htk
          clear htk
          have Hkb := Lib.hid hkb
          clear hkb
          have Hwe := Lib.hid hwe
          clear hwe
          have HWx := Lib.hid hWx
          clear hWx
          have Hco := Lib.hid hco
          clear hco
          have HNx := Lib.hid hNx
          clear hNx
          have HEx := Lib.hid hEx
          clear hEx
          have HV := Lib.hid hV
          clear hV
          go_wp2_with fail
          refine Hco.out.mono ?_
          rintro e w2 ⟨rfl, b2⟩
          have hNx2 := own_keep HNx.out b2 (Nat.le_refl _)
          have hEx2 := HEx.out.below b2
          have hEl2 := HElx.out.below b2
          have hV2 := HV.out.trans (b2.mono HV.out.size)
          have htk := Htk.out
          clear Hco Htk b2 HNx HEx HV HBx HElx Hrx HS1 HWx s0 s1 hcellk
          obtain ⟨r, hrr⟩ : ∃ r', r' = (keepsAll m (boxAt b i k) rs) := ⟨_, rfl⟩
          rw [← hrr]
          have HKR := Lib.hid hrr
          clear hrr
          rw [← HKR.out] at htk
          clear HKR
          have hs2 := hV2.size
          cases r
          · rw [if_neg (by simp), List.append_nil] at htk
            rw [← htk] at hEx2
            have hzf := Hzf.out
            rw [← htk] at hzf
            clear htk
            have HNx2 := Lib.hid hNx2
            clear hNx2
            have HEx2 := Lib.hid hEx2
            clear hEx2
            have HV2 := Lib.hid hV2
            clear hV2
            have Hzf := Lib.hid hzf
            clear hzf
            go_wp2_with fail
            exact ⟨⟨k + 1, z, B, d, vs, rfl, by go_num, by omega, by omega, Hzf, HNx2.out, HEx2.out, HV2.out⟩, by simp [intOf]; omega⟩
          · rw [if_pos rfl] at htk
            have hzf := Hzf.out
            have HNx2 := Lib.hid hNx2
            clear hNx2
            have HEx2 := Lib.hid hEx2
            clear hEx2
            have HEl2 := Lib.hid hEl2
            clear hEl2
            have HV2 := Lib.hid hV2
            clear hV2
            have Hzf := Lib.hid hzf
            clear hzf
            have Htk := Lib.hid htk
            clear htk
            go_wp2_with (at_builtin; refine wpList_app5 _ w2 _ rfl rfl _ _ 120 rfl wo.heap.size 60 1 24 _ Try.underlying120 info_sl rfl (by omega) (.slice B z d) z vs _ rfl rfl rfl HNx2.out rfl (one_sl _ _ _) (by omega) (by unfold maxLen; omega) hs2 ?_; intro g7 c7 w7 hO7 hV7 hG7 hat7)
            have hE7 := (HEx2.out.snoc HEl2.out).grown hG7 (own_row_bk HNx2.out)
            rw [← Htk.out] at hE7
            have hV8 := HV2.out.trans hV7
            exact ⟨⟨k + 1, z + 1, _, c7, _, rfl, by go_num, by omega, by omega, Lib.hid (by rw [Htk.out, List.length_append, ← Hzf.out]; rfl), hO7, hE7, hV8⟩, by simp [intOf]; omega⟩
        · have hke : k = n1 := by omega
          have hall : (boxes b i).take k = boxes b i := by rw [hke, Hn1.out, List.take_of_length_le (by rw [boxes_len]; exact Nat.le_refl _)]
          rw [hall, ← Hkl.out] at hEx
          have hzf := Hzf.out
          rw [hall, ← Hkl.out] at hzf
          have hNx2 := own_mono (b' := w.heap.size) hNx HW.out.size
          have hV2 := HW.out.trans (hV.mono HW.out.size)
          clear hall hke
          have HNx2 := Lib.hid hNx2
          clear hNx2
          have HEx := Lib.hid hEx
          clear hEx
          have HV2 := Lib.hid hV2
          clear hV2
          have Hzf := Lib.hid hzf
          clear hzf
          have HNx := Lib.hid hNx
          clear hNx
          have HV := Lib.hid hV
          clear hV
          go_wp2_with fail
          go_ret
          exact ⟨B, d, z, vs, rfl, Hzf.out, HNx2.out, HEx.out, HV2.out⟩

end Go.Proofs.Ytnlagiopmkjmlaa
