/- Walks over slices.IndexFunc and slices.DeleteFunc at pairs, and over OpenPairs, IsComplete and CountPairs of both. -/
import Derived.Test.YteafeecndghapaaGreatPairI
import Derived.Test.YteafeecndghapaaGreatMg14
namespace Go.Proofs.YteafeecndghapaaGreat
open Go.RowKit Go.Shelf

theorem rd_Pair {w : World} {A : Option Addr} {xs : List PairT} (h : Rd w A (cellsPair xs)) {k : Nat} (hk : k < xs.length) : ∃ b off, A = some ⟨b, off, none⟩ ∧ b < w.heap.size ∧
    w.cell? ⟨b, off + k * 5, none⟩ = some (.string xs[k].1) ∧ w.cell? ⟨b, off + k * 5 + 1, none⟩ = some (.int .i64 xs[k].2.1) ∧ w.cell? ⟨b, off + k * 5 + 2, none⟩ = some (.int .i64 xs[k].2.2.1) ∧ w.cell? ⟨b, off + k * 5 + 3, none⟩ = some (.int .i64 xs[k].2.2.2.1) ∧ w.cell? ⟨b, off + k * 5 + 4, none⟩ = some (.int .i64 xs[k].2.2.2.2) := by
  have f0 := flat_get (enc := encPair) (m := 5) (fun _ => rfl) xs k 0 hk (by omega)
  obtain ⟨b, off, e, hb, hc⟩ := h (by intro e; unfold cellsPair at e; rw [e] at f0; cases f0)
  refine ⟨b, off, e, hb, ?_, ?_, ?_, ?_, ?_⟩
  · exact hc (k * 5) _ f0
  · exact hc (k * 5 + 1) _ (flat_get (enc := encPair) (m := 5) (fun _ => rfl) xs k 1 hk (by omega))
  · exact hc (k * 5 + 2) _ (flat_get (enc := encPair) (m := 5) (fun _ => rfl) xs k 2 hk (by omega))
  · exact hc (k * 5 + 3) _ (flat_get (enc := encPair) (m := 5) (fun _ => rfl) xs k 3 hk (by omega))
  · exact hc (k * 5 + 4) _ (flat_get (enc := encPair) (m := 5) (fun _ => rfl) xs k 4 hk (by omega))
theorem cellsPair_set : ∀ (xs : List PairT) (i : Nat) (x : PairT), i < xs.length → cellsPair (xs.set i x) = (((((cellsPair xs).set (i * 5) (.string x.1)).set (i * 5 + 1) (.int .i64 x.2.1)).set (i * 5 + 2) (.int .i64 x.2.2.1)).set (i * 5 + 3) (.int .i64 x.2.2.2.1)).set (i * 5 + 4) (.int .i64 x.2.2.2.2)
  | [], i, x, h => absurd h (Nat.not_lt_zero _)
  | y :: ys, 0, x, _ => by simp [cellsPair, encPair]
  | y :: ys, i + 1, x, h => by
    have ih := cellsPair_set ys i x (by simpa using h)
    have e : ∀ k, (i + 1) * 5 + k = (i * 5 + k) + 1 + 1 + 1 + 1 + 1 := fun k => by omega
    have e0 : (i + 1) * 5 = (i * 5) + 1 + 1 + 1 + 1 + 1 := by omega
    have hc : ∀ zs : List PairT, cellsPair (y :: zs) = .string y.1 :: .int .i64 y.2.1 :: .int .i64 y.2.2.1 :: .int .i64 y.2.2.2.1 :: .int .i64 y.2.2.2.2 :: cellsPair zs := fun zs => by simp [cellsPair, encPair]
    rw [List.set_cons_succ, hc, hc, ih, e 1, e 2, e 3, e 4, e0]
    simp only [List.set_cons_succ]
theorem own_cap {w : World} {base : Nat} {t : TypeId} {m : Nat} {A : Option Addr} {n c : Nat} {xs : List Value} (h : w.ownsRow base t m (.slice A n c) n xs) : n ≤ c ∧ c ≤ maxLen := by
  rcases h.2 with ⟨h1, h2⟩ | ⟨g, cap, cur, hv, _, _, h3, h4, _⟩
  · injection h1 with _ h1 h3
    subst h2 h3
    exact ⟨Nat.le_refl _, Nat.zero_le _⟩
  · injection hv with _ _ hv
    subst hv
    exact ⟨h3, h4⟩
theorem idxI_none {α : Type} {p : α → Bool} {xs : List α} (h : xs.findIdx? p = none) : idxI p xs = -1 ∧ xs.filter (fun x => !p x) = xs := by
  refine ⟨by unfold idxI; rw [h], ?_⟩
  rw [List.filter_eq_self]
  intro x hx
  have := List.findIdx?_eq_none_iff.1 h x hx
  simp [this]
theorem idxI_some {α : Type} {p : α → Bool} {xs : List α} {i : Nat} (h : xs.findIdx? p = some i) : idxI p xs = (i : Int) ∧ i < xs.length ∧ (xs.take (i + 1)).filter (fun x => !p x) = xs.take i := by
  obtain ⟨hi, hp, hn⟩ := List.findIdx?_eq_some_iff_getElem.1 h
  refine ⟨by unfold idxI; rw [h], hi, ?_⟩
  rw [List.take_succ_eq_append_getElem hi, List.filter_append]
  have e1 : (xs.take i).filter (fun x => !p x) = xs.take i := by
    rw [List.filter_eq_self]
    intro x hx
    obtain ⟨j, hj, rfl⟩ := List.getElem_of_mem hx
    rw [List.length_take] at hj
    have := hn j (by omega)
    rw [List.getElem_take]
    simpa using this
  rw [e1]
  simp [hp]

def evPair (x : PairT) : Value := .agg #[.string x.1, .int .i64 x.2.1, .int .i64 x.2.2.1, .int .i64 x.2.2.2.1, .int .i64 x.2.2.2.2]
set_option maxRecDepth 100000 in
set_option maxHeartbeats 1000000 in
theorem indexFunc_Pair (A : Option Addr) (n c : Nat) (xs : List PairT) (g : FuncId) (lb : Array Value) (p : PairT → Bool) (w : World) (eg : ∀ args w, (callFunc g args).run Tryz.prog w = .ok (.enter g args) w) (hr : Rd w A (cellsPair xs)) (hn : n = xs.length) (hb : n ≤ 9223372036854775807)
    (hf : ∀ (W : World) (x : PairT), x ∈ xs → Below w.heap.size w W → Calls Tryz.prog g (#[evPair x] ++ lb) W (Kept W (.bool (p x)))) :
    Calls Tryz.prog 69 #[.slice A n c, .func (.func g) #[] lb] w (Kept w (.int .i64 (idxI p xs))) := by
  subst hn
  go_enter Tryz.func69, Tryz.ntmps69
  have Hf := Lib.hid hf
  clear hf
  go_wp2_with fail
  go_loopw [8] (fun i wr => ∃ (j : Nat), j ≤ xs.length ∧ i = .int .i64 j ∧ Hid ((xs.take j).all (fun x => !p x) = true) ∧ Below w.heap.size w wr) (fun i _ => xs.length - (intOf i).toNat)
  case atStart => exact ⟨0, Nat.zero_le _, rfl, by simp [Hid], Below.refl _ _⟩
  case round =>
    obtain ⟨j, hj, rfl, HA, hW⟩ := hrel
    by_cases hlt : j < xs.length
    · skip
      obtain ⟨b, o, rfl, hbl, p0, p1, p2, p3, p4⟩ := rd_Pair (hr.keep hW) hlt
      obtain ⟨⟨v0, v1, v2, v3, v4⟩, hv⟩ : ∃ v, v = xs[j] := ⟨_, rfl⟩
      rw [← hv] at p0 p1 p2 p3 p4
      dsimp only at p0 p1 p2 p3 p4
      have Hv := Lib.hid hv
      clear hv
      clear hr
      go_wp2_with fail
      refine (Hf.out _ (v0, v1, v2, v3, v4) (by rw [Hv.out]; exact List.getElem_mem hlt) hW).mono ?_
      rintro e w' ⟨rfl, hW2⟩
      have hW3 := hW.trans (hW2.mono hW.size)
      obtain ⟨r, hrr⟩ : ∃ r', r' = (p (v0, v1, v2, v3, v4)) := ⟨_, rfl⟩
      rw [← hrr]
      have HR := Lib.hid hrr
      clear hrr
      clear hW2
      cases r
      · go_wp2_with fail
        go_roundw
        case rel => exact ⟨j + 1, by omega, by go_num, by unfold Hid; rw [List.take_succ_eq_append_getElem hlt, List.all_append, HA.out]; simp [← Hv.out, ← HR.out], hW3⟩
        case measure => simp [intOf]; omega
      · go_wp2_with fail
        go_ret
        exact ⟨ret_int (by rw [idx_hit hlt HA.out (by rw [← Hv.out, ← HR.out])]), hW3⟩
    · have : j = xs.length := by omega
      subst this
      go_wp2_with fail
      go_ret
      exact ⟨ret_int (by rw [idx_miss (by simpa using HA.out)]), hW⟩

theorem zero_pair (w : World) : (zeroValue 77).run Tryz.prog w = .ok (.agg #[.string ⟨#[]⟩, .int .i64 0, .int .i64 0, .int .i64 0, .int .i64 0]) w := by kernel_rfl
set_option maxRecDepth 100000 in
set_option maxHeartbeats 4000000 in
theorem deleteFunc_Pair (A : Option Addr) (n c : Nat) (xs : List PairT) (g : FuncId) (lb : Array Value) (p : PairT → Bool) (base : Nat) (w : World) (eg : ∀ args w, (callFunc g args).run Tryz.prog w = .ok (.enter g args) w) (ho : w.ownsRow base 77 5 (.slice A n c) n (cellsPair xs)) (hn : n = xs.length) (hb : n ≤ 1048576) (hbase : base ≤ w.heap.size)
    (hf : ∀ (W : World) (x : PairT), x ∈ xs → Below base w W → Calls Tryz.prog g (#[evPair x] ++ lb) W (Kept W (.bool (p x)))) :
    Calls Tryz.prog 45 #[.slice A n c, .func (.func g) #[] lb] w (fun e w' => ∃ m, e = .returned (.slice A m c) ∧ m = (xs.filter fun x => !p x).length ∧ w'.ownsRow base 77 5 (.slice A m c) m (cellsPair (xs.filter fun x => !p x)) ∧ Below base w w') := by
  obtain ⟨F, hF⟩ : ∃ F, F = xs.filter fun x => !p x := ⟨_, rfl⟩
  rw [← hF]
  have hcap := own_cap ho
  obtain ⟨hc1, hc2⟩ := hcap
  unfold maxLen at hc2
  have hidx := indexFunc_Pair A n c xs g lb p w eg (Rd.of_own ho) hn (by omega) (fun W x hx hW => hf W x hx (hW.mono hbase))
  have Hf := Lib.hid hf
  clear hf
  have HF := Lib.hid hF
  clear hF
  have Ho := Lib.hid ho
  clear ho
  have Hn := Lib.hid hn
  clear hn
  have Hidx := Lib.hid hidx
  clear hidx
  go_enter Tryz.func45, Tryz.ntmps45
  go_wp2_with fail
  refine Hidx.out.mono ?_
  rintro e w1 ⟨rfl, b1⟩
  have hW1 := (Below.refl base w).trans (b1.mono hbase)
  have hO1 := own_keep Ho.out b1 (Nat.le_refl _)
  have hbase1 : base ≤ w1.heap.size := Nat.le_trans hbase b1.size
  clear b1 Ho Hidx
  cases hfi : xs.findIdx? p with
  | none =>
    obtain ⟨h1, h2⟩ := idxI_none hfi
    rw [h1]
    have h3 : F = xs := by rw [HF.out, h2]
    clear hfi h1 h2
    have HW1 := Lib.hid hW1
    clear hW1
    have HO1 := Lib.hid hO1
    clear hO1
    have H3 := Lib.hid h3
    clear h3
    go_wp2_with fail
    go_ret
    exact ⟨n, rfl, by rw [H3.out]; exact Hn.out, by rw [H3.out]; exact HO1.out, HW1.out⟩
  | some i0 =>
    obtain ⟨h1, h2, h3⟩ := idxI_some hfi
    rw [h1]
    have h2n : i0 < n := by rw [Hn.out]; exact h2
    have hi1 : ¬ (i0 : Int) = -1 := by omega
    clear hfi h1
    have HW1 := Lib.hid hW1
    clear hW1
    have HO1 := Lib.hid hO1
    clear hO1
    have H3 := Lib.hid h3
    clear h3
    go_wp2_with fail
    go_loopw [5, 6] (fun iv jv wr => ∃ (i j : Nat) (L : List PairT), iv = .int .i64 (i : Int) ∧ jv = .int .i64 (j : Int) ∧ i < j ∧ j ≤ n ∧ Hid (L.length = n) ∧ Hid (L.take i = (xs.take j).filter (fun x => !p x)) ∧ Hid (L.drop j = xs.drop j) ∧ base ≤ wr.heap.size ∧ wr.ownsRow base 77 5 (.slice A n c) n (cellsPair L) ∧ Below base w wr) (fun _ jv _ => n - (intOf jv).toNat)
    case atStart => exact ⟨i0, i0 + 1, xs, rfl, by go_num, by omega, by omega, Lib.hid Hn.out.symm, Lib.hid H3.out.symm, Lib.hid rfl, hbase1, HO1.out, HW1.out⟩
    case round =>
      clear HO1 HW1 H3 hbase1 hi1 h2 h2n
      obtain ⟨i, j, L, rfl, rfl, hij, hjn, HL, HT, HD, hbw, hO, hW⟩ := hrel
      obtain ⟨gb, rfl, hgb, hgl⟩ := own_some hO (by omega)
      by_cases hlt : j < n
      · have hjL : j < L.length := by rw [HL.out]; exact hlt
        have hiL : i < L.length := by omega
        have hjx : j < xs.length := by rw [← Hn.out]; exact hlt
        have hLx : L[j] = xs[j] := by
          have h := congrArg (fun l => l[0]?) HD.out
          simp only [List.getElem?_drop, Nat.add_zero] at h
          rw [List.getElem?_eq_getElem hjL, List.getElem?_eq_getElem hjx] at h
          injection h
        have hin : (i : Int) < (n : Int) := by omega
        have hjn2 : (j : Int) < (n : Int) := by omega
        obtain ⟨b', o', e', hbl, p0, p1, p2, p3, p4⟩ := rd_Pair (Rd.of_own hO) hjL
        injection e' with e'
        injection e' with e1 e2 _
        subst e1 e2
        have hmem : L[j] ∈ xs := by rw [hLx]; exact List.getElem_mem hjx
        obtain ⟨⟨v0, v1, v2, v3, v4⟩, hv⟩ : ∃ v, v = L[j] := ⟨_, rfl⟩
        rw [← hv] at p0 p1 p2 p3 p4 hmem hLx
        simp only [Nat.zero_add] at p0 p1 p2 p3 p4
        have hWa := hW.alloc hbw (.cells #[.string v0, .int .i64 v1, .int .i64 v2, .int .i64 v3, .int .i64 v4] 77)
        have hOa := hO.alloc (.cells #[.string v0, .int .i64 v1, .int .i64 v2, .int .i64 v3, .int .i64 v4] 77)
        have hBa := Bk.new wr 77 #[.string v0, .int .i64 v1, .int .i64 v2, .int .i64 v3, .int .i64 v4]
        have hT2 : (xs.take (j + 1)).filter (fun x => !p x) = L.take i ++ (if p (v0, v1, v2, v3, v4) then [] else [(v0, v1, v2, v3, v4)]) := by
          rw [List.take_succ_eq_append_getElem hjx, List.filter_append, ← HT.out, ← hLx]
          cases hpv : p (v0, v1, v2, v3, v4) <;> simp [List.filter_cons, hpv]
        have hD2 : L.drop (j + 1) = xs.drop (j + 1) := by
          have h := congrArg (List.drop 1) HD.out
          rwa [List.drop_drop, List.drop_drop] at h
        obtain ⟨bx, hbx⟩ : ∃ b, b = wr.heap.size := ⟨_, rfl⟩
        have hfc := Hf.out (wr.alloc (.cells #[.string v0, .int .i64 v1, .int .i64 v2, .int .i64 v3, .int .i64 v4] 77)) (v0, v1, v2, v3, v4) hmem hWa
        have hO0 := hO
        clear hO hW
        have Hv := Lib.hid hv
        clear hv
        have HLx := Lib.hid hLx
        clear hLx
        have Hmem := Lib.hid hmem
        clear hmem
        have HWa := Lib.hid hWa
        clear hWa
        have HOa := Lib.hid hOa
        clear hOa
        have HBa := Lib.hid hBa
        clear hBa
        have HT2 := Lib.hid hT2
        clear hT2
        have HD2 := Lib.hid hD2
        clear hD2
        have Hfc := Lib.hid hfc
        clear hfc
        have Hbx := Lib.hid hbx
        clear hbx
        have HO0 := Lib.hid hO0
        clear hO0
        go_wp2_with fail
        refine Hfc.out.mono ?_
        rintro e w2 ⟨rfl, b2⟩
        have hW2 := HWa.out.trans (b2.mono (Nat.le_trans hbw (by simp)))
        have hO2 := own_keep HOa.out b2 (Nat.le_refl _)
        have hB2 := (HBa.out.below b2 HBa.out.lt).cast Hbx.out.symm
        have hbw2 : base ≤ w2.heap.size := by have := hB2.lt; have := Hbx.out; omega
        try rw [← Hbx.out]
        clear b2 HWa HOa HBa Hfc HO0
        obtain ⟨r, hrr⟩ : ∃ r, r = p (v0, v1, v2, v3, v4) := ⟨_, rfl⟩
        rw [← hrr]
        cases r
        · have hT3 : (L.set i (v0, v1, v2, v3, v4)).take (i + 1) = (xs.take (j + 1)).filter (fun x => !p x) := by
            rw [HT2.out, ← hrr, List.take_succ_eq_append_getElem (by simpa using hiL), List.getElem_set_self, List.take_set_of_le (Nat.le_refl _)]
            rfl
          have hD3 : (L.set i (v0, v1, v2, v3, v4)).drop (j + 1) = xs.drop (j + 1) := by
            rw [List.drop_set_of_lt (by omega)]
            exact HD2.out
          have q0 : w2.cell? ⟨bx, 0, none⟩ = some (.string v0) := by rw [hB2.cell]; rfl
          have q1 : w2.cell? ⟨bx, 1, none⟩ = some (.int .i64 v1) := by rw [hB2.cell]; rfl
          have q2 : w2.cell? ⟨bx, 2, none⟩ = some (.int .i64 v2) := by rw [hB2.cell]; rfl
          have q3 : w2.cell? ⟨bx, 3, none⟩ = some (.int .i64 v3) := by rw [hB2.cell]; rfl
          have q4 : w2.cell? ⟨bx, 4, none⟩ = some (.int .i64 v4) := by rw [hB2.cell]; rfl
          have hls : (cellsPair L).length = n * 5 := hO2.1
          obtain ⟨⟨y0, f0⟩, z0⟩ := own_cell hO2 (j := i * 5) (by omega)
          obtain ⟨⟨y1, f1⟩, z1⟩ := own_cell hO2 (j := i * 5 + 1) (by omega)
          obtain ⟨⟨y2, f2⟩, z2⟩ := own_cell hO2 (j := i * 5 + 2) (by omega)
          obtain ⟨⟨y3, f3⟩, z3⟩ := own_cell hO2 (j := i * 5 + 3) (by omega)
          obtain ⟨⟨y4, f4⟩, z4⟩ := own_cell hO2 (j := i * 5 + 4) (by omega)
          have s1 := hO2.stored (i * 5) (.string v0)
          have s2 := s1.1.stored (i * 5 + 1) (.int .i64 v1)
          have s3 := s2.1.stored (i * 5 + 2) (.int .i64 v2)
          have s4 := s3.1.stored (i * 5 + 3) (.int .i64 v3)
          have s5 := s4.1.stored (i * 5 + 4) (.int .i64 v4)
          have hO7 := s5.1
          rw [← cellsPair_set L i (v0, v1, v2, v3, v4) hiL] at hO7
          have hW7 := ((((hW2.setCell (p := ⟨gb, i * 5, none⟩) hgb (.string v0)).setCell (p := ⟨gb, i * 5 + 1, none⟩) hgb (.int .i64 v1)).setCell (p := ⟨gb, i * 5 + 2, none⟩) hgb (.int .i64 v2)).setCell (p := ⟨gb, i * 5 + 3, none⟩) hgb (.int .i64 v3)).setCell (p := ⟨gb, i * 5 + 4, none⟩) hgb (.int .i64 v4)
          have hb7 : base ≤ (World.setCell (World.setCell (World.setCell (World.setCell (World.setCell w2 ⟨gb, i * 5, none⟩ (.string v0)) ⟨gb, i * 5 + 1, none⟩ (.int .i64 v1)) ⟨gb, i * 5 + 2, none⟩ (.int .i64 v2)) ⟨gb, i * 5 + 3, none⟩ (.int .i64 v3)) ⟨gb, i * 5 + 4, none⟩ (.int .i64 v4)).heap.size := by simp; omega
          have hL7 : (L.set i (v0, v1, v2, v3, v4)).length = n := by rw [List.length_set]; exact HL.out
          clear s1 s2 s3 s4 s5 hO2 hW2 hls
          have HT3 := Lib.hid hT3
          clear hT3
          have HD3 := Lib.hid hD3
          clear hD3
          have HO7 := Lib.hid hO7
          clear hO7
          have HW7 := Lib.hid hW7
          clear hW7
          have HL7 := Lib.hid hL7
          clear hL7
          have HB2 := Lib.hid hB2
          clear hB2
          have Hrr := Lib.hid hrr
          clear hrr
          have Hb7 := Lib.hid hb7
          clear hb7
          go_wp2_with fail
          go_roundw
          case rel => refine ⟨_, _, _, _, _, _, _, _, _, _, _, _, _, _, _, _, _, _, _, _, _, _, _, ?_, rfl⟩; exact ⟨i + 1, j + 1, _, by go_num, by go_num, by omega, by omega, HL7, HT3, HD3, Hb7.out, HO7.out, HW7.out⟩
          case measure => simp [intOf] <;> omega
        · have hT3 : L.take i = (xs.take (j + 1)).filter (fun x => !p x) := by rw [HT2.out, ← hrr]; simp
          clear HT2
          have HT3 := Lib.hid hT3
          clear hT3
          have HB2 := Lib.hid hB2
          clear hB2
          have Hrr := Lib.hid hrr
          clear hrr
          have HO2 := Lib.hid hO2
          clear hO2
          have HW2 := Lib.hid hW2
          clear hW2
          go_wp2_with fail
          go_roundw
          case rel => refine ⟨_, _, _, _, _, _, _, _, _, _, _, _, _, _, _, _, _, _, _, _, _, _, _, ?_, rfl⟩; exact ⟨i, j + 1, L, rfl, by go_num, by omega, by omega, HL, HT3, HD2, hbw2, HO2.out, HW2.out⟩
          case measure => simp [intOf] <;> omega
      · have : j = n := by omega
        subst this
        have hin : i < j := hij
        have hic : i ≤ j := by omega
        have hicc : i ≤ c := by omega
        have hTF : L.take i = F := by rw [HT.out, HF.out, List.take_of_length_le (by rw [← Hn.out]; exact Nat.le_refl _)]
        have hiF : i = F.length := by rw [← hTF, List.length_take, HL.out]; omega
        have hls : (cellsPair L).length = j * 5 := hO.1
        have hcl : ∀ ty, (Builtin.clear_ #[47] ty #[.slice (some ⟨gb, i * 5, none⟩) (j - i) (c - i)]).run Tryz.prog wr = .ok (.tuple #[]) (wr.setCells gb (i * 5) (Builtin.zeroCells (Value.agg #[.string ⟨#[]⟩, .int .i64 0, .int .i64 0, .int .i64 0, .int .i64 0]).cells (j - i)).toList) := fun ty =>
          run_clear_wide wr _ _ ty _ 5 Tryz.underlying47 zero_pair rfl (one_cell_pair1 _ _ _ _ _) gb (i * 5) _ _ (by omega) (fun k hk => by
            obtain ⟨⟨y, hy⟩, _⟩ := own_cell hO (j := i * 5 + k) (by omega)
            rw [hy]; rfl) (fun k hk => (own_cell hO (j := i * 5 + k) (by omega)).2)
        obtain ⟨Z, hZ⟩ : ∃ Z, Z = (Builtin.zeroCells (Value.agg #[.string ⟨#[]⟩, .int .i64 0, .int .i64 0, .int .i64 0, .int .i64 0]).cells (j - i)).toList := ⟨_, rfl⟩
        rw [← hZ] at hcl
        have hO8 := own_setCells_short hO hic Z
        have hct : (cellsPair L).take (i * 5) = cellsPair F := by
          rw [← hTF]
          have h := cellsPair_app (L.take i) (L.drop i)
          rw [List.take_append_drop] at h
          rw [h, List.take_left' (by rw [cellsPair_len, List.length_take, HL.out]; congr 1; omega)]
        rw [hct] at hO8
        have hW8 := hW.grown hO8.2 hbw (fun k hk => by injection hk with hk; omega)
        have hO9 := hO8.1
        clear hO8 hct hO hW hls
        have HO9 := Lib.hid hO9
        clear hO9
        have HW8 := Lib.hid hW8
        clear hW8
        have HTF := Lib.hid hTF
        clear hTF
        have HiF := Lib.hid hiF
        clear hiF
        have HZ := Lib.hid hZ
        clear hZ
        go_wp2_with fail
        go_ret
        exact ⟨i, rfl, HiF.out, HO9.out, HW8.out⟩


set_option maxRecDepth 100000 in
set_option maxHeartbeats 1000000 in
theorem openLit_any (l : Int) (A : Option Addr) (n c : Nat) (rs : List RuleT) (x : PairT) (b : Nat) (w : World) (h0 : w.cell? ⟨b, 0, none⟩ = some (.int .i64 l)) (h1 : w.cell? ⟨b, 1, none⟩ = some (.slice A n c)) (hr : Rd w A (cellsRule rs)) (hn : n = rs.length) (hb : n ≤ 1048576) (hz : ∀ x ∈ rs, x.1.size ≤ 1048576 ∧ x.2.size ≤ 1048576) (hx : x.1.size ≤ 1048576) :
    Calls Tryz.prog 47 #[evPair x, .pointer (some ⟨b, 0, none⟩)] w (Kept w (.bool (joinedP l rs x))) := by
  obtain ⟨v0, v1, v2, v3, v4⟩ := x
  dsimp only at hx
  have hbl := World.block_lt_of_cell? w _ h0
  have hB0 : Below w.heap.size w (w.alloc (.cells #[.string v0, .int .i64 v1, .int .i64 v2, .int .i64 v3, .int .i64 v4] 77)) := (Below.refl _ _).alloc (Nat.le_refl _) _
  have k0 := (hB0.cell (p := ⟨b, 0, none⟩) hbl).trans h0
  have k1 := (hB0.cell (p := ⟨b, 1, none⟩) hbl).trans h1
  have e9 : evPair (v0, v1, v2, v3, v4) = .agg #[.string v0, .int .i64 v1, .int .i64 v2, .int .i64 v3, .int .i64 v4] := rfl
  rw [e9]
  clear e9 h0 h1
  have Hr := Lib.hid hr
  clear hr
  have Hn := Lib.hid hn
  clear hn
  have Hz := Lib.hid hz
  clear hz
  have HB0 := Lib.hid hB0
  clear hB0
  go_enter Tryz.func47, Tryz.ntmps47
  go_wp2_with fail
  with_reducible refine (implIsJoined_any l A n c rs v0 v1 v2 v3 v4 _ (Hr.out.keep HB0.out) Hn.out hb Hz.out hx).mono ?_
  rintro e w1 ⟨rfl, b1⟩
  obtain ⟨r, hrr⟩ : ∃ r', r' = (joined l rs v0 v1 v2 v3 v4) := ⟨_, rfl⟩
  rw [← hrr]
  have H1 := Lib.hid hrr
  clear hrr
  go_wp2_with fail
  go_ret
  exact ⟨ret_bool (by rw [joinedP, ← H1.out]), HB0.out.trans (b1.mono HB0.out.size)⟩

set_option maxRecDepth 100000 in
set_option maxHeartbeats 2000000 in
theorem implOpenPairs_any (l : Int) (A : Option Addr) (n c : Nat) (rs : List RuleT) (w : World) (hr : Rd w A (cellsRule rs)) (hn : n = rs.length) (hb : n ≤ 1048576) (hz : ∀ x ∈ rs, x.1.size ≤ 1048576 ∧ x.2.size ≤ 1048576) :
    Calls Tryz.prog 19 #[.agg #[.int .i64 l, .slice A n c]] w (MadeSl w 77 5 (opAll l rs).length (cellsPair (opAll l rs))) := by
  have hW0 : Below w.heap.size w (w.alloc (.cells #[.int .i64 l, .slice A n c] 25)) := (Below.refl _ _).alloc (Nat.le_refl _) _
  have hS0 := Bk.new w 25 #[.int .i64 l, .slice A n c]
  have hpl := prAll_len l rs
  have hps := prAll_sz l rs
  have Hr := Lib.hid hr
  clear hr
  have Hn := Lib.hid hn
  clear hn
  have Hz := Lib.hid hz
  clear hz
  have Hps := Lib.hid hps
  clear hps
  go_enter Tryz.func19, Tryz.ntmps19
  go_wp2_with fail
  with_reducible refine (implPairsOf_any l A n c rs _ (Hr.out.keep hW0) Hn.out hb Hz.out).mono ?_
  rintro e w1 ⟨B, d, rfl, hO, b1⟩
  have hW1 := hW0.trans (b1.mono hW0.size)
  have hS1 := hS0.below b1 hS0.lt
  obtain ⟨X, hX⟩ : ∃ X, X = prAll l rs := ⟨_, rfl⟩
  have hF : opAll l rs = X.filter (fun p => !joinedP l rs p) := by rw [opAll, hX]
  rw [← hX] at hO hpl ⊢
  have hXs := Hps.out
  rw [← hX] at hXs
  obtain ⟨m, hm⟩ : ∃ m, m = X.length := ⟨_, rfl⟩
  rw [← hm] at hO hpl ⊢
  have hbase : (w.alloc (.cells #[.int .i64 l, .slice A n c] 25)).heap.size ≤ w1.heap.size := b1.size
  have hgb : w.heap.size < (w.alloc (.cells #[.int .i64 l, .slice A n c] 25)).heap.size := hS0.lt
  obtain ⟨base, hbs⟩ : ∃ b, b = (w.alloc (.cells #[.int .i64 l, .slice A n c] 25)).heap.size := ⟨_, rfl⟩
  rw [← hbs] at hO hbase hgb
  have hlit : ∀ (W : World) (x : PairT), x ∈ X → Below base w1 W → Calls Tryz.prog 47 (#[evPair x] ++ #[.pointer (some ⟨w.heap.size, 0, none⟩)]) W (Kept W (.bool (joinedP l rs x))) := fun W x hx hb2 => by
    have hS2 := hS1.below hb2 hgb
    exact openLit_any l A n c rs x w.heap.size W (by rw [hS2.cell]; rfl) (by rw [hS2.cell]; rfl) (Hr.out.keep (hW1.trans (hb2.mono (by omega)))) Hn.out hb Hz.out (by have := hXs x hx; omega)
  have hdel := deleteFunc_Pair B m d X 47 #[.pointer (some ⟨w.heap.size, 0, none⟩)] (joinedP l rs) base w1 (fun args w => by rfl) hO hm (by omega) hbase hlit
  clear hlit hW0 hS0 hS1 b1 hO
  have HX := Lib.hid hX
  clear hX
  have HF := Lib.hid hF
  clear hF
  have HXs := Lib.hid hXs
  clear hXs
  have Hm := Lib.hid hm
  clear hm
  have Hbs := Lib.hid hbs
  clear hbs
  have Hdel := Lib.hid hdel
  clear hdel
  go_wp2_with fail
  refine Hdel.out.mono ?_
  rintro e w2 ⟨m2, rfl, hm2, hO2, b2⟩
  rw [← HF.out] at hm2 hO2
  have hW2 := hW1.trans (b2.mono (by omega))
  have hO3 := own_mono (b' := w.heap.size) hO2 (by omega)
  clear hO2
  have Hm2 := Lib.hid hm2
  clear hm2
  have HO3 := Lib.hid hO3
  clear hO3
  have HW2 := Lib.hid hW2
  clear hW2
  go_wp2_with fail
  go_ret
  rw [← Hm2.out]
  exact ⟨B, d, rfl, HO3.out, HW2.out⟩

end Go.Proofs.YteafeecndghapaaGreat
