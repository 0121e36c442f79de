/- Walks over l15Sort and EqualWords of the reference. -/
import Derived.Test.YtidmbeeadbedaaaEqP
import Derived.Test.YtidmbeeadbedaaaSearch
import Derived.Test.YtidmbeeadbedaaaApp5
import Derived.Test.YtidmbeeadbedaaaMg11
import Derived.Test.YtidmbeeadbedaaaStr
namespace Go.Proofs.Ytidmbeeadbedaaa
open Go.RowKit Go.Shelf

set_option maxRecDepth 100000 in
set_option maxHeartbeats 4000000 in
theorem specSort15_any (A : Option Addr) (n c : Nat) (ws : List ByteArray) (w : World) (hr : Rd w A (strs ws)) (hn : n = ws.length) (hb : n ≤ 1048576) (hz : ∀ x ∈ ws, x.size ≤ 1048576) :
    Calls Try.prog 116 #[.slice A n c] w (MadeSl w 9 1 (srtW ws).length (strs (srtW ws))) := by
  have hO0 := own_of_bk (base := w.heap.size) (m := 1) (n := 0) (Bk.new w 9 #[]) (Nat.le_refl _) rfl (by unfold maxLen; omega)
  have hW0 : Below w.heap.size w (w.alloc (.cells #[] 9)) := (Below.refl _ _).alloc (Nat.le_refl _) _
  have Hr := Lib.hid hr
  clear hr
  have Hn := Lib.hid hn
  clear hn
  have Hz := Lib.hid hz
  clear hz
  have HO0 := Lib.hid hO0
  clear hO0
  have HW0 := Lib.hid hW0
  clear hW0
  go_enter Try.func116, Try.ntmps116
  go_wp2_with fail
  go_loopw [3, 11] (fun v i wr => ∃ (j g d : Nat), j ≤ n ∧ v = .slice (some ⟨g, 0, none⟩) j d ∧ i = .int .i64 j ∧ wr.ownsRow w.heap.size 9 1 (.slice (some ⟨g, 0, none⟩) j d) j (strs (srtW (ws.take j))) ∧ Below w.heap.size w wr) (fun _ i _ => n - (intOf i).toNat)
  case atStart => exact ⟨0, w.heap.size, 0, Nat.zero_le _, rfl, rfl, HO0.out, HW0.out⟩
  case round =>
    clear HO0 HW0
    obtain ⟨j, g, d, hj, rfl, rfl, hown, hW⟩ := hrel
    by_cases hlt : j < n
    · have hj2 : j < ws.length := by rw [← Hn.out]; exact hlt
      obtain ⟨b, o, hA, hbl, p0⟩ := rd_Str (Hr.out.keep hW) hj2
      obtain ⟨x, hx⟩ : ∃ x, x = ws[j] := ⟨_, rfl⟩
      have hxz : x.size ≤ 1048576 := by rw [hx]; exact Hz.out _ (List.getElem_mem hj2)
      have htk : srtW (ws.take (j + 1)) = insW (srtW (ws.take j)) x := by rw [List.take_succ_eq_append_getElem hj2, ← hx, srtW_snoc]
      rw [← hx] at p0
      subst hA
      obtain ⟨T, hT⟩ : ∃ T, T = srtW (ws.take j) := ⟨_, rfl⟩
      have hTl : T.length = j := by rw [hT, srtW_len, List.length_take]; omega
      rw [← hT] at hown htk
      have hTz : ∀ s ∈ T, s.size ≤ 1048576 := fun s hs => by rw [hT] at hs; exact Hz.out s (List.mem_of_mem_take ((srtW_perm _).mem_iff.1 hs))
      have hcap := (own_cap hown).1
      have hcl := hcells_own hown
      have hone := one_cell_strs T
      have hws := hW.size
      have hlen := hown.1
      obtain ⟨wo, rfl⟩ : ∃ z, z = wr := ⟨_, rfl⟩
      have hF0 := own_of_bk (base := wo.heap.size) (m := 1) (n := 0) (Bk.new wo 9 #[]) (Nat.le_refl _) rfl (by unfold maxLen; omega)
      have hM0 : Below wo.heap.size wo (wo.alloc (.cells #[] 9)) := (Below.refl _ _).alloc (Nat.le_refl _) _
      have hs0 : wo.heap.size ≤ (wo.alloc (.cells #[] 9)).heap.size := hM0.size
      obtain ⟨i0, hi, hz0, hz1, hz2⟩ := info_parts info_str
      have Hx := Lib.hid hx
      clear hx
      have HT := Lib.hid hT
      clear hT
      have HTl := Lib.hid hTl
      clear hTl
      have Htk := Lib.hid htk
      clear htk
      have HTz := Lib.hid hTz
      clear hTz
      have Hcl := Lib.hid hcl
      clear hcl
      have Hone := Lib.hid hone
      clear hone
      have Hown := Lib.hid hown
      clear hown
      have HW := Lib.hid hW
      clear hW
      have Hlen := Lib.hid hlen
      clear hlen
      have HF0 := Lib.hid hF0
      clear hF0
      have HM0 := Lib.hid hM0
      clear hM0
      have Hi := Lib.hid hi
      clear hi
      have Hz0 := Lib.hid hz0
      clear hz0
      have Hz1 := Lib.hid hz1
      clear hz1
      have Hz2 := Lib.hid hz2
      clear hz2
      go_wp2_with fail
      go_loop [6] (fun k => ∃ (q : Nat), k = .int .i64 q ∧ q ≤ j ∧ Hid (∀ i (h : i < q) (h2 : i < T.length), lessW T[i] x = true)) (fun k => j - (intOf k).toNat)
      case atStart => exact ⟨0, rfl, Nat.zero_le _, fun i h => by omega⟩
      case round =>
        obtain ⟨q, rfl, hq, HL⟩ := hrel
        have hqd : q ≤ d := by omega
        have hqT : q ≤ T.length := by rw [HTl.out]; exact hq
        by_cases hgo : ∃ h : q < T.length, lessW T[q] x = true
        · obtain ⟨hq2, hless⟩ := hgo
          have hqj : q < j := by rw [← HTl.out]; exact hq2
          have k1 : wo.cell? ⟨g, q, none⟩ = some (.string T[q]) := by
            have := Hcl.out q _ (strs_get T q hq2)
            rwa [Addr.add_lit, Nat.zero_add] at this
          obtain ⟨y, hy⟩ : ∃ y, y = T[q] := ⟨_, rfl⟩
          have hyz : y.size ≤ 1048576 := by rw [hy]; exact HTz.out _ (List.getElem_mem hq2)
          rw [← hy] at k1 hless
          have hC : ∀ W, Calls Try.prog 127 #[.string y, .string x] W fun e w' => e = .returned (.bool true) ∧ W = w' := fun W => by rw [← hless]; exact specLess_any y x W (by omega) (by omega)
          have hN : ∀ i (h : i < q + 1) (h2 : i < T.length), lessW T[i] x = true := fun i h h2 => by
            by_cases hiq : i < q
            · exact HL.out i hiq h2
            · have : i = q := by omega
              subst this
              rw [← hy]; exact hless
          have Hy := Lib.hid hy
          clear hy
          have HC := Lib.hid hC
          clear hC
          have HN := Lib.hid hN
          clear hN
          have Hless := Lib.hid hless
          clear hless
          go_wp2_with fail
          refine (HC.out _).mono ?_
          rintro e w' ⟨rfl, rfl⟩
          go_wp2_with fail
          go_round
          case rel => exact ⟨q + 1, by go_num, by omega, HN⟩
          case measure => simp [intOf] <;> omega
        · have hins : insW T x = T.take q ++ [x] ++ T.drop q := insW_at hqT (fun i h => HL.out i h (by omega)) (fun h => by
            cases hl : lessW T[q] x
            · rfl
            · exact absurd ⟨h, hl⟩ hgo)
          obtain ⟨ad, had, hcut⟩ := cut_addr (g := g) (c := d) (k := q) (m := 1) (km := q) (zs := strs T) (Nat.mul_one q).symm Hlen.out hcap hq
          have hl1 : ((strs T).take (q * 1)).length = q * 1 := by rw [List.length_take, Hlen.out]; omega
          have hl2 : ((strs T).drop (q * 1)).length = (j - q) * 1 := by rw [List.length_drop, Hlen.out]; omega
          have hcat : strs (srtW (ws.take (j + 1))) = (strs T).take (q * 1) ++ [Value.string x] ++ (strs T).drop (q * 1) := by
            rw [Htk.out, hins]
            simp [strs, List.map_take, List.map_drop]
          have hrd := Rd.of_own Hown.out
          have hj5 : q + 1 + (j - q) = j + 1 := by omega
          have Hins := Lib.hid hins
          clear hins
          have Had := Lib.hid had
          clear had
          have Hcut := Lib.hid hcut
          clear hcut
          have Hl1 := Lib.hid hl1
          clear hl1
          have Hl2 := Lib.hid hl2
          clear hl2
          have Hcat := Lib.hid hcat
          clear hcat
          have Hrd := Lib.hid hrd
          clear hrd
          by_cases hqj : q < j
          · have hq2 : q < T.length := by rw [HTl.out]; exact hqj
            have k1 : wo.cell? ⟨g, q, none⟩ = some (.string T[q]) := by
              have := Hcl.out q _ (strs_get T q hq2)
              rwa [Addr.add_lit, Nat.zero_add] at this
            have hless : lessW T[q] x = false := by
              cases hl : lessW T[q] x
              · rfl
              · exact absurd ⟨hq2, hl⟩ hgo
            obtain ⟨y, hy⟩ : ∃ y, y = T[q] := ⟨_, rfl⟩
            have hyz : y.size ≤ 1048576 := by rw [hy]; exact HTz.out _ (List.getElem_mem hq2)
            rw [← hy] at k1 hless
            have hC : ∀ W, Calls Try.prog 127 #[.string y, .string x] W fun e w' => e = .returned (.bool false) ∧ W = w' := fun W => by rw [← hless]; exact specLess_any y x W (by omega) (by omega)
            clear hgo
            obtain rfl : ad = ⟨g, q, none⟩ := by
              have h := Had.out
              rw [if_neg (by omega)] at h
              exact (Option.some.inj h).symm
            have Hy := Lib.hid hy
            clear hy
            have HC := Lib.hid hC
            clear hC
            have Hless := Lib.hid hless
            clear hless
            go_wp2_with fail
            refine (HC.out _).mono ?_
            rintro e w' ⟨rfl, rfl⟩
            clear k1
            go_wp2_with (first | (at_builtin; refine wpList_append_own _ rfl _ _ 29 rfl wo.heap.size 9 i0 _ 1 16 Try.underlying29 Hi.out Hz0.out Hz1.out Hz2.out rfl (by omega) (.slice (some ⟨wo.heap.size, 0, none⟩) 0 0) 0 [] rfl HF0.out ⟨g, 0, none⟩ q d ((strs T).take (q * 1)) rfl Hl1.out (take_cells (Hrd.out.keep HM0.out)) (one_take Hone.out _) (by unfold maxLen; omega) (by omega) hs0 ?_; intro v3 w3 hO3 hG3 hX3; rw [Nat.zero_add, List.nil_append] at hO3; obtain ⟨A3, c3, rfl⟩ := own_form hO3; have hV3 := HM0.out.grown hG3 hs0 (fun k hk => (HF0.out.lt k hk).1); have hs3 := hV3.size; clear hG3 hX3) | (at_builtin; refine wpList_app5 _ w3 _ rfl rfl _ _ 29 rfl wo.heap.size 9 1 16 _ Try.underlying29 info_str rfl (by omega) (.slice A3 q c3) q _ _ rfl rfl rfl hO3 rfl (one_cell_str _) (by omega) (by unfold maxLen; omega) hs3 ?_; intro g5 c5 w5 hO5 hV5 hG5 hat5; have hVx5 := hV3.trans hV5; have hs5 := hVx5.size; clear hG5 hat5 hO3 hV3 hV5) | (at_builtin; go_loud (refine wpList_append_own _ rfl _ _ 29 rfl wo.heap.size 9 i0 _ 1 16 Try.underlying29 Hi.out Hz0.out Hz1.out Hz2.out rfl (by omega) (.slice (some ⟨g5, 0, none⟩) (q + 1) c5) (q + 1) _ rfl hO5 ⟨g, q, none⟩ (j - q) (d - q) ((strs T).drop (q * 1)) (by first | rfl | exact congrArg (fun z => Value.slice z (j - q) (d - q)) Had.out) Hl2.out (Hcut.out _ (Hrd.out.keep hVx5)) (one_drop Hone.out _) (by unfold maxLen; omega) (by omega) hs5 ?_); intro v7 w7 hO7 hG7 hX7; rw [hj5] at hO7; obtain ⟨A7, c7, rfl⟩ := own_form hO7))
            obtain ⟨g7, rfl, -, -⟩ := own_some hO7 (by omega)
            have hV7 := hVx5.grown hG7 hs5 (fun k hk => (hO5.lt k hk).1)
            have hO8 : w7.ownsRow w.heap.size 9 1 (.slice (some ⟨g7, 0, none⟩) (j + 1) c7) (j + 1) (strs (srtW (ws.take (j + 1)))) := by rw [Hcat.out]; exact own_mono hO7 hws
            have hW8 := HW.out.trans (hV7.mono hws)
            clear hO7 hG7 hX7 hO5 hVx5 hV7
            have HO8 := Lib.hid hO8
            clear hO8
            have HW8 := Lib.hid hW8
            clear hW8
            go_wp2_with fail
            go_roundw
            case rel => exact ⟨j + 1, g7, c7, by omega, rfl, by go_num, HO8.out, HW8.out⟩
            case measure => simp [intOf] <;> omega
          · clear hgo
            have hqe : ¬ (q : Int) < (j : Int) := by omega
            go_wp2_with (first | (at_builtin; refine wpList_append_own _ rfl _ _ 29 rfl wo.heap.size 9 i0 _ 1 16 Try.underlying29 Hi.out Hz0.out Hz1.out Hz2.out rfl (by omega) (.slice (some ⟨wo.heap.size, 0, none⟩) 0 0) 0 [] rfl HF0.out ⟨g, 0, none⟩ q d ((strs T).take (q * 1)) rfl Hl1.out (take_cells (Hrd.out.keep HM0.out)) (one_take Hone.out _) (by unfold maxLen; omega) (by omega) hs0 ?_; intro v3 w3 hO3 hG3 hX3; rw [Nat.zero_add, List.nil_append] at hO3; obtain ⟨A3, c3, rfl⟩ := own_form hO3; have hV3 := HM0.out.grown hG3 hs0 (fun k hk => (HF0.out.lt k hk).1); have hs3 := hV3.size; clear hG3 hX3) | (at_builtin; refine wpList_app5 _ w3 _ rfl rfl _ _ 29 rfl wo.heap.size 9 1 16 _ Try.underlying29 info_str rfl (by omega) (.slice A3 q c3) q _ _ rfl rfl rfl hO3 rfl (one_cell_str _) (by omega) (by unfold maxLen; omega) hs3 ?_; intro g5 c5 w5 hO5 hV5 hG5 hat5; have hVx5 := hV3.trans hV5; have hs5 := hVx5.size; clear hG5 hat5 hO3 hV3 hV5) | (at_builtin; refine wpList_append_own _ rfl _ _ 29 rfl wo.heap.size 9 i0 _ 1 16 Try.underlying29 Hi.out Hz0.out Hz1.out Hz2.out rfl (by omega) (.slice (some ⟨g5, 0, none⟩) (q + 1) c5) (q + 1) _ rfl hO5 ad (j - q) (d - q) ((strs T).drop (q * 1)) (by first | rfl | exact congrArg (fun z => Value.slice z (j - q) (d - q)) Had.out) Hl2.out (Hcut.out _ (Hrd.out.keep hVx5)) (one_drop Hone.out _) (by unfold maxLen; omega) (by omega) hs5 ?_; intro v7 w7 hO7 hG7 hX7; rw [hj5] at hO7; obtain ⟨A7, c7, rfl⟩ := own_form hO7))
            obtain ⟨g7, rfl, -, -⟩ := own_some hO7 (by omega)
            have hV7 := hVx5.grown hG7 hs5 (fun k hk => (hO5.lt k hk).1)
            have hO8 : w7.ownsRow w.heap.size 9 1 (.slice (some ⟨g7, 0, none⟩) (j + 1) c7) (j + 1) (strs (srtW (ws.take (j + 1)))) := by rw [Hcat.out]; exact own_mono hO7 hws
            have hW8 := HW.out.trans (hV7.mono hws)
            clear hO7 hG7 hX7 hO5 hVx5 hV7
            have HO8 := Lib.hid hO8
            clear hO8
            have HW8 := Lib.hid hW8
            clear hW8
            go_wp2_with fail
            go_roundw
            case rel => exact ⟨j + 1, g7, c7, by omega, rfl, by go_num, HO8.out, HW8.out⟩
            case measure => simp [intOf] <;> omega
    · have : j = n := by omega
      subst this
      have hT : ws.take j = ws := List.take_of_length_le (by rw [← Hn.out]; exact Nat.le_refl _)
      rw [hT] at hown
      have hl : (srtW ws).length = j := by rw [srtW_len]; exact Hn.out.symm
      go_wp2_with fail
      go_ret
      rw [hl]
      exact ⟨_, d, rfl, hown, hW⟩

set_option maxRecDepth 100000 in
set_option maxHeartbeats 4000000 in
theorem specEqualWords_any (l : Int) (A : Option Addr) (n c : Nat) (rs : List RuleT) (u : ByteArray) (lim : Int) (w : World) (hr : Rd w A (cellsRule rs)) (hn : n = rs.length) (hb : n ≤ 1048576) (hz : ∀ x ∈ rs, x.1.size ≤ 1048576 ∧ x.2.size ≤ 1048576) (hs : u.size ≤ 1048576) :
    Calls Try.prog 53 #[.agg #[.int .i64 l, .slice A n c], .string u, .int .i64 lim] w (MadeSlB w 9 1 (eqL l rs u lim).length (strs (eqL l rs u lim)) (searched l rs u lim)) := by
  have hW0 : Below w.heap.size w (w.alloc (.cells #[.int .i64 l, .slice A n c] 25)) := (Below.refl _ _).alloc (Nat.le_refl _) _
  have hS0 := Bk.new w 25 #[.int .i64 l, .slice A n c]
  have Hr := Lib.hid hr
  clear hr
  have Hn := Lib.hid hn
  clear hn
  have Hz := Lib.hid hz
  clear hz
  go_enter Try.func53, Try.ntmps53
  go_wp2_with fail
  with_reducible refine (specSearchOk_any l A n c rs lim _ (Hr.out.keep hW0) Hn.out hb Hz.out).mono ?_
  rintro e w1 ⟨rfl, b1⟩
  have hW1 := hW0.trans (b1.mono hW0.size)
  have hS1 := hS0.below b1 hS0.lt
  have s0_1 : w1.cell? ⟨w.heap.size, 0, none⟩ = some (.int .i64 l) := by rw [hS1.cell]; rfl
  have s1_1 : w1.cell? ⟨w.heap.size, 1, none⟩ = some (.slice A n c) := by rw [hS1.cell]; rfl
  have sl_1 := hS1.lt
  clear b1
  obtain ⟨r1, hrr⟩ : ∃ r', r' = (searchOk l rs lim) := ⟨_, rfl⟩
  rw [← hrr]
  have H1 := Lib.hid hrr
  clear hrr
  cases r1
  · have e1 : eqL l rs u lim = [] := by rw [eqL, searched, ← H1.out]; rfl
    have e2 : searched l rs u lim = false := by rw [searched, ← H1.out]; rfl
    have E1 := Lib.hid e1
    clear e1
    have E2 := Lib.hid e2
    clear e2
    go_wp2_with fail
    go_ret2
    rw [E1.out, E2.out]
    exact ⟨none, 0, rfl, World.ownsRow_nil _ _ _ _, hW1⟩
  go_wp2_with fail
  with_reducible refine (specWord15_any l A n c u lim _ hs).mono ?_
  rintro e w2 ⟨rfl, b2⟩
  have hW2 := hW1.trans (b2.mono hW1.size)
  have hS2 := hS1.below b2 hS1.lt
  have s0_2 : w2.cell? ⟨w.heap.size, 0, none⟩ = some (.int .i64 l) := by rw [hS2.cell]; rfl
  have s1_2 : w2.cell? ⟨w.heap.size, 1, none⟩ = some (.slice A n c) := by rw [hS2.cell]; rfl
  have sl_2 := hS2.lt
  clear b2
  obtain ⟨r2, hrr⟩ : ∃ r', r' = (word15 l u lim) := ⟨_, rfl⟩
  rw [← hrr]
  have H2 := Lib.hid hrr
  clear hrr
  cases r2
  · have e1 : eqL l rs u lim = [] := by rw [eqL, searched, ← H1.out, ← H2.out]; rfl
    have e2 : searched l rs u lim = false := by rw [searched, ← H1.out, ← H2.out]; rfl
    have E1 := Lib.hid e1
    clear e1
    have E2 := Lib.hid e2
    clear e2
    go_wp2_with fail
    go_ret2
    rw [E1.out, E2.out]
    exact ⟨none, 0, rfl, World.ownsRow_nil _ _ _ _, hW2⟩
  have hsu : searched l rs u lim = true := by rw [searched, ← H1.out, ← H2.out]; rfl
  obtain ⟨hro, hg8, hl8⟩ := searched_out H1.out.symm H2.out.symm
  obtain ⟨S, hS⟩ : ∃ S, S = srAll rs u lim := ⟨_, rfl⟩
  have hgd := srAll_good hro hl8 hg8
  have hlen := srGood_len hgd
  have hsr := specSearch_any l A n c rs u lim w2 (Hr.out.keep hW2) Hn.out hb Hz.out hro hg8 hl8
  have e1 : eqL l rs u lim = srtW (srWords (srAll rs u lim)) := by rw [eqL, if_pos hsu]
  rw [← hS] at hgd hlen hsr e1
  have hwl : ∀ s ∈ srWords S, s.size ≤ 1048576 := fun s hs => by (have := (hgd.2.1 s hs).2.2); omega
  have Hgd := Lib.hid hgd
  clear hgd
  have HS := Lib.hid hS
  clear hS
  have Hro := Lib.hid hro
  clear hro
  have Hg8 := Lib.hid hg8
  clear hg8
  have Hsr := Lib.hid hsr
  clear hsr
  have Hsu := Lib.hid hsu
  clear hsu
  have Hwl := Lib.hid hwl
  clear hwl
  have E1 := Lib.hid e1
  clear e1
  go_wp2_with fail
  refine Hsr.out.mono ?_
  rintro e w4 ⟨g1, c1, g2, c2, g3, c3, g4, c4, rfl, o1, o2, o3, o4, b4⟩
  have hW4 := hW2.trans (b4.mono hW2.size)
  rw [← srWords_len] at o1 hlen ⊢
  have hst := specSort15_any _ _ c1 (srWords S) w4 (Rd.of_own o1.1) rfl (by omega) Hwl.out
  clear b4 s0_2 s1_2 sl_2 hS2 hW2 o1 o2 o3 o4
  have Hst := Lib.hid hst
  clear hst
  have HW4 := Lib.hid hW4
  clear hW4
  go_wp2_with fail
  refine Hst.out.mono ?_
  rintro e w5 ⟨B, d, rfl, o5, b5⟩
  have hW5 := HW4.out.trans (b5.mono HW4.out.size)
  have o6 := own_mono (b' := w.heap.size) o5 HW4.out.size
  clear o5 b5
  have HW5 := Lib.hid hW5
  clear hW5
  have O6 := Lib.hid o6
  clear o6
  go_wp2_with fail
  go_ret2
  rw [E1.out, Hsu.out]
  exact ⟨B, d, rfl, O6.out, HW5.out⟩

end Go.Proofs.Ytidmbeeadbedaaa
