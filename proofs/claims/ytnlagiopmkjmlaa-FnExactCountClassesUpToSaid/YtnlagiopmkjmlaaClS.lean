/- Walk over CountClassesUpTo of the reference. -/
import Derived.Test.YtnlagiopmkjmlaaCl
namespace Go.Proofs.Ytnlagiopmkjmlaa
open Go.RowKit Go.Shelf

set_option maxRecDepth 100000 in
set_option maxHeartbeats 8000000 in
theorem specCountClassesUpTo_any (l : Int) (A : Option Addr) (n c : Nat) (rs : List RuleT) (lim : Int) (w : World) (hr : Rd w A (cellsRule rs)) (hn : n = rs.length) (hb : n ≤ 1048576) (hz : ∀ x ∈ rs, x.1.size ≤ 1048576 ∧ x.2.size ≤ 1048576) :
    Calls Try.prog 28 #[.agg #[.int .i64 l, .slice A n c], .int .i64 lim] w (Kept w (.int .i64 (clN l rs lim))) := by
  have hW0 : Below w.heap.size w (w.alloc (.cells #[.int .i64 l, .slice A n c] 29)) := (Below.refl _ _).alloc (Nat.le_refl _) _
  have hS0 := Bk.new w 29 #[.int .i64 l, .slice A n c]
  have Hr := Lib.hid hr
  clear hr
  have Hn := Lib.hid hn
  clear hn
  have Hz := Lib.hid hz
  clear hz
  go_enter Try.func28, Try.ntmps28
  go_wp2_with fail
  with_reducible refine (specSearchOk_any l A n c rs lim _ (Hr.out.keep hW0) Hn.out hb Hz.out).mono ?_
  rintro e w1 ⟨rfl, b1⟩
  have hW1 := hW0.trans (b1.mono hW0.size)
  have hS1 := hS0.below b1 hS0.lt
  have s0_1 : w1.cell? ⟨w.heap.size, 0, none⟩ = some (.int .i64 l) := by rw [hS1.cell]; rfl
  have s1_1 : w1.cell? ⟨w.heap.size, 1, none⟩ = some (.slice A n c) := by rw [hS1.cell]; rfl
  have sl_1 := hS1.lt
  clear b1
  obtain ⟨r1, hrr⟩ : ∃ r', r' = (searchOk l rs lim) := ⟨_, rfl⟩
  rw [← hrr]
  have H1 := Lib.hid hrr
  clear hrr
  cases r1
  · have e1 : clN l rs lim = -1 := by rw [clN, ← H1.out]; rfl
    have E1 := Lib.hid e1
    clear e1
    go_wp2_with fail
    go_ret
    exact ⟨ret_int (by rw [E1.out]), hW1⟩
  have hso := H1.out.symm
  unfold searchOk at hso
  simp only [Bool.and_eq_true] at hso
  have hro := hso.1.1
  obtain ⟨hl1, hl4⟩ := rulesOk_l hso.1.1
  obtain ⟨hm1, hm2⟩ := inB_out hso.1.2.symm
  obtain ⟨M, rfl⟩ := Int.eq_ofNat_of_zero_le hm1
  obtain ⟨L, rfl⟩ := Int.eq_ofNat_of_zero_le (show 0 ≤ l by omega)
  have hL1 : 1 ≤ L := by omega
  have hL4 : L ≤ 4 := by omega
  have hM8 : M ≤ 8 := by omega
  have hlim : (M : Int) ≤ 8 := by omega
  have e1 : clN (L : Int) rs (M : Int) = ((clTo rs (M : Int) (blw L (M + 1))).2 : Int) := by rw [clN, ← H1.out, if_pos rfl, Int.toNat_natCast, Int.toNat_natCast, upTo_blw]
  have hgw : ∀ k, k ≤ 9 → ∀ s ∈ blw L k, good8 (L : Int) s := fun k hk => by
    have h := blw_good (l := (L : Int)) (by omega) (by omega) hk
    rwa [Int.toNat_natCast] at h
  have hgl : ∀ k, k ≤ 8 → ∀ s ∈ lvl L k, good8 (L : Int) s := fun k hk s hs => hgw (k + 1) (by omega) s (by rw [blw, List.mem_append]; exact .inr hs)
  have hO2 := own_of_bk (base := w1.heap.size) (m := 1) (n := 0) (Bk.new w1 9 #[]) (Nat.le_refl _) rfl (by unfold maxLen; omega)
  have hS2 := hS1.alloc (.cells #[] 9)
  have hW2 := hW1.alloc hW1.size (.cells #[] 9)
  have hgws : w.heap.size < w1.heap.size := sl_1
  obtain ⟨G, hG⟩ : ∃ G, G = w1.heap.size := ⟨_, rfl⟩
  rw [← hG] at hO2 hgws
  have hGl : G ≤ (w1.alloc (.cells #[] 9)).heap.size := by rw [hG]; simp
  clear hso hm1 hm2 hl1 hl4 hS1 hW1 s0_1 s1_1 sl_1
  have Hro := Lib.hid hro
  clear hro
  have E1 := Lib.hid e1
  clear e1
  have Hgw := Lib.hid hgw
  clear hgw
  have Hgl := Lib.hid hgl
  clear hgl
  have HO2 := Lib.hid hO2
  clear hO2
  have HS2 := Lib.hid hS2
  clear hS2
  have HW2 := Lib.hid hW2
  clear hW2
  have HG := Lib.hid hG
  clear hG
  go_wp2_with fail
  (try rw [← HG.out])
  go_loopw [5, 6, 7] (fun sv cv kv wr => ∃ (k cnt z : Nat) (Sl : List ByteArray) (B : Option Addr) (d : Nat), sv = .slice B z d ∧ cv = .int .i64 (cnt : Int) ∧ kv = .int .i64 (k : Int) ∧ k ≤ M + 1 ∧ cnt ≤ 589824 ∧ Hid (clTo rs (M : Int) (blw L k) = (Sl, cnt)) ∧ Hid (z = Sl.length) ∧ G ≤ wr.heap.size ∧ Bk wr w.heap.size 29 #[.int .i64 (L : Int), .slice A n c] ∧ Below w.heap.size w wr ∧ wr.ownsRow G 9 1 (.slice B z d) z (strs Sl)) (fun _ _ kv _ => M + 1 - (intOf kv).toNat)
  case atStart => exact ⟨0, 0, 0, [], some ⟨G, 0, none⟩, 0, rfl, rfl, rfl, by omega, by omega, Lib.hid rfl, Lib.hid rfl, hGl, HS2.out, HW2.out, HO2.out⟩
  case round =>
    clear HO2 HS2 HW2 hGl
    obtain ⟨k, cnt, z, Sl, B, d, rfl, rfl, rfl, hk, hcnt, HT, HZ, hGw, hS, hW, hO⟩ := hrel
    by_cases hkM : k ≤ M
    · have hp := lvl_big hL4 (k := k) (by omega)
      have hbl := blw_len hL4 (k := k) (by omega)
      have hcl := clTo_len2 Hro.out hlim (blw L k) (Hgw.out k (by omega))
      rw [HT.out] at hcl
      dsimp only at hcl
      rw [← HZ.out] at hcl
      obtain ⟨W0, hW0⟩ : ∃ W, W = wr := ⟨_, rfl⟩
      rw [← hW0] at hS hW hO hGw ⊢
      have hA2 : Rd (W0.alloc (.cells #[.string ⟨#[]⟩] 9)) (some ⟨W0.heap.size, 0, none⟩) (strs (lvl L 0)) := Rd.of_own (own_of_bk (base := 0) (m := 1) (n := 1) (Bk.new W0 9 #[.string ⟨#[]⟩]) (Nat.zero_le _) rfl (by unfold maxLen; omega))
      have hV2 : Below W0.heap.size W0 (W0.alloc (.cells #[.string ⟨#[]⟩] 9)) := (Below.refl _ _).alloc (Nat.le_refl _) _
      have hgw0 : w.heap.size < W0.heap.size := hS.lt
      have HS := Lib.hid hS
      clear hS
      have HW := Lib.hid hW
      clear hW
      have HO := Lib.hid hO
      clear hO
      have HW0 := Lib.hid hW0
      clear hW0
      have HA2 := Lib.hid hA2
      clear hA2
      have HV2 := Lib.hid hV2
      clear hV2
      go_wp2_with fail
      go_loopw [8, 9] (fun v i wr => ∃ (t : Nat) (C : Option Addr) (e p : Nat), v = .slice C p e ∧ i = .int .i64 t ∧ t ≤ k ∧ Hid (p = (lvl L t).length) ∧ Rd wr C (strs (lvl L t)) ∧ Hid (∀ ad, C = some ad → W0.heap.size ≤ ad.block ∧ ad.block < wr.heap.size) ∧ Below W0.heap.size W0 wr) (fun _ i _ => k - (intOf i).toNat)
      case atStart => exact ⟨0, _, _, 1, rfl, rfl, Nat.zero_le _, Lib.hid rfl, HA2.out, Lib.hid (fun ad had => by injection had with had; subst had; simp), HV2.out⟩
      case round =>
        clear HA2 HV2
        obtain ⟨t, C, e, p, rfl, rfl, ht, HP, hrd, HC, hV⟩ := hrel
        by_cases htk : t < k
        · have hp := lvl_big hL4 (k := t) (by omega)
          rw [← HP.out] at hp
          obtain ⟨w4, hw4⟩ : ∃ w4, w4 = wr := ⟨_, rfl⟩
          obtain ⟨g, hg⟩ : ∃ g, g = w4.heap.size := ⟨_, rfl⟩
          rw [← hw4] at hrd hV ⊢
          have hgw4 : W0.heap.size ≤ g := by rw [hg]; exact hV.size
          have hO5 := own_of_bk (base := g) (m := 1) (n := 0) ((Bk.new w4 9 #[]).cast (g' := g) hg.symm) (Nat.le_refl _) rfl (by unfold maxLen; omega)
          have hV5 : Below g w4 (w4.alloc (.cells #[] 9)) := by rw [hg]; exact (Below.refl _ _).alloc (Nat.le_refl _) _
          have hV4 := hV
          clear hV
          have Hrd := Lib.hid hrd
          clear hrd
          have HV4 := Lib.hid hV4
          clear hV4
          have HO5 := Lib.hid hO5
          clear hO5
          have HV5 := Lib.hid hV5
          clear hV5
          have Hw4 := Lib.hid hw4
          clear hw4
          have Hg := Lib.hid hg
          clear hg
          go_wp2_with fail
          (try rw [← Hg.out])
          go_loopw [10, 39] (fun v i wr => ∃ (j : Nat) (B : Option Addr) (d z : Nat), j ≤ p ∧ v = .slice B z d ∧ i = .int .i64 j ∧ Hid (z = (growL L ((lvl L t).take j)).length) ∧ wr.ownsRow g 9 1 (.slice B z d) z (strs (growL L ((lvl L t).take j))) ∧ Below g w4 wr) (fun _ i _ => p - (intOf i).toNat)
          case atStart => exact ⟨0, _, _, 0, Nat.zero_le _, rfl, rfl, Lib.hid rfl, HO5.out, HV5.out⟩
          case round =>
            clear HO5 HV5
            obtain ⟨j, B, d, z, hj, rfl, rfl, HZ2, hown, hV⟩ := hrel
            by_cases hlt : j < p
            · have hj2 : j < (lvl L t).length := by rw [← HP.out]; exact hlt
              obtain ⟨b, o, hA, hbl, p0⟩ := rd_Str (Hrd.out.keep (Hg.out ▸ hV)) hj2
              obtain ⟨s, hs⟩ : ∃ s, s = (lvl L t)[j] := ⟨_, rfl⟩
              have hmem : s ∈ lvl L t := by rw [hs]; exact List.getElem_mem hj2
              have hsz : s.size ≤ 8 := Nat.le_trans (lvl_size t s hmem) (by omega)
              have htk : (lvl L t).take (j + 1) = (lvl L t).take j ++ [s] := by rw [hs]; exact List.take_succ_eq_append_getElem hj2
              rw [← hs] at p0
              subst hA
              have hz0 : z ≤ 4 * p := by
                rw [HZ2.out]
                have h1 := growL_le hL4 ((lvl L t).take j)
                have h2 := List.length_take_le j (lvl L t)
                omega
              obtain ⟨base0, hbase0⟩ : ∃ q, q = growL L ((lvl L t).take j) := ⟨_, rfl⟩
              rw [← hbase0] at hown
              have hZ' : z = base0.length := by rw [hbase0]; exact HZ2.out
              have hst : growL L ((lvl L t).take (j + 1)) = base0 ++ grow1 s L := by rw [htk, growL_snoc, hbase0]
              clear HZ2
              have Hs := Lib.hid hs
              clear hs
              have Htk := Lib.hid htk
              clear htk
              have Hbase0 := Lib.hid hbase0
              clear hbase0
              have HZ' := Lib.hid hZ'
              clear hZ'
              have Hst := Lib.hid hst
              clear hst
              have Hmem := Lib.hid hmem
              clear hmem
              have HV := Lib.hid hV
              clear hV
              have Hown := Lib.hid hown
              clear hown
              go_wp2_with fail
              go_loopw [10, 13] (fun v i wr => ∃ (x : Nat) (B : Option Addr) (d : Nat), x ≤ L ∧ v = .slice B (z + x) d ∧ i = .int .i64 x ∧ wr.ownsRow g 9 1 (.slice B (z + x) d) (z + x) (strs (base0 ++ grow1 s x)) ∧ Below g w4 wr) (fun _ i _ => L - (intOf i).toNat)
              case atStart => exact ⟨0, B, d, Nat.zero_le _, rfl, rfl, by rw [show grow1 s 0 = [] from rfl, List.append_nil]; exact Hown.out, HV.out⟩
              case round =>
                clear Hown HV
                obtain ⟨x, B, d, hx, rfl, rfl, hown, hV⟩ := hrel
                have hV40 := HV4.out
                have hS8 := (HS.out.below hV40 hgw0).below (hV.mono hgw4) hgw0
                have x0 : wr.cell? ⟨w.heap.size, 0, none⟩ = some (.int .i64 (L : Int)) := by rw [hS8.cell]; rfl
                have hws : g ≤ wr.heap.size := by rw [Hg.out]; exact hV.size
                clear hS8 hV40
                by_cases hxl : x < L
                · have hg1 : strs (base0 ++ grow1 s (x + 1)) = strs (base0 ++ grow1 s x) ++ [.string (s ++ letter (x : Int))] := by rw [grow1_succ, ← List.append_assoc, strs_snoc]
                  have hsl := letter_size (x : Int)
                  have Hg1 := Lib.hid hg1
                  clear hg1
                  go_wp2_with fail
                  refine (specLetter_any (x : Int) _ (by omega) (by omega)).mono ?_
                  rintro e0 w9 ⟨rfl, b9⟩
                  have hV9 := hV.trans (b9.mono hws)
                  have ho9 := own_keep hown b9 (Nat.le_refl _)
                  have hws9 : g ≤ w9.heap.size := by rw [Hg.out]; exact hV9.size
                  clear b9 hV hown x0
                  go_wp2_with (at_builtin; refine wpList_app1 _ w9 rfl _ _ 69 rfl g 9 1 16 _ Try.underlying69 info_str rfl (by omega) _ _ _ _ rfl rfl rfl ho9 rfl (one_cell_str _) (by omega) (by unfold maxLen; omega) (by omega) ?_; intro A5 c5 w5 hO5 hW5)
                  have hV6 := hV9.trans hW5
                  have hO6 : w5.ownsRow g 9 1 (.slice A5 (z + (x + 1)) c5) (z + (x + 1)) (strs (base0 ++ grow1 s (x + 1))) := by rw [Hg1.out]; exact hO5
                  clear hO5 ho9
                  go_wp2_with fail
                  go_roundw
                  case rel => exact ⟨x + 1, A5, c5, by omega, rfl, by go_num, hO6, hV6⟩
                  case measure => simp [intOf] <;> omega
                · have : x = L := by omega
                  subst this
                  go_wp2_with fail
                  go_roundw
                  case rel => exact ⟨j + 1, B, d, z + x, by omega, rfl, by go_num, Lib.hid (by rw [Hst.out, List.length_append, grow1_len, ← HZ'.out]), by rw [Hst.out]; exact hown, hV⟩
                  case measure => simp [intOf] <;> omega
            · have : j = p := by omega
              subst this
              have hT : (lvl L t).take j = lvl L t := List.take_of_length_le (by rw [← HP.out]; exact Nat.le_refl _)
              rw [hT] at hown HZ2
              have hlv : growL L (lvl L t) = lvl L (t + 1) := rfl
              rw [hlv] at hown HZ2
              have hrd2 := Rd.of_own hown
              have hC2 : ∀ ad, B = some ad → W0.heap.size ≤ ad.block ∧ ad.block < wr.heap.size := fun ad had => by
                have h := hown.lt ad.block (by rw [had]; rfl)
                exact ⟨by omega, h.2⟩
              have hV9 := HV4.out.trans (hV.mono hgw4)
              clear hown hV
              have HT := Lib.hid hT
              clear hT
              have Hlv := Lib.hid hlv
              clear hlv
              have Hrd2 := Lib.hid hrd2
              clear hrd2
              have HC2 := Lib.hid hC2
              clear hC2
              have HV9 := Lib.hid hV9
              clear hV9
              go_wp2_with fail
              go_roundw
              case rel => exact ⟨t + 1, B, d, z, rfl, by go_num, by omega, HZ2, Hrd2.out, HC2, HV9.out⟩
              case measure => simp [intOf] <;> omega
        · have : t = k := by omega
          subst this
          have hS5 := HS.out.below hV hgw0
          have hW5 := HW.out.trans (hV.mono (by omega))
          have hO5 := own_keep HO.out hV (Nat.le_refl _)
          have hA5 : Apt (.slice B z d) C wr := fun ad had => ⟨fun e9 => by
            have h1 := (HO.out.lt _ e9).2
            have h2 := (HC.out ad had).1
            omega, (HC.out ad had).2⟩
          have hGw5 : G ≤ wr.heap.size := Nat.le_trans hGw hV.size
          have hT5 : clTo rs (M : Int) (blw L t ++ (lvl L t).take 0) = (Sl, cnt) := by rw [List.take_zero, List.append_nil]; exact HT.out
          clear HS HW HO hV HC
          have HS5 := Lib.hid hS5
          clear hS5
          have HW5 := Lib.hid hW5
          clear hW5
          have HO5 := Lib.hid hO5
          clear hO5
          have HA5 := Lib.hid hA5
          clear hA5
          have Hrd := Lib.hid hrd
          clear hrd
          have HT5 := Lib.hid hT5
          clear hT5
          go_wp2_with fail
          go_loopw [5, 6, 60] (fun sv cv iv wr => ∃ (j cnt z : Nat) (Sl : List ByteArray) (B : Option Addr) (d : Nat), sv = .slice B z d ∧ cv = .int .i64 (cnt : Int) ∧ iv = .int .i64 (j : Int) ∧ j ≤ p ∧ cnt ≤ (blw L t).length + j ∧ z ≤ 131072 * ((blw L t).length + j) ∧ Hid (clTo rs (M : Int) (blw L t ++ (lvl L t).take j) = (Sl, cnt)) ∧ Hid (z = Sl.length) ∧ G ≤ wr.heap.size ∧ Bk wr w.heap.size 29 #[.int .i64 (L : Int), .slice A n c] ∧ Below w.heap.size w wr ∧ wr.ownsRow G 9 1 (.slice B z d) z (strs Sl) ∧ Rd wr C (strs (lvl L t)) ∧ Apt (.slice B z d) C wr) (fun _ _ iv _ => p - (intOf iv).toNat)
          case atStart => exact ⟨0, cnt, z, Sl, B, d, rfl, rfl, rfl, Nat.zero_le _, hcl.2, hcl.1, HT5, HZ, hGw5, HS5.out, HW5.out, HO5.out, Hrd.out, HA5.out⟩
          case round =>
            clear HS5 HW5 HO5 HA5 Hrd HT5 hcl hGw5 HT HZ hcnt
            obtain ⟨j, cnt, z, Sl, B, d, rfl, rfl, rfl, hj, hcnt, hzl, HT, HZ, hGw, hS, hW, hO, hrd, hA⟩ := hrel
            have hpb : (blw L t).length + p ≤ 589824 := by
              have h := blw_len hL4 (k := t + 1) (by omega)
              rw [blw, List.length_append, ← HP.out] at h
              exact h
            by_cases hlt : j < p
            · have hjl : j < (lvl L t).length := by rw [← HP.out]; exact hlt
              obtain ⟨b, o, hCe, hbl9, p0⟩ := rd_Str hrd hjl
              have hg8 := Hgl.out t (by omega) _ (List.getElem_mem hjl)
              obtain ⟨x, hx⟩ : ∃ x, x = (lvl L t)[j] := ⟨_, rfl⟩
              rw [← hx] at p0 hg8
              subst hCe
              have htk : blw L t ++ (lvl L t).take (j + 1) = blw L t ++ (lvl L t).take j ++ [x] := by rw [hx, List.take_succ_eq_append_getElem hjl, List.append_assoc]
              have hxs := hg8.2.2
              have s0 : wr.cell? ⟨w.heap.size, 0, none⟩ = some (.int .i64 (L : Int)) := by rw [hS.cell]; rfl
              have s1 : wr.cell? ⟨w.heap.size, 1, none⟩ = some (.slice A n c) := by rw [hS.cell]; rfl
              have sl := hS.lt
              have hT1 := HT.out
              have hrs := Rd.of_own hO
              obtain ⟨fo, hfo⟩ : ∃ fo, fo = fnd Sl x := ⟨_, rfl⟩
              cases fo with
              | some i0 =>
                have e7 : fndI Sl x = (i0 : Int) := by simp [fndI, ← hfo]
                have hn2 : clTo rs (M : Int) (blw L t ++ (lvl L t).take (j + 1)) = (Sl, cnt) := by rw [htk, clTo_hit (i := i0) (by rw [hT1]; exact hfo.symm), hT1]
                clear hT1
                have Hfo := Lib.hid hfo
                clear hfo
                have E7 := Lib.hid e7
                clear e7
                have Hn2 := Lib.hid hn2
                clear hn2
                have HS := Lib.hid hS
                clear hS
                have HW := Lib.hid hW
                clear hW
                have HO := Lib.hid hO
                clear hO
                have Hrd := Lib.hid hrd
                clear hrd
                have HA := Lib.hid hA
                clear hA
                have Hx := Lib.hid hx
                clear hx
                have Htk := Lib.hid htk
                clear htk
                have Hg8 := Lib.hid hg8
                clear hg8
                have Hrs := Lib.hid hrs
                clear hrs
                go_wp2_with fail
                refine (specFind_any B z d Sl x _ Hrs.out HZ.out (by omega)).mono ?_
                rintro e w3 ⟨rfl, rfl⟩
                rw [E7.out]
                go_wp2_with fail
                go_roundw
                case rel => exact ⟨j + 1, cnt, z, Sl, B, d, rfl, rfl, by go_num, by omega, by omega, by omega, Hn2, HZ, hGw, HS.out, HW.out, HO.out, Hrd.out, HA.out⟩
                case measure => simp [intOf] <;> omega
              | none =>
                have e7 : fndI Sl x = -1 := by simp [fndI, ← hfo]
                obtain ⟨S, hSS⟩ : ∃ S, S = srAll rs x (M : Int) := ⟨_, rfl⟩
                have hgd := srAll_good Hro.out hlim hg8
                have hpos := srAll_pos rs x (M : Int)
                have hsr := specSearch_any (L : Int) A n c rs x (M : Int) wr (Hr.out.keep hW) Hn.out hb Hz.out Hro.out hg8 hlim
                rw [← hSS] at hgd hsr hpos
                have hsl := srGood_len hgd
                have hn2 : clTo rs (M : Int) (blw L t ++ (lvl L t).take (j + 1)) = (Sl ++ srWords S, cnt + 1) := by rw [htk, clTo_new (by rw [hT1]; exact hfo.symm), hT1, hSS]
                clear hT1
                have Hfo := Lib.hid hfo
                clear hfo
                have E7 := Lib.hid e7
                clear e7
                have Hn2 := Lib.hid hn2
                clear hn2
                have HS := Lib.hid hS
                clear hS
                have HW := Lib.hid hW
                clear hW
                have HO := Lib.hid hO
                clear hO
                have Hrd := Lib.hid hrd
                clear hrd
                have HA := Lib.hid hA
                clear hA
                have Hx := Lib.hid hx
                clear hx
                have Htk := Lib.hid htk
                clear htk
                have Hg8 := Lib.hid hg8
                clear hg8
                have Hrs := Lib.hid hrs
                clear hrs
                have HSS := Lib.hid hSS
                clear hSS
                have Hgd := Lib.hid hgd
                clear hgd
                have Hsr := Lib.hid hsr
                clear hsr
                go_wp2_with fail
                refine (specFind_any B z d Sl x _ Hrs.out HZ.out (by omega)).mono ?_
                rintro e w3 ⟨rfl, rfl⟩
                rw [E7.out]
                go_wp2_with fail
                refine Hsr.out.mono ?_
                rintro e w4 ⟨g1, c1, g2, c2, g3, c3, g4, c4, rfl, o1, o2, o3, o4, b4⟩
                have hS4 := HS.out.below b4 HS.out.lt
                have hW4 := HW.out.trans (b4.mono HW.out.size)
                have hO4 := own_keep HO.out b4 (Nat.le_refl _)
                have hrd4 := Hrd.out.keep b4
                have hA4 := HA.out.below b4
                have hGw4 : G ≤ w4.heap.size := Nat.le_trans hGw b4.size
                obtain ⟨q, hq⟩ : ∃ q, q = S.length := ⟨_, rfl⟩
                rw [← hq] at o1 hsl hpos ⊢
                have hl1 : (strs (srWords S)).length = q * 1 := o1.1.1
                have hc1 := hcells_own o1.1
                have hoc := one_cell_strs (srWords S)
                have hcat : strs (Sl ++ srWords S) = strs Sl ++ strs (srWords S) := strs_app _ _
                have hz2 : z + q = (Sl ++ srWords S).length := by rw [List.length_append, srWords_len, ← hq, HZ.out]
                obtain ⟨i9, hi, hz0, hz1, hz3⟩ := info_parts info_str
                clear HS HW HO Hrd HA b4 s0 s1 sl Hrs o1 o2 o3 o4
                have HS4 := Lib.hid hS4
                clear hS4
                have HW4 := Lib.hid hW4
                clear hW4
                have HO4 := Lib.hid hO4
                clear hO4
                have Hrd4 := Lib.hid hrd4
                clear hrd4
                have HA4 := Lib.hid hA4
                clear hA4
                have Hq := Lib.hid hq
                clear hq
                have Hc1 := Lib.hid hc1
                clear hc1
                have Hoc := Lib.hid hoc
                clear hoc
                have Hcat := Lib.hid hcat
                clear hcat
                have Hz2 := Lib.hid hz2
                clear hz2
                have Hz0 := Lib.hid hz0
                clear hz0
                have Hz1 := Lib.hid hz1
                clear hz1
                have Hz3 := Lib.hid hz3
                clear hz3
                go_wp2_with (at_builtin; refine wpList_append_lies _ rfl _ _ 69 rfl G 9 i9 _ 1 16 Try.underlying69 hi Hz0.out Hz1.out Hz3.out rfl (by omega) (.slice B z d) z _ rfl HO4.out ⟨g1, 0, none⟩ q c1 (strs (srWords S)) rfl hl1 Hc1.out Hoc.out (by omega) (by unfold maxLen; omega) (by omega) hGw4 _ rfl ?_; intro g5 c5 w5 hO5 hG5 hat5 hlt5)
                have hS5 := HS4.out.grown hG5 (by intro e; (have := (HO4.out.lt _ e.symm).1); omega)
                have hW5 := HW4.out.grown hG5 HW4.out.size (fun k hk => by (have := (HO4.out.lt k hk).1); omega)
                have hO6 : w5.ownsRow G 9 1 (.slice (some ⟨g5, 0, none⟩) (z + q) c5) (z + q) (strs (Sl ++ srWords S)) := by rw [Hcat.out]; exact hO5
                have hR6 := HA4.out.rd Hrd4.out hG5
                have hA6 := HA4.out.next (n := z + q) (c := c5) hG5 (by rcases hat5 with h | h; exact .inl h; exact .inr (by omega))
                have hGw6 : G ≤ w5.heap.size := Nat.le_trans hGw4 hG5.size
                clear hO5 hG5 hat5 HS4 HW4 HO4 Hrd4 HA4
                have HS5 := Lib.hid hS5
                clear hS5
                have HW5 := Lib.hid hW5
                clear hW5
                have HO6 := Lib.hid hO6
                clear hO6
                have HR6 := Lib.hid hR6
                clear hR6
                have HA6 := Lib.hid hA6
                clear hA6
                go_wp2_with fail
                go_roundw
                case rel => exact ⟨j + 1, cnt + 1, z + q, _, some ⟨g5, 0, none⟩, c5, rfl, by go_num, by go_num, by omega, by omega, by omega, Hn2, Hz2, hGw6, HS5.out, HW5.out, HO6.out, HR6.out, HA6.out⟩
                case measure => simp [intOf] <;> omega
            · have : j = p := by omega
              subst this
              have hT2 : (lvl L t).take j = lvl L t := List.take_of_length_le (by rw [← HP.out]; exact Nat.le_refl _)
              have hT9 := HT.out
              rw [hT2] at hT9
              have hT8 : clTo rs (M : Int) (blw L (t + 1)) = (Sl, cnt) := hT9
              clear hT9
              have HT2 := Lib.hid hT2
              clear hT2
              have HT8 := Lib.hid hT8
              clear hT8
              have HS := Lib.hid hS
              clear hS
              have HW := Lib.hid hW
              clear hW
              have HO := Lib.hid hO
              clear hO
              have Hrd := Lib.hid hrd
              clear hrd
              have HA := Lib.hid hA
              clear hA
              go_wp2_with fail
              go_roundw
              case rel => exact ⟨t + 1, cnt, z, Sl, B, d, rfl, rfl, by go_num, by omega, by omega, HT8, HZ, hGw, HS.out, HW.out, HO.out⟩
              case measure => simp [intOf] <;> omega
    · have : k = M + 1 := by omega
      subst this
      have e2 : clN (L : Int) rs (M : Int) = (cnt : Int) := by rw [E1.out, HT.out]
      have E2 := Lib.hid e2
      clear e2
      go_wp2_with fail
      go_ret
      exact ⟨ret_int (by rw [E2.out]), hW⟩

end Go.Proofs.Ytnlagiopmkjmlaa
