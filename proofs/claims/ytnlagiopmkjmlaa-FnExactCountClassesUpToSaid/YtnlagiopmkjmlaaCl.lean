/- Walks over CountClassesUpTo of the program and of the reference. -/
import Derived.Test.YtnlagiopmkjmlaaFwP
import Derived.Test.YtnlagiopmkjmlaaAppO
import Derived.Test.YtnlagiopmkjmlaaApp5
import Derived.Test.YtnlagiopmkjmlaaCrP
import Derived.Test.YtnlagiopmkjmlaaShortS
namespace Go.Proofs.Ytnlagiopmkjmlaa
open Go.RowKit Go.Shelf

theorem blw_len {L : Nat} (h : L ≤ 4) {k : Nat} (hk : k ≤ 9) : (blw L k).length ≤ 589824 := by
  cases k with
  | zero => simp [blw]
  | succ k =>
    rw [← upTo_blw]
    have := upTo_big h (k := k) (by omega)
    omega
theorem blw_good {l : Int} (h1 : 1 ≤ l) (h4 : l ≤ 4) {k : Nat} (hk : k ≤ 9) : ∀ s ∈ blw l.toNat k, good8 l s := fun s hs => by
  cases k with
  | zero => simp [blw] at hs
  | succ k =>
    rw [← upTo_blw] at hs
    exact upTo_good h1 h4 (by omega) s hs
theorem clTo_len2 {l : Int} {rs : List RuleT} {lim : Int} (hro : rulesOk l rs = true) (hl : lim ≤ 8) (ws : List ByteArray) (hg : ∀ s ∈ ws, good8 l s) : (clTo rs lim ws).1.length ≤ 131072 * ws.length ∧ (clTo rs lim ws).2 ≤ ws.length := by
  have h := clTo_len hro hl ws hg ws.length
  rwa [List.take_length] at h

set_option maxRecDepth 100000 in
set_option maxHeartbeats 8000000 in
theorem implCountClassesUpTo_any (l : Int) (A : Option Addr) (n c : Nat) (rs : List RuleT) (lim : Int) (w : World) (hr : Rd w A (cellsRule rs)) (hn : n = rs.length) (hb : n ≤ 1048576) (hz : ∀ x ∈ rs, x.1.size ≤ 1048576 ∧ x.2.size ≤ 1048576) :
    Calls Try.prog 29 #[.agg #[.int .i64 l, .slice A n c], .int .i64 lim] w (Kept w (.int .i64 (clN l rs lim))) := by
  have hzb : ∀ w : World, (zeroValue 4).run Try.prog w = .ok (.bool false) w := fun w => by kernel_rfl
  have hmm := @run_makeMap Try.prog
  have hW0 : Below w.heap.size w (w.alloc (.cells #[.int .i64 l, .slice A n c] 29)) := (Below.refl _ _).alloc (Nat.le_refl _) _
  have hS0 := Bk.new w 29 #[.int .i64 l, .slice A n c]
  have Hr := Lib.hid hr
  clear hr
  have Hn := Lib.hid hn
  clear hn
  have Hz := Lib.hid hz
  clear hz
  have Hzb := Lib.hid hzb
  clear hzb
  go_enter Try.func29, Try.ntmps29
  go_wp2_with fail
  with_reducible refine (implSearchOk_any l A n c rs lim _ (Hr.out.keep hW0) Hn.out hb Hz.out).mono ?_
  rintro e w1 ⟨rfl, b1⟩
  have hW1 := hW0.trans (b1.mono hW0.size)
  have hS1 := hS0.below b1 hS0.lt
  have s0_1 : w1.cell? ⟨w.heap.size, 0, none⟩ = some (.int .i64 l) := by rw [hS1.cell]; rfl
  have s1_1 : w1.cell? ⟨w.heap.size, 1, none⟩ = some (.slice A n c) := by rw [hS1.cell]; rfl
  have sl_1 := hS1.lt
  clear b1
  obtain ⟨r1, hrr⟩ : ∃ r', r' = (searchOk l rs lim) := ⟨_, rfl⟩
  rw [← hrr]
  have H1 := Lib.hid hrr
  clear hrr
  cases r1
  · have e1 : clN l rs lim = -1 := by rw [clN, ← H1.out]; rfl
    have E1 := Lib.hid e1
    clear e1
    go_wp2_with fail
    go_ret
    exact ⟨ret_int (by rw [E1.out]), hW1⟩
  have hso := H1.out.symm
  unfold searchOk at hso
  simp only [Bool.and_eq_true] at hso
  have hro := hso.1.1
  obtain ⟨hl1, hl4⟩ := rulesOk_l hso.1.1
  obtain ⟨hm1, hm2⟩ := inB_out hso.1.2.symm
  obtain ⟨M, rfl⟩ := Int.eq_ofNat_of_zero_le hm1
  obtain ⟨L, rfl⟩ := Int.eq_ofNat_of_zero_le (show 0 ≤ l by omega)
  have hL1 : 1 ≤ L := by omega
  have hL4 : L ≤ 4 := by omega
  have hM8 : M ≤ 8 := by omega
  have hlim : (M : Int) ≤ 8 := by omega
  obtain ⟨ws, hws⟩ : ∃ ws, ws = upTo L M := ⟨_, rfl⟩
  have e1 : clN (L : Int) rs (M : Int) = ((clTo rs (M : Int) ws).2 : Int) := by rw [clN, ← H1.out, if_pos rfl, Int.toNat_natCast, Int.toNat_natCast, hws]
  have hgw : ∀ s ∈ ws, good8 (L : Int) s := by
    rw [hws]
    have h := upTo_good (l := (L : Int)) (by omega) (by omega) hM8
    rwa [Int.toNat_natCast] at h
  have hwl : ws.length ≤ 589824 := by rw [hws]; have := upTo_big hL4 hM8; omega
  have hUp := fun (W : World) => upTo_any L M W hL1 hL4 hM8
  rw [← hws] at hUp
  obtain ⟨z, hzz⟩ : ∃ z, z = ws.length := ⟨_, rfl⟩
  rw [← hzz] at hUp hwl
  obtain ⟨gm, hgm⟩ : ∃ g, g = w1.heap.size := ⟨_, rfl⟩
  have hm0 := World.ownsMap_made (H := Unit) w1 Try.prog 9 boolR
  rw [← hgm] at hm0
  have hS2 := hS1.alloc (.map #[] 0)
  have hW2 := hW1.alloc hW1.size (.map #[] 0)
  have hgws : w.heap.size < gm := by rw [hgm]; exact sl_1
  have t0 : (w1.alloc (.map #[] 0)).cell? ⟨w.heap.size, 0, none⟩ = some (.int .i64 (L : Int)) := by rw [hS2.cell]; rfl
  have t1 : (w1.alloc (.map #[] 0)).cell? ⟨w.heap.size, 1, none⟩ = some (.slice A n c) := by rw [hS2.cell]; rfl
  have tl := hS2.lt
  clear hso hm1 hm2 hl1 hl4 hS1 hW1 s0_1 s1_1 sl_1
  have Hro := Lib.hid hro
  clear hro
  have Hws := Lib.hid hws
  clear hws
  have E1 := Lib.hid e1
  clear e1
  have Hgw := Lib.hid hgw
  clear hgw
  have HUp := Lib.hid hUp
  clear hUp
  have Hzz := Lib.hid hzz
  clear hzz
  have Hgm := Lib.hid hgm
  clear hgm
  have Hm0 := Lib.hid hm0
  clear hm0
  have HS2 := Lib.hid hS2
  clear hS2
  have HW2 := Lib.hid hW2
  clear hW2
  go_wp2_with fail
  (try rw [← Hgm.out])
  refine (HUp.out _).mono ?_
  rintro e w3 ⟨C, d3, rfl, hOw, b3⟩
  have hS3 := HS2.out.below b3 HS2.out.lt
  have hW3 := HW2.out.trans (b3.mono HW2.out.size)
  have hm3 := map_keep Hm0.out b3 Hm0.out.lt
  have hR3 := Rd.of_own hOw
  have hC3 : ∀ ad, C = some ad → ad.block < w3.heap.size ∧ ad.block ≠ gm := fun ad had => by
    have hl := hOw.lt ad.block (by rw [had]; rfl)
    have hl2 : (w1.alloc (.map #[] 0)).heap.size ≤ ad.block := hl.1
    have := Hm0.out.lt
    exact ⟨hl.2, by omega⟩
  have hM3 : MapT (.map []) (clTo rs (M : Int) (ws.take 0)).1 := by rw [List.take_zero, clTo_nil]; exact MapT.nil
  clear HS2 HW2 Hm0 b3 hOw t0 t1 tl HUp
  have HS3 := Lib.hid hS3
  clear hS3
  have HW3 := Lib.hid hW3
  clear hW3
  have Hm3 := Lib.hid hm3
  clear hm3
  have HR3 := Lib.hid hR3
  clear hR3
  have HC3 := Lib.hid hC3
  clear hC3
  have HM3 := Lib.hid hM3
  clear hM3
  go_wp2_with fail
  (try rw [← Hgm.out])
  go_loopw [5, 23] (fun cv iv wr => ∃ (j cnt nM : Nat) (Sl : List ByteArray) (D : DataW Unit), cv = .int .i64 (cnt : Int) ∧ iv = .int .i64 (j : Int) ∧ j ≤ z ∧ cnt ≤ j ∧ nM ≤ 131072 * j ∧ Hid (clTo rs (M : Int) (ws.take j) = (Sl, cnt)) ∧ Hid (MapT D Sl) ∧ Hid (nM = Sl.length) ∧ Bk wr w.heap.size 29 #[.int .i64 (L : Int), .slice A n c] ∧ Below w.heap.size w wr ∧ Rd wr C (strs ws) ∧ Hid (∀ ad, C = some ad → ad.block < wr.heap.size ∧ ad.block ≠ gm) ∧ wr.ownsMap Try.prog 9 boolR gm nM D) (fun _ iv _ => z - (intOf iv).toNat)
  case atStart => exact ⟨0, 0, 0, [], _, rfl, rfl, Nat.zero_le _, Nat.le_refl _, Nat.zero_le _, Lib.hid rfl, HM3, Lib.hid rfl, HS3.out, HW3.out, HR3.out, HC3, Hm3.out⟩
  case round =>
    clear HS3 HW3 HR3 HC3 Hm3 HM3
    obtain ⟨j, cnt, nM, Sl, D, rfl, rfl, hj, hcnt, hnM, HT, HM, HN, hS, hW, hR, HC, hmp⟩ := hrel
    have hgml := hmp.lt
    by_cases hlt : j < z
    · have hjw : j < ws.length := by rw [← Hzz.out]; exact hlt
      obtain ⟨b, o, hCe, hbl, p0⟩ := rd_Str hR hjw
      have hg8 := Hgw.out ws[j] (List.getElem_mem hjw)
      obtain ⟨x, hx⟩ : ∃ x, x = ws[j] := ⟨_, rfl⟩
      rw [← hx] at p0 hg8
      subst hCe
      have htk : ws.take (j + 1) = ws.take j ++ [x] := by rw [hx]; exact List.take_succ_eq_append_getElem hjw
      have hxs := hg8.2.2
      have hkey := key_str (x := x) (by omega)
      obtain ⟨v0, ps, hlook, hv0⟩ := hmp.lookup (Maps.string_keyed Try.underlying9) Try.underlying92 (Hzb.out _) (boolR_mk false) hkey
      have s0 : wr.cell? ⟨w.heap.size, 0, none⟩ = some (.int .i64 (L : Int)) := by rw [hS.cell]; rfl
      have s1 : wr.cell? ⟨w.heap.size, 1, none⟩ = some (.slice A n c) := by rw [hS.cell]; rfl
      have sl := hS.lt
      obtain ⟨fo, hfo⟩ : ∃ fo, fo = fnd Sl x := ⟨_, rfl⟩
      have hT1 := HT.out
      cases fo with
      | some i0 =>
        have e7 : (fnd Sl x).isSome = true := by rw [← hfo]; rfl
        rw [(HM.out.2 x).2 _ e7] at hv0
        have hv := boolR_inv hv0
        subst hv
        have hlook' : (Instr.lookup 92 (.map (some gm)) (.string x) false).run Try.prog wr = .ok (.bool true) wr := hlook
        have hn2 : clTo rs (M : Int) (ws.take (j + 1)) = (Sl, cnt) := by rw [htk, clTo_hit (i := i0) (by rw [hT1]; exact hfo.symm), hT1]
        clear hlook hv0 hT1
        have Hfo := Lib.hid hfo
        clear hfo
        have E7 := Lib.hid e7
        clear e7
        have Hn2 := Lib.hid hn2
        clear hn2
        have HS := Lib.hid hS
        clear hS
        have HR := Lib.hid hR
        clear hR
        have HW := Lib.hid hW
        clear hW
        have Hmp := Lib.hid hmp
        clear hmp
        have Hx := Lib.hid hx
        clear hx
        have Htk := Lib.hid htk
        clear htk
        have Hg8 := Lib.hid hg8
        clear hg8
        go_wp2_with fail
        go_roundw
        case rel => exact ⟨j + 1, cnt, nM, Sl, D, rfl, by go_num, by omega, by omega, by omega, Hn2, HM, HN, HS.out, HW.out, HR.out, HC, Hmp.out⟩
        case measure => simp [intOf] <;> omega
      | none =>
        have hnh : Maps.has D (.string x.data.toList) = false := by rw [(HM.out.2 x).1, ← hfo]; rfl
        rw [Maps.atKey_of_not_has hnh] at hv0
        have hv := boolR_inv hv0
        subst hv
        have hlook' : (Instr.lookup 92 (.map (some gm)) (.string x) false).run Try.prog wr = .ok (.bool false) wr := hlook
        obtain ⟨S, hSS⟩ : ∃ S, S = srAll rs x (M : Int) := ⟨_, rfl⟩
        have hgd := srAll_good Hro.out hlim hg8
        have hsr := implSearch_any (L : Int) A n c rs x (M : Int) wr (Hr.out.keep hW) Hn.out hb Hz.out Hro.out hg8 hlim
        rw [← hSS] at hgd hsr
        have hsl := srGood_len hgd
        have hn2 : clTo rs (M : Int) (ws.take (j + 1)) = (Sl ++ srWords S, cnt + 1) := by rw [htk, clTo_new (by rw [hT1]; exact hfo.symm), hT1, hSS]
        clear hlook hv0 hT1
        have Hfo := Lib.hid hfo
        clear hfo
        have Hnh := Lib.hid hnh
        clear hnh
        have Hn2 := Lib.hid hn2
        clear hn2
        have HS := Lib.hid hS
        clear hS
        have HR := Lib.hid hR
        clear hR
        have HW := Lib.hid hW
        clear hW
        have Hmp := Lib.hid hmp
        clear hmp
        have Hx := Lib.hid hx
        clear hx
        have Htk := Lib.hid htk
        clear htk
        have Hg8 := Lib.hid hg8
        clear hg8
        have HSS := Lib.hid hSS
        clear hSS
        have Hgd := Lib.hid hgd
        clear hgd
        have Hsr := Lib.hid hsr
        clear hsr
        go_wp2_with fail
        refine Hsr.out.mono ?_
        rintro e w4 ⟨gm2, g1, c1, nM2, D2, rfl, hmp2, hM2, o1, b4, hgm2⟩
        have hS4 := HS.out.below b4 HS.out.lt
        have hW4 := HW.out.trans (b4.mono HW.out.size)
        have hm4 := map_keep Hmp.out b4 hgml
        have hR4 := HR.out.keep b4
        have hC4 : ∀ ad, some (⟨b, o, none⟩ : Addr) = some ad → ad.block < w4.heap.size ∧ ad.block ≠ gm := fun ad had => by
          have h := HC.out ad had
          have := b4.size
          exact ⟨by omega, h.2⟩
        have hg1m : g1 ≠ gm := by
          have h := (o1.1.lt g1 rfl).1
          have := hgml
          omega
        obtain ⟨p, hp⟩ : ∃ p, p = S.length := ⟨_, rfl⟩
        rw [← hp] at o1 hsl ⊢
        have hpw : p = (srWords S).length := by rw [srWords_len]; exact hp
        have hM4 : MapT D (Sl ++ (srWords S).take 0) := by rw [List.take_zero, List.append_nil]; exact HM.out
        have hN4 : nM = (Sl ++ (srWords S).take 0).length := by rw [List.take_zero, List.append_nil]; exact HN.out
        have ho1 := o1.rd
        have ho2 := o1.2
        clear HS HW Hmp HR b4 hmp2 hM2 s0 s1 sl hlook' o1
        have HS4 := Lib.hid hS4
        clear hS4
        have HW4 := Lib.hid hW4
        clear hW4
        have Hm4 := Lib.hid hm4
        clear hm4
        have HR4 := Lib.hid hR4
        clear hR4
        have HC4 := Lib.hid hC4
        clear hC4
        have Hp := Lib.hid hp
        clear hp
        have Hpw := Lib.hid hpw
        clear hpw
        have HM4 := Lib.hid hM4
        clear hM4
        have HN4 := Lib.hid hN4
        clear hN4
        have Ho1 := Lib.hid ho1
        clear ho1
        go_wp2_with fail
        go_loopw [41] (fun iv wr => ∃ (q nM : Nat) (D : DataW Unit), iv = .int .i64 (q : Int) ∧ q ≤ p ∧ nM ≤ 131072 * j + q ∧ Hid (MapT D (Sl ++ (srWords S).take q)) ∧ Hid (nM = (Sl ++ (srWords S).take q).length) ∧ Bk wr w.heap.size 29 #[.int .i64 (L : Int), .slice A n c] ∧ Below w.heap.size w wr ∧ Rd wr (some ⟨b, o, none⟩) (strs ws) ∧ Hid (∀ ad, some (⟨b, o, none⟩ : Addr) = some ad → ad.block < wr.heap.size ∧ ad.block ≠ gm) ∧ Rd wr (some ⟨g1, 0, none⟩) (strs (srWords S)) ∧ g1 < wr.heap.size ∧ wr.ownsMap Try.prog 9 boolR gm nM D) (fun iv _ => p - (intOf iv).toNat)
        case atStart => exact ⟨0, nM, D, rfl, Nat.zero_le _, by omega, HM4, HN4, HS4.out, HW4.out, HR4.out, HC4, Ho1.out, ho2, Hm4.out⟩
        case round =>
          clear HS4 HW4 Hm4 HR4 HC4 HM4 HN4 Ho1 ho2 hgml
          obtain ⟨q, nM, D, rfl, hq, hnM, HM, HN, hS, hW, hR, HC, ho1, ho2, hmp⟩ := hrel
          by_cases hltq : q < p
          · have hqw : q < (srWords S).length := by rw [← Hpw.out]; exact hltq
            obtain ⟨b', o', he', hbl', q0⟩ := rd_Str ho1 hqw
            injection he' with he'
            injection he' with e1 e2 _
            subst e1 e2
            have hy8 := Hgd.out.2.1 _ (List.getElem_mem hqw)
            obtain ⟨y, hy⟩ : ∃ y, y = (srWords S)[q] := ⟨_, rfl⟩
            rw [← hy] at q0 hy8
            have hyz := hy8.2.2
            simp only [Nat.zero_add] at q0
            have htk2 : Sl ++ (srWords S).take (q + 1) = Sl ++ (srWords S).take q ++ [y] := by rw [hy, List.take_succ_eq_append_getElem hqw, List.append_assoc]
            have hkey := key_str (x := y) (by omega)
            obtain ⟨w5, hrun5, hown5, hgrow5⟩ := hmp.update (Maps.string_keyed Try.underlying9) Try.underlying92 (by unfold maxLen; omega) hkey (boolR_mk true)
            have hrun5' : (Instr.mapUpdate 92 (.map (some gm)) (.string y) (.bool true)).run Try.prog wr = .ok () w5 := hrun5
            have hM5 := HM.out.snoc y
            rw [← htk2] at hM5
            have hN5 : nM + 1 = (Sl ++ (srWords S).take (q + 1)).length := by rw [htk2, List.length_append, ← HN.out]; rfl
            have hS5 := hS.grownG hgrow5 (by omega)
            have hW5 := hW.grown hgrow5 hW.size (fun k hk => by injection hk with hk; omega)
            have hR5 := hR.grown hgrow5 (fun ad had e => by have h5 := HC.out ad had; injection e with e; omega)
            have ho5 := ho1.grownG hgrow5 hg1m
            have hsz5 := hgrow5.size
            have hC5 : ∀ ad, some (⟨b, o, none⟩ : Addr) = some ad → ad.block < w5.heap.size ∧ ad.block ≠ gm := fun ad had => by have h := HC.out ad had; exact ⟨by omega, h.2⟩
            have ho25 : g1 < w5.heap.size := by omega
            clear hrun5 hgrow5 hS hW hR ho1 hmp hbl'
            have Hy := Lib.hid hy
            clear hy
            have Htk2 := Lib.hid htk2
            clear htk2
            have HM5 := Lib.hid hM5
            clear hM5
            have HN5 := Lib.hid hN5
            clear hN5
            have HS5 := Lib.hid hS5
            clear hS5
            have HW5 := Lib.hid hW5
            clear hW5
            have HR5 := Lib.hid hR5
            clear hR5
            have Ho5 := Lib.hid ho5
            clear ho5
            have HC5 := Lib.hid hC5
            clear hC5
            have Hown5 := Lib.hid hown5
            clear hown5
            have Hy8 := Lib.hid hy8
            clear hy8
            go_wp2_with fail
            go_roundw
            case rel => exact ⟨q + 1, nM + 1, _, by go_num, by omega, by omega, HM5, HN5, HS5.out, HW5.out, HR5.out, HC5, Ho5.out, ho25, Hown5.out⟩
            case measure => simp [intOf] <;> omega
          · have : q = p := by omega
            subst this
            have hT2 : Sl ++ (srWords S).take q = Sl ++ srWords S := by rw [List.take_of_length_le (by rw [← Hpw.out]; exact Nat.le_refl _)]
            have hM9 := HM.out
            have hN9 := HN.out
            rw [hT2] at hM9 hN9
            have HT2 := Lib.hid hT2
            clear hT2
            have HM9 := Lib.hid hM9
            clear hM9
            have HN9 := Lib.hid hN9
            clear hN9
            have HS := Lib.hid hS
            clear hS
            have HW := Lib.hid hW
            clear hW
            have HR := Lib.hid hR
            clear hR
            have Ho1 := Lib.hid ho1
            clear ho1
            have Hmp := Lib.hid hmp
            clear hmp
            go_wp2_with fail
            go_roundw
            case rel => exact ⟨j + 1, cnt + 1, nM, _, D, by go_num, by go_num, by omega, by omega, by omega, Hn2, HM9, HN9, HS.out, HW.out, HR.out, HC, Hmp.out⟩
            case measure => simp [intOf] <;> omega
    · have : j = z := by omega
      subst this
      have hT2 : ws.take j = ws := List.take_of_length_le (by rw [← Hzz.out]; exact Nat.le_refl _)
      have hT1 := HT.out
      rw [hT2] at hT1
      have e2 : clN (L : Int) rs (M : Int) = (cnt : Int) := by rw [E1.out, hT1]
      clear hT1
      have E2 := Lib.hid e2
      clear e2
      have HT2 := Lib.hid hT2
      clear hT2
      have HS := Lib.hid hS
      clear hS
      have HR := Lib.hid hR
      clear hR
      have Hmp := Lib.hid hmp
      clear hmp
      go_wp2_with fail
      go_ret
      exact ⟨ret_int (by rw [E2.out]), hW⟩

end Go.Proofs.Ytnlagiopmkjmlaa
