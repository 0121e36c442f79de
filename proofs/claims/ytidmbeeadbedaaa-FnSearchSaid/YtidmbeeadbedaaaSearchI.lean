/- Walk over the program's search: the map and the words that it hands back. -/
import Derived.Test.YtidmbeeadbedaaaSrMap
import Derived.Maps.OwnSet
namespace Go.Proofs.Ytidmbeeadbedaaa
open Go.RowKit Go.Shelf

def MadeSrM (w : World) (S : List SrT) (e : Ending) (w' : World) : Prop :=
  ∃ gm g1 c1 nM D, e = .returned (.tuple #[.map (some gm), .slice (some ⟨g1, 0, none⟩) S.length c1]) ∧ w'.ownsMap Try.prog 9 arrR gm nM D ∧ MapSr D S ∧ OwnG w' g1 w.heap.size 9 1 S.length (strs (srWords S)) c1 ∧ Below w.heap.size w w' ∧ w.heap.size ≤ gm

theorem zero_arr (w : World) : (zeroValue 116).run Try.prog w = .ok (arrV (⟨#[]⟩, (0, 0, false), 0)) w := by kernel_rfl
set_option maxRecDepth 100000 in
set_option maxHeartbeats 4000000 in
theorem implSearch_any (l : Int) (A : Option Addr) (n c : Nat) (rs : List RuleT) (s : ByteArray) (lim : Int) (w : World) (hr : Rd w A (cellsRule rs)) (hn : n = rs.length) (hb : n ≤ 1048576) (hz : ∀ x ∈ rs, x.1.size ≤ 1048576 ∧ x.2.size ≤ 1048576) (hro : rulesOk l rs = true) (hg8 : good8 l s) (hlim : lim ≤ 8) :
    Calls Try.prog 82 #[.agg #[.int .i64 l, .slice A n c], .string s, .int .i64 lim] w (MadeSrM w (srAll rs s lim)) := by
  have hmm := @run_makeMap Try.prog
  have hsz := hg8.2.2
  have hk0 := key_str (x := s) (by omega)
  have hm0 := World.ownsMap_made (H := Unit) (w.alloc (.cells #[.int .i64 l, .slice A n c] 25)) Try.prog 9 arrR
  have hS00 := (Bk.new w 25 #[.int .i64 l, .slice A n c]).alloc (.map #[] 0)
  have hW00 : Below w.heap.size w ((w.alloc (.cells #[.int .i64 l, .slice A n c] 25)).alloc (.map #[] 0)) := ((Below.refl _ _).alloc (Nat.le_refl _) _).alloc (by simp) _
  have hsz0 : (w.alloc (.cells #[.int .i64 l, .slice A n c] 25)).heap.size = w.heap.size + 1 := by simp
  rw [hsz0] at hm0
  obtain ⟨w2, hrun2, hown2, hgrow2⟩ := hm0.update (Maps.string_keyed Try.underlying9) Try.underlying111 (by unfold maxLen; omega) hk0 (arrR_mk (⟨#[45]⟩, (0, 0, false), 0))
  have hS2 := hS00.grown hgrow2 (by simp)
  have hW2 := hW00.grown hgrow2 hW00.size (fun j hj => by cases hj; omega)
  have hM2 := MapSr.first s
  have hl2 := hgrow2.size
  have hml2 := hown2.lt
  obtain ⟨g0, hg0⟩ : ∃ g, g = w2.heap.size := ⟨_, rfl⟩
  have hrun2' : (Instr.mapUpdate 111 (.map (some (w.heap.size + 1))) (.string s) (.agg #[.string ⟨#[45]⟩, .int .i64 0, .int .i64 0, .bool false, .int .i64 0])).run Try.prog ((w.alloc (.cells #[.int .i64 l, .slice A n c] 25)).alloc (.map #[] 0)) = .ok () w2 := hrun2
  have o1 : OwnG (w2.alloc (.cells #[.string s] 9)) g0 w.heap.size 9 1 1 (strs (srWords [(s, -1, (0, 0, false), 0)])) 1 := (OwnG.new w2 9 #[.string s] w.heap.size 1 1 hW2.size rfl (by unfold maxLen; omega)).cast hg0.symm
  have hS3 := hS2.alloc (.cells #[.string s] 9)
  have hW3 := hW2.alloc hW2.size (.cells #[.string s] 9)
  have hown3 := hown2.alloc (.cells #[.string s] 9)
  have hgd : srGood l [(s, -1, (0, 0, false), 0)] := ⟨by simp [srWords], fun t ht => by simp [srWords] at ht; rw [ht]; exact hg8, fun i hi => by
    have : i = 0 := by simp at hi; omega
    subst this
    exact ⟨Int.le_refl _, Int.le_refl _⟩⟩
  have hwf : srWf [(s, -1, (0, 0, false), 0)] := fun i hi => by
    have : i = 0 := by simp at hi; omega
    subst this
    exact .inl ⟨rfl, rfl, rfl⟩
  have hgm : g0 ≠ w.heap.size + 1 := by omega
  have hgl0 : w.heap.size < g0 := by omega
  clear hm0 hS00 hW00 hgrow2 hrun2 hown2 hS2 hW2
  have Hr := Lib.hid hr
  clear hr
  have Hn := Lib.hid hn
  clear hn
  have Hz := Lib.hid hz
  clear hz
  have Hro := Lib.hid hro
  clear hro
  have HS3 := Lib.hid hS3
  clear hS3
  have HW3 := Lib.hid hW3
  clear hW3
  have Hown3 := Lib.hid hown3
  clear hown3
  have O1 := Lib.hid o1
  clear o1
  have Hgd := Lib.hid hgd
  clear hgd
  have Hwf := Lib.hid hwf
  clear hwf
  have HM2 := Lib.hid hM2
  clear hM2
  have Hg0 := Lib.hid hg0
  clear hg0
  go_enter Try.func82, Try.ntmps82
  go_wp2_with fail
  (try rw [← Hg0.out])
  go_loopw [9, 10] (fun v i wr => ∃ (a : Nat) (S : List SrT) (p g1 c1 nM : Nat) (D : DataW Unit), v = .slice (some ⟨g1, 0, none⟩) p c1 ∧ i = .int .i64 a ∧ Hid (p = S.length) ∧ a ≤ p ∧ nM ≤ p ∧ g1 ≠ w.heap.size + 1 ∧ w.heap.size < g1 ∧ Hid (srGood l S) ∧ Hid (srWf S) ∧ Hid (srAll rs s lim = srGo rs lim (131073 - a) a S) ∧ Hid (MapSr D S) ∧ Bk wr w.heap.size 25 #[.int .i64 l, .slice A n c] ∧ Below w.heap.size w wr ∧ wr.ownsMap Try.prog 9 arrR (w.heap.size + 1) nM D ∧ OwnG wr g1 w.heap.size 9 1 p (strs (srWords S)) c1) (fun _ i _ => 131073 - (intOf i).toNat)
  case atStart => exact ⟨0, _, 1, _, _, _, _, rfl, rfl, Lib.hid rfl, by omega, by omega, hgm, hgl0, Hgd, Hwf, Lib.hid rfl, HM2, HS3.out, HW3.out, Hown3.out, O1.out⟩
  case round =>
    clear HS3 HW3 Hown3 O1 Hgd Hwf HM2 Hg0 hrun2' hmm hk0 hgm hgl0
    obtain ⟨a, S0, p, g1, c1, nM, D, rfl, rfl, HP, hap, hnM, hg1m, hg1l, HG, HWf, HE, HM, hS, hW, hmp, o1⟩ := hrel
    have hpl : p ≤ 131072 := by rw [HP.out]; exact srGood_len HG.out
    by_cases hlt : a < p
    · have hal : a < S0.length := by rw [← HP.out]; exact hlt
      obtain ⟨cur, hcur⟩ : ∃ x, x = (srAt S0 a).1 := ⟨_, rfl⟩
      have hcg : good8 l cur := by rw [hcur]; exact HG.out.2.1 _ (srAt_word hal)
      have hcz := hcg.2.2
      have hcw := (srAt_cell hal).1
      rw [← hcur] at hcw
      have h1l := o1.2
      have hsl := hS.lt
      have k1 := o1.cell hcw
      have eS : ∀ W, Below wr.heap.size wr W → W.cell? ⟨w.heap.size, 0, none⟩ = some (.int .i64 l) ∧ W.cell? ⟨w.heap.size, 1, none⟩ = some (.slice A n c) ∧ W.cell? ⟨g1, a, none⟩ = some (.string cur) := fun W h => ⟨by rw [(hS.below h hS.lt).cell]; rfl, by rw [(hS.below h hS.lt).cell]; rfl, (h.cell (p := ⟨g1, a, none⟩) h1l).trans k1⟩
      have hV0 : Below wr.heap.size wr wr.drew := (Below.refl _ _).drew
      have eR : ∀ W, Below wr.heap.size wr W → Rd W A (cellsRule rs) := fun W h => Hr.out.keep (hW.trans (h.mono hW.size))
      obtain ⟨X, hX⟩ : ∃ X, X = lkAll rs cur lim := ⟨_, rfl⟩
      obtain ⟨q, hq⟩ : ∃ q, q = X.length := ⟨_, rfl⟩
      have hqb : q ≤ 408 := by rw [hq, hX]; exact lkAll_len Hro.out (by omega)
      have ES := Lib.hid eS
      clear eS
      have ER := Lib.hid eR
      clear eR
      have Hcur := Lib.hid hcur
      clear hcur
      have HX := Lib.hid hX
      clear hX
      have Hq := Lib.hid hq
      clear hq
      have Hcg := Lib.hid hcg
      clear hcg
      have Hcw := Lib.hid hcw
      clear hcw
      have HS := Lib.hid hS
      clear hS
      have HW := Lib.hid hW
      clear hW
      have O1 := Lib.hid o1
      clear o1
      have Hmp := Lib.hid hmp
      clear hmp
      clear k1
      go_wp2_with fail
      refine wp_region_held_drew (S := (fun W => W.cell? ⟨w.heap.size, 0, none⟩ = some (.int .i64 l) ∧ W.cell? ⟨w.heap.size, 1, none⟩ = some (.slice A n c) ∧ W.cell? ⟨g1, a, none⟩ = some (.string cur))) (by kernel_rfl) (ES.out _ hV0) (fun hHeld => ?_)
      refine wpAnyH_take (i := 0) (oi := ?oi119) (v := ?val119) ?hi119 ?hs119 ?hf119 ?hr119 ?hQ119 ?hy119 ?hS119 ?hrest119
      case hi119 => (simp only [List.getElem?_toArray, List.getElem?_cons_succ, List.getElem?_cons_zero] <;> exact rfl)
      case hs119 => kernel_rfl
      case hf119 => kernel_rfl
      case hr119 => kernel_rfl
      case hQ119 => exact fun _ _ _ h => h
      case hS119 => assumption
      case hy119 => (refine Or.inl ⟨by rfl, ?_⟩; intro w hSw; (try dsimp only at hSw); obtain ⟨z0, z1, z2⟩ := hSw; go_simp; try with_reducible rfl)
      simp only [Act.put, List.setIfInBounds_toArray, List.set_cons_zero, List.set_cons_succ]
      refine wpAnyH_take (i := 1) (oi := ?oi128) (v := ?val128) ?hi128 ?hs128 ?hf128 ?hr128 ?hQ128 ?hy128 ?hS128 ?hrest128
      case hi128 => (simp only [List.getElem?_toArray, List.getElem?_cons_succ, List.getElem?_cons_zero] <;> exact rfl)
      case hs128 => kernel_rfl
      case hf128 => kernel_rfl
      case hr128 => kernel_rfl
      case hQ128 => exact fun _ _ _ h => h
      case hS128 => assumption
      case hy128 => (refine Or.inl ⟨by rfl, ?_⟩; intro w hSw; (try dsimp only at hSw); obtain ⟨z0, z1, z2⟩ := hSw; go_simp; try with_reducible rfl)
      simp only [Act.put, List.setIfInBounds_toArray, List.set_cons_zero, List.set_cons_succ]
      refine wpAnyH_take (i := 2) (oi := ?oi137) (v := ?val137) ?hi137 ?hs137 ?hf137 ?hr137 ?hQ137 ?hy137 ?hS137 ?hrest137
      case hi137 => (simp only [List.getElem?_toArray, List.getElem?_cons_succ, List.getElem?_cons_zero] <;> exact rfl)
      case hs137 => kernel_rfl
      case hf137 => kernel_rfl
      case hr137 => kernel_rfl
      case hQ137 => exact fun _ _ _ h => h
      case hS137 => assumption
      case hy137 => (refine Or.inl ⟨by rfl, ?_⟩; intro w hSw; (try dsimp only at hSw); obtain ⟨z0, z1, z2⟩ := hSw; go_simp; try with_reducible rfl)
      simp only [Act.put, List.setIfInBounds_toArray, List.set_cons_zero, List.set_cons_succ]
      refine wpAnyH_take (i := 3) (oi := ?oi146) (v := ?val146) ?hi146 ?hs146 ?hf146 ?hr146 ?hQ146 ?hy146 ?hS146 ?hrest146
      case hi146 => (simp only [List.getElem?_toArray, List.getElem?_cons_succ, List.getElem?_cons_zero] <;> exact rfl)
      case hs146 => kernel_rfl
      case hf146 => kernel_rfl
      case hr146 => kernel_rfl
      case hQ146 => exact fun _ _ _ h => h
      case hS146 => assumption
      case hy146 => (refine Or.inl ⟨by rfl, ?_⟩; intro w hSw; (try dsimp only at hSw); obtain ⟨z0, z1, z2⟩ := hSw; go_simp; try with_reducible rfl)
      simp only [Act.put, List.setIfInBounds_toArray, List.set_cons_zero, List.set_cons_succ]
      refine wpAnyH_take (i := 4) (oi := ?oi155) (v := ?val155) ?hi155 ?hs155 ?hf155 ?hr155 ?hQ155 ?hy155 ?hS155 ?hrest155
      case hi155 => (simp only [List.getElem?_toArray, List.getElem?_cons_succ, List.getElem?_cons_zero] <;> exact rfl)
      case hs155 => kernel_rfl
      case hf155 => kernel_rfl
      case hr155 => kernel_rfl
      case hQ155 => exact fun _ _ _ h => h
      case hS155 => assumption
      case hy155 => (refine Or.inl ⟨by rfl, ?_⟩; intro w hSw; (try dsimp only at hSw); obtain ⟨z0, z1, z2⟩ := hSw; go_simp; try with_reducible rfl)
      simp only [Act.put, List.setIfInBounds_toArray, List.set_cons_zero, List.set_cons_succ]
      refine wpAnyH_take (i := 5) (oi := ?oi164) (v := ?val164) ?hi164 ?hs164 ?hf164 ?hr164 ?hQ164 ?hy164 ?hS164 ?hrest164
      case hi164 => (simp only [List.getElem?_toArray, List.getElem?_cons_succ, List.getElem?_cons_zero] <;> exact rfl)
      case hs164 => kernel_rfl
      case hf164 => kernel_rfl
      case hr164 => kernel_rfl
      case hQ164 => exact fun _ _ _ h => h
      case hS164 => assumption
      case hy164 => (refine Or.inl ⟨by rfl, ?_⟩; intro w hSw; (try dsimp only at hSw); obtain ⟨z0, z1, z2⟩ := hSw; go_simp; try with_reducible rfl)
      simp only [Act.put, List.setIfInBounds_toArray, List.set_cons_zero, List.set_cons_succ]
      refine wpAnyH_take (i := 8) (oi := ?oi173) (v := ?val173) ?hi173 ?hs173 ?hf173 ?hr173 ?hQ173 ?hy173 ?hS173 ?hrest173
      case hi173 => (simp only [List.getElem?_toArray, List.getElem?_cons_succ, List.getElem?_cons_zero] <;> exact rfl)
      case hs173 => kernel_rfl
      case hf173 => kernel_rfl
      case hr173 => kernel_rfl
      case hQ173 => exact fun _ _ _ h => h
      case hS173 => assumption
      case hy173 => (refine Or.inl ⟨by rfl, ?_⟩; intro w hSw; (try dsimp only at hSw); obtain ⟨z0, z1, z2⟩ := hSw; go_simp; try with_reducible rfl)
      simp only [Act.put, List.setIfInBounds_toArray, List.set_cons_zero, List.set_cons_succ]
      refine wpAnyH_ready (rs := [6]) (by kernel_rfl) (by simp) ?_
      refine AllReadyH.cons rfl (fun K hK => ?_) AllReadyH.nil
      (go_simp; ((with_reducible refine (implLinks_any l A n c rs cur lim _ (ER.out _ hV0) Hn.out hb Hz.out Hro.out (by omega)).mono ?_); rintro e y1 ⟨B, d, rfl, hOX, b1⟩; have hV1 := hV0.trans (b1.mono hV0.size)))
      refine hK.out _ _ (ES.out _ hV1) (fun hHeld2 => ?_)
      clear hK K hHeld
      have hHeld := hHeld2
      clear hHeld2
      first | simp only [Act.put, List.setIfInBounds_toArray, List.set_cons_zero, List.set_cons_succ] | skip
      rw [← HX.out] at hOX
      rw [← HX.out, ← Hq.out]
      rw [← Hq.out] at hOX
      refine wpAnyH_take (i := 7) (oi := ?oi193) (v := ?val193) ?hi193 ?hs193 ?hf193 ?hr193 ?hQ193 ?hy193 ?hS193 ?hrest193
      case hi193 => (simp only [List.getElem?_toArray, List.getElem?_cons_succ, List.getElem?_cons_zero] <;> exact rfl)
      case hs193 => kernel_rfl
      case hf193 => kernel_rfl
      case hr193 => kernel_rfl
      case hQ193 => exact fun _ _ _ h => h
      case hS193 => assumption
      case hy193 => (refine Or.inl ⟨by rfl, ?_⟩; intro w hSw; (try dsimp only at hSw); obtain ⟨z0, z1, z2⟩ := hSw; go_simp; try with_reducible rfl)
      simp only [Act.put, List.setIfInBounds_toArray, List.set_cons_zero, List.set_cons_succ]
      refine wpAnyH_done (by kernel_rfl) ?_ _
      have hrx := Rd.of_own hOX
      have hml := Hmp.out.lt
      have h1l2 := O1.out.2
      have hbx : ∀ ad, B = some ad → ad.block < y1.heap.size ∧ ad.block ≠ g1 ∧ ad.block ≠ w.heap.size + 1 := fun ad had => by
        have hl := hOX.lt ad.block (by rw [had]; rfl)
        have hl2 : wr.heap.size ≤ ad.block := hl.1
        exact ⟨hl.2, by omega, by omega⟩
      have p1 := O1.out.below hV1
      have pm := map_keep Hmp.out hV1 hml
      have hS1 := HS.out.below hV1 HS.out.lt
      have hW1 := HW.out.trans (hV1.mono HW.out.size)
      clear hHeld O1 HS HW ES ER hOX hV0 hV1 b1 Hcw h1l hsl Hmp hml h1l2
      have Hrx := Lib.hid hrx
      clear hrx
      have Hbx := Lib.hid hbx
      clear hbx
      have P1 := Lib.hid p1
      clear p1
      have Pm := Lib.hid pm
      clear pm
      have HS1 := Lib.hid hS1
      clear hS1
      have HW1 := Lib.hid hW1
      clear hW1
      go_wp2_with fail
      go_loopw [9, 37] (fun v i wr => ∃ (j : Nat) (S : List SrT) (p g1 c1 nM : Nat) (D : DataW Unit), v = .slice (some ⟨g1, 0, none⟩) p c1 ∧ i = .int .i64 j ∧ j ≤ q ∧ Hid (p = S.length) ∧ nM ≤ p ∧ g1 ≠ w.heap.size + 1 ∧ w.heap.size < g1 ∧ Hid (S = srRow rs a S0 (X.take j)) ∧ Hid (srWf S) ∧ Hid (MapSr D S) ∧ Hid (∀ ad, B = some ad → ad.block < wr.heap.size ∧ ad.block ≠ g1 ∧ ad.block ≠ w.heap.size + 1) ∧ Rd wr B (cellsLink X) ∧ Bk wr w.heap.size 25 #[.int .i64 l, .slice A n c] ∧ Below w.heap.size w wr ∧ wr.ownsMap Try.prog 9 arrR (w.heap.size + 1) nM D ∧ OwnG wr g1 w.heap.size 9 1 p (strs (srWords S)) c1) (fun _ i _ => q - (intOf i).toNat)
      case atStart => exact ⟨0, S0, p, g1, c1, nM, D, rfl, rfl, Nat.zero_le _, HP, hnM, hg1m, hg1l, Lib.hid rfl, HWf, HM, Hbx, Hrx.out, HS1.out, HW1.out, Pm.out, P1.out⟩
      case round =>
        clear Hrx Hbx P1 Pm HS1 HW1 HP hlt hap hpl HM HWf hnM hg1m hg1l
        obtain ⟨j, S, p, g1, c1, nM, D, rfl, rfl, hj, HP, hnM, hg1m, hg1l, HS', HWf, HM, Hbx, hrx, hS, hW, hmp, p1⟩ := hrel
        have hsub : ∀ (J : Nat), ∀ x ∈ X.take J, x ∈ lkAll rs (srAt S0 a).1 lim := fun J x hx => by rw [← Hcur.out, ← HX.out]; exact List.mem_of_mem_take hx
        obtain ⟨hgS, T, hT⟩ := srRow_good (lim := lim) Hro.out hlim (X.take j) S0 HG.out hal (hsub j)
        rw [← HS'.out] at hgS hT
        have hpl : p ≤ 131072 := by rw [HP.out]; exact srGood_len hgS
        have hS0l : S0.length ≤ S.length := by rw [hT, List.length_append]; omega
        have haS : a < S.length := by omega
        have hatS : srAt S a = srAt S0 a := by rw [hT]; exact srAt_app hal
        by_cases hlt : j < q
        · have hj2 : j < X.length := by rw [← Hq.out]; exact hlt
          obtain ⟨b, o, hB, hbl, x0c, x1c, x2c⟩ := rd_Link hrx hj2
          obtain ⟨⟨x0, x1, x2⟩, hx⟩ : ∃ x, x = X[j] := ⟨_, rfl⟩
          rw [← hx] at x0c x1c x2c
          dsimp only at x0c x1c x2c
          have htk : X.take (j + 1) = X.take j ++ [(x0, x1, x2)] := by rw [hx]; exact List.take_succ_eq_append_getElem hj2
          have hnx : srRow rs a S0 (X.take (j + 1)) = srAdd rs a S (x0, x1, x2) := by rw [htk, srRow_snoc, ← HS'.out]
          have hin : inB x0 0 ((rs.length : Int) - 1) = true := by
            have h1 := (lk_mem (show (x0, x1, x2) ∈ lkAll rs cur lim by rw [← HX.out, hx]; exact List.getElem_mem hj2)).1
            unfold linkOk linkHit at h1
            simp only [Bool.and_eq_true] at h1
            exact h1.1.1.1
          subst hB
          have hap3 : a < p := by rw [HP.out]; exact haS
          have hcw := (srAt_cell haS).1
          rw [hatS, ← Hcur.out] at hcw
          have hfb := hgS.2.2 a haS
          have hyg : (linkS rs cur (x0, x1, x2)).size ≤ 1048576 := by
            have h1 := (lk_mem (show (x0, x1, x2) ∈ lkAll rs cur lim by rw [← HX.out, hx]; exact List.getElem_mem hj2)).2
            omega
          have hfc : fnd (srWords S) cur = some a := by
            have h1 := fnd_nodup hgS.1 (a := a) (by rw [srWords_len]; exact haS)
            have h2 : (srWords S)[a]'(by rw [srWords_len]; exact haS) = cur := by
              have h3 : (strs (srWords S))[a]? = some (.string ((srWords S)[a]'(by rw [srWords_len]; exact haS))) := strs_get _ _ _
              rw [hcw] at h3
              injection h3 with h3
              injection h3 with h3
              exact h3.symm
            rwa [h2] at h1
          have l1 := p1.2
          have lm := hmp.lt
          have hB8 := Bk.new wr 95 #[.int .i64 x0, .int .i64 x1, .bool x2]
          have hS8 := hS.alloc (.cells #[.int .i64 x0, .int .i64 x1, .bool x2] 95)
          have hW8 := hW.alloc hW.size (.cells #[.int .i64 x0, .int .i64 x1, .bool x2] 95)
          have k1 := (p1.alloc (.cells #[.int .i64 x0, .int .i64 x1, .bool x2] 95)).cell hcw
          have hwl : wr.heap.size < (World.alloc wr (.cells #[.int .i64 x0, .int .i64 x1, .bool x2] 95)).heap.size := by simp
          have eS : ∀ W, Below (World.alloc wr (.cells #[.int .i64 x0, .int .i64 x1, .bool x2] 95)).heap.size (World.alloc wr (.cells #[.int .i64 x0, .int .i64 x1, .bool x2] 95)) W → W.cell? ⟨w.heap.size, 0, none⟩ = some (.int .i64 l) ∧ W.cell? ⟨w.heap.size, 1, none⟩ = some (.slice A n c) ∧ W.cell? ⟨g1, a, none⟩ = some (.string cur) ∧ W.cell? ⟨wr.heap.size, 0, none⟩ = some (.int .i64 x0) ∧ W.cell? ⟨wr.heap.size, 1, none⟩ = some (.int .i64 x1) ∧ W.cell? ⟨wr.heap.size, 2, none⟩ = some (.bool x2) := fun W h => ⟨by rw [(hS8.below h hS8.lt).cell]; rfl, by rw [(hS8.below h hS8.lt).cell]; rfl, (h.cell (p := ⟨g1, a, none⟩) (Nat.lt_trans l1 hwl)).trans k1, by rw [(hB8.below h hB8.lt).cell]; rfl, by rw [(hB8.below h hB8.lt).cell]; rfl, by rw [(hB8.below h hB8.lt).cell]; rfl⟩
          have hV0 : Below (World.alloc wr (.cells #[.int .i64 x0, .int .i64 x1, .bool x2] 95)).heap.size (World.alloc wr (.cells #[.int .i64 x0, .int .i64 x1, .bool x2] 95)) (World.alloc wr (.cells #[.int .i64 x0, .int .i64 x1, .bool x2] 95)).drew := (Below.refl _ _).drew
          have eR : ∀ W, Below (World.alloc wr (.cells #[.int .i64 x0, .int .i64 x1, .bool x2] 95)).heap.size (World.alloc wr (.cells #[.int .i64 x0, .int .i64 x1, .bool x2] 95)) W → Rd W A (cellsRule rs) := fun W h => Hr.out.keep (hW8.trans (h.mono hW8.size))
          obtain ⟨y, hy⟩ : ∃ y, y = linkS rs cur (x0, x1, x2) := ⟨_, rfl⟩
          obtain ⟨ky, hky⟩ : ∃ k, k = linkOk rs cur (x0, x1, x2) := ⟨_, rfl⟩
          have hyS : linkS rs (srAt S a).1 (x0, x1, x2) = y := by rw [hatS, ← Hcur.out, hy]
          rw [← hy] at hyg
          have eV : ∀ W, Below (World.alloc wr (.cells #[.int .i64 x0, .int .i64 x1, .bool x2] 95)).heap.size (World.alloc wr (.cells #[.int .i64 x0, .int .i64 x1, .bool x2] 95)) W → OwnG W g1 w.heap.size 9 1 p (strs (srWords S)) c1 ∧ W.ownsMap Try.prog 9 arrR (w.heap.size + 1) nM D ∧ Bk W wr.heap.size 95 #[.int .i64 x0, .int .i64 x1, .bool x2] ∧ Bk W w.heap.size 25 #[.int .i64 l, .slice A n c] ∧ Rd W (some ⟨b, o, none⟩) (cellsLink X) ∧ Below w.heap.size w W ∧ wr.heap.size < W.heap.size := fun W h => ⟨(p1.alloc _).below h, map_keep (hmp.alloc _) h (Nat.lt_trans lm hwl), hB8.below h hB8.lt, hS8.below h hS8.lt, (hrx.keep ((Below.refl _ wr).alloc (Nat.le_refl _) _)).keep h, hW8.trans (h.mono hW8.size), Nat.lt_of_lt_of_le hwl h.size⟩
          have hslS := hS.lt
          clear k1 hS8 hW8 hB8 p1 hmp hS hW
          have ES := Lib.hid eS
          clear eS
          have ER := Lib.hid eR
          clear eR
          have EV := Lib.hid eV
          clear eV
          have Hx := Lib.hid hx
          clear hx
          have Htk := Lib.hid htk
          clear htk
          have Hnx := Lib.hid hnx
          clear hnx
          have HgS := Lib.hid hgS
          clear hgS
          have HT := Lib.hid hT
          clear hT
          have HatS := Lib.hid hatS
          clear hatS
          have Hcw := Lib.hid hcw
          clear hcw
          have Hfb := Lib.hid hfb
          clear hfb
          have Hy := Lib.hid hy
          clear hy
          have Hky := Lib.hid hky
          clear hky
          have HyS := Lib.hid hyS
          clear hyS
          have Hrx := Lib.hid hrx
          clear hrx
          have Hsub := Lib.hid hsub
          clear hsub
          have Hfc := Lib.hid hfc
          clear hfc
          have Hin := Lib.hid hin
          clear hin
          go_wp2_with fail
          refine wp_region_held_drew (S := (fun W => W.cell? ⟨w.heap.size, 0, none⟩ = some (.int .i64 l) ∧ W.cell? ⟨w.heap.size, 1, none⟩ = some (.slice A n c) ∧ W.cell? ⟨g1, a, none⟩ = some (.string cur) ∧ W.cell? ⟨wr.heap.size, 0, none⟩ = some (.int .i64 x0) ∧ W.cell? ⟨wr.heap.size, 1, none⟩ = some (.int .i64 x1) ∧ W.cell? ⟨wr.heap.size, 2, none⟩ = some (.bool x2))) (by kernel_rfl) (ES.out _ hV0) (fun hHeld => ?_)
          refine wpAnyH_take (i := 0) (oi := ?oi325) (v := ?val325) ?hi325 ?hs325 ?hf325 ?hr325 ?hQ325 ?hy325 ?hS325 ?hrest325
          case hi325 => (simp only [List.getElem?_toArray, List.getElem?_cons_succ, List.getElem?_cons_zero] <;> exact rfl)
          case hs325 => kernel_rfl
          case hf325 => kernel_rfl
          case hr325 => kernel_rfl
          case hQ325 => exact fun _ _ _ h => h
          case hS325 => assumption
          case hy325 => (refine Or.inl ⟨by rfl, ?_⟩; intro w hSw; (try dsimp only at hSw); obtain ⟨z0, z1, z2, z3, z4, z5⟩ := hSw; go_simp; try with_reducible rfl)
          simp only [Act.put, List.setIfInBounds_toArray, List.set_cons_zero, List.set_cons_succ]
          refine wpAnyH_take (i := 1) (oi := ?oi334) (v := ?val334) ?hi334 ?hs334 ?hf334 ?hr334 ?hQ334 ?hy334 ?hS334 ?hrest334
          case hi334 => (simp only [List.getElem?_toArray, List.getElem?_cons_succ, List.getElem?_cons_zero] <;> exact rfl)
          case hs334 => kernel_rfl
          case hf334 => kernel_rfl
          case hr334 => kernel_rfl
          case hQ334 => exact fun _ _ _ h => h
          case hS334 => assumption
          case hy334 => (refine Or.inl ⟨by rfl, ?_⟩; intro w hSw; (try dsimp only at hSw); obtain ⟨z0, z1, z2, z3, z4, z5⟩ := hSw; go_simp; try with_reducible rfl)
          simp only [Act.put, List.setIfInBounds_toArray, List.set_cons_zero, List.set_cons_succ]
          refine wpAnyH_take (i := 2) (oi := ?oi343) (v := ?val343) ?hi343 ?hs343 ?hf343 ?hr343 ?hQ343 ?hy343 ?hS343 ?hrest343
          case hi343 => (simp only [List.getElem?_toArray, List.getElem?_cons_succ, List.getElem?_cons_zero] <;> exact rfl)
          case hs343 => kernel_rfl
          case hf343 => kernel_rfl
          case hr343 => kernel_rfl
          case hQ343 => exact fun _ _ _ h => h
          case hS343 => assumption
          case hy343 => (refine Or.inl ⟨by rfl, ?_⟩; intro w hSw; (try dsimp only at hSw); obtain ⟨z0, z1, z2, z3, z4, z5⟩ := hSw; go_simp; try with_reducible rfl)
          simp only [Act.put, List.setIfInBounds_toArray, List.set_cons_zero, List.set_cons_succ]
          refine wpAnyH_take (i := 3) (oi := ?oi352) (v := ?val352) ?hi352 ?hs352 ?hf352 ?hr352 ?hQ352 ?hy352 ?hS352 ?hrest352
          case hi352 => (simp only [List.getElem?_toArray, List.getElem?_cons_succ, List.getElem?_cons_zero] <;> exact rfl)
          case hs352 => kernel_rfl
          case hf352 => kernel_rfl
          case hr352 => kernel_rfl
          case hQ352 => exact fun _ _ _ h => h
          case hS352 => assumption
          case hy352 => (refine Or.inl ⟨by rfl, ?_⟩; intro w hSw; (try dsimp only at hSw); obtain ⟨z0, z1, z2, z3, z4, z5⟩ := hSw; go_simp; try with_reducible rfl)
          simp only [Act.put, List.setIfInBounds_toArray, List.set_cons_zero, List.set_cons_succ]
          refine wpAnyH_take (i := 4) (oi := ?oi361) (v := ?val361) ?hi361 ?hs361 ?hf361 ?hr361 ?hQ361 ?hy361 ?hS361 ?hrest361
          case hi361 => (simp only [List.getElem?_toArray, List.getElem?_cons_succ, List.getElem?_cons_zero] <;> exact rfl)
          case hs361 => kernel_rfl
          case hf361 => kernel_rfl
          case hr361 => kernel_rfl
          case hQ361 => exact fun _ _ _ h => h
          case hS361 => assumption
          case hy361 => (refine Or.inl ⟨by rfl, ?_⟩; intro w hSw; (try dsimp only at hSw); obtain ⟨z0, z1, z2, z3, z4, z5⟩ := hSw; go_simp; try with_reducible rfl)
          simp only [Act.put, List.setIfInBounds_toArray, List.set_cons_zero, List.set_cons_succ]
          refine wpAnyH_take (i := 5) (oi := ?oi370) (v := ?val370) ?hi370 ?hs370 ?hf370 ?hr370 ?hQ370 ?hy370 ?hS370 ?hrest370
          case hi370 => (simp only [List.getElem?_toArray, List.getElem?_cons_succ, List.getElem?_cons_zero] <;> exact rfl)
          case hs370 => kernel_rfl
          case hf370 => kernel_rfl
          case hr370 => kernel_rfl
          case hQ370 => exact fun _ _ _ h => h
          case hS370 => assumption
          case hy370 => (refine Or.inl ⟨by rfl, ?_⟩; intro w hSw; (try dsimp only at hSw); obtain ⟨z0, z1, z2, z3, z4, z5⟩ := hSw; go_simp; try with_reducible rfl)
          simp only [Act.put, List.setIfInBounds_toArray, List.set_cons_zero, List.set_cons_succ]
          refine wpAnyH_ready (rs := [6]) (by kernel_rfl) (by simp) ?_
          refine AllReadyH.cons rfl (fun K hK => ?_) AllReadyH.nil
          (go_simp; ((with_reducible refine (implLink_any l A n c rs cur x0 x1 x2 _ (ER.out _ hV0) Hn.out hb Hz.out (by omega) Hin.out).mono ?_); rintro e y2 ⟨rfl, b2⟩; rw [← Hy.out, ← Hky.out]; have hV1 := hV0.trans (b2.mono hV0.size)))
          refine hK.out _ _ (ES.out _ hV1) (fun hHeld2 => ?_)
          clear hK K hHeld
          have hHeld := hHeld2
          clear hHeld2
          first | simp only [Act.put, List.setIfInBounds_toArray, List.set_cons_zero, List.set_cons_succ] | skip
          refine wpAnyH_take (i := 7) (oi := ?oi387) (v := ?val387) ?hi387 ?hs387 ?hf387 ?hr387 ?hQ387 ?hy387 ?hS387 ?hrest387
          case hi387 => (simp only [List.getElem?_toArray, List.getElem?_cons_succ, List.getElem?_cons_zero] <;> exact rfl)
          case hs387 => kernel_rfl
          case hf387 => kernel_rfl
          case hr387 => kernel_rfl
          case hQ387 => exact fun _ _ _ h => h
          case hS387 => assumption
          case hy387 => (refine Or.inl ⟨by rfl, ?_⟩; intro w hSw; (try dsimp only at hSw); obtain ⟨z0, z1, z2, z3, z4, z5⟩ := hSw; go_simp; try with_reducible rfl)
          simp only [Act.put, List.setIfInBounds_toArray, List.set_cons_zero, List.set_cons_succ]
          refine wpAnyH_take (i := 8) (oi := ?oi396) (v := ?val396) ?hi396 ?hs396 ?hf396 ?hr396 ?hQ396 ?hy396 ?hS396 ?hrest396
          case hi396 => (simp only [List.getElem?_toArray, List.getElem?_cons_succ, List.getElem?_cons_zero] <;> exact rfl)
          case hs396 => kernel_rfl
          case hf396 => kernel_rfl
          case hr396 => kernel_rfl
          case hQ396 => exact fun _ _ _ h => h
          case hS396 => assumption
          case hy396 => (refine Or.inl ⟨by rfl, ?_⟩; intro w hSw; (try dsimp only at hSw); obtain ⟨z0, z1, z2, z3, z4, z5⟩ := hSw; go_simp; try with_reducible rfl)
          simp only [Act.put, List.setIfInBounds_toArray, List.set_cons_zero, List.set_cons_succ]
          refine wpAnyH_take (i := 9) (oi := ?oi405) (v := ?val405) ?hi405 ?hs405 ?hf405 ?hr405 ?hQ405 ?hy405 ?hS405 ?hrest405
          case hi405 => (simp only [List.getElem?_toArray, List.getElem?_cons_succ, List.getElem?_cons_zero] <;> exact rfl)
          case hs405 => kernel_rfl
          case hf405 => kernel_rfl
          case hr405 => kernel_rfl
          case hQ405 => exact fun _ _ _ h => h
          case hS405 => assumption
          case hy405 => (refine Or.inl ⟨by rfl, ?_⟩; intro w hSw; (try dsimp only at hSw); obtain ⟨z0, z1, z2, z3, z4, z5⟩ := hSw; go_simp; try with_reducible rfl)
          simp only [Act.put, List.setIfInBounds_toArray, List.set_cons_zero, List.set_cons_succ]
          refine wpAnyH_take (i := 10) (oi := ?oi414) (v := ?val414) ?hi414 ?hs414 ?hf414 ?hr414 ?hQ414 ?hy414 ?hS414 ?hrest414
          case hi414 => (simp only [List.getElem?_toArray, List.getElem?_cons_succ, List.getElem?_cons_zero] <;> exact rfl)
          case hs414 => kernel_rfl
          case hf414 => kernel_rfl
          case hr414 => kernel_rfl
          case hQ414 => exact fun _ _ _ h => h
          case hS414 => assumption
          case hy414 => (refine Or.inl ⟨by rfl, ?_⟩; intro w hSw; (try dsimp only at hSw); obtain ⟨z0, z1, z2, z3, z4, z5⟩ := hSw; go_simp; try with_reducible rfl)
          simp only [Act.put, List.setIfInBounds_toArray, List.set_cons_zero, List.set_cons_succ]
          refine wpAnyH_take (i := 11) (oi := ?oi423) (v := ?val423) ?hi423 ?hs423 ?hf423 ?hr423 ?hQ423 ?hy423 ?hS423 ?hrest423
          case hi423 => (simp only [List.getElem?_toArray, List.getElem?_cons_succ, List.getElem?_cons_zero] <;> exact rfl)
          case hs423 => kernel_rfl
          case hf423 => kernel_rfl
          case hr423 => kernel_rfl
          case hQ423 => exact fun _ _ _ h => h
          case hS423 => assumption
          case hy423 => (refine Or.inl ⟨by rfl, ?_⟩; intro w hSw; (try dsimp only at hSw); obtain ⟨z0, z1, z2, z3, z4, z5⟩ := hSw; go_simp; try with_reducible rfl)
          simp only [Act.put, List.setIfInBounds_toArray, List.set_cons_zero, List.set_cons_succ]
          refine wpAnyH_done (by kernel_rfl) ?_ _
          obtain ⟨p1, pm, hB9, hS9, hrx9, hW9, hy2⟩ := EV.out _ hV1
          clear hHeld ES ER EV hV0 hV1 b2
          have hkey := key_str hyg
          obtain ⟨fo, hfo⟩ : ∃ fo, fo = fnd (srWords S) y := ⟨_, rfl⟩
          obtain ⟨v0, ps, hlook, hv0⟩ := pm.look_ok (Maps.string_keyed Try.underlying9) Try.underlying111 (zero_arr _) (arrR_mk (⟨#[]⟩, (0, 0, false), 0)) hkey
          rw [(HM.out.2 y).1, ← hfo] at hlook
          cases fo with
          | some i0 =>
            rw [(HM.out.2 y).2 i0 _ hfo.symm] at hv0
            have hv := arrR_inv hv0
            obtain ⟨⟨f0, ⟨f1, f2, f3⟩, f4⟩, hf⟩ : ∃ z, z = arrOf S i0 := ⟨_, rfl⟩
            rw [← hf] at hv
            subst hv
            have hlook' : (Instr.lookup 111 (.map (some (w.heap.size + 1))) (.string y) true).run Try.prog y2 = .ok (.tuple #[.agg #[.string f0, .int .i64 f1, .int .i64 f2, .bool f3, .int .i64 f4], .bool true]) y2 := hlook
            have hn2 : S = srRow rs a S0 (X.take (j + 1)) := by rw [Hnx.out, srAdd_some (by rw [HyS.out]; exact hfo.symm)]
            have hbx2 : ∀ ad, some (⟨b, o, none⟩ : Addr) = some ad → ad.block < (World.alloc y2 (.cells #[.string f0, .int .i64 f1, .int .i64 f2, .bool f3, .int .i64 f4] 116)).heap.size ∧ ad.block ≠ g1 ∧ ad.block ≠ w.heap.size + 1 := fun ad had => by have h5 := Hbx.out ad had; simp; omega
            have q1 := p1.alloc (.cells #[.string f0, .int .i64 f1, .int .i64 f2, .bool f3, .int .i64 f4] 116)
            have qm := pm.alloc (.cells #[.string f0, .int .i64 f1, .int .i64 f2, .bool f3, .int .i64 f4] 116)
            have hS10 := hS9.alloc (.cells #[.string f0, .int .i64 f1, .int .i64 f2, .bool f3, .int .i64 f4] 116)
            have hW10 := hW9.alloc hW9.size (.cells #[.string f0, .int .i64 f1, .int .i64 f2, .bool f3, .int .i64 f4] 116)
            have hrx10 := hrx9.keep ((Below.refl _ y2).alloc (Nat.le_refl _) (.cells #[.string f0, .int .i64 f1, .int .i64 f2, .bool f3, .int .i64 f4] 116))
            clear hlook hv0 p1 pm hS9 hW9 hrx9 hB9
            have Hfo := Lib.hid hfo
            clear hfo
            have Hf := Lib.hid hf
            clear hf
            have Hn2 := Lib.hid hn2
            clear hn2
            have Hbx2 := Lib.hid hbx2
            clear hbx2
            have HS10 := Lib.hid hS10
            clear hS10
            have HW10 := Lib.hid hW10
            clear hW10
            have Hrx10 := Lib.hid hrx10
            clear hrx10
            have Q1 := Lib.hid q1
            clear q1
            have Qm := Lib.hid qm
            clear qm
            go_wp2_with fail
            go_roundw
            case rel => exact ⟨j + 1, S, p, g1, c1, nM, D, rfl, by go_num, by omega, HP, hnM, hg1m, hg1l, Hn2, HWf, HM, Hbx2, Hrx10.out, HS10.out, HW10.out, Qm.out, Q1.out⟩
            case measure => simp [intOf] <;> omega
          | none =>
            have hnh : Maps.has D (.string y.data.toList) = false := by rw [(HM.out.2 y).1, ← hfo]; rfl
            rw [Maps.atKey_of_not_has hnh] at hv0
            have hv := arrR_inv hv0
            subst hv
            have hlook' : (Instr.lookup 111 (.map (some (w.heap.size + 1))) (.string y) true).run Try.prog y2 = .ok (.tuple #[.agg #[.string ⟨#[]⟩, .int .i64 0, .int .i64 0, .bool false, .int .i64 0], .bool false]) y2 := hlook
            have q1 := p1.alloc (.cells #[.string ⟨#[]⟩, .int .i64 0, .int .i64 0, .bool false, .int .i64 0] 116)
            have qm := pm.alloc (.cells #[.string ⟨#[]⟩, .int .i64 0, .int .i64 0, .bool false, .int .i64 0] 116)
            have hS10 := hS9.alloc (.cells #[.string ⟨#[]⟩, .int .i64 0, .int .i64 0, .bool false, .int .i64 0] 116)
            have hW10 := hW9.alloc hW9.size (.cells #[.string ⟨#[]⟩, .int .i64 0, .int .i64 0, .bool false, .int .i64 0] 116)
            have hB10 := hB9.alloc (.cells #[.string ⟨#[]⟩, .int .i64 0, .int .i64 0, .bool false, .int .i64 0] 116)
            have hrx10 := hrx9.keep ((Below.refl _ y2).alloc (Nat.le_refl _) (.cells #[.string ⟨#[]⟩, .int .i64 0, .int .i64 0, .bool false, .int .i64 0] 116))
            have qd : World.ownsMap (World.drew (World.alloc y2 (.cells #[.string ⟨#[]⟩, .int .i64 0, .int .i64 0, .bool false, .int .i64 0] 116))) Try.prog 9 arrR (w.heap.size + 1) nM D := qm
            have hkc := key_str (x := cur) (by omega)
            obtain ⟨v1, ps1, hlk, hv1⟩ := qd.lookup (Maps.string_keyed Try.underlying9) Try.underlying111 (zero_arr _) (arrR_mk (⟨#[]⟩, (0, 0, false), 0)) hkc
            rw [(HM.out.2 cur).2 a _ Hfc.out] at hv1
            have hvv := arrR_inv hv1
            obtain ⟨⟨f0, ⟨f1, f2, f3⟩, f4⟩, hf⟩ : ∃ z, z = arrOf S a := ⟨_, rfl⟩
            rw [← hf] at hvv
            subst hvv
            have hf4 : f4 = (srAt S a).2.2.2 := by have := congrArg (fun z => z.2.2) hf; exact this
            have hf4b := Hfb.out
            rw [← hf4] at hf4b
            have hlk' : (Instr.lookup 111 (.map (some (w.heap.size + 1))) (.string cur) false).run Try.prog (World.drew (World.alloc y2 (.cells #[.string ⟨#[]⟩, .int .i64 0, .int .i64 0, .bool false, .int .i64 0] 116))) = .ok (.agg #[.string f0, .int .i64 f1, .int .i64 f2, .bool f3, .int .i64 f4]) (World.drew (World.alloc y2 (.cells #[.string ⟨#[]⟩, .int .i64 0, .int .i64 0, .bool false, .int .i64 0] 116))) := hlk
            have hfd : ∀ W : World, (Instr.field 116 (.agg #[.string f0, .int .i64 f1, .int .i64 f2, .bool f3, .int .i64 f4]) 2).run Try.prog W = .ok (.int .i64 f4) W := fun W => by rfl
            have hwr : IntKind.i64.wrap (f4 + 1) = f4 + 1 := IntWalk.i64_in _ ⟨by omega, by omega⟩
            obtain ⟨w5, hrun5, hown5, hgrow5⟩ := qd.update (Maps.string_keyed Try.underlying9) Try.underlying111 (by unfold maxLen; omega) hkey (arrR_mk (cur, (x0, x1, x2), f4 + 1))
            have hrun5' : (Instr.mapUpdate 111 (.map (some (w.heap.size + 1))) (.string y) (.agg #[.string cur, .int .i64 x0, .int .i64 x1, .bool x2, .int .i64 (f4 + 1)])).run Try.prog (World.drew (World.alloc y2 (.cells #[.string ⟨#[]⟩, .int .i64 0, .int .i64 0, .bool false, .int .i64 0] 116))) = .ok () w5 := hrun5
            have hcS : cur = (srAt S a).1 := by rw [HatS.out]; exact Hcur.out
            have hM5 : MapSr (D.put (.string y.data.toList) (encA (cur, (x0, x1, x2), f4 + 1))) (S ++ [(y, (a : Int), (x0, x1, x2), f4 + 1)]) := by rw [hcS]; exact HM.out.snoc HWf.out haS hfo.symm
            have hwf5 : srWf (S ++ [(y, (a : Int), (x0, x1, x2), f4 + 1)]) := by rw [hf4]; exact srWf_snoc HWf.out haS
            have hn2 : S ++ [(y, (a : Int), (x0, x1, x2), f4 + 1)] = srRow rs a S0 (X.take (j + 1)) := by rw [Hnx.out, srAdd_none (by rw [HyS.out]; exact hfo.symm), HyS.out, ← hf4]
            have hp2 : p + 1 = (S ++ [(y, (a : Int), (x0, x1, x2), f4 + 1)]).length := by rw [List.length_append, ← HP.out]; rfl
            have t1 : strs (srWords (S ++ [(y, (a : Int), (x0, x1, x2), f4 + 1)])) = strs (srWords S) ++ [.string y] := by simp [strs, srWords]
            have k0 := q1.cell Hcw.out
            have hzd : (World.drew (World.alloc y2 (.cells #[.string ⟨#[]⟩, .int .i64 0, .int .i64 0, .bool false, .int .i64 0] 116))).heap.size = (World.alloc y2 (.cells #[.string ⟨#[]⟩, .int .i64 0, .int .i64 0, .bool false, .int .i64 0] 116)).heap.size := rfl
            have hy3 : y2.heap.size < (World.alloc y2 (.cells #[.string ⟨#[]⟩, .int .i64 0, .int .i64 0, .bool false, .int .i64 0] 116)).heap.size := by simp
            have l11 := p1.2
            have r1 : OwnG w5 g1 w.heap.size 9 1 p (strs (srWords S)) c1 := OwnG.grown (w := World.drew (World.alloc y2 (.cells #[.string ⟨#[]⟩, .int .i64 0, .int .i64 0, .bool false, .int .i64 0] 116))) q1 hgrow5 hg1m
            have hB11 : Bk w5 wr.heap.size 95 #[.int .i64 x0, .int .i64 x1, .bool x2] := Bk.grownG (w := World.drew (World.alloc y2 (.cells #[.string ⟨#[]⟩, .int .i64 0, .int .i64 0, .bool false, .int .i64 0] 116))) hB10 hgrow5 (by omega)
            have hS11 : Bk w5 w.heap.size 25 #[.int .i64 l, .slice A n c] := Bk.grownG (w := World.drew (World.alloc y2 (.cells #[.string ⟨#[]⟩, .int .i64 0, .int .i64 0, .bool false, .int .i64 0] 116))) hS10 hgrow5 (by omega)
            have hrx11 : Rd w5 (some ⟨b, o, none⟩) (cellsLink X) := Rd.grown (w := World.drew (World.alloc y2 (.cells #[.string ⟨#[]⟩, .int .i64 0, .int .i64 0, .bool false, .int .i64 0] 116))) hrx10 hgrow5 (fun ad had e => by have h5 := Hbx.out ad had; injection e with e; omega)
            have hW11 : Below w.heap.size w w5 := hW10.drew.grown hgrow5 hW10.size (fun k hk => by injection hk with hk; omega)
            have hsz5 := hgrow5.size
            have eZ : ((World.drew (World.alloc y2 (.cells #[.string ⟨#[]⟩, .int .i64 0, .int .i64 0, .bool false, .int .i64 0] 116))).cell? ⟨g1, a, none⟩ = some (.string cur) ∧ (World.drew (World.alloc y2 (.cells #[.string ⟨#[]⟩, .int .i64 0, .int .i64 0, .bool false, .int .i64 0] 116))).cell? ⟨wr.heap.size, 0, none⟩ = some (.int .i64 x0) ∧ (World.drew (World.alloc y2 (.cells #[.string ⟨#[]⟩, .int .i64 0, .int .i64 0, .bool false, .int .i64 0] 116))).cell? ⟨wr.heap.size, 1, none⟩ = some (.int .i64 x1) ∧ (World.drew (World.alloc y2 (.cells #[.string ⟨#[]⟩, .int .i64 0, .int .i64 0, .bool false, .int .i64 0] 116))).cell? ⟨wr.heap.size, 2, none⟩ = some (.bool x2)) := ⟨k0, by rw [hB10.drew.cell]; rfl, by rw [hB10.drew.cell]; rfl, by rw [hB10.drew.cell]; rfl⟩
            have eY : (w5.cell? ⟨g1, a, none⟩ = some (.string cur) ∧ w5.cell? ⟨wr.heap.size, 0, none⟩ = some (.int .i64 x0) ∧ w5.cell? ⟨wr.heap.size, 1, none⟩ = some (.int .i64 x1) ∧ w5.cell? ⟨wr.heap.size, 2, none⟩ = some (.bool x2)) := ⟨r1.cell Hcw.out, by rw [hB11.cell]; rfl, by rw [hB11.cell]; rfl, by rw [hB11.cell]; rfl⟩
            clear hlook hv0 hv1 hlk hrun5 p1 pm hS9 hW9 hrx9 hB9 q1 qm qd hgrow5 k0
            have h0c := eZ.1
            have h1c := eZ.2.1
            have Hfo := Lib.hid hfo
            clear hfo
            have Hf := Lib.hid hf
            clear hf
            have Hnh := Lib.hid hnh
            clear hnh
            have HM5 := Lib.hid hM5
            clear hM5
            have Hwf5 := Lib.hid hwf5
            clear hwf5
            have Hn2 := Lib.hid hn2
            clear hn2
            have Hp2 := Lib.hid hp2
            clear hp2
            have T1 := Lib.hid t1
            clear t1
            have R1 := Lib.hid r1
            clear r1
            have HB11 := Lib.hid hB11
            clear hB11
            have HS11 := Lib.hid hS11
            clear hS11
            have Hrx11 := Lib.hid hrx11
            clear hrx11
            have HW11 := Lib.hid hW11
            clear hW11
            have EZ := Lib.hid eZ
            clear eZ
            have EY := Lib.hid eY
            clear eY
            have Hown5 := Lib.hid hown5
            clear hown5
            have HcS := Lib.hid hcS
            clear hcS
            have HS10 := Lib.hid hS10
            clear hS10
            have HW10 := Lib.hid hW10
            clear hW10
            have HB10 := Lib.hid hB10
            clear hB10
            have Hrx10 := Lib.hid hrx10
            clear hrx10
            have Hf4 := Lib.hid hf4
            clear hf4
            go_wp2_with fail
            refine wp_region_held_drew (S := (fun W => W.cell? ⟨g1, a, none⟩ = some (.string cur) ∧ W.cell? ⟨wr.heap.size, 0, none⟩ = some (.int .i64 x0) ∧ W.cell? ⟨wr.heap.size, 1, none⟩ = some (.int .i64 x1) ∧ W.cell? ⟨wr.heap.size, 2, none⟩ = some (.bool x2))) (by kernel_rfl) (EZ.out) (fun hHeld => ?_)
            refine wpAnyH_take (i := 0) (oi := ?oi572) (v := ?val572) ?hi572 ?hs572 ?hf572 ?hr572 ?hQ572 ?hy572 ?hS572 ?hrest572
            case hi572 => (simp only [List.getElem?_toArray, List.getElem?_cons_succ, List.getElem?_cons_zero] <;> exact rfl)
            case hs572 => kernel_rfl
            case hf572 => kernel_rfl
            case hr572 => kernel_rfl
            case hQ572 => exact fun _ _ _ h => h
            case hS572 => assumption
            case hy572 => (refine Or.inl ⟨by rfl, ?_⟩; intro w hSw; (try dsimp only at hSw); obtain ⟨z0, z1, z2, z3⟩ := hSw; go_simp; try with_reducible rfl)
            simp only [Act.put, List.setIfInBounds_toArray, List.set_cons_zero, List.set_cons_succ]
            refine wpAnyH_take (i := 1) (oi := ?oi581) (v := ?val581) ?hi581 ?hs581 ?hf581 ?hr581 ?hQ581 ?hy581 ?hS581 ?hrest581
            case hi581 => (simp only [List.getElem?_toArray, List.getElem?_cons_succ, List.getElem?_cons_zero] <;> exact rfl)
            case hs581 => kernel_rfl
            case hf581 => kernel_rfl
            case hr581 => kernel_rfl
            case hQ581 => exact fun _ _ _ h => h
            case hS581 => assumption
            case hy581 => (refine Or.inl ⟨by rfl, ?_⟩; intro w hSw; (try dsimp only at hSw); obtain ⟨z0, z1, z2, z3⟩ := hSw; go_simp; try with_reducible rfl)
            simp only [Act.put, List.setIfInBounds_toArray, List.set_cons_zero, List.set_cons_succ]
            refine wpAnyH_take (i := 2) (oi := ?oi590) (v := ?val590) ?hi590 ?hs590 ?hf590 ?hr590 ?hQ590 ?hy590 ?hS590 ?hrest590
            case hi590 => (simp only [List.getElem?_toArray, List.getElem?_cons_succ, List.getElem?_cons_zero] <;> exact rfl)
            case hs590 => kernel_rfl
            case hf590 => kernel_rfl
            case hr590 => kernel_rfl
            case hQ590 => exact fun _ _ _ h => h
            case hS590 => assumption
            case hy590 => (refine Or.inl ⟨by rfl, ?_⟩; intro w hSw; (try dsimp only at hSw); obtain ⟨z0, z1, z2, z3⟩ := hSw; go_simp; try with_reducible rfl)
            simp only [Act.put, List.setIfInBounds_toArray, List.set_cons_zero, List.set_cons_succ]
            refine wpAnyH_take (i := 3) (oi := ?oi599) (v := ?val599) ?hi599 ?hs599 ?hf599 ?hr599 ?hQ599 ?hy599 ?hS599 ?hrest599
            case hi599 => (simp only [List.getElem?_toArray, List.getElem?_cons_succ, List.getElem?_cons_zero] <;> exact rfl)
            case hs599 => kernel_rfl
            case hf599 => kernel_rfl
            case hr599 => kernel_rfl
            case hQ599 => exact fun _ _ _ h => h
            case hS599 => assumption
            case hy599 => (refine Or.inl ⟨by rfl, ?_⟩; intro w hSw; (try dsimp only at hSw); obtain ⟨z0, z1, z2, z3⟩ := hSw; go_simp; try with_reducible rfl)
            simp only [Act.put, List.setIfInBounds_toArray, List.set_cons_zero, List.set_cons_succ]
            refine wpAnyH_take (i := 4) (oi := ?oi608) (v := ?val608) ?hi608 ?hs608 ?hf608 ?hr608 ?hQ608 ?hy608 ?hS608 ?hrest608
            case hi608 => (simp only [List.getElem?_toArray, List.getElem?_cons_succ, List.getElem?_cons_zero] <;> exact rfl)
            case hs608 => kernel_rfl
            case hf608 => kernel_rfl
            case hr608 => kernel_rfl
            case hQ608 => exact fun _ _ _ h => h
            case hS608 => assumption
            case hy608 => (refine Or.inl ⟨by rfl, ?_⟩; intro w hSw; (try dsimp only at hSw); obtain ⟨z0, z1, z2, z3⟩ := hSw; go_simp; try with_reducible rfl)
            simp only [Act.put, List.setIfInBounds_toArray, List.set_cons_zero, List.set_cons_succ]
            refine wpAnyH_take (i := 5) (oi := ?oi617) (v := ?val617) ?hi617 ?hs617 ?hf617 ?hr617 ?hQ617 ?hy617 ?hS617 ?hrest617
            case hi617 => (simp only [List.getElem?_toArray, List.getElem?_cons_succ, List.getElem?_cons_zero] <;> exact rfl)
            case hs617 => kernel_rfl
            case hf617 => kernel_rfl
            case hr617 => kernel_rfl
            case hQ617 => exact fun _ _ _ h => h
            case hS617 => assumption
            case hy617 => (refine Or.inl ⟨by rfl, ?_⟩; intro w hSw; (try dsimp only at hSw); obtain ⟨z0, z1, z2, z3⟩ := hSw; go_simp; try with_reducible rfl)
            simp only [Act.put, List.setIfInBounds_toArray, List.set_cons_zero, List.set_cons_succ]
            refine wpAnyH_take (i := 6) (oi := ?oi626) (v := ?val626) ?hi626 ?hs626 ?hf626 ?hr626 ?hQ626 ?hy626 ?hS626 ?hrest626
            case hi626 => (simp only [List.getElem?_toArray, List.getElem?_cons_succ, List.getElem?_cons_zero] <;> exact rfl)
            case hs626 => kernel_rfl
            case hf626 => kernel_rfl
            case hr626 => kernel_rfl
            case hQ626 => exact fun _ _ _ h => h
            case hS626 => assumption
            case hy626 => (refine Or.inl ⟨by rfl, ?_⟩; intro w hSw; (try dsimp only at hSw); obtain ⟨z0, z1, z2, z3⟩ := hSw; go_simp; try with_reducible rfl)
            simp only [Act.put, List.setIfInBounds_toArray, List.set_cons_zero, List.set_cons_succ]
            refine wpAnyH_take (i := 7) (oi := ?oi635) (v := ?val635) ?hi635 ?hs635 ?hf635 ?hr635 ?hQ635 ?hy635 ?hS635 ?hrest635
            case hi635 => (simp only [List.getElem?_toArray, List.getElem?_cons_succ, List.getElem?_cons_zero] <;> exact rfl)
            case hs635 => kernel_rfl
            case hf635 => kernel_rfl
            case hr635 => kernel_rfl
            case hQ635 => exact fun _ _ _ h => h
            case hS635 => assumption
            case hy635 => (refine Or.inl ⟨by rfl, ?_⟩; intro w hSw; (try dsimp only at hSw); obtain ⟨z0, z1, z2, z3⟩ := hSw; go_simp; try with_reducible rfl)
            simp only [Act.put, List.setIfInBounds_toArray, List.set_cons_zero, List.set_cons_succ]
            refine wpAnyH_take (i := 8) (oi := ?oi644) (v := ?val644) ?hi644 ?hs644 ?hf644 ?hr644 ?hQ644 ?hy644 ?hS644 ?hrest644
            case hi644 => (simp only [List.getElem?_toArray, List.getElem?_cons_succ, List.getElem?_cons_zero] <;> exact rfl)
            case hs644 => kernel_rfl
            case hf644 => kernel_rfl
            case hr644 => kernel_rfl
            case hQ644 => exact fun _ _ _ h => h
            case hS644 => assumption
            case hy644 => (refine Or.inl ⟨by rfl, ?_⟩; intro w hSw; (try dsimp only at hSw); obtain ⟨z0, z1, z2, z3⟩ := hSw; go_simp; try with_reducible rfl)
            simp only [Act.put, List.setIfInBounds_toArray, List.set_cons_zero, List.set_cons_succ]
            refine wpAnyH_take (i := 9) (oi := ?oi653) (v := ?val653) ?hi653 ?hs653 ?hf653 ?hr653 ?hQ653 ?hy653 ?hS653 ?hrest653
            case hi653 => (simp only [List.getElem?_toArray, List.getElem?_cons_succ, List.getElem?_cons_zero] <;> exact rfl)
            case hs653 => kernel_rfl
            case hf653 => kernel_rfl
            case hr653 => kernel_rfl
            case hQ653 => exact fun _ _ _ h => h
            case hS653 => assumption
            case hy653 => (refine Or.inl ⟨by rfl, ?_⟩; intro w hSw; (try dsimp only at hSw); obtain ⟨z0, z1, z2, z3⟩ := hSw; go_simp; try with_reducible rfl)
            simp only [Act.put, List.setIfInBounds_toArray, List.set_cons_zero, List.set_cons_succ]
            refine wpAnyH_take (i := 10) (oi := ?oi662) (v := ?val662) ?hi662 ?hs662 ?hf662 ?hr662 ?hQ662 ?hy662 ?hS662 ?hrest662
            case hi662 => (simp only [List.getElem?_toArray, List.getElem?_cons_succ, List.getElem?_cons_zero] <;> exact rfl)
            case hs662 => kernel_rfl
            case hf662 => kernel_rfl
            case hr662 => kernel_rfl
            case hQ662 => exact fun _ _ _ h => h
            case hS662 => assumption
            case hy662 => (refine Or.inl ⟨by rfl, ?_⟩; intro w hSw; (try dsimp only at hSw); obtain ⟨z0, z1, z2, z3⟩ := hSw; go_simp; try with_reducible rfl)
            simp only [Act.put, List.setIfInBounds_toArray, List.set_cons_zero, List.set_cons_succ]
            refine wpAnyH_take (i := 11) (oi := ?oi671) (v := ?val671) ?hi671 ?hs671 ?hf671 ?hr671 ?hQ671 ?hy671 ?hS671 ?hrest671
            case hi671 => (simp only [List.getElem?_toArray, List.getElem?_cons_succ, List.getElem?_cons_zero] <;> exact rfl)
            case hs671 => kernel_rfl
            case hf671 => kernel_rfl
            case hr671 => kernel_rfl
            case hQ671 => exact fun _ _ _ h => h
            case hS671 => assumption
            case hy671 => (refine Or.inl ⟨by rfl, ?_⟩; intro w hSw; (try dsimp only at hSw); obtain ⟨z0, z1, z2, z3⟩ := hSw; go_simp; try with_reducible rfl)
            simp only [Act.put, List.setIfInBounds_toArray, List.set_cons_zero, List.set_cons_succ]
            refine wpAnyH_ready (rs := [12]) (by kernel_rfl) (by simp) ?_
            refine AllReadyH.cons rfl (fun K hK => ?_) AllReadyH.nil
            (go_simp)
            refine hK.out _ _ (EZ.out) (fun hHeld2 => ?_)
            clear hK K hHeld
            have hHeld := hHeld2
            clear hHeld2
            first | simp only [Act.put, List.setIfInBounds_toArray, List.set_cons_zero, List.set_cons_succ] | skip
            refine wpAnyH_take (i := 13) (oi := ?oi688) (v := ?val688) ?hi688 ?hs688 ?hf688 ?hr688 ?hQ688 ?hy688 ?hS688 ?hrest688
            case hi688 => (simp only [List.getElem?_toArray, List.getElem?_cons_succ, List.getElem?_cons_zero] <;> exact rfl)
            case hs688 => kernel_rfl
            case hf688 => kernel_rfl
            case hr688 => kernel_rfl
            case hQ688 => exact fun _ _ _ h => h
            case hS688 => assumption
            case hy688 => (refine Or.inl ⟨by rfl, ?_⟩; intro w hSw; (try dsimp only at hSw); obtain ⟨z0, z1, z2, z3⟩ := hSw; go_simp; try with_reducible rfl)
            simp only [Act.put, List.setIfInBounds_toArray, List.set_cons_zero, List.set_cons_succ]
            refine wpAnyH_take (i := 14) (oi := ?oi697) (v := ?val697) ?hi697 ?hs697 ?hf697 ?hr697 ?hQ697 ?hy697 ?hS697 ?hrest697
            case hi697 => (simp only [List.getElem?_toArray, List.getElem?_cons_succ, List.getElem?_cons_zero] <;> exact rfl)
            case hs697 => kernel_rfl
            case hf697 => kernel_rfl
            case hr697 => kernel_rfl
            case hQ697 => exact fun _ _ _ h => h
            case hS697 => assumption
            case hy697 => (refine Or.inl ⟨by rfl, ?_⟩; intro w hSw; (try dsimp only at hSw); obtain ⟨z0, z1, z2, z3⟩ := hSw; go_simp; try with_reducible rfl)
            simp only [Act.put, List.setIfInBounds_toArray, List.set_cons_zero, List.set_cons_succ]
            refine wpAnyH_take (i := 15) (oi := ?oi706) (v := ?val706) ?hi706 ?hs706 ?hf706 ?hr706 ?hQ706 ?hy706 ?hS706 ?hrest706
            case hi706 => (simp only [List.getElem?_toArray, List.getElem?_cons_succ, List.getElem?_cons_zero] <;> exact rfl)
            case hs706 => kernel_rfl
            case hf706 => kernel_rfl
            case hr706 => kernel_rfl
            case hQ706 => exact fun _ _ _ h => h
            case hS706 => assumption
            case hy706 => (refine Or.inl ⟨by rfl, ?_⟩; intro w hSw; (try dsimp only at hSw); obtain ⟨z0, z1, z2, z3⟩ := hSw; go_simp; try with_reducible rfl)
            simp only [Act.put, List.setIfInBounds_toArray, List.set_cons_zero, List.set_cons_succ]
            refine wpAnyH_ready (rs := [16]) (by kernel_rfl) (by simp) ?_
            refine AllReadyH.cons rfl (fun K hK => ?_) AllReadyH.nil
            (go_simp)
            refine hK.out _ _ (EY.out) (fun hHeld2 => ?_)
            clear hK K hHeld
            have hHeld := hHeld2
            clear hHeld2
            first | simp only [Act.put, List.setIfInBounds_toArray, List.set_cons_zero, List.set_cons_succ] | skip
            refine wpAnyH_done (by kernel_rfl) ?_ _
            clear hHeld hrun5' hlk' h0c h1c
            have r1l := R1.out.2
            have r1o := R1.out
            go_wp2_with (at_builtin; refine wpList_app4 _ _ rfl _ _ 29 rfl w.heap.size 9 1 16 _ Try.underlying29 info_str rfl (by omega) g1 _ _ _ _ rfl rfl rfl r1o rfl (one_cell_str _) (by omega) (by unfold maxLen; omega) (by omega) ?_; intro h1 d1 W1 q1 hG1 hat1)
            have hml5 := Hown5.out.lt
            have u1 : OwnG W1 h1 w.heap.size 9 1 (p + 1) (strs (srWords (S ++ [(y, (a : Int), (x0, x1, x2), f4 + 1)]))) d1 := by rw [T1.out]; exact q1
            have um := Hown5.out.kept hG1 (by intro e; injection e with e; omega)
            have uS := HS11.out.grownG hG1 (by omega)
            have ux := Hrx11.out.grown hG1 (fun ad had e => by have h5 := Hbx.out ad had; injection e with e; omega)
            have uW := HW11.out.grown hG1 HW11.out.size (fun k hk => by injection hk with hk; omega)
            have z1 := hG1.size
            have hbx2 : ∀ ad, some (⟨b, o, none⟩ : Addr) = some ad → ad.block < W1.heap.size ∧ ad.block ≠ h1 ∧ ad.block ≠ w.heap.size + 1 := fun ad had => by have h5 := Hbx.out ad had; omega
            have hm1 : h1 ≠ w.heap.size + 1 := by omega
            have hm2 : w.heap.size < h1 := by omega
            clear q1
            have U1 := Lib.hid u1
            clear u1
            have Um := Lib.hid um
            clear um
            have US := Lib.hid uS
            clear uS
            have Ux := Lib.hid ux
            clear ux
            have UW := Lib.hid uW
            clear uW
            have Hbx2 := Lib.hid hbx2
            clear hbx2
            go_wp2_with fail
            go_roundw
            case rel => exact ⟨j + 1, S ++ [(y, (a : Int), (x0, x1, x2), f4 + 1)], p + 1, h1, d1, nM + 1, _, rfl, by go_num, by omega, Hp2, by omega, hm1, hm2, Hn2, Hwf5, HM5, Hbx2, Ux.out, US.out, UW.out, Um.out, U1.out⟩
            case measure => simp [intOf] <;> omega
        · have : j = q := by omega
          subst this
          have hT2 : X.take j = X := List.take_of_length_le (by rw [← Hq.out]; exact Nat.le_refl _)
          have hpe := HP.out
          have ha131 : a < 131073 := by omega
          have hnext : srAll rs s lim = srGo rs lim (131073 - (a + 1)) (a + 1) S := by
            rw [HE.out, srGo_go (by omega) hal, HS'.out, hT2, HX.out, Hcur.out]
            rfl
          have hap2 : a + 1 ≤ p := by rw [HP.out]; omega
          clear hsub hT
          have HgS := Lib.hid hgS
          clear hgS
          have Hnext := Lib.hid hnext
          clear hnext
          have HatS := Lib.hid hatS
          clear hatS
          go_wp2_with fail
          go_roundw
          case rel => exact ⟨a + 1, S, p, g1, c1, nM, D, rfl, by go_num, HP, hap2, hnM, hg1m, hg1l, HgS, HWf, Hnext, HM, hS, hW, hmp, p1⟩
          case measure => simp [intOf] <;> omega
    · have : a = p := by omega
      subst this
      have e1 : srAll rs s lim = S0 := by rw [HE.out, srGo_end (by rw [← HP.out]; exact Nat.le_refl _)]
      have E1 := Lib.hid e1
      clear e1
      go_wp2_with fail
      refine bodyPost_ret (v := .tuple #[.map (some (w.heap.size + 1)), .slice (some ⟨g1, 0, none⟩) a c1]) (by simp [results, Try.results82, go_sem]) rfl ?_
      rw [E1.out]
      unfold MadeSrM
      rw [← HP.out]
      exact ⟨w.heap.size + 1, g1, c1, nM, D, rfl, hmp, HM.out, o1, hW, by omega⟩

end Go.Proofs.Ytidmbeeadbedaaa
