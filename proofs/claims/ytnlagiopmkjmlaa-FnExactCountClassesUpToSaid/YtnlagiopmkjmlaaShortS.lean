/- Walk over ShortestChain of the reference. -/
import Derived.Test.YtnlagiopmkjmlaaShort
import Derived.Test.YtnlagiopmkjmlaaProof
namespace Go.Proofs.Ytnlagiopmkjmlaa
open Go.RowKit Go.Shelf

theorem sr_zero {S : List SrT} (hw : srWf S) {i : Nat} (hi : i < S.length) (h0 : (srAt S i).2.2.2 = 0) (hg : ∀ j, j < S.length → 0 ≤ (srAt S j).2.2.2) : i = 0 := by
  rcases hw i hi with h1 | ⟨h1, h2, h3⟩
  · exact h1.1
  · have := hg (srAt S i).2.1.toNat (by omega)
    omega
theorem sr_pos {S : List SrT} (hw : srWf S) {i k : Nat} (hi : i < S.length) (h0 : (srAt S i).2.2.2 = ((k + 1 : Nat) : Int)) : 0 < i ∧ ∃ j, j < S.length ∧ j < i ∧ (srAt S i).2.1 = (j : Int) ∧ (srAt S j).2.2.2 = (k : Int) := by
  rcases hw i hi with h1 | ⟨h1, h2, h3⟩
  · have := h1.2.2; omega
  · exact ⟨by omega, (srAt S i).2.1.toNat, by omega, by omega, by omega, by omega⟩
theorem srLinks_len (S : List SrT) : (srLinks S).length = S.length := by simp [srLinks]
theorem srLinks_get {S : List SrT} {i : Nat} (hi : i < S.length) : (srLinks S)[i]'(by rw [srLinks_len]; exact hi) = (srAt S i).2.2.1 := by
  unfold srAt srLinks
  rw [List.getElem_map, List.getD_eq_getElem?_getD, List.getElem?_eq_getElem hi]
  rfl
theorem srFrom_cell {S : List SrT} {i : Nat} (hi : i < S.length) : (ints (srFrom S))[i]? = some (.int .i64 (srAt S i).2.1) := by
  unfold srAt srFrom ints
  rw [List.map_map, List.getElem?_map, List.getElem?_eq_getElem hi, List.getD_eq_getElem?_getD, List.getElem?_eq_getElem hi]
  rfl
theorem hcells_own {w : World} {base g : Nat} {t : TypeId} {m n c : Nat} {xs : List Value} (h : w.ownsRow base t m (.slice (some ⟨g, 0, none⟩) n c) n xs) : ∀ j u, xs[j]? = some u → w.cell? ((⟨g, 0, none⟩ : Addr).add j) = some u := h.cells (g := g) rfl

set_option maxRecDepth 100000 in
set_option maxHeartbeats 4000000 in
theorem specShortestChain_any (l : Int) (A : Option Addr) (n c : Nat) (rs : List RuleT) (u v : ByteArray) (lim : Int) (w : World) (hr : Rd w A (cellsRule rs)) (hn : n = rs.length) (hb : n ≤ 1048576) (hz : ∀ x ∈ rs, x.1.size ≤ 1048576 ∧ x.2.size ≤ 1048576) (hs : u.size ≤ 1048576) (hv : v.size ≤ 1048576) :
    Calls Try.prog 20 #[.agg #[.int .i64 l, .slice A n c], .string u, .string v, .int .i64 lim] w (MadeSlB w 76 3 (shC l rs u v lim).length (cellsLink (shC l rs u v lim)) (shOk l rs u v lim)) := by
  have hW0 : Below w.heap.size w (w.alloc (.cells #[.int .i64 l, .slice A n c] 29)) := (Below.refl _ _).alloc (Nat.le_refl _) _
  have hS0 := Bk.new w 29 #[.int .i64 l, .slice A n c]
  have Hr := Lib.hid hr
  clear hr
  have Hn := Lib.hid hn
  clear hn
  have Hz := Lib.hid hz
  clear hz
  go_enter Try.func20, Try.ntmps20
  go_wp2_with fail
  with_reducible refine (specDistanceBetween_any l A n c rs u v lim _ (Hr.out.keep hW0) Hn.out hb Hz.out hs hv).mono ?_
  rintro e w1 ⟨rfl, b1⟩
  have hW1 := hW0.trans (b1.mono hW0.size)
  have hS1 := hS0.below b1 hS0.lt
  have s0_1 : w1.cell? ⟨w.heap.size, 0, none⟩ = some (.int .i64 l) := by rw [hS1.cell]; rfl
  have s1_1 : w1.cell? ⟨w.heap.size, 1, none⟩ = some (.slice A n c) := by rw [hS1.cell]; rfl
  have sl_1 := hS1.lt
  clear b1
  have hd := dist_short l rs u v lim
  obtain ⟨dd, hdd⟩ : ∃ d, d = distB l rs u v lim := ⟨_, rfl⟩
  rw [← hdd] at hd ⊢
  cases hok : shOk l rs u v lim
  · rw [hok, if_neg (by simp)] at hd
    subst hd
    have e1 : shC l rs u v lim = [] := by
      unfold shOk at hok
      unfold shC
      unfold shR at hok ⊢
      split at hok
      · next h1 =>
        rw [if_pos h1]
        split at hok
        · cases hok
        · rfl
      · next h1 => rw [if_neg h1]
    have Hdd := Lib.hid hdd
    clear hdd
    have E1 := Lib.hid e1
    clear e1
    have Hok := Lib.hid hok
    clear hok
    go_wp2_with fail
    go_ret2
    rw [E1.out, Hok.out]
    exact ⟨none, 0, rfl, World.ownsRow_nil _ _ _ _, hW1⟩
  rw [hok, if_pos rfl] at hd
  have hd0 : ¬ dd < 0 := by omega
  obtain ⟨hsu, i0, hfo, hch⟩ : searched l rs u lim = true ∧ ∃ i, fnd (srWords (srAll rs u lim)) v = some i ∧ shC l rs u v lim = srChain (srAll rs u lim) i := by
    unfold shOk at hok
    unfold shC
    unfold shR at hok ⊢
    split at hok
    · next h1 =>
      rw [if_pos h1]
      rw [Bool.and_eq_true] at h1
      split at hok
      · next i hi => exact ⟨h1.1, i, hi, rfl⟩
      · cases hok
    · cases hok
  obtain ⟨hso, hwu⟩ : searchOk l rs lim = true ∧ word15 l u lim = true := by
    have h := hsu
    unfold searched at h
    simpa using h
  obtain ⟨hro, hg8, hl8⟩ := searched_out hso hwu
  obtain ⟨S, hS⟩ : ∃ S, S = srAll rs u lim := ⟨_, rfl⟩
  have hgd := srAll_good hro hl8 hg8
  have hwf := srAll_wf rs u lim
  have hlen := srGood_len hgd
  have hsr := specSearch_any l A n c rs u lim w1 (Hr.out.keep hW1) Hn.out hb Hz.out hro hg8 hl8
  rw [← hS] at hfo hch hgd hwf hlen hsr
  clear hd
  have Hdd := Lib.hid hdd
  clear hdd
  have Hok := Lib.hid hok
  clear hok
  have Hch := Lib.hid hch
  clear hch
  have Hgd := Lib.hid hgd
  clear hgd
  have Hwf := Lib.hid hwf
  clear hwf
  have HS := Lib.hid hS
  clear hS
  have Hro := Lib.hid hro
  clear hro
  have Hg8 := Lib.hid hg8
  clear hg8
  have Hsr := Lib.hid hsr
  clear hsr
  have Hso := Lib.hid hso
  clear hso
  have Hwu := Lib.hid hwu
  clear hwu
  have Hsu := Lib.hid hsu
  clear hsu
  have Hfo := Lib.hid hfo
  clear hfo
  go_wp2_with fail
  refine Hsr.out.mono ?_
  rintro e w4 ⟨g1, c1, g2, c2, g3, c3, g4, c4, rfl, o1, o2, o3, o4, b4⟩
  have hW4 := hW1.trans (b4.mono hW1.size)
  obtain ⟨p, hp⟩ : ∃ p, p = S.length := ⟨_, rfl⟩
  rw [← hp] at o1 o2 o3 hlen ⊢
  have hpw : p = (srWords S).length := by rw [srWords_len]; exact hp
  have hpl : p = (srLinks S).length := by rw [srLinks_len]; exact hp
  have e7 : fndI (srWords S) v = (i0 : Int) := by simp [fndI, Hfo.out]
  have hi0 : i0 < S.length := by rw [← srWords_len]; exact fnd_lt Hfo.out
  have hfar := Hgd.out.2.2 i0 hi0
  obtain ⟨K, hK⟩ : ∃ K, K = (srAt S i0).2.2.2.toNat := ⟨_, rfl⟩
  have hKf : (srAt S i0).2.2.2 = (K : Int) := by omega
  have hKb : K ≤ 131072 := by omega
  have hcK : shC l rs u v lim = (srBack S K i0).reverse ++ [] := by rw [Hch.out, srChain, ← hK, List.append_nil]
  obtain ⟨CH, hCH⟩ : ∃ L, L = shC l rs u v lim := ⟨_, rfl⟩
  rw [← hCH] at hcK ⊢
  have hlf := o2.2
  have hrd := o1.rd.keep ((Below.refl _ w4).alloc (Nat.le_refl _) (.cells #[] 76))
  have hr3 := o3.rd
  obtain ⟨A3, hA3⟩ : ∃ A, A = (some ⟨g3, 0, none⟩ : Option Addr) := ⟨_, rfl⟩
  rw [← hA3] at hr3 ⊢
  have hO0 := own_of_bk (base := w4.heap.size) (m := 3) (n := 0) (Bk.new w4 76 #[]) (Nat.le_refl _) rfl (by unfold maxLen; omega)
  have hB0 : Below w4.heap.size w4 (w4.alloc (.cells #[] 76)) := (Below.refl _ _).alloc (Nat.le_refl _) _
  clear b4 s0_1 s1_1 sl_1 hS1 hW1 o1 o3 o4
  have Hp := Lib.hid hp
  clear hp
  have Hpw := Lib.hid hpw
  clear hpw
  have Hpl := Lib.hid hpl
  clear hpl
  have E7 := Lib.hid e7
  clear e7
  have HcK := Lib.hid hcK
  clear hcK
  have HCH := Lib.hid hCH
  clear hCH
  have Hrd := Lib.hid hrd
  clear hrd
  have Hr3 := Lib.hid hr3
  clear hr3
  have O2 := Lib.hid o2
  clear o2
  have HO0 := Lib.hid hO0
  clear hO0
  have HB0 := Lib.hid hB0
  clear hB0
  have HA3 := Lib.hid hA3
  clear hA3
  have HKf := Lib.hid hKf
  clear hKf
  have HK := Lib.hid hK
  clear hK
  go_wp2_with fail
  refine (specFind_any (some ⟨g1, 0, none⟩) p c1 (srWords S) v _ Hrd.out Hpw.out (by omega)).mono ?_
  rintro e w5 ⟨rfl, rfl⟩
  rw [E7.out]
  go_wp2_with fail
  go_loopw [14, 15] (fun o iv wr => ∃ (q k m : Nat) (B : Nat) (d : Nat) (ds : List LinkT), o = .slice (some ⟨B, 0, none⟩) m d ∧ iv = .int .i64 (q : Int) ∧ q < p ∧ Hid (m = ds.length) ∧ m + k = K ∧ Hid ((srAt S q).2.2.2 = (k : Int)) ∧ Hid (CH = (srBack S k q).reverse ++ ds) ∧ Below w4.heap.size w4 wr ∧ wr.ownsRow w4.heap.size 76 3 (.slice (some ⟨B, 0, none⟩) m d) m (cellsLink ds)) (fun _ iv _ => (intOf iv).toNat)
  case atStart => exact ⟨i0, K, 0, _, _, [], rfl, rfl, by rw [Hp.out]; exact hi0, Lib.hid rfl, by omega, HKf, HcK, HB0.out, HO0.out⟩
  case round =>
    clear HO0 HB0 HcK HKf HK Hrd
    obtain ⟨q, k, m, B, d, ds, rfl, rfl, hq, HM, hmk, HF, HL, hB, hO⟩ := hrel
    have hqS : q < S.length := by rw [← Hp.out]; exact hq
    cases k with
    | zero =>
      have hq0 : q = 0 := sr_zero Hwf.out hqS HF.out (fun j hj => (Hgd.out.2.2 j hj).1)
      subst hq0
      have hds : CH = ds := by have := HL.out; rw [srBack] at this; exact this
      have hml : CH.length = m := by rw [hds, ← HM.out]
      have hW9 := hW4.trans (hB.mono hW4.size)
      have hO9 := own_mono hO hW4.size
      have Hds := Lib.hid hds
      clear hds
      have Hml := Lib.hid hml
      clear hml
      have HO9 := Lib.hid hO9
      clear hO9
      have HW9 := Lib.hid hW9
      clear hW9
      have HB := Lib.hid hB
      clear hB
      have HO := Lib.hid hO
      clear hO
      go_wp2_with fail
      go_ret2
      rw [Hok.out, ← HCH.out, Hml.out, Hds.out]
      exact ⟨_, d, rfl, HO9.out, HW9.out⟩
    | succ k =>
      obtain ⟨hq0, j, hj, hjq, hfr, hfj⟩ := sr_pos Hwf.out hqS HF.out
      have hqi : (0 : Int) < (q : Int) := by omega
      have hbs := hB.size
      have k2 := (O2.out.below hB).cell (srFrom_cell hqS)
      rw [hfr] at k2
      obtain ⟨b, o, rfl, hbl, p0, p1, p2⟩ := rd_Link (Hr3.out.keep hB) (k := q) (by rw [← Hpl.out]; exact hq)
      rw [srLinks_get hqS] at p0 p1 p2
      obtain ⟨⟨x0, x1, x2⟩, hx⟩ : ∃ x, x = (srAt S q).2.2.1 := ⟨_, rfl⟩
      rw [← hx] at p0 p1 p2
      dsimp only at p0 p1 p2
      have hL2 : CH = (srBack S k j).reverse ++ ((x0, x1, x2) :: ds) := by
        have h := HL.out
        rw [srBack, hfr, Int.toNat_natCast, ← hx, List.reverse_cons, List.append_assoc] at h
        exact h
      have hob := own_of_bk (base := w4.heap.size) (m := 3) (n := 1) (Bk.new wr 76 #[.int .i64 x0, .int .i64 x1, .bool x2]) hbs rfl (by unfold maxLen; omega)
      have hOa := own_keep hO ((Below.refl _ wr).alloc (Nat.le_refl _) (.cells #[.int .i64 x0, .int .i64 x1, .bool x2] 76)) (Nat.le_refl _)
      have hWa := hB.alloc hbs (.cells #[.int .i64 x0, .int .i64 x1, .bool x2] 76)
      have hca := hcells_own hOa
      have hla := hOa.1
      obtain ⟨i9, hi, hz0, hz1, hz2⟩ := info_parts info_Link
      have hsz2 : w4.heap.size ≤ (wr.alloc (.cells #[.int .i64 x0, .int .i64 x1, .bool x2] 76)).heap.size := hWa.size
      have hcs : cellsLink ((x0, x1, x2) :: ds) = (#[.int .i64 x0, .int .i64 x1, .bool x2] : Array Value).toList ++ cellsLink ds := by simp [cellsLink, encLink]
      have hl2 : 1 + m = ((x0, x1, x2) :: ds).length := by rw [List.length_cons, HM.out]; omega
      have k2a : (wr.alloc (.cells #[.int .i64 x0, .int .i64 x1, .bool x2] 76)).cell? ⟨g2, q, none⟩ = some (.int .i64 (j : Int)) := ((Below.refl _ wr).alloc (Nat.le_refl _) _).cell (p := ⟨g2, q, none⟩) (Nat.lt_of_lt_of_le hlf hbs) |>.trans k2
      clear hO
      have Hx := Lib.hid hx
      clear hx
      have HL2 := Lib.hid hL2
      clear hL2
      have Hob := Lib.hid hob
      clear hob
      have HOa := Lib.hid hOa
      clear hOa
      have HWa := Lib.hid hWa
      clear hWa
      have Hca := Lib.hid hca
      clear hca
      have Hcs := Lib.hid hcs
      clear hcs
      have Hl2 := Lib.hid hl2
      clear hl2
      have Hfr := Lib.hid hfr
      clear hfr
      have Hfj := Lib.hid hfj
      clear hfj
      have HB := Lib.hid hB
      clear hB
      have Hbl := Lib.hid hbl
      clear hbl
      go_wp2_with (at_builtin; refine wpList_append_own _ rfl _ _ 33 rfl w4.heap.size 76 i9 _ 3 24 Try.underlying33 hi hz0 hz1 hz2 rfl (by omega) (.slice (some ⟨wr.heap.size, 0, none⟩) 1 1) 1 _ rfl Hob.out ⟨B, 0, none⟩ m d (cellsLink ds) rfl hla Hca.out (one_cell_links ds) (by unfold maxLen; omega) (by omega) hsz2 ?_; intro v' w' hO5 hG hX; (have k2b := hG.cell k2a (by intro e; simp [Value.ownBlock] at e; omega)))
      obtain ⟨A5, c5, rfl⟩ := own_form hO5
      obtain ⟨g5, e5, _, _⟩ := own_some hO5 (by omega)
      subst e5
      have hW5 := HWa.out.grown hG hsz2 (fun z hz => by simp [Value.ownBlock] at hz; omega)
      have hO6 : w'.ownsRow w4.heap.size 76 3 (.slice (some ⟨g5, 0, none⟩) (1 + m) c5) (1 + m) (cellsLink ((x0, x1, x2) :: ds)) := by rw [Hcs.out]; exact hO5
      clear hO5 hG hX
      have HO6 := Lib.hid hO6
      clear hO6
      have HW5 := Lib.hid hW5
      clear hW5
      go_wp2_with fail
      go_roundw
      case rel => exact ⟨j, k, 1 + m, g5, c5, _, rfl, rfl, by rw [Hp.out]; exact hj, Hl2.out, by omega, Hfj.out, HL2.out, HW5.out, HO6.out⟩
      case measure => simp [intOf] <;> omega

end Go.Proofs.Ytnlagiopmkjmlaa
