/- Walk over ShortenProof of the reference. -/
import Derived.Test.YtnlagiopmkjmlaaShS
namespace Go.Proofs.Ytnlagiopmkjmlaa
open Go.RowKit Go.Shelf

theorem step_append_own {P : Program} {ops : Array Oper} {o : Oper} {a : Act} {K : Act → World → Prop} {Q : Exit → Act → World → Prop} {E : Prop} (w : World) (hgd : o.guard = none) (s x : Operand) (t : TypeId)
    (ho : o.op = .call { callee := .builtin .append, args := #[s, x], argTypes := #[t, t] }) (base e size bytes : Nat) (z : Value) (ht : P.underlying t = some (.slice e))
    (hinfo : (P.info? e).map (fun i => (i.zero, i.size, i.bytes)) = some (some z, size, bytes)) (hzs : z.cells.size = size) (hsz : 0 < size) (v : Value) (n : Nat) (xs : List Value) (hs : a.eval s = v) (hown : w.ownsRow base e size v n xs)
    (ad : Addr) (m c : Nat) (news : List Value) (hx : a.eval x = .slice (some ad) m c) (hl : news.length = m * size) (hnews : ∀ j u, news[j]? = some u → w.cell? (ad.add j) = some u) (h1 : ∀ u ∈ news, u.oneCell' = true)
    (h63 : n + m ≤ maxLen) (hbytes : (n + m) * bytes ≤ 140737488355328) (hbase : base ≤ w.heap.size)
    (h : ∀ A c' w', w'.ownsRow base e size (.slice A (n + m) c') (n + m) (xs ++ news) → w.grownBy w' v.ownBlock → K (a.put o.dst (.slice A (n + m) c')) w') :
    if Region.wanted o (yielded ops a.tmps) = true then Oper.wp P o a w K Q else E := by
  have hwn : Region.wanted o (yielded ops a.tmps) = true := by simp [Region.wanted, hgd]
  rw [if_pos hwn]
  obtain ⟨i0, hi, hz0, hz1, hz2⟩ := info_parts hinfo
  refine wp_append_own _ s x t ho base e i0 z size bytes ht hi hz0 hz1 hz2 hzs hsz v n xs hs hown ad m c news hx hl hnews h1 h63 hbytes hbase ?_
  intro v' w' hO hG _
  obtain ⟨A, c', rfl⟩ := own_form hO
  exact h A c' w' hO hG
theorem wpList_append_eq {P : Program} {ops : Array Oper} {rest : List Oper} {o : Oper} {a : Act} {Q : Exit → Act → World → Prop} {w w' : World} (hgd : o.guard = none) (s x : Operand) (t : TypeId)
    (ho : o.op = .call { callee := .builtin .append, args := #[s, x], argTypes := #[t, t] }) (sv xv rv : Value) (hs : a.eval s = sv) (hx : a.eval x = xv) (hrun : (Builtin.append_ #[t, t] o.type #[sv, xv]).run P w = .ok rv w') (h : wpList P ops Q rest (a.put o.dst rv) w') : wpList P ops Q (o :: rest) a w := by
  refine wpList_plain hgd fun K hK' => ?_
  unfold Oper.wp
  simp [execOp, ho, resolve, invoke, builtin, hs, hx, hrun, Result.andThen]
  exact hK' _ _ h
/-- Where a slice that is cut in front begins, and what it holds in any world in which the row reads the same. -/
theorem cut_addr {g n c k m km : Nat} {zs : List Value} (hkm : km = k * m) (hl : zs.length = n * m) (hc : n ≤ c) (hk : k ≤ n) : ∃ ad : Addr, (if c = k then (some ⟨g, 0, none⟩ : Option Addr) else some ⟨g, km, none⟩) = some ad ∧ ∀ W, Rd W (some ⟨g, 0, none⟩) zs → ∀ j u, (zs.drop (k * m))[j]? = some u → W.cell? (ad.add j) = some u := by
  by_cases hck : c = k
  · refine ⟨⟨g, 0, none⟩, by rw [if_pos hck], fun W _ j u hu => ?_⟩
    have h0 : zs.drop (k * m) = [] := by
      have hnk : n = k := by omega
      rw [List.drop_eq_nil_of_le (by rw [hl, hnk]; exact Nat.le_refl _)]
    rw [h0] at hu
    cases hu
  · refine ⟨⟨g, km, none⟩, by rw [if_neg hck], fun W hr j u hu => ?_⟩
    rw [List.getElem?_drop] at hu
    rw [Addr.add_lit]
    have h := rd_cells hr _ _ hu
    rwa [Addr.add_lit, Nat.zero_add, ← hkm] at h
theorem take_cells {g k m : Nat} {zs : List Value} {W : World} (hr : Rd W (some ⟨g, 0, none⟩) zs) : ∀ j u, (zs.take (k * m))[j]? = some u → W.cell? ((⟨g, 0, none⟩ : Addr).add j) = some u := fun j u hu => by
  have hj : j < k * m := by
    have h := (List.getElem?_eq_some_iff.1 hu).1
    rw [List.length_take] at h
    omega
  rw [List.getElem?_take_of_lt hj] at hu
  exact rd_cells hr j u hu
theorem one_take {zs : List Value} (h : ∀ u ∈ zs, u.oneCell' = true) (k : Nat) : ∀ u ∈ zs.take k, u.oneCell' = true := fun u hu => h u (List.mem_of_mem_take hu)
theorem one_drop {zs : List Value} (h : ∀ u ∈ zs, u.oneCell' = true) (k : Nat) : ∀ u ∈ zs.drop k, u.oneCell' = true := fun u hu => h u (List.mem_of_mem_drop hu)

set_option maxRecDepth 100000 in
set_option maxHeartbeats 8000000 in
theorem specShortenProof_any (l : Int) (A : Option Addr) (n c : Nat) (rs : List RuleT) (s : ByteArray) (B0 : Option Addr) (m0 d0 : Nat) (xs : List LinkT) (w : World) (hr : Rd w A (cellsRule rs)) (hn : n = rs.length) (hb : n ≤ 1048576) (hz : ∀ x ∈ rs, x.1.size ≤ 1048576 ∧ x.2.size ≤ 1048576) (hs : s.size ≤ 1048576) (hy : Rd w B0 (cellsLink xs)) (hm : m0 = xs.length) (hbm : m0 ≤ 1048576) :
    Calls Try.prog 31 #[.agg #[.int .i64 l, .slice A n c], .string s, .slice B0 m0 d0] w (MadeSlB w 76 3 (shpL l rs s xs).length (cellsLink (shpL l rs s xs)) (shpOk l rs s xs)) := by
  have hW0 : Below w.heap.size w (w.alloc (.cells #[.int .i64 l, .slice A n c] 29)) := (Below.refl _ _).alloc (Nat.le_refl _) _
  have hS0 := Bk.new w 29 #[.int .i64 l, .slice A n c]
  have Hr := Lib.hid hr
  clear hr
  have Hn := Lib.hid hn
  clear hn
  have Hz := Lib.hid hz
  clear hz
  have Hy := Lib.hid hy
  clear hy
  have Hm := Lib.hid hm
  clear hm
  go_enter Try.func31, Try.ntmps31
  go_wp2_with fail
  with_reducible refine (specChainOf_any l A n c rs s B0 m0 d0 xs _ (Hr.out.keep hW0) Hn.out hb Hz.out hs (Hy.out.keep hW0) Hm.out hbm).mono ?_
  rintro e w1 ⟨B, d, rfl, hO', b1⟩
  have hW1 := hW0.trans (b1.mono hW0.size)
  have hO := own_mono (b' := w.heap.size) hO' hW0.size
  clear hO' b1 hS0 hW0
  obtain ⟨ok, hok⟩ : ∃ k, k = coOk l rs s xs := ⟨_, rfl⟩
  rw [← hok]
  cases ok
  · have e1 : shpL l rs s xs = [] := by rw [shpL, ← hok]; rfl
    have e2 : shpOk l rs s xs = false := by rw [shpOk, ← hok]
    have E1 := Lib.hid e1
    clear e1
    have E2 := Lib.hid e2
    clear e2
    have Hok := Lib.hid hok
    clear hok
    have HO := Lib.hid hO
    clear hO
    go_wp2_with fail
    go_ret2
    rw [E1.out, E2.out]
    exact ⟨none, 0, rfl, World.ownsRow_nil _ _ _ _, hW1⟩
  obtain ⟨hl1, hl2⟩ := co_len hok.symm
  obtain ⟨ws0, hws0⟩ : ∃ ws, ws = coL l rs s xs := ⟨_, rfl⟩
  have e1 : shpL l rs s xs = shGo 300 0 ws0 xs := by rw [shpL, ← hok, hws0]; rfl
  have e2 : shpOk l rs s xs = true := by rw [shpOk, ← hok]
  rw [← hws0] at hO hl1 ⊢
  obtain ⟨R, hRR⟩ : ∃ R, R = shpL l rs s xs := ⟨_, rfl⟩
  rw [← hRR] at e1
  obtain ⟨z0, hz0⟩ : ∃ z, z = ws0.length := ⟨_, rfl⟩
  rw [← hz0] at hO hl1 ⊢
  have hO20 := own_of_bk (base := w.heap.size) (m := 3) (n := 0) (Bk.new w1 76 #[]) hW1.size rfl (by unfold maxLen; omega)
  have hW2 := hW1.alloc hW1.size (.cells #[] 76)
  have hO2 := own_keep hO ((Below.refl _ w1).alloc (Nat.le_refl _) (.cells #[] 76)) (Nat.le_refl _)
  have hy2 : Rd (w1.alloc (.cells #[] 76)) B0 (cellsLink xs) := Hy.out.keep hW2
  have hlt1 : ∀ k, (Value.slice B z0 d).ownBlock = some k → k < w1.heap.size := fun k hk => (hO.lt k hk).2
  have hcp : ∃ (B2 : Option Addr) (d2 : Nat) (w2 : World), (∀ ty, (Builtin.append_ #[33, 33] ty #[.slice (some ⟨w1.heap.size, 0, none⟩) 0 0, .slice B0 m0 d0]).run Try.prog (w1.alloc (.cells #[] 76)) = .ok (.slice B2 m0 d2) w2) ∧ w2.ownsRow w.heap.size 76 3 (.slice B2 m0 d2) m0 (cellsLink xs) ∧ w2.ownsRow w.heap.size 9 1 (.slice B z0 d) z0 (strs ws0) ∧ Below w.heap.size w w2 := by
    obtain ⟨i9, hi, hq0, hq1, hq2⟩ := info_parts info_Link
    have hO20 := own_of_bk (base := w1.heap.size) (m := 3) (n := 0) (Bk.new w1 76 #[]) (Nat.le_refl _) rfl (by unfold maxLen; omega)
    have hW2 := hW1.alloc hW1.size (.cells #[] 76)
    have hV2 : Below w1.heap.size w1 (w1.alloc (.cells #[] 76)) := (Below.refl _ _).alloc (Nat.le_refl _) _
    have hy2 : Rd (w1.alloc (.cells #[] 76)) B0 (cellsLink xs) := Hy.out.keep hW2
    cases B0 with
    | none =>
      have hx0 : xs = [] := by
        cases xs with
        | nil => rfl
        | cons x xs =>
          obtain ⟨b, o, e, _⟩ := rd_Link hy2 (k := 0) (by simp)
          cases e
      have hm0 : m0 = 0 := by rw [Hm.out, hx0]; rfl
      subst hx0 hm0
      refine ⟨some ⟨w1.heap.size, 0, none⟩, 0, w1.alloc (.cells #[] 76), fun ty => ?_, own_mono hO20 hW1.size, own_keep hO hV2 (Nat.le_refl _), hW2⟩
      have hun : Try.prog.underlying 33 = some (.slice 76) := Try.underlying33
      simp [Builtin.append_, run_underlying hun, sizeOf, typeInfo, hi, Builtin.lenOf, Builtin.firstCells, storeCells]
    | some ad =>
      obtain ⟨b, o, hbo⟩ : ∃ b o, ad = ⟨b, o, none⟩ ∨ xs = [] := by
        by_cases hx0 : xs = []
        · exact ⟨0, 0, .inr hx0⟩
        · obtain ⟨b, o, e, _⟩ := hy2 (by intro e; apply hx0; cases xs with
            | nil => rfl
            | cons x r => simp [cellsLink, encLink] at e)
          injection e with e
          exact ⟨b, o, .inl e⟩
      have hnews : ∀ j u, (cellsLink xs)[j]? = some u → (w1.alloc (.cells #[] 76)).cell? (ad.add j) = some u := fun j u hu => by
        obtain ⟨b, o, e, _, hc⟩ := hy2 (by intro e; rw [e] at hu; cases hu)
        injection e with e
        subst e
        rw [Addr.add_lit]
        exact hc j u hu
      obtain ⟨v', w', hrun, hO3, hG3, _⟩ := run_append_own (P := Try.prog) (w1.alloc (.cells #[] 76)) w1.heap.size 33 33 76 i9 _ 3 24 Try.underlying33 hi hq0 hq1 hq2 rfl (by omega) (.slice (some ⟨w1.heap.size, 0, none⟩) 0 0) 0 [] hO20 ad m0 d0 (cellsLink xs) (by rw [cellsLink_len, Hm.out]) hnews (one_cell_links xs) (by unfold maxLen; omega) (by omega) (by simp)
      obtain ⟨A5, c5, rfl⟩ := own_form hO3
      rw [Nat.zero_add, List.nil_append] at hO3
      rw [Nat.zero_add] at hrun
      have hV3 := hV2.grown hG3 (by simp) (fun k hk => by simp [Value.ownBlock] at hk; omega)
      refine ⟨A5, c5, w', fun ty => hrun, own_mono hO3 hW1.size, own_keep hO hV3 (Nat.le_refl _), hW1.trans (hV3.mono hW1.size)⟩
  obtain ⟨B2, d2, w2, hrun, hO2, hO1, hW2⟩ := hcp
  clear hO hW1
  have E1 := Lib.hid e1
  clear e1
  have E2 := Lib.hid e2
  clear e2
  have Hok := Lib.hid hok
  clear hok
  have Hws0 := Lib.hid hws0
  clear hws0
  have HRR := Lib.hid hRR
  clear hRR
  have Hz0 := Lib.hid hz0
  clear hz0
  have HO1 := Lib.hid hO1
  clear hO1
  have HO2 := Lib.hid hO2
  clear hO2
  have HW2 := Lib.hid hW2
  clear hW2
  have Hrun := Lib.hid hrun
  clear hrun
  go_wp2_with (at_builtin; refine wpList_append_eq rfl _ _ 33 rfl _ _ _ rfl rfl (Hrun.out _) ?_)
  go_loopw [8, 10] (fun v8 v10 wr => ∃ (i z z2 : Nat) (ws : List ByteArray) (ls : List LinkT) (B : Option Addr) (d : Nat) (B2 : Option Addr) (d2 : Nat), v8 = .slice B z d ∧ v10 = .slice B2 z2 d2 ∧ z2 + 1 = z ∧ z ≤ 201 ∧ i ≤ z ∧ Hid (z = ws.length) ∧ Hid (z2 = ls.length) ∧ Hid (R = shGo (300 - i) i ws ls) ∧ Hid (∀ j, j < i → noLater ws j) ∧ wr.ownsRow w.heap.size 9 1 (.slice B z d) z (strs ws) ∧ wr.ownsRow w.heap.size 76 3 (.slice B2 z2 d2) z2 (cellsLink ls) ∧ Below w.heap.size w wr) (fun v8 _ _ => slenOf v8)
  case atStart => exact ⟨0, z0, m0, ws0, xs, B, d, B2, d2, rfl, rfl, by rw [Hm.out]; exact hl1, by omega, Nat.zero_le _, Hz0, Hm, E1, Lib.hid (fun j hj => absurd hj (Nat.not_lt_zero _)), HO1.out, HO2.out, HW2.out⟩
  case round =>
    clear HO1 HO2 HW2 Hrun
    obtain ⟨i0, z, z2, ws, ls, B, d, B2, d2, rfl, rfl, hzz, hz201, hiz, HZ, HZ2, HR, HN, hO, hO2, hW⟩ := hrel
    have hrd := Rd.of_own hO
    have htw := specTwice_any B z d ws wr hrd HZ.out (by omega)
    have HO := Lib.hid hO
    clear hO
    have HO2 := Lib.hid hO2
    clear hO2
    have HW := Lib.hid hW
    clear hW
    have Hrd := Lib.hid hrd
    clear hrd
    have Htw := Lib.hid htw
    clear htw
    go_wp2_with fail
    refine Htw.out.mono ?_
    rintro e w3 ⟨a, b, rfl, hT, hw3⟩
    replace hw3 := hw3.symm
    subst hw3
    clear Htw
    rcases hT with ⟨rfl, rfl, hall⟩ | ⟨i, k, rfl, rfl, hik, hkw, he, hlast, hbef⟩
    · have hRe : R = ls := by rw [HR.out]; exact tw_none hall (by rw [← HZ.out]; exact hiz) (by rw [← HZ.out]; omega)
      clear hall
      have HRe := Lib.hid hRe
      clear hRe
      go_wp2_with fail
      go_ret2
      rw [E2.out, ← HRR.out, HRe.out, ← HZ2.out]
      exact ⟨B2, d2, rfl, HO2.out, HW.out⟩
    · have hkz : k < z := by rw [HZ.out]; exact hkw
      obtain ⟨hR2, hN2⟩ := tw_some HN.out (by rw [← HZ.out]; exact hiz) hik hkw he hlast hbef (ls := ls) (by rw [← HZ.out]; omega)
      rw [← HR.out] at hR2
      have hkz2 : k ≤ z2 := by omega
      have hkz1 : k ≤ z := by omega
      have hi0 : ¬ (i : Int) < 0 := by omega
      obtain ⟨g, rfl, hg1, hg2⟩ := own_some HO.out (by omega)
      obtain ⟨g2, rfl, hg3, hg4⟩ := own_some HO2.out (by omega)
      have hc1 := (own_cap HO.out).1
      have hc2 := (own_cap HO2.out).1
      have hiz2 : i ≤ z2 := by omega
      have hic1 : i ≤ d := by omega
      have hkc1 : k ≤ d := by omega
      have hic2 : i ≤ d2 := by omega
      have hkc2 : k ≤ d2 := by omega
      obtain ⟨ad1, had1, hcut1⟩ := cut_addr (g := g) (c := d) (k := k) (m := 1) (km := k) (zs := strs ws) (Nat.mul_one k).symm HO.out.1 hc1 (by omega)
      obtain ⟨ad2, had2, hcut2⟩ := cut_addr (g := g2) (c := d2) (k := k) (m := 3) (km := k * 3) (zs := cellsLink ls) rfl HO2.out.1 hc2 hkz2
      have hl1a : ((strs ws).take (i * 1)).length = i * 1 := by rw [List.length_take, HO.out.1]; omega
      have hl1b : ((strs ws).drop (k * 1)).length = (z - k) * 1 := by rw [List.length_drop, HO.out.1]; omega
      have hl2a : ((cellsLink ls).take (i * 3)).length = i * 3 := by rw [List.length_take, HO2.out.1]; omega
      have hl2b : ((cellsLink ls).drop (k * 3)).length = (z2 - k) * 3 := by rw [List.length_drop, HO2.out.1]; omega
      have ho1 := one_cell_strs ws
      have ho2 := one_cell_links ls
      have hZ3 : 0 + i + (z - k) = (cutL ws i k).length := by rw [cutL_len (by omega) (by rw [← HZ.out]; omega), ← HZ.out]; omega
      have hZ4 : 0 + i + (z2 - k) = (cutL ls i k).length := by rw [cutL_len (by omega) (by rw [← HZ2.out]; omega), ← HZ2.out]; omega
      have hrd2 := Rd.of_own HO2.out
      have hws := HW.out.size
      clear hlast hbef he
      -- the links
      have hN0 : Below wr.heap.size wr (World.drew (wr.alloc (.cells #[] 76))) := ((Below.refl _ _).alloc (Nat.le_refl _) _).drew
      have hF0 := own_drew1 (own_of_bk (base := wr.heap.size) (m := 3) (n := 0) (Bk.new wr 76 #[]) (Nat.le_refl _) rfl (by unfold maxLen; omega))
      have hs0 : wr.heap.size ≤ (World.drew (wr.alloc (.cells #[] 76))).heap.size := hN0.size
      have HR2 := Lib.hid hR2
      clear hR2
      have HN2 := Lib.hid hN2
      clear hN2
      have Had1 := Lib.hid had1
      clear had1
      have Hcut1 := Lib.hid hcut1
      clear hcut1
      have Had2 := Lib.hid had2
      clear had2
      have Hcut2 := Lib.hid hcut2
      clear hcut2
      have Hl1a := Lib.hid hl1a
      clear hl1a
      have Hl1b := Lib.hid hl1b
      clear hl1b
      have Hl2a := Lib.hid hl2a
      clear hl2a
      have Hl2b := Lib.hid hl2b
      clear hl2b
      have Ho1 := Lib.hid ho1
      clear ho1
      have Ho2 := Lib.hid ho2
      clear ho2
      have HZ3 := Lib.hid hZ3
      clear hZ3
      have HZ4 := Lib.hid hZ4
      clear hZ4
      have Hrd2 := Lib.hid hrd2
      clear hrd2
      have HN0 := Lib.hid hN0
      clear hN0
      have HF0 := Lib.hid hF0
      clear hF0
      go_wp2_with fail
      refine wp_region_held_drew (S := (fun _ => True)) (by kernel_rfl) (trivial) (fun hHeld => ?_)
      refine wpAnyH_take (i := 1) (oi := ?oi266) (v := ?val266) ?hi266 ?hs266 ?hf266 ?hr266 ?hQ266 ?hy266 ?hS266 ?hrest266
      case hi266 => (simp only [List.getElem?_toArray, List.getElem?_cons_succ, List.getElem?_cons_zero] <;> exact rfl)
      case hs266 => kernel_rfl
      case hf266 => kernel_rfl
      case hr266 => kernel_rfl
      case hQ266 => exact fun _ _ _ h => h
      case hS266 => assumption
      case hy266 => (refine Or.inl ⟨by rfl, ?_⟩; intro w hSw; (try dsimp only at hSw); (first | obtain ⟨z0, z1, z2, z3, z4, z5⟩ := hSw | obtain ⟨z0, z1, z2, z3⟩ := hSw | obtain ⟨z0, z1, z2⟩ := hSw | obtain ⟨z0, z1⟩ := hSw | skip); go_simp; try with_reducible rfl)
      simp only [Act.put, List.setIfInBounds_toArray, List.set_cons_zero, List.set_cons_succ]
      refine wpAnyH_take (i := 2) (oi := ?oi275) (v := ?val275) ?hi275 ?hs275 ?hf275 ?hr275 ?hQ275 ?hy275 ?hS275 ?hrest275
      case hi275 => (simp only [List.getElem?_toArray, List.getElem?_cons_succ, List.getElem?_cons_zero] <;> exact rfl)
      case hs275 => kernel_rfl
      case hf275 => kernel_rfl
      case hr275 => kernel_rfl
      case hQ275 => exact fun _ _ _ h => h
      case hS275 => assumption
      case hy275 => (refine Or.inl ⟨by rfl, ?_⟩; intro w hSw; (try dsimp only at hSw); (first | obtain ⟨z0, z1, z2, z3, z4, z5⟩ := hSw | obtain ⟨z0, z1, z2, z3⟩ := hSw | obtain ⟨z0, z1, z2⟩ := hSw | obtain ⟨z0, z1⟩ := hSw | skip); go_simp; try with_reducible rfl)
      simp only [Act.put, List.setIfInBounds_toArray, List.set_cons_zero, List.set_cons_succ]
      refine wpAnyH_take (i := 3) (oi := ?oi284) (v := ?val284) ?hi284 ?hs284 ?hf284 ?hr284 ?hQ284 ?hy284 ?hS284 ?hrest284
      case hi284 => (simp only [List.getElem?_toArray, List.getElem?_cons_succ, List.getElem?_cons_zero] <;> exact rfl)
      case hs284 => kernel_rfl
      case hf284 => kernel_rfl
      case hr284 => kernel_rfl
      case hQ284 => exact fun _ _ _ h => h
      case hS284 => assumption
      case hy284 => (refine Or.inl ⟨by rfl, ?_⟩; intro w hSw; (try dsimp only at hSw); (first | obtain ⟨z0, z1, z2, z3, z4, z5⟩ := hSw | obtain ⟨z0, z1, z2, z3⟩ := hSw | obtain ⟨z0, z1, z2⟩ := hSw | obtain ⟨z0, z1⟩ := hSw | skip); go_simp; try with_reducible rfl)
      simp only [Act.put, List.setIfInBounds_toArray, List.set_cons_zero, List.set_cons_succ]
      refine wpAnyH_take (i := 5) (oi := ?oi293) (v := ?val293) ?hi293 ?hs293 ?hf293 ?hr293 ?hQ293 ?hy293 ?hS293 ?hrest293
      case hi293 => (simp only [List.getElem?_toArray, List.getElem?_cons_succ, List.getElem?_cons_zero] <;> exact rfl)
      case hs293 => kernel_rfl
      case hf293 => kernel_rfl
      case hr293 => kernel_rfl
      case hQ293 => exact fun _ _ _ h => h
      case hS293 => assumption
      case hy293 => (refine Or.inl ⟨by rfl, ?_⟩; intro w hSw; (try dsimp only at hSw); (first | obtain ⟨z0, z1, z2, z3, z4, z5⟩ := hSw | obtain ⟨z0, z1, z2, z3⟩ := hSw | obtain ⟨z0, z1, z2⟩ := hSw | obtain ⟨z0, z1⟩ := hSw | skip); go_simp; try with_reducible rfl)
      simp only [Act.put, List.setIfInBounds_toArray, List.set_cons_zero, List.set_cons_succ]
      refine wpAnyH_take (i := 6) (oi := ?oi302) (v := ?val302) ?hi302 ?hs302 ?hf302 ?hr302 ?hQ302 ?hy302 ?hS302 ?hrest302
      case hi302 => (simp only [List.getElem?_toArray, List.getElem?_cons_succ, List.getElem?_cons_zero] <;> exact rfl)
      case hs302 => kernel_rfl
      case hf302 => kernel_rfl
      case hr302 => kernel_rfl
      case hQ302 => exact fun _ _ _ h => h
      case hS302 => assumption
      case hy302 => (refine Or.inl ⟨by rfl, ?_⟩; intro w hSw; (try dsimp only at hSw); (first | obtain ⟨z0, z1, z2, z3, z4, z5⟩ := hSw | obtain ⟨z0, z1, z2, z3⟩ := hSw | obtain ⟨z0, z1, z2⟩ := hSw | obtain ⟨z0, z1⟩ := hSw | skip); go_simp; try with_reducible rfl)
      simp only [Act.put, List.setIfInBounds_toArray, List.set_cons_zero, List.set_cons_succ]
      refine wpAnyH_take (i := 7) (oi := ?oi311) (v := ?val311) ?hi311 ?hs311 ?hf311 ?hr311 ?hQ311 ?hy311 ?hS311 ?hrest311
      case hi311 => (simp only [List.getElem?_toArray, List.getElem?_cons_succ, List.getElem?_cons_zero] <;> exact rfl)
      case hs311 => kernel_rfl
      case hf311 => kernel_rfl
      case hr311 => kernel_rfl
      case hQ311 => exact fun _ _ _ h => h
      case hS311 => assumption
      case hy311 => (refine Or.inl ⟨by rfl, ?_⟩; intro w hSw; (try dsimp only at hSw); (first | obtain ⟨z0, z1, z2, z3, z4, z5⟩ := hSw | obtain ⟨z0, z1, z2, z3⟩ := hSw | obtain ⟨z0, z1, z2⟩ := hSw | obtain ⟨z0, z1⟩ := hSw | skip); go_simp; try with_reducible rfl)
      simp only [Act.put, List.setIfInBounds_toArray, List.set_cons_zero, List.set_cons_succ]
      try rw [Had2.out]
      refine wpAnyH_ready (rs := [0]) (by kernel_rfl) (by simp) ?_
      refine AllReadyH.cons rfl (fun K hK => ?_) AllReadyH.nil
      (go_simp)
      refine hK.out _ _ (trivial) (fun hHeld2 => ?_)
      clear hK K hHeld
      have hHeld := hHeld2
      clear hHeld2
      first | simp only [Act.put, List.setIfInBounds_toArray, List.set_cons_zero, List.set_cons_succ] | skip
      refine wpAnyH_ready (rs := [4]) (by kernel_rfl) (by simp) ?_
      refine AllReadyH.cons rfl (fun K hK => ?_) AllReadyH.nil
      (refine step_append_own (World.drew (wr.alloc (.cells #[] 76))) rfl _ _ 33 rfl wr.heap.size 76 3 24 _ Try.underlying33 info_Link rfl (by omega) (.slice (some ⟨wr.heap.size, 0, none⟩) 0 0) 0 [] rfl HF0.out ⟨g2, 0, none⟩ i d2 ((cellsLink ls).take (i * 3)) rfl Hl2a.out (take_cells (Hrd2.out.keep HN0.out)) (one_take Ho2.out _) (by unfold maxLen; omega) (by omega) hs0 ?_; intro A5 c5 w5 hO5 hG5)
      refine hK.out _ _ (trivial) (fun hHeld2 => ?_)
      clear hK K hHeld
      have hHeld := hHeld2
      clear hHeld2
      first | simp only [Act.put, List.setIfInBounds_toArray, List.set_cons_zero, List.set_cons_succ] | skip
      have hV5 := HN0.out.grown hG5 hs0 (fun q hq => (HF0.out.lt q hq).1)
      have hs5 : wr.heap.size ≤ w5.heap.size := hV5.size
      refine wpAnyH_ready (rs := [8]) (by kernel_rfl) (by simp) ?_
      refine AllReadyH.cons rfl (fun K hK => ?_) AllReadyH.nil
      (refine step_append_own w5 rfl _ _ 33 rfl wr.heap.size 76 3 24 _ Try.underlying33 info_Link rfl (by omega) (.slice A5 (0 + i) c5) (0 + i) _ rfl hO5 ad2 (z2 - k) (d2 - k) ((cellsLink ls).drop (k * 3)) rfl Hl2b.out (Hcut2.out _ (Hrd2.out.keep hV5)) (one_drop Ho2.out _) (by unfold maxLen; omega) (by omega) hs5 ?_; intro A6 c6 w6 hO6 hG6)
      refine hK.out _ _ (trivial) (fun hHeld2 => ?_)
      clear hK K hHeld
      have hHeld := hHeld2
      clear hHeld2
      first | simp only [Act.put, List.setIfInBounds_toArray, List.set_cons_zero, List.set_cons_succ] | skip
      have hV6 := hV5.grown hG6 hs5 (fun q hq => (hO5.lt q hq).1)
      rw [List.nil_append, ← links_cut] at hO6
      refine wpAnyH_take (i := 9) (oi := ?oi349) (v := ?val349) ?hi349 ?hs349 ?hf349 ?hr349 ?hQ349 ?hy349 ?hS349 ?hrest349
      case hi349 => (simp only [List.getElem?_toArray, List.getElem?_cons_succ, List.getElem?_cons_zero] <;> exact rfl)
      case hs349 => kernel_rfl
      case hf349 => kernel_rfl
      case hr349 => kernel_rfl
      case hQ349 => exact fun _ _ _ h => h
      case hS349 => assumption
      case hy349 => (refine Or.inl ⟨by rfl, ?_⟩; intro w hSw; (try dsimp only at hSw); (first | obtain ⟨z0, z1, z2, z3, z4, z5⟩ := hSw | obtain ⟨z0, z1, z2, z3⟩ := hSw | obtain ⟨z0, z1, z2⟩ := hSw | obtain ⟨z0, z1⟩ := hSw | skip); go_simp; try with_reducible rfl)
      simp only [Act.put, List.setIfInBounds_toArray, List.set_cons_zero, List.set_cons_succ]
      refine wpAnyH_done (by kernel_rfl) ?_ _
      have hW6 := HW.out.trans (hV6.mono hws)
      have hO16 := own_keep HO.out hV6 (Nat.le_refl _)
      have hO26 := own_mono (b' := w.heap.size) hO6 hws
      have hrd6 := Hrd.out.keep hV6
      have hws6 : w.heap.size ≤ w6.heap.size := hW6.size
      clear hHeld hV5 hV6 hO5 hO6 hG5 hG6 HN0 HF0 HO HO2 HW Hrd Hrd2 hs0 hs5
      -- the words
      have hN0 : Below w6.heap.size w6 (World.drew (w6.alloc (.cells #[] 9))) := ((Below.refl _ _).alloc (Nat.le_refl _) _).drew
      have hF0 := own_drew1 (own_of_bk (base := w6.heap.size) (m := 1) (n := 0) (Bk.new w6 9 #[]) (Nat.le_refl _) rfl (by unfold maxLen; omega))
      have hs0 : w6.heap.size ≤ (World.drew (w6.alloc (.cells #[] 9))).heap.size := hN0.size
      have HW6 := Lib.hid hW6
      clear hW6
      have HO16 := Lib.hid hO16
      clear hO16
      have HO26 := Lib.hid hO26
      clear hO26
      have Hrd6 := Lib.hid hrd6
      clear hrd6
      have HN0 := Lib.hid hN0
      clear hN0
      have HF0 := Lib.hid hF0
      clear hF0
      go_wp2_with fail
      refine wp_region_held_drew (S := (fun _ => True)) (by kernel_rfl) (trivial) (fun hHeld => ?_)
      refine wpAnyH_take (i := 1) (oi := ?oi383) (v := ?val383) ?hi383 ?hs383 ?hf383 ?hr383 ?hQ383 ?hy383 ?hS383 ?hrest383
      case hi383 => (simp only [List.getElem?_toArray, List.getElem?_cons_succ, List.getElem?_cons_zero] <;> exact rfl)
      case hs383 => kernel_rfl
      case hf383 => kernel_rfl
      case hr383 => kernel_rfl
      case hQ383 => exact fun _ _ _ h => h
      case hS383 => assumption
      case hy383 => (refine Or.inl ⟨by rfl, ?_⟩; intro w hSw; (try dsimp only at hSw); (first | obtain ⟨z0, z1, z2, z3, z4, z5⟩ := hSw | obtain ⟨z0, z1, z2, z3⟩ := hSw | obtain ⟨z0, z1, z2⟩ := hSw | obtain ⟨z0, z1⟩ := hSw | skip); go_simp; try with_reducible rfl)
      simp only [Act.put, List.setIfInBounds_toArray, List.set_cons_zero, List.set_cons_succ]
      refine wpAnyH_take (i := 2) (oi := ?oi392) (v := ?val392) ?hi392 ?hs392 ?hf392 ?hr392 ?hQ392 ?hy392 ?hS392 ?hrest392
      case hi392 => (simp only [List.getElem?_toArray, List.getElem?_cons_succ, List.getElem?_cons_zero] <;> exact rfl)
      case hs392 => kernel_rfl
      case hf392 => kernel_rfl
      case hr392 => kernel_rfl
      case hQ392 => exact fun _ _ _ h => h
      case hS392 => assumption
      case hy392 => (refine Or.inl ⟨by rfl, ?_⟩; intro w hSw; (try dsimp only at hSw); (first | obtain ⟨z0, z1, z2, z3, z4, z5⟩ := hSw | obtain ⟨z0, z1, z2, z3⟩ := hSw | obtain ⟨z0, z1, z2⟩ := hSw | obtain ⟨z0, z1⟩ := hSw | skip); go_simp; try with_reducible rfl)
      simp only [Act.put, List.setIfInBounds_toArray, List.set_cons_zero, List.set_cons_succ]
      refine wpAnyH_take (i := 3) (oi := ?oi401) (v := ?val401) ?hi401 ?hs401 ?hf401 ?hr401 ?hQ401 ?hy401 ?hS401 ?hrest401
      case hi401 => (simp only [List.getElem?_toArray, List.getElem?_cons_succ, List.getElem?_cons_zero] <;> exact rfl)
      case hs401 => kernel_rfl
      case hf401 => kernel_rfl
      case hr401 => kernel_rfl
      case hQ401 => exact fun _ _ _ h => h
      case hS401 => assumption
      case hy401 => (refine Or.inl ⟨by rfl, ?_⟩; intro w hSw; (try dsimp only at hSw); (first | obtain ⟨z0, z1, z2, z3, z4, z5⟩ := hSw | obtain ⟨z0, z1, z2, z3⟩ := hSw | obtain ⟨z0, z1, z2⟩ := hSw | obtain ⟨z0, z1⟩ := hSw | skip); go_simp; try with_reducible rfl)
      simp only [Act.put, List.setIfInBounds_toArray, List.set_cons_zero, List.set_cons_succ]
      refine wpAnyH_take (i := 5) (oi := ?oi410) (v := ?val410) ?hi410 ?hs410 ?hf410 ?hr410 ?hQ410 ?hy410 ?hS410 ?hrest410
      case hi410 => (simp only [List.getElem?_toArray, List.getElem?_cons_succ, List.getElem?_cons_zero] <;> exact rfl)
      case hs410 => kernel_rfl
      case hf410 => kernel_rfl
      case hr410 => kernel_rfl
      case hQ410 => exact fun _ _ _ h => h
      case hS410 => assumption
      case hy410 => (refine Or.inl ⟨by rfl, ?_⟩; intro w hSw; (try dsimp only at hSw); (first | obtain ⟨z0, z1, z2, z3, z4, z5⟩ := hSw | obtain ⟨z0, z1, z2, z3⟩ := hSw | obtain ⟨z0, z1, z2⟩ := hSw | obtain ⟨z0, z1⟩ := hSw | skip); go_simp; try with_reducible rfl)
      simp only [Act.put, List.setIfInBounds_toArray, List.set_cons_zero, List.set_cons_succ]
      refine wpAnyH_take (i := 6) (oi := ?oi419) (v := ?val419) ?hi419 ?hs419 ?hf419 ?hr419 ?hQ419 ?hy419 ?hS419 ?hrest419
      case hi419 => (simp only [List.getElem?_toArray, List.getElem?_cons_succ, List.getElem?_cons_zero] <;> exact rfl)
      case hs419 => kernel_rfl
      case hf419 => kernel_rfl
      case hr419 => kernel_rfl
      case hQ419 => exact fun _ _ _ h => h
      case hS419 => assumption
      case hy419 => (refine Or.inl ⟨by rfl, ?_⟩; intro w hSw; (try dsimp only at hSw); (first | obtain ⟨z0, z1, z2, z3, z4, z5⟩ := hSw | obtain ⟨z0, z1, z2, z3⟩ := hSw | obtain ⟨z0, z1, z2⟩ := hSw | obtain ⟨z0, z1⟩ := hSw | skip); go_simp; try with_reducible rfl)
      simp only [Act.put, List.setIfInBounds_toArray, List.set_cons_zero, List.set_cons_succ]
      refine wpAnyH_take (i := 7) (oi := ?oi428) (v := ?val428) ?hi428 ?hs428 ?hf428 ?hr428 ?hQ428 ?hy428 ?hS428 ?hrest428
      case hi428 => (simp only [List.getElem?_toArray, List.getElem?_cons_succ, List.getElem?_cons_zero] <;> exact rfl)
      case hs428 => kernel_rfl
      case hf428 => kernel_rfl
      case hr428 => kernel_rfl
      case hQ428 => exact fun _ _ _ h => h
      case hS428 => assumption
      case hy428 => (refine Or.inl ⟨by rfl, ?_⟩; intro w hSw; (try dsimp only at hSw); (first | obtain ⟨z0, z1, z2, z3, z4, z5⟩ := hSw | obtain ⟨z0, z1, z2, z3⟩ := hSw | obtain ⟨z0, z1, z2⟩ := hSw | obtain ⟨z0, z1⟩ := hSw | skip); go_simp; try with_reducible rfl)
      simp only [Act.put, List.setIfInBounds_toArray, List.set_cons_zero, List.set_cons_succ]
      try rw [Had1.out]
      refine wpAnyH_ready (rs := [0]) (by kernel_rfl) (by simp) ?_
      refine AllReadyH.cons rfl (fun K hK => ?_) AllReadyH.nil
      (go_simp)
      refine hK.out _ _ (trivial) (fun hHeld2 => ?_)
      clear hK K hHeld
      have hHeld := hHeld2
      clear hHeld2
      first | simp only [Act.put, List.setIfInBounds_toArray, List.set_cons_zero, List.set_cons_succ] | skip
      refine wpAnyH_ready (rs := [4]) (by kernel_rfl) (by simp) ?_
      refine AllReadyH.cons rfl (fun K hK => ?_) AllReadyH.nil
      (refine step_append_own (World.drew (w6.alloc (.cells #[] 9))) rfl _ _ 69 rfl w6.heap.size 9 1 16 _ Try.underlying69 info_str rfl (by omega) (.slice (some ⟨w6.heap.size, 0, none⟩) 0 0) 0 [] rfl HF0.out ⟨g, 0, none⟩ i d ((strs ws).take (i * 1)) rfl Hl1a.out (take_cells (Hrd6.out.keep HN0.out)) (one_take Ho1.out _) (by unfold maxLen; omega) (by omega) hs0 ?_; intro A7 c7 w7 hO7 hG7)
      refine hK.out _ _ (trivial) (fun hHeld2 => ?_)
      clear hK K hHeld
      have hHeld := hHeld2
      clear hHeld2
      first | simp only [Act.put, List.setIfInBounds_toArray, List.set_cons_zero, List.set_cons_succ] | skip
      have hV7 := HN0.out.grown hG7 hs0 (fun q hq => (HF0.out.lt q hq).1)
      have hs7 : w6.heap.size ≤ w7.heap.size := hV7.size
      refine wpAnyH_ready (rs := [8]) (by kernel_rfl) (by simp) ?_
      refine AllReadyH.cons rfl (fun K hK => ?_) AllReadyH.nil
      (refine step_append_own w7 rfl _ _ 69 rfl w6.heap.size 9 1 16 _ Try.underlying69 info_str rfl (by omega) (.slice A7 (0 + i) c7) (0 + i) _ rfl hO7 ad1 (z - k) (d - k) ((strs ws).drop (k * 1)) rfl Hl1b.out (Hcut1.out _ (Hrd6.out.keep hV7)) (one_drop Ho1.out _) (by unfold maxLen; omega) (by omega) hs7 ?_; intro A8 c8 w8 hO8 hG8)
      refine hK.out _ _ (trivial) (fun hHeld2 => ?_)
      clear hK K hHeld
      have hHeld := hHeld2
      clear hHeld2
      first | simp only [Act.put, List.setIfInBounds_toArray, List.set_cons_zero, List.set_cons_succ] | skip
      have hV8 := hV7.grown hG8 hs7 (fun q hq => (hO7.lt q hq).1)
      rw [List.nil_append, ← strs_cut] at hO8
      try simp only [List.getElem_toArray, List.getElem_cons_succ, List.getElem_cons_zero, Act.put, List.setIfInBounds_toArray, List.set_cons_zero, List.set_cons_succ]
      refine wpAnyH_take (i := 9) (oi := ?oi467) (v := ?val467) ?hi467 ?hs467 ?hf467 ?hr467 ?hQ467 ?hy467 ?hS467 ?hrest467
      case hi467 => (simp only [List.getElem?_toArray, List.getElem?_cons_succ, List.getElem?_cons_zero] <;> exact rfl)
      case hs467 => kernel_rfl
      case hf467 => kernel_rfl
      case hr467 => kernel_rfl
      case hQ467 => exact fun _ _ _ h => h
      case hS467 => assumption
      case hy467 => (refine Or.inl ⟨by rfl, ?_⟩; intro w hSw; (try dsimp only at hSw); (first | obtain ⟨z0, z1, z2, z3, z4, z5⟩ := hSw | obtain ⟨z0, z1, z2, z3⟩ := hSw | obtain ⟨z0, z1, z2⟩ := hSw | obtain ⟨z0, z1⟩ := hSw | skip); go_simp; try with_reducible rfl)
      simp only [Act.put, List.setIfInBounds_toArray, List.set_cons_zero, List.set_cons_succ]
      refine wpAnyH_done (by kernel_rfl) ?_ _
      have hW8 := HW6.out.trans (hV8.mono hws6)
      have hO28 := own_keep HO26.out hV8 (Nat.le_refl _)
      have hO18 := own_mono (b' := w.heap.size) hO8 hws6
      clear hHeld hV7 hV8 hO7 hO8 hG7 hG8 HN0 HF0 HO16 HO26 HW6 Hrd6 hs0 hs7
      have HW8 := Lib.hid hW8
      clear hW8
      have HO28 := Lib.hid hO28
      clear hO28
      have HO18 := Lib.hid hO18
      clear hO18
      go_wp2_with fail
      go_roundw
      case rel => exact ⟨i + 1, 0 + i + (z - k), 0 + i + (z2 - k), _, _, A8, c8, A6, c6, by simp, by simp, by omega, by omega, by omega, HZ3, HZ4, HR2, HN2, HO18.out, HO28.out, HW8.out⟩
      case measure => simp [slenOf] <;> omega

end Go.Proofs.Ytnlagiopmkjmlaa
