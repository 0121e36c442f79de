/- Walks over slices.Delete at string and at impl.Link: what lies behind the cut moves up within the same row. -/
import Derived.Test.YtidmbeeadbedaaaMg14
import Derived.Test.YtidmbeeadbedaaaOpn
import Derived.ArgAppend
namespace Go.Proofs.Ytidmbeeadbedaaa
open Go.RowKit Go.Shelf

/-- A list written over from a place on. -/
def setL (xs : List Value) : Nat → List Value → List Value
  | _, [] => xs
  | o, v :: vs => setL (xs.set o v) (o + 1) vs
theorem setL_eq : ∀ (vs : List Value) (xs : List Value) (o : Nat), o + vs.length ≤ xs.length → setL xs o vs = xs.take o ++ vs ++ xs.drop (o + vs.length)
  | [], xs, o, h => by simp [setL]
  | v :: vs, xs, o, h => by
    rw [setL, setL_eq vs (xs.set o v) (o + 1) (by simp at h ⊢; omega)]
    have h1 : o < xs.length := by simp at h; omega
    have e1 : (xs.set o v).take (o + 1) = xs.take o ++ [v] := by
      rw [List.take_succ_eq_append_getElem (by simpa using h1), List.take_set_of_le (Nat.le_refl _), List.getElem_set_self]
    have e2 : (xs.set o v).drop (o + 1 + vs.length) = xs.drop (o + (v :: vs).length) := by
      rw [List.drop_set_of_lt (by omega), List.length_cons]
      congr 1
      omega
    rw [e1, e2]
    simp
theorem own_setL {base : Nat} {e : TypeId} {size g n cap : Nat} : ∀ (vs : List Value) (o : Nat) (w : World) (xs : List Value), w.ownsRow base e size (.slice (some ⟨g, 0, none⟩) n cap) n xs → (w.setCells g o vs).ownsRow base e size (.slice (some ⟨g, 0, none⟩) n cap) n (setL xs o vs) ∧ w.grownBy (w.setCells g o vs) (some g)
  | [], o, w, xs, h => ⟨h, grown_refl _ _⟩
  | v :: vs, o, w, xs, h => by
    have s := h.stored o v
    obtain ⟨h1, h3⟩ := own_setL vs (o + 1) _ _ s.1
    exact ⟨h1, grown_trans s.2 h3⟩
theorem wp_append_room {P : Program} {ops : Array Oper} {o : Oper} {a : Act} {K : Act → World → Prop} {Q : Exit → Act → World → Prop} {E : Prop} (w : World) (hgd : o.guard = none) (s x : Operand) (t : TypeId)
    (ho : o.op = .call { callee := .builtin .append, args := #[s, x], argTypes := #[t, t] }) (e size bytes : Nat) (z : Value) (ht : P.underlying t = some (.slice e))
    (hinfo : (P.info? e).map (fun i => (i.zero, i.size, i.bytes)) = some (some z, size, bytes)) (g n cap m c : Nat) (ad : Addr) (news : List Value)
    (hs : a.eval s = .slice (some ⟨g, 0, none⟩) n cap) (hx : a.eval x = .slice (some ad) m c) (hl : news.length = m * size) (hnews : ∀ j u, news[j]? = some u → w.cell? (ad.add j) = some u) (h1 : ∀ u ∈ news, u.oneCell' = true)
    (hroom : n + m ≤ cap) (hc : ∀ j, j < news.length → (w.cell? ⟨g, n * size + j, none⟩).isSome = true) (hf : ∀ j, j < news.length → w.frozen? ⟨g, n * size + j, none⟩ = false)
    (h : K (a.put o.dst (.slice (some ⟨g, 0, none⟩) (n + m) cap)) (w.setCells g (n * size) news)) :
    if Region.wanted o (yielded ops a.tmps) = true then Oper.wp P o a w K Q else E := by
  have hwn : Region.wanted o (yielded ops a.tmps) = true := by simp [Region.wanted, hgd]
  rw [if_pos hwn]
  obtain ⟨i, hi, hz0, hz1, hz2⟩ := info_parts hinfo
  subst hz1
  have hrun := run_append_room_cells (P := P) w t o.type e i ht hi g 0 n cap ad m c news hl hnews h1 hroom (by simpa using hc) (by simpa using hf)
  rw [Nat.zero_add] at hrun
  unfold Oper.wp
  simp [execOp, ho, resolve, invoke, builtin, hs, hx, hrun, Result.andThen]
  exact h


theorem zero_delStr (w : World) : (zeroValue 9).run Try.prog w = .ok (.string ⟨#[]⟩) w := by kernel_rfl
set_option maxRecDepth 100000 in
set_option maxHeartbeats 4000000 in
theorem deleteStr_any (A : Option Addr) (n c : Nat) (zs : List Value) (i k : Nat) (base : Nat) (w : World) (ho : w.ownsRow base 9 1 (.slice A n c) n zs) (hik : i ≤ k) (hkn : k ≤ n) (hb : n ≤ 1048576) (hzs : ∀ u ∈ zs, u.oneCell' = true) :
    Calls Try.prog 68 #[.slice A n c, .int .i64 (i : Int), .int .i64 (k : Int)] w (fun e w' => e = .returned (.slice A (n - (k - i)) c) ∧ w'.ownsRow base 9 1 (.slice A (n - (k - i)) c) (n - (k - i)) (zs.take (i * 1) ++ zs.drop (k * 1)) ∧ w.grownBy w' (Value.slice A n c).ownBlock) := by
  have hcap := own_cap ho
  obtain ⟨hc1, hc2⟩ := hcap
  unfold maxLen at hc2
  by_cases hk : i = k
  · subst hk
    have e1 : zs.take (i * 1) ++ zs.drop (i * 1) = zs := List.take_append_drop _ _
    have e2 : n - (i - i) = n := by omega
    rw [e1, e2]
    have hG := grown_refl w (Value.slice A n c).ownBlock
    have hin : (i : Int) ≤ (n : Int) := by omega
    have hi0 : (0 : Int) ≤ (i : Int) := by omega
    have hinc : i ≤ n := hkn
    have hincc : i ≤ c := by omega
    clear e1 e2
    by_cases hni : n = i
    · subst hni
      have Ho := Lib.hid ho
      clear ho
      have Hzs := Lib.hid hzs
      clear hzs
      have HG := Lib.hid hG
      clear hG
      go_enter Try.func68, Try.ntmps68
      go_wp2_with fail
      go_ret
      exact ⟨rfl, Ho.out, HG.out⟩
    · skip
      have Ho := Lib.hid ho
      clear ho
      have Hzs := Lib.hid hzs
      clear hzs
      have HG := Lib.hid hG
      clear hG
      go_enter Try.func68, Try.ntmps68
      go_wp2_with fail
      go_ret
      exact ⟨rfl, Ho.out, HG.out⟩
  have hlt : i < k := by omega
  obtain ⟨g, rfl, hbg, hgl⟩ := own_some ho (by omega)
  have hin : (i : Int) ≤ (n : Int) := by omega
  have hkn2 : (k : Int) ≤ (n : Int) := by omega
  have hiki : (i : Int) ≤ (k : Int) := by omega
  have hne : ((i : Int) == (k : Int)) = false := by simp; omega
  have hne2 : ¬ (i : Int) = (k : Int) := by omega
  have hic : i ≤ c := by omega
  have hkc : k ≤ c := by omega
  have hinc : i ≤ n := by omega
  obtain ⟨N, hN⟩ : ∃ N, N = n - (k - i) := ⟨_, rfl⟩
  rw [← hN]
  have hN2 : N = i + (n - k) := by omega
  have hNn : N < n := by omega
  have hNc : ¬ c = N := by omega
  have hcNn : N ≤ c := by omega
  have hci : ¬ c = i := by omega
  have hni : ¬ n = i := by omega
  have hzl : zs.length = n * 1 := ho.1
  have hod := own_drew1 ho
  have hnl : (zs.drop (k * 1)).length = (n - k) * 1 := by rw [List.length_drop, hzl, Nat.sub_mul]
  have hR := Rd.of_own hod
  obtain ⟨ad, had, hcells⟩ : ∃ ad : Addr, (if c = k then (some ⟨g, 0, none⟩ : Option Addr) else some ⟨g, k, none⟩) = some ad ∧ ∀ j u, (zs.drop (k * 1))[j]? = some u → w.drew.cell? (ad.add j) = some u := by
    by_cases hck : c = k
    · refine ⟨⟨g, 0, none⟩, by rw [if_pos hck], fun j u hu => ?_⟩
      have h0 : zs.drop (k * 1) = [] := List.eq_nil_of_length_eq_zero (by rw [hnl, show n - k = 0 by omega, Nat.zero_mul])
      rw [h0] at hu
      cases hu
    · refine ⟨⟨g, k, none⟩, by rw [if_neg hck], fun j u hu => ?_⟩
      rw [List.getElem?_drop] at hu
      rw [Addr.add_lit]
      have h := hod.cells (g := g) rfl _ _ hu
      rwa [Addr.add_lit, Nat.zero_add, Nat.mul_one] at h
  have hS := own_setL (zs.drop (k * 1)) (i * 1) w.drew zs hod
  rw [setL_eq _ _ _ (by rw [hnl, hzl, ← Nat.add_mul]; exact Nat.mul_le_mul_right _ (by omega))] at hS
  obtain ⟨W1, hW1⟩ : ∃ W, W = w.drew.setCells g (i * 1) (zs.drop (k * 1)) := ⟨_, rfl⟩
  rw [← hW1] at hS
  obtain ⟨hO1, hG1⟩ := hS
  obtain ⟨ys, hys⟩ : ∃ ys, ys = zs.take (i * 1) ++ zs.drop (k * 1) := ⟨_, rfl⟩
  have hyl : ys.length = N * 1 := by rw [hys, List.length_append, hnl, List.length_take, hzl, Nat.min_eq_left (Nat.mul_le_mul_right _ (by omega)), ← Nat.add_mul, hN2]
  rw [← hys] at hO1 ⊢
  have hcl : ∀ ty, (Builtin.clear_ #[29] ty #[.slice (some ⟨g, N, none⟩) (n - N) (c - N)]).run Try.prog W1 = .ok (.tuple #[]) (W1.setCells g (N) (Builtin.zeroCells (Value.string ⟨#[]⟩).cells (n - N)).toList) := fun ty =>
    run_clear_wide W1 _ _ ty _ 1 Try.underlying29 zero_delStr rfl (one_cell_str _) g (N) _ _ (by omega) (fun j hj => by
      obtain ⟨⟨y, hy⟩, _⟩ := own_cell hO1 (j := N + j) (by omega)
      rw [hy]; rfl) (fun j hj => (own_cell hO1 (j := N + j) (by omega)).2)
  obtain ⟨Z, hZ⟩ : ∃ Z, Z = (Builtin.zeroCells (Value.string ⟨#[]⟩).cells (n - N)).toList := ⟨_, rfl⟩
  rw [← hZ] at hcl
  have hO2 := own_setCells_short hO1 (i := N) (by omega) Z
  rw [List.take_left' hyl, Nat.mul_one] at hO2
  obtain ⟨hO3, hG3⟩ := hO2
  have hG0 : w.grownBy w.drew (Value.slice (some ⟨g, 0, none⟩) n c).ownBlock := ⟨rfl, rfl, rfl, Nat.le_refl _, fun _ _ _ => rfl⟩
  have hG9 : w.grownBy (W1.setCells g (N) Z) (Value.slice (some ⟨g, 0, none⟩) n c).ownBlock := grown_trans (grown_trans hG0 hG1) hG3
  have hdc : ∀ u ∈ zs.drop (k * 1), u.oneCell' = true := fun u hu => hzs u (List.mem_of_mem_drop hu)
  have hsp : ∀ j, j < (zs.drop (k * 1)).length → (w.drew.cell? ⟨g, i * 1 + j, none⟩).isSome = true ∧ w.drew.frozen? ⟨g, i * 1 + j, none⟩ = false := fun j hj => by
    rw [hnl] at hj
    have h8 : i * 1 + (n - k) * 1 ≤ n * 1 := by rw [← Nat.add_mul]; exact Nat.mul_le_mul_right _ (by omega)
    obtain ⟨⟨y, hy⟩, hy2⟩ := own_cell hod (j := i * 1 + j) (by omega)
    exact ⟨by rw [hy]; rfl, hy2⟩
  have hiN : i + (n - k) = N := hN2.symm
  clear hR hO1 hG1 hG3 hG0 hod
  have Ho := Lib.hid ho
  clear ho
  have Hzs := Lib.hid hzs
  clear hzs
  have Hys := Lib.hid hys
  clear hys
  have Hyl := Lib.hid hyl
  clear hyl
  have HO3 := Lib.hid hO3
  clear hO3
  have HG9 := Lib.hid hG9
  clear hG9
  have HZ := Lib.hid hZ
  clear hZ
  have Hcells := Lib.hid hcells
  clear hcells
  have Hdc := Lib.hid hdc
  clear hdc
  have Hsp := Lib.hid hsp
  clear hsp
  have Hzl := Lib.hid hzl
  clear hzl
  have HW1 := Lib.hid hW1
  clear hW1
  have Had := Lib.hid had
  clear had
  have HN := Lib.hid hN
  clear hN
  have HN2 := Lib.hid hN2
  clear hN2
  have HiN := Lib.hid hiN
  clear hiN
  go_enter Try.func68, Try.ntmps68
  go_wp2_with fail
  refine wp_region_held_drew (S := (fun _ => True)) (by kernel_rfl) (trivial) (fun hHeld => ?_)
  refine wpAnyH_take (i := 0) (oi := ?oi186) (v := ?val186) ?hi186 ?hs186 ?hf186 ?hr186 ?hQ186 ?hy186 ?hS186 ?hrest186
  case hi186 => (simp only [List.getElem?_toArray, List.getElem?_cons_succ, List.getElem?_cons_zero] <;> exact rfl)
  case hs186 => kernel_rfl
  case hf186 => kernel_rfl
  case hr186 => kernel_rfl
  case hQ186 => exact fun _ _ _ h => h
  case hS186 => assumption
  case hy186 => (refine Or.inl ⟨by rfl, ?_⟩; intro w hSw; (try dsimp only at hSw); go_simp; try with_reducible rfl)
  simp only [Act.put, List.setIfInBounds_toArray, List.set_cons_zero, List.set_cons_succ]
  refine wpAnyH_take (i := 1) (oi := ?oi195) (v := ?val195) ?hi195 ?hs195 ?hf195 ?hr195 ?hQ195 ?hy195 ?hS195 ?hrest195
  case hi195 => (simp only [List.getElem?_toArray, List.getElem?_cons_succ, List.getElem?_cons_zero] <;> exact rfl)
  case hs195 => kernel_rfl
  case hf195 => kernel_rfl
  case hr195 => kernel_rfl
  case hQ195 => exact fun _ _ _ h => h
  case hS195 => assumption
  case hy195 => (refine Or.inl ⟨by rfl, ?_⟩; intro w hSw; (try dsimp only at hSw); go_simp; try with_reducible rfl)
  simp only [Act.put, List.setIfInBounds_toArray, List.set_cons_zero, List.set_cons_succ]
  refine wpAnyH_take (i := 2) (oi := ?oi204) (v := ?val204) ?hi204 ?hs204 ?hf204 ?hr204 ?hQ204 ?hy204 ?hS204 ?hrest204
  case hi204 => (simp only [List.getElem?_toArray, List.getElem?_cons_succ, List.getElem?_cons_zero] <;> exact rfl)
  case hs204 => kernel_rfl
  case hf204 => kernel_rfl
  case hr204 => kernel_rfl
  case hQ204 => exact fun _ _ _ h => h
  case hS204 => assumption
  case hy204 => (refine Or.inl ⟨by rfl, ?_⟩; intro w hSw; (try dsimp only at hSw); go_simp; try with_reducible rfl)
  simp only [Act.put, List.setIfInBounds_toArray, List.set_cons_zero, List.set_cons_succ]
  refine wpAnyH_take (i := 3) (oi := ?oi213) (v := ?val213) ?hi213 ?hs213 ?hf213 ?hr213 ?hQ213 ?hy213 ?hS213 ?hrest213
  case hi213 => (simp only [List.getElem?_toArray, List.getElem?_cons_succ, List.getElem?_cons_zero] <;> exact rfl)
  case hs213 => kernel_rfl
  case hf213 => kernel_rfl
  case hr213 => kernel_rfl
  case hQ213 => exact fun _ _ _ h => h
  case hS213 => assumption
  case hy213 => (refine Or.inl ⟨by rfl, ?_⟩; intro w hSw; (try dsimp only at hSw); go_simp; try with_reducible rfl)
  simp only [Act.put, List.setIfInBounds_toArray, List.set_cons_zero, List.set_cons_succ]
  refine wpAnyH_take (i := 4) (oi := ?oi222) (v := ?val222) ?hi222 ?hs222 ?hf222 ?hr222 ?hQ222 ?hy222 ?hS222 ?hrest222
  case hi222 => (simp only [List.getElem?_toArray, List.getElem?_cons_succ, List.getElem?_cons_zero] <;> exact rfl)
  case hs222 => kernel_rfl
  case hf222 => kernel_rfl
  case hr222 => kernel_rfl
  case hQ222 => exact fun _ _ _ h => h
  case hS222 => assumption
  case hy222 => (refine Or.inl ⟨by rfl, ?_⟩; intro w hSw; (try dsimp only at hSw); go_simp; try with_reducible rfl)
  simp only [Act.put, List.setIfInBounds_toArray, List.set_cons_zero, List.set_cons_succ]
  refine wpAnyH_take (i := 5) (oi := ?oi231) (v := ?val231) ?hi231 ?hs231 ?hf231 ?hr231 ?hQ231 ?hy231 ?hS231 ?hrest231
  case hi231 => (simp only [List.getElem?_toArray, List.getElem?_cons_succ, List.getElem?_cons_zero] <;> exact rfl)
  case hs231 => kernel_rfl
  case hf231 => kernel_rfl
  case hr231 => kernel_rfl
  case hQ231 => exact fun _ _ _ h => h
  case hS231 => assumption
  case hy231 => (refine Or.inl ⟨by rfl, ?_⟩; intro w hSw; (try dsimp only at hSw); go_simp; try with_reducible rfl)
  simp only [Act.put, List.setIfInBounds_toArray, List.set_cons_zero, List.set_cons_succ]
  try rw [Had.out]
  refine wpAnyH_ready (rs := [6]) (by kernel_rfl) (by simp) ?_
  refine AllReadyH.cons rfl (fun K hK => ?_) AllReadyH.nil
  (refine wp_append_room _ rfl _ _ 29 rfl 9 1 16 _ Try.underlying29 info_str g i c (n - k) (c - k) ad (zs.drop (k * 1)) rfl rfl hnl Hcells.out Hdc.out (by omega) (fun j hj => (Hsp.out j hj).1) (fun j hj => (Hsp.out j hj).2) ?_)
  refine hK.out _ _ (trivial) (fun hHeld2 => ?_)
  clear hK K hHeld
  have hHeld := hHeld2
  clear hHeld2
  first | simp only [Act.put, List.setIfInBounds_toArray, List.set_cons_zero, List.set_cons_succ] | skip
  rw [← HW1.out, HiN.out]
  refine wpAnyH_take (i := 7) (oi := ?oi250) (v := ?val250) ?hi250 ?hs250 ?hf250 ?hr250 ?hQ250 ?hy250 ?hS250 ?hrest250
  case hi250 => (simp only [List.getElem?_toArray, List.getElem?_cons_succ, List.getElem?_cons_zero] <;> exact rfl)
  case hs250 => kernel_rfl
  case hf250 => kernel_rfl
  case hr250 => kernel_rfl
  case hQ250 => exact fun _ _ _ h => h
  case hS250 => assumption
  case hy250 => (refine Or.inl ⟨by rfl, ?_⟩; intro w hSw; (try dsimp only at hSw); go_simp; try with_reducible rfl)
  simp only [Act.put, List.setIfInBounds_toArray, List.set_cons_zero, List.set_cons_succ]
  refine wpAnyH_done (by kernel_rfl) ?_ _
  clear hHeld
  go_wp2_with fail
  go_ret
  exact ⟨rfl, HO3.out, HG9.out⟩

theorem zero_delLink (w : World) : (zeroValue 95).run Try.prog w = .ok (.agg #[.int .i64 0, .int .i64 0, .bool false]) w := by kernel_rfl
set_option maxRecDepth 100000 in
set_option maxHeartbeats 4000000 in
theorem deleteLink_any (A : Option Addr) (n c : Nat) (zs : List Value) (i k : Nat) (base : Nat) (w : World) (ho : w.ownsRow base 95 3 (.slice A n c) n zs) (hik : i ≤ k) (hkn : k ≤ n) (hb : n ≤ 1048576) (hzs : ∀ u ∈ zs, u.oneCell' = true) :
    Calls Try.prog 69 #[.slice A n c, .int .i64 (i : Int), .int .i64 (k : Int)] w (fun e w' => e = .returned (.slice A (n - (k - i)) c) ∧ w'.ownsRow base 95 3 (.slice A (n - (k - i)) c) (n - (k - i)) (zs.take (i * 3) ++ zs.drop (k * 3)) ∧ w.grownBy w' (Value.slice A n c).ownBlock) := by
  have hcap := own_cap ho
  obtain ⟨hc1, hc2⟩ := hcap
  unfold maxLen at hc2
  by_cases hk : i = k
  · subst hk
    have e1 : zs.take (i * 3) ++ zs.drop (i * 3) = zs := List.take_append_drop _ _
    have e2 : n - (i - i) = n := by omega
    rw [e1, e2]
    have hG := grown_refl w (Value.slice A n c).ownBlock
    have hin : (i : Int) ≤ (n : Int) := by omega
    have hi0 : (0 : Int) ≤ (i : Int) := by omega
    have hinc : i ≤ n := hkn
    have hincc : i ≤ c := by omega
    clear e1 e2
    by_cases hni : n = i
    · subst hni
      have Ho := Lib.hid ho
      clear ho
      have Hzs := Lib.hid hzs
      clear hzs
      have HG := Lib.hid hG
      clear hG
      go_enter Try.func69, Try.ntmps69
      go_wp2_with fail
      go_ret
      exact ⟨rfl, Ho.out, HG.out⟩
    · skip
      have Ho := Lib.hid ho
      clear ho
      have Hzs := Lib.hid hzs
      clear hzs
      have HG := Lib.hid hG
      clear hG
      go_enter Try.func69, Try.ntmps69
      go_wp2_with fail
      go_ret
      exact ⟨rfl, Ho.out, HG.out⟩
  have hlt : i < k := by omega
  obtain ⟨g, rfl, hbg, hgl⟩ := own_some ho (by omega)
  have hin : (i : Int) ≤ (n : Int) := by omega
  have hkn2 : (k : Int) ≤ (n : Int) := by omega
  have hiki : (i : Int) ≤ (k : Int) := by omega
  have hne : ((i : Int) == (k : Int)) = false := by simp; omega
  have hne2 : ¬ (i : Int) = (k : Int) := by omega
  have hic : i ≤ c := by omega
  have hkc : k ≤ c := by omega
  have hinc : i ≤ n := by omega
  obtain ⟨N, hN⟩ : ∃ N, N = n - (k - i) := ⟨_, rfl⟩
  rw [← hN]
  have hN2 : N = i + (n - k) := by omega
  have hNn : N < n := by omega
  have hNc : ¬ c = N := by omega
  have hcNn : N ≤ c := by omega
  have hci : ¬ c = i := by omega
  have hni : ¬ n = i := by omega
  have hzl : zs.length = n * 3 := ho.1
  have hod := own_drew1 ho
  have hnl : (zs.drop (k * 3)).length = (n - k) * 3 := by rw [List.length_drop, hzl, Nat.sub_mul]
  have hR := Rd.of_own hod
  obtain ⟨ad, had, hcells⟩ : ∃ ad : Addr, (if c = k then (some ⟨g, 0, none⟩ : Option Addr) else some ⟨g, k * 3, none⟩) = some ad ∧ ∀ j u, (zs.drop (k * 3))[j]? = some u → w.drew.cell? (ad.add j) = some u := by
    by_cases hck : c = k
    · refine ⟨⟨g, 0, none⟩, by rw [if_pos hck], fun j u hu => ?_⟩
      have h0 : zs.drop (k * 3) = [] := List.eq_nil_of_length_eq_zero (by rw [hnl, show n - k = 0 by omega, Nat.zero_mul])
      rw [h0] at hu
      cases hu
    · refine ⟨⟨g, k * 3, none⟩, by rw [if_neg hck], fun j u hu => ?_⟩
      rw [List.getElem?_drop] at hu
      rw [Addr.add_lit]
      have h := hod.cells (g := g) rfl _ _ hu
      rwa [Addr.add_lit, Nat.zero_add] at h
  have hS := own_setL (zs.drop (k * 3)) (i * 3) w.drew zs hod
  rw [setL_eq _ _ _ (by rw [hnl, hzl, ← Nat.add_mul]; exact Nat.mul_le_mul_right _ (by omega))] at hS
  obtain ⟨W1, hW1⟩ : ∃ W, W = w.drew.setCells g (i * 3) (zs.drop (k * 3)) := ⟨_, rfl⟩
  rw [← hW1] at hS
  obtain ⟨hO1, hG1⟩ := hS
  obtain ⟨ys, hys⟩ : ∃ ys, ys = zs.take (i * 3) ++ zs.drop (k * 3) := ⟨_, rfl⟩
  have hyl : ys.length = N * 3 := by rw [hys, List.length_append, hnl, List.length_take, hzl, Nat.min_eq_left (Nat.mul_le_mul_right _ (by omega)), ← Nat.add_mul, hN2]
  rw [← hys] at hO1 ⊢
  have hcl : ∀ ty, (Builtin.clear_ #[26] ty #[.slice (some ⟨g, N * 3, none⟩) (n - N) (c - N)]).run Try.prog W1 = .ok (.tuple #[]) (W1.setCells g (N * 3) (Builtin.zeroCells (Value.agg #[.int .i64 0, .int .i64 0, .bool false]).cells (n - N)).toList) := fun ty =>
    run_clear_wide W1 _ _ ty _ 3 Try.underlying26 zero_delLink rfl (one_cell_link1 _ _ _) g (N * 3) _ _ (by omega) (fun j hj => by
      obtain ⟨⟨y, hy⟩, _⟩ := own_cell hO1 (j := N * 3 + j) (by omega)
      rw [hy]; rfl) (fun j hj => (own_cell hO1 (j := N * 3 + j) (by omega)).2)
  obtain ⟨Z, hZ⟩ : ∃ Z, Z = (Builtin.zeroCells (Value.agg #[.int .i64 0, .int .i64 0, .bool false]).cells (n - N)).toList := ⟨_, rfl⟩
  rw [← hZ] at hcl
  have hO2 := own_setCells_short hO1 (i := N) (by omega) Z
  rw [List.take_left' hyl] at hO2
  obtain ⟨hO3, hG3⟩ := hO2
  have hG0 : w.grownBy w.drew (Value.slice (some ⟨g, 0, none⟩) n c).ownBlock := ⟨rfl, rfl, rfl, Nat.le_refl _, fun _ _ _ => rfl⟩
  have hG9 : w.grownBy (W1.setCells g (N * 3) Z) (Value.slice (some ⟨g, 0, none⟩) n c).ownBlock := grown_trans (grown_trans hG0 hG1) hG3
  have hdc : ∀ u ∈ zs.drop (k * 3), u.oneCell' = true := fun u hu => hzs u (List.mem_of_mem_drop hu)
  have hsp : ∀ j, j < (zs.drop (k * 3)).length → (w.drew.cell? ⟨g, i * 3 + j, none⟩).isSome = true ∧ w.drew.frozen? ⟨g, i * 3 + j, none⟩ = false := fun j hj => by
    rw [hnl] at hj
    have h8 : i * 3 + (n - k) * 3 ≤ n * 3 := by rw [← Nat.add_mul]; exact Nat.mul_le_mul_right _ (by omega)
    obtain ⟨⟨y, hy⟩, hy2⟩ := own_cell hod (j := i * 3 + j) (by omega)
    exact ⟨by rw [hy]; rfl, hy2⟩
  have hiN : i + (n - k) = N := hN2.symm
  clear hR hO1 hG1 hG3 hG0 hod
  have Ho := Lib.hid ho
  clear ho
  have Hzs := Lib.hid hzs
  clear hzs
  have Hys := Lib.hid hys
  clear hys
  have Hyl := Lib.hid hyl
  clear hyl
  have HO3 := Lib.hid hO3
  clear hO3
  have HG9 := Lib.hid hG9
  clear hG9
  have HZ := Lib.hid hZ
  clear hZ
  have Hcells := Lib.hid hcells
  clear hcells
  have Hdc := Lib.hid hdc
  clear hdc
  have Hsp := Lib.hid hsp
  clear hsp
  have Hzl := Lib.hid hzl
  clear hzl
  have HW1 := Lib.hid hW1
  clear hW1
  have Had := Lib.hid had
  clear had
  have HN := Lib.hid hN
  clear hN
  have HN2 := Lib.hid hN2
  clear hN2
  have HiN := Lib.hid hiN
  clear hiN
  go_enter Try.func69, Try.ntmps69
  go_wp2_with fail
  refine wp_region_held_drew (S := (fun _ => True)) (by kernel_rfl) (trivial) (fun hHeld => ?_)
  refine wpAnyH_take (i := 0) (oi := ?oi402) (v := ?val402) ?hi402 ?hs402 ?hf402 ?hr402 ?hQ402 ?hy402 ?hS402 ?hrest402
  case hi402 => (simp only [List.getElem?_toArray, List.getElem?_cons_succ, List.getElem?_cons_zero] <;> exact rfl)
  case hs402 => kernel_rfl
  case hf402 => kernel_rfl
  case hr402 => kernel_rfl
  case hQ402 => exact fun _ _ _ h => h
  case hS402 => assumption
  case hy402 => (refine Or.inl ⟨by rfl, ?_⟩; intro w hSw; (try dsimp only at hSw); go_simp; try with_reducible rfl)
  simp only [Act.put, List.setIfInBounds_toArray, List.set_cons_zero, List.set_cons_succ]
  refine wpAnyH_take (i := 1) (oi := ?oi411) (v := ?val411) ?hi411 ?hs411 ?hf411 ?hr411 ?hQ411 ?hy411 ?hS411 ?hrest411
  case hi411 => (simp only [List.getElem?_toArray, List.getElem?_cons_succ, List.getElem?_cons_zero] <;> exact rfl)
  case hs411 => kernel_rfl
  case hf411 => kernel_rfl
  case hr411 => kernel_rfl
  case hQ411 => exact fun _ _ _ h => h
  case hS411 => assumption
  case hy411 => (refine Or.inl ⟨by rfl, ?_⟩; intro w hSw; (try dsimp only at hSw); go_simp; try with_reducible rfl)
  simp only [Act.put, List.setIfInBounds_toArray, List.set_cons_zero, List.set_cons_succ]
  refine wpAnyH_take (i := 2) (oi := ?oi420) (v := ?val420) ?hi420 ?hs420 ?hf420 ?hr420 ?hQ420 ?hy420 ?hS420 ?hrest420
  case hi420 => (simp only [List.getElem?_toArray, List.getElem?_cons_succ, List.getElem?_cons_zero] <;> exact rfl)
  case hs420 => kernel_rfl
  case hf420 => kernel_rfl
  case hr420 => kernel_rfl
  case hQ420 => exact fun _ _ _ h => h
  case hS420 => assumption
  case hy420 => (refine Or.inl ⟨by rfl, ?_⟩; intro w hSw; (try dsimp only at hSw); go_simp; try with_reducible rfl)
  simp only [Act.put, List.setIfInBounds_toArray, List.set_cons_zero, List.set_cons_succ]
  refine wpAnyH_take (i := 3) (oi := ?oi429) (v := ?val429) ?hi429 ?hs429 ?hf429 ?hr429 ?hQ429 ?hy429 ?hS429 ?hrest429
  case hi429 => (simp only [List.getElem?_toArray, List.getElem?_cons_succ, List.getElem?_cons_zero] <;> exact rfl)
  case hs429 => kernel_rfl
  case hf429 => kernel_rfl
  case hr429 => kernel_rfl
  case hQ429 => exact fun _ _ _ h => h
  case hS429 => assumption
  case hy429 => (refine Or.inl ⟨by rfl, ?_⟩; intro w hSw; (try dsimp only at hSw); go_simp; try with_reducible rfl)
  simp only [Act.put, List.setIfInBounds_toArray, List.set_cons_zero, List.set_cons_succ]
  refine wpAnyH_take (i := 4) (oi := ?oi438) (v := ?val438) ?hi438 ?hs438 ?hf438 ?hr438 ?hQ438 ?hy438 ?hS438 ?hrest438
  case hi438 => (simp only [List.getElem?_toArray, List.getElem?_cons_succ, List.getElem?_cons_zero] <;> exact rfl)
  case hs438 => kernel_rfl
  case hf438 => kernel_rfl
  case hr438 => kernel_rfl
  case hQ438 => exact fun _ _ _ h => h
  case hS438 => assumption
  case hy438 => (refine Or.inl ⟨by rfl, ?_⟩; intro w hSw; (try dsimp only at hSw); go_simp; try with_reducible rfl)
  simp only [Act.put, List.setIfInBounds_toArray, List.set_cons_zero, List.set_cons_succ]
  refine wpAnyH_take (i := 5) (oi := ?oi447) (v := ?val447) ?hi447 ?hs447 ?hf447 ?hr447 ?hQ447 ?hy447 ?hS447 ?hrest447
  case hi447 => (simp only [List.getElem?_toArray, List.getElem?_cons_succ, List.getElem?_cons_zero] <;> exact rfl)
  case hs447 => kernel_rfl
  case hf447 => kernel_rfl
  case hr447 => kernel_rfl
  case hQ447 => exact fun _ _ _ h => h
  case hS447 => assumption
  case hy447 => (refine Or.inl ⟨by rfl, ?_⟩; intro w hSw; (try dsimp only at hSw); go_simp; try with_reducible rfl)
  simp only [Act.put, List.setIfInBounds_toArray, List.set_cons_zero, List.set_cons_succ]
  try rw [Had.out]
  refine wpAnyH_ready (rs := [6]) (by kernel_rfl) (by simp) ?_
  refine AllReadyH.cons rfl (fun K hK => ?_) AllReadyH.nil
  (refine wp_append_room _ rfl _ _ 26 rfl 95 3 24 _ Try.underlying26 info_Link g i c (n - k) (c - k) ad (zs.drop (k * 3)) rfl rfl hnl Hcells.out Hdc.out (by omega) (fun j hj => (Hsp.out j hj).1) (fun j hj => (Hsp.out j hj).2) ?_)
  refine hK.out _ _ (trivial) (fun hHeld2 => ?_)
  clear hK K hHeld
  have hHeld := hHeld2
  clear hHeld2
  first | simp only [Act.put, List.setIfInBounds_toArray, List.set_cons_zero, List.set_cons_succ] | skip
  rw [← HW1.out, HiN.out]
  refine wpAnyH_take (i := 7) (oi := ?oi466) (v := ?val466) ?hi466 ?hs466 ?hf466 ?hr466 ?hQ466 ?hy466 ?hS466 ?hrest466
  case hi466 => (simp only [List.getElem?_toArray, List.getElem?_cons_succ, List.getElem?_cons_zero] <;> exact rfl)
  case hs466 => kernel_rfl
  case hf466 => kernel_rfl
  case hr466 => kernel_rfl
  case hQ466 => exact fun _ _ _ h => h
  case hS466 => assumption
  case hy466 => (refine Or.inl ⟨by rfl, ?_⟩; intro w hSw; (try dsimp only at hSw); go_simp; try with_reducible rfl)
  simp only [Act.put, List.setIfInBounds_toArray, List.set_cons_zero, List.set_cons_succ]
  refine wpAnyH_done (by kernel_rfl) ?_ _
  clear hHeld
  go_wp2_with fail
  go_ret
  exact ⟨rfl, HO3.out, HG9.out⟩

end Go.Proofs.Ytidmbeeadbedaaa
