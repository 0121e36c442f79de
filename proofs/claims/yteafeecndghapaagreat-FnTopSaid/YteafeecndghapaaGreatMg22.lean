/- Merged texts: a claim has a limit of files. -/
import Derived.Test.YteafeecndghapaaGreatApR
import Derived.ArgAppend
import Derived.Test.YteafeecndghapaaGreatPrq

/- A row of the call's own that begins at an offset (queue[1:]), elements of any size, and append onto it. -/
namespace Go.Proofs.YteafeecndghapaaGreat
open Go.RowKit Go.Shelf

def OwnM (w : World) (g base off : Nat) (t : TypeId) (m n : Nat) (xs : List Value) (c : Nat) : Prop :=
  base ≤ g ∧ n ≤ c ∧ c ≤ maxLen ∧ xs.length = n * m ∧ ∃ cur, Bk w g t cur ∧ off + c * m ≤ cur.size ∧ ∀ j, j < n * m → cur[off + j]? = xs[j]?
section
variable {w w' : World} {g base off : Nat} {t : TypeId} {m n : Nat} {xs : List Value} {c : Nat}
theorem OwnM.lt (h : OwnM w g base off t m n xs c) : g < w.heap.size := by
  obtain ⟨_, _, _, _, cur, hb, _⟩ := h
  exact hb.lt
theorem OwnM.of_own (h : w.ownsRow base t m (.slice (some ⟨g, 0, none⟩) n c) n xs) : OwnM w g base 0 t m n xs c := by
  rcases h.2 with ⟨h1, _⟩ | ⟨g', cap, cur, h1, hb, hh, hc, hm, hs, hx⟩
  · cases h1
  · injection h1 with h1 h2 h3
    injection h1 with h1
    injection h1 with h1
    subst h1 h3
    refine ⟨hb, hc, hm, h.1, cur, hh, by rw [hs]; omega, fun j hj => ?_⟩
    rw [← hx, Nat.zero_add, List.getElem?_take_of_lt (by omega), Array.getElem?_toList]
theorem OwnM.cell (h : OwnM w g base off t m n xs c) {j : Nat} {u : Value} (hu : xs[j]? = some u) : w.cell? ⟨g, off + j, none⟩ = some u := by
  obtain ⟨_, _, _, hl, cur, hb, _, hc⟩ := h
  have hj : j < n * m := by rw [← hl]; exact (List.getElem?_eq_some_iff.1 hu).1
  rw [hb.cell, hc j hj, hu]
theorem OwnM.rd (h : OwnM w g base off t m n xs c) : Rd w (some ⟨g, off, none⟩) xs := fun _ => ⟨g, off, rfl, h.lt, fun _ _ hu => h.cell hu⟩
/-- The row without its first element: where it lies is told by the length alone. -/
theorem OwnM.cut (h : OwnM w g base 0 t m (n + 1) xs c) : ∃ off', (if c = 1 then (some ⟨g, 0, none⟩ : Option Addr) else some ⟨g, m, none⟩) = some ⟨g, off', none⟩ ∧ OwnM w g base off' t m n (xs.drop m) (c - 1) := by
  obtain ⟨hb, h1, h2, h3, cur, hk, hs, hc⟩ := h
  have e1 : (n + 1) * m = n * m + m := Nat.succ_mul n m
  have hl : (xs.drop m).length = n * m := by rw [List.length_drop, h3, e1]; omega
  by_cases hc1 : c = 1
  · subst hc1
    have hn : n = 0 := by omega
    subst hn
    exact ⟨0, if_pos rfl, hb, Nat.le_refl _, by omega, hl, cur, hk, by omega, fun j hj => absurd hj (by omega)⟩
  · refine ⟨m, if_neg hc1, hb, by omega, by omega, hl, cur, hk, ?_, fun j hj => ?_⟩
    · have e2 : (c - 1) * m + m = c * m := by rw [← Nat.succ_mul]; congr 1; omega
      omega
    · have := hc (m + j) (by omega)
      rw [List.getElem?_drop, ← this]
      congr 1
      omega
theorem OwnM.below (h : OwnM w g base off t m n xs c) (hb : Below w.heap.size w w') : OwnM w' g base off t m n xs c := by
  obtain ⟨h0, h1, h2, h3, cur, hk, r⟩ := h
  exact ⟨h0, h1, h2, h3, cur, hk.below hb hk.lt, r⟩
theorem OwnM.far (h : OwnM w g base off t m n xs c) {p : Addr} (hp : g ≠ p.block) (u : Value) : OwnM (w.setCell p u) g base off t m n xs c := by
  obtain ⟨h0, h1, h2, h3, cur, hk, r⟩ := h
  exact ⟨h0, h1, h2, h3, cur, hk.far hp u, r⟩
theorem OwnM.grown (h : OwnM w g base off t m n xs c) {row : Option Nat} (hg : w.grownBy w' row) (hne : some g ≠ row) : OwnM w' g base off t m n xs c := by
  obtain ⟨h0, h1, h2, h3, cur, hk, r⟩ := h
  exact ⟨h0, h1, h2, h3, cur, hk.grown hg hne, r⟩
end
theorem bk_puts {g : Nat} {t : TypeId} : ∀ (vs : List Value) (o : Nat) (w : World) (cur : Array Value), Bk w g t cur → o + vs.length ≤ cur.size →
    ∃ cur', Bk (w.setCells g o vs) g t cur' ∧ cur'.size = cur.size ∧ (∀ j, j < o → cur'[j]? = cur[j]?) ∧ (∀ j, j < vs.length → cur'[o + j]? = vs[j]?) ∧ w.grownBy (w.setCells g o vs) (some g)
  | [], o, w, cur, h, _ => ⟨cur, h, rfl, fun _ _ => rfl, fun j hj => absurd hj (Nat.not_lt_zero _), ⟨rfl, rfl, rfl, Nat.le_refl _, fun _ _ _ => rfl⟩⟩
  | v :: r, o, w, cur, h, hs => by
    have hs' : o + (r.length + 1) ≤ cur.size := by simpa using hs
    obtain ⟨cur', h1, h2, h3, h4, h5⟩ := bk_puts r (o + 1) (w.setCell ⟨g, o, none⟩ v) _ (h.put o v) (by simp; omega)
    refine ⟨cur', h1, by simpa using h2, fun j hj => ?_, fun j hj => ?_, ?_⟩
    · rw [h3 j (by omega), Array.getElem?_setIfInBounds, if_neg (by omega)]
    · cases j with
      | zero =>
        rw [Nat.add_zero, h3 o (by omega), Array.getElem?_setIfInBounds, if_pos rfl, if_pos (by omega)]
        rfl
      | succ j =>
        have := h4 j (by simpa using hj)
        rw [List.getElem?_cons_succ, ← this]
        congr 1
        omega
    · have hg : w.grownBy (w.setCell ⟨g, o, none⟩ v) (some g) := ⟨rfl, rfl, rfl, by simp, fun k hk2 hne => Below.heap_setCell _ _ _ _ (fun e2 => hne (by rw [e2]))⟩
      exact hg.trans h5
theorem run_append_M {P : Program} (w : World) {t ty e : TypeId} (i : TypeInfo) (z : Value) {m bytes : Nat} (ht : P.underlying t = some (.slice e)) (hi : P.info? e = some i) (hz : i.zero = some z) (hsize : i.size = m) (hby : i.bytes = bytes) (hzs : z.cells.size = m) (hm0 : 0 < m)
    {g base off n : Nat} {xs : List Value} {c : Nat} (h : OwnM w g base off e m n xs c) {A : Option Addr} {k d : Nat} {news : List Value} (hl : news.length = k * m) (hr : Rd w A news) (h1 : ∀ u ∈ news, u.oneCell' = true)
    (b1 : n + k ≤ maxLen) (b2 : (n + k) * bytes ≤ 140737488355328) (hbase : base ≤ w.heap.size) :
    ∃ g' off' c' w', (Builtin.append_ #[t, t] ty #[.slice (some ⟨g, off, none⟩) n c, .slice A k d]).run P w = .ok (.slice (some ⟨g', off', none⟩) (n + k) c') w' ∧ OwnM w' g' base off' e m (n + k) (xs ++ news) c' ∧ w.grownBy w' (some g) ∧ (g' = g ∨ w.heap.size ≤ g') := by
  have hO := h
  obtain ⟨hb, hnc, hcm, hlx, cur, hk, hcs, hcc⟩ := h
  cases A with
  | none =>
    have hnews := rd_none hr
    subst hnews
    have hk0 : k = 0 := by
      rcases Nat.eq_zero_or_pos k with h | h
      · exact h
      · have := Nat.mul_pos h hm0
        simp at hl
        omega
    subst hk0
    refine ⟨g, off, c, w, ?_, by simpa using hO, ⟨rfl, rfl, rfl, Nat.le_refl _, fun _ _ _ => rfl⟩, .inl rfl⟩
    simp [Builtin.append_, run_underlying ht, sizeOf, typeInfo, hi, Builtin.lenOf, Builtin.firstCells, storeCells, hnc]
  | some ad =>
    by_cases hroom : n + k ≤ c
    · have e1 : (n + k) * m ≤ c * m := Nat.mul_le_mul_right m hroom
      have e2 : (n + k) * m = n * m + k * m := Nat.add_mul n k m
      have hsp : ∀ j, j < news.length → (w.cell? ⟨g, off + n * m + j, none⟩).isSome = true := fun j hj => by
        rw [hk.cell, Array.getElem?_eq_getElem (by omega)]; rfl
      have hrun := run_append_room_cells (P := P) w t ty e i ht hi g off n c ad k d news (by rw [hl, hsize]) (rd_at hr) h1 hroom (fun j hj => by rw [hsize]; exact hsp j hj) (fun j hj => by rw [hsize]; exact hk.free _)
      rw [hsize] at hrun
      obtain ⟨cur', q1, q2, q3, q4, q5⟩ := bk_puts news (off + n * m) w cur hk (by omega)
      refine ⟨g, off, c, _, hrun, ⟨hb, hroom, hcm, by rw [List.length_append, hlx, hl, e2], cur', q1, by rw [q2]; exact hcs, fun j hj => ?_⟩, q5, .inl rfl⟩
      by_cases hj2 : j < n * m
      · rw [q3 _ (by omega), hcc j hj2, List.getElem?_append_left (by omega)]
      · have := q4 (j - n * m) (by omega)
        rw [List.getElem?_append_right (by omega), hlx, ← this]
        congr 1
        omega
    · obtain ⟨v', w', hrun, r1, r2⟩ := run_append_arg_grows (P := P) w t ty e i z m bytes ht hi hz hsize hby hzs hm0 ⟨g, off, none⟩ n c xs hlx (fun j u hj => by rw [Addr.add_lit]; exact hO.cell hj) ad k d news hl (rd_at hr) (by omega) b1 b2
      obtain ⟨g', c', rfl, hg1, hg2⟩ := r1.form (by omega)
      obtain ⟨q0, q1, q2, q3, q4⟩ := OwnM.of_own r1
      exact ⟨g', 0, c', w', hrun, ⟨by omega, q1, q2, q3, q4⟩, ⟨r2.os, r2.tape, r2.output, r2.size, fun k hk2 _ => r2.block k hk2 (by simp)⟩, .inr q0⟩
theorem wp_append_M {P : Program} {o : Oper} {a : Act} {K : Act → World → Prop} {Q : Exit → Act → World → Prop} (w : World) (s x : Operand) (t : TypeId)
    (ho : o.op = .call { callee := .builtin .append, args := #[s, x], argTypes := #[t, t] }) (base e m bytes : Nat) (z : Value) (ht : P.underlying t = some (.slice e))
    (hinfo : (P.info? e).map (fun i => (i.zero, i.size, i.bytes)) = some (some z, m, bytes)) (hzs : z.cells.size = m) (hm0 : 0 < m) (g off n : Nat) (xs : List Value) (c : Nat) (hs : a.eval s = .slice (some ⟨g, off, none⟩) n c) (hown : OwnM w g base off e m n xs c)
    (A : Option Addr) (k d : Nat) (news : List Value) (hx : a.eval x = .slice A k d) (hl : news.length = k * m) (hr : Rd w A news) (h1 : ∀ u ∈ news, u.oneCell' = true)
    (h63 : n + k ≤ maxLen) (hbytes : (n + k) * bytes ≤ 140737488355328) (hbase : base ≤ w.heap.size)
    (h : ∀ g' off' c' w', OwnM w' g' base off' e m (n + k) (xs ++ news) c' → w.grownBy w' (some g) → (g' = g ∨ w.heap.size ≤ g') → K (a.put o.dst (.slice (some ⟨g', off', none⟩) (n + k) c')) w') : o.wp P a w K Q := by
  obtain ⟨i0, hi, hz0, hz1, hz2⟩ := info_parts hinfo
  obtain ⟨g', off', c', w', hrun, q1, q2, q3⟩ := run_append_M (P := P) w (ty := o.type) i0 z ht hi hz0 hz1 hz2 hzs hm0 hown hl hr h1 h63 hbytes hbase (d := d)
  unfold Oper.wp execOp
  simp only [ho, resolve, invoke, builtin, Sem.run_bind, Sem.run_pure, Result.andThen_ok, List.map_toArray, List.map_cons, List.map_nil, hs, hx, hrun]
  exact h g' off' c' w' q1 q2 q3
theorem step_append_M {P : Program} {ops : Array Oper} {o : Oper} {a : Act} {K : Act → World → Prop} {Q : Exit → Act → World → Prop} {E : Prop} (w : World) (hgd : o.guard = none) (s x : Operand) (t : TypeId)
    (ho : o.op = .call { callee := .builtin .append, args := #[s, x], argTypes := #[t, t] }) (base e m bytes : Nat) (z : Value) (ht : P.underlying t = some (.slice e))
    (hinfo : (P.info? e).map (fun i => (i.zero, i.size, i.bytes)) = some (some z, m, bytes)) (hzs : z.cells.size = m) (hm0 : 0 < m) (g off n : Nat) (xs : List Value) (c : Nat) (hs : a.eval s = .slice (some ⟨g, off, none⟩) n c) (hown : OwnM w g base off e m n xs c)
    (A : Option Addr) (k d : Nat) (news : List Value) (hx : a.eval x = .slice A k d) (hl : news.length = k * m) (hr : Rd w A news) (h1 : ∀ u ∈ news, u.oneCell' = true)
    (h63 : n + k ≤ maxLen) (hbytes : (n + k) * bytes ≤ 140737488355328) (hbase : base ≤ w.heap.size)
    (h : ∀ g' off' c' w', OwnM w' g' base off' e m (n + k) (xs ++ news) c' → w.grownBy w' (some g) → (g' = g ∨ w.heap.size ≤ g') → K (a.put o.dst (.slice (some ⟨g', off', none⟩) (n + k) c')) w') :
    if Region.wanted o (yielded ops a.tmps) = true then Oper.wp P o a w K Q else E := by
  have hwn : Region.wanted o (yielded ops a.tmps) = true := by simp [Region.wanted, hgd]
  rw [if_pos hwn]
  exact wp_append_M w s x t ho base e m bytes z ht hinfo hzs hm0 g off n xs c hs hown A k d news hx hl hr h1 h63 hbytes hbase h
theorem wpList_append_M {P : Program} {ops : Array Oper} {rest : List Oper} {o : Oper} {a : Act} {Q : Exit → Act → World → Prop} (w : World) (hgd : o.guard = none) (s x : Operand) (t : TypeId)
    (ho : o.op = .call { callee := .builtin .append, args := #[s, x], argTypes := #[t, t] }) (base e m bytes : Nat) (z : Value) (ht : P.underlying t = some (.slice e))
    (hinfo : (P.info? e).map (fun i => (i.zero, i.size, i.bytes)) = some (some z, m, bytes)) (hzs : z.cells.size = m) (hm0 : 0 < m) (g off n : Nat) (xs : List Value) (c : Nat) (hs : a.eval s = .slice (some ⟨g, off, none⟩) n c) (hown : OwnM w g base off e m n xs c)
    (A : Option Addr) (k d : Nat) (news : List Value) (hx : a.eval x = .slice A k d) (hl : news.length = k * m) (hr : Rd w A news) (h1 : ∀ u ∈ news, u.oneCell' = true)
    (h63 : n + k ≤ maxLen) (hbytes : (n + k) * bytes ≤ 140737488355328) (hbase : base ≤ w.heap.size)
    (h : ∀ g' off' c' w', OwnM w' g' base off' e m (n + k) (xs ++ news) c' → w.grownBy w' (some g) → (g' = g ∨ w.heap.size ≤ g') → wpList P ops Q rest (a.put o.dst (.slice (some ⟨g', off', none⟩) (n + k) c')) w') : wpList P ops Q (o :: rest) a w :=
  wpList_plain hgd fun _ hK => wp_append_M w s x t ho base e m bytes z ht hinfo hzs hm0 g off n xs c hs hown A k d news hx hl hr h1 h63 hbytes hbase fun g' off' c' w' h2 h3 h4 => hK _ _ (h g' off' c' w' h2 h3 h4)
end Go.Proofs.YteafeecndghapaaGreat

/- Where a turn of the completion stands, and what it computes in plain words. No walk. -/
namespace Go.Proofs.YteafeecndghapaaGreat
open Go.RowKit Go.Shelf

/-- Where a turn stands: its boxes, the copy and its rows. -/
structure TrSt (w y : World) (base ob : Nat) (box zer : Array Value) (l : Int) (A : Option Addr) (n c : Nat) (rs : List RuleT) (Q : Option Addr) (q d : Nat) (qs : List RuleT) (t : Int) : Prop where
  T : TwoB w y 86 86 box zer
  bo : Bk y ob 86 #[.int .i64 l, .slice A n c, .slice Q q d, .int .i64 t]
  oA : y.ownsRow base 68 2 (.slice A n c) n (cellsRule rs)
  oQ : y.ownsRow base 68 2 (.slice Q q d) q (cellsRule qs)
theorem TrSt.below {w y y' : World} {base ob : Nat} {box zer : Array Value} {l : Int} {A : Option Addr} {n c : Nat} {rs : List RuleT} {Q : Option Addr} {q d : Nat} {qs : List RuleT} {t : Int} (h : TrSt w y base ob box zer l A n c rs Q q d qs t) (hb : Below y.heap.size y y') : TrSt w y' base ob box zer l A n c rs Q q d qs t :=
  ⟨h.T.below hb, h.bo.below hb h.bo.lt, own_keep h.oA hb (Nat.le_refl _), own_keep h.oQ hb (Nat.le_refl _)⟩
theorem cells_tail {qs : List RuleT} {v0 v1 : ByteArray} {h : 0 < qs.length} (_ : (v0, v1) = qs[0]) : (cellsRule qs).drop 2 = cellsRule qs.tail := by
  cases qs with
  | nil => simp at h
  | cons x r => simp [cellsRule, encRule]
theorem turn_same {l : Int} {rs qs : List RuleT} {t : Int} (hsy : systemOk l rs = true) (heq : ∀ x ∈ qs, wordOk l x.1 = true ∧ wordOk l x.2 = true) (_ : 0 ≤ t) (ht : t < 200) {v0 v1 : ByteArray} {h : 0 < qs.length} (hv : (v0, v1) = qs[0]) (hn : normS rs v0 = normS rs v1) : TurnP l rs qs t rs qs.tail (t + 1) := by
  cases qs with
  | nil => simp at h
  | cons x r =>
    have hx : x = (v0, v1) := hv.symm
    subst hx
    exact ⟨hsy, heq, rfl, ht, _, _, rfl, .inl ⟨hn, rfl, rfl⟩⟩
theorem norm_word {l : Int} {rs : List RuleT} (hsy : systemOk l rs = true) {s : ByteArray} (h : wordOk l s = true) : wordOk l (normS rs s) = true := (norm_good hsy h).1
theorem wordOk_16 {l : Int} {s : ByteArray} (h : wordOk l s = true) : s.size ≤ 16 := (wordOk_out h).2.2.1
theorem hok_of {l : Int} {rs qs : List RuleT} {t : Int} (h : workOk l rs qs t = true) : systemOk l rs = true ∧ qs.length ≤ 400 ∧ 0 ≤ t ∧ t ≤ 200 ∧ ∀ x ∈ qs, wordOk l x.1 = true ∧ wordOk l x.2 = true := by
  unfold workOk inB eqOk at h
  simp only [Bool.and_eq_true, decide_eq_true_eq, List.all_eq_true] at h
  exact ⟨h.1.1.1, h.1.1.2, h.1.2.1, h.1.2.2, h.2⟩
theorem meetQ {F G : Option Addr → Nat → World → Prop} {goal : Prop} (leaf : (∀ A c y, F A c y → G A c y) → goal) (key : ∀ A c y, F A c y → G A c y) : goal := leaf key
theorem pairsQ_len (l : Int) (rs : List RuleT) : (pairsQ l rs).length ≤ 6240 := by
  unfold pairsQ
  rw [List.length_map]
  exact Nat.le_trans (List.length_filter_le _ _) (prAll_len l rs)
theorem cellsRule_app (a b : List RuleT) : cellsRule (a ++ b) = cellsRule a ++ cellsRule b := List.flatMap_append
theorem turn_new {l : Int} {rs qs : List RuleT} {t : Int} (hsy : systemOk l rs = true) (heq : ∀ x ∈ qs, wordOk l x.1 = true ∧ wordOk l x.2 = true) (ht : t < 200) {v0 v1 : ByteArray} {h : 0 < qs.length} (hv : (v0, v1) = qs[0]) {a b : ByteArray} (ha : a = normS rs v0) (hb : b = normS rs v1) (hab : ¬ a = b) {x : RuleT} (hx : newR a b = x) (h8 : x.1.size ≤ 8) (h12 : (insL l rs x).length ≤ 12) : TurnP l rs qs t (insL l rs x) (qs.tail ++ goneL rs x ++ pairsQ l (insL l rs x)) (t + 1) := by
  cases qs with
  | nil => simp at h
  | cons y r =>
    have hy : y = (v0, v1) := hv.symm
    subst hy ha hb hx
    exact ⟨hsy, heq, rfl, ht, _, _, rfl, .inr ⟨hab, h8, rfl, h12, rfl⟩⟩
theorem OwnM.ne_bk {w : World} {g base off k : Nat} {t t' : TypeId} {m n : Nat} {xs : List Value} {c : Nat} {cs : Array Value} (h : OwnM w g base off t m n xs c) (hb : Bk w k t' cs) (ht : t ≠ t') : g ≠ k := by
  intro e
  subst e
  obtain ⟨_, _, _, _, cur, hk, _⟩ := h
  have := hk.symm.trans hb
  injection this with this
  injection this with _ e2
  exact ht e2
/-- Where a turn stands when the new rule is made. -/
structure TrI (w y : World) (base ob sb : Nat) (box zer bx : Array Value) (l : Int) (A : Option Addr) (n c : Nat) (rs : List RuleT) (b8 g off q d : Nat) (qs : List Value) : Prop where
  T : TwoB w y 86 86 box zer
  bo : Bk y ob 86 bx
  bs : Bk y sb 25 #[.int .i64 l, .slice A n c]
  oA : y.ownsRow b8 68 2 (.slice A n c) n (cellsRule rs)
  oM : OwnM y g base off 68 2 q qs d
  nA : (Value.slice A n c).ownBlock ≠ some g
  lo : w.heap.size + 2 ≤ ob
  lb : w.heap.size + 2 ≤ base
  l8 : w.heap.size + 2 ≤ b8
theorem TrI.noA {w y : World} {base ob sb : Nat} {box zer bx : Array Value} {l : Int} {A : Option Addr} {n c : Nat} {rs : List RuleT} {b8 g off q d : Nat} {qs : List Value} (h : TrI w y base ob sb box zer bx l A n c rs b8 g off q d qs) : (Value.slice A n c).ownBlock ≠ some ob := own_ne_bk h.oA h.bo (by decide)
theorem TrI.nsb {w y : World} {base ob sb : Nat} {box zer bx : Array Value} {l : Int} {A : Option Addr} {n c : Nat} {rs : List RuleT} {b8 g off q d : Nat} {qs : List Value} (h : TrI w y base ob sb box zer bx l A n c rs b8 g off q d qs) : sb ≠ ob := by
  intro e
  have h1 := h.bs
  rw [e] at h1
  have := h1.symm.trans h.bo
  injection this with this
  injection this with _ e2
  exact absurd e2 (by decide)
theorem TrI.below {w y y' : World} {base ob sb : Nat} {box zer bx : Array Value} {l : Int} {A : Option Addr} {n c : Nat} {rs : List RuleT} {b8 g off q d : Nat} {qs : List Value} (h : TrI w y base ob sb box zer bx l A n c rs b8 g off q d qs) (hb : Below y.heap.size y y') : TrI w y' base ob sb box zer bx l A n c rs b8 g off q d qs :=
  ⟨h.T.below hb, h.bo.below hb h.bo.lt, h.bs.below hb h.bs.lt, own_keep h.oA hb (Nat.le_refl _), h.oM.below hb, h.nA, h.lo, h.lb, h.l8⟩
theorem TrI.put {w y : World} {base ob sb : Nat} {box zer bx : Array Value} {l : Int} {A : Option Addr} {n c : Nat} {rs : List RuleT} {b8 g off q d : Nat} {qs : List Value} (h : TrI w y base ob sb box zer bx l A n c rs b8 g off q d qs) (i : Nat) (u : Value) : TrI w (y.setCell ⟨ob, i, none⟩ u) base ob sb box zer (bx.setIfInBounds i u) l A n c rs b8 g off q d qs := by
  have hlo := h.lo
  exact ⟨⟨h.T.b1.far (p := ⟨ob, i, none⟩) (by dsimp only; omega) _, h.T.b2.far (p := ⟨ob, i, none⟩) (by dsimp only; omega) _, h.T.low.trans ((Below.refl _ _).setCell (p := ⟨ob, i, none⟩) (by dsimp only; omega) _), by have := h.T.size; simpa using this⟩,
    h.bo.put i u, h.bs.far (p := ⟨ob, i, none⟩) h.nsb u, own_far3 h.oA (p := ⟨ob, i, none⟩) h.noA u, h.oM.far (p := ⟨ob, i, none⟩) (h.oM.ne_bk h.bo (by decide)) u, h.nA, h.lo, h.lb, h.l8⟩
theorem TrI.app {w y y' : World} {base ob sb : Nat} {box zer bx : Array Value} {l : Int} {A : Option Addr} {n c : Nat} {rs : List RuleT} {b8 g off q d : Nat} {qs : List Value} (h : TrI w y base ob sb box zer bx l A n c rs b8 g off q d qs) {g' off' q' d' : Nat} {qs' : List Value} (hM : OwnM y' g' base off' 68 2 q' qs' d') (hG : y.grownBy y' (some g)) (hat : g' = g ∨ y.heap.size ≤ g') : TrI w y' base ob sb box zer bx l A n c rs b8 g' off' q' d' qs' := by
  have hgb : base ≤ g := h.oM.1
  have hlb := h.lb
  refine ⟨h.T.grown hG (fun g2 e => by injection e with e; omega), h.bo.grown hG (fun e => by injection e with e; exact h.oM.ne_bk h.bo (by decide) e.symm), h.bs.grown hG (fun e => by injection e with e; exact h.oM.ne_bk h.bs (by decide) e.symm), own_other h.oA hG (fun g2 e e2 => h.nA (e.trans e2.symm)), hM, fun e => ?_, h.lo, h.lb, h.l8⟩
  rcases hat with hat | hat
  · exact h.nA (by rw [e, hat])
  · have := (h.oA.lt _ e).2
    omega
/-- The turn's end: the box of results is written. -/
theorem TrI.fin {w y : World} {base ob sb : Nat} {box bx : Array Value} {z0 z1 z2 z3 : Value} {l : Int} {A : Option Addr} {n c : Nat} {rs : List RuleT} {b8 g off q d : Nat} {qs : List Value} (h : TrI w y base ob sb box #[z0, z1, z2, z3] bx l A n c rs b8 g off q d qs) (a b c3 d3 : Value) :
    Bk ((((y.setCell ⟨w.heap.size + 1, 0, none⟩ a).setCell ⟨w.heap.size + 1, 1, none⟩ b).setCell ⟨w.heap.size + 1, 2, none⟩ c3).setCell ⟨w.heap.size + 1, 3, none⟩ d3) (w.heap.size + 1) 86 #[a, b, c3, d3] ∧
    Below w.heap.size w ((((y.setCell ⟨w.heap.size + 1, 0, none⟩ a).setCell ⟨w.heap.size + 1, 1, none⟩ b).setCell ⟨w.heap.size + 1, 2, none⟩ c3).setCell ⟨w.heap.size + 1, 3, none⟩ d3) ∧
    Rd ((((y.setCell ⟨w.heap.size + 1, 0, none⟩ a).setCell ⟨w.heap.size + 1, 1, none⟩ b).setCell ⟨w.heap.size + 1, 2, none⟩ c3).setCell ⟨w.heap.size + 1, 3, none⟩ d3) A (cellsRule rs) ∧
    Rd ((((y.setCell ⟨w.heap.size + 1, 0, none⟩ a).setCell ⟨w.heap.size + 1, 1, none⟩ b).setCell ⟨w.heap.size + 1, 2, none⟩ c3).setCell ⟨w.heap.size + 1, 3, none⟩ d3) (some ⟨g, off, none⟩) qs := by
  have h8 := h.l8
  have hlb := h.lb
  have hgb : base ≤ g := h.oM.1
  have hnA : (Value.slice A n c).ownBlock ≠ some (w.heap.size + 1) := fun e => by have := (h.oA.lt _ e).1; omega
  have hnM : g ≠ w.heap.size + 1 := by omega
  refine ⟨(((h.T.b2.put 0 a).put 1 b).put 2 c3).put 3 d3, h.T.low.trans (((((Below.refl _ _).setCell (p := ⟨w.heap.size + 1, 0, none⟩) (by dsimp only; omega) _).setCell (p := ⟨w.heap.size + 1, 1, none⟩) (by dsimp only; omega) _).setCell (p := ⟨w.heap.size + 1, 2, none⟩) (by dsimp only; omega) _).setCell (p := ⟨w.heap.size + 1, 3, none⟩) (by dsimp only; omega) _), ?_, ?_⟩
  · exact Rd.of_own (own_far3 (own_far3 (own_far3 (own_far3 h.oA (p := ⟨w.heap.size + 1, 0, none⟩) hnA a) (p := ⟨w.heap.size + 1, 1, none⟩) hnA b) (p := ⟨w.heap.size + 1, 2, none⟩) hnA c3) (p := ⟨w.heap.size + 1, 3, none⟩) hnA d3)
  · exact ((((h.oM.far (p := ⟨w.heap.size + 1, 0, none⟩) hnM a).far (p := ⟨w.heap.size + 1, 1, none⟩) hnM b).far (p := ⟨w.heap.size + 1, 2, none⟩) hnM c3).far (p := ⟨w.heap.size + 1, 3, none⟩) hnM d3).rd
/-- What a turn leaves. -/
def TurnMade (w : World) (l : Int) (rs qs : List RuleT) (t : Int) (e : Ending) (w' : World) : Prop := ∃ (l' : Int) (A : Option Addr) (n c : Nat) (Q : Option Addr) (q cq : Nat) (t' code : Int), e = .returned (.tuple #[.agg #[.int .i64 l', .slice A n c, .slice Q q cq, .int .i64 t'], .int .i64 code]) ∧ Below w.heap.size w w' ∧
  (code = 0 → qs ≠ [] → ∃ rs' qs', l' = l ∧ n = rs'.length ∧ q = qs'.length ∧ q ≤ 400 ∧ Rd w' A (cellsRule rs') ∧ Rd w' Q (cellsRule qs') ∧ TurnP l rs qs t rs' qs' t')
end Go.Proofs.YteafeecndghapaaGreat
