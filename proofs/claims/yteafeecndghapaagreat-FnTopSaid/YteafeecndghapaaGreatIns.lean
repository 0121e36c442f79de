/- Walk over l06Insert of the reference. -/
import Derived.Test.YteafeecndghapaaGreatMg19
import Derived.Test.YteafeecndghapaaGreatMg14
import Derived.Test.YteafeecndghapaaGreatMg21
import Derived.Deep.AppendLies
namespace Go.Proofs.YteafeecndghapaaGreat
open Go.RowKit Go.Shelf

/-- append of one element that lies in the newest block: where the row lies afterwards. -/
theorem wpList_app1l {P : Program} {ops : Array Oper} {rest : List Oper} {o : Oper} {a : Act} {Q : Exit → Act → World → Prop} (w w0 : World) (hgd : o.guard = none) (s x : Operand) (t : TypeId)
    (ho : o.op = .call { callee := .builtin .append, args := #[s, x], argTypes := #[t, t] }) (base e size bytes : Nat) (z : Value) (ht : P.underlying t = some (.slice e))
    (hinfo : (P.info? e).map (fun i => (i.zero, i.size, i.bytes)) = some (some z, size, bytes)) (hzs : z.cells.size = size) (hsz : 0 < size) (v : Value) (n : Nat) (xs : List Value) (cs : Array Value)
    (hw : w = w0.alloc (.cells cs e)) (hs : a.eval s = v) (hx : a.eval x = .slice (some ⟨w0.heap.size, 0, none⟩) 1 1) (hown : w0.ownsRow base e size v n xs) (hcs : cs.size = size) (h1 : ∀ u ∈ cs.toList, u.oneCell' = true)
    (hn : (n + 1) * bytes ≤ 140737488355328) (hm : n + 1 ≤ maxLen) (hbase : base ≤ w0.heap.size)
    (h : ∀ g' c' w', w'.ownsRow base e size (.slice (some ⟨g', 0, none⟩) (n + 1) c') (n + 1) (xs ++ cs.toList) → w0.grownBy w' v.ownBlock → (v.ownBlock = some g' ∨ w0.heap.size ≤ g') → wpList P ops Q rest (a.put o.dst (.slice (some ⟨g', 0, none⟩) (n + 1) c')) w') :
    wpList P ops Q (o :: rest) a w := by
  subst hw
  obtain ⟨i0, hi, hz0, hz1, hz2⟩ := info_parts hinfo
  refine wpList_append_lies _ hgd s x t ho base e i0 z size bytes ht hi hz0 hz1 hz2 hzs hsz _ n xs hs (hown.alloc _) ⟨w0.heap.size, 0, none⟩ 1 1 cs.toList hx (by simpa using hcs) ?_ h1 (by omega) hm hn (by simp; omega) _ rfl ?_
  · intro j u hu
    have e' : (⟨w0.heap.size, 0, none⟩ : Addr).add j = ⟨w0.heap.size, j, none⟩ := by unfold Addr.add; split <;> simp_all
    rw [e', (Bk.new w0 e cs).cell j]
    simpa using hu
  · intro g' c' w' hown' hgrow hat hlt
    refine h g' c' w' hown' ((World.grownBy_alloc w0 _ _).trans hgrow) ?_
    rcases hat with hat | hat
    · exact .inl hat
    · right
      rw [hat]; simp
theorem wpList_app1ls {P : Program} {ops : Array Oper} {rest : List Oper} {o : Oper} {a : Act} {Q : Exit → Act → World → Prop} (w w0 : World) (b : Nat) (hb : w0.heap.size = b) (hgd : o.guard = none) (s x : Operand) (t : TypeId)
    (ho : o.op = .call { callee := .builtin .append, args := #[s, x], argTypes := #[t, t] }) (base e size bytes : Nat) (z : Value) (ht : P.underlying t = some (.slice e))
    (hinfo : (P.info? e).map (fun i => (i.zero, i.size, i.bytes)) = some (some z, size, bytes)) (hzs : z.cells.size = size) (hsz : 0 < size) (v : Value) (n : Nat) (xs : List Value) (cs : Array Value)
    (hw : w = w0.alloc (.cells cs e)) (hs : a.eval s = v) (hx : a.eval x = .slice (some ⟨b, 0, none⟩) 1 1) (hown : w0.ownsRow base e size v n xs) (hcs : cs.size = size) (h1 : ∀ u ∈ cs.toList, u.oneCell' = true)
    (hn : (n + 1) * bytes ≤ 140737488355328) (hm : n + 1 ≤ maxLen) (hbase : base ≤ b)
    (h : ∀ g' c' w', w'.ownsRow base e size (.slice (some ⟨g', 0, none⟩) (n + 1) c') (n + 1) (xs ++ cs.toList) → w0.grownBy w' v.ownBlock → (v.ownBlock = some g' ∨ w0.heap.size ≤ g') → wpList P ops Q rest (a.put o.dst (.slice (some ⟨g', 0, none⟩) (n + 1) c')) w') :
    wpList P ops Q (o :: rest) a w := by
  subst hb
  exact wpList_app1l w w0 hgd s x t ho base e size bytes z ht hinfo hzs hsz v n xs cs hw hs hx hown hcs h1 hn hm hbase h
def ApartV (v1 v2 : Value) : Prop := ∀ g, v1.ownBlock = some g → v2.ownBlock ≠ some g
/-- Where l06Insert stands: its boxes, the rows of the rules that go and of those that stay. -/
structure InsSt (w wr : World) (lb : Nat) (l : Int) (A : Option Addr) (n c : Nat) (x : RuleT) (B : Option Addr) (m d : Nat) (gs : List RuleT) (L : Option Addr) (k e : Nat) (ks : List RuleT) : Prop where
  bkS : Bk wr w.heap.size 25 #[.int .i64 l, .slice A n c]
  bkR : Bk wr (w.heap.size + 1) 68 #[.string x.1, .string x.2]
  bkZ : Bk wr (w.heap.size + 2) 25 #[.int .i64 0, .slice none 0 0]
  bkL : Bk wr lb 25 #[.int .i64 l, .slice L k e]
  lL : w.heap.size + 2 < lb
  own1 : wr.ownsRow (w.heap.size + 3) 68 2 (.slice B m d) m (cellsRule gs)
  own2 : wr.ownsRow (w.heap.size + 3) 68 2 (.slice L k e) k (cellsRule ks)
  ne : ApartV (.slice B m d) (.slice L k e)
  low : Below w.heap.size w wr
section
variable {w wr y w' : World} {lb : Nat} {l : Int} {A : Option Addr} {n c : Nat} {x : RuleT} {B : Option Addr} {m d : Nat} {gs : List RuleT} {L : Option Addr} {k e : Nat} {ks : List RuleT}
theorem InsSt.below (h : InsSt w wr lb l A n c x B m d gs L k e ks) (hb : Below wr.heap.size wr w') : InsSt w w' lb l A n c x B m d gs L k e ks :=
  ⟨h.bkS.below hb h.bkS.lt, h.bkR.below hb h.bkR.lt, h.bkZ.below hb h.bkZ.lt, h.bkL.below hb h.bkL.lt, h.lL, own_keep h.own1 hb (Nat.le_refl _), own_keep h.own2 hb (Nat.le_refl _), h.ne, h.low.trans (hb.mono h.low.size)⟩
theorem low_grown {v : Value} (h : Below w.heap.size w y) (hg : y.grownBy w' v.ownBlock) (hl : w.heap.size ≤ y.heap.size) (hr : ∀ g, v.ownBlock = some g → w.heap.size ≤ g) : Below w.heap.size w w' :=
  ⟨hg.os.trans h.os, hg.tape.trans h.tape, hg.output.trans h.output, Nat.le_trans h.size hg.size, fun q hq => (hg.block q (by omega) (fun e => by have := hr _ e.symm; omega)).trans (h.block q hq)⟩
/-- A rule goes. -/
theorem InsSt.push1 (h : InsSt w wr lb l A n c x B m d gs L k e ks) {g' c' : Nat} {z : RuleT}
    (ho : w'.ownsRow (w.heap.size + 3) 68 2 (.slice (some ⟨g', 0, none⟩) (m + 1) c') (m + 1) (cellsRule gs ++ [.string z.1, .string z.2])) (hg : wr.grownBy w' (Value.slice B m d).ownBlock) (hl : (Value.slice B m d).ownBlock = some g' ∨ wr.heap.size ≤ g') :
    InsSt w w' lb l A n c x (some ⟨g', 0, none⟩) (m + 1) c' (gs ++ [z]) L k e ks := by
  have hbase : ∀ q, (Value.slice B m d).ownBlock = some q → w.heap.size + 3 ≤ q := fun q hq => (h.own1.lt q hq).1
  have hcr : cellsRule (gs ++ [z]) = cellsRule gs ++ [.string z.1, .string z.2] := by simp [cellsRule, encRule]
  refine ⟨h.bkS.grown hg (fun e => by have := hbase _ e.symm; omega), h.bkR.grown hg (fun e => by have := hbase _ e.symm; omega), h.bkZ.grown hg (fun e => by have := hbase _ e.symm; omega), h.bkL.grown hg (fun e => own_ne_bk h.own1 h.bkL (by decide) e.symm), h.lL, by rw [hcr]; exact ho, own_other h.own2 hg (fun g e e2 => h.ne g e2 e), ?_, low_grown h.low hg h.low.size (fun g e => by have := hbase g e; omega)⟩
  intro g hg1 hg2
  have e1 : g' = g := by simpa [Value.ownBlock] using hg1
  subst e1
  rcases hl with hl | hl
  · exact h.ne _ hl hg2
  · have := (h.own2.lt _ hg2).2
    omega
/-- A rule stays. -/
theorem InsSt.push2 (h : InsSt w wr lb l A n c x B m d gs L k e ks) {g' c' : Nat} {z : RuleT}
    (ho : w'.ownsRow (w.heap.size + 3) 68 2 (.slice (some ⟨g', 0, none⟩) (k + 1) c') (k + 1) (cellsRule ks ++ [.string z.1, .string z.2])) (hg : wr.grownBy w' (Value.slice L k e).ownBlock) (hl : (Value.slice L k e).ownBlock = some g' ∨ wr.heap.size ≤ g') :
    InsSt w (w'.setCell ⟨lb, 1, none⟩ (.slice (some ⟨g', 0, none⟩) (k + 1) c')) lb l A n c x B m d gs (some ⟨g', 0, none⟩) (k + 1) c' (ks ++ [z]) ∧ Bk w' lb 25 #[.int .i64 l, .slice L k e] := by
  have hbase : ∀ q, (Value.slice L k e).ownBlock = some q → w.heap.size + 3 ≤ q := fun q hq => (h.own2.lt q hq).1
  have hcr : cellsRule (ks ++ [z]) = cellsRule ks ++ [.string z.1, .string z.2] := by simp [cellsRule, encRule]
  have hlL := h.lL
  have hL : Bk w' lb 25 #[.int .i64 l, .slice L k e] := h.bkL.grown hg (fun e => own_ne_bk h.own2 h.bkL (by decide) e.symm)
  have h1 := own_other h.own1 hg (fun g e e2 => h.ne g e e2)
  have hlow := low_grown h.low hg h.low.size (fun g e => by have := hbase g e; omega)
  refine ⟨⟨(h.bkS.grown hg (fun e => by have := hbase _ e.symm; omega)).far (p := ⟨lb, 1, none⟩) (by dsimp only; omega) _, (h.bkR.grown hg (fun e => by have := hbase _ e.symm; omega)).far (p := ⟨lb, 1, none⟩) (by dsimp only; omega) _, (h.bkZ.grown hg (fun e => by have := hbase _ e.symm; omega)).far (p := ⟨lb, 1, none⟩) (by dsimp only; omega) _, hL.put 1 _, h.lL, own_far3 h1 (p := ⟨lb, 1, none⟩) (own_ne_bk h1 hL (by decide)) _, by rw [hcr]; exact own_far3 ho (p := ⟨lb, 1, none⟩) (own_ne_bk ho hL (by decide)) _, ?_, hlow.trans ((Below.refl _ _).setCell (p := ⟨lb, 1, none⟩) (by dsimp only; omega) _)⟩, hL⟩
  intro g hg1 hg2
  have e1 : g' = g := by simpa [Value.ownBlock] using hg2
  subst e1
  rcases hl with hl | hl
  · exact h.ne _ hg1 hl
  · have := (h.own1.lt _ hg1).2
    omega
theorem InsSt.start (w : World) (l : Int) (A : Option Addr) (n c : Nat) (x0 x1 : ByteArray) :
    InsSt w (((((w.alloc (.cells #[.int .i64 l, .slice A n c] 25)).alloc (.cells #[.string x0, .string x1] 68)).alloc (.cells #[.int .i64 0, .slice none 0 0] 25)).alloc (.cells #[] 68)).alloc (.cells #[.int .i64 l, .slice none 0 0] 25)) (w.heap.size + 4) l A n c (x0, x1) (some ⟨w.heap.size + 1 + 1 + 1, 0, none⟩) 0 0 [] none 0 0 [] := by
  have e1 : (w.alloc (.cells #[.int .i64 l, .slice A n c] 25)).heap.size = w.heap.size + 1 := by simp
  have e2 : ((w.alloc (.cells #[.int .i64 l, .slice A n c] 25)).alloc (.cells #[.string x0, .string x1] 68)).heap.size = w.heap.size + 2 := by simp
  have e3 : (((w.alloc (.cells #[.int .i64 l, .slice A n c] 25)).alloc (.cells #[.string x0, .string x1] 68)).alloc (.cells #[.int .i64 0, .slice none 0 0] 25)).heap.size = w.heap.size + 3 := by simp
  have e4 : ((((w.alloc (.cells #[.int .i64 l, .slice A n c] 25)).alloc (.cells #[.string x0, .string x1] 68)).alloc (.cells #[.int .i64 0, .slice none 0 0] 25)).alloc (.cells #[] 68)).heap.size = w.heap.size + 4 := by simp
  refine ⟨((((Bk.new _ _ _).alloc _).alloc _).alloc _).alloc _, ((((Bk.new _ _ _).cast e1).alloc _).alloc _).alloc _, (((Bk.new _ _ _).cast e2).alloc _).alloc _, (Bk.new _ _ _).cast e4, by omega, ?_, World.ownsRow_nil _ _ _ _, ?_, ?_⟩
  · exact own_of_bk (m := 2) (n := 0) (((Bk.new _ _ _).cast (g' := w.heap.size + 1 + 1 + 1) (by rw [e3])).alloc _) (by omega) rfl (by unfold maxLen; omega)
  · intro g _ h2; cases h2
  · exact (((((Below.refl _ _).alloc (Nat.le_refl _) _).alloc (by omega) _).alloc (by omega) _).alloc (by omega) _).alloc (by omega) _
end
theorem hx_of {l : Int} {x0 x1 : ByteArray} (h : wordOk l x0 = true ∧ wordOk l x1 = true ∧ x0.size ≤ 8 ∧ x1.size ≤ 8 ∧ x0.toList.isEmpty = false ∧ lessW x1 x0 = true) : (x0.size ≤ 8 ∧ x1.size ≤ 8) ∧ x0 ≠ ⟨#[]⟩ := by
  refine ⟨⟨h.2.2.1, h.2.2.2.1⟩, fun e => ?_⟩
  have h5 := h.2.2.2.2.1
  rw [isEmpty_eq, e] at h5
  simp at h5
theorem gone_yes {r x : RuleT} {ts : List RuleT} (h : gonB r x = true) : goneL (ts ++ [x]) r = goneL ts r ++ [x] ∧ stayL (ts ++ [x]) r = stayL ts r := by
  unfold goneL stayL
  rw [List.filter_append, List.filter_append]
  simp [h]
theorem gone_no {r x : RuleT} {ts : List RuleT} (h : gonB r x = false) : goneL (ts ++ [x]) r = goneL ts r ∧ stayL (ts ++ [x]) r = stayL ts r ++ [x] := by
  unfold goneL stayL
  rw [List.filter_append, List.filter_append]
  simp [h]
theorem low_own {b0 : Nat} {y0 y y' : World} {t : TypeId} {m n : Nat} {v : Value} {xs : List Value} (h : Below b0 y0 y) (hz : b0 ≤ y.heap.size) (ho : y.ownsRow b0 t m v n xs) (hg : y.grownBy y' v.ownBlock) : Below b0 y0 y' :=
  ⟨hg.os.trans h.os, hg.tape.trans h.tape, hg.output.trans h.output, Nat.le_trans h.size hg.size, fun q hq => (hg.block q (by omega) (fun e => by have := (ho.lt _ e.symm).1; omega)).trans (h.block q hq)⟩
theorem low_z {b0 : Nat} {y0 y : World} (h : Below b0 y0 y) (hb : b0 = y0.heap.size) : b0 ≤ y.heap.size := hb ▸ h.size
theorem low_b {b0 : Nat} {y0 y : World} (h : Below b0 y0 y) (hb : b0 = y0.heap.size) : Below y0.heap.size y0 y := hb ▸ h
theorem cellsRule_end (rs : List RuleT) (r : RuleT) : cellsRule (rs ++ [r]) = cellsRule rs ++ [.string r.1, .string r.2] := by simp [cellsRule, encRule]
/-- l04Trace beside a rule that comes: tr6. -/
theorem trace6 {l : Int} {rs : List RuleT} {x : RuleT} (hsy : systemOk l rs = true) (hx : wordOk l x.1 = true ∧ wordOk l x.2 = true ∧ x.1.size ≤ 8 ∧ x.2.size ≤ 8 ∧ x.1.toList.isEmpty = false ∧ lessW x.2 x.1 = true) {A : Option Addr} {n c : Nat} {s : ByteArray} {w : World} (hr : Rd w A (cellsRule (stayL rs x ++ [x]))) (hn : n = (stayL rs x ++ [x]).length) (hs : wordOk l s = true) (h8 : s.size ≤ 8) :
    Calls Tryz.prog 97 #[.agg #[.int .i64 l, .slice A n c], .string s] w (fun e w' => ∃ B m d, e = .returned (.tuple #[.slice B m d, .string (tr6 l (stayL rs x ++ [x]) s)]) ∧ Below w.heap.size w w') := by
  have hl : (stayL rs x).length ≤ rs.length := List.length_filter_le _ _
  have h12 := rulesOk_12 (sys_rules hsy)
  have hb : n ≤ 1048576 := by rw [hn, List.length_append]; simp; omega
  have hz : ∀ y ∈ stayL rs x ++ [x], y.1.size ≤ 1048576 ∧ y.2.size ≤ 1048576 := fun y hy => by
    rcases List.mem_append.1 hy with hy | hy
    · have := sys_mem hsy (List.mem_filter.1 hy).1; omega
    · rw [List.mem_singleton.1 hy]; omega
  unfold tr6
  cases ho : rulesOk l (stayL rs x ++ [x]) with
  | true =>
    refine (specTrace_any l A n c _ s w hr hn hb hz (by omega) (out_sys hsy hx ho) (val4_le hs)).mono ?_
    rintro e w' ⟨B, d, rfl, -, hb⟩
    exact ⟨B, _, d, rfl, hb⟩
  | false => exact specTrace0_any l A n c _ s w hr hn hb hz (by omega) ho
/-- The rules of the new system so far. -/
def nxL (l : Int) (rs : List RuleT) (x : RuleT) (j : Nat) : List RuleT := ((stayL rs x).take j).map fun y => (y.1, tr6 l (stayL rs x ++ [x]) y.2)
theorem nxL_next {l : Int} {rs : List RuleT} {x : RuleT} {j : Nat} (h : j < (stayL rs x).length) : nxL l rs x (j + 1) = nxL l rs x j ++ [((stayL rs x)[j].1, tr6 l (stayL rs x ++ [x]) (stayL rs x)[j].2)] := by
  unfold nxL
  rw [List.take_succ_eq_append_getElem h, List.map_append]
  rfl
theorem nxL_all {l : Int} {rs : List RuleT} {x : RuleT} {j : Nat} (h : j = (stayL rs x).length) : nxL l rs x j ++ [x] = insL l rs x := by
  unfold nxL insL
  rw [List.take_of_length_le (by omega)]
/-- Behind the drawn region: the system to reduce with, and the new one. -/
structure NxSt (b0 : Nat) (y0 wr : World) (r1 r2 : Nat) (l : Int) (A : Option Addr) (n c : Nat) (os : List RuleT) (N : Option Addr) (m d : Nat) (ns : List RuleT) : Prop where
  lo : Below b0 y0 wr
  bk1 : Bk wr r1 25 #[.int .i64 l, .slice A n c]
  bk2 : Bk wr r2 25 #[.int .i64 l, .slice N m d]
  l1 : b0 ≤ r1
  l2 : b0 ≤ r2
  hne : r1 ≠ r2
  own1 : wr.ownsRow b0 68 2 (.slice A n c) n (cellsRule os)
  own2 : wr.ownsRow b0 68 2 (.slice N m d) m (cellsRule ns)
  ap : ApartV (.slice A n c) (.slice N m d)
theorem NxSt.below {b0 : Nat} {y0 wr w' : World} {r1 r2 : Nat} {l : Int} {A : Option Addr} {n c : Nat} {os : List RuleT} {N : Option Addr} {m d : Nat} {ns : List RuleT} (h : NxSt b0 y0 wr r1 r2 l A n c os N m d ns) (hb : Below wr.heap.size wr w') : NxSt b0 y0 w' r1 r2 l A n c os N m d ns :=
  ⟨h.lo.trans (hb.mono (by have := h.l1; have := h.bk1.lt; omega)), h.bk1.below hb h.bk1.lt, h.bk2.below hb h.bk2.lt, h.l1, h.l2, h.hne, own_keep h.own1 hb (Nat.le_refl _), own_keep h.own2 hb (Nat.le_refl _), h.ap⟩
/-- A cell of a younger block. -/
theorem NxSt.far {b0 : Nat} {y0 wr : World} {r1 r2 : Nat} {l : Int} {A : Option Addr} {n c : Nat} {os : List RuleT} {N : Option Addr} {m d : Nat} {ns : List RuleT} {W : World} (h : NxSt b0 y0 W r1 r2 l A n c os N m d ns) {p : Addr} {t : TypeId} {cs : Array Value} (hx : W.heap.size ≤ p.block) (hW : Below W.heap.size W wr) (u : Value) : NxSt b0 y0 (wr.setCell p u) r1 r2 l A n c os N m d ns :=
  h.below (hW.trans ((Below.refl _ _).setCell hx _))
/-- A rule is appended to the new system. -/
theorem NxSt.push {b0 : Nat} {y0 wr w' : World} {r1 r2 : Nat} {l : Int} {A : Option Addr} {n c : Nat} {os : List RuleT} {N : Option Addr} {m d : Nat} {ns : List RuleT} (h : NxSt b0 y0 wr r1 r2 l A n c os N m d ns) {g' c' : Nat} {z : RuleT}
    (ho : w'.ownsRow b0 68 2 (.slice (some ⟨g', 0, none⟩) (m + 1) c') (m + 1) (cellsRule ns ++ [.string z.1, .string z.2])) (hg : wr.grownBy w' (Value.slice N m d).ownBlock) (hl : (Value.slice N m d).ownBlock = some g' ∨ wr.heap.size ≤ g') :
    NxSt b0 y0 (w'.setCell ⟨r2, 1, none⟩ (.slice (some ⟨g', 0, none⟩) (m + 1) c')) r1 r2 l A n c os (some ⟨g', 0, none⟩) (m + 1) c' (ns ++ [z]) ∧ Bk w' r2 25 #[.int .i64 l, .slice N m d] := by
  have hcr : cellsRule (ns ++ [z]) = cellsRule ns ++ [.string z.1, .string z.2] := by simp [cellsRule, encRule]
  have hR : Bk w' r2 25 #[.int .i64 l, .slice N m d] := h.bk2.grown hg (fun e => own_ne_bk h.own2 h.bk2 (by decide) e.symm)
  have hl1 : b0 ≤ wr.heap.size := by have := h.l1; have := h.bk1.lt; omega
  have h1 := own_other h.own1 hg (fun g e e2 => h.ap g e e2)
  refine ⟨⟨(low_own h.lo hl1 h.own2 hg).trans ((Below.refl _ _).setCell (p := ⟨r2, 1, none⟩) h.l2 _), (h.bk1.grown hg (fun e => own_ne_bk h.own2 h.bk1 (by decide) e.symm)).far (p := ⟨r2, 1, none⟩) h.hne _, hR.put 1 _, h.l1, h.l2, h.hne, own_far3 h1 (p := ⟨r2, 1, none⟩) (own_ne_bk h1 hR (by decide)) _, by rw [hcr]; exact own_far3 ho (p := ⟨r2, 1, none⟩) (own_ne_bk ho hR (by decide)) _, ?_⟩, hR⟩
  intro g hg1 hg2
  have e1 : g' = g := by simpa [Value.ownBlock] using hg2
  subst e1
  rcases hl with hl | hl
  · exact h.ap _ hg1 hl
  · have := (h.own1.lt _ hg1).2
    omega
theorem rd_bk {y : World} {b : Nat} {t : TypeId} {x0 x1 : ByteArray} (h : Bk y b t #[.string x0, .string x1]) : Rd y (some ⟨b, 0, none⟩) [.string x0, .string x1] := Rd.of_own (own_of_bk (base := b) (m := 2) (n := 1) h (Nat.le_refl _) rfl (by unfold maxLen; omega))
theorem meetE {F G : Option Addr → Nat → Option Addr → Nat → Nat → Nat → Nat → World → Prop} {goal : Prop} (leaf : (∀ A c A' c' e b r y, F A c A' c' e b r y → G A c A' c' e b r y) → goal) (key : ∀ A c A' c' e b r y, F A c A' c' e b r y → G A c A' c' e b r y) : goal := leaf key
/-- What l06Insert leaves: the new rules and those that go. -/
def InsMade (w : World) (l : Int) (rs : List RuleT) (x : RuleT) (e : Ending) (w' : World) : Prop := ∃ (A : Option Addr) (n c : Nat) (B : Option Addr) (m d : Nat), e = .returned (.tuple #[.agg #[.int .i64 l, .slice A n c], .slice B m d]) ∧ n = (insL l rs x).length ∧ m = (goneL rs x).length ∧ w'.ownsRow w.heap.size 68 2 (.slice A n c) n (cellsRule (insL l rs x)) ∧ w'.ownsRow w.heap.size 68 2 (.slice B m d) m (cellsRule (goneL rs x)) ∧ Below w.heap.size w w'
set_option maxRecDepth 100000 in
set_option maxHeartbeats 8000000 in
theorem specInsert_any (l : Int) (A : Option Addr) (n c : Nat) (rs : List RuleT) (x0 x1 : ByteArray) (w : World) (hr : Rd w A (cellsRule rs)) (hn : n = rs.length) (hsy : systemOk l rs = true) (hx : wordOk l x0 = true ∧ wordOk l x1 = true ∧ x0.size ≤ 8 ∧ x1.size ≤ 8 ∧ x0.toList.isEmpty = false ∧ lessW x1 x0 = true) :
    Calls Tryz.prog 98 #[.agg #[.int .i64 l, .slice A n c], .agg #[.string x0, .string x1]] w (InsMade w l rs (x0, x1)) := by
  have Hr := Lib.hid hr
  clear hr
  have Hn := Lib.hid hn
  clear hn
  have Hsy := Lib.hid hsy
  clear hsy
  have Hx := Lib.hid hx
  clear hx
  go_enter Tryz.func98, Tryz.ntmps98
  go_wp2_with fail
  obtain ⟨⟨hx8, hy8⟩, hxe⟩ := hx_of Hx.out
  have h12 := rulesOk_12 (sys_rules Hsy.out)
  go_loopw [6, 21] (fun v i wr => ∃ (j m k : Nat) (B : Option Addr) (d : Nat) (L : Option Addr) (e : Nat), v = .slice B m d ∧ i = .int .i64 j ∧ j ≤ rs.length ∧ Hid (m = (goneL (rs.take j) (x0, x1)).length) ∧ Hid (k = (stayL (rs.take j) (x0, x1)).length) ∧ m ≤ j ∧ k ≤ j ∧ InsSt w wr (w.heap.size + 1 + 1 + 1 + 1) l A n c (x0, x1) B m d (goneL (rs.take j) (x0, x1)) L k e (stayL (rs.take j) (x0, x1))) (fun _ i _ => rs.length - (intOf i).toNat)
  case atStart => exact ⟨0, 0, 0, _, 0, none, 0, rfl, rfl, Nat.zero_le _, rfl, rfl, Nat.zero_le _, Nat.zero_le _, InsSt.start w l A n c x0 x1⟩
  case round =>
    obtain ⟨j, m, k, B, d, L, e, rfl, rfl, hj, HM, HK, hmj, hkj, hI⟩ := hrel
    have r0 : wr.cell? ⟨w.heap.size + 1, 0, none⟩ = some (.string x0) := by rw [hI.bkR.cell]; rfl
    have r1 : wr.cell? ⟨w.heap.size + 1, 1, none⟩ = some (.string x1) := by rw [hI.bkR.cell]; rfl
    have l0 : wr.cell? ⟨w.heap.size + 1 + 1 + 1 + 1, 0, none⟩ = some (.int .i64 l) := by rw [hI.bkL.cell]; rfl
    have l1 : wr.cell? ⟨w.heap.size + 1 + 1 + 1 + 1, 1, none⟩ = some (.slice L k e) := by rw [hI.bkL.cell]; rfl
    have lf := hI.bkL.free 1
    have rl := hI.bkR.lt
    have ll := hI.bkL.lt
    by_cases hlt : j < rs.length
    · have hlt2 : j < n := by rw [Hn.out]; exact hlt
      obtain ⟨b, o, rfl, hbl, p0, p1⟩ := rd_Rule (Hr.out.keep hI.low) hlt
      have hmem := sys_mem Hsy.out (List.getElem_mem hlt)
      obtain ⟨⟨v0, v1⟩, hv⟩ : ∃ v, v = rs[j] := ⟨_, rfl⟩
      rw [← hv] at p0 p1 hmem
      dsimp only at hmem
      obtain ⟨-, -, z0, z1, -⟩ := hmem
      have hIa := hI.below ((Below.refl _ _).alloc (Nat.le_refl _) (.cells #[.string v0, .string v1] 68))
      have hXa := Bk.new wr 68 #[.string v0, .string v1]
      have Hv := Lib.hid hv
      clear hv
      have HI := Lib.hid hI
      clear hI
      have HIa := Lib.hid hIa
      clear hIa
      have HXa := Lib.hid hXa
      clear hXa
      go_wp2_with fail
      refine (specPlaces_any v0 x0 _ (by omega) (by omega) hxe).mono ?_
      rintro e2 w2 ⟨P, dp, rfl, -, b2⟩
      have hI2 := HIa.out.below b2
      have hX2 := HXa.out.below b2 HXa.out.lt
      obtain ⟨N, hN⟩ : ∃ N, N = (plc v0 x0 (v0.size + 1 - x0.size)).length := ⟨_, rfl⟩
      rw [← hN]
      have q0 : w2.cell? ⟨wr.heap.size, 0, none⟩ = some (.string v0) := by rw [hX2.cell]; rfl
      have q1 : w2.cell? ⟨wr.heap.size, 1, none⟩ = some (.string v1) := by rw [hX2.cell]; rfl
      have ql := hX2.lt
      have k1 : w2.cell? ⟨w.heap.size + 1 + 1 + 1 + 1, 1, none⟩ = some (.slice L k e) := by rw [hI2.bkL.cell]; rfl
      have kl := hI2.bkL.lt
      have hsz2 := hI2.low.size
      have etk : rs.take (j + 1) = rs.take j ++ [(v0, v1)] := by rw [List.take_succ_eq_append_getElem hlt, Hv.out]
      clear HI HIa HXa b2 r0 r1 l0 l1 lf rl ll
      by_cases hN0 : 0 < N
      · have hg : gonB (x0, x1) (v0, v1) = true := by unfold gonB pls; dsimp only; rw [← hN, decide_eq_true hN0]
        obtain ⟨eg, es⟩ := gone_yes (ts := rs.take j) hg
        have Hg := Lib.hid hg
        clear hg
        have Eg := Lib.hid eg
        clear eg
        have Es := Lib.hid es
        clear es
        have HN := Lib.hid hN
        clear hN
        have Etk := Lib.hid etk
        clear etk
        have HI2 := Lib.hid hI2
        clear hI2
        have HX2 := Lib.hid hX2
        clear hX2
        go_wp2_with (at_builtin; go_loud (refine wpList_app1l _ w2 rfl _ _ 23 rfl (w.heap.size + 3) 68 2 32 _ Tryz.underlying23 info_Rule rfl (by omega) _ m _ #[.string v0, .string v1] rfl rfl rfl HI2.out.own1 rfl (one_cell_ruleP _ _) (by omega) (by unfold maxLen; omega) (by omega) ?_; intro g5 c5 w5 hO5 hG5 hat5))
        have hI5 := HI2.out.push1 (z := (v0, v1)) hO5 hG5 hat5
        try go_wp2_with fail
        go_roundw
        case rel => exact ⟨j + 1, m + 1, k, some ⟨g5, 0, none⟩, c5, L, e, rfl, by go_num, by omega, by unfold Hid; rw [Etk.out, Eg.out, List.length_append, ← HM.out]; rfl, by unfold Hid; rw [Etk.out, Es.out, ← HK.out], by omega, by omega, by rw [Etk.out, Eg.out, Es.out]; exact hI5⟩
        case measure => simp [intOf]; omega
      · have hg : gonB (x0, x1) (v0, v1) = false := by unfold gonB pls; dsimp only; rw [← hN, decide_eq_false hN0]
        obtain ⟨eg, es⟩ := gone_no (ts := rs.take j) hg
        have hz : N = 0 := by omega
        subst hz
        have Hg := Lib.hid hg
        clear hg
        have Eg := Lib.hid eg
        clear eg
        have Es := Lib.hid es
        clear es
        have HN := Lib.hid hN
        clear hN
        have Etk := Lib.hid etk
        clear etk
        have HI2 := Lib.hid hI2
        clear hI2
        have HX2 := Lib.hid hX2
        clear hX2
        have HN0 := Lib.hid hN0
        clear hN0
        go_wp2_with (at_builtin; go_loud (refine wpList_app1l _ w2 rfl _ _ 23 rfl (w.heap.size + 3) 68 2 32 _ Tryz.underlying23 info_Rule rfl (by omega) _ k _ #[.string v0, .string v1] rfl rfl rfl HI2.out.own2 rfl (one_cell_ruleP _ _) (by omega) (by unfold maxLen; omega) (by omega) ?_; intro g5 c5 w5 hO5 hG5 hat5; obtain ⟨hI5, hB5⟩ := HI2.out.push2 (z := (v0, v1)) hO5 hG5 hat5; have t1 : w5.cell? ⟨w.heap.size + 1 + 1 + 1 + 1, 1, none⟩ = some (.slice L k e) := (by rw [hB5.cell]; rfl); have tf := hB5.free 1; have tl := hB5.lt))
        have HI5 := Lib.hid hI5
        clear hI5
        go_roundw
        case rel => exact ⟨j + 1, m, k + 1, B, d, some ⟨g5, 0, none⟩, c5, rfl, by go_num, by omega, by unfold Hid; rw [Etk.out, Eg.out, ← HM.out], by unfold Hid; rw [Etk.out, Es.out, List.length_append, ← HK.out]; rfl, by omega, by omega, by rw [Etk.out, Eg.out, Es.out]; exact HI5.out⟩
        case measure => simp [intOf]; omega
    · have hjn : j = n := by rw [Hn.out]; omega
      subst hjn
      have hta : rs.take j = rs := List.take_of_length_le (by rw [← Hn.out]; exact Nat.le_refl _)
      rw [hta] at hI HM HK
      have hk12 : k ≤ 12 := by have := Hn.out; omega
      clear hj hlt hta
      have hkl : (cellsRule (stayL rs (x0, x1))).length = k * 2 := by rw [cellsRule_len, HK.out]
      have hIw := hI.below (Below.refl _ _).drew
      have HI := Lib.hid hI
      clear hI
      have HIw := Lib.hid hIw
      clear hIw
      have Hkl := Lib.hid hkl
      clear hkl
      try go_wp2_with fail
      refine wp_region_held_drew (S := (fun W => W.cell? ⟨w.heap.size, 0, none⟩ = some (.int .i64 l) ∧ W.cell? ⟨w.heap.size + 1 + 1 + 1 + 1, 1, none⟩ = some (.slice L k e) ∧ W.cell? ⟨w.heap.size + 1, 0, none⟩ = some (.string x0) ∧ W.cell? ⟨w.heap.size + 1, 1, none⟩ = some (.string x1))) (by kernel_rfl) ((by have hq := HIw.out; exact ⟨by rw [hq.bkS.cell]; rfl, by rw [hq.bkL.cell]; rfl, by rw [hq.bkR.cell]; rfl, by rw [hq.bkR.cell]; rfl⟩)) (fun hHeld => ?_)
      obtain ⟨y0, hy0⟩ : ∃ z, z = World.drew wr := ⟨_, rfl⟩
      have hI0 := HIw.out
      rw [← hy0] at hHeld hI0
      rw [← hy0]
      clear hy0 HIw HI
      obtain ⟨b0, hb0⟩ : ∃ z, z = y0.heap.size := ⟨_, rfl⟩
      have hL0 : Rd y0 L (cellsRule (stayL rs (x0, x1))) := Rd.of_own hI0.own2
      have lo0 : Below b0 y0 y0 := Below.refl _ _
      have HI0 := Lib.hid hI0
      clear hI0
      have HL0 := Lib.hid hL0
      clear hL0
      have Hb0 := Lib.hid hb0
      clear hb0
      refine wpAnyH_take (i := 0) (oi := ?oi319) (v := ?val319) ?hi319 ?hs319 ?hf319 ?hr319 ?hQ319 ?hy319 ?hS319 ?hrest319
      case hi319 => (simp only [List.getElem?_toArray, List.getElem?_cons_succ, List.getElem?_cons_zero] <;> exact rfl)
      case hs319 => kernel_rfl
      case hf319 => kernel_rfl
      case hr319 => kernel_rfl
      case hQ319 => exact fun _ _ _ h => h
      case hS319 => assumption
      case hy319 => (refine Or.inl ⟨by rfl, ?_⟩; intro w hSw; (try dsimp only at hSw); obtain ⟨z0, z1, z2, z3⟩ := hSw; go_simp; try with_reducible rfl)
      simp only [Act.put, List.setIfInBounds_toArray, List.set_cons_zero, List.set_cons_succ]
      refine wpAnyH_take (i := 1) (oi := ?oi328) (v := ?val328) ?hi328 ?hs328 ?hf328 ?hr328 ?hQ328 ?hy328 ?hS328 ?hrest328
      case hi328 => (simp only [List.getElem?_toArray, List.getElem?_cons_succ, List.getElem?_cons_zero] <;> exact rfl)
      case hs328 => kernel_rfl
      case hf328 => kernel_rfl
      case hr328 => kernel_rfl
      case hQ328 => exact fun _ _ _ h => h
      case hS328 => assumption
      case hy328 => (refine Or.inl ⟨by rfl, ?_⟩; intro w hSw; (try dsimp only at hSw); obtain ⟨z0, z1, z2, z3⟩ := hSw; go_simp; try with_reducible rfl)
      simp only [Act.put, List.setIfInBounds_toArray, List.set_cons_zero, List.set_cons_succ]
      refine wpAnyH_take (i := 3) (oi := ?oi337) (v := ?val337) ?hi337 ?hs337 ?hf337 ?hr337 ?hQ337 ?hy337 ?hS337 ?hrest337
      case hi337 => (simp only [List.getElem?_toArray, List.getElem?_cons_succ, List.getElem?_cons_zero] <;> exact rfl)
      case hs337 => kernel_rfl
      case hf337 => kernel_rfl
      case hr337 => kernel_rfl
      case hQ337 => exact fun _ _ _ h => h
      case hS337 => assumption
      case hy337 => (refine Or.inl ⟨by rfl, ?_⟩; intro w hSw; (try dsimp only at hSw); obtain ⟨z0, z1, z2, z3⟩ := hSw; go_simp; try with_reducible rfl)
      simp only [Act.put, List.setIfInBounds_toArray, List.set_cons_zero, List.set_cons_succ]
      refine wpAnyH_take (i := 4) (oi := ?oi346) (v := ?val346) ?hi346 ?hs346 ?hf346 ?hr346 ?hQ346 ?hy346 ?hS346 ?hrest346
      case hi346 => (simp only [List.getElem?_toArray, List.getElem?_cons_succ, List.getElem?_cons_zero] <;> exact rfl)
      case hs346 => kernel_rfl
      case hf346 => kernel_rfl
      case hr346 => kernel_rfl
      case hQ346 => exact fun _ _ _ h => h
      case hS346 => assumption
      case hy346 => (refine Or.inl ⟨by rfl, ?_⟩; intro w hSw; (try dsimp only at hSw); obtain ⟨z0, z1, z2, z3⟩ := hSw; go_simp; try with_reducible rfl)
      simp only [Act.put, List.setIfInBounds_toArray, List.set_cons_zero, List.set_cons_succ]
      refine wpAnyH_take (i := 6) (oi := ?oi355) (v := ?val355) ?hi355 ?hs355 ?hf355 ?hr355 ?hQ355 ?hy355 ?hS355 ?hrest355
      case hi355 => (simp only [List.getElem?_toArray, List.getElem?_cons_succ, List.getElem?_cons_zero] <;> exact rfl)
      case hs355 => kernel_rfl
      case hf355 => kernel_rfl
      case hr355 => kernel_rfl
      case hQ355 => exact fun _ _ _ h => h
      case hS355 => assumption
      case hy355 => (refine Or.inl ⟨by rfl, ?_⟩; intro w hSw; (try dsimp only at hSw); obtain ⟨z0, z1, z2, z3⟩ := hSw; go_simp; try with_reducible rfl)
      simp only [Act.put, List.setIfInBounds_toArray, List.set_cons_zero, List.set_cons_succ]
      apply meetE (F := fun A5 c5 A8 c8 e1 b1 r1 y => Below b0 y0 y ∧ Bk y r1 25 #[.int .i64 0, .slice none 0 0] ∧ b0 ≤ r1 ∧ y.ownsRow b0 68 2 (.slice A8 (k + 1) c8) (k + 1) (cellsRule (stayL rs (x0, x1)) ++ [.string x0, .string x1]))
      · intro hkey
        refine wpAnyH_ready (rs := [2, 7, 10]) (by kernel_rfl) (by simp) ?_
        refine AllReadyH.cons rfl (fun K hK => ?_) (AllReadyH.cons rfl (fun K hK => ?_) (AllReadyH.cons rfl (fun K hK => ?_) AllReadyH.nil))
        · skip
          go_simp
          have hal := (Below.refl y0.heap.size y0).alloc (Nat.le_refl _) (.cells #[] 68)
          have lo2_ := lo0.trans (hal.mono (low_z lo0 Hb0.out))
          have z4_ := low_z lo0 Hb0.out
          have bk3_ := Bk.new y0 68 #[]
          have hE6_ := own_of_bk (base := b0) (m := 2) (n := 0) bk3_ z4_ rfl (by unfold maxLen; omega)
          refine hK.out _ _ (by have hq := HI0.out.below (low_b lo2_ Hb0.out); exact ⟨by rw [hq.bkS.cell]; rfl, by rw [hq.bkL.cell]; rfl, by rw [hq.bkR.cell]; rfl, by rw [hq.bkR.cell]; rfl⟩) (fun hHeld => ?_)
          clear hK K
          first | simp only [Act.put, List.setIfInBounds_toArray, List.set_cons_zero, List.set_cons_succ] | skip
          clear hal
          obtain ⟨e5_, hb⟩ : ∃ z, z = (World.heap y0).size := ⟨_, rfl⟩
          obtain ⟨y1_, hy⟩ : ∃ z, z = World.alloc y0 (.cells #[] 68) := ⟨_, rfl⟩
          rw [← hy] at lo2_ hE6_ bk3_
          rw [← hb] at hE6_ bk3_
          rw [← hy, ← hb]
          clear hy hb
          refine wpAnyH_ready (rs := [5, 7, 10]) (by kernel_rfl) (by simp) ?_
          refine AllReadyH.cons rfl (fun K hK => ?_) (AllReadyH.cons rfl (fun K hK => ?_) (AllReadyH.cons rfl (fun K hK => ?_) AllReadyH.nil))
          · skip
            refine step_append_rd y1_ rfl _ _ 23 rfl b0 68 2 32 _ Tryz.underlying23 info_Rule rfl (by omega) (.slice (some ⟨e5_, 0, none⟩) 0 0) 0 [] rfl hE6_ L k e (cellsRule (stayL rs (x0, x1))) rfl Hkl.out (HL0.out.keep (low_b lo2_ Hb0.out)) (one_cell_rules _) (by unfold maxLen; omega) (by omega) (low_z lo2_ Hb0.out) ?_; intro A7_ c8_ y9_ hO10_ hg11_
            rw [Nat.zero_add, List.nil_append] at hO10_
            rw [Nat.zero_add]
            have lo12_ := low_own lo2_ (low_z lo2_ Hb0.out) hE6_ hg11_
            refine hK.out _ _ (by have hq := HI0.out.below (low_b lo12_ Hb0.out); exact ⟨by rw [hq.bkS.cell]; rfl, by rw [hq.bkL.cell]; rfl, by rw [hq.bkR.cell]; rfl, by rw [hq.bkR.cell]; rfl⟩) (fun hHeld => ?_)
            clear hK K
            first | simp only [Act.put, List.setIfInBounds_toArray, List.set_cons_zero, List.set_cons_succ] | skip
            refine wpAnyH_ready (rs := [7, 10]) (by kernel_rfl) (by simp) ?_
            refine AllReadyH.cons rfl (fun K hK => ?_) (AllReadyH.cons rfl (fun K hK => ?_) AllReadyH.nil)
            · skip
              go_simp
              have hal := (Below.refl y9_.heap.size y9_).alloc (Nat.le_refl _) (.cells #[.string x0, .string x1] 68)
              have lo14_ := lo12_.trans (hal.mono (low_z lo12_ Hb0.out))
              have z16_ := low_z lo12_ Hb0.out
              have hO517_ := own_keep hO10_ hal (Nat.le_refl _)
              have bk15_ := Bk.new y9_ 68 #[.string x0, .string x1]
              refine hK.out _ _ (by have hq := HI0.out.below (low_b lo14_ Hb0.out); exact ⟨by rw [hq.bkS.cell]; rfl, by rw [hq.bkL.cell]; rfl, by rw [hq.bkR.cell]; rfl, by rw [hq.bkR.cell]; rfl⟩) (fun hHeld => ?_)
              clear hK K
              first | simp only [Act.put, List.setIfInBounds_toArray, List.set_cons_zero, List.set_cons_succ] | skip
              clear hal
              obtain ⟨b18_, hb⟩ : ∃ z, z = (World.heap y9_).size := ⟨_, rfl⟩
              obtain ⟨y13_, hy⟩ : ∃ z, z = World.alloc y9_ (.cells #[.string x0, .string x1] 68) := ⟨_, rfl⟩
              rw [← hy] at lo14_ hO517_ bk15_
              rw [← hb] at bk15_
              rw [← hy, ← hb]
              clear hy hb
              refine wpAnyH_ready (rs := [8, 10]) (by kernel_rfl) (by simp) ?_
              refine AllReadyH.cons rfl (fun K hK => ?_) (AllReadyH.cons rfl (fun K hK => ?_) AllReadyH.nil)
              · skip
                refine step_append_rd y13_ rfl _ _ 23 rfl b0 68 2 32 _ Tryz.underlying23 info_Rule rfl (by omega) (.slice A7_ k c8_) k (cellsRule (stayL rs (x0, x1))) rfl hO517_ (some ⟨b18_, 0, none⟩) 1 1 [.string x0, .string x1] rfl rfl (rd_bk bk15_) (one_cell_ruleP _ _) (by unfold maxLen; omega) (by omega) (low_z lo14_ Hb0.out) ?_; intro A19_ c20_ y21_ hO22_ hg23_
                have lo24_ := low_own lo14_ (low_z lo14_ Hb0.out) hO517_ hg23_
                refine hK.out _ _ (by have hq := HI0.out.below (low_b lo24_ Hb0.out); exact ⟨by rw [hq.bkS.cell]; rfl, by rw [hq.bkL.cell]; rfl, by rw [hq.bkR.cell]; rfl, by rw [hq.bkR.cell]; rfl⟩) (fun hHeld => ?_)
                clear hK K
                first | simp only [Act.put, List.setIfInBounds_toArray, List.set_cons_zero, List.set_cons_succ] | skip
                refine wpAnyH_take (i := 9) (oi := ?oi422) (v := ?val422) ?hi422 ?hs422 ?hf422 ?hr422 ?hQ422 ?hy422 ?hS422 ?hrest422
                case hi422 => (simp only [List.getElem?_toArray, List.getElem?_cons_succ, List.getElem?_cons_zero] <;> exact rfl)
                case hs422 => kernel_rfl
                case hf422 => kernel_rfl
                case hr422 => kernel_rfl
                case hQ422 => exact fun _ _ _ h => h
                case hS422 => assumption
                case hy422 => (refine Or.inl ⟨by rfl, ?_⟩; intro w hSw; (try dsimp only at hSw); obtain ⟨z0, z1, z2, z3⟩ := hSw; go_simp; try with_reducible rfl)
                simp only [Act.put, List.setIfInBounds_toArray, List.set_cons_zero, List.set_cons_succ]
                refine wpAnyH_ready (rs := [10]) (by kernel_rfl) (by simp) ?_
                refine AllReadyH.cons rfl (fun K hK => ?_) AllReadyH.nil
                go_simp
                have hal := (Below.refl y21_.heap.size y21_).alloc (Nat.le_refl _) (.cells #[.int .i64 0, .slice none 0 0] 25)
                have lo26_ := lo24_.trans (hal.mono (low_z lo24_ Hb0.out))
                have z28_ := low_z lo24_ Hb0.out
                have hO829_ := own_keep hO22_ hal (Nat.le_refl _)
                have bk27_ := Bk.new y21_ 25 #[.int .i64 0, .slice none 0 0]
                refine hK.out _ _ (by have hq := HI0.out.below (low_b lo26_ Hb0.out); exact ⟨by rw [hq.bkS.cell]; rfl, by rw [hq.bkL.cell]; rfl, by rw [hq.bkR.cell]; rfl, by rw [hq.bkR.cell]; rfl⟩) (fun hHeld => ?_)
                clear hK K
                first | simp only [Act.put, List.setIfInBounds_toArray, List.set_cons_zero, List.set_cons_succ] | skip
                clear hal
                obtain ⟨r30_, hb⟩ : ∃ z, z = (World.heap y21_).size := ⟨_, rfl⟩
                obtain ⟨y25_, hy⟩ : ∃ z, z = World.alloc y21_ (.cells #[.int .i64 0, .slice none 0 0] 25) := ⟨_, rfl⟩
                rw [← hy] at lo26_ hO829_ bk27_
                rw [← hb] at bk27_ z28_
                rw [← hy, ← hb]
                clear hy hb
                exact hkey A7_ c8_ _ _ e5_ b18_ r30_ _ ⟨lo26_, bk27_, z28_, hO829_⟩
              · skip
                go_simp
                have hal := (Below.refl y13_.heap.size y13_).alloc (Nat.le_refl _) (.cells #[.int .i64 0, .slice none 0 0] 25)
                have lo32_ := lo14_.trans (hal.mono (low_z lo14_ Hb0.out))
                have z34_ := low_z lo14_ Hb0.out
                have hO535_ := own_keep hO517_ hal (Nat.le_refl _)
                have hY36_ := bk15_.below hal bk15_.lt
                have bk33_ := Bk.new y13_ 25 #[.int .i64 0, .slice none 0 0]
                refine hK.out _ _ (by have hq := HI0.out.below (low_b lo32_ Hb0.out); exact ⟨by rw [hq.bkS.cell]; rfl, by rw [hq.bkL.cell]; rfl, by rw [hq.bkR.cell]; rfl, by rw [hq.bkR.cell]; rfl⟩) (fun hHeld => ?_)
                clear hK K
                first | simp only [Act.put, List.setIfInBounds_toArray, List.set_cons_zero, List.set_cons_succ] | skip
                clear hal
                obtain ⟨r37_, hb⟩ : ∃ z, z = (World.heap y13_).size := ⟨_, rfl⟩
                obtain ⟨y31_, hy⟩ : ∃ z, z = World.alloc y13_ (.cells #[.int .i64 0, .slice none 0 0] 25) := ⟨_, rfl⟩
                rw [← hy] at lo32_ hO535_ hY36_ bk33_
                rw [← hb] at bk33_ z34_
                rw [← hy, ← hb]
                clear hy hb
                refine wpAnyH_ready (rs := [8]) (by kernel_rfl) (by simp) ?_
                refine AllReadyH.cons rfl (fun K hK => ?_) AllReadyH.nil
                refine step_append_rd y31_ rfl _ _ 23 rfl b0 68 2 32 _ Tryz.underlying23 info_Rule rfl (by omega) (.slice A7_ k c8_) k (cellsRule (stayL rs (x0, x1))) rfl hO535_ (some ⟨b18_, 0, none⟩) 1 1 [.string x0, .string x1] rfl rfl (rd_bk hY36_) (one_cell_ruleP _ _) (by unfold maxLen; omega) (by omega) (low_z lo32_ Hb0.out) ?_; intro A38_ c39_ y40_ hO41_ hg42_
                have lo43_ := low_own lo32_ (low_z lo32_ Hb0.out) hO535_ hg42_
                have hS44_ := bk33_.app hO535_ hg42_ (by decide)
                refine hK.out _ _ (by have hq := HI0.out.below (low_b lo43_ Hb0.out); exact ⟨by rw [hq.bkS.cell]; rfl, by rw [hq.bkL.cell]; rfl, by rw [hq.bkR.cell]; rfl, by rw [hq.bkR.cell]; rfl⟩) (fun hHeld => ?_)
                clear hK K
                first | simp only [Act.put, List.setIfInBounds_toArray, List.set_cons_zero, List.set_cons_succ] | skip
                refine wpAnyH_take (i := 9) (oi := ?oi476) (v := ?val476) ?hi476 ?hs476 ?hf476 ?hr476 ?hQ476 ?hy476 ?hS476 ?hrest476
                case hi476 => (simp only [List.getElem?_toArray, List.getElem?_cons_succ, List.getElem?_cons_zero] <;> exact rfl)
                case hs476 => kernel_rfl
                case hf476 => kernel_rfl
                case hr476 => kernel_rfl
                case hQ476 => exact fun _ _ _ h => h
                case hS476 => assumption
                case hy476 => (refine Or.inl ⟨by rfl, ?_⟩; intro w hSw; (try dsimp only at hSw); obtain ⟨z0, z1, z2, z3⟩ := hSw; go_simp; try with_reducible rfl)
                simp only [Act.put, List.setIfInBounds_toArray, List.set_cons_zero, List.set_cons_succ]
                exact hkey A7_ c8_ _ _ e5_ b18_ r37_ _ ⟨lo43_, hS44_, z34_, hO41_⟩
            · skip
              go_simp
              have hal := (Below.refl y9_.heap.size y9_).alloc (Nat.le_refl _) (.cells #[.int .i64 0, .slice none 0 0] 25)
              have lo46_ := lo12_.trans (hal.mono (low_z lo12_ Hb0.out))
              have z48_ := low_z lo12_ Hb0.out
              have hO549_ := own_keep hO10_ hal (Nat.le_refl _)
              have bk47_ := Bk.new y9_ 25 #[.int .i64 0, .slice none 0 0]
              refine hK.out _ _ (by have hq := HI0.out.below (low_b lo46_ Hb0.out); exact ⟨by rw [hq.bkS.cell]; rfl, by rw [hq.bkL.cell]; rfl, by rw [hq.bkR.cell]; rfl, by rw [hq.bkR.cell]; rfl⟩) (fun hHeld => ?_)
              clear hK K
              first | simp only [Act.put, List.setIfInBounds_toArray, List.set_cons_zero, List.set_cons_succ] | skip
              clear hal
              obtain ⟨r50_, hb⟩ : ∃ z, z = (World.heap y9_).size := ⟨_, rfl⟩
              obtain ⟨y45_, hy⟩ : ∃ z, z = World.alloc y9_ (.cells #[.int .i64 0, .slice none 0 0] 25) := ⟨_, rfl⟩
              rw [← hy] at lo46_ hO549_ bk47_
              rw [← hb] at bk47_ z48_
              rw [← hy, ← hb]
              clear hy hb
              refine wpAnyH_ready (rs := [7]) (by kernel_rfl) (by simp) ?_
              refine AllReadyH.cons rfl (fun K hK => ?_) AllReadyH.nil
              go_simp
              have hal := (Below.refl y45_.heap.size y45_).alloc (Nat.le_refl _) (.cells #[.string x0, .string x1] 68)
              have lo52_ := lo46_.trans (hal.mono (low_z lo46_ Hb0.out))
              have z54_ := low_z lo46_ Hb0.out
              have hO555_ := own_keep hO549_ hal (Nat.le_refl _)
              have hS56_ := bk47_.below hal bk47_.lt
              have bk53_ := Bk.new y45_ 68 #[.string x0, .string x1]
              refine hK.out _ _ (by have hq := HI0.out.below (low_b lo52_ Hb0.out); exact ⟨by rw [hq.bkS.cell]; rfl, by rw [hq.bkL.cell]; rfl, by rw [hq.bkR.cell]; rfl, by rw [hq.bkR.cell]; rfl⟩) (fun hHeld => ?_)
              clear hK K
              first | simp only [Act.put, List.setIfInBounds_toArray, List.set_cons_zero, List.set_cons_succ] | skip
              clear hal
              obtain ⟨b57_, hb⟩ : ∃ z, z = (World.heap y45_).size := ⟨_, rfl⟩
              obtain ⟨y51_, hy⟩ : ∃ z, z = World.alloc y45_ (.cells #[.string x0, .string x1] 68) := ⟨_, rfl⟩
              rw [← hy] at lo52_ hO555_ hS56_ bk53_
              rw [← hb] at bk53_
              rw [← hy, ← hb]
              clear hy hb
              refine wpAnyH_ready (rs := [8]) (by kernel_rfl) (by simp) ?_
              refine AllReadyH.cons rfl (fun K hK => ?_) AllReadyH.nil
              refine step_append_rd y51_ rfl _ _ 23 rfl b0 68 2 32 _ Tryz.underlying23 info_Rule rfl (by omega) (.slice A7_ k c8_) k (cellsRule (stayL rs (x0, x1))) rfl hO555_ (some ⟨b57_, 0, none⟩) 1 1 [.string x0, .string x1] rfl rfl (rd_bk bk53_) (one_cell_ruleP _ _) (by unfold maxLen; omega) (by omega) (low_z lo52_ Hb0.out) ?_; intro A58_ c59_ y60_ hO61_ hg62_
              have lo63_ := low_own lo52_ (low_z lo52_ Hb0.out) hO555_ hg62_
              have hS64_ := hS56_.app hO555_ hg62_ (by decide)
              refine hK.out _ _ (by have hq := HI0.out.below (low_b lo63_ Hb0.out); exact ⟨by rw [hq.bkS.cell]; rfl, by rw [hq.bkL.cell]; rfl, by rw [hq.bkR.cell]; rfl, by rw [hq.bkR.cell]; rfl⟩) (fun hHeld => ?_)
              clear hK K
              first | simp only [Act.put, List.setIfInBounds_toArray, List.set_cons_zero, List.set_cons_succ] | skip
              refine wpAnyH_take (i := 9) (oi := ?oi530) (v := ?val530) ?hi530 ?hs530 ?hf530 ?hr530 ?hQ530 ?hy530 ?hS530 ?hrest530
              case hi530 => (simp only [List.getElem?_toArray, List.getElem?_cons_succ, List.getElem?_cons_zero] <;> exact rfl)
              case hs530 => kernel_rfl
              case hf530 => kernel_rfl
              case hr530 => kernel_rfl
              case hQ530 => exact fun _ _ _ h => h
              case hS530 => assumption
              case hy530 => (refine Or.inl ⟨by rfl, ?_⟩; intro w hSw; (try dsimp only at hSw); obtain ⟨z0, z1, z2, z3⟩ := hSw; go_simp; try with_reducible rfl)
              simp only [Act.put, List.setIfInBounds_toArray, List.set_cons_zero, List.set_cons_succ]
              exact hkey A7_ c8_ _ _ e5_ b57_ r50_ _ ⟨lo63_, hS64_, z48_, hO61_⟩
          · skip
            go_simp
            have hal := (Below.refl y1_.heap.size y1_).alloc (Nat.le_refl _) (.cells #[.string x0, .string x1] 68)
            have lo66_ := lo2_.trans (hal.mono (low_z lo2_ Hb0.out))
            have z68_ := low_z lo2_ Hb0.out
            have hE69_ := own_keep hE6_ hal (Nat.le_refl _)
            have bk67_ := Bk.new y1_ 68 #[.string x0, .string x1]
            have ne71_ : e5_ ≠ y1_.heap.size := by have := (hE6_.lt e5_ rfl).2; omega
            refine hK.out _ _ (by have hq := HI0.out.below (low_b lo66_ Hb0.out); exact ⟨by rw [hq.bkS.cell]; rfl, by rw [hq.bkL.cell]; rfl, by rw [hq.bkR.cell]; rfl, by rw [hq.bkR.cell]; rfl⟩) (fun hHeld => ?_)
            clear hK K
            first | simp only [Act.put, List.setIfInBounds_toArray, List.set_cons_zero, List.set_cons_succ] | skip
            clear hal
            obtain ⟨b70_, hb⟩ : ∃ z, z = (World.heap y1_).size := ⟨_, rfl⟩
            obtain ⟨y65_, hy⟩ : ∃ z, z = World.alloc y1_ (.cells #[.string x0, .string x1] 68) := ⟨_, rfl⟩
            rw [← hy] at lo66_ hE69_ bk67_
            rw [← hb] at bk67_ ne71_
            rw [← hy, ← hb]
            clear hy hb
            refine wpAnyH_ready (rs := [5, 10]) (by kernel_rfl) (by simp) ?_
            refine AllReadyH.cons rfl (fun K hK => ?_) (AllReadyH.cons rfl (fun K hK => ?_) AllReadyH.nil)
            · skip
              refine step_append_rd y65_ rfl _ _ 23 rfl b0 68 2 32 _ Tryz.underlying23 info_Rule rfl (by omega) (.slice (some ⟨e5_, 0, none⟩) 0 0) 0 [] rfl hE69_ L k e (cellsRule (stayL rs (x0, x1))) rfl Hkl.out (HL0.out.keep (low_b lo66_ Hb0.out)) (one_cell_rules _) (by unfold maxLen; omega) (by omega) (low_z lo66_ Hb0.out) ?_; intro A72_ c73_ y74_ hO75_ hg76_
              rw [Nat.zero_add, List.nil_append] at hO75_
              rw [Nat.zero_add]
              have lo77_ := low_own lo66_ (low_z lo66_ Hb0.out) hE69_ hg76_
              have hY78_ := bk67_.grown hg76_ (by intro e9; injection e9 with e9; exact ne71_ e9.symm)
              refine hK.out _ _ (by have hq := HI0.out.below (low_b lo77_ Hb0.out); exact ⟨by rw [hq.bkS.cell]; rfl, by rw [hq.bkL.cell]; rfl, by rw [hq.bkR.cell]; rfl, by rw [hq.bkR.cell]; rfl⟩) (fun hHeld => ?_)
              clear hK K
              first | simp only [Act.put, List.setIfInBounds_toArray, List.set_cons_zero, List.set_cons_succ] | skip
              refine wpAnyH_ready (rs := [8, 10]) (by kernel_rfl) (by simp) ?_
              refine AllReadyH.cons rfl (fun K hK => ?_) (AllReadyH.cons rfl (fun K hK => ?_) AllReadyH.nil)
              · skip
                refine step_append_rd y74_ rfl _ _ 23 rfl b0 68 2 32 _ Tryz.underlying23 info_Rule rfl (by omega) (.slice A72_ k c73_) k (cellsRule (stayL rs (x0, x1))) rfl hO75_ (some ⟨b70_, 0, none⟩) 1 1 [.string x0, .string x1] rfl rfl (rd_bk hY78_) (one_cell_ruleP _ _) (by unfold maxLen; omega) (by omega) (low_z lo77_ Hb0.out) ?_; intro A79_ c80_ y81_ hO82_ hg83_
                have lo84_ := low_own lo77_ (low_z lo77_ Hb0.out) hO75_ hg83_
                refine hK.out _ _ (by have hq := HI0.out.below (low_b lo84_ Hb0.out); exact ⟨by rw [hq.bkS.cell]; rfl, by rw [hq.bkL.cell]; rfl, by rw [hq.bkR.cell]; rfl, by rw [hq.bkR.cell]; rfl⟩) (fun hHeld => ?_)
                clear hK K
                first | simp only [Act.put, List.setIfInBounds_toArray, List.set_cons_zero, List.set_cons_succ] | skip
                refine wpAnyH_take (i := 9) (oi := ?oi577) (v := ?val577) ?hi577 ?hs577 ?hf577 ?hr577 ?hQ577 ?hy577 ?hS577 ?hrest577
                case hi577 => (simp only [List.getElem?_toArray, List.getElem?_cons_succ, List.getElem?_cons_zero] <;> exact rfl)
                case hs577 => kernel_rfl
                case hf577 => kernel_rfl
                case hr577 => kernel_rfl
                case hQ577 => exact fun _ _ _ h => h
                case hS577 => assumption
                case hy577 => (refine Or.inl ⟨by rfl, ?_⟩; intro w hSw; (try dsimp only at hSw); obtain ⟨z0, z1, z2, z3⟩ := hSw; go_simp; try with_reducible rfl)
                simp only [Act.put, List.setIfInBounds_toArray, List.set_cons_zero, List.set_cons_succ]
                refine wpAnyH_ready (rs := [10]) (by kernel_rfl) (by simp) ?_
                refine AllReadyH.cons rfl (fun K hK => ?_) AllReadyH.nil
                go_simp
                have hal := (Below.refl y81_.heap.size y81_).alloc (Nat.le_refl _) (.cells #[.int .i64 0, .slice none 0 0] 25)
                have lo86_ := lo84_.trans (hal.mono (low_z lo84_ Hb0.out))
                have z88_ := low_z lo84_ Hb0.out
                have hO889_ := own_keep hO82_ hal (Nat.le_refl _)
                have bk87_ := Bk.new y81_ 25 #[.int .i64 0, .slice none 0 0]
                refine hK.out _ _ (by have hq := HI0.out.below (low_b lo86_ Hb0.out); exact ⟨by rw [hq.bkS.cell]; rfl, by rw [hq.bkL.cell]; rfl, by rw [hq.bkR.cell]; rfl, by rw [hq.bkR.cell]; rfl⟩) (fun hHeld => ?_)
                clear hK K
                first | simp only [Act.put, List.setIfInBounds_toArray, List.set_cons_zero, List.set_cons_succ] | skip
                clear hal
                obtain ⟨r90_, hb⟩ : ∃ z, z = (World.heap y81_).size := ⟨_, rfl⟩
                obtain ⟨y85_, hy⟩ : ∃ z, z = World.alloc y81_ (.cells #[.int .i64 0, .slice none 0 0] 25) := ⟨_, rfl⟩
                rw [← hy] at lo86_ hO889_ bk87_
                rw [← hb] at bk87_ z88_
                rw [← hy, ← hb]
                clear hy hb
                exact hkey A72_ c73_ _ _ e5_ b70_ r90_ _ ⟨lo86_, bk87_, z88_, hO889_⟩
              · skip
                go_simp
                have hal := (Below.refl y74_.heap.size y74_).alloc (Nat.le_refl _) (.cells #[.int .i64 0, .slice none 0 0] 25)
                have lo92_ := lo77_.trans (hal.mono (low_z lo77_ Hb0.out))
                have z94_ := low_z lo77_ Hb0.out
                have hO595_ := own_keep hO75_ hal (Nat.le_refl _)
                have hY96_ := hY78_.below hal hY78_.lt
                have bk93_ := Bk.new y74_ 25 #[.int .i64 0, .slice none 0 0]
                refine hK.out _ _ (by have hq := HI0.out.below (low_b lo92_ Hb0.out); exact ⟨by rw [hq.bkS.cell]; rfl, by rw [hq.bkL.cell]; rfl, by rw [hq.bkR.cell]; rfl, by rw [hq.bkR.cell]; rfl⟩) (fun hHeld => ?_)
                clear hK K
                first | simp only [Act.put, List.setIfInBounds_toArray, List.set_cons_zero, List.set_cons_succ] | skip
                clear hal
                obtain ⟨r97_, hb⟩ : ∃ z, z = (World.heap y74_).size := ⟨_, rfl⟩
                obtain ⟨y91_, hy⟩ : ∃ z, z = World.alloc y74_ (.cells #[.int .i64 0, .slice none 0 0] 25) := ⟨_, rfl⟩
                rw [← hy] at lo92_ hO595_ hY96_ bk93_
                rw [← hb] at bk93_ z94_
                rw [← hy, ← hb]
                clear hy hb
                refine wpAnyH_ready (rs := [8]) (by kernel_rfl) (by simp) ?_
                refine AllReadyH.cons rfl (fun K hK => ?_) AllReadyH.nil
                refine step_append_rd y91_ rfl _ _ 23 rfl b0 68 2 32 _ Tryz.underlying23 info_Rule rfl (by omega) (.slice A72_ k c73_) k (cellsRule (stayL rs (x0, x1))) rfl hO595_ (some ⟨b70_, 0, none⟩) 1 1 [.string x0, .string x1] rfl rfl (rd_bk hY96_) (one_cell_ruleP _ _) (by unfold maxLen; omega) (by omega) (low_z lo92_ Hb0.out) ?_; intro A98_ c99_ y100_ hO101_ hg102_
                have lo103_ := low_own lo92_ (low_z lo92_ Hb0.out) hO595_ hg102_
                have hS104_ := bk93_.app hO595_ hg102_ (by decide)
                refine hK.out _ _ (by have hq := HI0.out.below (low_b lo103_ Hb0.out); exact ⟨by rw [hq.bkS.cell]; rfl, by rw [hq.bkL.cell]; rfl, by rw [hq.bkR.cell]; rfl, by rw [hq.bkR.cell]; rfl⟩) (fun hHeld => ?_)
                clear hK K
                first | simp only [Act.put, List.setIfInBounds_toArray, List.set_cons_zero, List.set_cons_succ] | skip
                refine wpAnyH_take (i := 9) (oi := ?oi631) (v := ?val631) ?hi631 ?hs631 ?hf631 ?hr631 ?hQ631 ?hy631 ?hS631 ?hrest631
                case hi631 => (simp only [List.getElem?_toArray, List.getElem?_cons_succ, List.getElem?_cons_zero] <;> exact rfl)
                case hs631 => kernel_rfl
                case hf631 => kernel_rfl
                case hr631 => kernel_rfl
                case hQ631 => exact fun _ _ _ h => h
                case hS631 => assumption
                case hy631 => (refine Or.inl ⟨by rfl, ?_⟩; intro w hSw; (try dsimp only at hSw); obtain ⟨z0, z1, z2, z3⟩ := hSw; go_simp; try with_reducible rfl)
                simp only [Act.put, List.setIfInBounds_toArray, List.set_cons_zero, List.set_cons_succ]
                exact hkey A72_ c73_ _ _ e5_ b70_ r97_ _ ⟨lo103_, hS104_, z94_, hO101_⟩
            · skip
              go_simp
              have hal := (Below.refl y65_.heap.size y65_).alloc (Nat.le_refl _) (.cells #[.int .i64 0, .slice none 0 0] 25)
              have lo106_ := lo66_.trans (hal.mono (low_z lo66_ Hb0.out))
              have z108_ := low_z lo66_ Hb0.out
              have hE109_ := own_keep hE69_ hal (Nat.le_refl _)
              have hY110_ := bk67_.below hal bk67_.lt
              have bk107_ := Bk.new y65_ 25 #[.int .i64 0, .slice none 0 0]
              refine hK.out _ _ (by have hq := HI0.out.below (low_b lo106_ Hb0.out); exact ⟨by rw [hq.bkS.cell]; rfl, by rw [hq.bkL.cell]; rfl, by rw [hq.bkR.cell]; rfl, by rw [hq.bkR.cell]; rfl⟩) (fun hHeld => ?_)
              clear hK K
              first | simp only [Act.put, List.setIfInBounds_toArray, List.set_cons_zero, List.set_cons_succ] | skip
              clear hal
              obtain ⟨r111_, hb⟩ : ∃ z, z = (World.heap y65_).size := ⟨_, rfl⟩
              obtain ⟨y105_, hy⟩ : ∃ z, z = World.alloc y65_ (.cells #[.int .i64 0, .slice none 0 0] 25) := ⟨_, rfl⟩
              rw [← hy] at lo106_ hE109_ hY110_ bk107_
              rw [← hb] at bk107_ z108_
              rw [← hy, ← hb]
              clear hy hb
              refine wpAnyH_ready (rs := [5]) (by kernel_rfl) (by simp) ?_
              refine AllReadyH.cons rfl (fun K hK => ?_) AllReadyH.nil
              refine step_append_rd y105_ rfl _ _ 23 rfl b0 68 2 32 _ Tryz.underlying23 info_Rule rfl (by omega) (.slice (some ⟨e5_, 0, none⟩) 0 0) 0 [] rfl hE109_ L k e (cellsRule (stayL rs (x0, x1))) rfl Hkl.out (HL0.out.keep (low_b lo106_ Hb0.out)) (one_cell_rules _) (by unfold maxLen; omega) (by omega) (low_z lo106_ Hb0.out) ?_; intro A112_ c113_ y114_ hO115_ hg116_
              rw [Nat.zero_add, List.nil_append] at hO115_
              rw [Nat.zero_add]
              have lo117_ := low_own lo106_ (low_z lo106_ Hb0.out) hE109_ hg116_
              have hS118_ := bk107_.app hE109_ hg116_ (by decide)
              have hY119_ := hY110_.grown hg116_ (by intro e9; injection e9 with e9; exact ne71_ e9.symm)
              refine hK.out _ _ (by have hq := HI0.out.below (low_b lo117_ Hb0.out); exact ⟨by rw [hq.bkS.cell]; rfl, by rw [hq.bkL.cell]; rfl, by rw [hq.bkR.cell]; rfl, by rw [hq.bkR.cell]; rfl⟩) (fun hHeld => ?_)
              clear hK K
              first | simp only [Act.put, List.setIfInBounds_toArray, List.set_cons_zero, List.set_cons_succ] | skip
              refine wpAnyH_ready (rs := [8]) (by kernel_rfl) (by simp) ?_
              refine AllReadyH.cons rfl (fun K hK => ?_) AllReadyH.nil
              refine step_append_rd y114_ rfl _ _ 23 rfl b0 68 2 32 _ Tryz.underlying23 info_Rule rfl (by omega) (.slice A112_ k c113_) k (cellsRule (stayL rs (x0, x1))) rfl hO115_ (some ⟨b70_, 0, none⟩) 1 1 [.string x0, .string x1] rfl rfl (rd_bk hY119_) (one_cell_ruleP _ _) (by unfold maxLen; omega) (by omega) (low_z lo117_ Hb0.out) ?_; intro A120_ c121_ y122_ hO123_ hg124_
              have lo125_ := low_own lo117_ (low_z lo117_ Hb0.out) hO115_ hg124_
              have hS126_ := hS118_.app hO115_ hg124_ (by decide)
              refine hK.out _ _ (by have hq := HI0.out.below (low_b lo125_ Hb0.out); exact ⟨by rw [hq.bkS.cell]; rfl, by rw [hq.bkL.cell]; rfl, by rw [hq.bkR.cell]; rfl, by rw [hq.bkR.cell]; rfl⟩) (fun hHeld => ?_)
              clear hK K
              first | simp only [Act.put, List.setIfInBounds_toArray, List.set_cons_zero, List.set_cons_succ] | skip
              refine wpAnyH_take (i := 9) (oi := ?oi678) (v := ?val678) ?hi678 ?hs678 ?hf678 ?hr678 ?hQ678 ?hy678 ?hS678 ?hrest678
              case hi678 => (simp only [List.getElem?_toArray, List.getElem?_cons_succ, List.getElem?_cons_zero] <;> exact rfl)
              case hs678 => kernel_rfl
              case hf678 => kernel_rfl
              case hr678 => kernel_rfl
              case hQ678 => exact fun _ _ _ h => h
              case hS678 => assumption
              case hy678 => (refine Or.inl ⟨by rfl, ?_⟩; intro w hSw; (try dsimp only at hSw); obtain ⟨z0, z1, z2, z3⟩ := hSw; go_simp; try with_reducible rfl)
              simp only [Act.put, List.setIfInBounds_toArray, List.set_cons_zero, List.set_cons_succ]
              exact hkey A112_ c113_ _ _ e5_ b70_ r111_ _ ⟨lo125_, hS126_, z108_, hO123_⟩
          · skip
            go_simp
            have hal := (Below.refl y1_.heap.size y1_).alloc (Nat.le_refl _) (.cells #[.int .i64 0, .slice none 0 0] 25)
            have lo128_ := lo2_.trans (hal.mono (low_z lo2_ Hb0.out))
            have z130_ := low_z lo2_ Hb0.out
            have hE131_ := own_keep hE6_ hal (Nat.le_refl _)
            have bk129_ := Bk.new y1_ 25 #[.int .i64 0, .slice none 0 0]
            refine hK.out _ _ (by have hq := HI0.out.below (low_b lo128_ Hb0.out); exact ⟨by rw [hq.bkS.cell]; rfl, by rw [hq.bkL.cell]; rfl, by rw [hq.bkR.cell]; rfl, by rw [hq.bkR.cell]; rfl⟩) (fun hHeld => ?_)
            clear hK K
            first | simp only [Act.put, List.setIfInBounds_toArray, List.set_cons_zero, List.set_cons_succ] | skip
            clear hal
            obtain ⟨r132_, hb⟩ : ∃ z, z = (World.heap y1_).size := ⟨_, rfl⟩
            obtain ⟨y127_, hy⟩ : ∃ z, z = World.alloc y1_ (.cells #[.int .i64 0, .slice none 0 0] 25) := ⟨_, rfl⟩
            rw [← hy] at lo128_ hE131_ bk129_
            rw [← hb] at bk129_ z130_
            rw [← hy, ← hb]
            clear hy hb
            refine wpAnyH_ready (rs := [5, 7]) (by kernel_rfl) (by simp) ?_
            refine AllReadyH.cons rfl (fun K hK => ?_) (AllReadyH.cons rfl (fun K hK => ?_) AllReadyH.nil)
            · skip
              refine step_append_rd y127_ rfl _ _ 23 rfl b0 68 2 32 _ Tryz.underlying23 info_Rule rfl (by omega) (.slice (some ⟨e5_, 0, none⟩) 0 0) 0 [] rfl hE131_ L k e (cellsRule (stayL rs (x0, x1))) rfl Hkl.out (HL0.out.keep (low_b lo128_ Hb0.out)) (one_cell_rules _) (by unfold maxLen; omega) (by omega) (low_z lo128_ Hb0.out) ?_; intro A133_ c134_ y135_ hO136_ hg137_
              rw [Nat.zero_add, List.nil_append] at hO136_
              rw [Nat.zero_add]
              have lo138_ := low_own lo128_ (low_z lo128_ Hb0.out) hE131_ hg137_
              have hS139_ := bk129_.app hE131_ hg137_ (by decide)
              refine hK.out _ _ (by have hq := HI0.out.below (low_b lo138_ Hb0.out); exact ⟨by rw [hq.bkS.cell]; rfl, by rw [hq.bkL.cell]; rfl, by rw [hq.bkR.cell]; rfl, by rw [hq.bkR.cell]; rfl⟩) (fun hHeld => ?_)
              clear hK K
              first | simp only [Act.put, List.setIfInBounds_toArray, List.set_cons_zero, List.set_cons_succ] | skip
              refine wpAnyH_ready (rs := [7]) (by kernel_rfl) (by simp) ?_
              refine AllReadyH.cons rfl (fun K hK => ?_) AllReadyH.nil
              go_simp
              have hal := (Below.refl y135_.heap.size y135_).alloc (Nat.le_refl _) (.cells #[.string x0, .string x1] 68)
              have lo141_ := lo138_.trans (hal.mono (low_z lo138_ Hb0.out))
              have z143_ := low_z lo138_ Hb0.out
              have hO5144_ := own_keep hO136_ hal (Nat.le_refl _)
              have hS145_ := hS139_.below hal hS139_.lt
              have bk142_ := Bk.new y135_ 68 #[.string x0, .string x1]
              refine hK.out _ _ (by have hq := HI0.out.below (low_b lo141_ Hb0.out); exact ⟨by rw [hq.bkS.cell]; rfl, by rw [hq.bkL.cell]; rfl, by rw [hq.bkR.cell]; rfl, by rw [hq.bkR.cell]; rfl⟩) (fun hHeld => ?_)
              clear hK K
              first | simp only [Act.put, List.setIfInBounds_toArray, List.set_cons_zero, List.set_cons_succ] | skip
              clear hal
              obtain ⟨b146_, hb⟩ : ∃ z, z = (World.heap y135_).size := ⟨_, rfl⟩
              obtain ⟨y140_, hy⟩ : ∃ z, z = World.alloc y135_ (.cells #[.string x0, .string x1] 68) := ⟨_, rfl⟩
              rw [← hy] at lo141_ hO5144_ hS145_ bk142_
              rw [← hb] at bk142_
              rw [← hy, ← hb]
              clear hy hb
              refine wpAnyH_ready (rs := [8]) (by kernel_rfl) (by simp) ?_
              refine AllReadyH.cons rfl (fun K hK => ?_) AllReadyH.nil
              refine step_append_rd y140_ rfl _ _ 23 rfl b0 68 2 32 _ Tryz.underlying23 info_Rule rfl (by omega) (.slice A133_ k c134_) k (cellsRule (stayL rs (x0, x1))) rfl hO5144_ (some ⟨b146_, 0, none⟩) 1 1 [.string x0, .string x1] rfl rfl (rd_bk bk142_) (one_cell_ruleP _ _) (by unfold maxLen; omega) (by omega) (low_z lo141_ Hb0.out) ?_; intro A147_ c148_ y149_ hO150_ hg151_
              have lo152_ := low_own lo141_ (low_z lo141_ Hb0.out) hO5144_ hg151_
              have hS153_ := hS145_.app hO5144_ hg151_ (by decide)
              refine hK.out _ _ (by have hq := HI0.out.below (low_b lo152_ Hb0.out); exact ⟨by rw [hq.bkS.cell]; rfl, by rw [hq.bkL.cell]; rfl, by rw [hq.bkR.cell]; rfl, by rw [hq.bkR.cell]; rfl⟩) (fun hHeld => ?_)
              clear hK K
              first | simp only [Act.put, List.setIfInBounds_toArray, List.set_cons_zero, List.set_cons_succ] | skip
              refine wpAnyH_take (i := 9) (oi := ?oi743) (v := ?val743) ?hi743 ?hs743 ?hf743 ?hr743 ?hQ743 ?hy743 ?hS743 ?hrest743
              case hi743 => (simp only [List.getElem?_toArray, List.getElem?_cons_succ, List.getElem?_cons_zero] <;> exact rfl)
              case hs743 => kernel_rfl
              case hf743 => kernel_rfl
              case hr743 => kernel_rfl
              case hQ743 => exact fun _ _ _ h => h
              case hS743 => assumption
              case hy743 => (refine Or.inl ⟨by rfl, ?_⟩; intro w hSw; (try dsimp only at hSw); obtain ⟨z0, z1, z2, z3⟩ := hSw; go_simp; try with_reducible rfl)
              simp only [Act.put, List.setIfInBounds_toArray, List.set_cons_zero, List.set_cons_succ]
              exact hkey A133_ c134_ _ _ e5_ b146_ r132_ _ ⟨lo152_, hS153_, z130_, hO150_⟩
            · skip
              go_simp
              have hal := (Below.refl y127_.heap.size y127_).alloc (Nat.le_refl _) (.cells #[.string x0, .string x1] 68)
              have lo155_ := lo128_.trans (hal.mono (low_z lo128_ Hb0.out))
              have z157_ := low_z lo128_ Hb0.out
              have hE158_ := own_keep hE131_ hal (Nat.le_refl _)
              have hS159_ := bk129_.below hal bk129_.lt
              have bk156_ := Bk.new y127_ 68 #[.string x0, .string x1]
              have ne161_ : e5_ ≠ y127_.heap.size := by have := (hE131_.lt e5_ rfl).2; omega
              refine hK.out _ _ (by have hq := HI0.out.below (low_b lo155_ Hb0.out); exact ⟨by rw [hq.bkS.cell]; rfl, by rw [hq.bkL.cell]; rfl, by rw [hq.bkR.cell]; rfl, by rw [hq.bkR.cell]; rfl⟩) (fun hHeld => ?_)
              clear hK K
              first | simp only [Act.put, List.setIfInBounds_toArray, List.set_cons_zero, List.set_cons_succ] | skip
              clear hal
              obtain ⟨b160_, hb⟩ : ∃ z, z = (World.heap y127_).size := ⟨_, rfl⟩
              obtain ⟨y154_, hy⟩ : ∃ z, z = World.alloc y127_ (.cells #[.string x0, .string x1] 68) := ⟨_, rfl⟩
              rw [← hy] at lo155_ hE158_ hS159_ bk156_
              rw [← hb] at bk156_ ne161_
              rw [← hy, ← hb]
              clear hy hb
              refine wpAnyH_ready (rs := [5]) (by kernel_rfl) (by simp) ?_
              refine AllReadyH.cons rfl (fun K hK => ?_) AllReadyH.nil
              refine step_append_rd y154_ rfl _ _ 23 rfl b0 68 2 32 _ Tryz.underlying23 info_Rule rfl (by omega) (.slice (some ⟨e5_, 0, none⟩) 0 0) 0 [] rfl hE158_ L k e (cellsRule (stayL rs (x0, x1))) rfl Hkl.out (HL0.out.keep (low_b lo155_ Hb0.out)) (one_cell_rules _) (by unfold maxLen; omega) (by omega) (low_z lo155_ Hb0.out) ?_; intro A162_ c163_ y164_ hO165_ hg166_
              rw [Nat.zero_add, List.nil_append] at hO165_
              rw [Nat.zero_add]
              have lo167_ := low_own lo155_ (low_z lo155_ Hb0.out) hE158_ hg166_
              have hS168_ := hS159_.app hE158_ hg166_ (by decide)
              have hY169_ := bk156_.grown hg166_ (by intro e9; injection e9 with e9; exact ne161_ e9.symm)
              refine hK.out _ _ (by have hq := HI0.out.below (low_b lo167_ Hb0.out); exact ⟨by rw [hq.bkS.cell]; rfl, by rw [hq.bkL.cell]; rfl, by rw [hq.bkR.cell]; rfl, by rw [hq.bkR.cell]; rfl⟩) (fun hHeld => ?_)
              clear hK K
              first | simp only [Act.put, List.setIfInBounds_toArray, List.set_cons_zero, List.set_cons_succ] | skip
              refine wpAnyH_ready (rs := [8]) (by kernel_rfl) (by simp) ?_
              refine AllReadyH.cons rfl (fun K hK => ?_) AllReadyH.nil
              refine step_append_rd y164_ rfl _ _ 23 rfl b0 68 2 32 _ Tryz.underlying23 info_Rule rfl (by omega) (.slice A162_ k c163_) k (cellsRule (stayL rs (x0, x1))) rfl hO165_ (some ⟨b160_, 0, none⟩) 1 1 [.string x0, .string x1] rfl rfl (rd_bk hY169_) (one_cell_ruleP _ _) (by unfold maxLen; omega) (by omega) (low_z lo167_ Hb0.out) ?_; intro A170_ c171_ y172_ hO173_ hg174_
              have lo175_ := low_own lo167_ (low_z lo167_ Hb0.out) hO165_ hg174_
              have hS176_ := hS168_.app hO165_ hg174_ (by decide)
              refine hK.out _ _ (by have hq := HI0.out.below (low_b lo175_ Hb0.out); exact ⟨by rw [hq.bkS.cell]; rfl, by rw [hq.bkL.cell]; rfl, by rw [hq.bkR.cell]; rfl, by rw [hq.bkR.cell]; rfl⟩) (fun hHeld => ?_)
              clear hK K
              first | simp only [Act.put, List.setIfInBounds_toArray, List.set_cons_zero, List.set_cons_succ] | skip
              refine wpAnyH_take (i := 9) (oi := ?oi791) (v := ?val791) ?hi791 ?hs791 ?hf791 ?hr791 ?hQ791 ?hy791 ?hS791 ?hrest791
              case hi791 => (simp only [List.getElem?_toArray, List.getElem?_cons_succ, List.getElem?_cons_zero] <;> exact rfl)
              case hs791 => kernel_rfl
              case hf791 => kernel_rfl
              case hr791 => kernel_rfl
              case hQ791 => exact fun _ _ _ h => h
              case hS791 => assumption
              case hy791 => (refine Or.inl ⟨by rfl, ?_⟩; intro w hSw; (try dsimp only at hSw); obtain ⟨z0, z1, z2, z3⟩ := hSw; go_simp; try with_reducible rfl)
              simp only [Act.put, List.setIfInBounds_toArray, List.set_cons_zero, List.set_cons_succ]
              exact hkey A162_ c163_ _ _ e5_ b160_ r132_ _ ⟨lo175_, hS176_, z130_, hO173_⟩
        · skip
          go_simp
          have hal := (Below.refl y0.heap.size y0).alloc (Nat.le_refl _) (.cells #[.string x0, .string x1] 68)
          have lo178_ := lo0.trans (hal.mono (low_z lo0 Hb0.out))
          have z180_ := low_z lo0 Hb0.out
          have bk179_ := Bk.new y0 68 #[.string x0, .string x1]
          refine hK.out _ _ (by have hq := HI0.out.below (low_b lo178_ Hb0.out); exact ⟨by rw [hq.bkS.cell]; rfl, by rw [hq.bkL.cell]; rfl, by rw [hq.bkR.cell]; rfl, by rw [hq.bkR.cell]; rfl⟩) (fun hHeld => ?_)
          clear hK K
          first | simp only [Act.put, List.setIfInBounds_toArray, List.set_cons_zero, List.set_cons_succ] | skip
          clear hal
          obtain ⟨b181_, hb⟩ : ∃ z, z = (World.heap y0).size := ⟨_, rfl⟩
          obtain ⟨y177_, hy⟩ : ∃ z, z = World.alloc y0 (.cells #[.string x0, .string x1] 68) := ⟨_, rfl⟩
          rw [← hy] at lo178_ bk179_
          rw [← hb] at bk179_
          rw [← hy, ← hb]
          clear hy hb
          refine wpAnyH_ready (rs := [2, 10]) (by kernel_rfl) (by simp) ?_
          refine AllReadyH.cons rfl (fun K hK => ?_) (AllReadyH.cons rfl (fun K hK => ?_) AllReadyH.nil)
          · skip
            go_simp
            have hal := (Below.refl y177_.heap.size y177_).alloc (Nat.le_refl _) (.cells #[] 68)
            have lo183_ := lo178_.trans (hal.mono (low_z lo178_ Hb0.out))
            have z185_ := low_z lo178_ Hb0.out
            have hY186_ := bk179_.below hal bk179_.lt
            have bk184_ := Bk.new y177_ 68 #[]
            have hE188_ := own_of_bk (base := b0) (m := 2) (n := 0) bk184_ z185_ rfl (by unfold maxLen; omega)
            have ne189_ : y177_.heap.size ≠ b181_ := by have := bk179_.lt; omega
            refine hK.out _ _ (by have hq := HI0.out.below (low_b lo183_ Hb0.out); exact ⟨by rw [hq.bkS.cell]; rfl, by rw [hq.bkL.cell]; rfl, by rw [hq.bkR.cell]; rfl, by rw [hq.bkR.cell]; rfl⟩) (fun hHeld => ?_)
            clear hK K
            first | simp only [Act.put, List.setIfInBounds_toArray, List.set_cons_zero, List.set_cons_succ] | skip
            clear hal
            obtain ⟨e187_, hb⟩ : ∃ z, z = (World.heap y177_).size := ⟨_, rfl⟩
            obtain ⟨y182_, hy⟩ : ∃ z, z = World.alloc y177_ (.cells #[] 68) := ⟨_, rfl⟩
            rw [← hy] at lo183_ hY186_ hE188_ bk184_
            rw [← hb] at hE188_ bk184_ ne189_
            rw [← hy, ← hb]
            clear hy hb
            refine wpAnyH_ready (rs := [5, 10]) (by kernel_rfl) (by simp) ?_
            refine AllReadyH.cons rfl (fun K hK => ?_) (AllReadyH.cons rfl (fun K hK => ?_) AllReadyH.nil)
            · skip
              refine step_append_rd y182_ rfl _ _ 23 rfl b0 68 2 32 _ Tryz.underlying23 info_Rule rfl (by omega) (.slice (some ⟨e187_, 0, none⟩) 0 0) 0 [] rfl hE188_ L k e (cellsRule (stayL rs (x0, x1))) rfl Hkl.out (HL0.out.keep (low_b lo183_ Hb0.out)) (one_cell_rules _) (by unfold maxLen; omega) (by omega) (low_z lo183_ Hb0.out) ?_; intro A190_ c191_ y192_ hO193_ hg194_
              rw [Nat.zero_add, List.nil_append] at hO193_
              rw [Nat.zero_add]
              have lo195_ := low_own lo183_ (low_z lo183_ Hb0.out) hE188_ hg194_
              have hY196_ := hY186_.grown hg194_ (by intro e9; injection e9 with e9; exact ne189_ e9.symm)
              refine hK.out _ _ (by have hq := HI0.out.below (low_b lo195_ Hb0.out); exact ⟨by rw [hq.bkS.cell]; rfl, by rw [hq.bkL.cell]; rfl, by rw [hq.bkR.cell]; rfl, by rw [hq.bkR.cell]; rfl⟩) (fun hHeld => ?_)
              clear hK K
              first | simp only [Act.put, List.setIfInBounds_toArray, List.set_cons_zero, List.set_cons_succ] | skip
              refine wpAnyH_ready (rs := [8, 10]) (by kernel_rfl) (by simp) ?_
              refine AllReadyH.cons rfl (fun K hK => ?_) (AllReadyH.cons rfl (fun K hK => ?_) AllReadyH.nil)
              · skip
                refine step_append_rd y192_ rfl _ _ 23 rfl b0 68 2 32 _ Tryz.underlying23 info_Rule rfl (by omega) (.slice A190_ k c191_) k (cellsRule (stayL rs (x0, x1))) rfl hO193_ (some ⟨b181_, 0, none⟩) 1 1 [.string x0, .string x1] rfl rfl (rd_bk hY196_) (one_cell_ruleP _ _) (by unfold maxLen; omega) (by omega) (low_z lo195_ Hb0.out) ?_; intro A197_ c198_ y199_ hO200_ hg201_
                have lo202_ := low_own lo195_ (low_z lo195_ Hb0.out) hO193_ hg201_
                refine hK.out _ _ (by have hq := HI0.out.below (low_b lo202_ Hb0.out); exact ⟨by rw [hq.bkS.cell]; rfl, by rw [hq.bkL.cell]; rfl, by rw [hq.bkR.cell]; rfl, by rw [hq.bkR.cell]; rfl⟩) (fun hHeld => ?_)
                clear hK K
                first | simp only [Act.put, List.setIfInBounds_toArray, List.set_cons_zero, List.set_cons_succ] | skip
                refine wpAnyH_take (i := 9) (oi := ?oi857) (v := ?val857) ?hi857 ?hs857 ?hf857 ?hr857 ?hQ857 ?hy857 ?hS857 ?hrest857
                case hi857 => (simp only [List.getElem?_toArray, List.getElem?_cons_succ, List.getElem?_cons_zero] <;> exact rfl)
                case hs857 => kernel_rfl
                case hf857 => kernel_rfl
                case hr857 => kernel_rfl
                case hQ857 => exact fun _ _ _ h => h
                case hS857 => assumption
                case hy857 => (refine Or.inl ⟨by rfl, ?_⟩; intro w hSw; (try dsimp only at hSw); obtain ⟨z0, z1, z2, z3⟩ := hSw; go_simp; try with_reducible rfl)
                simp only [Act.put, List.setIfInBounds_toArray, List.set_cons_zero, List.set_cons_succ]
                refine wpAnyH_ready (rs := [10]) (by kernel_rfl) (by simp) ?_
                refine AllReadyH.cons rfl (fun K hK => ?_) AllReadyH.nil
                go_simp
                have hal := (Below.refl y199_.heap.size y199_).alloc (Nat.le_refl _) (.cells #[.int .i64 0, .slice none 0 0] 25)
                have lo204_ := lo202_.trans (hal.mono (low_z lo202_ Hb0.out))
                have z206_ := low_z lo202_ Hb0.out
                have hO8207_ := own_keep hO200_ hal (Nat.le_refl _)
                have bk205_ := Bk.new y199_ 25 #[.int .i64 0, .slice none 0 0]
                refine hK.out _ _ (by have hq := HI0.out.below (low_b lo204_ Hb0.out); exact ⟨by rw [hq.bkS.cell]; rfl, by rw [hq.bkL.cell]; rfl, by rw [hq.bkR.cell]; rfl, by rw [hq.bkR.cell]; rfl⟩) (fun hHeld => ?_)
                clear hK K
                first | simp only [Act.put, List.setIfInBounds_toArray, List.set_cons_zero, List.set_cons_succ] | skip
                clear hal
                obtain ⟨r208_, hb⟩ : ∃ z, z = (World.heap y199_).size := ⟨_, rfl⟩
                obtain ⟨y203_, hy⟩ : ∃ z, z = World.alloc y199_ (.cells #[.int .i64 0, .slice none 0 0] 25) := ⟨_, rfl⟩
                rw [← hy] at lo204_ hO8207_ bk205_
                rw [← hb] at bk205_ z206_
                rw [← hy, ← hb]
                clear hy hb
                exact hkey A190_ c191_ _ _ e187_ b181_ r208_ _ ⟨lo204_, bk205_, z206_, hO8207_⟩
              · skip
                go_simp
                have hal := (Below.refl y192_.heap.size y192_).alloc (Nat.le_refl _) (.cells #[.int .i64 0, .slice none 0 0] 25)
                have lo210_ := lo195_.trans (hal.mono (low_z lo195_ Hb0.out))
                have z212_ := low_z lo195_ Hb0.out
                have hO5213_ := own_keep hO193_ hal (Nat.le_refl _)
                have hY214_ := hY196_.below hal hY196_.lt
                have bk211_ := Bk.new y192_ 25 #[.int .i64 0, .slice none 0 0]
                refine hK.out _ _ (by have hq := HI0.out.below (low_b lo210_ Hb0.out); exact ⟨by rw [hq.bkS.cell]; rfl, by rw [hq.bkL.cell]; rfl, by rw [hq.bkR.cell]; rfl, by rw [hq.bkR.cell]; rfl⟩) (fun hHeld => ?_)
                clear hK K
                first | simp only [Act.put, List.setIfInBounds_toArray, List.set_cons_zero, List.set_cons_succ] | skip
                clear hal
                obtain ⟨r215_, hb⟩ : ∃ z, z = (World.heap y192_).size := ⟨_, rfl⟩
                obtain ⟨y209_, hy⟩ : ∃ z, z = World.alloc y192_ (.cells #[.int .i64 0, .slice none 0 0] 25) := ⟨_, rfl⟩
                rw [← hy] at lo210_ hO5213_ hY214_ bk211_
                rw [← hb] at bk211_ z212_
                rw [← hy, ← hb]
                clear hy hb
                refine wpAnyH_ready (rs := [8]) (by kernel_rfl) (by simp) ?_
                refine AllReadyH.cons rfl (fun K hK => ?_) AllReadyH.nil
                refine step_append_rd y209_ rfl _ _ 23 rfl b0 68 2 32 _ Tryz.underlying23 info_Rule rfl (by omega) (.slice A190_ k c191_) k (cellsRule (stayL rs (x0, x1))) rfl hO5213_ (some ⟨b181_, 0, none⟩) 1 1 [.string x0, .string x1] rfl rfl (rd_bk hY214_) (one_cell_ruleP _ _) (by unfold maxLen; omega) (by omega) (low_z lo210_ Hb0.out) ?_; intro A216_ c217_ y218_ hO219_ hg220_
                have lo221_ := low_own lo210_ (low_z lo210_ Hb0.out) hO5213_ hg220_
                have hS222_ := bk211_.app hO5213_ hg220_ (by decide)
                refine hK.out _ _ (by have hq := HI0.out.below (low_b lo221_ Hb0.out); exact ⟨by rw [hq.bkS.cell]; rfl, by rw [hq.bkL.cell]; rfl, by rw [hq.bkR.cell]; rfl, by rw [hq.bkR.cell]; rfl⟩) (fun hHeld => ?_)
                clear hK K
                first | simp only [Act.put, List.setIfInBounds_toArray, List.set_cons_zero, List.set_cons_succ] | skip
                refine wpAnyH_take (i := 9) (oi := ?oi911) (v := ?val911) ?hi911 ?hs911 ?hf911 ?hr911 ?hQ911 ?hy911 ?hS911 ?hrest911
                case hi911 => (simp only [List.getElem?_toArray, List.getElem?_cons_succ, List.getElem?_cons_zero] <;> exact rfl)
                case hs911 => kernel_rfl
                case hf911 => kernel_rfl
                case hr911 => kernel_rfl
                case hQ911 => exact fun _ _ _ h => h
                case hS911 => assumption
                case hy911 => (refine Or.inl ⟨by rfl, ?_⟩; intro w hSw; (try dsimp only at hSw); obtain ⟨z0, z1, z2, z3⟩ := hSw; go_simp; try with_reducible rfl)
                simp only [Act.put, List.setIfInBounds_toArray, List.set_cons_zero, List.set_cons_succ]
                exact hkey A190_ c191_ _ _ e187_ b181_ r215_ _ ⟨lo221_, hS222_, z212_, hO219_⟩
            · skip
              go_simp
              have hal := (Below.refl y182_.heap.size y182_).alloc (Nat.le_refl _) (.cells #[.int .i64 0, .slice none 0 0] 25)
              have lo224_ := lo183_.trans (hal.mono (low_z lo183_ Hb0.out))
              have z226_ := low_z lo183_ Hb0.out
              have hE227_ := own_keep hE188_ hal (Nat.le_refl _)
              have hY228_ := hY186_.below hal hY186_.lt
              have bk225_ := Bk.new y182_ 25 #[.int .i64 0, .slice none 0 0]
              refine hK.out _ _ (by have hq := HI0.out.below (low_b lo224_ Hb0.out); exact ⟨by rw [hq.bkS.cell]; rfl, by rw [hq.bkL.cell]; rfl, by rw [hq.bkR.cell]; rfl, by rw [hq.bkR.cell]; rfl⟩) (fun hHeld => ?_)
              clear hK K
              first | simp only [Act.put, List.setIfInBounds_toArray, List.set_cons_zero, List.set_cons_succ] | skip
              clear hal
              obtain ⟨r229_, hb⟩ : ∃ z, z = (World.heap y182_).size := ⟨_, rfl⟩
              obtain ⟨y223_, hy⟩ : ∃ z, z = World.alloc y182_ (.cells #[.int .i64 0, .slice none 0 0] 25) := ⟨_, rfl⟩
              rw [← hy] at lo224_ hE227_ hY228_ bk225_
              rw [← hb] at bk225_ z226_
              rw [← hy, ← hb]
              clear hy hb
              refine wpAnyH_ready (rs := [5]) (by kernel_rfl) (by simp) ?_
              refine AllReadyH.cons rfl (fun K hK => ?_) AllReadyH.nil
              refine step_append_rd y223_ rfl _ _ 23 rfl b0 68 2 32 _ Tryz.underlying23 info_Rule rfl (by omega) (.slice (some ⟨e187_, 0, none⟩) 0 0) 0 [] rfl hE227_ L k e (cellsRule (stayL rs (x0, x1))) rfl Hkl.out (HL0.out.keep (low_b lo224_ Hb0.out)) (one_cell_rules _) (by unfold maxLen; omega) (by omega) (low_z lo224_ Hb0.out) ?_; intro A230_ c231_ y232_ hO233_ hg234_
              rw [Nat.zero_add, List.nil_append] at hO233_
              rw [Nat.zero_add]
              have lo235_ := low_own lo224_ (low_z lo224_ Hb0.out) hE227_ hg234_
              have hS236_ := bk225_.app hE227_ hg234_ (by decide)
              have hY237_ := hY228_.grown hg234_ (by intro e9; injection e9 with e9; exact ne189_ e9.symm)
              refine hK.out _ _ (by have hq := HI0.out.below (low_b lo235_ Hb0.out); exact ⟨by rw [hq.bkS.cell]; rfl, by rw [hq.bkL.cell]; rfl, by rw [hq.bkR.cell]; rfl, by rw [hq.bkR.cell]; rfl⟩) (fun hHeld => ?_)
              clear hK K
              first | simp only [Act.put, List.setIfInBounds_toArray, List.set_cons_zero, List.set_cons_succ] | skip
              refine wpAnyH_ready (rs := [8]) (by kernel_rfl) (by simp) ?_
              refine AllReadyH.cons rfl (fun K hK => ?_) AllReadyH.nil
              refine step_append_rd y232_ rfl _ _ 23 rfl b0 68 2 32 _ Tryz.underlying23 info_Rule rfl (by omega) (.slice A230_ k c231_) k (cellsRule (stayL rs (x0, x1))) rfl hO233_ (some ⟨b181_, 0, none⟩) 1 1 [.string x0, .string x1] rfl rfl (rd_bk hY237_) (one_cell_ruleP _ _) (by unfold maxLen; omega) (by omega) (low_z lo235_ Hb0.out) ?_; intro A238_ c239_ y240_ hO241_ hg242_
              have lo243_ := low_own lo235_ (low_z lo235_ Hb0.out) hO233_ hg242_
              have hS244_ := hS236_.app hO233_ hg242_ (by decide)
              refine hK.out _ _ (by have hq := HI0.out.below (low_b lo243_ Hb0.out); exact ⟨by rw [hq.bkS.cell]; rfl, by rw [hq.bkL.cell]; rfl, by rw [hq.bkR.cell]; rfl, by rw [hq.bkR.cell]; rfl⟩) (fun hHeld => ?_)
              clear hK K
              first | simp only [Act.put, List.setIfInBounds_toArray, List.set_cons_zero, List.set_cons_succ] | skip
              refine wpAnyH_take (i := 9) (oi := ?oi958) (v := ?val958) ?hi958 ?hs958 ?hf958 ?hr958 ?hQ958 ?hy958 ?hS958 ?hrest958
              case hi958 => (simp only [List.getElem?_toArray, List.getElem?_cons_succ, List.getElem?_cons_zero] <;> exact rfl)
              case hs958 => kernel_rfl
              case hf958 => kernel_rfl
              case hr958 => kernel_rfl
              case hQ958 => exact fun _ _ _ h => h
              case hS958 => assumption
              case hy958 => (refine Or.inl ⟨by rfl, ?_⟩; intro w hSw; (try dsimp only at hSw); obtain ⟨z0, z1, z2, z3⟩ := hSw; go_simp; try with_reducible rfl)
              simp only [Act.put, List.setIfInBounds_toArray, List.set_cons_zero, List.set_cons_succ]
              exact hkey A230_ c231_ _ _ e187_ b181_ r229_ _ ⟨lo243_, hS244_, z226_, hO241_⟩
          · skip
            go_simp
            have hal := (Below.refl y177_.heap.size y177_).alloc (Nat.le_refl _) (.cells #[.int .i64 0, .slice none 0 0] 25)
            have lo246_ := lo178_.trans (hal.mono (low_z lo178_ Hb0.out))
            have z248_ := low_z lo178_ Hb0.out
            have hY249_ := bk179_.below hal bk179_.lt
            have bk247_ := Bk.new y177_ 25 #[.int .i64 0, .slice none 0 0]
            refine hK.out _ _ (by have hq := HI0.out.below (low_b lo246_ Hb0.out); exact ⟨by rw [hq.bkS.cell]; rfl, by rw [hq.bkL.cell]; rfl, by rw [hq.bkR.cell]; rfl, by rw [hq.bkR.cell]; rfl⟩) (fun hHeld => ?_)
            clear hK K
            first | simp only [Act.put, List.setIfInBounds_toArray, List.set_cons_zero, List.set_cons_succ] | skip
            clear hal
            obtain ⟨r250_, hb⟩ : ∃ z, z = (World.heap y177_).size := ⟨_, rfl⟩
            obtain ⟨y245_, hy⟩ : ∃ z, z = World.alloc y177_ (.cells #[.int .i64 0, .slice none 0 0] 25) := ⟨_, rfl⟩
            rw [← hy] at lo246_ hY249_ bk247_
            rw [← hb] at bk247_ z248_
            rw [← hy, ← hb]
            clear hy hb
            refine wpAnyH_ready (rs := [2]) (by kernel_rfl) (by simp) ?_
            refine AllReadyH.cons rfl (fun K hK => ?_) AllReadyH.nil
            go_simp
            have hal := (Below.refl y245_.heap.size y245_).alloc (Nat.le_refl _) (.cells #[] 68)
            have lo252_ := lo246_.trans (hal.mono (low_z lo246_ Hb0.out))
            have z254_ := low_z lo246_ Hb0.out
            have hS255_ := bk247_.below hal bk247_.lt
            have hY256_ := hY249_.below hal hY249_.lt
            have bk253_ := Bk.new y245_ 68 #[]
            have hE258_ := own_of_bk (base := b0) (m := 2) (n := 0) bk253_ z254_ rfl (by unfold maxLen; omega)
            have ne259_ : y245_.heap.size ≠ b181_ := by have := hY249_.lt; omega
            refine hK.out _ _ (by have hq := HI0.out.below (low_b lo252_ Hb0.out); exact ⟨by rw [hq.bkS.cell]; rfl, by rw [hq.bkL.cell]; rfl, by rw [hq.bkR.cell]; rfl, by rw [hq.bkR.cell]; rfl⟩) (fun hHeld => ?_)
            clear hK K
            first | simp only [Act.put, List.setIfInBounds_toArray, List.set_cons_zero, List.set_cons_succ] | skip
            clear hal
            obtain ⟨e257_, hb⟩ : ∃ z, z = (World.heap y245_).size := ⟨_, rfl⟩
            obtain ⟨y251_, hy⟩ : ∃ z, z = World.alloc y245_ (.cells #[] 68) := ⟨_, rfl⟩
            rw [← hy] at lo252_ hS255_ hY256_ hE258_ bk253_
            rw [← hb] at hE258_ bk253_ ne259_
            rw [← hy, ← hb]
            clear hy hb
            refine wpAnyH_ready (rs := [5]) (by kernel_rfl) (by simp) ?_
            refine AllReadyH.cons rfl (fun K hK => ?_) AllReadyH.nil
            refine step_append_rd y251_ rfl _ _ 23 rfl b0 68 2 32 _ Tryz.underlying23 info_Rule rfl (by omega) (.slice (some ⟨e257_, 0, none⟩) 0 0) 0 [] rfl hE258_ L k e (cellsRule (stayL rs (x0, x1))) rfl Hkl.out (HL0.out.keep (low_b lo252_ Hb0.out)) (one_cell_rules _) (by unfold maxLen; omega) (by omega) (low_z lo252_ Hb0.out) ?_; intro A260_ c261_ y262_ hO263_ hg264_
            rw [Nat.zero_add, List.nil_append] at hO263_
            rw [Nat.zero_add]
            have lo265_ := low_own lo252_ (low_z lo252_ Hb0.out) hE258_ hg264_
            have hS266_ := hS255_.app hE258_ hg264_ (by decide)
            have hY267_ := hY256_.grown hg264_ (by intro e9; injection e9 with e9; exact ne259_ e9.symm)
            refine hK.out _ _ (by have hq := HI0.out.below (low_b lo265_ Hb0.out); exact ⟨by rw [hq.bkS.cell]; rfl, by rw [hq.bkL.cell]; rfl, by rw [hq.bkR.cell]; rfl, by rw [hq.bkR.cell]; rfl⟩) (fun hHeld => ?_)
            clear hK K
            first | simp only [Act.put, List.setIfInBounds_toArray, List.set_cons_zero, List.set_cons_succ] | skip
            refine wpAnyH_ready (rs := [8]) (by kernel_rfl) (by simp) ?_
            refine AllReadyH.cons rfl (fun K hK => ?_) AllReadyH.nil
            refine step_append_rd y262_ rfl _ _ 23 rfl b0 68 2 32 _ Tryz.underlying23 info_Rule rfl (by omega) (.slice A260_ k c261_) k (cellsRule (stayL rs (x0, x1))) rfl hO263_ (some ⟨b181_, 0, none⟩) 1 1 [.string x0, .string x1] rfl rfl (rd_bk hY267_) (one_cell_ruleP _ _) (by unfold maxLen; omega) (by omega) (low_z lo265_ Hb0.out) ?_; intro A268_ c269_ y270_ hO271_ hg272_
            have lo273_ := low_own lo265_ (low_z lo265_ Hb0.out) hO263_ hg272_
            have hS274_ := hS266_.app hO263_ hg272_ (by decide)
            refine hK.out _ _ (by have hq := HI0.out.below (low_b lo273_ Hb0.out); exact ⟨by rw [hq.bkS.cell]; rfl, by rw [hq.bkL.cell]; rfl, by rw [hq.bkR.cell]; rfl, by rw [hq.bkR.cell]; rfl⟩) (fun hHeld => ?_)
            clear hK K
            first | simp only [Act.put, List.setIfInBounds_toArray, List.set_cons_zero, List.set_cons_succ] | skip
            refine wpAnyH_take (i := 9) (oi := ?oi1025) (v := ?val1025) ?hi1025 ?hs1025 ?hf1025 ?hr1025 ?hQ1025 ?hy1025 ?hS1025 ?hrest1025
            case hi1025 => (simp only [List.getElem?_toArray, List.getElem?_cons_succ, List.getElem?_cons_zero] <;> exact rfl)
            case hs1025 => kernel_rfl
            case hf1025 => kernel_rfl
            case hr1025 => kernel_rfl
            case hQ1025 => exact fun _ _ _ h => h
            case hS1025 => assumption
            case hy1025 => (refine Or.inl ⟨by rfl, ?_⟩; intro w hSw; (try dsimp only at hSw); obtain ⟨z0, z1, z2, z3⟩ := hSw; go_simp; try with_reducible rfl)
            simp only [Act.put, List.setIfInBounds_toArray, List.set_cons_zero, List.set_cons_succ]
            exact hkey A260_ c261_ _ _ e257_ b181_ r250_ _ ⟨lo273_, hS274_, z248_, hO271_⟩
        · skip
          go_simp
          have hal := (Below.refl y0.heap.size y0).alloc (Nat.le_refl _) (.cells #[.int .i64 0, .slice none 0 0] 25)
          have lo276_ := lo0.trans (hal.mono (low_z lo0 Hb0.out))
          have z278_ := low_z lo0 Hb0.out
          have bk277_ := Bk.new y0 25 #[.int .i64 0, .slice none 0 0]
          refine hK.out _ _ (by have hq := HI0.out.below (low_b lo276_ Hb0.out); exact ⟨by rw [hq.bkS.cell]; rfl, by rw [hq.bkL.cell]; rfl, by rw [hq.bkR.cell]; rfl, by rw [hq.bkR.cell]; rfl⟩) (fun hHeld => ?_)
          clear hK K
          first | simp only [Act.put, List.setIfInBounds_toArray, List.set_cons_zero, List.set_cons_succ] | skip
          clear hal
          obtain ⟨r279_, hb⟩ : ∃ z, z = (World.heap y0).size := ⟨_, rfl⟩
          obtain ⟨y275_, hy⟩ : ∃ z, z = World.alloc y0 (.cells #[.int .i64 0, .slice none 0 0] 25) := ⟨_, rfl⟩
          rw [← hy] at lo276_ bk277_
          rw [← hb] at bk277_ z278_
          rw [← hy, ← hb]
          clear hy hb
          refine wpAnyH_ready (rs := [2, 7]) (by kernel_rfl) (by simp) ?_
          refine AllReadyH.cons rfl (fun K hK => ?_) (AllReadyH.cons rfl (fun K hK => ?_) AllReadyH.nil)
          · skip
            go_simp
            have hal := (Below.refl y275_.heap.size y275_).alloc (Nat.le_refl _) (.cells #[] 68)
            have lo281_ := lo276_.trans (hal.mono (low_z lo276_ Hb0.out))
            have z283_ := low_z lo276_ Hb0.out
            have hS284_ := bk277_.below hal bk277_.lt
            have bk282_ := Bk.new y275_ 68 #[]
            have hE286_ := own_of_bk (base := b0) (m := 2) (n := 0) bk282_ z283_ rfl (by unfold maxLen; omega)
            refine hK.out _ _ (by have hq := HI0.out.below (low_b lo281_ Hb0.out); exact ⟨by rw [hq.bkS.cell]; rfl, by rw [hq.bkL.cell]; rfl, by rw [hq.bkR.cell]; rfl, by rw [hq.bkR.cell]; rfl⟩) (fun hHeld => ?_)
            clear hK K
            first | simp only [Act.put, List.setIfInBounds_toArray, List.set_cons_zero, List.set_cons_succ] | skip
            clear hal
            obtain ⟨e285_, hb⟩ : ∃ z, z = (World.heap y275_).size := ⟨_, rfl⟩
            obtain ⟨y280_, hy⟩ : ∃ z, z = World.alloc y275_ (.cells #[] 68) := ⟨_, rfl⟩
            rw [← hy] at lo281_ hS284_ hE286_ bk282_
            rw [← hb] at hE286_ bk282_
            rw [← hy, ← hb]
            clear hy hb
            refine wpAnyH_ready (rs := [5, 7]) (by kernel_rfl) (by simp) ?_
            refine AllReadyH.cons rfl (fun K hK => ?_) (AllReadyH.cons rfl (fun K hK => ?_) AllReadyH.nil)
            · skip
              refine step_append_rd y280_ rfl _ _ 23 rfl b0 68 2 32 _ Tryz.underlying23 info_Rule rfl (by omega) (.slice (some ⟨e285_, 0, none⟩) 0 0) 0 [] rfl hE286_ L k e (cellsRule (stayL rs (x0, x1))) rfl Hkl.out (HL0.out.keep (low_b lo281_ Hb0.out)) (one_cell_rules _) (by unfold maxLen; omega) (by omega) (low_z lo281_ Hb0.out) ?_; intro A287_ c288_ y289_ hO290_ hg291_
              rw [Nat.zero_add, List.nil_append] at hO290_
              rw [Nat.zero_add]
              have lo292_ := low_own lo281_ (low_z lo281_ Hb0.out) hE286_ hg291_
              have hS293_ := hS284_.app hE286_ hg291_ (by decide)
              refine hK.out _ _ (by have hq := HI0.out.below (low_b lo292_ Hb0.out); exact ⟨by rw [hq.bkS.cell]; rfl, by rw [hq.bkL.cell]; rfl, by rw [hq.bkR.cell]; rfl, by rw [hq.bkR.cell]; rfl⟩) (fun hHeld => ?_)
              clear hK K
              first | simp only [Act.put, List.setIfInBounds_toArray, List.set_cons_zero, List.set_cons_succ] | skip
              refine wpAnyH_ready (rs := [7]) (by kernel_rfl) (by simp) ?_
              refine AllReadyH.cons rfl (fun K hK => ?_) AllReadyH.nil
              go_simp
              have hal := (Below.refl y289_.heap.size y289_).alloc (Nat.le_refl _) (.cells #[.string x0, .string x1] 68)
              have lo295_ := lo292_.trans (hal.mono (low_z lo292_ Hb0.out))
              have z297_ := low_z lo292_ Hb0.out
              have hO5298_ := own_keep hO290_ hal (Nat.le_refl _)
              have hS299_ := hS293_.below hal hS293_.lt
              have bk296_ := Bk.new y289_ 68 #[.string x0, .string x1]
              refine hK.out _ _ (by have hq := HI0.out.below (low_b lo295_ Hb0.out); exact ⟨by rw [hq.bkS.cell]; rfl, by rw [hq.bkL.cell]; rfl, by rw [hq.bkR.cell]; rfl, by rw [hq.bkR.cell]; rfl⟩) (fun hHeld => ?_)
              clear hK K
              first | simp only [Act.put, List.setIfInBounds_toArray, List.set_cons_zero, List.set_cons_succ] | skip
              clear hal
              obtain ⟨b300_, hb⟩ : ∃ z, z = (World.heap y289_).size := ⟨_, rfl⟩
              obtain ⟨y294_, hy⟩ : ∃ z, z = World.alloc y289_ (.cells #[.string x0, .string x1] 68) := ⟨_, rfl⟩
              rw [← hy] at lo295_ hO5298_ hS299_ bk296_
              rw [← hb] at bk296_
              rw [← hy, ← hb]
              clear hy hb
              refine wpAnyH_ready (rs := [8]) (by kernel_rfl) (by simp) ?_
              refine AllReadyH.cons rfl (fun K hK => ?_) AllReadyH.nil
              refine step_append_rd y294_ rfl _ _ 23 rfl b0 68 2 32 _ Tryz.underlying23 info_Rule rfl (by omega) (.slice A287_ k c288_) k (cellsRule (stayL rs (x0, x1))) rfl hO5298_ (some ⟨b300_, 0, none⟩) 1 1 [.string x0, .string x1] rfl rfl (rd_bk bk296_) (one_cell_ruleP _ _) (by unfold maxLen; omega) (by omega) (low_z lo295_ Hb0.out) ?_; intro A301_ c302_ y303_ hO304_ hg305_
              have lo306_ := low_own lo295_ (low_z lo295_ Hb0.out) hO5298_ hg305_
              have hS307_ := hS299_.app hO5298_ hg305_ (by decide)
              refine hK.out _ _ (by have hq := HI0.out.below (low_b lo306_ Hb0.out); exact ⟨by rw [hq.bkS.cell]; rfl, by rw [hq.bkL.cell]; rfl, by rw [hq.bkR.cell]; rfl, by rw [hq.bkR.cell]; rfl⟩) (fun hHeld => ?_)
              clear hK K
              first | simp only [Act.put, List.setIfInBounds_toArray, List.set_cons_zero, List.set_cons_succ] | skip
              refine wpAnyH_take (i := 9) (oi := ?oi1109) (v := ?val1109) ?hi1109 ?hs1109 ?hf1109 ?hr1109 ?hQ1109 ?hy1109 ?hS1109 ?hrest1109
              case hi1109 => (simp only [List.getElem?_toArray, List.getElem?_cons_succ, List.getElem?_cons_zero] <;> exact rfl)
              case hs1109 => kernel_rfl
              case hf1109 => kernel_rfl
              case hr1109 => kernel_rfl
              case hQ1109 => exact fun _ _ _ h => h
              case hS1109 => assumption
              case hy1109 => (refine Or.inl ⟨by rfl, ?_⟩; intro w hSw; (try dsimp only at hSw); obtain ⟨z0, z1, z2, z3⟩ := hSw; go_simp; try with_reducible rfl)
              simp only [Act.put, List.setIfInBounds_toArray, List.set_cons_zero, List.set_cons_succ]
              exact hkey A287_ c288_ _ _ e285_ b300_ r279_ _ ⟨lo306_, hS307_, z278_, hO304_⟩
            · skip
              go_simp
              have hal := (Below.refl y280_.heap.size y280_).alloc (Nat.le_refl _) (.cells #[.string x0, .string x1] 68)
              have lo309_ := lo281_.trans (hal.mono (low_z lo281_ Hb0.out))
              have z311_ := low_z lo281_ Hb0.out
              have hE312_ := own_keep hE286_ hal (Nat.le_refl _)
              have hS313_ := hS284_.below hal hS284_.lt
              have bk310_ := Bk.new y280_ 68 #[.string x0, .string x1]
              have ne315_ : e285_ ≠ y280_.heap.size := by have := (hE286_.lt e285_ rfl).2; omega
              refine hK.out _ _ (by have hq := HI0.out.below (low_b lo309_ Hb0.out); exact ⟨by rw [hq.bkS.cell]; rfl, by rw [hq.bkL.cell]; rfl, by rw [hq.bkR.cell]; rfl, by rw [hq.bkR.cell]; rfl⟩) (fun hHeld => ?_)
              clear hK K
              first | simp only [Act.put, List.setIfInBounds_toArray, List.set_cons_zero, List.set_cons_succ] | skip
              clear hal
              obtain ⟨b314_, hb⟩ : ∃ z, z = (World.heap y280_).size := ⟨_, rfl⟩
              obtain ⟨y308_, hy⟩ : ∃ z, z = World.alloc y280_ (.cells #[.string x0, .string x1] 68) := ⟨_, rfl⟩
              rw [← hy] at lo309_ hE312_ hS313_ bk310_
              rw [← hb] at bk310_ ne315_
              rw [← hy, ← hb]
              clear hy hb
              refine wpAnyH_ready (rs := [5]) (by kernel_rfl) (by simp) ?_
              refine AllReadyH.cons rfl (fun K hK => ?_) AllReadyH.nil
              refine step_append_rd y308_ rfl _ _ 23 rfl b0 68 2 32 _ Tryz.underlying23 info_Rule rfl (by omega) (.slice (some ⟨e285_, 0, none⟩) 0 0) 0 [] rfl hE312_ L k e (cellsRule (stayL rs (x0, x1))) rfl Hkl.out (HL0.out.keep (low_b lo309_ Hb0.out)) (one_cell_rules _) (by unfold maxLen; omega) (by omega) (low_z lo309_ Hb0.out) ?_; intro A316_ c317_ y318_ hO319_ hg320_
              rw [Nat.zero_add, List.nil_append] at hO319_
              rw [Nat.zero_add]
              have lo321_ := low_own lo309_ (low_z lo309_ Hb0.out) hE312_ hg320_
              have hS322_ := hS313_.app hE312_ hg320_ (by decide)
              have hY323_ := bk310_.grown hg320_ (by intro e9; injection e9 with e9; exact ne315_ e9.symm)
              refine hK.out _ _ (by have hq := HI0.out.below (low_b lo321_ Hb0.out); exact ⟨by rw [hq.bkS.cell]; rfl, by rw [hq.bkL.cell]; rfl, by rw [hq.bkR.cell]; rfl, by rw [hq.bkR.cell]; rfl⟩) (fun hHeld => ?_)
              clear hK K
              first | simp only [Act.put, List.setIfInBounds_toArray, List.set_cons_zero, List.set_cons_succ] | skip
              refine wpAnyH_ready (rs := [8]) (by kernel_rfl) (by simp) ?_
              refine AllReadyH.cons rfl (fun K hK => ?_) AllReadyH.nil
              refine step_append_rd y318_ rfl _ _ 23 rfl b0 68 2 32 _ Tryz.underlying23 info_Rule rfl (by omega) (.slice A316_ k c317_) k (cellsRule (stayL rs (x0, x1))) rfl hO319_ (some ⟨b314_, 0, none⟩) 1 1 [.string x0, .string x1] rfl rfl (rd_bk hY323_) (one_cell_ruleP _ _) (by unfold maxLen; omega) (by omega) (low_z lo321_ Hb0.out) ?_; intro A324_ c325_ y326_ hO327_ hg328_
              have lo329_ := low_own lo321_ (low_z lo321_ Hb0.out) hO319_ hg328_
              have hS330_ := hS322_.app hO319_ hg328_ (by decide)
              refine hK.out _ _ (by have hq := HI0.out.below (low_b lo329_ Hb0.out); exact ⟨by rw [hq.bkS.cell]; rfl, by rw [hq.bkL.cell]; rfl, by rw [hq.bkR.cell]; rfl, by rw [hq.bkR.cell]; rfl⟩) (fun hHeld => ?_)
              clear hK K
              first | simp only [Act.put, List.setIfInBounds_toArray, List.set_cons_zero, List.set_cons_succ] | skip
              refine wpAnyH_take (i := 9) (oi := ?oi1157) (v := ?val1157) ?hi1157 ?hs1157 ?hf1157 ?hr1157 ?hQ1157 ?hy1157 ?hS1157 ?hrest1157
              case hi1157 => (simp only [List.getElem?_toArray, List.getElem?_cons_succ, List.getElem?_cons_zero] <;> exact rfl)
              case hs1157 => kernel_rfl
              case hf1157 => kernel_rfl
              case hr1157 => kernel_rfl
              case hQ1157 => exact fun _ _ _ h => h
              case hS1157 => assumption
              case hy1157 => (refine Or.inl ⟨by rfl, ?_⟩; intro w hSw; (try dsimp only at hSw); obtain ⟨z0, z1, z2, z3⟩ := hSw; go_simp; try with_reducible rfl)
              simp only [Act.put, List.setIfInBounds_toArray, List.set_cons_zero, List.set_cons_succ]
              exact hkey A316_ c317_ _ _ e285_ b314_ r279_ _ ⟨lo329_, hS330_, z278_, hO327_⟩
          · skip
            go_simp
            have hal := (Below.refl y275_.heap.size y275_).alloc (Nat.le_refl _) (.cells #[.string x0, .string x1] 68)
            have lo332_ := lo276_.trans (hal.mono (low_z lo276_ Hb0.out))
            have z334_ := low_z lo276_ Hb0.out
            have hS335_ := bk277_.below hal bk277_.lt
            have bk333_ := Bk.new y275_ 68 #[.string x0, .string x1]
            refine hK.out _ _ (by have hq := HI0.out.below (low_b lo332_ Hb0.out); exact ⟨by rw [hq.bkS.cell]; rfl, by rw [hq.bkL.cell]; rfl, by rw [hq.bkR.cell]; rfl, by rw [hq.bkR.cell]; rfl⟩) (fun hHeld => ?_)
            clear hK K
            first | simp only [Act.put, List.setIfInBounds_toArray, List.set_cons_zero, List.set_cons_succ] | skip
            clear hal
            obtain ⟨b336_, hb⟩ : ∃ z, z = (World.heap y275_).size := ⟨_, rfl⟩
            obtain ⟨y331_, hy⟩ : ∃ z, z = World.alloc y275_ (.cells #[.string x0, .string x1] 68) := ⟨_, rfl⟩
            rw [← hy] at lo332_ hS335_ bk333_
            rw [← hb] at bk333_
            rw [← hy, ← hb]
            clear hy hb
            refine wpAnyH_ready (rs := [2]) (by kernel_rfl) (by simp) ?_
            refine AllReadyH.cons rfl (fun K hK => ?_) AllReadyH.nil
            go_simp
            have hal := (Below.refl y331_.heap.size y331_).alloc (Nat.le_refl _) (.cells #[] 68)
            have lo338_ := lo332_.trans (hal.mono (low_z lo332_ Hb0.out))
            have z340_ := low_z lo332_ Hb0.out
            have hS341_ := hS335_.below hal hS335_.lt
            have hY342_ := bk333_.below hal bk333_.lt
            have bk339_ := Bk.new y331_ 68 #[]
            have hE344_ := own_of_bk (base := b0) (m := 2) (n := 0) bk339_ z340_ rfl (by unfold maxLen; omega)
            have ne345_ : y331_.heap.size ≠ b336_ := by have := bk333_.lt; omega
            refine hK.out _ _ (by have hq := HI0.out.below (low_b lo338_ Hb0.out); exact ⟨by rw [hq.bkS.cell]; rfl, by rw [hq.bkL.cell]; rfl, by rw [hq.bkR.cell]; rfl, by rw [hq.bkR.cell]; rfl⟩) (fun hHeld => ?_)
            clear hK K
            first | simp only [Act.put, List.setIfInBounds_toArray, List.set_cons_zero, List.set_cons_succ] | skip
            clear hal
            obtain ⟨e343_, hb⟩ : ∃ z, z = (World.heap y331_).size := ⟨_, rfl⟩
            obtain ⟨y337_, hy⟩ : ∃ z, z = World.alloc y331_ (.cells #[] 68) := ⟨_, rfl⟩
            rw [← hy] at lo338_ hS341_ hY342_ hE344_ bk339_
            rw [← hb] at hE344_ bk339_ ne345_
            rw [← hy, ← hb]
            clear hy hb
            refine wpAnyH_ready (rs := [5]) (by kernel_rfl) (by simp) ?_
            refine AllReadyH.cons rfl (fun K hK => ?_) AllReadyH.nil
            refine step_append_rd y337_ rfl _ _ 23 rfl b0 68 2 32 _ Tryz.underlying23 info_Rule rfl (by omega) (.slice (some ⟨e343_, 0, none⟩) 0 0) 0 [] rfl hE344_ L k e (cellsRule (stayL rs (x0, x1))) rfl Hkl.out (HL0.out.keep (low_b lo338_ Hb0.out)) (one_cell_rules _) (by unfold maxLen; omega) (by omega) (low_z lo338_ Hb0.out) ?_; intro A346_ c347_ y348_ hO349_ hg350_
            rw [Nat.zero_add, List.nil_append] at hO349_
            rw [Nat.zero_add]
            have lo351_ := low_own lo338_ (low_z lo338_ Hb0.out) hE344_ hg350_
            have hS352_ := hS341_.app hE344_ hg350_ (by decide)
            have hY353_ := hY342_.grown hg350_ (by intro e9; injection e9 with e9; exact ne345_ e9.symm)
            refine hK.out _ _ (by have hq := HI0.out.below (low_b lo351_ Hb0.out); exact ⟨by rw [hq.bkS.cell]; rfl, by rw [hq.bkL.cell]; rfl, by rw [hq.bkR.cell]; rfl, by rw [hq.bkR.cell]; rfl⟩) (fun hHeld => ?_)
            clear hK K
            first | simp only [Act.put, List.setIfInBounds_toArray, List.set_cons_zero, List.set_cons_succ] | skip
            refine wpAnyH_ready (rs := [8]) (by kernel_rfl) (by simp) ?_
            refine AllReadyH.cons rfl (fun K hK => ?_) AllReadyH.nil
            refine step_append_rd y348_ rfl _ _ 23 rfl b0 68 2 32 _ Tryz.underlying23 info_Rule rfl (by omega) (.slice A346_ k c347_) k (cellsRule (stayL rs (x0, x1))) rfl hO349_ (some ⟨b336_, 0, none⟩) 1 1 [.string x0, .string x1] rfl rfl (rd_bk hY353_) (one_cell_ruleP _ _) (by unfold maxLen; omega) (by omega) (low_z lo351_ Hb0.out) ?_; intro A354_ c355_ y356_ hO357_ hg358_
            have lo359_ := low_own lo351_ (low_z lo351_ Hb0.out) hO349_ hg358_
            have hS360_ := hS352_.app hO349_ hg358_ (by decide)
            refine hK.out _ _ (by have hq := HI0.out.below (low_b lo359_ Hb0.out); exact ⟨by rw [hq.bkS.cell]; rfl, by rw [hq.bkL.cell]; rfl, by rw [hq.bkR.cell]; rfl, by rw [hq.bkR.cell]; rfl⟩) (fun hHeld => ?_)
            clear hK K
            first | simp only [Act.put, List.setIfInBounds_toArray, List.set_cons_zero, List.set_cons_succ] | skip
            refine wpAnyH_take (i := 9) (oi := ?oi1224) (v := ?val1224) ?hi1224 ?hs1224 ?hf1224 ?hr1224 ?hQ1224 ?hy1224 ?hS1224 ?hrest1224
            case hi1224 => (simp only [List.getElem?_toArray, List.getElem?_cons_succ, List.getElem?_cons_zero] <;> exact rfl)
            case hs1224 => kernel_rfl
            case hf1224 => kernel_rfl
            case hr1224 => kernel_rfl
            case hQ1224 => exact fun _ _ _ h => h
            case hS1224 => assumption
            case hy1224 => (refine Or.inl ⟨by rfl, ?_⟩; intro w hSw; (try dsimp only at hSw); obtain ⟨z0, z1, z2, z3⟩ := hSw; go_simp; try with_reducible rfl)
            simp only [Act.put, List.setIfInBounds_toArray, List.set_cons_zero, List.set_cons_succ]
            exact hkey A346_ c347_ _ _ e343_ b336_ r279_ _ ⟨lo359_, hS360_, z278_, hO357_⟩
      intro A5 c5 A8 c8 e1 b1 r1 y9 ⟨lo9, bk9, z9, hO9⟩
      have lr := bk9.lt
      have k0 : y9.cell? ⟨r1, 0, none⟩ = some (.int .i64 0) := by rw [bk9.cell]; rfl
      have k1 : y9.cell? ⟨r1, 1, none⟩ = some (.slice none 0 0) := by rw [bk9.cell]; rfl
      have g0 := bk9.free 0
      have g1 := bk9.free 1
      have hne9 : (Value.slice A8 (k + 1) c8).ownBlock ≠ some r1 := own_ne_bk hO9 bk9 (by decide)
      have lo10 : Below b0 y0 ((y9.setCell ⟨r1, 0, none⟩ (.int .i64 l)).setCell ⟨r1, 1, none⟩ (.slice A8 (k + 1) c8)) := lo9.trans (((Below.refl _ _).setCell (p := ⟨r1, 0, none⟩) z9 _).setCell (p := ⟨r1, 1, none⟩) z9 _)
      have hS10 := (bk9.put 0 (.int .i64 l)).put 1 (.slice A8 (k + 1) c8)
      have hO10 := own_far3 (own_far3 hO9 (p := ⟨r1, 0, none⟩) hne9 (.int .i64 l)) (p := ⟨r1, 1, none⟩) hne9 (.slice A8 (k + 1) c8)
      refine wpAnyH_ready (rs := [11]) (by kernel_rfl) (by simp) ?_
      refine AllReadyH.cons rfl (fun K hK => ?_) AllReadyH.nil
      (go_simp)
      refine hK.out _ _ ((by have hq := HI0.out.below (low_b lo10 Hb0.out); exact ⟨by rw [hq.bkS.cell]; rfl, by rw [hq.bkL.cell]; rfl, by rw [hq.bkR.cell]; rfl, by rw [hq.bkR.cell]; rfl⟩)) (fun hHeld2 => ?_)
      clear hK K hHeld
      have hHeld := hHeld2
      clear hHeld2
      first | simp only [Act.put, List.setIfInBounds_toArray, List.set_cons_zero, List.set_cons_succ] | skip
      clear k0 k1 g0 g1
      refine wpAnyH_done (by kernel_rfl) ?_ _
      obtain ⟨y10, hy10⟩ : ∃ z, z = ((y9.setCell ⟨r1, 0, none⟩ (.int .i64 l)).setCell ⟨r1, 1, none⟩ (.slice A8 (k + 1) c8)) := ⟨_, rfl⟩
      rw [← hy10] at lo10 hS10 hO10
      rw [← hy10]
      clear hy10 hHeld lo9 bk9 hO9 hne9
      obtain ⟨r2, hr2⟩ : ∃ z, z = y10.heap.size := ⟨_, rfl⟩
      have hal := (Below.refl y10.heap.size y10).alloc (Nat.le_refl _) (.cells #[.int .i64 l, .slice none 0 0] 25)
      have hz10 := low_z lo10 Hb0.out
      have lo11 := lo10.trans (hal.mono hz10)
      have hlt1 := hS10.lt
      have hX : NxSt b0 y0 (y10.alloc (.cells #[.int .i64 l, .slice none 0 0] 25)) r1 y10.heap.size l A8 (k + 1) c8 (stayL rs (x0, x1) ++ [(x0, x1)]) none 0 0 [] :=
        ⟨lo11, hS10.below hal hlt1, Bk.new _ _ _, z9, hz10, by omega, by rw [cellsRule_end]; exact own_keep hO10 hal (Nat.le_refl _), World.ownsRow_nil _ _ _ _, fun g _ h2 => by cases h2⟩
      have i0 : y10.cell? ⟨w.heap.size, 0, none⟩ = some (.int .i64 l) := by rw [(HI0.out.below (low_b lo10 Hb0.out)).bkS.cell]; rfl
      have i1 : y10.cell? ⟨w.heap.size + 1 + 1 + 1 + 1, 1, none⟩ = some (.slice L k e) := by rw [(HI0.out.below (low_b lo10 Hb0.out)).bkL.cell]; rfl
      have il := (HI0.out.below (low_b lo10 Hb0.out)).bkL.lt
      have im := (HI0.out.below (low_b lo10 Hb0.out)).bkS.lt
      have hLs : k = (stayL rs (x0, x1)).length := HK.out
      rw [← hr2] at hX
      clear hal lo11 hS10 hO10
      have HX := Lib.hid hX
      clear hX
      have Lo10 := Lib.hid lo10
      clear lo10
      have HLs := Lib.hid hLs
      clear hLs
      have Hr2 := Lib.hid hr2
      clear hr2
      try go_wp2_with fail
      rw [← Hr2.out]
      obtain ⟨y11, hy11⟩ : ∃ z, z = y10.alloc (.cells #[.int .i64 l, .slice none 0 0] 25) := ⟨_, rfl⟩
      have hX := HX.out
      rw [← hy11] at hX
      rw [← hy11]
      clear hy11 HX i0 i1 il im lr hlt1 hz10 Hr2 Lo10
      go_loopw [59] (fun i wr2 => ∃ (q : Nat) (N : Option Addr) (dn : Nat), i = .int .i64 q ∧ q ≤ k ∧ NxSt b0 y0 wr2 r1 r2 l A8 (k + 1) c8 (stayL rs (x0, x1) ++ [(x0, x1)]) N q dn (nxL l rs (x0, x1) q)) (fun i _ => k - (intOf i).toNat)
      case atStart => exact ⟨0, none, 0, rfl, Nat.zero_le _, hX⟩
      case round =>
        clear hX
        obtain ⟨q, N, dn, rfl, hqk, hX⟩ := hrel
        have i0 : wr.cell? ⟨r1, 0, none⟩ = some (.int .i64 l) := by rw [hX.bk1.cell]; rfl
        have i1 : wr.cell? ⟨r1, 1, none⟩ = some (.slice A8 (k + 1) c8) := by rw [hX.bk1.cell]; rfl
        have il := hX.bk1.lt
        have hzw := low_z hX.lo Hb0.out
        by_cases hlt : q < k
        · have hlt2 : q < (stayL rs (x0, x1)).length := by rw [← HLs.out]; exact hlt
          obtain ⟨b, o, rfl, hbl, p0, p1⟩ := rd_Rule (HL0.out.keep (low_b hX.lo Hb0.out)) hlt2
          have hmem := sys_mem Hsy.out (List.mem_filter.1 (List.getElem_mem hlt2)).1
          have hnx := nxL_next (l := l) hlt2
          obtain ⟨⟨v0, v1⟩, hv⟩ : ∃ v, v = (stayL rs (x0, x1))[q] := ⟨_, rfl⟩
          rw [← hv] at p0 p1 hmem hnx
          dsimp only at hmem hnx
          obtain ⟨-, wv1, z0, z1, -⟩ := hmem
          have hXa := Bk.new wr 68 #[.string v0, .string v1]
          have hal := (Below.refl wr.heap.size wr).alloc (Nat.le_refl _) (.cells #[.string v0, .string v1] 68)
          have hNa := hX.below hal
          have hRo := Rd.of_own hNa.own1
          have hlen8 : k + 1 = (stayL rs (x0, x1) ++ [(x0, x1)]).length := by rw [List.length_append, ← HLs.out]; rfl
          have Hv := Lib.hid hv
          clear hv
          have HX := Lib.hid hX
          clear hX
          have HXa := Lib.hid hXa
          clear hXa
          have HNa := Lib.hid hNa
          clear hNa
          have Hal := Lib.hid hal
          clear hal
          have HRo := Lib.hid hRo
          clear hRo
          have Hlen8 := Lib.hid hlen8
          clear hlen8
          have Hnx := Lib.hid hnx
          clear hnx
          go_wp2_with fail
          with_reducible refine (trace6 Hsy.out Hx.out HRo.out Hlen8.out wv1 z1).mono ?_
          rintro e3 w3 ⟨T, mt, dt, rfl, b3⟩
          obtain ⟨tv, htv⟩ : ∃ z, z = tr6 l (stayL rs (x0, x1) ++ [(x0, x1)]) v1 := ⟨_, rfl⟩
          have hnx := Hnx.out
          rw [← htv] at hnx
          rw [← htv]
          clear Hnx
          have hXc := HXa.out.below b3 HXa.out.lt
          have hbc : Below wr.heap.size wr (w3.setCell ⟨wr.heap.size, 1, none⟩ (.string tv)) := (Hal.out.trans (b3.mono Hal.out.size)).setCell (p := ⟨wr.heap.size, 1, none⟩) (Nat.le_refl _) _
          have hNc := HX.out.below hbc
          have n1 : (w3.setCell ⟨wr.heap.size, 1, none⟩ (.string tv)).cell? ⟨r2, 1, none⟩ = some (.slice N q dn) := by rw [hNc.bk2.cell]; rfl
          have hn1 : w3.cell? ⟨r2, 1, none⟩ = some (.slice N q dn) := by rw [(HNa.out.below b3).bk2.cell]; rfl
          have hnl := (HNa.out.below b3).bk2.lt
          have hr2 : r2 < wr.heap.size := HX.out.bk2.lt
          have q0 : w3.cell? ⟨wr.heap.size, 0, none⟩ = some (.string v0) := by rw [hXc.cell]; rfl
          have q1 : w3.cell? ⟨wr.heap.size, 1, none⟩ = some (.string v1) := by rw [hXc.cell]; rfl
          have qf := hXc.free 1
          have ql := hXc.lt
          clear n1 b3 HXa HNa Hal HRo p0 p1 i0 i1 il
          have HXc := Lib.hid hXc
          clear hXc
          have Hbc := Lib.hid hbc
          clear hbc
          have HNc := Lib.hid hNc
          clear hNc
          have Hnx := Lib.hid hnx
          clear hnx
          have Htv := Lib.hid htv
          clear htv
          go_wp2_with (at_builtin; go_loud (refine wpList_app1ls _ (w3.setCell ⟨wr.heap.size, 1, none⟩ (.string tv)) w3.heap.size (by simp) rfl _ _ 23 rfl b0 68 2 32 _ Tryz.underlying23 info_Rule rfl (by omega) _ q _ #[.string v0, .string tv] rfl rfl rfl HNc.out.own2 rfl (one_cell_ruleP _ _) (by omega) (by unfold maxLen; omega) (by omega) ?_; intro g5 c5 w5 hO5 hG5 hat5; obtain ⟨hN5, hB5⟩ := HNc.out.push (z := (v0, tv)) hO5 hG5 hat5; have t1 : w5.cell? ⟨r2, 1, none⟩ = some (.slice N q dn) := (by rw [hB5.cell]; rfl); have tf := hB5.free 1; have tl := hB5.lt))
          have HN5 := Lib.hid hN5
          clear hN5
          go_roundw
          case rel => exact ⟨q + 1, some ⟨g5, 0, none⟩, c5, by go_num, by omega, by rw [Hnx.out]; exact HN5.out⟩
          case measure => simp [intOf]; omega
        · have hqk2 : q = k := by omega
          subst hqk2
          have hIe := HI0.out.below (low_b hX.lo Hb0.out)
          have r0 : wr.cell? ⟨w.heap.size + 1, 0, none⟩ = some (.string x0) := by rw [hIe.bkR.cell]; rfl
          have r1c : wr.cell? ⟨w.heap.size + 1, 1, none⟩ = some (.string x1) := by rw [hIe.bkR.cell]; rfl
          have rl := hIe.bkR.lt
          have n0 : wr.cell? ⟨r2, 0, none⟩ = some (.int .i64 l) := by rw [hX.bk2.cell]; rfl
          have n1 : wr.cell? ⟨r2, 1, none⟩ = some (.slice N q dn) := by rw [hX.bk2.cell]; rfl
          have nl := hX.bk2.lt
          have hall := nxL_all (l := l) HLs.out
          have hlb : w.heap.size + 1 + 1 + 1 < b0 := by have h1 := HI0.out.bkL.lt; have h2 := HI0.out.lL; have h3 := Hb0.out; omega
          have hr2b := hX.l2
          clear i0 i1 il
          have HX := Lib.hid hX
          clear hX
          have HIe := Lib.hid hIe
          clear hIe
          have Hall := Lib.hid hall
          clear hall
          go_wp2_with (at_builtin; go_loud (refine wpList_app1l _ wr rfl _ _ 23 rfl b0 68 2 32 _ Tryz.underlying23 info_Rule rfl (by omega) _ q _ #[.string x0, .string x1] rfl rfl rfl HX.out.own2 rfl (one_cell_ruleP _ _) (by omega) (by unfold maxLen; omega) (by omega) ?_; intro g5 c5 w5 hO5 hG5 hat5; obtain ⟨hN5, hB5⟩ := HX.out.push (z := (x0, x1)) hO5 hG5 hat5; have t0 : w5.cell? ⟨r2, 0, none⟩ = some (.int .i64 l) := (by rw [hB5.cell]; rfl); have t1 : w5.cell? ⟨r2, 1, none⟩ = some (.slice N q dn) := (by rw [hB5.cell]; rfl); have tf := hB5.free 1; have tl := hB5.lt; have hI5 := HI0.out.below (low_b (low_own HX.out.lo hzw HX.out.own2 hG5) Hb0.out); have z0 : w5.cell? ⟨w.heap.size + 1 + 1, 0, none⟩ = some (.int .i64 0) := (by rw [hI5.bkZ.cell]; rfl); have z1 : w5.cell? ⟨w.heap.size + 1 + 1, 1, none⟩ = some (.slice none 0 0) := (by rw [hI5.bkZ.cell]; rfl); have zf0 := hI5.bkZ.free 0; have zf1 := hI5.bkZ.free 1; have zl := hI5.bkZ.lt))
          have hI6 := HI0.out.below (low_b hN5.lo Hb0.out)
          have hZ6 := (hI6.bkZ.put 0 (.int .i64 l)).put 1 (.slice (some ⟨g5, 0, none⟩) (q + 1) c5)
          have y0c : (((w5.setCell ⟨r2, 1, none⟩ (.slice (some ⟨g5, 0, none⟩) (q + 1) c5)).setCell ⟨w.heap.size + 1 + 1, 0, none⟩ (.int .i64 l)).setCell ⟨w.heap.size + 1 + 1, 1, none⟩ (.slice (some ⟨g5, 0, none⟩) (q + 1) c5)).cell? ⟨w.heap.size + 1 + 1, 0, none⟩ = some (.int .i64 l) := hZ6.cell 0
          have y1c : (((w5.setCell ⟨r2, 1, none⟩ (.slice (some ⟨g5, 0, none⟩) (q + 1) c5)).setCell ⟨w.heap.size + 1 + 1, 0, none⟩ (.int .i64 l)).setCell ⟨w.heap.size + 1 + 1, 1, none⟩ (.slice (some ⟨g5, 0, none⟩) (q + 1) c5)).cell? ⟨w.heap.size + 1 + 1, 1, none⟩ = some (.slice (some ⟨g5, 0, none⟩) (q + 1) c5) := hZ6.cell 1
          have hne1 : (Value.slice B m d).ownBlock ≠ some (w.heap.size + 2) := by intro e9; have := (hI6.own1.lt _ e9).1; omega
          have hne2 : (Value.slice (some ⟨g5, 0, none⟩) (q + 1) c5).ownBlock ≠ some (w.heap.size + 2) := by intro e9; have := (hN5.own2.lt _ e9).1; omega
          have hB7 := own_far3 (own_far3 hI6.own1 (p := ⟨w.heap.size + 2, 0, none⟩) hne1 (.int .i64 l)) (p := ⟨w.heap.size + 2, 1, none⟩) hne1 (.slice (some ⟨g5, 0, none⟩) (q + 1) c5)
          have hN7 := own_far3 (own_far3 hN5.own2 (p := ⟨w.heap.size + 2, 0, none⟩) hne2 (.int .i64 l)) (p := ⟨w.heap.size + 2, 1, none⟩) hne2 (.slice (some ⟨g5, 0, none⟩) (q + 1) c5)
          have hlow := hI6.low.trans (((Below.refl w.heap.size _).setCell (p := ⟨w.heap.size + 2, 0, none⟩) (by dsimp only; omega) (.int .i64 l)).setCell (p := ⟨w.heap.size + 2, 1, none⟩) (by dsimp only; omega) (.slice (some ⟨g5, 0, none⟩) (q + 1) c5))
          rw [Hall.out] at hN7
          have hlen : q + 1 = (insL l rs (x0, x1)).length := by rw [← Hall.out, List.length_append, nxL, List.length_map, List.length_take, ← HLs.out]; simp
          have hlenB : m = (goneL rs (x0, x1)).length := HM.out
          refine bodyPost_ret (v := .tuple #[.agg #[.int .i64 l, .slice (some ⟨g5, 0, none⟩) (q + 1) c5], .slice B m d]) (by simp [results, Tryz.results98, go_sem, y0c, y1c]) rfl ?_
          exact ⟨some ⟨g5, 0, none⟩, q + 1, c5, B, m, d, rfl, hlen, hlenB, own_mono hN7 (by omega), own_mono hB7 (by omega), hlow⟩
end Go.Proofs.YteafeecndghapaaGreat
