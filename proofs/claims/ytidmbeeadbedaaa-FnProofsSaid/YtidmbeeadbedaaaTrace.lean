/- Walks over TraceOf (the program's and the reference's): both hand back the same steps. -/
import Derived.Test.YtidmbeeadbedaaaNorm
namespace Go.Proofs.Ytidmbeeadbedaaa
open Go.RowKit Go.Shelf

theorem own_far {w : World} {base : Nat} {t : TypeId} {m n : Nat} {v : Value} {xs : List Value} (h : w.ownsRow base t m v n xs) {p : Addr} (hp : v.ownBlock ≠ some p.block) (u : Value) : (w.setCell p u).ownsRow base t m v n xs := by
  refine ⟨h.1, ?_⟩
  rcases h.2 with h2 | ⟨g, cap, cur, hv, hg, hh, r⟩
  · exact .inl h2
  · refine .inr ⟨g, cap, cur, hv, hg, ?_, r⟩
    rw [Below.heap_setCell]
    · exact hh
    · intro e
      subst hv
      exact hp (by simp [Value.ownBlock, e])
theorem own_new_ne {w : World} {base : Nat} {t : TypeId} {m n : Nat} {v : Value} {xs : List Value} (h : w.ownsRow base t m v n xs) {b : Nat} (hb : w.heap.size ≤ b) : v.ownBlock ≠ some b := by
  rcases h.2 with ⟨rfl, _⟩ | ⟨g, cap, cur, rfl, _, hh, _⟩
  · simp [Value.ownBlock]
  · have := (Array.getElem?_eq_some_iff.1 hh).1
    intro e
    have e2 : g = b := by simpa [Value.ownBlock] using e
    omega

/-- append of one element that lies in the newest block, onto a slice of the call's own: what lies elsewhere stays. -/
theorem wpList_app1g {P : Program} {ops : Array Oper} {rest : List Oper} {o : Oper} {a : Act} {Q : Exit → Act → World → Prop} (w w0 : World) (hgd : o.guard = none) (s x : Operand) (t : TypeId)
    (ho : o.op = .call { callee := .builtin .append, args := #[s, x], argTypes := #[t, t] }) (base e size bytes : Nat) (z : Value) (ht : P.underlying t = some (.slice e))
    (hinfo : (P.info? e).map (fun i => (i.zero, i.size, i.bytes)) = some (some z, size, bytes)) (hzs : z.cells.size = size) (hsz : 0 < size) (v : Value) (n : Nat) (xs : List Value) (cs : Array Value)
    (hw : w = w0.alloc (.cells cs e)) (hs : a.eval s = v) (hx : a.eval x = .slice (some ⟨w0.heap.size, 0, none⟩) 1 1) (hown : w0.ownsRow base e size v n xs) (hcs : cs.size = size) (h1 : ∀ u ∈ cs.toList, u.oneCell' = true)
    (hn : (n + 1) * bytes ≤ 140737488355328) (hm : n + 1 ≤ maxLen) (hbase : base ≤ w0.heap.size)
    (h : ∀ A c w', w'.ownsRow base e size (.slice A (n + 1) c) (n + 1) (xs ++ cs.toList) → Below base w0 w' → (∀ g t' cs', Bk w0 g t' cs' → some g ≠ v.ownBlock → Bk w' g t' cs') → wpList P ops Q rest (a.put o.dst (.slice A (n + 1) c)) w') :
    wpList P ops Q (o :: rest) a w := by
  subst hw
  obtain ⟨i0, hi, hz0, hz1, hz2⟩ := info_parts hinfo
  refine wpList_append_own _ hgd s x t ho base e i0 z size bytes ht hi hz0 hz1 hz2 hzs hsz v n xs hs (hown.alloc _) ⟨w0.heap.size, 0, none⟩ 1 1 cs.toList hx (by simpa using hcs) ?_ h1 hm hn (by simp; omega) ?_
  · intro j u hu
    have e' : (⟨w0.heap.size, 0, none⟩ : Addr).add j = ⟨w0.heap.size, j, none⟩ := by unfold Addr.add; split <;> simp_all
    rw [e', (Bk.new w0 e cs).cell j]
    simpa using hu
  · intro v' w' hown' hgrow _
    have hform : ∃ A c, v' = .slice A (n + 1) c := by
      rcases hown'.2 with ⟨_, h0⟩ | ⟨g, cap, cur, hv, _⟩
      · omega
      · exact ⟨_, _, hv⟩
    obtain ⟨A, c, rfl⟩ := hform
    refine h A c w' hown' ?_ ?_
    · have hb0 : Below base w0 (w0.alloc (.cells cs e)) := (Below.refl _ _).alloc hbase _
      exact hb0.grown hgrow (by simp; omega) fun k hk => ((hown.alloc (.cells cs e)).lt k hk).1
    · intro g t' cs' hb hg
      exact (hb.alloc _).grown hgrow hg

theorem trace_len {l : Int} {rs : List RuleT} (hs : systemOk l rs = true) : ∀ (n : Nat) (s : ByteArray), val4 s ≤ n → (traceS rs s).length + 1 ≤ val4 s := by
  intro n
  induction n with
  | zero => intro s h; have := val4_pos s; omega
  | succ n ih =>
    intro s h
    have h0 := val4_pos s
    cases hf : firstS rs s with
    | none => rw [traceS, endF_none hf]; simpa using h0
    | some x =>
      have h1 := step_val hs (firstS_mem hf)
      have h2 := ih (applyS rs s x) (by omega)
      have e : traceS rs s = x :: traceS rs (applyS rs s x) := by rw [traceS, endF_some (first_val hs) hf]; rfl
      rw [e, List.length_cons]
      omega

theorem trS_len (l : Int) (rs : List RuleT) (s : ByteArray) : (trS l rs s).length ≤ 8589934592 := by
  unfold trS
  split
  · next h =>
    obtain ⟨h1, h2⟩ := takes_sys h
    have h3 := trace_len h1 (val4 s) s (Nat.le_refl _)
    have h4 := val4_le h2
    omega
  · simp

set_option maxRecDepth 100000 in
set_option maxHeartbeats 1000000 in
theorem specTraceOf_any (l : Int) (A : Option Addr) (n c : Nat) (rs : List RuleT) (s : ByteArray) (w : World) (hr : Rd w A (cellsRule rs)) (hn : n = rs.length) (hb : n ≤ 1048576) (hz : ∀ x ∈ rs, x.1.size ≤ 1048576 ∧ x.2.size ≤ 1048576) (hs : s.size ≤ 1048576) :
    Calls Try.prog 17 #[.agg #[.int .i64 l, .slice A n c], .string s] w (MadeSlB w 61 2 (trS l rs s).length (cellsStep (trS l rs s)) (takesOk l rs s)) := by
  have hW0 : Below w.heap.size w (w.alloc (.cells #[.int .i64 l, .slice A n c] 25)) := (Below.refl _ _).alloc (Nat.le_refl _) _
  have hS0 := Bk.new w 25 #[.int .i64 l, .slice A n c]
  have Hr := Lib.hid hr
  clear hr
  have Hn := Lib.hid hn
  clear hn
  have Hz := Lib.hid hz
  clear hz
  go_enter Try.func17, Try.ntmps17
  go_wp2_with fail
  with_reducible refine (specTakes_any l A n c rs s _ (Hr.out.keep hW0) Hn.out hb Hz.out hs).mono ?_
  rintro e w1 ⟨rfl, b1⟩
  have hW1 := hW0.trans (b1.mono hW0.size)
  have hS1 := hS0.below b1 hS0.lt
  have s0_1 : w1.cell? ⟨w.heap.size, 0, none⟩ = some (.int .i64 l) := by rw [hS1.cell]; rfl
  have s1_1 : w1.cell? ⟨w.heap.size, 1, none⟩ = some (.slice A n c) := by rw [hS1.cell]; rfl
  have sl_1 := hS1.lt
  clear b1
  obtain ⟨r, hrr⟩ : ∃ r, r = takesOk l rs s := ⟨_, rfl⟩
  rw [← hrr]
  cases r
  · have e1 : trS l rs s = [] := by rw [trS, ← hrr]; rfl
    have Hrr := Lib.hid hrr
    clear hrr
    have E1 := Lib.hid e1
    clear e1
    go_wp2_with fail
    go_ret2
    rw [E1.out, ← Hrr.out]
    exact ⟨none, 0, rfl, World.ownsRow_nil _ _ _ _, hW1⟩
  have e1 : trS l rs s = traceS rs s := by rw [trS, ← hrr]; rfl
  obtain ⟨hsy, hwo⟩ := takes_sys hrr.symm
  have hv := val4_le hwo
  have Hrr := Lib.hid hrr
  clear hrr
  have E1 := Lib.hid e1
  clear e1
  have Hsy := Lib.hid hsy
  clear hsy
  go_wp2_with fail
  refine (specTrace_any l A n c rs s _ (Hr.out.keep hW1) Hn.out hb Hz.out hs Hsy.out hv).mono ?_
  rintro e w2 ⟨B, d, rfl, hO, b2⟩
  obtain ⟨a, ha⟩ : ∃ a, a = normS rs s := ⟨_, rfl⟩
  obtain ⟨m, hm⟩ : ∃ m, m = (traceS rs s).length := ⟨_, rfl⟩
  rw [← hm] at hO
  rw [← ha, ← hm]
  have Ha := Lib.hid ha
  clear ha
  have Hm := Lib.hid hm
  clear hm
  have HO := Lib.hid hO
  clear hO
  go_wp2_with fail
  go_ret2
  rw [E1.out, ← Hrr.out, ← Hm.out]
  exact ⟨B, d, rfl, own_mono HO.out hW1.size, hW1.trans (b2.mono hW1.size)⟩

set_option maxRecDepth 100000 in
set_option maxHeartbeats 2000000 in
theorem implTraceOf_any (l : Int) (A : Option Addr) (n c : Nat) (rs : List RuleT) (s : ByteArray) (w : World) (hr : Rd w A (cellsRule rs)) (hn : n = rs.length) (hb : n ≤ 1048576) (hz : ∀ x ∈ rs, x.1.size ≤ 1048576 ∧ x.2.size ≤ 1048576) (hs : s.size ≤ 1048576) :
    Calls Try.prog 32 #[.agg #[.int .i64 l, .slice A n c], .string s] w (MadeSlB w 61 2 (trS l rs s).length (cellsStep (trS l rs s)) (takesOk l rs s)) := by
  have hW0 : Below w.heap.size w (w.alloc (.cells #[.int .i64 l, .slice A n c] 25)) := (Below.refl _ _).alloc (Nat.le_refl _) _
  have hS0 := Bk.new w 25 #[.int .i64 l, .slice A n c]
  have Hr := Lib.hid hr
  clear hr
  have Hn := Lib.hid hn
  clear hn
  have Hz := Lib.hid hz
  clear hz
  go_enter Try.func32, Try.ntmps32
  go_wp2_with fail
  with_reducible refine (implTakes_any l A n c rs s _ (Hr.out.keep hW0) Hn.out hb Hz.out hs).mono ?_
  rintro e w1 ⟨rfl, b1⟩
  have hW1 := hW0.trans (b1.mono hW0.size)
  have hS1 := hS0.below b1 hS0.lt
  have s0_1 : w1.cell? ⟨w.heap.size, 0, none⟩ = some (.int .i64 l) := by rw [hS1.cell]; rfl
  have s1_1 : w1.cell? ⟨w.heap.size, 1, none⟩ = some (.slice A n c) := by rw [hS1.cell]; rfl
  have sl_1 := hS1.lt
  clear b1
  obtain ⟨r, hrr⟩ : ∃ r, r = takesOk l rs s := ⟨_, rfl⟩
  rw [← hrr]
  cases r
  · have e1 : trS l rs s = [] := by rw [trS, ← hrr]; rfl
    have Hrr := Lib.hid hrr
    clear hrr
    have E1 := Lib.hid e1
    clear e1
    go_wp2_with fail
    go_ret2
    rw [E1.out, ← Hrr.out]
    exact ⟨none, 0, rfl, World.ownsRow_nil _ _ _ _, hW1⟩
  have e1 : trS l rs s = traceS rs s := by rw [trS, ← hrr]; rfl
  obtain ⟨hsy, hwo⟩ := takes_sys hrr.symm
  have hv := val4_le hwo
  have Hrr := Lib.hid hrr
  clear hrr
  have E1 := Lib.hid e1
  clear e1
  have Hsy := Lib.hid hsy
  clear hsy
  go_wp2_with fail
  with_reducible refine (implFirst_any l A n c rs s _ (Hr.out.keep hW1) Hn.out hb Hz.out hs).mono ?_
  rintro e w2 ⟨rfl, b1⟩
  have hW2' := hW1.trans (b1.mono hW1.size)
  have hS2' := hS1.below b1 hS1.lt
  have hsl1 := hS2'.lt
  clear s0_1 s1_1 sl_1 b1 hS0 hW0 hS1 hW1
  rw [stepV_eq]
  obtain ⟨a, ha⟩ : ∃ a, a = stepX (firstS rs s) := ⟨_, rfl⟩
  obtain ⟨b, hb2⟩ : ∃ b, b = stepY (firstS rs s) := ⟨_, rfl⟩
  obtain ⟨k, hk⟩ : ∃ k, k = (firstS rs s).isSome := ⟨_, rfl⟩
  rw [← ha, ← hb2, ← hk]
  have hS2 := hS2'.alloc (.cells #[.int .i64 a, .int .i64 b] 61)
  have hW2 := hW2'.alloc hW2'.size (.cells #[.int .i64 a, .int .i64 b] 61)
  have hX2 := Bk.new w2 61 #[.int .i64 a, .int .i64 b]
  clear hS2' hW2'
  have Ha := Lib.hid ha
  clear ha
  have Hb2 := Lib.hid hb2
  clear hb2
  have Hk := Lib.hid hk
  clear hk
  have HS2 := Lib.hid hS2
  clear hS2
  have HW2 := Lib.hid hW2
  clear hW2
  have HX2 := Lib.hid hX2
  clear hX2
  go_wp2_with fail
  go_loopw [1, 6, 7, 8] (fun v o u y wr => ∃ (cur : ByteArray) (acc : List StepT) (B : Option Addr) (d m bx : Nat), v = .string cur ∧ o = .slice B m d ∧ u = .pointer (some ⟨bx, 0, none⟩) ∧ y = .bool (firstS rs cur).isSome ∧ cur.size ≤ 1048576 ∧ m + val4 cur ≤ 8589934592 ∧ Hid (m = acc.length) ∧ Hid (endF (firstS rs) rs s = (acc ++ (endF (firstS rs) rs cur).1, (endF (firstS rs) rs cur).2)) ∧ Bk wr w.heap.size 25 #[.int .i64 l, .slice A n c] ∧ Bk wr bx 61 #[.int .i64 (stepX (firstS rs cur)), .int .i64 (stepY (firstS rs cur))] ∧ wr.ownsRow (w.heap.size + 1) 61 2 (.slice B m d) m (cellsStep acc) ∧ w.heap.size < bx ∧ (Value.slice B m d).ownBlock ≠ some bx ∧ Below w.heap.size w wr) (fun v _ _ _ _ => val4 (strOf v))
  case atStart => exact ⟨s, [], none, 0, 0, w2.heap.size, rfl, rfl, rfl, by rw [Hk.out], hs, by omega, rfl, by unfold Hid; rfl, HS2.out, by rw [← Ha.out, ← Hb2.out]; exact HX2.out, World.ownsRow_nil _ _ _ _, hsl1, by simp [Value.ownBlock], HW2.out⟩
  case round =>
    clear HS2 HW2 HX2
    obtain ⟨cur, acc, B, d, m, bx, rfl, rfl, rfl, rfl, hcs, hmv, HM, HE, hS0, hX0, hown, hbx, hne, hW0⟩ := hrel
    obtain ⟨f, hf⟩ : ∃ f, f = firstS rs cur := ⟨_, rfl⟩
    rw [← hf] at hX0 ⊢
    cases f with
    | none =>
      have hE2 : endF (firstS rs) rs s = (acc, cur) := by rw [HE.out, endF_none hf.symm, List.append_nil]
      have hT : traceS rs s = acc := by rw [traceS, hE2]
      have Hf := Lib.hid hf
      clear hf
      have HE2 := Lib.hid hE2
      clear hE2
      have HT := Lib.hid hT
      clear hT
      rw [Option.isSome_none]
      go_wp2_with fail
      go_ret2
      rw [E1.out, ← Hrr.out, HT.out, ← HM.out]
      exact ⟨B, d, rfl, own_mono hown (by omega), hW0⟩
    | some x =>
      obtain ⟨x0, x1⟩ := x
      have hmem := firstS_mem hf.symm
      have hsz := apply_size hmem
      have hval := step_val Hsy.out hmem
      have hE2 := endF_some (first_val Hsy.out) hf.symm
      obtain ⟨K, P, hxe, hK, -, -⟩ := mem_step hmem
      have hx0 : x0 = (K : Int) := congrArg Prod.fst hxe
      obtain ⟨nx, hnx⟩ : ∃ nx, nx = applyS rs cur (x0, x1) := ⟨_, rfl⟩
      obtain ⟨no, hno⟩ : ∃ no, no = applyOk rs cur (x0, x1) := ⟨_, rfl⟩
      rw [← hnx] at hsz hval hE2
      have hE3 : endF (firstS rs) rs s = ((acc ++ [(x0, x1)]) ++ (endF (firstS rs) rs nx).1, (endF (firstS rs) rs nx).2) := by rw [HE.out, hE2, List.append_assoc]; rfl
      have q0 : wr.cell? ⟨bx, 0, none⟩ = some (.int .i64 x0) := by rw [hX0.cell]; rfl
      have q1 : wr.cell? ⟨bx, 1, none⟩ = some (.int .i64 x1) := by rw [hX0.cell]; rfl
      have xl := hX0.lt
      have sl := hS0.lt
      clear hmem hxe
      rw [Option.isSome_some]
      have Hf := Lib.hid hf
      clear hf
      have HE2 := Lib.hid hE2
      clear hE2
      have HE3 := Lib.hid hE3
      clear hE3
      have Hnx := Lib.hid hnx
      clear hnx
      have Hno := Lib.hid hno
      clear hno
      have Hx0 := Lib.hid hx0
      clear hx0
      have HX0 := Lib.hid hX0
      clear hX0
      have HS0 := Lib.hid hS0
      clear hS0
      have hne' : some bx ≠ (Value.slice B m d).ownBlock := fun e => hne e.symm
      clear hne
      have Hne' := Lib.hid hne'
      clear hne'
      go_wp2_with (at_builtin; refine wpList_app1g _ wr rfl _ _ 40 rfl (w.heap.size + 1) 61 2 16 _ Try.underlying40 info_Step rfl (by omega) _ _ _ _ rfl rfl rfl hown rfl (one_cell_step _ _) (by omega) (by unfold maxLen; omega) (by omega) ?_; intro A5 c5 w2 hO5 hW5 hK5; have hS2 := HS0.out.below hW5 (by omega); have hX2 := hK5 _ _ _ HX0.out Hne'.out; have s0 : w2.cell? ⟨w.heap.size, 0, none⟩ = some (.int .i64 l) := (hS2.cell 0); have s1 : w2.cell? ⟨w.heap.size, 1, none⟩ = some (.slice A n c) := (hS2.cell 1); have q0 : w2.cell? ⟨bx, 0, none⟩ = some (.int .i64 x0) := (hX2.cell 0); have q1 : w2.cell? ⟨bx, 1, none⟩ = some (.int .i64 x1) := (hX2.cell 1); have xl := hX2.lt; have sl := hS2.lt)
      have hW2 := hW0.trans (hW5.mono (by omega))
      have hO2 : w2.ownsRow (w.heap.size + 1) 61 2 (.slice A5 (m + 1) c5) (m + 1) (cellsStep (acc ++ [(x0, x1)])) := by rw [cellsStep_snoc]; exact hO5
      clear hO5 hK5 hown HS0 HX0 hW0
      have HX2 := Lib.hid hX2
      clear hX2
      have HS2 := Lib.hid hS2
      clear hS2
      have HO2 := Lib.hid hO2
      clear hO2
      with_reducible refine (implApply_any l A n c rs cur x0 x1 K _ (Hr.out.keep hW2) Hn.out hb Hz.out hcs Hx0.out hK).mono ?_
      rintro e w3 ⟨rfl, b3⟩
      rw [← Hnx.out, ← Hno.out]
      have hW3 := hW2.trans (b3.mono hW2.size)
      have hS3 := HS2.out.below b3 HS2.out.lt
      have hX3 := HX2.out.below b3 HX2.out.lt
      have hO3 := own_keep HO2.out b3 (Nat.le_refl _)
      clear s0 s1 q0 q1 xl sl b3 HX2 HS2 HO2
      have q0 : w3.cell? ⟨bx, 0, none⟩ = some (.int .i64 x0) := by rw [hX3.cell]; rfl
      have q1 : w3.cell? ⟨bx, 1, none⟩ = some (.int .i64 x1) := by rw [hX3.cell]; rfl
      have s0 : w3.cell? ⟨w.heap.size, 0, none⟩ = some (.int .i64 l) := by rw [hS3.cell]; rfl
      have s1 : w3.cell? ⟨w.heap.size, 1, none⟩ = some (.slice A n c) := by rw [hS3.cell]; rfl
      have xl := hX3.lt
      have sl := hS3.lt
      have hN3 := own_new_ne hO3 (Nat.le_refl _)
      have hW4 := hW3.alloc hW3.size (.cells #[.int .i64 x0, .int .i64 x1] 61)
      have hS4 := hS3.alloc (.cells #[.int .i64 x0, .int .i64 x1] 61)
      have hX4 := Bk.new w3 61 #[.int .i64 x0, .int .i64 x1]
      have hO4 := own_keep hO3 ((Below.refl _ w3).alloc (Nat.le_refl _) (.cells #[.int .i64 x0, .int .i64 x1] 61)) (Nat.le_refl _)
      have HX3 := Lib.hid hX3
      clear hX3
      have HS3 := Lib.hid hS3
      clear hS3
      have HW4 := Lib.hid hW4
      clear hW4
      have HS4 := Lib.hid hS4
      clear hS4
      have HX4 := Lib.hid hX4
      clear hX4
      have HO4 := Lib.hid hO4
      clear hO4
      have HO3 := Lib.hid hO3
      clear hO3
      have HN3 := Lib.hid hN3
      clear hN3
      go_wp2_with fail
      with_reducible refine (implFirst_any l A n c rs nx _ (Hr.out.keep HW4.out) Hn.out hb Hz.out (by omega)).mono ?_
      rintro e w5 ⟨rfl, b5⟩
      rw [stepV_eq]
      obtain ⟨a, ha⟩ : ∃ a, a = stepX (firstS rs nx) := ⟨_, rfl⟩
      obtain ⟨b, hb2⟩ : ∃ b, b = stepY (firstS rs nx) := ⟨_, rfl⟩
      obtain ⟨k, hk⟩ : ∃ k, k = (firstS rs nx).isSome := ⟨_, rfl⟩
      rw [← ha, ← hb2, ← hk]
      have hW5' := HW4.out.trans (b5.mono HW4.out.size)
      have hS5 := HS4.out.below b5 HS4.out.lt
      have hX5 := HX4.out.below b5 HX4.out.lt
      have hO5 := own_keep HO4.out b5 (Nat.le_refl _)
      have y0 : w5.cell? ⟨w3.heap.size, 0, none⟩ = some (.int .i64 x0) := by rw [hX5.cell]; rfl
      have y1 : w5.cell? ⟨w3.heap.size, 1, none⟩ = some (.int .i64 x1) := by rw [hX5.cell]; rfl
      have f0 := hX5.free 0
      have f1 := hX5.free 1
      have yl := hX5.lt
      clear b5 HW4 HS4 HX4 HO4 s0 s1 q0 q1
      have HX5 := Lib.hid hX5
      clear hX5
      have HS5 := Lib.hid hS5
      clear hS5
      have HO5 := Lib.hid hO5
      clear hO5
      have Ha := Lib.hid ha
      clear ha
      have Hb2 := Lib.hid hb2
      clear hb2
      have Hk := Lib.hid hk
      clear hk
      go_wp2_with fail
      go_roundw
      case rel =>
        refine ⟨nx, acc ++ [(x0, x1)], A5, c5, m + 1, w3.heap.size, rfl, rfl, rfl, by rw [Hk.out], by omega, by omega, by unfold Hid; rw [List.length_append, HM.out]; rfl, HE3.out, ?_, ?_, ?_, sl, HN3.out, ?_⟩
        · exact (HS5.out.far (p := ⟨w3.heap.size, 0, none⟩) (by dsimp only; omega) _).far (p := ⟨w3.heap.size, 1, none⟩) (by dsimp only; omega) _
        · rw [← Ha.out, ← Hb2.out]
          exact (HX5.out.put 0 (.int .i64 a)).put 1 (.int .i64 b)
        · exact own_far (own_far HO5.out (p := ⟨w3.heap.size, 0, none⟩) HN3.out _) (p := ⟨w3.heap.size, 1, none⟩) HN3.out _
        · exact (hW5'.setCell (by dsimp only; omega) _).setCell (by dsimp only; omega) _
      case measure => simp only [strOf_string]; omega

end Go.Proofs.Ytidmbeeadbedaaa
