/- Walk over WeightApart of the program. -/
import Derived.Test.YtidmbeeadbedaaaMg22
namespace Go.Proofs.Ytidmbeeadbedaaa
open Go.RowKit Go.Shelf
attribute [local go_sem] Oper.semAt_some

theorem results_cell2 {fn : Func} {p q : Tmp} {t1 t2 : TypeId} (h : fn.results = #[.cell p t1, .cell q t2]) (tmps : Array Value) (P : Program) (w : World) :
    (results fn tmps).run P w = ((asAddr (tmps.getD p undef)).run P w).andThen fun a w1 => ((loadVar t1 a).run P w1).andThen fun v w2 => ((asAddr (tmps.getD q undef)).run P w2).andThen fun b w3 => ((loadVar t2 b).run P w3).andThen fun u w4 => .ok (.tuple #[v, u]) w4 := by
  simp only [results, h]
  simp [Sem.run_bind, Result.andThen]
/-- The six boxes of WeightApart. -/
structure Six (w W : World) (l : Int) (A : Option Addr) (n c : Nat) (m : Int) (u v : ByteArray) (r0 r1 : Value) : Prop where
  s : Bk W w.heap.size 25 #[.int .i64 l, .slice A n c]
  m : Bk W (w.heap.size + 1) 3 #[.int .i64 m]
  u : Bk W (w.heap.size + 1 + 1) 9 #[.string u]
  v : Bk W (w.heap.size + 1 + 1 + 1) 9 #[.string v]
  a : Bk W (w.heap.size + 1 + 1 + 1 + 1) 73 #[r0]
  b : Bk W (w.heap.size + 1 + 1 + 1 + 1 + 1) 4 #[r1]
theorem Six.below {w W W' : World} {l : Int} {A : Option Addr} {n c : Nat} {m : Int} {u v : ByteArray} {r0 r1 : Value} (h : Six w W l A n c m u v r0 r1) (hb : Below W.heap.size W W') : Six w W' l A n c m u v r0 r1 :=
  ⟨h.s.below hb h.s.lt, h.m.below hb h.m.lt, h.u.below hb h.u.lt, h.v.below hb h.v.lt, h.a.below hb h.a.lt, h.b.below hb h.b.lt⟩
theorem Six.old {w W W' : World} {l : Int} {A : Option Addr} {n c : Nat} {m : Int} {u v : ByteArray} {r0 r1 : Value} {row : Option Nat} {B : Nat} (h : Six w W l A n c m u v r0 r1) (hg : W.grownBy W' row) (hr : ∀ r, row = some r → B ≤ r) (hB : w.heap.size + 6 ≤ B) : Six w W' l A n c m u v r0 r1 :=
  ⟨bk_old h.s hg hr (by omega), bk_old h.m hg hr (by omega), bk_old h.u hg hr (by omega), bk_old h.v hg hr (by omega), bk_old h.a hg hr (by omega), bk_old h.b hg hr (by omega)⟩
theorem Six.put {w W : World} {l : Int} {A : Option Addr} {n c : Nat} {m : Int} {u v : ByteArray} {r0 r1 : Value} (h : Six w W l A n c m u v r0 r1) (x0 x1 : Value) : Six w ((W.setCell ⟨w.heap.size + 1 + 1 + 1 + 1, 0, none⟩ x0).setCell ⟨w.heap.size + 1 + 1 + 1 + 1 + 1, 0, none⟩ x1) l A n c m u v x0 x1 :=
  ⟨(h.s.far (by dsimp only; omega) _).far (by dsimp only; omega) _, (h.m.far (by dsimp only; omega) _).far (by dsimp only; omega) _, (h.u.far (by dsimp only; omega) _).far (by dsimp only; omega) _,
    (h.v.far (by dsimp only; omega) _).far (by dsimp only; omega) _, (h.a.put 0 x0).far (by dsimp only; omega) _, (h.b.far (by dsimp only; omega) _).put 0 x1⟩
theorem below_put {w W : World} (h : Below w.heap.size w W) (x0 x1 : Value) : Below w.heap.size w ((W.setCell ⟨w.heap.size + 1 + 1 + 1 + 1, 0, none⟩ x0).setCell ⟨w.heap.size + 1 + 1 + 1 + 1 + 1, 0, none⟩ x1) :=
  (h.setCell (p := ⟨w.heap.size + 1 + 1 + 1 + 1, 0, none⟩) (by show w.heap.size ≤ w.heap.size + 1 + 1 + 1 + 1; omega) _).setCell (p := ⟨w.heap.size + 1 + 1 + 1 + 1 + 1, 0, none⟩) (by show w.heap.size ≤ w.heap.size + 1 + 1 + 1 + 1 + 1; omega) _
theorem bk_obj {W : World} {g k : Nat} {t : TypeId} {cs : Array Value} {o : Obj} (o' : Obj) (h : Bk W g t cs) (hl : W.heap[k]? = some o) (hc : o.isCells = false) : Bk (W.putObj k o') g t cs :=
  (World.putObj_heap_other (fun e => by unfold Bk at h; rw [e, hl] at h; cases h; cases hc)).trans h
theorem Six.obj {w W : World} {l : Int} {A : Option Addr} {n c : Nat} {m : Int} {u v : ByteArray} {r0 r1 : Value} {k : Nat} {o : Obj} (o' : Obj) (h : Six w W l A n c m u v r0 r1) (hl : W.heap[k]? = some o) (hc : o.isCells = false) : Six w (W.putObj k o') l A n c m u v r0 r1 :=
  ⟨bk_obj o' h.s hl hc, bk_obj o' h.m hl hc, bk_obj o' h.u hl hc, bk_obj o' h.v hl hc, bk_obj o' h.a hl hc, bk_obj o' h.b hl hc⟩
theorem Six.cells {w W : World} {l : Int} {A : Option Addr} {n c : Nat} {m : Int} {u v : ByteArray} {r0 r1 : Value} (h : Six w W l A n c m u v r0 r1) :
    W.cell? ⟨w.heap.size, 0, none⟩ = some (.int .i64 l) ∧ W.cell? ⟨w.heap.size, 1, none⟩ = some (.slice A n c) ∧ W.cell? ⟨w.heap.size + 1, 0, none⟩ = some (.int .i64 m) ∧ W.cell? ⟨w.heap.size + 1 + 1, 0, none⟩ = some (.string u) ∧ W.cell? ⟨w.heap.size + 1 + 1 + 1, 0, none⟩ = some (.string v) ∧ W.cell? ⟨w.heap.size + 1 + 1 + 1 + 1, 0, none⟩ = some r0 ∧ W.cell? ⟨w.heap.size + 1 + 1 + 1 + 1 + 1, 0, none⟩ = some r1 :=
  ⟨by rw [h.s.cell]; rfl, by rw [h.s.cell]; rfl, by rw [h.m.cell]; rfl, by rw [h.u.cell]; rfl, by rw [h.v.cell]; rfl, by rw [h.a.cell]; rfl, by rw [h.b.cell]; rfl⟩

theorem Six.six {w W : World} {l : Int} {A : Option Addr} {n c : Nat} {m : Int} {u v : ByteArray} {r0 r1 : Value} (h : Six w W l A n c m u v r0 r1) :
    W.cell? ⟨w.heap.size, 0, none⟩ = some (.int .i64 l) ∧ W.cell? ⟨w.heap.size, 1, none⟩ = some (.slice A n c) ∧ W.cell? ⟨w.heap.size + 1, 0, none⟩ = some (.int .i64 m) ∧ W.cell? ⟨w.heap.size + 1 + 1, 0, none⟩ = some (.string u) ∧ W.cell? ⟨w.heap.size + 1 + 1 + 1, 0, none⟩ = some (.string v) ∧ W.cell? ⟨w.heap.size + 1 + 1 + 1 + 1, 0, none⟩ = some r0 := by
  obtain ⟨h0, h1, h2, h3, h4, h5, _⟩ := h.cells
  exact ⟨h0, h1, h2, h3, h4, h5⟩
theorem wa_found {l : Int} {rs : List RuleT} {m : Int} {u v : ByteArray} {b L : Nat} {pre : List (Nat × List Int)} {ws : List Int} (hL : L = l.toNat) (hb : b = m.toNat) (hca : came b L pre) (hlen : pre.length < b ^ L) (hx : ws = boxAt b L pre.length) (hno : ∀ x ∈ pre, (keepsAll m x.2 rs && apartW m u v x.2) = false)
    (hk : keepsAll m ws rs = true) (ha : apartW m u v ws = true) : (keptL l rs m).find? (apartW m u v) = some ws := by
  rw [keptL, List.find?_filter, ← hb, ← hL]
  refine find_skip (k := pre.length) (by rw [hx]; exact boxes_get hlen) (fun y hy => ?_) (by simp [hk, ha])
  have h : (boxes b L).take pre.length = pre.map (·.2) := by rw [hca, boxes, ← List.map_take, List.take_range, Nat.min_eq_left (Nat.le_of_lt hlen)]
  rw [h] at hy
  obtain ⟨x, hx, rfl⟩ := List.mem_map.1 hy
  have h2 := hno x hx
  revert h2
  cases keepsAll m x.2 rs <;> cases apartW m u v x.2 <;> simp

set_option maxRecDepth 100000 in
set_option maxHeartbeats 4000000 in
theorem implWeightApart_any (l : Int) (A : Option Addr) (n c : Nat) (rs : List RuleT) (m : Int) (u v : ByteArray) (w : World) (hr : Rd w A (cellsRule rs)) (hn : n = rs.length) (hb : n ≤ 1048576) (hz : ∀ x ∈ rs, x.1.size ≤ 1048576 ∧ x.2.size ≤ 1048576) (hu : u.size ≤ 1048576) (hv : v.size ≤ 1048576) :
    Calls Try.prog 47 #[.agg #[.int .i64 l, .slice A n c], .int .i64 m, .string u, .string v] w (MadeSlB w 3 1 (waL l rs m u v).length (ints (waL l rs m u v)) (waOk l rs m u v)) := by
  refine (callsIn_wide (n := 8)).1 ?_
  have no : ∀ (W : World), Below w.heap.size w W → waF l rs m u v = none → MadeSlB w 3 1 (waL l rs m u v).length (ints (waL l rs m u v)) (waOk l rs m u v) (.returned (.tuple #[.slice none 0 0, .bool false])) W := fun W hW h => by
    rw [(wa_none h).1, (wa_none h).2]
    exact ⟨none, 0, rfl, World.ownsRow_nil _ _ _ _, hW⟩
  have hz1 : ∀ (x : World) (o : Obj), (x.alloc o).heap.size = x.heap.size + 1 := fun x o => World.size_alloc x o
  obtain ⟨w0, hw0⟩ : ∃ W, W = (((((w.alloc (.cells #[.int .i64 l, .slice A n c] 25)).alloc (.cells #[.int .i64 m] 3)).alloc (.cells #[.string u] 9)).alloc (.cells #[.string v] 9)).alloc (.cells #[.slice none 0 0] 73)).alloc (.cells #[.bool false] 4) := ⟨_, rfl⟩
  have h6 : Six w w0 l A n c m u v (.slice none 0 0) (.bool false) := by
    rw [hw0]
    exact ⟨(((((Bk.new w _ _).alloc _).alloc _).alloc _).alloc _).alloc _, (((((Bk.new (w.alloc _) _ _).cast (by simp [hz1])).alloc _).alloc _).alloc _).alloc _, ((((Bk.new ((w.alloc _).alloc _) _ _).cast (by simp [hz1])).alloc _).alloc _).alloc _,
      (((Bk.new (((w.alloc _).alloc _).alloc _) _ _).cast (by simp [hz1])).alloc _).alloc _, ((Bk.new ((((w.alloc _).alloc _).alloc _).alloc _) _ _).cast (by simp [hz1])).alloc _, (Bk.new (((((w.alloc _).alloc _).alloc _).alloc _).alloc _) _ _).cast (by simp [hz1])⟩
  have hW0 : Below w.heap.size w w0 := by
    rw [hw0]
    exact (((((((Below.refl _ _).alloc (Nat.le_refl _) _).alloc (by simp) _).alloc (by simp; omega) _).alloc (by simp; omega) _).alloc (by simp; omega) _).alloc (by simp; omega) _)
  have hs0 : w0.heap.size = w.heap.size + 6 := by rw [hw0]; simp
  have Hr := Lib.hid hr
  clear hr
  have Hn := Lib.hid hn
  clear hn
  have Hz := Lib.hid hz
  clear hz
  have No := Lib.hid no
  clear no
  refine callsIn_of_wp_marks Try.func47 rfl trivial ?_ rfl
  simp only [Try.ntmps47, List.size_toArray, List.length_cons, List.length_nil, Nat.reduceAdd, Nat.reduceSub, Array.replicate_succ, Array.replicate_zero, List.push_toArray, List.append_toArray, List.nil_append, List.cons_append]
  have hc0 := h6.cells
  rw [hw0] at hc0
  obtain ⟨q0, q1, q2, q3, q4, q5, q6⟩ := hc0
  have res : ∀ (W : World) (r0 : Value) (r1 : Bool) (A0 : Option Addr) (n0 c0 : Nat) (tm : Array Value), r0 = .slice A0 n0 c0 → tm.getD 8 undef = .pointer (some ⟨w.heap.size + 1 + 1 + 1 + 1, 0, none⟩) → tm.getD 9 undef = .pointer (some ⟨w.heap.size + 1 + 1 + 1 + 1 + 1, 0, none⟩) → Six w W l A n c m u v r0 (.bool r1) → (results Try.f47 tm).run Try.prog W = .ok (.tuple #[r0, .bool r1]) W := by
    intro W r0 r1 A0 n0 c0 tm hr0 h8 h9 hx
    subst hr0
    obtain ⟨_, _, _, _, _, k5, k6⟩ := hx.cells
    rw [results_cell2 rfl, h8, h9]
    clear Hr Hn Hz
    go_simp
  gi_wp2
  rw [← hw0]
  refine ⟨trivial, (callsIn_wide.2 (implRulesOk_any l A n c rs _ (Hr.out.keep hW0) Hn.out hb Hz.out)).mono ?_⟩
  rintro e w1 ⟨rfl, b1⟩
  have hW1 := hW0.trans (b1.mono hW0.size)
  have h61 := h6.below b1
  have hs1 := b1.size
  clear h6 hW0 b1 q0 q1 q2 q3 q4 q5 q6 hw0 hz1
  obtain ⟨q0, q1, q2, q3, q4, q5, q6⟩ := h61.cells
  have f4 := h61.a.free 0
  have f5 := h61.b.free 0
  obtain ⟨r1, hrr⟩ : ∃ r', r' = (rulesOk l rs) := ⟨_, rfl⟩
  rw [← hrr]
  have H1 := Lib.hid hrr
  clear hrr
  cases r1
  · gi_wp2
    refine ⟨trivial, ?_⟩
    gi_wp2
    refine ⟨trivial, ?_⟩
    gi_wp2
    refine ⟨trivial, ?_⟩
    gi_wp2
    refine ⟨_, res _ _ _ none 0 0 _ rfl rfl rfl (h61.put (.slice none 0 0) (.bool false)), ?_⟩
    exact No.out _ (below_put hW1 _ _) (by rw [waF, waCond, ← H1.out]; simp)
  gi_wp2
  refine ⟨trivial, (callsIn_wide.2 (within_any m 1 6 _)).mono ?_⟩
  rintro e w2 ⟨rfl, hw2⟩
  subst hw2
  by_cases hmm : 1 ≤ m ∧ m ≤ 6
  rotate_left
  · have hin : inB m 1 6 = false := by unfold inB; simp; omega
    rw [hin]
    gi_wp2
    refine ⟨trivial, ?_⟩
    gi_wp2
    refine ⟨trivial, ?_⟩
    gi_wp2
    refine ⟨_, res _ _ _ none 0 0 _ rfl rfl rfl (h61.put (.slice none 0 0) (.bool false)), ?_⟩
    exact No.out _ (below_put hW1 _ _) (by rw [waF, if_neg (by unfold waCond; simp; omega)])
  obtain ⟨hm1, hm2⟩ := hmm
  have hin : inB m 1 6 = true := by unfold inB; simp [hm1, hm2]
  rw [hin]
  obtain ⟨hl1, hl2⟩ := rules_letters H1.out.symm
  gi_wp2
  refine ⟨trivial, (callsIn_wide.2 (implWord_any l u _ (by omega))).mono ?_⟩
  rintro e w2 ⟨rfl, hw2⟩
  subst hw2
  obtain ⟨r2, hrr⟩ : ∃ r', r' = (wordOk l u) := ⟨_, rfl⟩
  rw [← hrr]
  have H2 := Lib.hid hrr
  clear hrr
  cases r2
  · gi_wp2
    refine ⟨trivial, ?_⟩
    gi_wp2
    refine ⟨_, res _ _ _ none 0 0 _ rfl rfl rfl (h61.put (.slice none 0 0) (.bool false)), ?_⟩
    exact No.out _ (below_put hW1 _ _) (by rw [waF, waCond, ← H2.out]; simp)
  gi_wp2
  refine ⟨trivial, (callsIn_wide.2 (implWord_any l v _ (by omega))).mono ?_⟩
  rintro e w2 ⟨rfl, hw2⟩
  subst hw2
  obtain ⟨r3, hrr⟩ : ∃ r', r' = (wordOk l v) := ⟨_, rfl⟩
  rw [← hrr]
  have H3 := Lib.hid hrr
  clear hrr
  cases r3
  · gi_wp2
    refine ⟨_, res _ _ _ none 0 0 _ rfl rfl rfl (h61.put (.slice none 0 0) (.bool false)), ?_⟩
    exact No.out _ (below_put hW1 _ _) (by rw [waF, waCond, ← H3.out]; simp)
  have hcond : waCond l rs m u v = true := by rw [waCond, ← H1.out, ← H2.out, ← H3.out]; simp [hm1, hm2]
  obtain ⟨_, _, hu2, hu3⟩ := wOk_parts H2.out
  obtain ⟨_, _, hv2, hv3⟩ := wOk_parts H3.out
  have hF : waF l rs m u v = (keptL l rs m).find? (apartW m u v) := by rw [waF, if_pos hcond]
  clear hcond
  have HF := Lib.hid hF
  clear hF
  have Hu3 := Lib.hid hu3
  clear hu3
  have Hv3 := Lib.hid hv3
  clear hv3
  gi_wp2
  refine ⟨trivial, (callsIn_wide.2 (implBoxes_any l m _)).mono ?_⟩
  rintro e w3 ⟨rfl, b3, hL3, hB3⟩
  have h63 := h61.below b3
  have hW3 := hW1.trans (b3.mono hW1.size)
  have hz3 := hB3.lt
  clear h61 q0 q1 q2 q3 q4 q5 q6 f4 f5
  obtain ⟨L, hL⟩ : ∃ L, L = l.toNat := ⟨_, rfl⟩
  obtain ⟨b, hb'⟩ : ∃ b, b = m.toNat := ⟨_, rfl⟩
  have hLl : (L : Int) = l := by omega
  have hbm : (b : Int) = m := by omega
  gi_wp2
  refine rangeFunc_at rfl (by omega) (gf := 157) (lb := #[.pointer (some ⟨w1.heap.size, 0, none⟩), .pointer (some ⟨w1.heap.size + 1, 0, none⟩)]) rfl trivial (enters_of Try.func157 (by kernel_rfl) rfl) (encs := boxVals) (Mem := boxMem b L) (S := fun xs => xs.length = b ^ L) (N := b ^ L) (B := w1.heap.size)
    (boxes1_stops _ (by omega) _ _ L b _ (Nat.le_refl _) (Nat.le_succ _) (by omega) (by omega) (by omega) (by omega) w3 (by rw [hLl]; exact hL3) (by rw [hbm]; exact hB3)) boxMem_put (fun _ => rfl)
    (fun pre W => (came b L pre ∧ (∀ x ∈ pre, (keepsAll m x.2 rs && apartW m u v x.2) = false) ∧ Six w W l A n c m u v (.slice none 0 0) (.bool false)) ∧ Below w.heap.size w W)
    (fun _ W => ∃ (ws : List Int) (A0 : Option Addr) (c0 : Nat), waF l rs m u v = some ws ∧ Six w W l A n c m u v (.slice A0 ws.length c0) (.bool true) ∧ W.ownsRow w.heap.size 3 1 (.slice A0 ws.length c0) ws.length (ints ws) ∧ Below w.heap.size w W) ?hI ?hIx ?h0
    (fun t x => (t.setIfInBounds 37 (.slice (some ⟨x.1, 0, none⟩) x.2.length x.2.length)).setIfInBounds 10 (.slice (some ⟨x.1, 0, none⟩) x.2.length x.2.length)) ?assign ?body ?done ?stop
  case hI =>
    rintro pre P Q row ⟨⟨h1, h2, h3⟩, h5⟩ hg hr'
    have hr2 : ∀ r, row = some r → w3.heap.size ≤ r := hr'
    exact ⟨⟨h1, h2, h3.old hg hr2 (by omega)⟩, h5.grown hg h5.size (fun k e => by have := hr2 k e; omega)⟩
  case hIx =>
    rintro pre W k o o' hk hl hc ⟨ws, A0, c0, h1, h2, h3, h5⟩
    have hk2 : w3.heap.size ≤ k := hk
    exact ⟨ws, A0, c0, h1, h2.obj o' hl hc, ownsRow_putObj h3 _ hl hc, h5.grown (grownBy_putObj' W k _) h5.size (fun q e => by cases e; omega)⟩
  case h0 => exact ⟨⟨came_nil _ _, fun x hx => (by cases hx), h63⟩, hW3⟩
  case assign =>
    intro l x W K hK
    simp only [boxVals]
    gi_wp2
    simpa using hK
  case body =>
    rintro j pre ⟨g, ws⟩ W ⟨⟨hca, hno, h6⟩, hBW⟩ ⟨hK, hx⟩ hlen
    dsimp only at hK hx ⊢
    simp only [List.setIfInBounds_toArray, List.set_cons_succ, List.set_cons_zero]
    have hwl : ws.length = L := by rw [hx, boxAt_len]
    have hfew := box_few (b := b) (L := L) (by omega) (by omega)
    have hcam := came_snoc hca hx (x := (g, ws))
    have hkb : ∀ k (hk : k < ws.length), 0 ≤ ws[k] ∧ ws[k] ≤ 1000 := fun k hk => by
      have h9 := boxAt_mem (b := b) (by omega) L pre.length ws[k] (by rw [← hx]; exact List.getElem_mem hk)
      omega
    have hwll : ((ws.length : Nat) : Int) = l := by rw [hwl]; omega
    have hwl2 : ws.length ≤ 1048576 := by omega
    have hm12 : m ≤ 12 := by omega
    have h6d : Six w W.drew l A n c m u v (.slice none 0 0) (.bool false) := ⟨h6.s, h6.m, h6.u, h6.v, h6.a, h6.b⟩
    have hKd : Bk W.drew g 3 (ints ws).toArray := hK
    have hBd : Below w.heap.size w W.drew := hBW.drew
    have hco := implKeeps_any l A n c rs m (some ⟨g, 0, none⟩) ws.length ws.length ws W.drew (Hr.out.keep hBd) Hn.out hb (rd_bk hKd) rfl hwl2 hm1 hm12 hkb (by rw [hwll]; exact rules_weigh H1.out.symm)
    have hcw : ∀ (s : ByteArray), lettersOk l s = true → s.size ≤ 16 → ∀ W', Bk W' g 3 (ints ws).toArray → Calls Try.prog 109 #[.int .i64 m, .slice (some ⟨g, 0, none⟩) ws.length ws.length, .string s] W' fun e w' => e = .returned (.int .i64 (weightV m ws s)) ∧ W' = w' := fun s h3 h2 W' hB => implWeight_any m (some ⟨g, 0, none⟩) ws.length ws.length ws s W' (rd_bk hB) rfl hwl2 hm1 hm12 hkb (by rw [hwll]; exact h3) h2
    have hcu := hcw u Hu3.out hu2
    have hcv := hcw v Hv3.out hv2
    have hfound := fun (hk : keepsAll m ws rs = true) (ha : apartW m u v ws = true) => HF.out.trans (wa_found hL hb' hca hlen hx hno hk ha)
    have hnew : (keepsAll m ws rs && apartW m u v ws) = false → ∀ x ∈ pre ++ [(g, ws)], (keepsAll m x.2 rs && apartW m u v x.2) = false := fun h x hxm => by
      rcases List.mem_append.1 hxm with hxm | hxm
      · exact hno x hxm
      · obtain rfl := List.mem_singleton.1 hxm
        exact h
    obtain ⟨p, hp⟩ : ∃ p, p = weightV m ws u := ⟨_, rfl⟩
    obtain ⟨q, hq⟩ : ∃ q, q = weightV m ws v := ⟨_, rfl⟩
    have hap : apartW m u v ws = !decide (p = q) := by rw [apartW, hp, hq]
    obtain ⟨r, hkr⟩ : ∃ r, r = keepsAll m ws rs := ⟨_, rfl⟩
    rw [← hp] at hcu
    rw [← hq] at hcv
    rw [← hkr] at hco hfound hnew
    rw [hap] at hfound hnew
    clear hcw hap hp hq hkr hwll hkb hwl hfew hx hL hb' hca hno hm12 hlen h6
    have Hcam := Lib.hid hcam
    clear hcam
    have H6d := Lib.hid h6d
    clear h6d
    have HKd := Lib.hid hKd
    clear hKd
    have HBd := Lib.hid hBd
    clear hBd
    have Hco := Lib.hid hco
    clear hco
    have Hcu := Lib.hid hcu
    clear hcu
    have Hcv := Lib.hid hcv
    clear hcv
    have Hfound := Lib.hid hfound
    clear hfound
    have Hnew := Lib.hid hnew
    clear hnew
    have HBW := Lib.hid hBW
    clear hBW
    have HK := Lib.hid hK
    clear hK
    gi_wp2
    rename_i hKK
    refine region_round (S := fun W' => W'.cell? ⟨w.heap.size, 0, none⟩ = some (.int .i64 l) ∧ W'.cell? ⟨w.heap.size, 1, none⟩ = some (.slice A n c) ∧ W'.cell? ⟨w.heap.size + 1, 0, none⟩ = some (.int .i64 m) ∧ W'.cell? ⟨w.heap.size + 1 + 1, 0, none⟩ = some (.string u) ∧ W'.cell? ⟨w.heap.size + 1 + 1 + 1, 0, none⟩ = some (.string v) ∧ W'.cell? ⟨w.heap.size + 1 + 1 + 1 + 1, 0, none⟩ = some (.slice none 0 0)) (by kernel_rfl) (by kernel_rfl) H6d.out.six (fun hHeld => ?_)
    refine wpAnyH_take (i := 0) (oi := ?oi260) (v := ?val260) ?hi260 ?hs260 ?hf260 ?hr260 ?hQ260 ?hy260 ?hS260 ?hrest260
    case hi260 => (simp only [List.getElem?_toArray, List.getElem?_cons_succ, List.getElem?_cons_zero] <;> exact rfl)
    case hs260 => kernel_rfl
    case hf260 => kernel_rfl
    case hr260 => kernel_rfl
    case hQ260 => exact fun _ _ _ h => h
    case hS260 => assumption
    case hy260 => (refine Or.inl ⟨by rfl, ?_⟩; intro w hSw; (try dsimp only at hSw); (first | obtain ⟨z0, z1, z2, z3, z4, z5⟩ := hSw | obtain ⟨z0, z1, z2, z3⟩ := hSw | obtain ⟨z0, z1, z2⟩ := hSw | obtain ⟨z0, z1⟩ := hSw | skip); go_simp; try with_reducible rfl)
    simp only [Act.put, List.setIfInBounds_toArray, List.set_cons_zero, List.set_cons_succ]
    refine wpAnyH_take (i := 1) (oi := ?oi269) (v := ?val269) ?hi269 ?hs269 ?hf269 ?hr269 ?hQ269 ?hy269 ?hS269 ?hrest269
    case hi269 => (simp only [List.getElem?_toArray, List.getElem?_cons_succ, List.getElem?_cons_zero] <;> exact rfl)
    case hs269 => kernel_rfl
    case hf269 => kernel_rfl
    case hr269 => kernel_rfl
    case hQ269 => exact fun _ _ _ h => h
    case hS269 => assumption
    case hy269 => (refine Or.inl ⟨by rfl, ?_⟩; intro w hSw; (try dsimp only at hSw); (first | obtain ⟨z0, z1, z2, z3, z4, z5⟩ := hSw | obtain ⟨z0, z1, z2, z3⟩ := hSw | obtain ⟨z0, z1, z2⟩ := hSw | obtain ⟨z0, z1⟩ := hSw | skip); go_simp; try with_reducible rfl)
    simp only [Act.put, List.setIfInBounds_toArray, List.set_cons_zero, List.set_cons_succ]
    refine wpAnyH_take (i := 2) (oi := ?oi278) (v := ?val278) ?hi278 ?hs278 ?hf278 ?hr278 ?hQ278 ?hy278 ?hS278 ?hrest278
    case hi278 => (simp only [List.getElem?_toArray, List.getElem?_cons_succ, List.getElem?_cons_zero] <;> exact rfl)
    case hs278 => kernel_rfl
    case hf278 => kernel_rfl
    case hr278 => kernel_rfl
    case hQ278 => exact fun _ _ _ h => h
    case hS278 => assumption
    case hy278 => (refine Or.inl ⟨by rfl, ?_⟩; intro w hSw; (try dsimp only at hSw); (first | obtain ⟨z0, z1, z2, z3, z4, z5⟩ := hSw | obtain ⟨z0, z1, z2, z3⟩ := hSw | obtain ⟨z0, z1, z2⟩ := hSw | obtain ⟨z0, z1⟩ := hSw | skip); go_simp; try with_reducible rfl)
    simp only [Act.put, List.setIfInBounds_toArray, List.set_cons_zero, List.set_cons_succ]
    cases r
    · skip
      refine wpAnyH_ready (rs := [3]) (by kernel_rfl) (by simp) ?_
      refine AllReadyH.cons rfl (fun K hK => ?_) AllReadyH.nil
      (go_simp; ((with_reducible refine Hco.out.mono ?_); rintro e W2 ⟨rfl, b2⟩))
      refine hK.out _ _ ((H6d.out.below b2).six) (fun hHeld2 => ?_)
      clear hK K hHeld
      have hHeld := hHeld2
      clear hHeld2
      first | simp only [Act.put, List.setIfInBounds_toArray, List.set_cons_zero, List.set_cons_succ] | skip
      have h62 := H6d.out.below b2
      have hK2 := HKd.out.below b2 HKd.out.lt
      have hB2 := HBd.out.trans (b2.mono HBd.out.size)
      have hko := (KeepsOthers.drew W).trans (others_below b2)
      have hcs : CellsFrom w1.heap.size W W2 := cells_below (W := W.drew) b2
      have hs2 := b2.size
      clear Hco b2
      have hno2 := Hnew.out rfl
      have H62 := Lib.hid h62
      clear h62
      have HK2 := Lib.hid hK2
      clear hK2
      have HB2 := Lib.hid hB2
      clear hB2
      have Hko := Lib.hid hko
      clear hko
      have Hcs := Lib.hid hcs
      clear hcs
      have Hno2 := Lib.hid hno2
      clear hno2
      refine wpAnyH_take (i := 4) (oi := ?oi317) (v := ?val317) ?hi317 ?hs317 ?hf317 ?hr317 ?hQ317 ?hy317 ?hS317 ?hrest317
      case hi317 => (simp only [List.getElem?_toArray, List.getElem?_cons_succ, List.getElem?_cons_zero] <;> exact rfl)
      case hs317 => kernel_rfl
      case hf317 => kernel_rfl
      case hr317 => kernel_rfl
      case hQ317 => exact fun _ _ _ h => h
      case hS317 => assumption
      case hy317 => (refine Or.inl ⟨by rfl, ?_⟩; intro w hSw; (try dsimp only at hSw); (first | obtain ⟨z0, z1, z2, z3, z4, z5⟩ := hSw | obtain ⟨z0, z1, z2, z3⟩ := hSw | obtain ⟨z0, z1, z2⟩ := hSw | obtain ⟨z0, z1⟩ := hSw | skip); go_simp; try with_reducible rfl)
      simp only [Act.put, List.setIfInBounds_toArray, List.set_cons_zero, List.set_cons_succ]
      refine wpAnyH_take (i := 5) (oi := ?oi326) (v := undef) ?hi326 ?hs326 ?hf326 ?hr326 ?hQ326 ?hy326 ?hS326 ?hrest326
      case hi326 => (simp only [List.getElem?_toArray, List.getElem?_cons_succ, List.getElem?_cons_zero] <;> exact rfl)
      case hs326 => kernel_rfl
      case hf326 => kernel_rfl
      case hr326 => kernel_rfl
      case hQ326 => exact fun _ _ _ h => h
      case hS326 => assumption
      case hy326 => exact Or.inr ⟨by rfl, rfl⟩
      simp only [Act.put, List.setIfInBounds_toArray, List.set_cons_zero, List.set_cons_succ]
      refine wpAnyH_take (i := 6) (oi := ?oi335) (v := undef) ?hi335 ?hs335 ?hf335 ?hr335 ?hQ335 ?hy335 ?hS335 ?hrest335
      case hi335 => (simp only [List.getElem?_toArray, List.getElem?_cons_succ, List.getElem?_cons_zero] <;> exact rfl)
      case hs335 => kernel_rfl
      case hf335 => kernel_rfl
      case hr335 => kernel_rfl
      case hQ335 => exact fun _ _ _ h => h
      case hS335 => assumption
      case hy335 => exact Or.inr ⟨by rfl, rfl⟩
      simp only [Act.put, List.setIfInBounds_toArray, List.set_cons_zero, List.set_cons_succ]
      refine wpAnyH_take (i := 7) (oi := ?oi344) (v := undef) ?hi344 ?hs344 ?hf344 ?hr344 ?hQ344 ?hy344 ?hS344 ?hrest344
      case hi344 => (simp only [List.getElem?_toArray, List.getElem?_cons_succ, List.getElem?_cons_zero] <;> exact rfl)
      case hs344 => kernel_rfl
      case hf344 => kernel_rfl
      case hr344 => kernel_rfl
      case hQ344 => exact fun _ _ _ h => h
      case hS344 => assumption
      case hy344 => exact Or.inr ⟨by rfl, rfl⟩
      simp only [Act.put, List.setIfInBounds_toArray, List.set_cons_zero, List.set_cons_succ]
      refine wpAnyH_take (i := 8) (oi := ?oi353) (v := undef) ?hi353 ?hs353 ?hf353 ?hr353 ?hQ353 ?hy353 ?hS353 ?hrest353
      case hi353 => (simp only [List.getElem?_toArray, List.getElem?_cons_succ, List.getElem?_cons_zero] <;> exact rfl)
      case hs353 => kernel_rfl
      case hf353 => kernel_rfl
      case hr353 => kernel_rfl
      case hQ353 => exact fun _ _ _ h => h
      case hS353 => assumption
      case hy353 => exact Or.inr ⟨by rfl, rfl⟩
      simp only [Act.put, List.setIfInBounds_toArray, List.set_cons_zero, List.set_cons_succ]
      refine wpAnyH_take (i := 9) (oi := ?oi362) (v := undef) ?hi362 ?hs362 ?hf362 ?hr362 ?hQ362 ?hy362 ?hS362 ?hrest362
      case hi362 => (simp only [List.getElem?_toArray, List.getElem?_cons_succ, List.getElem?_cons_zero] <;> exact rfl)
      case hs362 => kernel_rfl
      case hf362 => kernel_rfl
      case hr362 => kernel_rfl
      case hQ362 => exact fun _ _ _ h => h
      case hS362 => assumption
      case hy362 => exact Or.inr ⟨by rfl, rfl⟩
      simp only [Act.put, List.setIfInBounds_toArray, List.set_cons_zero, List.set_cons_succ]
      refine wpAnyH_take (i := 10) (oi := ?oi371) (v := undef) ?hi371 ?hs371 ?hf371 ?hr371 ?hQ371 ?hy371 ?hS371 ?hrest371
      case hi371 => (simp only [List.getElem?_toArray, List.getElem?_cons_succ, List.getElem?_cons_zero] <;> exact rfl)
      case hs371 => kernel_rfl
      case hf371 => kernel_rfl
      case hr371 => kernel_rfl
      case hQ371 => exact fun _ _ _ h => h
      case hS371 => assumption
      case hy371 => exact Or.inr ⟨by rfl, rfl⟩
      simp only [Act.put, List.setIfInBounds_toArray, List.set_cons_zero, List.set_cons_succ]
      refine wpAnyH_take (i := 11) (oi := ?oi380) (v := undef) ?hi380 ?hs380 ?hf380 ?hr380 ?hQ380 ?hy380 ?hS380 ?hrest380
      case hi380 => (simp only [List.getElem?_toArray, List.getElem?_cons_succ, List.getElem?_cons_zero] <;> exact rfl)
      case hs380 => kernel_rfl
      case hf380 => kernel_rfl
      case hr380 => kernel_rfl
      case hQ380 => exact fun _ _ _ h => h
      case hS380 => assumption
      case hy380 => exact Or.inr ⟨by rfl, rfl⟩
      simp only [Act.put, List.setIfInBounds_toArray, List.set_cons_zero, List.set_cons_succ]
      refine wpAnyH_take (i := 12) (oi := ?oi389) (v := undef) ?hi389 ?hs389 ?hf389 ?hr389 ?hQ389 ?hy389 ?hS389 ?hrest389
      case hi389 => (simp only [List.getElem?_toArray, List.getElem?_cons_succ, List.getElem?_cons_zero] <;> exact rfl)
      case hs389 => kernel_rfl
      case hf389 => kernel_rfl
      case hr389 => kernel_rfl
      case hQ389 => exact fun _ _ _ h => h
      case hS389 => assumption
      case hy389 => exact Or.inr ⟨by rfl, rfl⟩
      simp only [Act.put, List.setIfInBounds_toArray, List.set_cons_zero, List.set_cons_succ]
      refine wpAnyH_take (i := 13) (oi := ?oi398) (v := undef) ?hi398 ?hs398 ?hf398 ?hr398 ?hQ398 ?hy398 ?hS398 ?hrest398
      case hi398 => (simp only [List.getElem?_toArray, List.getElem?_cons_succ, List.getElem?_cons_zero] <;> exact rfl)
      case hs398 => kernel_rfl
      case hf398 => kernel_rfl
      case hr398 => kernel_rfl
      case hQ398 => exact fun _ _ _ h => h
      case hS398 => assumption
      case hy398 => exact Or.inr ⟨by rfl, rfl⟩
      simp only [Act.put, List.setIfInBounds_toArray, List.set_cons_zero, List.set_cons_succ]
      refine wpAnyH_take (i := 14) (oi := ?oi407) (v := ?val407) ?hi407 ?hs407 ?hf407 ?hr407 ?hQ407 ?hy407 ?hS407 ?hrest407
      case hi407 => (simp only [List.getElem?_toArray, List.getElem?_cons_succ, List.getElem?_cons_zero] <;> exact rfl)
      case hs407 => kernel_rfl
      case hf407 => kernel_rfl
      case hr407 => kernel_rfl
      case hQ407 => exact fun _ _ _ h => h
      case hS407 => assumption
      case hy407 => (refine Or.inl ⟨by rfl, ?_⟩; intro w hSw; (try dsimp only at hSw); (first | obtain ⟨z0, z1, z2, z3, z4, z5⟩ := hSw | obtain ⟨z0, z1, z2, z3⟩ := hSw | obtain ⟨z0, z1, z2⟩ := hSw | obtain ⟨z0, z1⟩ := hSw | skip); go_simp; try with_reducible rfl)
      simp only [Act.put, List.setIfInBounds_toArray, List.set_cons_zero, List.set_cons_succ]
      refine wpAnyH_done (by kernel_rfl) ?_ _
      clear hHeld
      refine hKK _ _ ?_
      gi_wp2
      exact ⟨Hko.out, Hcs.out, ⟨Hcam.out, Hno2.out, H62.out⟩, HB2.out⟩
    · skip
      refine wpAnyH_ready (rs := [3]) (by kernel_rfl) (by simp) ?_
      refine AllReadyH.cons rfl (fun K hK => ?_) AllReadyH.nil
      (go_simp; ((with_reducible refine Hco.out.mono ?_); rintro e W2 ⟨rfl, b2⟩))
      refine hK.out _ _ ((H6d.out.below b2).six) (fun hHeld2 => ?_)
      clear hK K hHeld
      have hHeld := hHeld2
      clear hHeld2
      first | simp only [Act.put, List.setIfInBounds_toArray, List.set_cons_zero, List.set_cons_succ] | skip
      have h62 := H6d.out.below b2
      have hK2 := HKd.out.below b2 HKd.out.lt
      have hB2 := HBd.out.trans (b2.mono HBd.out.size)
      have hko := (KeepsOthers.drew W).trans (others_below b2)
      have hcs : CellsFrom w1.heap.size W W2 := cells_below (W := W.drew) b2
      have hs2 := b2.size
      clear Hco b2
      have hcu2 := Hcu.out W2 hK2
      have hcv2 := Hcv.out W2 hK2
      clear Hcu Hcv
      have H62 := Lib.hid h62
      clear h62
      have HK2 := Lib.hid hK2
      clear hK2
      have HB2 := Lib.hid hB2
      clear hB2
      have Hko := Lib.hid hko
      clear hko
      have Hcs := Lib.hid hcs
      clear hcs
      have Hcu2 := Lib.hid hcu2
      clear hcu2
      have Hcv2 := Lib.hid hcv2
      clear hcv2
      refine wpAnyH_take (i := 4) (oi := ?oi454) (v := ?val454) ?hi454 ?hs454 ?hf454 ?hr454 ?hQ454 ?hy454 ?hS454 ?hrest454
      case hi454 => (simp only [List.getElem?_toArray, List.getElem?_cons_succ, List.getElem?_cons_zero] <;> exact rfl)
      case hs454 => kernel_rfl
      case hf454 => kernel_rfl
      case hr454 => kernel_rfl
      case hQ454 => exact fun _ _ _ h => h
      case hS454 => assumption
      case hy454 => (refine Or.inl ⟨by rfl, ?_⟩; intro w hSw; (try dsimp only at hSw); (first | obtain ⟨z0, z1, z2, z3, z4, z5⟩ := hSw | obtain ⟨z0, z1, z2, z3⟩ := hSw | obtain ⟨z0, z1, z2⟩ := hSw | obtain ⟨z0, z1⟩ := hSw | skip); go_simp; try with_reducible rfl)
      simp only [Act.put, List.setIfInBounds_toArray, List.set_cons_zero, List.set_cons_succ]
      refine wpAnyH_take (i := 5) (oi := ?oi463) (v := ?val463) ?hi463 ?hs463 ?hf463 ?hr463 ?hQ463 ?hy463 ?hS463 ?hrest463
      case hi463 => (simp only [List.getElem?_toArray, List.getElem?_cons_succ, List.getElem?_cons_zero] <;> exact rfl)
      case hs463 => kernel_rfl
      case hf463 => kernel_rfl
      case hr463 => kernel_rfl
      case hQ463 => exact fun _ _ _ h => h
      case hS463 => assumption
      case hy463 => (refine Or.inl ⟨by rfl, ?_⟩; intro w hSw; (try dsimp only at hSw); (first | obtain ⟨z0, z1, z2, z3, z4, z5⟩ := hSw | obtain ⟨z0, z1, z2, z3⟩ := hSw | obtain ⟨z0, z1, z2⟩ := hSw | obtain ⟨z0, z1⟩ := hSw | skip); go_simp; try with_reducible rfl)
      simp only [Act.put, List.setIfInBounds_toArray, List.set_cons_zero, List.set_cons_succ]
      refine wpAnyH_take (i := 6) (oi := ?oi472) (v := ?val472) ?hi472 ?hs472 ?hf472 ?hr472 ?hQ472 ?hy472 ?hS472 ?hrest472
      case hi472 => (simp only [List.getElem?_toArray, List.getElem?_cons_succ, List.getElem?_cons_zero] <;> exact rfl)
      case hs472 => kernel_rfl
      case hf472 => kernel_rfl
      case hr472 => kernel_rfl
      case hQ472 => exact fun _ _ _ h => h
      case hS472 => assumption
      case hy472 => (refine Or.inl ⟨by rfl, ?_⟩; intro w hSw; (try dsimp only at hSw); (first | obtain ⟨z0, z1, z2, z3, z4, z5⟩ := hSw | obtain ⟨z0, z1, z2, z3⟩ := hSw | obtain ⟨z0, z1, z2⟩ := hSw | obtain ⟨z0, z1⟩ := hSw | skip); go_simp; try with_reducible rfl)
      simp only [Act.put, List.setIfInBounds_toArray, List.set_cons_zero, List.set_cons_succ]
      refine wpAnyH_take (i := 7) (oi := ?oi481) (v := ?val481) ?hi481 ?hs481 ?hf481 ?hr481 ?hQ481 ?hy481 ?hS481 ?hrest481
      case hi481 => (simp only [List.getElem?_toArray, List.getElem?_cons_succ, List.getElem?_cons_zero] <;> exact rfl)
      case hs481 => kernel_rfl
      case hf481 => kernel_rfl
      case hr481 => kernel_rfl
      case hQ481 => exact fun _ _ _ h => h
      case hS481 => assumption
      case hy481 => (refine Or.inl ⟨by rfl, ?_⟩; intro w hSw; (try dsimp only at hSw); (first | obtain ⟨z0, z1, z2, z3, z4, z5⟩ := hSw | obtain ⟨z0, z1, z2, z3⟩ := hSw | obtain ⟨z0, z1, z2⟩ := hSw | obtain ⟨z0, z1⟩ := hSw | skip); go_simp; try with_reducible rfl)
      simp only [Act.put, List.setIfInBounds_toArray, List.set_cons_zero, List.set_cons_succ]
      refine wpAnyH_take (i := 9) (oi := ?oi490) (v := ?val490) ?hi490 ?hs490 ?hf490 ?hr490 ?hQ490 ?hy490 ?hS490 ?hrest490
      case hi490 => (simp only [List.getElem?_toArray, List.getElem?_cons_succ, List.getElem?_cons_zero] <;> exact rfl)
      case hs490 => kernel_rfl
      case hf490 => kernel_rfl
      case hr490 => kernel_rfl
      case hQ490 => exact fun _ _ _ h => h
      case hS490 => assumption
      case hy490 => (refine Or.inl ⟨by rfl, ?_⟩; intro w hSw; (try dsimp only at hSw); (first | obtain ⟨z0, z1, z2, z3, z4, z5⟩ := hSw | obtain ⟨z0, z1, z2, z3⟩ := hSw | obtain ⟨z0, z1, z2⟩ := hSw | obtain ⟨z0, z1⟩ := hSw | skip); go_simp; try with_reducible rfl)
      simp only [Act.put, List.setIfInBounds_toArray, List.set_cons_zero, List.set_cons_succ]
      refine wpAnyH_take (i := 10) (oi := ?oi499) (v := ?val499) ?hi499 ?hs499 ?hf499 ?hr499 ?hQ499 ?hy499 ?hS499 ?hrest499
      case hi499 => (simp only [List.getElem?_toArray, List.getElem?_cons_succ, List.getElem?_cons_zero] <;> exact rfl)
      case hs499 => kernel_rfl
      case hf499 => kernel_rfl
      case hr499 => kernel_rfl
      case hQ499 => exact fun _ _ _ h => h
      case hS499 => assumption
      case hy499 => (refine Or.inl ⟨by rfl, ?_⟩; intro w hSw; (try dsimp only at hSw); (first | obtain ⟨z0, z1, z2, z3, z4, z5⟩ := hSw | obtain ⟨z0, z1, z2, z3⟩ := hSw | obtain ⟨z0, z1, z2⟩ := hSw | obtain ⟨z0, z1⟩ := hSw | skip); go_simp; try with_reducible rfl)
      simp only [Act.put, List.setIfInBounds_toArray, List.set_cons_zero, List.set_cons_succ]
      refine wpAnyH_take (i := 11) (oi := ?oi508) (v := ?val508) ?hi508 ?hs508 ?hf508 ?hr508 ?hQ508 ?hy508 ?hS508 ?hrest508
      case hi508 => (simp only [List.getElem?_toArray, List.getElem?_cons_succ, List.getElem?_cons_zero] <;> exact rfl)
      case hs508 => kernel_rfl
      case hf508 => kernel_rfl
      case hr508 => kernel_rfl
      case hQ508 => exact fun _ _ _ h => h
      case hS508 => assumption
      case hy508 => (refine Or.inl ⟨by rfl, ?_⟩; intro w hSw; (try dsimp only at hSw); (first | obtain ⟨z0, z1, z2, z3, z4, z5⟩ := hSw | obtain ⟨z0, z1, z2, z3⟩ := hSw | obtain ⟨z0, z1, z2⟩ := hSw | obtain ⟨z0, z1⟩ := hSw | skip); go_simp; try with_reducible rfl)
      simp only [Act.put, List.setIfInBounds_toArray, List.set_cons_zero, List.set_cons_succ]
      refine wpAnyH_ready (rs := [8]) (by kernel_rfl) (by simp) ?_
      refine AllReadyH.cons rfl (fun K hK => ?_) AllReadyH.nil
      (go_simp; ((with_reducible refine Hcu2.out.mono ?_); rintro e W3 ⟨rfl, hw3⟩; subst hw3))
      refine hK.out _ _ (H62.out.six) (fun hHeld2 => ?_)
      clear hK K hHeld
      have hHeld := hHeld2
      clear hHeld2
      first | simp only [Act.put, List.setIfInBounds_toArray, List.set_cons_zero, List.set_cons_succ] | skip
      refine wpAnyH_ready (rs := [12]) (by kernel_rfl) (by simp) ?_
      refine AllReadyH.cons rfl (fun K hK => ?_) AllReadyH.nil
      (go_simp; ((with_reducible refine Hcv2.out.mono ?_); rintro e W3 ⟨rfl, hw3⟩; subst hw3))
      refine hK.out _ _ (H62.out.six) (fun hHeld2 => ?_)
      clear hK K hHeld
      have hHeld := hHeld2
      clear hHeld2
      first | simp only [Act.put, List.setIfInBounds_toArray, List.set_cons_zero, List.set_cons_succ] | skip
      clear Hcu2 Hcv2
      by_cases hpq : p = q
      · have hno2 := Hnew.out (by rw [decide_eq_true hpq]; rfl)
        subst hpq
        have Hno2 := Lib.hid hno2
        clear hno2
        refine wpAnyH_take (i := 13) (oi := ?oi539) (v := ?val539) ?hi539 ?hs539 ?hf539 ?hr539 ?hQ539 ?hy539 ?hS539 ?hrest539
        case hi539 => (simp only [List.getElem?_toArray, List.getElem?_cons_succ, List.getElem?_cons_zero] <;> exact rfl)
        case hs539 => kernel_rfl
        case hf539 => kernel_rfl
        case hr539 => kernel_rfl
        case hQ539 => exact fun _ _ _ h => h
        case hS539 => assumption
        case hy539 => (refine Or.inl ⟨by rfl, ?_⟩; intro w hSw; (try dsimp only at hSw); (first | obtain ⟨z0, z1, z2, z3, z4, z5⟩ := hSw | obtain ⟨z0, z1, z2, z3⟩ := hSw | obtain ⟨z0, z1, z2⟩ := hSw | obtain ⟨z0, z1⟩ := hSw | skip); go_simp; try with_reducible rfl)
        simp only [Act.put, List.setIfInBounds_toArray, List.set_cons_zero, List.set_cons_succ]
        refine wpAnyH_take (i := 14) (oi := ?oi548) (v := ?val548) ?hi548 ?hs548 ?hf548 ?hr548 ?hQ548 ?hy548 ?hS548 ?hrest548
        case hi548 => (simp only [List.getElem?_toArray, List.getElem?_cons_succ, List.getElem?_cons_zero] <;> exact rfl)
        case hs548 => kernel_rfl
        case hf548 => kernel_rfl
        case hr548 => kernel_rfl
        case hQ548 => exact fun _ _ _ h => h
        case hS548 => assumption
        case hy548 => (refine Or.inl ⟨by rfl, ?_⟩; intro w hSw; (try dsimp only at hSw); (first | obtain ⟨z0, z1, z2, z3, z4, z5⟩ := hSw | obtain ⟨z0, z1, z2, z3⟩ := hSw | obtain ⟨z0, z1, z2⟩ := hSw | obtain ⟨z0, z1⟩ := hSw | skip); go_simp; try with_reducible rfl)
        simp only [Act.put, List.setIfInBounds_toArray, List.set_cons_zero, List.set_cons_succ]
        refine wpAnyH_done (by kernel_rfl) ?_ _
        clear hHeld
        refine hKK _ _ ?_
        gi_wp2
        refine ⟨Hko.out, Hcs.out, ⟨Hcam.out, ?_, H62.out⟩, HB2.out⟩
        first
        | exact Hno2.out
        | (intro a b hab
           have h9 := Hno2.out (a, b) hab
           revert h9
           cases keepsAll m b rs <;> cases apartW m u v b <;> simp)
      · have hfd := Hfound.out rfl (by rw [decide_eq_false hpq]; rfl)
        have Hfd := Lib.hid hfd
        clear hfd
        refine wpAnyH_take (i := 13) (oi := ?oi571) (v := ?val571) ?hi571 ?hs571 ?hf571 ?hr571 ?hQ571 ?hy571 ?hS571 ?hrest571
        case hi571 => (simp only [List.getElem?_toArray, List.getElem?_cons_succ, List.getElem?_cons_zero] <;> exact rfl)
        case hs571 => kernel_rfl
        case hf571 => kernel_rfl
        case hr571 => kernel_rfl
        case hQ571 => exact fun _ _ _ h => h
        case hS571 => assumption
        case hy571 => (refine Or.inl ⟨by rfl, ?_⟩; intro w hSw; (try dsimp only at hSw); (first | obtain ⟨z0, z1, z2, z3, z4, z5⟩ := hSw | obtain ⟨z0, z1, z2, z3⟩ := hSw | obtain ⟨z0, z1, z2⟩ := hSw | obtain ⟨z0, z1⟩ := hSw | skip); go_simp; try with_reducible rfl)
        simp only [Act.put, List.setIfInBounds_toArray, List.set_cons_zero, List.set_cons_succ]
        refine wpAnyH_take (i := 14) (oi := ?oi580) (v := ?val580) ?hi580 ?hs580 ?hf580 ?hr580 ?hQ580 ?hy580 ?hS580 ?hrest580
        case hi580 => (simp only [List.getElem?_toArray, List.getElem?_cons_succ, List.getElem?_cons_zero] <;> exact rfl)
        case hs580 => kernel_rfl
        case hf580 => kernel_rfl
        case hr580 => kernel_rfl
        case hQ580 => exact fun _ _ _ h => h
        case hS580 => assumption
        case hy580 => (refine Or.inl ⟨by rfl, ?_⟩; intro w hSw; (try dsimp only at hSw); (first | obtain ⟨z0, z1, z2, z3, z4, z5⟩ := hSw | obtain ⟨z0, z1, z2, z3⟩ := hSw | obtain ⟨z0, z1, z2⟩ := hSw | obtain ⟨z0, z1⟩ := hSw | skip); go_simp; try with_reducible rfl)
        simp only [Act.put, List.setIfInBounds_toArray, List.set_cons_zero, List.set_cons_succ]
        refine wpAnyH_done (by kernel_rfl) ?_ _
        clear hHeld
        refine hKK _ _ ?_
        gi_wp2
        refine ⟨trivial, (CallsIn.inRound _ (callsIn_wide.2 (cloneInt_any ⟨g, 0, none⟩ ws.length ws.length ws W2 (rd_bk HK2.out) rfl hwl2))).mono ?_⟩
        rintro e W4 ⟨A0, c0, rfl, hO4, b4⟩
        have h64 := H62.out.below b4
        have hB4 := HB2.out.trans (b4.mono HB2.out.size)
        have hko4 := (Hko.out.trans (others_below b4)).trans ((KeepsOthers.setCell W4 ⟨w.heap.size + 1 + 1 + 1 + 1, 0, none⟩ (.slice A0 ws.length c0)).trans (KeepsOthers.setCell _ ⟨w.heap.size + 1 + 1 + 1 + 1 + 1, 0, none⟩ (.bool true)))
        have h65 := h64.put (.slice A0 ws.length c0) (.bool true)
        have hB5 := below_put hB4 (.slice A0 ws.length c0) (.bool true)
        have l4 := H62.out.a.lt
        have l5 := H62.out.b.lt
        have hO5 := own_mono (b' := w.heap.size) (ownsRow_setCell_below (ownsRow_setCell_below hO4 (a := ⟨w.heap.size + 1 + 1 + 1 + 1, 0, none⟩) l4 (.slice A0 ws.length c0)) (a := ⟨w.heap.size + 1 + 1 + 1 + 1 + 1, 0, none⟩) l5 (.bool true)) HB2.out.size
        obtain ⟨k0, k1, k2, k3, k4, k5, k6⟩ := h64.cells
        have f4 := h64.a.free 0
        have f5 := h64.b.free 0
        have H64 := Lib.hid h64
        clear h64
        have HB4 := Lib.hid hB4
        clear hB4
        have Hko4 := Lib.hid hko4
        clear hko4
        have H65 := Lib.hid h65
        clear h65
        have HB5 := Lib.hid hB5
        clear hB5
        have HO5 := Lib.hid hO5
        clear hO5
        have HO4 := Lib.hid hO4
        clear hO4
        gi_wp2
        exact ⟨Hko4.out, ws, A0, c0, Hfd.out, H65.out, HO5.out, HB5.out⟩
  case done =>
    rintro D pre W hD hlen ⟨⟨hca, hno, h6⟩, hBW⟩ hDf
    have hD2 : w3.heap.size ≤ D := hD
    have hnone : waF l rs m u v = none := by
      rw [HF.out]
      refine List.find?_eq_none.2 (fun y hy => ?_)
      obtain ⟨hy1, hy2⟩ := List.mem_filter.1 hy
      have hall : pre.map (·.2) = boxes m.toNat l.toNat := by rw [hca, hlen, boxes, hL, hb']
      rw [← hall] at hy1
      obtain ⟨x, hx, rfl⟩ := List.mem_map.1 hy1
      have h := hno x hx
      rw [hy2] at h
      simpa using h
    obtain ⟨k0, k1, k2, k3, k4, k5, k6⟩ := h6.cells
    have f4 := h6.a.free 0
    have f5 := h6.b.free 0
    have hDf2 : ((W.setCell ⟨w.heap.size + 1 + 1 + 1 + 1, 0, none⟩ (.slice none 0 0)).setCell ⟨w.heap.size + 1 + 1 + 1 + 1 + 1, 0, none⟩ (.bool false)).heap[D]? = some (.deferred (some [])) := ((KeepsOthers.setCell _ _ _).trans (KeepsOthers.setCell _ _ _)).same D _ hDf rfl
    have hB2 := (below_put hBW (.slice none 0 0) (.bool false)).grown (grownBy_putObj' _ D (.deferred none)) (below_put hBW _ _).size (fun k e => by cases e; omega)
    have h62 := (h6.put (.slice none 0 0) (.bool false)).obj (.deferred none) hDf2 rfl
    clear hL hb' hca hno hlen
    have Hnone := Lib.hid hnone
    clear hnone
    have HB2 := Lib.hid hB2
    clear hB2
    have H62 := Lib.hid h62
    clear h62
    have HDf2 := Lib.hid hDf2
    clear hDf2
    have HDf := Lib.hid hDf
    clear hDf
    have HBW := Lib.hid hBW
    clear hBW
    have H6 := Lib.hid h6
    clear h6
    gi_wp2
    refine ⟨by simp, .inl ⟨_, _, rfl, run_takeDeferred HDf2.out, ?_⟩⟩
    refine ⟨_, res _ _ _ none 0 0 _ rfl rfl rfl H62.out, ?_⟩
    exact No.out _ HB2.out Hnone.out
  case stop =>
    rintro D pre W hD ⟨ws, A0, c0, h1, h2, h3, h5⟩ hDf
    have hD2 : w3.heap.size ≤ D := hD
    have hB2 := h5.grown (grownBy_putObj' _ D (.deferred none)) h5.size (fun k e => by cases e; omega)
    have h62 := h2.obj (.deferred none) hDf rfl
    have hO2 := ownsRow_putObj h3 (.deferred none) hDf rfl
    clear hL hb'
    gi_wp2
    refine ⟨by simp, .inl ⟨_, _, rfl, run_takeDeferred hDf, ?_⟩⟩
    refine ⟨_, res _ _ _ A0 _ c0 _ rfl rfl rfl h62, ?_⟩
    rw [(wa_some h1).1, (wa_some h1).2]
    exact ⟨A0, c0, rfl, hO2, hB2⟩

end Go.Proofs.Ytidmbeeadbedaaa
