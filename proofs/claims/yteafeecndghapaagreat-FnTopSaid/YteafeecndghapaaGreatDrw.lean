/- Walk over l03Draw of the reference: a system that is in order. -/
import Derived.Test.YteafeecndghapaaGreatPrsT
import Derived.Test.YteafeecndghapaaGreatMg8
import Derived.Test.YteafeecndghapaaGreatMg13
namespace Go.Proofs.YteafeecndghapaaGreat
open Go.RowKit Go.Shelf

theorem own_gb {w w' : World} {P base : Nat} {t : TypeId} {m : Nat} {v : Value} {n : Nat} {xs : List Value} (h : w.ownsRow base t m v n xs) (hg : w.grownBy w' (some P)) (hP : P < base) : w'.ownsRow base t m v n xs := by
  refine ⟨h.1, ?_⟩
  rcases h.2 with h2 | ⟨g, cap, cur, hv, hb, hh, r⟩
  · exact .inl h2
  · have hl := (Array.getElem?_eq_some_iff.1 hh).1
    exact .inr ⟨g, cap, cur, hv, hb, (hg.block g hl (by intro e; injection e with e; omega)).trans hh, r⟩
/-- Where l03Draw stands: its source, its two blocks, its rules. -/
structure DrSt (w wr : World) (P : Nat) (A : Option Addr) (n c : Nat) (zs : List Int) (l : Int) (B : Option Addr) (k d : Nat) (rs : List RuleT) : Prop where
  src0 : Src w P A n c zs
  cur : Cur wr P A n c
  gb : w.grownBy wr (some P)
  bkR : Bk wr w.heap.size 25 #[.int .i64 0, .slice none 0 0]
  bkS : Bk wr (w.heap.size + 1) 25 #[.int .i64 l, .slice B k d]
  own : wr.ownsRow (w.heap.size + 2) 68 2 (.slice B k d) k (cellsRule rs)
  len : k = rs.length
  lP : P < w.heap.size
theorem DrSt.src {w wr : World} {P : Nat} {A : Option Addr} {n c : Nat} {zs : List Int} {l : Int} {B : Option Addr} {k d : Nat} {rs : List RuleT} (h : DrSt w wr P A n c zs l B k d rs) : Src wr P A n c zs := h.src0.next h.cur h.gb
theorem DrSt.next {w wr w' : World} {P : Nat} {A : Option Addr} {n c : Nat} {zs : List Int} {l : Int} {B : Option Addr} {k d : Nat} {rs : List RuleT} (h : DrSt w wr P A n c zs l B k d rs) (hs : Src w' P A n c zs) (hg : wr.grownBy w' (some P)) : DrSt w w' P A n c zs l B k d rs :=
  ⟨h.src0, hs.cur, gb_trans h.gb hg, h.bkR.grown hg (by intro e; injection e with e; have := h.lP; omega), h.bkS.grown hg (by intro e; injection e with e; have := h.lP; omega), own_gb h.own hg (by have := h.lP; omega), h.len, h.lP⟩
theorem DrSt.below {w wr w' : World} {P : Nat} {A : Option Addr} {n c : Nat} {zs : List Int} {l : Int} {B : Option Addr} {k d : Nat} {rs : List RuleT} (h : DrSt w wr P A n c zs l B k d rs) (hb : Below wr.heap.size wr w') : DrSt w w' P A n c zs l B k d rs :=
  h.next (h.src.below hb) (gb_of_below hb _)
theorem gb_up {w wr w' : World} {r : Option Nat} (h : w.grownBy wr r) (hb : Below w.heap.size wr w') : w.grownBy w' r :=
  ⟨hb.os.trans h.os, hb.tape.trans h.tape, hb.output.trans h.output, Nat.le_trans h.size hb.size, fun q hq hne => (hb.block q hq).trans (h.block q hq hne)⟩
theorem cur_low {w wr w' : World} {P : Nat} {A : Option Addr} {n c : Nat} (h : Cur wr P A n c) (hb : Below w.heap.size wr w') (hP : P < w.heap.size) : Cur w' P A n c := by
  obtain ⟨i, x, hB, hi⟩ := h
  exact ⟨i, x, hB.below hb hP, hi⟩
theorem DrSt.let0 {w wr : World} {P : Nat} {A : Option Addr} {n c : Nat} {zs : List Int} {l : Int} {B : Option Addr} {k d : Nat} {rs : List RuleT} (h : DrSt w wr P A n c zs l B k d rs) (l' : Int) : DrSt w (wr.setCell ⟨w.heap.size + 1, 0, none⟩ (.int .i64 l')) P A n c zs l' B k d rs := by
  have hne : (Value.slice B k d).ownBlock ≠ some (w.heap.size + 1) := by
    intro e
    have := (h.own.lt _ e).1
    omega
  have hb : Below w.heap.size wr (wr.setCell ⟨w.heap.size + 1, 0, none⟩ (.int .i64 l')) := (Below.refl _ _).setCell (p := ⟨w.heap.size + 1, 0, none⟩) (by dsimp only; omega) _
  exact ⟨h.src0, cur_low h.cur hb h.lP, gb_up h.gb hb, h.bkR.far (p := ⟨w.heap.size + 1, 0, none⟩) (by dsimp only; omega) _, h.bkS.put 0 _, own_far3 h.own (p := ⟨w.heap.size + 1, 0, none⟩) hne _, h.len, h.lP⟩
/-- The rules are another row now. -/
theorem DrSt.let1 {w wr w' : World} {P : Nat} {A : Option Addr} {n c : Nat} {zs : List Int} {l : Int} {B : Option Addr} {k d : Nat} {rs : List RuleT} (h : DrSt w wr P A n c zs l B k d rs) {B' : Option Addr} {k' d' : Nat} {rs' : List RuleT} (hb : Below (w.heap.size + 2) wr w') (ho : w'.ownsRow (w.heap.size + 2) 68 2 (.slice B' k' d') k' (cellsRule rs')) (hl : k' = rs'.length) :
    DrSt w (w'.setCell ⟨w.heap.size + 1, 1, none⟩ (.slice B' k' d')) P A n c zs l B' k' d' rs' := by
  have hne : (Value.slice B' k' d').ownBlock ≠ some (w.heap.size + 1) := by
    intro e
    have := (ho.lt _ e).1
    omega
  have hb2 : Below w.heap.size wr (w'.setCell ⟨w.heap.size + 1, 1, none⟩ (.slice B' k' d')) := (hb.mono (by omega)).setCell (p := ⟨w.heap.size + 1, 1, none⟩) (by dsimp only; omega) _
  exact ⟨h.src0, cur_low h.cur hb2 h.lP, gb_up h.gb hb2, (h.bkR.below hb (by omega)).far (p := ⟨w.heap.size + 1, 1, none⟩) (by dsimp only; omega) _, (h.bkS.below hb (by omega)).put 1 _, own_far3 ho (p := ⟨w.heap.size + 1, 1, none⟩) hne _, hl, h.lP⟩

theorem DrSt.far {w wr : World} {P : Nat} {A : Option Addr} {n c : Nat} {zs : List Int} {l : Int} {B : Option Addr} {k d : Nat} {rs : List RuleT} (h : DrSt w wr P A n c zs l B k d rs) {q : Addr} (hq : w.heap.size + 2 ≤ q.block) (hn : (Value.slice B k d).ownBlock ≠ some q.block) (u : Value) : DrSt w (wr.setCell q u) P A n c zs l B k d rs := by
  have hb : Below w.heap.size wr (wr.setCell q u) := (Below.refl _ _).setCell (p := q) (by omega) _
  exact ⟨h.src0, cur_low h.cur hb h.lP, gb_up h.gb hb, h.bkR.far (by omega) _, h.bkS.far (by omega) _, own_far3 h.own hn u, h.len, h.lP⟩
theorem meetD {F G : ByteArray → ByteArray → Nat → World → Prop} {goal : Prop} (leaf : (∀ a b r y, F a b r y → G a b r y) → goal) (key : ∀ a b r y, F a b r y → G a b r y) : goal := leaf key

def drawL : List ByteArray := [⟨#[49, 32, 97, 97, 97, 62, 46]⟩, ⟨#[50, 32, 97, 97, 62, 46, 32, 98, 98, 62, 46, 32, 98, 97, 62, 97, 98]⟩, ⟨#[50, 32, 97, 97, 62, 46, 32, 98, 98, 62, 46, 32, 98, 97, 98, 62, 97, 98, 97]⟩, ⟨#[50, 32, 98, 97, 62, 97, 98]⟩, ⟨#[50, 32, 97, 98, 62, 46]⟩, ⟨#[50, 32, 97, 97, 62, 97, 32, 98, 98, 62, 98]⟩, ⟨#[50, 32, 97, 97, 62, 46, 32, 98, 98, 98, 62, 46, 32, 97, 98, 98, 62, 98, 97, 32, 97, 98, 97, 62, 98, 98, 32, 98, 97, 98, 62, 97, 32, 98, 98, 97, 62, 97, 98]⟩, ⟨#[49, 32, 97, 97, 97, 97, 62, 97, 97]⟩, ⟨#[50, 32, 97, 97, 62, 98]⟩, ⟨#[50, 32, 98, 97, 62, 97, 98, 32, 98, 98, 62, 98]⟩, ⟨#[51, 32, 98, 97, 62, 97, 98, 32, 99, 97, 62, 97, 99, 32, 99, 98, 62, 98, 99]⟩]
theorem drawL_small : ∀ q ∈ drawL, q.size ≤ 60 := by decide

def DrawMade (P : Nat) (A : Option Addr) (n c : Nat) (zs : List Int) (w : World) (e : Ending) (w' : World) : Prop := ∃ (l : Int) (B : Option Addr) (k d : Nat) (rs : List RuleT), systemOk l rs = true ∧ k = rs.length ∧ e = .returned (.agg #[.int .i64 l, .slice B k d]) ∧ w'.ownsRow w.heap.size 68 2 (.slice B k d) k (cellsRule rs) ∧ Src w' P A n c zs ∧ w.grownBy w' (some P)
set_option maxRecDepth 100000 in
set_option maxHeartbeats 4000000 in
theorem l03Draw_any {P : Nat} {A : Option Addr} {n c : Nat} {zs : List Int} (w : World) (h : Src w P A n c zs) : Calls Tryz.prog 22 #[.pointer (some ⟨P, 0, none⟩)] w (DrawMade P A n c zs w) := by
  have lP := h.cur.lt
  have hw1 := (Below.refl w.heap.size w).alloc (Nat.le_refl _) (.cells #[.int .i64 0, .slice none 0 0] 25)
  have hw2 := hw1.alloc hw1.size (.cells #[.int .i64 2, .slice none 0 0] 25)
  have hD : DrSt w ((w.alloc (.cells #[.int .i64 0, .slice none 0 0] 25)).alloc (.cells #[.int .i64 2, .slice none 0 0] 25)) P A n c zs 2 none 0 0 [] :=
    ⟨h, h.cur.below hw2, gb_of_below hw2 _, (Bk.new w _ _).alloc _, (Bk.new (w.alloc (.cells #[.int .i64 0, .slice none 0 0] 25)) _ _).cast (by simp), World.ownsRow_nil _ _ _ _, rfl, lP⟩
  clear hw1 hw2
  have H := Lib.hid h
  clear h
  have HD := Lib.hid hD
  clear hD
  go_enter Tryz.func22, Tryz.ntmps22
  go_wp2_with fail
  with_reducible refine (HD.out.src.onceI 3 3 rfl (by omega) (by omega)).mono ?_
  rintro e w1 ⟨b1, rfl, hs1, hg1⟩
  have hD1 := HD.out.next hs1 hg1
  clear hs1 hg1 HD
  have c0 : w1.cell? ⟨w.heap.size, 0, none⟩ = some (.int .i64 0) := by rw [hD1.bkR.cell]; rfl
  have c1 : w1.cell? ⟨w.heap.size, 1, none⟩ = some (.slice none 0 0) := by rw [hD1.bkR.cell]; rfl
  have f0 := hD1.bkR.free 0
  have f1 := hD1.bkR.free 1
  have lb := hD1.bkR.lt
  have s0 : w1.cell? ⟨w.heap.size + 1, 0, none⟩ = some (.int .i64 2) := by rw [hD1.bkS.cell]; rfl
  have s1 : w1.cell? ⟨w.heap.size + 1, 1, none⟩ = some (.slice none 0 0) := by rw [hD1.bkS.cell]; rfl
  have sf0 := hD1.bkS.free 0
  have sf1 := hD1.bkS.free 1
  have sl := hD1.bkS.lt
  have HD1 := Lib.hid hD1
  clear hD1
  cases b1
  · go_wp2_with fail
    with_reducible refine (HD1.out.src.onceI 2 2 rfl (by omega) (by omega)).mono ?_
    rintro e w3 ⟨b2, rfl, hs3, hg3⟩
    have hD3 := HD1.out.next hs3 hg3
    clear hs3 hg3 HD1 c0 c1 f0 f1 lb s0 s1 sf0 sf1 sl
    have c0 : w3.cell? ⟨w.heap.size, 0, none⟩ = some (.int .i64 0) := by rw [hD3.bkR.cell]; rfl
    have c1 : w3.cell? ⟨w.heap.size, 1, none⟩ = some (.slice none 0 0) := by rw [hD3.bkR.cell]; rfl
    have f0 := hD3.bkR.free 0
    have f1 := hD3.bkR.free 1
    have lb := hD3.bkR.lt
    have s0 : w3.cell? ⟨w.heap.size + 1, 0, none⟩ = some (.int .i64 2) := by rw [hD3.bkS.cell]; rfl
    have s1 : w3.cell? ⟨w.heap.size + 1, 1, none⟩ = some (.slice none 0 0) := by rw [hD3.bkS.cell]; rfl
    have sf0 := hD3.bkS.free 0
    have sf1 := hD3.bkS.free 1
    have sl := hD3.bkS.lt
    have HD3 := Lib.hid hD3
    clear hD3
    cases b2
    · go_wp2_with fail
      with_reducible refine (HD3.out.src.underI 4 4 rfl (by omega) (by omega)).mono ?_
      rintro e w5 ⟨x, hx, rfl, hs5, hg5⟩
      have hD5 := HD3.out.next hs5 hg5
      clear hs5 hg5 HD3 c0 c1 f0 f1 lb s0 s1 sf0 sf1 sl
      have c0 : w5.cell? ⟨w.heap.size, 0, none⟩ = some (.int .i64 0) := by rw [hD5.bkR.cell]; rfl
      have c1 : w5.cell? ⟨w.heap.size, 1, none⟩ = some (.slice none 0 0) := by rw [hD5.bkR.cell]; rfl
      have f0 := hD5.bkR.free 0
      have f1 := hD5.bkR.free 1
      have lb := hD5.bkR.lt
      have s0 : w5.cell? ⟨w.heap.size + 1, 0, none⟩ = some (.int .i64 2) := by rw [hD5.bkS.cell]; rfl
      have s1 : w5.cell? ⟨w.heap.size + 1, 1, none⟩ = some (.slice none 0 0) := by rw [hD5.bkS.cell]; rfl
      have sf0 := hD5.bkS.free 0
      have sf1 := hD5.bkS.free 1
      have sl := hD5.bkS.lt
      have HD5 := Lib.hid hD5
      clear hD5
      go_wp2_with fail
      go_loopw [6] (fun i wr => ∃ (j : Nat) (B : Option Addr) (k d : Nat) (rs : List RuleT), i = .int .i64 j ∧ j + k ≤ 3 ∧ Hid (∀ r ∈ rs, ruleOk 2 r = true ∧ fallsOk r = true) ∧ Hid (DrSt w wr P A n c zs 2 B k d rs)) (fun i _ => (intOf i).toNat)
      case atStart => exact ⟨x, none, 0, 0, [], rfl, by omega, Lib.hid (by simp), HD5⟩
      case round =>
        clear HD5 c0 c1 f0 f1 lb s0 s1 sf0 sf1 sl
        obtain ⟨j, B, k, d, rs, rfl, hjk, HG, HD6⟩ := hrel
        have hD6 := HD6.out
        have c0 : wr.cell? ⟨w.heap.size, 0, none⟩ = some (.int .i64 0) := by rw [hD6.bkR.cell]; rfl
        have c1 : wr.cell? ⟨w.heap.size, 1, none⟩ = some (.slice none 0 0) := by rw [hD6.bkR.cell]; rfl
        have f0 := hD6.bkR.free 0
        have f1 := hD6.bkR.free 1
        have lb := hD6.bkR.lt
        have s0 : wr.cell? ⟨w.heap.size + 1, 0, none⟩ = some (.int .i64 2) := by rw [hD6.bkS.cell]; rfl
        have s1 : wr.cell? ⟨w.heap.size + 1, 1, none⟩ = some (.slice B k d) := by rw [hD6.bkS.cell]; rfl
        have sf0 := hD6.bkS.free 0
        have sf1 := hD6.bkS.free 1
        have sl := hD6.bkS.lt
        by_cases hlt : 0 < j
        · have lPr := hD6.lP
          go_wp2_with fail
          refine wp_region_held_drew (S := (fun W => W.cell? ⟨w.heap.size + 1, 0, none⟩ = some (.int .i64 2))) (by kernel_rfl) ((by (have hq := hD6.bkS.drew); rw [hq.cell]; rfl)) (fun hHeld => ?_)
          obtain ⟨y0_, hy0⟩ : ∃ z, z = World.drew wr := ⟨_, rfl⟩
          have hD0_ : DrSt w (World.drew wr) P A n c zs 2 B k d rs := hD6.next hD6.src.drew gb_drew
          rw [← hy0] at hD0_
          rw [← hy0] at hHeld
          rw [← hy0]
          clear hy0
          refine wpAnyH_take (i := 0) (oi := ?oi153) (v := ?val153) ?hi153 ?hs153 ?hf153 ?hr153 ?hQ153 ?hy153 ?hS153 ?hrest153
          case hi153 => (simp only [List.getElem?_toArray, List.getElem?_cons_succ, List.getElem?_cons_zero] <;> exact rfl)
          case hs153 => kernel_rfl
          case hf153 => kernel_rfl
          case hr153 => kernel_rfl
          case hQ153 => exact fun _ _ _ h => h
          case hS153 => assumption
          case hy153 => (refine Or.inl ⟨by rfl, ?_⟩; intro w hSw; (try dsimp only at hSw); go_simp; try with_reducible rfl)
          simp only [Act.put, List.setIfInBounds_toArray, List.set_cons_zero, List.set_cons_succ]
          refine wpAnyH_take (i := 1) (oi := ?oi162) (v := ?val162) ?hi162 ?hs162 ?hf162 ?hr162 ?hQ162 ?hy162 ?hS162 ?hrest162
          case hi162 => (simp only [List.getElem?_toArray, List.getElem?_cons_succ, List.getElem?_cons_zero] <;> exact rfl)
          case hs162 => kernel_rfl
          case hf162 => kernel_rfl
          case hr162 => kernel_rfl
          case hQ162 => exact fun _ _ _ h => h
          case hS162 => assumption
          case hy162 => (refine Or.inl ⟨by rfl, ?_⟩; intro w hSw; (try dsimp only at hSw); go_simp; try with_reducible rfl)
          simp only [Act.put, List.setIfInBounds_toArray, List.set_cons_zero, List.set_cons_succ]
          refine wpAnyH_take (i := 2) (oi := ?oi171) (v := ?val171) ?hi171 ?hs171 ?hf171 ?hr171 ?hQ171 ?hy171 ?hS171 ?hrest171
          case hi171 => (simp only [List.getElem?_toArray, List.getElem?_cons_succ, List.getElem?_cons_zero] <;> exact rfl)
          case hs171 => kernel_rfl
          case hf171 => kernel_rfl
          case hr171 => kernel_rfl
          case hQ171 => exact fun _ _ _ h => h
          case hS171 => assumption
          case hy171 => (refine Or.inl ⟨by rfl, ?_⟩; intro w hSw; (try dsimp only at hSw); go_simp; try with_reducible rfl)
          simp only [Act.put, List.setIfInBounds_toArray, List.set_cons_zero, List.set_cons_succ]
          refine wpAnyH_take (i := 3) (oi := ?oi180) (v := ?val180) ?hi180 ?hs180 ?hf180 ?hr180 ?hQ180 ?hy180 ?hS180 ?hrest180
          case hi180 => (simp only [List.getElem?_toArray, List.getElem?_cons_succ, List.getElem?_cons_zero] <;> exact rfl)
          case hs180 => kernel_rfl
          case hf180 => kernel_rfl
          case hr180 => kernel_rfl
          case hQ180 => exact fun _ _ _ h => h
          case hS180 => assumption
          case hy180 => (refine Or.inl ⟨by rfl, ?_⟩; intro w hSw; (try dsimp only at hSw); go_simp; try with_reducible rfl)
          simp only [Act.put, List.setIfInBounds_toArray, List.set_cons_zero, List.set_cons_succ]
          refine wpAnyH_take (i := 4) (oi := ?oi189) (v := ?val189) ?hi189 ?hs189 ?hf189 ?hr189 ?hQ189 ?hy189 ?hS189 ?hrest189
          case hi189 => (simp only [List.getElem?_toArray, List.getElem?_cons_succ, List.getElem?_cons_zero] <;> exact rfl)
          case hs189 => kernel_rfl
          case hf189 => kernel_rfl
          case hr189 => kernel_rfl
          case hQ189 => exact fun _ _ _ h => h
          case hS189 => assumption
          case hy189 => (refine Or.inl ⟨by rfl, ?_⟩; intro w hSw; (try dsimp only at hSw); go_simp; try with_reducible rfl)
          simp only [Act.put, List.setIfInBounds_toArray, List.set_cons_zero, List.set_cons_succ]
          refine wpAnyH_take (i := 6) (oi := ?oi198) (v := ?val198) ?hi198 ?hs198 ?hf198 ?hr198 ?hQ198 ?hy198 ?hS198 ?hrest198
          case hi198 => (simp only [List.getElem?_toArray, List.getElem?_cons_succ, List.getElem?_cons_zero] <;> exact rfl)
          case hs198 => kernel_rfl
          case hf198 => kernel_rfl
          case hr198 => kernel_rfl
          case hQ198 => exact fun _ _ _ h => h
          case hS198 => assumption
          case hy198 => (refine Or.inl ⟨by rfl, ?_⟩; intro w hSw; (try dsimp only at hSw); go_simp; try with_reducible rfl)
          simp only [Act.put, List.setIfInBounds_toArray, List.set_cons_zero, List.set_cons_succ]
          refine wpAnyH_take (i := 7) (oi := ?oi207) (v := ?val207) ?hi207 ?hs207 ?hf207 ?hr207 ?hQ207 ?hy207 ?hS207 ?hrest207
          case hi207 => (simp only [List.getElem?_toArray, List.getElem?_cons_succ, List.getElem?_cons_zero] <;> exact rfl)
          case hs207 => kernel_rfl
          case hf207 => kernel_rfl
          case hr207 => kernel_rfl
          case hQ207 => exact fun _ _ _ h => h
          case hS207 => assumption
          case hy207 => (refine Or.inl ⟨by rfl, ?_⟩; intro w hSw; (try dsimp only at hSw); go_simp; try with_reducible rfl)
          simp only [Act.put, List.setIfInBounds_toArray, List.set_cons_zero, List.set_cons_succ]
          refine wpAnyH_take (i := 8) (oi := ?oi216) (v := ?val216) ?hi216 ?hs216 ?hf216 ?hr216 ?hQ216 ?hy216 ?hS216 ?hrest216
          case hi216 => (simp only [List.getElem?_toArray, List.getElem?_cons_succ, List.getElem?_cons_zero] <;> exact rfl)
          case hs216 => kernel_rfl
          case hf216 => kernel_rfl
          case hr216 => kernel_rfl
          case hQ216 => exact fun _ _ _ h => h
          case hS216 => assumption
          case hy216 => (refine Or.inl ⟨by rfl, ?_⟩; intro w hSw; (try dsimp only at hSw); go_simp; try with_reducible rfl)
          simp only [Act.put, List.setIfInBounds_toArray, List.set_cons_zero, List.set_cons_succ]
          apply meetD (F := fun u v r y => DrSt w y P A n c zs 2 B k d rs ∧ Bk y r 68 #[.string ⟨#[]⟩, .string ⟨#[]⟩] ∧ w.heap.size + 2 ≤ r ∧ (Value.slice B k d).ownBlock ≠ some r ∧ u.size ≤ 4 ∧ lettersOk ((2 : Nat) : Int) u = true ∧ v.size ≤ 3 ∧ lettersOk ((2 : Nat) : Int) v = true)
          · intro hkey
            refine wpAnyH_ready (rs := [5, 15]) (by kernel_rfl) (by simp) ?_
            refine AllReadyH.cons rfl (fun K hK => ?_) (AllReadyH.cons rfl (fun K hK => ?_) AllReadyH.nil)
            · skip
              go_simp
              with_reducible refine (hD0_.src.wordI 2 4 2 4 (by omega) rfl (by omega) (by omega) (by omega)).mono ?_
              rintro e y1_ ⟨u2_, hu3_, hl4_, rfl, hs5_, hg6_⟩
              have hD7_ := hD0_.next hs5_ hg6_
              refine hK.out _ _ (by rw [hD7_.bkS.cell]; rfl) (fun hHeld => ?_)
              clear hK K
              first | simp only [Act.put, List.setIfInBounds_toArray, List.set_cons_zero, List.set_cons_succ] | skip
              refine wpAnyH_ready (rs := [9, 15]) (by kernel_rfl) (by simp) ?_
              refine AllReadyH.cons rfl (fun K hK => ?_) (AllReadyH.cons rfl (fun K hK => ?_) AllReadyH.nil)
              · skip
                go_simp
                with_reducible refine (hD7_.src.wordI 2 3 2 3 (by omega) rfl (by omega) (by omega) (by omega)).mono ?_
                rintro e y8_ ⟨u9_, hu10_, hl11_, rfl, hs12_, hg13_⟩
                have hD14_ := hD7_.next hs12_ hg13_
                refine hK.out _ _ (by rw [hD14_.bkS.cell]; rfl) (fun hHeld => ?_)
                clear hK K
                first | simp only [Act.put, List.setIfInBounds_toArray, List.set_cons_zero, List.set_cons_succ] | skip
                refine wpAnyH_take (i := 10) (oi := ?oi247) (v := ?val247) ?hi247 ?hs247 ?hf247 ?hr247 ?hQ247 ?hy247 ?hS247 ?hrest247
                case hi247 => (simp only [List.getElem?_toArray, List.getElem?_cons_succ, List.getElem?_cons_zero] <;> exact rfl)
                case hs247 => kernel_rfl
                case hf247 => kernel_rfl
                case hr247 => kernel_rfl
                case hQ247 => exact fun _ _ _ h => h
                case hS247 => assumption
                case hy247 => (refine Or.inl ⟨by rfl, ?_⟩; intro w hSw; (try dsimp only at hSw); go_simp; try with_reducible rfl)
                simp only [Act.put, List.setIfInBounds_toArray, List.set_cons_zero, List.set_cons_succ]
                refine wpAnyH_ready (rs := [11, 15]) (by kernel_rfl) (by simp) ?_
                refine AllReadyH.cons rfl (fun K hK => ?_) (AllReadyH.cons rfl (fun K hK => ?_) AllReadyH.nil)
                · skip
                  go_simp
                  with_reducible refine (orient_any 2 u2_ u9_ _ (by omega) (by omega)).mono ?_
                  rintro e y15_ ⟨rfl, b16_⟩
                  have hD17_ := hD14_.below b16_
                  refine hK.out _ _ (by rw [hD17_.bkS.cell]; rfl) (fun hHeld => ?_)
                  clear hK K
                  first | simp only [Act.put, List.setIfInBounds_toArray, List.set_cons_zero, List.set_cons_succ] | skip
                  refine wpAnyH_take (i := 12) (oi := ?oi266) (v := ?val266) ?hi266 ?hs266 ?hf266 ?hr266 ?hQ266 ?hy266 ?hS266 ?hrest266
                  case hi266 => (simp only [List.getElem?_toArray, List.getElem?_cons_succ, List.getElem?_cons_zero] <;> exact rfl)
                  case hs266 => kernel_rfl
                  case hf266 => kernel_rfl
                  case hr266 => kernel_rfl
                  case hQ266 => exact fun _ _ _ h => h
                  case hS266 => assumption
                  case hy266 => (refine Or.inl ⟨by rfl, ?_⟩; intro w hSw; (try dsimp only at hSw); go_simp; try with_reducible rfl)
                  simp only [Act.put, List.setIfInBounds_toArray, List.set_cons_zero, List.set_cons_succ]
                  refine wpAnyH_take (i := 13) (oi := ?oi275) (v := ?val275) ?hi275 ?hs275 ?hf275 ?hr275 ?hQ275 ?hy275 ?hS275 ?hrest275
                  case hi275 => (simp only [List.getElem?_toArray, List.getElem?_cons_succ, List.getElem?_cons_zero] <;> exact rfl)
                  case hs275 => kernel_rfl
                  case hf275 => kernel_rfl
                  case hr275 => kernel_rfl
                  case hQ275 => exact fun _ _ _ h => h
                  case hS275 => assumption
                  case hy275 => (refine Or.inl ⟨by rfl, ?_⟩; intro w hSw; (try dsimp only at hSw); go_simp; try with_reducible rfl)
                  simp only [Act.put, List.setIfInBounds_toArray, List.set_cons_zero, List.set_cons_succ]
                  refine wpAnyH_take (i := 14) (oi := ?oi284) (v := ?val284) ?hi284 ?hs284 ?hf284 ?hr284 ?hQ284 ?hy284 ?hS284 ?hrest284
                  case hi284 => (simp only [List.getElem?_toArray, List.getElem?_cons_succ, List.getElem?_cons_zero] <;> exact rfl)
                  case hs284 => kernel_rfl
                  case hf284 => kernel_rfl
                  case hr284 => kernel_rfl
                  case hQ284 => exact fun _ _ _ h => h
                  case hS284 => assumption
                  case hy284 => (refine Or.inl ⟨by rfl, ?_⟩; intro w hSw; (try dsimp only at hSw); go_simp; try with_reducible rfl)
                  simp only [Act.put, List.setIfInBounds_toArray, List.set_cons_zero, List.set_cons_succ]
                  refine wpAnyH_ready (rs := [15]) (by kernel_rfl) (by simp) ?_
                  refine AllReadyH.cons rfl (fun K hK => ?_) AllReadyH.nil
                  go_simp
                  have hD19_ := hD17_.below ((Below.refl _ _).alloc (Nat.le_refl _) (.cells #[.string ⟨#[]⟩, .string ⟨#[]⟩] 68))
                  have bk21_ := Bk.new y15_ 68 #[.string ⟨#[]⟩, .string ⟨#[]⟩]
                  have le22_ : w.heap.size + 2 ≤ (World.heap y15_).size := hD17_.bkS.lt
                  have nb23_ := own_new_ne3 hD17_.own (Nat.le_refl _)
                  refine hK.out _ _ (by rw [hD19_.bkS.cell]; rfl) (fun hHeld => ?_)
                  clear hK K
                  first | simp only [Act.put, List.setIfInBounds_toArray, List.set_cons_zero, List.set_cons_succ] | skip
                  obtain ⟨y18_, hy⟩ : ∃ z, z = World.alloc y15_ (.cells #[.string ⟨#[]⟩, .string ⟨#[]⟩] 68) := ⟨_, rfl⟩
                  obtain ⟨r20_, hb⟩ : ∃ z, z = (World.heap y15_).size := ⟨_, rfl⟩
                  rw [← hy] at bk21_ hD19_
                  rw [← hb] at bk21_ le22_ nb23_
                  rw [← hy, ← hb]
                  clear hHeld
                  have hHeld : y18_.cell? ⟨w.heap.size + 1, 0, none⟩ = some (.int .i64 2) := by rw [hD19_.bkS.cell]; rfl
                  clear hy hb
                  exact hkey u2_ u9_ r20_ y18_ ⟨hD19_, bk21_, le22_, nb23_, hu3_, hl4_, hu10_, hl11_⟩
                · skip
                  go_simp
                  have hD25_ := hD14_.below ((Below.refl _ _).alloc (Nat.le_refl _) (.cells #[.string ⟨#[]⟩, .string ⟨#[]⟩] 68))
                  have bk27_ := Bk.new y8_ 68 #[.string ⟨#[]⟩, .string ⟨#[]⟩]
                  have le28_ : w.heap.size + 2 ≤ (World.heap y8_).size := hD14_.bkS.lt
                  have nb29_ := own_new_ne3 hD14_.own (Nat.le_refl _)
                  refine hK.out _ _ (by rw [hD25_.bkS.cell]; rfl) (fun hHeld => ?_)
                  clear hK K
                  first | simp only [Act.put, List.setIfInBounds_toArray, List.set_cons_zero, List.set_cons_succ] | skip
                  obtain ⟨y24_, hy⟩ : ∃ z, z = World.alloc y8_ (.cells #[.string ⟨#[]⟩, .string ⟨#[]⟩] 68) := ⟨_, rfl⟩
                  obtain ⟨r26_, hb⟩ : ∃ z, z = (World.heap y8_).size := ⟨_, rfl⟩
                  rw [← hy] at bk27_ hD25_
                  rw [← hb] at bk27_ le28_ nb29_
                  rw [← hy, ← hb]
                  clear hHeld
                  have hHeld : y24_.cell? ⟨w.heap.size + 1, 0, none⟩ = some (.int .i64 2) := by rw [hD25_.bkS.cell]; rfl
                  clear hy hb
                  refine wpAnyH_ready (rs := [11]) (by kernel_rfl) (by simp) ?_
                  refine AllReadyH.cons rfl (fun K hK => ?_) AllReadyH.nil
                  go_simp
                  with_reducible refine (orient_any 2 u2_ u9_ _ (by omega) (by omega)).mono ?_
                  rintro e y30_ ⟨rfl, b31_⟩
                  have hD32_ := hD25_.below b31_
                  have bk33_ := bk27_.below b31_ bk27_.lt
                  refine hK.out _ _ (by rw [hD32_.bkS.cell]; rfl) (fun hHeld => ?_)
                  clear hK K
                  first | simp only [Act.put, List.setIfInBounds_toArray, List.set_cons_zero, List.set_cons_succ] | skip
                  refine wpAnyH_take (i := 12) (oi := ?oi339) (v := ?val339) ?hi339 ?hs339 ?hf339 ?hr339 ?hQ339 ?hy339 ?hS339 ?hrest339
                  case hi339 => (simp only [List.getElem?_toArray, List.getElem?_cons_succ, List.getElem?_cons_zero] <;> exact rfl)
                  case hs339 => kernel_rfl
                  case hf339 => kernel_rfl
                  case hr339 => kernel_rfl
                  case hQ339 => exact fun _ _ _ h => h
                  case hS339 => assumption
                  case hy339 => (refine Or.inl ⟨by rfl, ?_⟩; intro w hSw; (try dsimp only at hSw); go_simp; try with_reducible rfl)
                  simp only [Act.put, List.setIfInBounds_toArray, List.set_cons_zero, List.set_cons_succ]
                  refine wpAnyH_take (i := 13) (oi := ?oi348) (v := ?val348) ?hi348 ?hs348 ?hf348 ?hr348 ?hQ348 ?hy348 ?hS348 ?hrest348
                  case hi348 => (simp only [List.getElem?_toArray, List.getElem?_cons_succ, List.getElem?_cons_zero] <;> exact rfl)
                  case hs348 => kernel_rfl
                  case hf348 => kernel_rfl
                  case hr348 => kernel_rfl
                  case hQ348 => exact fun _ _ _ h => h
                  case hS348 => assumption
                  case hy348 => (refine Or.inl ⟨by rfl, ?_⟩; intro w hSw; (try dsimp only at hSw); go_simp; try with_reducible rfl)
                  simp only [Act.put, List.setIfInBounds_toArray, List.set_cons_zero, List.set_cons_succ]
                  refine wpAnyH_take (i := 14) (oi := ?oi357) (v := ?val357) ?hi357 ?hs357 ?hf357 ?hr357 ?hQ357 ?hy357 ?hS357 ?hrest357
                  case hi357 => (simp only [List.getElem?_toArray, List.getElem?_cons_succ, List.getElem?_cons_zero] <;> exact rfl)
                  case hs357 => kernel_rfl
                  case hf357 => kernel_rfl
                  case hr357 => kernel_rfl
                  case hQ357 => exact fun _ _ _ h => h
                  case hS357 => assumption
                  case hy357 => (refine Or.inl ⟨by rfl, ?_⟩; intro w hSw; (try dsimp only at hSw); go_simp; try with_reducible rfl)
                  simp only [Act.put, List.setIfInBounds_toArray, List.set_cons_zero, List.set_cons_succ]
                  exact hkey u2_ u9_ r26_ y30_ ⟨hD32_, bk33_, le28_, nb29_, hu3_, hl4_, hu10_, hl11_⟩
              · skip
                go_simp
                have hD35_ := hD7_.below ((Below.refl _ _).alloc (Nat.le_refl _) (.cells #[.string ⟨#[]⟩, .string ⟨#[]⟩] 68))
                have bk37_ := Bk.new y1_ 68 #[.string ⟨#[]⟩, .string ⟨#[]⟩]
                have le38_ : w.heap.size + 2 ≤ (World.heap y1_).size := hD7_.bkS.lt
                have nb39_ := own_new_ne3 hD7_.own (Nat.le_refl _)
                refine hK.out _ _ (by rw [hD35_.bkS.cell]; rfl) (fun hHeld => ?_)
                clear hK K
                first | simp only [Act.put, List.setIfInBounds_toArray, List.set_cons_zero, List.set_cons_succ] | skip
                obtain ⟨y34_, hy⟩ : ∃ z, z = World.alloc y1_ (.cells #[.string ⟨#[]⟩, .string ⟨#[]⟩] 68) := ⟨_, rfl⟩
                obtain ⟨r36_, hb⟩ : ∃ z, z = (World.heap y1_).size := ⟨_, rfl⟩
                rw [← hy] at bk37_ hD35_
                rw [← hb] at bk37_ le38_ nb39_
                rw [← hy, ← hb]
                clear hHeld
                have hHeld : y34_.cell? ⟨w.heap.size + 1, 0, none⟩ = some (.int .i64 2) := by rw [hD35_.bkS.cell]; rfl
                clear hy hb
                refine wpAnyH_ready (rs := [9]) (by kernel_rfl) (by simp) ?_
                refine AllReadyH.cons rfl (fun K hK => ?_) AllReadyH.nil
                go_simp
                with_reducible refine (hD35_.src.wordI 2 3 2 3 (by omega) rfl (by omega) (by omega) (by omega)).mono ?_
                rintro e y40_ ⟨u41_, hu42_, hl43_, rfl, hs44_, hg45_⟩
                have hD46_ := hD35_.next hs44_ hg45_
                have bk47_ := bk37_.grown hg45_ (by intro e; injection e with e; omega)
                refine hK.out _ _ (by rw [hD46_.bkS.cell]; rfl) (fun hHeld => ?_)
                clear hK K
                first | simp only [Act.put, List.setIfInBounds_toArray, List.set_cons_zero, List.set_cons_succ] | skip
                refine wpAnyH_take (i := 10) (oi := ?oi394) (v := ?val394) ?hi394 ?hs394 ?hf394 ?hr394 ?hQ394 ?hy394 ?hS394 ?hrest394
                case hi394 => (simp only [List.getElem?_toArray, List.getElem?_cons_succ, List.getElem?_cons_zero] <;> exact rfl)
                case hs394 => kernel_rfl
                case hf394 => kernel_rfl
                case hr394 => kernel_rfl
                case hQ394 => exact fun _ _ _ h => h
                case hS394 => assumption
                case hy394 => (refine Or.inl ⟨by rfl, ?_⟩; intro w hSw; (try dsimp only at hSw); go_simp; try with_reducible rfl)
                simp only [Act.put, List.setIfInBounds_toArray, List.set_cons_zero, List.set_cons_succ]
                refine wpAnyH_ready (rs := [11]) (by kernel_rfl) (by simp) ?_
                refine AllReadyH.cons rfl (fun K hK => ?_) AllReadyH.nil
                go_simp
                with_reducible refine (orient_any 2 u2_ u41_ _ (by omega) (by omega)).mono ?_
                rintro e y48_ ⟨rfl, b49_⟩
                have hD50_ := hD46_.below b49_
                have bk51_ := bk47_.below b49_ bk47_.lt
                refine hK.out _ _ (by rw [hD50_.bkS.cell]; rfl) (fun hHeld => ?_)
                clear hK K
                first | simp only [Act.put, List.setIfInBounds_toArray, List.set_cons_zero, List.set_cons_succ] | skip
                refine wpAnyH_take (i := 12) (oi := ?oi413) (v := ?val413) ?hi413 ?hs413 ?hf413 ?hr413 ?hQ413 ?hy413 ?hS413 ?hrest413
                case hi413 => (simp only [List.getElem?_toArray, List.getElem?_cons_succ, List.getElem?_cons_zero] <;> exact rfl)
                case hs413 => kernel_rfl
                case hf413 => kernel_rfl
                case hr413 => kernel_rfl
                case hQ413 => exact fun _ _ _ h => h
                case hS413 => assumption
                case hy413 => (refine Or.inl ⟨by rfl, ?_⟩; intro w hSw; (try dsimp only at hSw); go_simp; try with_reducible rfl)
                simp only [Act.put, List.setIfInBounds_toArray, List.set_cons_zero, List.set_cons_succ]
                refine wpAnyH_take (i := 13) (oi := ?oi422) (v := ?val422) ?hi422 ?hs422 ?hf422 ?hr422 ?hQ422 ?hy422 ?hS422 ?hrest422
                case hi422 => (simp only [List.getElem?_toArray, List.getElem?_cons_succ, List.getElem?_cons_zero] <;> exact rfl)
                case hs422 => kernel_rfl
                case hf422 => kernel_rfl
                case hr422 => kernel_rfl
                case hQ422 => exact fun _ _ _ h => h
                case hS422 => assumption
                case hy422 => (refine Or.inl ⟨by rfl, ?_⟩; intro w hSw; (try dsimp only at hSw); go_simp; try with_reducible rfl)
                simp only [Act.put, List.setIfInBounds_toArray, List.set_cons_zero, List.set_cons_succ]
                refine wpAnyH_take (i := 14) (oi := ?oi431) (v := ?val431) ?hi431 ?hs431 ?hf431 ?hr431 ?hQ431 ?hy431 ?hS431 ?hrest431
                case hi431 => (simp only [List.getElem?_toArray, List.getElem?_cons_succ, List.getElem?_cons_zero] <;> exact rfl)
                case hs431 => kernel_rfl
                case hf431 => kernel_rfl
                case hr431 => kernel_rfl
                case hQ431 => exact fun _ _ _ h => h
                case hS431 => assumption
                case hy431 => (refine Or.inl ⟨by rfl, ?_⟩; intro w hSw; (try dsimp only at hSw); go_simp; try with_reducible rfl)
                simp only [Act.put, List.setIfInBounds_toArray, List.set_cons_zero, List.set_cons_succ]
                exact hkey u2_ u41_ r36_ y48_ ⟨hD50_, bk51_, le38_, nb39_, hu3_, hl4_, hu42_, hl43_⟩
            · skip
              go_simp
              have hD53_ := hD0_.below ((Below.refl _ _).alloc (Nat.le_refl _) (.cells #[.string ⟨#[]⟩, .string ⟨#[]⟩] 68))
              have bk55_ := Bk.new y0_ 68 #[.string ⟨#[]⟩, .string ⟨#[]⟩]
              have le56_ : w.heap.size + 2 ≤ (World.heap y0_).size := hD0_.bkS.lt
              have nb57_ := own_new_ne3 hD0_.own (Nat.le_refl _)
              refine hK.out _ _ (by rw [hD53_.bkS.cell]; rfl) (fun hHeld => ?_)
              clear hK K
              first | simp only [Act.put, List.setIfInBounds_toArray, List.set_cons_zero, List.set_cons_succ] | skip
              obtain ⟨y52_, hy⟩ : ∃ z, z = World.alloc y0_ (.cells #[.string ⟨#[]⟩, .string ⟨#[]⟩] 68) := ⟨_, rfl⟩
              obtain ⟨r54_, hb⟩ : ∃ z, z = (World.heap y0_).size := ⟨_, rfl⟩
              rw [← hy] at bk55_ hD53_
              rw [← hb] at bk55_ le56_ nb57_
              rw [← hy, ← hb]
              clear hHeld
              have hHeld : y52_.cell? ⟨w.heap.size + 1, 0, none⟩ = some (.int .i64 2) := by rw [hD53_.bkS.cell]; rfl
              clear hy hb
              refine wpAnyH_ready (rs := [5]) (by kernel_rfl) (by simp) ?_
              refine AllReadyH.cons rfl (fun K hK => ?_) AllReadyH.nil
              go_simp
              with_reducible refine (hD53_.src.wordI 2 4 2 4 (by omega) rfl (by omega) (by omega) (by omega)).mono ?_
              rintro e y58_ ⟨u59_, hu60_, hl61_, rfl, hs62_, hg63_⟩
              have hD64_ := hD53_.next hs62_ hg63_
              have bk65_ := bk55_.grown hg63_ (by intro e; injection e with e; omega)
              refine hK.out _ _ (by rw [hD64_.bkS.cell]; rfl) (fun hHeld => ?_)
              clear hK K
              first | simp only [Act.put, List.setIfInBounds_toArray, List.set_cons_zero, List.set_cons_succ] | skip
              refine wpAnyH_ready (rs := [9]) (by kernel_rfl) (by simp) ?_
              refine AllReadyH.cons rfl (fun K hK => ?_) AllReadyH.nil
              go_simp
              with_reducible refine (hD64_.src.wordI 2 3 2 3 (by omega) rfl (by omega) (by omega) (by omega)).mono ?_
              rintro e y66_ ⟨u67_, hu68_, hl69_, rfl, hs70_, hg71_⟩
              have hD72_ := hD64_.next hs70_ hg71_
              have bk73_ := bk65_.grown hg71_ (by intro e; injection e with e; omega)
              refine hK.out _ _ (by rw [hD72_.bkS.cell]; rfl) (fun hHeld => ?_)
              clear hK K
              first | simp only [Act.put, List.setIfInBounds_toArray, List.set_cons_zero, List.set_cons_succ] | skip
              refine wpAnyH_take (i := 10) (oi := ?oi478) (v := ?val478) ?hi478 ?hs478 ?hf478 ?hr478 ?hQ478 ?hy478 ?hS478 ?hrest478
              case hi478 => (simp only [List.getElem?_toArray, List.getElem?_cons_succ, List.getElem?_cons_zero] <;> exact rfl)
              case hs478 => kernel_rfl
              case hf478 => kernel_rfl
              case hr478 => kernel_rfl
              case hQ478 => exact fun _ _ _ h => h
              case hS478 => assumption
              case hy478 => (refine Or.inl ⟨by rfl, ?_⟩; intro w hSw; (try dsimp only at hSw); go_simp; try with_reducible rfl)
              simp only [Act.put, List.setIfInBounds_toArray, List.set_cons_zero, List.set_cons_succ]
              refine wpAnyH_ready (rs := [11]) (by kernel_rfl) (by simp) ?_
              refine AllReadyH.cons rfl (fun K hK => ?_) AllReadyH.nil
              go_simp
              with_reducible refine (orient_any 2 u59_ u67_ _ (by omega) (by omega)).mono ?_
              rintro e y74_ ⟨rfl, b75_⟩
              have hD76_ := hD72_.below b75_
              have bk77_ := bk73_.below b75_ bk73_.lt
              refine hK.out _ _ (by rw [hD76_.bkS.cell]; rfl) (fun hHeld => ?_)
              clear hK K
              first | simp only [Act.put, List.setIfInBounds_toArray, List.set_cons_zero, List.set_cons_succ] | skip
              refine wpAnyH_take (i := 12) (oi := ?oi497) (v := ?val497) ?hi497 ?hs497 ?hf497 ?hr497 ?hQ497 ?hy497 ?hS497 ?hrest497
              case hi497 => (simp only [List.getElem?_toArray, List.getElem?_cons_succ, List.getElem?_cons_zero] <;> exact rfl)
              case hs497 => kernel_rfl
              case hf497 => kernel_rfl
              case hr497 => kernel_rfl
              case hQ497 => exact fun _ _ _ h => h
              case hS497 => assumption
              case hy497 => (refine Or.inl ⟨by rfl, ?_⟩; intro w hSw; (try dsimp only at hSw); go_simp; try with_reducible rfl)
              simp only [Act.put, List.setIfInBounds_toArray, List.set_cons_zero, List.set_cons_succ]
              refine wpAnyH_take (i := 13) (oi := ?oi506) (v := ?val506) ?hi506 ?hs506 ?hf506 ?hr506 ?hQ506 ?hy506 ?hS506 ?hrest506
              case hi506 => (simp only [List.getElem?_toArray, List.getElem?_cons_succ, List.getElem?_cons_zero] <;> exact rfl)
              case hs506 => kernel_rfl
              case hf506 => kernel_rfl
              case hr506 => kernel_rfl
              case hQ506 => exact fun _ _ _ h => h
              case hS506 => assumption
              case hy506 => (refine Or.inl ⟨by rfl, ?_⟩; intro w hSw; (try dsimp only at hSw); go_simp; try with_reducible rfl)
              simp only [Act.put, List.setIfInBounds_toArray, List.set_cons_zero, List.set_cons_succ]
              refine wpAnyH_take (i := 14) (oi := ?oi515) (v := ?val515) ?hi515 ?hs515 ?hf515 ?hr515 ?hQ515 ?hy515 ?hS515 ?hrest515
              case hi515 => (simp only [List.getElem?_toArray, List.getElem?_cons_succ, List.getElem?_cons_zero] <;> exact rfl)
              case hs515 => kernel_rfl
              case hf515 => kernel_rfl
              case hr515 => kernel_rfl
              case hQ515 => exact fun _ _ _ h => h
              case hS515 => assumption
              case hy515 => (refine Or.inl ⟨by rfl, ?_⟩; intro w hSw; (try dsimp only at hSw); go_simp; try with_reducible rfl)
              simp only [Act.put, List.setIfInBounds_toArray, List.set_cons_zero, List.set_cons_succ]
              exact hkey u59_ u67_ r54_ y74_ ⟨hD76_, bk77_, le56_, nb57_, hu60_, hl61_, hu68_, hl69_⟩
          intro u v r y7 ⟨hD7, bk7, lr7, nb7, hu4, huL, hv3, hvL⟩
          obtain ⟨⟨⟨o1, o2⟩, ob⟩, ho⟩ : ∃ z, z = orientR 2 u v := ⟨_, rfl⟩
          rw [← ho]
          dsimp only
          clear c0 c1 f0 f1 lb s0 s1 sf0 sf1 sl
          have c0 : y7.cell? ⟨w.heap.size, 0, none⟩ = some (.int .i64 0) := by rw [hD7.bkR.cell]; rfl
          have c1 : y7.cell? ⟨w.heap.size, 1, none⟩ = some (.slice none 0 0) := by rw [hD7.bkR.cell]; rfl
          have f0 := hD7.bkR.free 0
          have f1 := hD7.bkR.free 1
          have lb := hD7.bkR.lt
          have s0 : y7.cell? ⟨w.heap.size + 1, 0, none⟩ = some (.int .i64 2) := by rw [hD7.bkS.cell]; rfl
          have s1 : y7.cell? ⟨w.heap.size + 1, 1, none⟩ = some (.slice B k d) := by rw [hD7.bkS.cell]; rfl
          have sf0 := hD7.bkS.free 0
          have sf1 := hD7.bkS.free 1
          have sl := hD7.bkS.lt
          have d0 : y7.cell? ⟨r, 0, none⟩ = some (.string ⟨#[]⟩) := by rw [bk7.cell]; rfl
          have d1 : y7.cell? ⟨r, 1, none⟩ = some (.string ⟨#[]⟩) := by rw [bk7.cell]; rfl
          have df0 := bk7.free 0
          have df1 := bk7.free 1
          have dl := bk7.lt
          have ne1 : ¬ w.heap.size = r := by omega
          have ne2 : ¬ w.heap.size + 1 = r := by omega
          have ne3 : ¬ r = w.heap.size := by omega
          have ne4 : ¬ r = w.heap.size + 1 := by omega
          have hD8 := (hD7.far (q := ⟨r, 0, none⟩) lr7 nb7 (.string o1)).far (q := ⟨r, 1, none⟩) lr7 nb7 (.string o2)
          have bk8 := (bk7.put 0 (.string o1)).put 1 (.string o2)
          refine wpAnyH_ready (rs := [16]) (by kernel_rfl) (by simp) ?_
          refine AllReadyH.cons rfl (fun K hK => ?_) AllReadyH.nil
          (go_simp)
          refine hK.out _ _ ((by (have hq := hD8.bkS.cell 0); rw [hq]; rfl)) (fun hHeld2 => ?_)
          clear hK K hHeld
          have hHeld := hHeld2
          clear hHeld2
          first | simp only [Act.put, List.setIfInBounds_toArray, List.set_cons_zero, List.set_cons_succ] | skip
          obtain ⟨y8, hy8⟩ : ∃ z, z = (y7.setCell ⟨r, 0, none⟩ (.string o1)).setCell ⟨r, 1, none⟩ (.string o2) := ⟨_, rfl⟩
          rw [← hy8] at hD8 bk8
          rw [← hy8]
          clear hHeld c0 c1 f0 f1 lb s0 s1 sf0 sf1 sl d0 d1 df0 df1 dl bk7 hD7
          have hHeld : y8.cell? ⟨w.heap.size + 1, 0, none⟩ = some (.int .i64 2) := by rw [hD8.bkS.cell]; rfl
          refine wpAnyH_take (i := 17) (oi := ?oi564) (v := ?val564) ?hi564 ?hs564 ?hf564 ?hr564 ?hQ564 ?hy564 ?hS564 ?hrest564
          case hi564 => (simp only [List.getElem?_toArray, List.getElem?_cons_succ, List.getElem?_cons_zero] <;> exact rfl)
          case hs564 => kernel_rfl
          case hf564 => kernel_rfl
          case hr564 => kernel_rfl
          case hQ564 => exact fun _ _ _ h => h
          case hS564 => assumption
          case hy564 => (refine Or.inl ⟨by rfl, ?_⟩; intro w hSw; (try dsimp only at hSw); go_simp; try with_reducible rfl)
          simp only [Act.put, List.setIfInBounds_toArray, List.set_cons_zero, List.set_cons_succ]
          refine wpAnyH_done (by kernel_rfl) ?_ _
          clear hHeld hy8
          have c0 : y8.cell? ⟨w.heap.size, 0, none⟩ = some (.int .i64 0) := by rw [hD8.bkR.cell]; rfl
          have c1 : y8.cell? ⟨w.heap.size, 1, none⟩ = some (.slice none 0 0) := by rw [hD8.bkR.cell]; rfl
          have f0 := hD8.bkR.free 0
          have f1 := hD8.bkR.free 1
          have lb := hD8.bkR.lt
          have s0 : y8.cell? ⟨w.heap.size + 1, 0, none⟩ = some (.int .i64 2) := by rw [hD8.bkS.cell]; rfl
          have s1 : y8.cell? ⟨w.heap.size + 1, 1, none⟩ = some (.slice B k d) := by rw [hD8.bkS.cell]; rfl
          have sf0 := hD8.bkS.free 0
          have sf1 := hD8.bkS.free 1
          have sl := hD8.bkS.lt
          have d0 : y8.cell? ⟨r, 0, none⟩ = some (.string o1) := by rw [bk8.cell]; rfl
          have d1 : y8.cell? ⟨r, 1, none⟩ = some (.string o2) := by rw [bk8.cell]; rfl
          have dl := bk8.lt
          cases ob
          · skip
            have HD8 := Lib.hid hD8
            clear hD8
            have Bk8 := Lib.hid bk8
            clear bk8
            go_wp2_with fail
            go_roundw
            case rel => exact ⟨j - 1, B, k, d, rs, by go_num, by omega, HG, HD8⟩
            case measure => simp [intOf] <;> omega
          · have hO8 := hD8.own
            have hz8 := hD8.bkS.lt
            have HD8 := Lib.hid hD8
            clear hD8
            have Bk8 := Lib.hid bk8
            clear bk8
            go_wp2_with (at_builtin; go_loud (refine wpList_app5 _ y8 y8.heap.size rfl rfl _ _ 23 rfl (w.heap.size + 2) 68 2 32 _ Tryz.underlying23 info_Rule rfl (by omega) (.slice B k d) k _ _ rfl rfl rfl hO8 rfl (one_cell_ruleP _ _) (by omega) (by unfold maxLen; omega) (by omega) ?_); intro g5 c5 w5 hO9 hV9 hG9 hat9; have t1 : w5.cell? ⟨w.heap.size + 1, 1, none⟩ = some (.slice B k d) := (by have hq := HD8.out.bkS.below hV9 (by omega); rw [hq.cell]; rfl); have tf := (HD8.out.bkS.below hV9 (by omega)).free 1; have tl := (HD8.out.bkS.below hV9 (by omega)).lt)
            have hcr : cellsRule (rs ++ [(o1, o2)]) = cellsRule rs ++ (#[.string o1, .string o2] : Array Value).toList := by simp [cellsRule, encRule]
            have hO10 := hO9
            rw [← hcr] at hO10
            have hD9 := HD8.out.let1 hV9 hO10 (by rw [List.length_append, ← HD8.out.len]; rfl)
            have hgd := orient_good ho.symm
            refine ⟨⟨j - 1, some ⟨g5, 0, none⟩, k + 1, c5, rs ++ [(o1, o2)], by go_num, by omega, Lib.hid (fun q hq => ?_), hD9⟩, by simp [intOf] <;> omega⟩
            rcases List.mem_append.1 hq with h | h
            · exact HG.out q h
            · rw [List.mem_singleton.1 h]
              exact hgd
        · have hsys := sys_of_all (l := 2) (by omega) (by omega) (by rw [← hD6.len]; omega) HG.out
          have HD6 := Lib.hid hD6
          clear hD6
          have Hsys := Lib.hid hsys
          clear hsys
          go_wp2_with fail
          have hne : (Value.slice B k d).ownBlock ≠ some w.heap.size := by
            intro e
            have := (HD6.out.own.lt _ e).1
            omega
          have hb9 : Below w.heap.size wr ((wr.setCell ⟨w.heap.size, 0, none⟩ (.int .i64 2)).setCell ⟨w.heap.size, 1, none⟩ (.slice B k d)) := ((Below.refl _ _).setCell (p := ⟨w.heap.size, 0, none⟩) (Nat.le_refl _) _).setCell (p := ⟨w.heap.size, 1, none⟩) (Nat.le_refl _) _
          have hO9 := own_mono (own_far3 (own_far3 HD6.out.own (p := ⟨w.heap.size, 0, none⟩) hne (.int .i64 2)) (p := ⟨w.heap.size, 1, none⟩) hne (.slice B k d)) (b' := w.heap.size) (show w.heap.size ≤ w.heap.size + 2 by omega)
          have hC9 := cur_low HD6.out.cur hb9 HD6.out.lP
          have hG9 := gb_up HD6.out.gb hb9
          have hBn := (HD6.out.bkR.put 0 (.int .i64 2)).put 1 (.slice B k d)
          have q0 := hBn.cell 0
          have q1 := hBn.cell 1
          refine bodyPost_ret (v := .agg #[.int .i64 2, .slice B k d]) (by simp [results, Tryz.results22, go_sem, q0, q1]) rfl ?_
          exact ⟨2, B, k, d, rs, Hsys.out, HD6.out.len, rfl, hO9, HD6.out.src0.next hC9 hG9, hG9⟩
    · go_wp2_with fail
      have hal := (Below.refl w3.heap.size w3).alloc (Nat.le_refl _) (.cells #[.string ⟨#[49, 32, 97, 97, 97, 62, 46]⟩, .string ⟨#[50, 32, 97, 97, 62, 46, 32, 98, 98, 62, 46, 32, 98, 97, 62, 97, 98]⟩, .string ⟨#[50, 32, 97, 97, 62, 46, 32, 98, 98, 62, 46, 32, 98, 97, 98, 62, 97, 98, 97]⟩, .string ⟨#[50, 32, 98, 97, 62, 97, 98]⟩, .string ⟨#[50, 32, 97, 98, 62, 46]⟩, .string ⟨#[50, 32, 97, 97, 62, 97, 32, 98, 98, 62, 98]⟩, .string ⟨#[50, 32, 97, 97, 62, 46, 32, 98, 98, 98, 62, 46, 32, 97, 98, 98, 62, 98, 97, 32, 97, 98, 97, 62, 98, 98, 32, 98, 97, 98, 62, 97, 32, 98, 98, 97, 62, 97, 98]⟩, .string ⟨#[49, 32, 97, 97, 97, 97, 62, 97, 97]⟩, .string ⟨#[50, 32, 97, 97, 62, 98]⟩, .string ⟨#[50, 32, 98, 97, 62, 97, 98, 32, 98, 98, 62, 98]⟩, .string ⟨#[51, 32, 98, 97, 62, 97, 98, 32, 99, 97, 62, 97, 99, 32, 99, 98, 62, 98, 99]⟩] 9)
      have hbk : Bk (w3.alloc (.cells #[.string ⟨#[49, 32, 97, 97, 97, 62, 46]⟩, .string ⟨#[50, 32, 97, 97, 62, 46, 32, 98, 98, 62, 46, 32, 98, 97, 62, 97, 98]⟩, .string ⟨#[50, 32, 97, 97, 62, 46, 32, 98, 98, 62, 46, 32, 98, 97, 98, 62, 97, 98, 97]⟩, .string ⟨#[50, 32, 98, 97, 62, 97, 98]⟩, .string ⟨#[50, 32, 97, 98, 62, 46]⟩, .string ⟨#[50, 32, 97, 97, 62, 97, 32, 98, 98, 62, 98]⟩, .string ⟨#[50, 32, 97, 97, 62, 46, 32, 98, 98, 98, 62, 46, 32, 97, 98, 98, 62, 98, 97, 32, 97, 98, 97, 62, 98, 98, 32, 98, 97, 98, 62, 97, 32, 98, 98, 97, 62, 97, 98]⟩, .string ⟨#[49, 32, 97, 97, 97, 97, 62, 97, 97]⟩, .string ⟨#[50, 32, 97, 97, 62, 98]⟩, .string ⟨#[50, 32, 98, 97, 62, 97, 98, 32, 98, 98, 62, 98]⟩, .string ⟨#[51, 32, 98, 97, 62, 97, 98, 32, 99, 97, 62, 97, 99, 32, 99, 98, 62, 98, 99]⟩] 9)) w3.heap.size 9 (strs drawL).toArray := Bk.new w3 9 #[.string ⟨#[49, 32, 97, 97, 97, 62, 46]⟩, .string ⟨#[50, 32, 97, 97, 62, 46, 32, 98, 98, 62, 46, 32, 98, 97, 62, 97, 98]⟩, .string ⟨#[50, 32, 97, 97, 62, 46, 32, 98, 98, 62, 46, 32, 98, 97, 98, 62, 97, 98, 97]⟩, .string ⟨#[50, 32, 98, 97, 62, 97, 98]⟩, .string ⟨#[50, 32, 97, 98, 62, 46]⟩, .string ⟨#[50, 32, 97, 97, 62, 97, 32, 98, 98, 62, 98]⟩, .string ⟨#[50, 32, 97, 97, 62, 46, 32, 98, 98, 98, 62, 46, 32, 97, 98, 98, 62, 98, 97, 32, 97, 98, 97, 62, 98, 98, 32, 98, 97, 98, 62, 97, 32, 98, 98, 97, 62, 97, 98]⟩, .string ⟨#[49, 32, 97, 97, 97, 97, 62, 97, 97]⟩, .string ⟨#[50, 32, 97, 97, 62, 98]⟩, .string ⟨#[50, 32, 98, 97, 62, 97, 98, 32, 98, 98, 62, 98]⟩, .string ⟨#[51, 32, 98, 97, 62, 97, 98, 32, 99, 97, 62, 97, 99, 32, 99, 98, 62, 98, 99]⟩]
      have hne : w3.heap.size ≠ P := by (have := HD3.out.src.cur.lt); omega
      with_reducible refine (Src.str (k := 11) (l := drawL) (HD3.out.below hal).src hbk hne rfl (by omega) (by omega)).mono ?_
      rintro e w4 ⟨t, ht, rfl, hs4, hg4⟩
      have hD4 := (HD3.out.below hal).next hs4 hg4
      have hts := drawL_small t ht
      clear hal hbk hne hs4 hg4 HD3 ht c0 c1 f0 f1 lb s0 s1 sf0 sf1 sl
      have c0 : w4.cell? ⟨w.heap.size, 0, none⟩ = some (.int .i64 0) := by rw [hD4.bkR.cell]; rfl
      have c1 : w4.cell? ⟨w.heap.size, 1, none⟩ = some (.slice none 0 0) := by rw [hD4.bkR.cell]; rfl
      have f0 := hD4.bkR.free 0
      have f1 := hD4.bkR.free 1
      have lb := hD4.bkR.lt
      have s0 : w4.cell? ⟨w.heap.size + 1, 0, none⟩ = some (.int .i64 2) := by rw [hD4.bkS.cell]; rfl
      have s1 : w4.cell? ⟨w.heap.size + 1, 1, none⟩ = some (.slice none 0 0) := by rw [hD4.bkS.cell]; rfl
      have sf0 := hD4.bkS.free 0
      have sf1 := hD4.bkS.free 1
      have sl := hD4.bkS.lt
      have HD4 := Lib.hid hD4
      clear hD4
      go_wp2_with fail
      with_reducible refine (specParseSystem_any t _ (by omega)).mono ?_
      rintro e w6 ⟨l6, B6, k6, d6, rs6, ok, hl6, hk6, hkn, hz6, rfl, hO6, b6⟩
      have hD6 := HD4.out.below b6
      have hlt4 := HD4.out.bkS.lt
      clear b6 HD4 c0 c1 f0 f1 lb s0 s1 sf0 sf1 sl
      have c0 : w6.cell? ⟨w.heap.size, 0, none⟩ = some (.int .i64 0) := by rw [hD6.bkR.cell]; rfl
      have c1 : w6.cell? ⟨w.heap.size, 1, none⟩ = some (.slice none 0 0) := by rw [hD6.bkR.cell]; rfl
      have f0 := hD6.bkR.free 0
      have f1 := hD6.bkR.free 1
      have lb := hD6.bkR.lt
      have s0 : w6.cell? ⟨w.heap.size + 1, 0, none⟩ = some (.int .i64 2) := by rw [hD6.bkS.cell]; rfl
      have s1 : w6.cell? ⟨w.heap.size + 1, 1, none⟩ = some (.slice none 0 0) := by rw [hD6.bkS.cell]; rfl
      have sf0 := hD6.bkS.free 0
      have sf1 := hD6.bkS.free 1
      have sl := hD6.bkS.lt
      cases ok
      · have hDt := hD6.below ((Below.refl _ _).alloc (Nat.le_refl _) (.cells #[.int .i64 l6, .slice B6 k6 d6] 25))
        have HD6 := Lib.hid hD6
        clear hD6
        have Hk6 := Lib.hid hk6
        clear hk6
        have Hz6 := Lib.hid hz6
        clear hz6
        have HO6 := Lib.hid hO6
        clear hO6
        have HDt := Lib.hid hDt
        clear hDt
        go_wp2_with fail
        with_reducible refine (HDt.out.src.underI 4 4 rfl (by omega) (by omega)).mono ?_
        rintro e w5 ⟨x, hx, rfl, hs5, hg5⟩
        have hD5 := HDt.out.next hs5 hg5
        clear hs5 hg5 HDt c0 c1 f0 f1 lb s0 s1 sf0 sf1 sl
        have c0 : w5.cell? ⟨w.heap.size, 0, none⟩ = some (.int .i64 0) := by rw [hD5.bkR.cell]; rfl
        have c1 : w5.cell? ⟨w.heap.size, 1, none⟩ = some (.slice none 0 0) := by rw [hD5.bkR.cell]; rfl
        have f0 := hD5.bkR.free 0
        have f1 := hD5.bkR.free 1
        have lb := hD5.bkR.lt
        have s0 : w5.cell? ⟨w.heap.size + 1, 0, none⟩ = some (.int .i64 2) := by rw [hD5.bkS.cell]; rfl
        have s1 : w5.cell? ⟨w.heap.size + 1, 1, none⟩ = some (.slice none 0 0) := by rw [hD5.bkS.cell]; rfl
        have sf0 := hD5.bkS.free 0
        have sf1 := hD5.bkS.free 1
        have sl := hD5.bkS.lt
        have HD5 := Lib.hid hD5
        clear hD5
        go_wp2_with fail
        go_loopw [6] (fun i wr => ∃ (j : Nat) (B : Option Addr) (k d : Nat) (rs : List RuleT), i = .int .i64 j ∧ j + k ≤ 3 ∧ Hid (∀ r ∈ rs, ruleOk 2 r = true ∧ fallsOk r = true) ∧ Hid (DrSt w wr P A n c zs 2 B k d rs)) (fun i _ => (intOf i).toNat)
        case atStart => exact ⟨x, none, 0, 0, [], rfl, by omega, Lib.hid (by simp), HD5⟩
        case round =>
          clear HD5 c0 c1 f0 f1 lb s0 s1 sf0 sf1 sl
          obtain ⟨j, B, k, d, rs, rfl, hjk, HG, HD6⟩ := hrel
          have hD6 := HD6.out
          have c0 : wr.cell? ⟨w.heap.size, 0, none⟩ = some (.int .i64 0) := by rw [hD6.bkR.cell]; rfl
          have c1 : wr.cell? ⟨w.heap.size, 1, none⟩ = some (.slice none 0 0) := by rw [hD6.bkR.cell]; rfl
          have f0 := hD6.bkR.free 0
          have f1 := hD6.bkR.free 1
          have lb := hD6.bkR.lt
          have s0 : wr.cell? ⟨w.heap.size + 1, 0, none⟩ = some (.int .i64 2) := by rw [hD6.bkS.cell]; rfl
          have s1 : wr.cell? ⟨w.heap.size + 1, 1, none⟩ = some (.slice B k d) := by rw [hD6.bkS.cell]; rfl
          have sf0 := hD6.bkS.free 0
          have sf1 := hD6.bkS.free 1
          have sl := hD6.bkS.lt
          by_cases hlt : 0 < j
          · have lPr := hD6.lP
            go_wp2_with fail
            refine wp_region_held_drew (S := (fun W => W.cell? ⟨w.heap.size + 1, 0, none⟩ = some (.int .i64 2))) (by kernel_rfl) ((by (have hq := hD6.bkS.drew); rw [hq.cell]; rfl)) (fun hHeld => ?_)
            obtain ⟨y0_, hy0⟩ : ∃ z, z = World.drew wr := ⟨_, rfl⟩
            have hD0_ : DrSt w (World.drew wr) P A n c zs 2 B k d rs := hD6.next hD6.src.drew gb_drew
            rw [← hy0] at hD0_
            rw [← hy0] at hHeld
            rw [← hy0]
            clear hy0
            refine wpAnyH_take (i := 0) (oi := ?oi727) (v := ?val727) ?hi727 ?hs727 ?hf727 ?hr727 ?hQ727 ?hy727 ?hS727 ?hrest727
            case hi727 => (simp only [List.getElem?_toArray, List.getElem?_cons_succ, List.getElem?_cons_zero] <;> exact rfl)
            case hs727 => kernel_rfl
            case hf727 => kernel_rfl
            case hr727 => kernel_rfl
            case hQ727 => exact fun _ _ _ h => h
            case hS727 => assumption
            case hy727 => (refine Or.inl ⟨by rfl, ?_⟩; intro w hSw; (try dsimp only at hSw); go_simp; try with_reducible rfl)
            simp only [Act.put, List.setIfInBounds_toArray, List.set_cons_zero, List.set_cons_succ]
            refine wpAnyH_take (i := 1) (oi := ?oi736) (v := ?val736) ?hi736 ?hs736 ?hf736 ?hr736 ?hQ736 ?hy736 ?hS736 ?hrest736
            case hi736 => (simp only [List.getElem?_toArray, List.getElem?_cons_succ, List.getElem?_cons_zero] <;> exact rfl)
            case hs736 => kernel_rfl
            case hf736 => kernel_rfl
            case hr736 => kernel_rfl
            case hQ736 => exact fun _ _ _ h => h
            case hS736 => assumption
            case hy736 => (refine Or.inl ⟨by rfl, ?_⟩; intro w hSw; (try dsimp only at hSw); go_simp; try with_reducible rfl)
            simp only [Act.put, List.setIfInBounds_toArray, List.set_cons_zero, List.set_cons_succ]
            refine wpAnyH_take (i := 2) (oi := ?oi745) (v := ?val745) ?hi745 ?hs745 ?hf745 ?hr745 ?hQ745 ?hy745 ?hS745 ?hrest745
            case hi745 => (simp only [List.getElem?_toArray, List.getElem?_cons_succ, List.getElem?_cons_zero] <;> exact rfl)
            case hs745 => kernel_rfl
            case hf745 => kernel_rfl
            case hr745 => kernel_rfl
            case hQ745 => exact fun _ _ _ h => h
            case hS745 => assumption
            case hy745 => (refine Or.inl ⟨by rfl, ?_⟩; intro w hSw; (try dsimp only at hSw); go_simp; try with_reducible rfl)
            simp only [Act.put, List.setIfInBounds_toArray, List.set_cons_zero, List.set_cons_succ]
            refine wpAnyH_take (i := 3) (oi := ?oi754) (v := ?val754) ?hi754 ?hs754 ?hf754 ?hr754 ?hQ754 ?hy754 ?hS754 ?hrest754
            case hi754 => (simp only [List.getElem?_toArray, List.getElem?_cons_succ, List.getElem?_cons_zero] <;> exact rfl)
            case hs754 => kernel_rfl
            case hf754 => kernel_rfl
            case hr754 => kernel_rfl
            case hQ754 => exact fun _ _ _ h => h
            case hS754 => assumption
            case hy754 => (refine Or.inl ⟨by rfl, ?_⟩; intro w hSw; (try dsimp only at hSw); go_simp; try with_reducible rfl)
            simp only [Act.put, List.setIfInBounds_toArray, List.set_cons_zero, List.set_cons_succ]
            refine wpAnyH_take (i := 4) (oi := ?oi763) (v := ?val763) ?hi763 ?hs763 ?hf763 ?hr763 ?hQ763 ?hy763 ?hS763 ?hrest763
            case hi763 => (simp only [List.getElem?_toArray, List.getElem?_cons_succ, List.getElem?_cons_zero] <;> exact rfl)
            case hs763 => kernel_rfl
            case hf763 => kernel_rfl
            case hr763 => kernel_rfl
            case hQ763 => exact fun _ _ _ h => h
            case hS763 => assumption
            case hy763 => (refine Or.inl ⟨by rfl, ?_⟩; intro w hSw; (try dsimp only at hSw); go_simp; try with_reducible rfl)
            simp only [Act.put, List.setIfInBounds_toArray, List.set_cons_zero, List.set_cons_succ]
            refine wpAnyH_take (i := 6) (oi := ?oi772) (v := ?val772) ?hi772 ?hs772 ?hf772 ?hr772 ?hQ772 ?hy772 ?hS772 ?hrest772
            case hi772 => (simp only [List.getElem?_toArray, List.getElem?_cons_succ, List.getElem?_cons_zero] <;> exact rfl)
            case hs772 => kernel_rfl
            case hf772 => kernel_rfl
            case hr772 => kernel_rfl
            case hQ772 => exact fun _ _ _ h => h
            case hS772 => assumption
            case hy772 => (refine Or.inl ⟨by rfl, ?_⟩; intro w hSw; (try dsimp only at hSw); go_simp; try with_reducible rfl)
            simp only [Act.put, List.setIfInBounds_toArray, List.set_cons_zero, List.set_cons_succ]
            refine wpAnyH_take (i := 7) (oi := ?oi781) (v := ?val781) ?hi781 ?hs781 ?hf781 ?hr781 ?hQ781 ?hy781 ?hS781 ?hrest781
            case hi781 => (simp only [List.getElem?_toArray, List.getElem?_cons_succ, List.getElem?_cons_zero] <;> exact rfl)
            case hs781 => kernel_rfl
            case hf781 => kernel_rfl
            case hr781 => kernel_rfl
            case hQ781 => exact fun _ _ _ h => h
            case hS781 => assumption
            case hy781 => (refine Or.inl ⟨by rfl, ?_⟩; intro w hSw; (try dsimp only at hSw); go_simp; try with_reducible rfl)
            simp only [Act.put, List.setIfInBounds_toArray, List.set_cons_zero, List.set_cons_succ]
            refine wpAnyH_take (i := 8) (oi := ?oi790) (v := ?val790) ?hi790 ?hs790 ?hf790 ?hr790 ?hQ790 ?hy790 ?hS790 ?hrest790
            case hi790 => (simp only [List.getElem?_toArray, List.getElem?_cons_succ, List.getElem?_cons_zero] <;> exact rfl)
            case hs790 => kernel_rfl
            case hf790 => kernel_rfl
            case hr790 => kernel_rfl
            case hQ790 => exact fun _ _ _ h => h
            case hS790 => assumption
            case hy790 => (refine Or.inl ⟨by rfl, ?_⟩; intro w hSw; (try dsimp only at hSw); go_simp; try with_reducible rfl)
            simp only [Act.put, List.setIfInBounds_toArray, List.set_cons_zero, List.set_cons_succ]
            apply meetD (F := fun u v r y => DrSt w y P A n c zs 2 B k d rs ∧ Bk y r 68 #[.string ⟨#[]⟩, .string ⟨#[]⟩] ∧ w.heap.size + 2 ≤ r ∧ (Value.slice B k d).ownBlock ≠ some r ∧ u.size ≤ 4 ∧ lettersOk ((2 : Nat) : Int) u = true ∧ v.size ≤ 3 ∧ lettersOk ((2 : Nat) : Int) v = true)
            · intro hkey
              refine wpAnyH_ready (rs := [5, 15]) (by kernel_rfl) (by simp) ?_
              refine AllReadyH.cons rfl (fun K hK => ?_) (AllReadyH.cons rfl (fun K hK => ?_) AllReadyH.nil)
              · skip
                go_simp
                with_reducible refine (hD0_.src.wordI 2 4 2 4 (by omega) rfl (by omega) (by omega) (by omega)).mono ?_
                rintro e y78_ ⟨u79_, hu80_, hl81_, rfl, hs82_, hg83_⟩
                have hD84_ := hD0_.next hs82_ hg83_
                refine hK.out _ _ (by rw [hD84_.bkS.cell]; rfl) (fun hHeld => ?_)
                clear hK K
                first | simp only [Act.put, List.setIfInBounds_toArray, List.set_cons_zero, List.set_cons_succ] | skip
                refine wpAnyH_ready (rs := [9, 15]) (by kernel_rfl) (by simp) ?_
                refine AllReadyH.cons rfl (fun K hK => ?_) (AllReadyH.cons rfl (fun K hK => ?_) AllReadyH.nil)
                · skip
                  go_simp
                  with_reducible refine (hD84_.src.wordI 2 3 2 3 (by omega) rfl (by omega) (by omega) (by omega)).mono ?_
                  rintro e y85_ ⟨u86_, hu87_, hl88_, rfl, hs89_, hg90_⟩
                  have hD91_ := hD84_.next hs89_ hg90_
                  refine hK.out _ _ (by rw [hD91_.bkS.cell]; rfl) (fun hHeld => ?_)
                  clear hK K
                  first | simp only [Act.put, List.setIfInBounds_toArray, List.set_cons_zero, List.set_cons_succ] | skip
                  refine wpAnyH_take (i := 10) (oi := ?oi821) (v := ?val821) ?hi821 ?hs821 ?hf821 ?hr821 ?hQ821 ?hy821 ?hS821 ?hrest821
                  case hi821 => (simp only [List.getElem?_toArray, List.getElem?_cons_succ, List.getElem?_cons_zero] <;> exact rfl)
                  case hs821 => kernel_rfl
                  case hf821 => kernel_rfl
                  case hr821 => kernel_rfl
                  case hQ821 => exact fun _ _ _ h => h
                  case hS821 => assumption
                  case hy821 => (refine Or.inl ⟨by rfl, ?_⟩; intro w hSw; (try dsimp only at hSw); go_simp; try with_reducible rfl)
                  simp only [Act.put, List.setIfInBounds_toArray, List.set_cons_zero, List.set_cons_succ]
                  refine wpAnyH_ready (rs := [11, 15]) (by kernel_rfl) (by simp) ?_
                  refine AllReadyH.cons rfl (fun K hK => ?_) (AllReadyH.cons rfl (fun K hK => ?_) AllReadyH.nil)
                  · skip
                    go_simp
                    with_reducible refine (orient_any 2 u79_ u86_ _ (by omega) (by omega)).mono ?_
                    rintro e y92_ ⟨rfl, b93_⟩
                    have hD94_ := hD91_.below b93_
                    refine hK.out _ _ (by rw [hD94_.bkS.cell]; rfl) (fun hHeld => ?_)
                    clear hK K
                    first | simp only [Act.put, List.setIfInBounds_toArray, List.set_cons_zero, List.set_cons_succ] | skip
                    refine wpAnyH_take (i := 12) (oi := ?oi840) (v := ?val840) ?hi840 ?hs840 ?hf840 ?hr840 ?hQ840 ?hy840 ?hS840 ?hrest840
                    case hi840 => (simp only [List.getElem?_toArray, List.getElem?_cons_succ, List.getElem?_cons_zero] <;> exact rfl)
                    case hs840 => kernel_rfl
                    case hf840 => kernel_rfl
                    case hr840 => kernel_rfl
                    case hQ840 => exact fun _ _ _ h => h
                    case hS840 => assumption
                    case hy840 => (refine Or.inl ⟨by rfl, ?_⟩; intro w hSw; (try dsimp only at hSw); go_simp; try with_reducible rfl)
                    simp only [Act.put, List.setIfInBounds_toArray, List.set_cons_zero, List.set_cons_succ]
                    refine wpAnyH_take (i := 13) (oi := ?oi849) (v := ?val849) ?hi849 ?hs849 ?hf849 ?hr849 ?hQ849 ?hy849 ?hS849 ?hrest849
                    case hi849 => (simp only [List.getElem?_toArray, List.getElem?_cons_succ, List.getElem?_cons_zero] <;> exact rfl)
                    case hs849 => kernel_rfl
                    case hf849 => kernel_rfl
                    case hr849 => kernel_rfl
                    case hQ849 => exact fun _ _ _ h => h
                    case hS849 => assumption
                    case hy849 => (refine Or.inl ⟨by rfl, ?_⟩; intro w hSw; (try dsimp only at hSw); go_simp; try with_reducible rfl)
                    simp only [Act.put, List.setIfInBounds_toArray, List.set_cons_zero, List.set_cons_succ]
                    refine wpAnyH_take (i := 14) (oi := ?oi858) (v := ?val858) ?hi858 ?hs858 ?hf858 ?hr858 ?hQ858 ?hy858 ?hS858 ?hrest858
                    case hi858 => (simp only [List.getElem?_toArray, List.getElem?_cons_succ, List.getElem?_cons_zero] <;> exact rfl)
                    case hs858 => kernel_rfl
                    case hf858 => kernel_rfl
                    case hr858 => kernel_rfl
                    case hQ858 => exact fun _ _ _ h => h
                    case hS858 => assumption
                    case hy858 => (refine Or.inl ⟨by rfl, ?_⟩; intro w hSw; (try dsimp only at hSw); go_simp; try with_reducible rfl)
                    simp only [Act.put, List.setIfInBounds_toArray, List.set_cons_zero, List.set_cons_succ]
                    refine wpAnyH_ready (rs := [15]) (by kernel_rfl) (by simp) ?_
                    refine AllReadyH.cons rfl (fun K hK => ?_) AllReadyH.nil
                    go_simp
                    have hD96_ := hD94_.below ((Below.refl _ _).alloc (Nat.le_refl _) (.cells #[.string ⟨#[]⟩, .string ⟨#[]⟩] 68))
                    have bk98_ := Bk.new y92_ 68 #[.string ⟨#[]⟩, .string ⟨#[]⟩]
                    have le99_ : w.heap.size + 2 ≤ (World.heap y92_).size := hD94_.bkS.lt
                    have nb100_ := own_new_ne3 hD94_.own (Nat.le_refl _)
                    refine hK.out _ _ (by rw [hD96_.bkS.cell]; rfl) (fun hHeld => ?_)
                    clear hK K
                    first | simp only [Act.put, List.setIfInBounds_toArray, List.set_cons_zero, List.set_cons_succ] | skip
                    obtain ⟨y95_, hy⟩ : ∃ z, z = World.alloc y92_ (.cells #[.string ⟨#[]⟩, .string ⟨#[]⟩] 68) := ⟨_, rfl⟩
                    obtain ⟨r97_, hb⟩ : ∃ z, z = (World.heap y92_).size := ⟨_, rfl⟩
                    rw [← hy] at bk98_ hD96_
                    rw [← hb] at bk98_ le99_ nb100_
                    rw [← hy, ← hb]
                    clear hHeld
                    have hHeld : y95_.cell? ⟨w.heap.size + 1, 0, none⟩ = some (.int .i64 2) := by rw [hD96_.bkS.cell]; rfl
                    clear hy hb
                    exact hkey u79_ u86_ r97_ y95_ ⟨hD96_, bk98_, le99_, nb100_, hu80_, hl81_, hu87_, hl88_⟩
                  · skip
                    go_simp
                    have hD102_ := hD91_.below ((Below.refl _ _).alloc (Nat.le_refl _) (.cells #[.string ⟨#[]⟩, .string ⟨#[]⟩] 68))
                    have bk104_ := Bk.new y85_ 68 #[.string ⟨#[]⟩, .string ⟨#[]⟩]
                    have le105_ : w.heap.size + 2 ≤ (World.heap y85_).size := hD91_.bkS.lt
                    have nb106_ := own_new_ne3 hD91_.own (Nat.le_refl _)
                    refine hK.out _ _ (by rw [hD102_.bkS.cell]; rfl) (fun hHeld => ?_)
                    clear hK K
                    first | simp only [Act.put, List.setIfInBounds_toArray, List.set_cons_zero, List.set_cons_succ] | skip
                    obtain ⟨y101_, hy⟩ : ∃ z, z = World.alloc y85_ (.cells #[.string ⟨#[]⟩, .string ⟨#[]⟩] 68) := ⟨_, rfl⟩
                    obtain ⟨r103_, hb⟩ : ∃ z, z = (World.heap y85_).size := ⟨_, rfl⟩
                    rw [← hy] at bk104_ hD102_
                    rw [← hb] at bk104_ le105_ nb106_
                    rw [← hy, ← hb]
                    clear hHeld
                    have hHeld : y101_.cell? ⟨w.heap.size + 1, 0, none⟩ = some (.int .i64 2) := by rw [hD102_.bkS.cell]; rfl
                    clear hy hb
                    refine wpAnyH_ready (rs := [11]) (by kernel_rfl) (by simp) ?_
                    refine AllReadyH.cons rfl (fun K hK => ?_) AllReadyH.nil
                    go_simp
                    with_reducible refine (orient_any 2 u79_ u86_ _ (by omega) (by omega)).mono ?_
                    rintro e y107_ ⟨rfl, b108_⟩
                    have hD109_ := hD102_.below b108_
                    have bk110_ := bk104_.below b108_ bk104_.lt
                    refine hK.out _ _ (by rw [hD109_.bkS.cell]; rfl) (fun hHeld => ?_)
                    clear hK K
                    first | simp only [Act.put, List.setIfInBounds_toArray, List.set_cons_zero, List.set_cons_succ] | skip
                    refine wpAnyH_take (i := 12) (oi := ?oi913) (v := ?val913) ?hi913 ?hs913 ?hf913 ?hr913 ?hQ913 ?hy913 ?hS913 ?hrest913
                    case hi913 => (simp only [List.getElem?_toArray, List.getElem?_cons_succ, List.getElem?_cons_zero] <;> exact rfl)
                    case hs913 => kernel_rfl
                    case hf913 => kernel_rfl
                    case hr913 => kernel_rfl
                    case hQ913 => exact fun _ _ _ h => h
                    case hS913 => assumption
                    case hy913 => (refine Or.inl ⟨by rfl, ?_⟩; intro w hSw; (try dsimp only at hSw); go_simp; try with_reducible rfl)
                    simp only [Act.put, List.setIfInBounds_toArray, List.set_cons_zero, List.set_cons_succ]
                    refine wpAnyH_take (i := 13) (oi := ?oi922) (v := ?val922) ?hi922 ?hs922 ?hf922 ?hr922 ?hQ922 ?hy922 ?hS922 ?hrest922
                    case hi922 => (simp only [List.getElem?_toArray, List.getElem?_cons_succ, List.getElem?_cons_zero] <;> exact rfl)
                    case hs922 => kernel_rfl
                    case hf922 => kernel_rfl
                    case hr922 => kernel_rfl
                    case hQ922 => exact fun _ _ _ h => h
                    case hS922 => assumption
                    case hy922 => (refine Or.inl ⟨by rfl, ?_⟩; intro w hSw; (try dsimp only at hSw); go_simp; try with_reducible rfl)
                    simp only [Act.put, List.setIfInBounds_toArray, List.set_cons_zero, List.set_cons_succ]
                    refine wpAnyH_take (i := 14) (oi := ?oi931) (v := ?val931) ?hi931 ?hs931 ?hf931 ?hr931 ?hQ931 ?hy931 ?hS931 ?hrest931
                    case hi931 => (simp only [List.getElem?_toArray, List.getElem?_cons_succ, List.getElem?_cons_zero] <;> exact rfl)
                    case hs931 => kernel_rfl
                    case hf931 => kernel_rfl
                    case hr931 => kernel_rfl
                    case hQ931 => exact fun _ _ _ h => h
                    case hS931 => assumption
                    case hy931 => (refine Or.inl ⟨by rfl, ?_⟩; intro w hSw; (try dsimp only at hSw); go_simp; try with_reducible rfl)
                    simp only [Act.put, List.setIfInBounds_toArray, List.set_cons_zero, List.set_cons_succ]
                    exact hkey u79_ u86_ r103_ y107_ ⟨hD109_, bk110_, le105_, nb106_, hu80_, hl81_, hu87_, hl88_⟩
                · skip
                  go_simp
                  have hD112_ := hD84_.below ((Below.refl _ _).alloc (Nat.le_refl _) (.cells #[.string ⟨#[]⟩, .string ⟨#[]⟩] 68))
                  have bk114_ := Bk.new y78_ 68 #[.string ⟨#[]⟩, .string ⟨#[]⟩]
                  have le115_ : w.heap.size + 2 ≤ (World.heap y78_).size := hD84_.bkS.lt
                  have nb116_ := own_new_ne3 hD84_.own (Nat.le_refl _)
                  refine hK.out _ _ (by rw [hD112_.bkS.cell]; rfl) (fun hHeld => ?_)
                  clear hK K
                  first | simp only [Act.put, List.setIfInBounds_toArray, List.set_cons_zero, List.set_cons_succ] | skip
                  obtain ⟨y111_, hy⟩ : ∃ z, z = World.alloc y78_ (.cells #[.string ⟨#[]⟩, .string ⟨#[]⟩] 68) := ⟨_, rfl⟩
                  obtain ⟨r113_, hb⟩ : ∃ z, z = (World.heap y78_).size := ⟨_, rfl⟩
                  rw [← hy] at bk114_ hD112_
                  rw [← hb] at bk114_ le115_ nb116_
                  rw [← hy, ← hb]
                  clear hHeld
                  have hHeld : y111_.cell? ⟨w.heap.size + 1, 0, none⟩ = some (.int .i64 2) := by rw [hD112_.bkS.cell]; rfl
                  clear hy hb
                  refine wpAnyH_ready (rs := [9]) (by kernel_rfl) (by simp) ?_
                  refine AllReadyH.cons rfl (fun K hK => ?_) AllReadyH.nil
                  go_simp
                  with_reducible refine (hD112_.src.wordI 2 3 2 3 (by omega) rfl (by omega) (by omega) (by omega)).mono ?_
                  rintro e y117_ ⟨u118_, hu119_, hl120_, rfl, hs121_, hg122_⟩
                  have hD123_ := hD112_.next hs121_ hg122_
                  have bk124_ := bk114_.grown hg122_ (by intro e; injection e with e; omega)
                  refine hK.out _ _ (by rw [hD123_.bkS.cell]; rfl) (fun hHeld => ?_)
                  clear hK K
                  first | simp only [Act.put, List.setIfInBounds_toArray, List.set_cons_zero, List.set_cons_succ] | skip
                  refine wpAnyH_take (i := 10) (oi := ?oi968) (v := ?val968) ?hi968 ?hs968 ?hf968 ?hr968 ?hQ968 ?hy968 ?hS968 ?hrest968
                  case hi968 => (simp only [List.getElem?_toArray, List.getElem?_cons_succ, List.getElem?_cons_zero] <;> exact rfl)
                  case hs968 => kernel_rfl
                  case hf968 => kernel_rfl
                  case hr968 => kernel_rfl
                  case hQ968 => exact fun _ _ _ h => h
                  case hS968 => assumption
                  case hy968 => (refine Or.inl ⟨by rfl, ?_⟩; intro w hSw; (try dsimp only at hSw); go_simp; try with_reducible rfl)
                  simp only [Act.put, List.setIfInBounds_toArray, List.set_cons_zero, List.set_cons_succ]
                  refine wpAnyH_ready (rs := [11]) (by kernel_rfl) (by simp) ?_
                  refine AllReadyH.cons rfl (fun K hK => ?_) AllReadyH.nil
                  go_simp
                  with_reducible refine (orient_any 2 u79_ u118_ _ (by omega) (by omega)).mono ?_
                  rintro e y125_ ⟨rfl, b126_⟩
                  have hD127_ := hD123_.below b126_
                  have bk128_ := bk124_.below b126_ bk124_.lt
                  refine hK.out _ _ (by rw [hD127_.bkS.cell]; rfl) (fun hHeld => ?_)
                  clear hK K
                  first | simp only [Act.put, List.setIfInBounds_toArray, List.set_cons_zero, List.set_cons_succ] | skip
                  refine wpAnyH_take (i := 12) (oi := ?oi987) (v := ?val987) ?hi987 ?hs987 ?hf987 ?hr987 ?hQ987 ?hy987 ?hS987 ?hrest987
                  case hi987 => (simp only [List.getElem?_toArray, List.getElem?_cons_succ, List.getElem?_cons_zero] <;> exact rfl)
                  case hs987 => kernel_rfl
                  case hf987 => kernel_rfl
                  case hr987 => kernel_rfl
                  case hQ987 => exact fun _ _ _ h => h
                  case hS987 => assumption
                  case hy987 => (refine Or.inl ⟨by rfl, ?_⟩; intro w hSw; (try dsimp only at hSw); go_simp; try with_reducible rfl)
                  simp only [Act.put, List.setIfInBounds_toArray, List.set_cons_zero, List.set_cons_succ]
                  refine wpAnyH_take (i := 13) (oi := ?oi996) (v := ?val996) ?hi996 ?hs996 ?hf996 ?hr996 ?hQ996 ?hy996 ?hS996 ?hrest996
                  case hi996 => (simp only [List.getElem?_toArray, List.getElem?_cons_succ, List.getElem?_cons_zero] <;> exact rfl)
                  case hs996 => kernel_rfl
                  case hf996 => kernel_rfl
                  case hr996 => kernel_rfl
                  case hQ996 => exact fun _ _ _ h => h
                  case hS996 => assumption
                  case hy996 => (refine Or.inl ⟨by rfl, ?_⟩; intro w hSw; (try dsimp only at hSw); go_simp; try with_reducible rfl)
                  simp only [Act.put, List.setIfInBounds_toArray, List.set_cons_zero, List.set_cons_succ]
                  refine wpAnyH_take (i := 14) (oi := ?oi1005) (v := ?val1005) ?hi1005 ?hs1005 ?hf1005 ?hr1005 ?hQ1005 ?hy1005 ?hS1005 ?hrest1005
                  case hi1005 => (simp only [List.getElem?_toArray, List.getElem?_cons_succ, List.getElem?_cons_zero] <;> exact rfl)
                  case hs1005 => kernel_rfl
                  case hf1005 => kernel_rfl
                  case hr1005 => kernel_rfl
                  case hQ1005 => exact fun _ _ _ h => h
                  case hS1005 => assumption
                  case hy1005 => (refine Or.inl ⟨by rfl, ?_⟩; intro w hSw; (try dsimp only at hSw); go_simp; try with_reducible rfl)
                  simp only [Act.put, List.setIfInBounds_toArray, List.set_cons_zero, List.set_cons_succ]
                  exact hkey u79_ u118_ r113_ y125_ ⟨hD127_, bk128_, le115_, nb116_, hu80_, hl81_, hu119_, hl120_⟩
              · skip
                go_simp
                have hD130_ := hD0_.below ((Below.refl _ _).alloc (Nat.le_refl _) (.cells #[.string ⟨#[]⟩, .string ⟨#[]⟩] 68))
                have bk132_ := Bk.new y0_ 68 #[.string ⟨#[]⟩, .string ⟨#[]⟩]
                have le133_ : w.heap.size + 2 ≤ (World.heap y0_).size := hD0_.bkS.lt
                have nb134_ := own_new_ne3 hD0_.own (Nat.le_refl _)
                refine hK.out _ _ (by rw [hD130_.bkS.cell]; rfl) (fun hHeld => ?_)
                clear hK K
                first | simp only [Act.put, List.setIfInBounds_toArray, List.set_cons_zero, List.set_cons_succ] | skip
                obtain ⟨y129_, hy⟩ : ∃ z, z = World.alloc y0_ (.cells #[.string ⟨#[]⟩, .string ⟨#[]⟩] 68) := ⟨_, rfl⟩
                obtain ⟨r131_, hb⟩ : ∃ z, z = (World.heap y0_).size := ⟨_, rfl⟩
                rw [← hy] at bk132_ hD130_
                rw [← hb] at bk132_ le133_ nb134_
                rw [← hy, ← hb]
                clear hHeld
                have hHeld : y129_.cell? ⟨w.heap.size + 1, 0, none⟩ = some (.int .i64 2) := by rw [hD130_.bkS.cell]; rfl
                clear hy hb
                refine wpAnyH_ready (rs := [5]) (by kernel_rfl) (by simp) ?_
                refine AllReadyH.cons rfl (fun K hK => ?_) AllReadyH.nil
                go_simp
                with_reducible refine (hD130_.src.wordI 2 4 2 4 (by omega) rfl (by omega) (by omega) (by omega)).mono ?_
                rintro e y135_ ⟨u136_, hu137_, hl138_, rfl, hs139_, hg140_⟩
                have hD141_ := hD130_.next hs139_ hg140_
                have bk142_ := bk132_.grown hg140_ (by intro e; injection e with e; omega)
                refine hK.out _ _ (by rw [hD141_.bkS.cell]; rfl) (fun hHeld => ?_)
                clear hK K
                first | simp only [Act.put, List.setIfInBounds_toArray, List.set_cons_zero, List.set_cons_succ] | skip
                refine wpAnyH_ready (rs := [9]) (by kernel_rfl) (by simp) ?_
                refine AllReadyH.cons rfl (fun K hK => ?_) AllReadyH.nil
                go_simp
                with_reducible refine (hD141_.src.wordI 2 3 2 3 (by omega) rfl (by omega) (by omega) (by omega)).mono ?_
                rintro e y143_ ⟨u144_, hu145_, hl146_, rfl, hs147_, hg148_⟩
                have hD149_ := hD141_.next hs147_ hg148_
                have bk150_ := bk142_.grown hg148_ (by intro e; injection e with e; omega)
                refine hK.out _ _ (by rw [hD149_.bkS.cell]; rfl) (fun hHeld => ?_)
                clear hK K
                first | simp only [Act.put, List.setIfInBounds_toArray, List.set_cons_zero, List.set_cons_succ] | skip
                refine wpAnyH_take (i := 10) (oi := ?oi1052) (v := ?val1052) ?hi1052 ?hs1052 ?hf1052 ?hr1052 ?hQ1052 ?hy1052 ?hS1052 ?hrest1052
                case hi1052 => (simp only [List.getElem?_toArray, List.getElem?_cons_succ, List.getElem?_cons_zero] <;> exact rfl)
                case hs1052 => kernel_rfl
                case hf1052 => kernel_rfl
                case hr1052 => kernel_rfl
                case hQ1052 => exact fun _ _ _ h => h
                case hS1052 => assumption
                case hy1052 => (refine Or.inl ⟨by rfl, ?_⟩; intro w hSw; (try dsimp only at hSw); go_simp; try with_reducible rfl)
                simp only [Act.put, List.setIfInBounds_toArray, List.set_cons_zero, List.set_cons_succ]
                refine wpAnyH_ready (rs := [11]) (by kernel_rfl) (by simp) ?_
                refine AllReadyH.cons rfl (fun K hK => ?_) AllReadyH.nil
                go_simp
                with_reducible refine (orient_any 2 u136_ u144_ _ (by omega) (by omega)).mono ?_
                rintro e y151_ ⟨rfl, b152_⟩
                have hD153_ := hD149_.below b152_
                have bk154_ := bk150_.below b152_ bk150_.lt
                refine hK.out _ _ (by rw [hD153_.bkS.cell]; rfl) (fun hHeld => ?_)
                clear hK K
                first | simp only [Act.put, List.setIfInBounds_toArray, List.set_cons_zero, List.set_cons_succ] | skip
                refine wpAnyH_take (i := 12) (oi := ?oi1071) (v := ?val1071) ?hi1071 ?hs1071 ?hf1071 ?hr1071 ?hQ1071 ?hy1071 ?hS1071 ?hrest1071
                case hi1071 => (simp only [List.getElem?_toArray, List.getElem?_cons_succ, List.getElem?_cons_zero] <;> exact rfl)
                case hs1071 => kernel_rfl
                case hf1071 => kernel_rfl
                case hr1071 => kernel_rfl
                case hQ1071 => exact fun _ _ _ h => h
                case hS1071 => assumption
                case hy1071 => (refine Or.inl ⟨by rfl, ?_⟩; intro w hSw; (try dsimp only at hSw); go_simp; try with_reducible rfl)
                simp only [Act.put, List.setIfInBounds_toArray, List.set_cons_zero, List.set_cons_succ]
                refine wpAnyH_take (i := 13) (oi := ?oi1080) (v := ?val1080) ?hi1080 ?hs1080 ?hf1080 ?hr1080 ?hQ1080 ?hy1080 ?hS1080 ?hrest1080
                case hi1080 => (simp only [List.getElem?_toArray, List.getElem?_cons_succ, List.getElem?_cons_zero] <;> exact rfl)
                case hs1080 => kernel_rfl
                case hf1080 => kernel_rfl
                case hr1080 => kernel_rfl
                case hQ1080 => exact fun _ _ _ h => h
                case hS1080 => assumption
                case hy1080 => (refine Or.inl ⟨by rfl, ?_⟩; intro w hSw; (try dsimp only at hSw); go_simp; try with_reducible rfl)
                simp only [Act.put, List.setIfInBounds_toArray, List.set_cons_zero, List.set_cons_succ]
                refine wpAnyH_take (i := 14) (oi := ?oi1089) (v := ?val1089) ?hi1089 ?hs1089 ?hf1089 ?hr1089 ?hQ1089 ?hy1089 ?hS1089 ?hrest1089
                case hi1089 => (simp only [List.getElem?_toArray, List.getElem?_cons_succ, List.getElem?_cons_zero] <;> exact rfl)
                case hs1089 => kernel_rfl
                case hf1089 => kernel_rfl
                case hr1089 => kernel_rfl
                case hQ1089 => exact fun _ _ _ h => h
                case hS1089 => assumption
                case hy1089 => (refine Or.inl ⟨by rfl, ?_⟩; intro w hSw; (try dsimp only at hSw); go_simp; try with_reducible rfl)
                simp only [Act.put, List.setIfInBounds_toArray, List.set_cons_zero, List.set_cons_succ]
                exact hkey u136_ u144_ r131_ y151_ ⟨hD153_, bk154_, le133_, nb134_, hu137_, hl138_, hu145_, hl146_⟩
            intro u v r y7 ⟨hD7, bk7, lr7, nb7, hu4, huL, hv3, hvL⟩
            obtain ⟨⟨⟨o1, o2⟩, ob⟩, ho⟩ : ∃ z, z = orientR 2 u v := ⟨_, rfl⟩
            rw [← ho]
            dsimp only
            clear c0 c1 f0 f1 lb s0 s1 sf0 sf1 sl
            have c0 : y7.cell? ⟨w.heap.size, 0, none⟩ = some (.int .i64 0) := by rw [hD7.bkR.cell]; rfl
            have c1 : y7.cell? ⟨w.heap.size, 1, none⟩ = some (.slice none 0 0) := by rw [hD7.bkR.cell]; rfl
            have f0 := hD7.bkR.free 0
            have f1 := hD7.bkR.free 1
            have lb := hD7.bkR.lt
            have s0 : y7.cell? ⟨w.heap.size + 1, 0, none⟩ = some (.int .i64 2) := by rw [hD7.bkS.cell]; rfl
            have s1 : y7.cell? ⟨w.heap.size + 1, 1, none⟩ = some (.slice B k d) := by rw [hD7.bkS.cell]; rfl
            have sf0 := hD7.bkS.free 0
            have sf1 := hD7.bkS.free 1
            have sl := hD7.bkS.lt
            have d0 : y7.cell? ⟨r, 0, none⟩ = some (.string ⟨#[]⟩) := by rw [bk7.cell]; rfl
            have d1 : y7.cell? ⟨r, 1, none⟩ = some (.string ⟨#[]⟩) := by rw [bk7.cell]; rfl
            have df0 := bk7.free 0
            have df1 := bk7.free 1
            have dl := bk7.lt
            have ne1 : ¬ w.heap.size = r := by omega
            have ne2 : ¬ w.heap.size + 1 = r := by omega
            have ne3 : ¬ r = w.heap.size := by omega
            have ne4 : ¬ r = w.heap.size + 1 := by omega
            have hD8 := (hD7.far (q := ⟨r, 0, none⟩) lr7 nb7 (.string o1)).far (q := ⟨r, 1, none⟩) lr7 nb7 (.string o2)
            have bk8 := (bk7.put 0 (.string o1)).put 1 (.string o2)
            refine wpAnyH_ready (rs := [16]) (by kernel_rfl) (by simp) ?_
            refine AllReadyH.cons rfl (fun K hK => ?_) AllReadyH.nil
            (go_simp)
            refine hK.out _ _ ((by (have hq := hD8.bkS.cell 0); rw [hq]; rfl)) (fun hHeld2 => ?_)
            clear hK K hHeld
            have hHeld := hHeld2
            clear hHeld2
            first | simp only [Act.put, List.setIfInBounds_toArray, List.set_cons_zero, List.set_cons_succ] | skip
            obtain ⟨y8, hy8⟩ : ∃ z, z = (y7.setCell ⟨r, 0, none⟩ (.string o1)).setCell ⟨r, 1, none⟩ (.string o2) := ⟨_, rfl⟩
            rw [← hy8] at hD8 bk8
            rw [← hy8]
            clear hHeld c0 c1 f0 f1 lb s0 s1 sf0 sf1 sl d0 d1 df0 df1 dl bk7 hD7
            have hHeld : y8.cell? ⟨w.heap.size + 1, 0, none⟩ = some (.int .i64 2) := by rw [hD8.bkS.cell]; rfl
            refine wpAnyH_take (i := 17) (oi := ?oi1138) (v := ?val1138) ?hi1138 ?hs1138 ?hf1138 ?hr1138 ?hQ1138 ?hy1138 ?hS1138 ?hrest1138
            case hi1138 => (simp only [List.getElem?_toArray, List.getElem?_cons_succ, List.getElem?_cons_zero] <;> exact rfl)
            case hs1138 => kernel_rfl
            case hf1138 => kernel_rfl
            case hr1138 => kernel_rfl
            case hQ1138 => exact fun _ _ _ h => h
            case hS1138 => assumption
            case hy1138 => (refine Or.inl ⟨by rfl, ?_⟩; intro w hSw; (try dsimp only at hSw); go_simp; try with_reducible rfl)
            simp only [Act.put, List.setIfInBounds_toArray, List.set_cons_zero, List.set_cons_succ]
            refine wpAnyH_done (by kernel_rfl) ?_ _
            clear hHeld hy8
            have c0 : y8.cell? ⟨w.heap.size, 0, none⟩ = some (.int .i64 0) := by rw [hD8.bkR.cell]; rfl
            have c1 : y8.cell? ⟨w.heap.size, 1, none⟩ = some (.slice none 0 0) := by rw [hD8.bkR.cell]; rfl
            have f0 := hD8.bkR.free 0
            have f1 := hD8.bkR.free 1
            have lb := hD8.bkR.lt
            have s0 : y8.cell? ⟨w.heap.size + 1, 0, none⟩ = some (.int .i64 2) := by rw [hD8.bkS.cell]; rfl
            have s1 : y8.cell? ⟨w.heap.size + 1, 1, none⟩ = some (.slice B k d) := by rw [hD8.bkS.cell]; rfl
            have sf0 := hD8.bkS.free 0
            have sf1 := hD8.bkS.free 1
            have sl := hD8.bkS.lt
            have d0 : y8.cell? ⟨r, 0, none⟩ = some (.string o1) := by rw [bk8.cell]; rfl
            have d1 : y8.cell? ⟨r, 1, none⟩ = some (.string o2) := by rw [bk8.cell]; rfl
            have dl := bk8.lt
            cases ob
            · skip
              have HD8 := Lib.hid hD8
              clear hD8
              have Bk8 := Lib.hid bk8
              clear bk8
              go_wp2_with fail
              go_roundw
              case rel => exact ⟨j - 1, B, k, d, rs, by go_num, by omega, HG, HD8⟩
              case measure => simp [intOf] <;> omega
            · have hO8 := hD8.own
              have hz8 := hD8.bkS.lt
              have HD8 := Lib.hid hD8
              clear hD8
              have Bk8 := Lib.hid bk8
              clear bk8
              go_wp2_with (at_builtin; go_loud (refine wpList_app5 _ y8 y8.heap.size rfl rfl _ _ 23 rfl (w.heap.size + 2) 68 2 32 _ Tryz.underlying23 info_Rule rfl (by omega) (.slice B k d) k _ _ rfl rfl rfl hO8 rfl (one_cell_ruleP _ _) (by omega) (by unfold maxLen; omega) (by omega) ?_); intro g5 c5 w5 hO9 hV9 hG9 hat9; have t1 : w5.cell? ⟨w.heap.size + 1, 1, none⟩ = some (.slice B k d) := (by have hq := HD8.out.bkS.below hV9 (by omega); rw [hq.cell]; rfl); have tf := (HD8.out.bkS.below hV9 (by omega)).free 1; have tl := (HD8.out.bkS.below hV9 (by omega)).lt)
              have hcr : cellsRule (rs ++ [(o1, o2)]) = cellsRule rs ++ (#[.string o1, .string o2] : Array Value).toList := by simp [cellsRule, encRule]
              have hO10 := hO9
              rw [← hcr] at hO10
              have hD9 := HD8.out.let1 hV9 hO10 (by rw [List.length_append, ← HD8.out.len]; rfl)
              have hgd := orient_good ho.symm
              refine ⟨⟨j - 1, some ⟨g5, 0, none⟩, k + 1, c5, rs ++ [(o1, o2)], by go_num, by omega, Lib.hid (fun q hq => ?_), hD9⟩, by simp [intOf] <;> omega⟩
              rcases List.mem_append.1 hq with h | h
              · exact HG.out q h
              · rw [List.mem_singleton.1 h]
                exact hgd
          · have hsys := sys_of_all (l := 2) (by omega) (by omega) (by rw [← hD6.len]; omega) HG.out
            have HD6 := Lib.hid hD6
            clear hD6
            have Hsys := Lib.hid hsys
            clear hsys
            go_wp2_with fail
            have hne : (Value.slice B k d).ownBlock ≠ some w.heap.size := by
              intro e
              have := (HD6.out.own.lt _ e).1
              omega
            have hb9 : Below w.heap.size wr ((wr.setCell ⟨w.heap.size, 0, none⟩ (.int .i64 2)).setCell ⟨w.heap.size, 1, none⟩ (.slice B k d)) := ((Below.refl _ _).setCell (p := ⟨w.heap.size, 0, none⟩) (Nat.le_refl _) _).setCell (p := ⟨w.heap.size, 1, none⟩) (Nat.le_refl _) _
            have hO9 := own_mono (own_far3 (own_far3 HD6.out.own (p := ⟨w.heap.size, 0, none⟩) hne (.int .i64 2)) (p := ⟨w.heap.size, 1, none⟩) hne (.slice B k d)) (b' := w.heap.size) (show w.heap.size ≤ w.heap.size + 2 by omega)
            have hC9 := cur_low HD6.out.cur hb9 HD6.out.lP
            have hG9 := gb_up HD6.out.gb hb9
            have hBn := (HD6.out.bkR.put 0 (.int .i64 2)).put 1 (.slice B k d)
            have q0 := hBn.cell 0
            have q1 := hBn.cell 1
            refine bodyPost_ret (v := .agg #[.int .i64 2, .slice B k d]) (by simp [results, Tryz.results22, go_sem, q0, q1]) rfl ?_
            exact ⟨2, B, k, d, rs, Hsys.out, HD6.out.len, rfl, hO9, HD6.out.src0.next hC9 hG9, hG9⟩
      · have hal := (Below.refl w6.heap.size w6).alloc (Nat.le_refl _) (.cells #[.int .i64 l6, .slice B6 k6 d6] 25)
        have hDt := hD6.below hal
        have hbt := Bk.new w6 25 #[.int .i64 l6, .slice B6 k6 d6]
        have hO7 := hO6.alloc (.cells #[.int .i64 l6, .slice B6 k6 d6] 25)
        have hrd := (Rd.of_own hO6).keep hal
        have hz7 : ∀ x ∈ rs6, x.1.size ≤ 1048576 ∧ x.2.size ≤ 1048576 := fun x hx => by (have := hz6 x hx); omega
        obtain ⟨tb, htb⟩ : ∃ z, z = w6.heap.size := ⟨_, rfl⟩
        clear hal hO6
        have HD6 := Lib.hid hD6
        clear hD6
        have Hk6 := Lib.hid hk6
        clear hk6
        have Hz6 := Lib.hid hz6
        clear hz6
        have HDt := Lib.hid hDt
        clear hDt
        have Hbt := Lib.hid hbt
        clear hbt
        have HO7 := Lib.hid hO7
        clear hO7
        have Hrd := Lib.hid hrd
        clear hrd
        have Hz7 := Lib.hid hz7
        clear hz7
        have Htb := Lib.hid htb
        clear htb
        go_wp2_with fail
        with_reducible refine (specSystemOk_any l6 B6 k6 d6 rs6 _ Hrd.out Hk6.out (by omega) Hz7.out).mono ?_
        rintro e w7 ⟨rfl, b7⟩
        have hD7 := HDt.out.below b7
        have hb7 := Hbt.out.below b7 Hbt.out.lt
        have hO8 := own_keep HO7.out b7 (Nat.le_refl _)
        rw [← Htb.out] at hb7
        rw [← Htb.out]
        clear b7 HDt Hbt HO7 Hrd HD6 c0 c1 f0 f1 lb s0 s1 sf0 sf1 sl
        have c0 : w7.cell? ⟨w.heap.size, 0, none⟩ = some (.int .i64 0) := by rw [hD7.bkR.cell]; rfl
        have c1 : w7.cell? ⟨w.heap.size, 1, none⟩ = some (.slice none 0 0) := by rw [hD7.bkR.cell]; rfl
        have f0 := hD7.bkR.free 0
        have f1 := hD7.bkR.free 1
        have lb := hD7.bkR.lt
        have s0 : w7.cell? ⟨w.heap.size + 1, 0, none⟩ = some (.int .i64 2) := by rw [hD7.bkS.cell]; rfl
        have s1 : w7.cell? ⟨w.heap.size + 1, 1, none⟩ = some (.slice none 0 0) := by rw [hD7.bkS.cell]; rfl
        have sf0 := hD7.bkS.free 0
        have sf1 := hD7.bkS.free 1
        have sl := hD7.bkS.lt
        have t0 : w7.cell? ⟨tb, 0, none⟩ = some (.int .i64 l6) := by rw [hb7.cell]; rfl
        have t1 : w7.cell? ⟨tb, 1, none⟩ = some (.slice B6 k6 d6) := by rw [hb7.cell]; rfl
        have tl := hb7.lt
        have HD7 := Lib.hid hD7
        clear hD7
        have Hb7 := Lib.hid hb7
        clear hb7
        have HO8 := Lib.hid hO8
        clear hO8
        obtain ⟨so, hrr⟩ : ∃ r', r' = (systemOk l6 rs6) := ⟨_, rfl⟩
        rw [← hrr]
        have HSo := Lib.hid hrr
        clear hrr
        cases so
        · clear hlt4 t0 t1 tl Hb7 HO8
          go_wp2_with fail
          with_reducible refine (HD7.out.src.underI 4 4 rfl (by omega) (by omega)).mono ?_
          rintro e w5 ⟨x, hx, rfl, hs5, hg5⟩
          have hD5 := HD7.out.next hs5 hg5
          clear hs5 hg5 HD7 c0 c1 f0 f1 lb s0 s1 sf0 sf1 sl
          have c0 : w5.cell? ⟨w.heap.size, 0, none⟩ = some (.int .i64 0) := by rw [hD5.bkR.cell]; rfl
          have c1 : w5.cell? ⟨w.heap.size, 1, none⟩ = some (.slice none 0 0) := by rw [hD5.bkR.cell]; rfl
          have f0 := hD5.bkR.free 0
          have f1 := hD5.bkR.free 1
          have lb := hD5.bkR.lt
          have s0 : w5.cell? ⟨w.heap.size + 1, 0, none⟩ = some (.int .i64 2) := by rw [hD5.bkS.cell]; rfl
          have s1 : w5.cell? ⟨w.heap.size + 1, 1, none⟩ = some (.slice none 0 0) := by rw [hD5.bkS.cell]; rfl
          have sf0 := hD5.bkS.free 0
          have sf1 := hD5.bkS.free 1
          have sl := hD5.bkS.lt
          have HD5 := Lib.hid hD5
          clear hD5
          go_wp2_with fail
          go_loopw [6] (fun i wr => ∃ (j : Nat) (B : Option Addr) (k d : Nat) (rs : List RuleT), i = .int .i64 j ∧ j + k ≤ 3 ∧ Hid (∀ r ∈ rs, ruleOk 2 r = true ∧ fallsOk r = true) ∧ Hid (DrSt w wr P A n c zs 2 B k d rs)) (fun i _ => (intOf i).toNat)
          case atStart => exact ⟨x, none, 0, 0, [], rfl, by omega, Lib.hid (by simp), HD5⟩
          case round =>
            clear HD5 c0 c1 f0 f1 lb s0 s1 sf0 sf1 sl
            obtain ⟨j, B, k, d, rs, rfl, hjk, HG, HD6⟩ := hrel
            have hD6 := HD6.out
            have c0 : wr.cell? ⟨w.heap.size, 0, none⟩ = some (.int .i64 0) := by rw [hD6.bkR.cell]; rfl
            have c1 : wr.cell? ⟨w.heap.size, 1, none⟩ = some (.slice none 0 0) := by rw [hD6.bkR.cell]; rfl
            have f0 := hD6.bkR.free 0
            have f1 := hD6.bkR.free 1
            have lb := hD6.bkR.lt
            have s0 : wr.cell? ⟨w.heap.size + 1, 0, none⟩ = some (.int .i64 2) := by rw [hD6.bkS.cell]; rfl
            have s1 : wr.cell? ⟨w.heap.size + 1, 1, none⟩ = some (.slice B k d) := by rw [hD6.bkS.cell]; rfl
            have sf0 := hD6.bkS.free 0
            have sf1 := hD6.bkS.free 1
            have sl := hD6.bkS.lt
            by_cases hlt : 0 < j
            · have lPr := hD6.lP
              go_wp2_with fail
              refine wp_region_held_drew (S := (fun W => W.cell? ⟨w.heap.size + 1, 0, none⟩ = some (.int .i64 2))) (by kernel_rfl) ((by (have hq := hD6.bkS.drew); rw [hq.cell]; rfl)) (fun hHeld => ?_)
              obtain ⟨y0_, hy0⟩ : ∃ z, z = World.drew wr := ⟨_, rfl⟩
              have hD0_ : DrSt w (World.drew wr) P A n c zs 2 B k d rs := hD6.next hD6.src.drew gb_drew
              rw [← hy0] at hD0_
              rw [← hy0] at hHeld
              rw [← hy0]
              clear hy0
              refine wpAnyH_take (i := 0) (oi := ?oi1312) (v := ?val1312) ?hi1312 ?hs1312 ?hf1312 ?hr1312 ?hQ1312 ?hy1312 ?hS1312 ?hrest1312
              case hi1312 => (simp only [List.getElem?_toArray, List.getElem?_cons_succ, List.getElem?_cons_zero] <;> exact rfl)
              case hs1312 => kernel_rfl
              case hf1312 => kernel_rfl
              case hr1312 => kernel_rfl
              case hQ1312 => exact fun _ _ _ h => h
              case hS1312 => assumption
              case hy1312 => (refine Or.inl ⟨by rfl, ?_⟩; intro w hSw; (try dsimp only at hSw); go_simp; try with_reducible rfl)
              simp only [Act.put, List.setIfInBounds_toArray, List.set_cons_zero, List.set_cons_succ]
              refine wpAnyH_take (i := 1) (oi := ?oi1321) (v := ?val1321) ?hi1321 ?hs1321 ?hf1321 ?hr1321 ?hQ1321 ?hy1321 ?hS1321 ?hrest1321
              case hi1321 => (simp only [List.getElem?_toArray, List.getElem?_cons_succ, List.getElem?_cons_zero] <;> exact rfl)
              case hs1321 => kernel_rfl
              case hf1321 => kernel_rfl
              case hr1321 => kernel_rfl
              case hQ1321 => exact fun _ _ _ h => h
              case hS1321 => assumption
              case hy1321 => (refine Or.inl ⟨by rfl, ?_⟩; intro w hSw; (try dsimp only at hSw); go_simp; try with_reducible rfl)
              simp only [Act.put, List.setIfInBounds_toArray, List.set_cons_zero, List.set_cons_succ]
              refine wpAnyH_take (i := 2) (oi := ?oi1330) (v := ?val1330) ?hi1330 ?hs1330 ?hf1330 ?hr1330 ?hQ1330 ?hy1330 ?hS1330 ?hrest1330
              case hi1330 => (simp only [List.getElem?_toArray, List.getElem?_cons_succ, List.getElem?_cons_zero] <;> exact rfl)
              case hs1330 => kernel_rfl
              case hf1330 => kernel_rfl
              case hr1330 => kernel_rfl
              case hQ1330 => exact fun _ _ _ h => h
              case hS1330 => assumption
              case hy1330 => (refine Or.inl ⟨by rfl, ?_⟩; intro w hSw; (try dsimp only at hSw); go_simp; try with_reducible rfl)
              simp only [Act.put, List.setIfInBounds_toArray, List.set_cons_zero, List.set_cons_succ]
              refine wpAnyH_take (i := 3) (oi := ?oi1339) (v := ?val1339) ?hi1339 ?hs1339 ?hf1339 ?hr1339 ?hQ1339 ?hy1339 ?hS1339 ?hrest1339
              case hi1339 => (simp only [List.getElem?_toArray, List.getElem?_cons_succ, List.getElem?_cons_zero] <;> exact rfl)
              case hs1339 => kernel_rfl
              case hf1339 => kernel_rfl
              case hr1339 => kernel_rfl
              case hQ1339 => exact fun _ _ _ h => h
              case hS1339 => assumption
              case hy1339 => (refine Or.inl ⟨by rfl, ?_⟩; intro w hSw; (try dsimp only at hSw); go_simp; try with_reducible rfl)
              simp only [Act.put, List.setIfInBounds_toArray, List.set_cons_zero, List.set_cons_succ]
              refine wpAnyH_take (i := 4) (oi := ?oi1348) (v := ?val1348) ?hi1348 ?hs1348 ?hf1348 ?hr1348 ?hQ1348 ?hy1348 ?hS1348 ?hrest1348
              case hi1348 => (simp only [List.getElem?_toArray, List.getElem?_cons_succ, List.getElem?_cons_zero] <;> exact rfl)
              case hs1348 => kernel_rfl
              case hf1348 => kernel_rfl
              case hr1348 => kernel_rfl
              case hQ1348 => exact fun _ _ _ h => h
              case hS1348 => assumption
              case hy1348 => (refine Or.inl ⟨by rfl, ?_⟩; intro w hSw; (try dsimp only at hSw); go_simp; try with_reducible rfl)
              simp only [Act.put, List.setIfInBounds_toArray, List.set_cons_zero, List.set_cons_succ]
              refine wpAnyH_take (i := 6) (oi := ?oi1357) (v := ?val1357) ?hi1357 ?hs1357 ?hf1357 ?hr1357 ?hQ1357 ?hy1357 ?hS1357 ?hrest1357
              case hi1357 => (simp only [List.getElem?_toArray, List.getElem?_cons_succ, List.getElem?_cons_zero] <;> exact rfl)
              case hs1357 => kernel_rfl
              case hf1357 => kernel_rfl
              case hr1357 => kernel_rfl
              case hQ1357 => exact fun _ _ _ h => h
              case hS1357 => assumption
              case hy1357 => (refine Or.inl ⟨by rfl, ?_⟩; intro w hSw; (try dsimp only at hSw); go_simp; try with_reducible rfl)
              simp only [Act.put, List.setIfInBounds_toArray, List.set_cons_zero, List.set_cons_succ]
              refine wpAnyH_take (i := 7) (oi := ?oi1366) (v := ?val1366) ?hi1366 ?hs1366 ?hf1366 ?hr1366 ?hQ1366 ?hy1366 ?hS1366 ?hrest1366
              case hi1366 => (simp only [List.getElem?_toArray, List.getElem?_cons_succ, List.getElem?_cons_zero] <;> exact rfl)
              case hs1366 => kernel_rfl
              case hf1366 => kernel_rfl
              case hr1366 => kernel_rfl
              case hQ1366 => exact fun _ _ _ h => h
              case hS1366 => assumption
              case hy1366 => (refine Or.inl ⟨by rfl, ?_⟩; intro w hSw; (try dsimp only at hSw); go_simp; try with_reducible rfl)
              simp only [Act.put, List.setIfInBounds_toArray, List.set_cons_zero, List.set_cons_succ]
              refine wpAnyH_take (i := 8) (oi := ?oi1375) (v := ?val1375) ?hi1375 ?hs1375 ?hf1375 ?hr1375 ?hQ1375 ?hy1375 ?hS1375 ?hrest1375
              case hi1375 => (simp only [List.getElem?_toArray, List.getElem?_cons_succ, List.getElem?_cons_zero] <;> exact rfl)
              case hs1375 => kernel_rfl
              case hf1375 => kernel_rfl
              case hr1375 => kernel_rfl
              case hQ1375 => exact fun _ _ _ h => h
              case hS1375 => assumption
              case hy1375 => (refine Or.inl ⟨by rfl, ?_⟩; intro w hSw; (try dsimp only at hSw); go_simp; try with_reducible rfl)
              simp only [Act.put, List.setIfInBounds_toArray, List.set_cons_zero, List.set_cons_succ]
              apply meetD (F := fun u v r y => DrSt w y P A n c zs 2 B k d rs ∧ Bk y r 68 #[.string ⟨#[]⟩, .string ⟨#[]⟩] ∧ w.heap.size + 2 ≤ r ∧ (Value.slice B k d).ownBlock ≠ some r ∧ u.size ≤ 4 ∧ lettersOk ((2 : Nat) : Int) u = true ∧ v.size ≤ 3 ∧ lettersOk ((2 : Nat) : Int) v = true)
              · intro hkey
                refine wpAnyH_ready (rs := [5, 15]) (by kernel_rfl) (by simp) ?_
                refine AllReadyH.cons rfl (fun K hK => ?_) (AllReadyH.cons rfl (fun K hK => ?_) AllReadyH.nil)
                · skip
                  go_simp
                  with_reducible refine (hD0_.src.wordI 2 4 2 4 (by omega) rfl (by omega) (by omega) (by omega)).mono ?_
                  rintro e y155_ ⟨u156_, hu157_, hl158_, rfl, hs159_, hg160_⟩
                  have hD161_ := hD0_.next hs159_ hg160_
                  refine hK.out _ _ (by rw [hD161_.bkS.cell]; rfl) (fun hHeld => ?_)
                  clear hK K
                  first | simp only [Act.put, List.setIfInBounds_toArray, List.set_cons_zero, List.set_cons_succ] | skip
                  refine wpAnyH_ready (rs := [9, 15]) (by kernel_rfl) (by simp) ?_
                  refine AllReadyH.cons rfl (fun K hK => ?_) (AllReadyH.cons rfl (fun K hK => ?_) AllReadyH.nil)
                  · skip
                    go_simp
                    with_reducible refine (hD161_.src.wordI 2 3 2 3 (by omega) rfl (by omega) (by omega) (by omega)).mono ?_
                    rintro e y162_ ⟨u163_, hu164_, hl165_, rfl, hs166_, hg167_⟩
                    have hD168_ := hD161_.next hs166_ hg167_
                    refine hK.out _ _ (by rw [hD168_.bkS.cell]; rfl) (fun hHeld => ?_)
                    clear hK K
                    first | simp only [Act.put, List.setIfInBounds_toArray, List.set_cons_zero, List.set_cons_succ] | skip
                    refine wpAnyH_take (i := 10) (oi := ?oi1406) (v := ?val1406) ?hi1406 ?hs1406 ?hf1406 ?hr1406 ?hQ1406 ?hy1406 ?hS1406 ?hrest1406
                    case hi1406 => (simp only [List.getElem?_toArray, List.getElem?_cons_succ, List.getElem?_cons_zero] <;> exact rfl)
                    case hs1406 => kernel_rfl
                    case hf1406 => kernel_rfl
                    case hr1406 => kernel_rfl
                    case hQ1406 => exact fun _ _ _ h => h
                    case hS1406 => assumption
                    case hy1406 => (refine Or.inl ⟨by rfl, ?_⟩; intro w hSw; (try dsimp only at hSw); go_simp; try with_reducible rfl)
                    simp only [Act.put, List.setIfInBounds_toArray, List.set_cons_zero, List.set_cons_succ]
                    refine wpAnyH_ready (rs := [11, 15]) (by kernel_rfl) (by simp) ?_
                    refine AllReadyH.cons rfl (fun K hK => ?_) (AllReadyH.cons rfl (fun K hK => ?_) AllReadyH.nil)
                    · skip
                      go_simp
                      with_reducible refine (orient_any 2 u156_ u163_ _ (by omega) (by omega)).mono ?_
                      rintro e y169_ ⟨rfl, b170_⟩
                      have hD171_ := hD168_.below b170_
                      refine hK.out _ _ (by rw [hD171_.bkS.cell]; rfl) (fun hHeld => ?_)
                      clear hK K
                      first | simp only [Act.put, List.setIfInBounds_toArray, List.set_cons_zero, List.set_cons_succ] | skip
                      refine wpAnyH_take (i := 12) (oi := ?oi1425) (v := ?val1425) ?hi1425 ?hs1425 ?hf1425 ?hr1425 ?hQ1425 ?hy1425 ?hS1425 ?hrest1425
                      case hi1425 => (simp only [List.getElem?_toArray, List.getElem?_cons_succ, List.getElem?_cons_zero] <;> exact rfl)
                      case hs1425 => kernel_rfl
                      case hf1425 => kernel_rfl
                      case hr1425 => kernel_rfl
                      case hQ1425 => exact fun _ _ _ h => h
                      case hS1425 => assumption
                      case hy1425 => (refine Or.inl ⟨by rfl, ?_⟩; intro w hSw; (try dsimp only at hSw); go_simp; try with_reducible rfl)
                      simp only [Act.put, List.setIfInBounds_toArray, List.set_cons_zero, List.set_cons_succ]
                      refine wpAnyH_take (i := 13) (oi := ?oi1434) (v := ?val1434) ?hi1434 ?hs1434 ?hf1434 ?hr1434 ?hQ1434 ?hy1434 ?hS1434 ?hrest1434
                      case hi1434 => (simp only [List.getElem?_toArray, List.getElem?_cons_succ, List.getElem?_cons_zero] <;> exact rfl)
                      case hs1434 => kernel_rfl
                      case hf1434 => kernel_rfl
                      case hr1434 => kernel_rfl
                      case hQ1434 => exact fun _ _ _ h => h
                      case hS1434 => assumption
                      case hy1434 => (refine Or.inl ⟨by rfl, ?_⟩; intro w hSw; (try dsimp only at hSw); go_simp; try with_reducible rfl)
                      simp only [Act.put, List.setIfInBounds_toArray, List.set_cons_zero, List.set_cons_succ]
                      refine wpAnyH_take (i := 14) (oi := ?oi1443) (v := ?val1443) ?hi1443 ?hs1443 ?hf1443 ?hr1443 ?hQ1443 ?hy1443 ?hS1443 ?hrest1443
                      case hi1443 => (simp only [List.getElem?_toArray, List.getElem?_cons_succ, List.getElem?_cons_zero] <;> exact rfl)
                      case hs1443 => kernel_rfl
                      case hf1443 => kernel_rfl
                      case hr1443 => kernel_rfl
                      case hQ1443 => exact fun _ _ _ h => h
                      case hS1443 => assumption
                      case hy1443 => (refine Or.inl ⟨by rfl, ?_⟩; intro w hSw; (try dsimp only at hSw); go_simp; try with_reducible rfl)
                      simp only [Act.put, List.setIfInBounds_toArray, List.set_cons_zero, List.set_cons_succ]
                      refine wpAnyH_ready (rs := [15]) (by kernel_rfl) (by simp) ?_
                      refine AllReadyH.cons rfl (fun K hK => ?_) AllReadyH.nil
                      go_simp
                      have hD173_ := hD171_.below ((Below.refl _ _).alloc (Nat.le_refl _) (.cells #[.string ⟨#[]⟩, .string ⟨#[]⟩] 68))
                      have bk175_ := Bk.new y169_ 68 #[.string ⟨#[]⟩, .string ⟨#[]⟩]
                      have le176_ : w.heap.size + 2 ≤ (World.heap y169_).size := hD171_.bkS.lt
                      have nb177_ := own_new_ne3 hD171_.own (Nat.le_refl _)
                      refine hK.out _ _ (by rw [hD173_.bkS.cell]; rfl) (fun hHeld => ?_)
                      clear hK K
                      first | simp only [Act.put, List.setIfInBounds_toArray, List.set_cons_zero, List.set_cons_succ] | skip
                      obtain ⟨y172_, hy⟩ : ∃ z, z = World.alloc y169_ (.cells #[.string ⟨#[]⟩, .string ⟨#[]⟩] 68) := ⟨_, rfl⟩
                      obtain ⟨r174_, hb⟩ : ∃ z, z = (World.heap y169_).size := ⟨_, rfl⟩
                      rw [← hy] at bk175_ hD173_
                      rw [← hb] at bk175_ le176_ nb177_
                      rw [← hy, ← hb]
                      clear hHeld
                      have hHeld : y172_.cell? ⟨w.heap.size + 1, 0, none⟩ = some (.int .i64 2) := by rw [hD173_.bkS.cell]; rfl
                      clear hy hb
                      exact hkey u156_ u163_ r174_ y172_ ⟨hD173_, bk175_, le176_, nb177_, hu157_, hl158_, hu164_, hl165_⟩
                    · skip
                      go_simp
                      have hD179_ := hD168_.below ((Below.refl _ _).alloc (Nat.le_refl _) (.cells #[.string ⟨#[]⟩, .string ⟨#[]⟩] 68))
                      have bk181_ := Bk.new y162_ 68 #[.string ⟨#[]⟩, .string ⟨#[]⟩]
                      have le182_ : w.heap.size + 2 ≤ (World.heap y162_).size := hD168_.bkS.lt
                      have nb183_ := own_new_ne3 hD168_.own (Nat.le_refl _)
                      refine hK.out _ _ (by rw [hD179_.bkS.cell]; rfl) (fun hHeld => ?_)
                      clear hK K
                      first | simp only [Act.put, List.setIfInBounds_toArray, List.set_cons_zero, List.set_cons_succ] | skip
                      obtain ⟨y178_, hy⟩ : ∃ z, z = World.alloc y162_ (.cells #[.string ⟨#[]⟩, .string ⟨#[]⟩] 68) := ⟨_, rfl⟩
                      obtain ⟨r180_, hb⟩ : ∃ z, z = (World.heap y162_).size := ⟨_, rfl⟩
                      rw [← hy] at bk181_ hD179_
                      rw [← hb] at bk181_ le182_ nb183_
                      rw [← hy, ← hb]
                      clear hHeld
                      have hHeld : y178_.cell? ⟨w.heap.size + 1, 0, none⟩ = some (.int .i64 2) := by rw [hD179_.bkS.cell]; rfl
                      clear hy hb
                      refine wpAnyH_ready (rs := [11]) (by kernel_rfl) (by simp) ?_
                      refine AllReadyH.cons rfl (fun K hK => ?_) AllReadyH.nil
                      go_simp
                      with_reducible refine (orient_any 2 u156_ u163_ _ (by omega) (by omega)).mono ?_
                      rintro e y184_ ⟨rfl, b185_⟩
                      have hD186_ := hD179_.below b185_
                      have bk187_ := bk181_.below b185_ bk181_.lt
                      refine hK.out _ _ (by rw [hD186_.bkS.cell]; rfl) (fun hHeld => ?_)
                      clear hK K
                      first | simp only [Act.put, List.setIfInBounds_toArray, List.set_cons_zero, List.set_cons_succ] | skip
                      refine wpAnyH_take (i := 12) (oi := ?oi1498) (v := ?val1498) ?hi1498 ?hs1498 ?hf1498 ?hr1498 ?hQ1498 ?hy1498 ?hS1498 ?hrest1498
                      case hi1498 => (simp only [List.getElem?_toArray, List.getElem?_cons_succ, List.getElem?_cons_zero] <;> exact rfl)
                      case hs1498 => kernel_rfl
                      case hf1498 => kernel_rfl
                      case hr1498 => kernel_rfl
                      case hQ1498 => exact fun _ _ _ h => h
                      case hS1498 => assumption
                      case hy1498 => (refine Or.inl ⟨by rfl, ?_⟩; intro w hSw; (try dsimp only at hSw); go_simp; try with_reducible rfl)
                      simp only [Act.put, List.setIfInBounds_toArray, List.set_cons_zero, List.set_cons_succ]
                      refine wpAnyH_take (i := 13) (oi := ?oi1507) (v := ?val1507) ?hi1507 ?hs1507 ?hf1507 ?hr1507 ?hQ1507 ?hy1507 ?hS1507 ?hrest1507
                      case hi1507 => (simp only [List.getElem?_toArray, List.getElem?_cons_succ, List.getElem?_cons_zero] <;> exact rfl)
                      case hs1507 => kernel_rfl
                      case hf1507 => kernel_rfl
                      case hr1507 => kernel_rfl
                      case hQ1507 => exact fun _ _ _ h => h
                      case hS1507 => assumption
                      case hy1507 => (refine Or.inl ⟨by rfl, ?_⟩; intro w hSw; (try dsimp only at hSw); go_simp; try with_reducible rfl)
                      simp only [Act.put, List.setIfInBounds_toArray, List.set_cons_zero, List.set_cons_succ]
                      refine wpAnyH_take (i := 14) (oi := ?oi1516) (v := ?val1516) ?hi1516 ?hs1516 ?hf1516 ?hr1516 ?hQ1516 ?hy1516 ?hS1516 ?hrest1516
                      case hi1516 => (simp only [List.getElem?_toArray, List.getElem?_cons_succ, List.getElem?_cons_zero] <;> exact rfl)
                      case hs1516 => kernel_rfl
                      case hf1516 => kernel_rfl
                      case hr1516 => kernel_rfl
                      case hQ1516 => exact fun _ _ _ h => h
                      case hS1516 => assumption
                      case hy1516 => (refine Or.inl ⟨by rfl, ?_⟩; intro w hSw; (try dsimp only at hSw); go_simp; try with_reducible rfl)
                      simp only [Act.put, List.setIfInBounds_toArray, List.set_cons_zero, List.set_cons_succ]
                      exact hkey u156_ u163_ r180_ y184_ ⟨hD186_, bk187_, le182_, nb183_, hu157_, hl158_, hu164_, hl165_⟩
                  · skip
                    go_simp
                    have hD189_ := hD161_.below ((Below.refl _ _).alloc (Nat.le_refl _) (.cells #[.string ⟨#[]⟩, .string ⟨#[]⟩] 68))
                    have bk191_ := Bk.new y155_ 68 #[.string ⟨#[]⟩, .string ⟨#[]⟩]
                    have le192_ : w.heap.size + 2 ≤ (World.heap y155_).size := hD161_.bkS.lt
                    have nb193_ := own_new_ne3 hD161_.own (Nat.le_refl _)
                    refine hK.out _ _ (by rw [hD189_.bkS.cell]; rfl) (fun hHeld => ?_)
                    clear hK K
                    first | simp only [Act.put, List.setIfInBounds_toArray, List.set_cons_zero, List.set_cons_succ] | skip
                    obtain ⟨y188_, hy⟩ : ∃ z, z = World.alloc y155_ (.cells #[.string ⟨#[]⟩, .string ⟨#[]⟩] 68) := ⟨_, rfl⟩
                    obtain ⟨r190_, hb⟩ : ∃ z, z = (World.heap y155_).size := ⟨_, rfl⟩
                    rw [← hy] at bk191_ hD189_
                    rw [← hb] at bk191_ le192_ nb193_
                    rw [← hy, ← hb]
                    clear hHeld
                    have hHeld : y188_.cell? ⟨w.heap.size + 1, 0, none⟩ = some (.int .i64 2) := by rw [hD189_.bkS.cell]; rfl
                    clear hy hb
                    refine wpAnyH_ready (rs := [9]) (by kernel_rfl) (by simp) ?_
                    refine AllReadyH.cons rfl (fun K hK => ?_) AllReadyH.nil
                    go_simp
                    with_reducible refine (hD189_.src.wordI 2 3 2 3 (by omega) rfl (by omega) (by omega) (by omega)).mono ?_
                    rintro e y194_ ⟨u195_, hu196_, hl197_, rfl, hs198_, hg199_⟩
                    have hD200_ := hD189_.next hs198_ hg199_
                    have bk201_ := bk191_.grown hg199_ (by intro e; injection e with e; omega)
                    refine hK.out _ _ (by rw [hD200_.bkS.cell]; rfl) (fun hHeld => ?_)
                    clear hK K
                    first | simp only [Act.put, List.setIfInBounds_toArray, List.set_cons_zero, List.set_cons_succ] | skip
                    refine wpAnyH_take (i := 10) (oi := ?oi1553) (v := ?val1553) ?hi1553 ?hs1553 ?hf1553 ?hr1553 ?hQ1553 ?hy1553 ?hS1553 ?hrest1553
                    case hi1553 => (simp only [List.getElem?_toArray, List.getElem?_cons_succ, List.getElem?_cons_zero] <;> exact rfl)
                    case hs1553 => kernel_rfl
                    case hf1553 => kernel_rfl
                    case hr1553 => kernel_rfl
                    case hQ1553 => exact fun _ _ _ h => h
                    case hS1553 => assumption
                    case hy1553 => (refine Or.inl ⟨by rfl, ?_⟩; intro w hSw; (try dsimp only at hSw); go_simp; try with_reducible rfl)
                    simp only [Act.put, List.setIfInBounds_toArray, List.set_cons_zero, List.set_cons_succ]
                    refine wpAnyH_ready (rs := [11]) (by kernel_rfl) (by simp) ?_
                    refine AllReadyH.cons rfl (fun K hK => ?_) AllReadyH.nil
                    go_simp
                    with_reducible refine (orient_any 2 u156_ u195_ _ (by omega) (by omega)).mono ?_
                    rintro e y202_ ⟨rfl, b203_⟩
                    have hD204_ := hD200_.below b203_
                    have bk205_ := bk201_.below b203_ bk201_.lt
                    refine hK.out _ _ (by rw [hD204_.bkS.cell]; rfl) (fun hHeld => ?_)
                    clear hK K
                    first | simp only [Act.put, List.setIfInBounds_toArray, List.set_cons_zero, List.set_cons_succ] | skip
                    refine wpAnyH_take (i := 12) (oi := ?oi1572) (v := ?val1572) ?hi1572 ?hs1572 ?hf1572 ?hr1572 ?hQ1572 ?hy1572 ?hS1572 ?hrest1572
                    case hi1572 => (simp only [List.getElem?_toArray, List.getElem?_cons_succ, List.getElem?_cons_zero] <;> exact rfl)
                    case hs1572 => kernel_rfl
                    case hf1572 => kernel_rfl
                    case hr1572 => kernel_rfl
                    case hQ1572 => exact fun _ _ _ h => h
                    case hS1572 => assumption
                    case hy1572 => (refine Or.inl ⟨by rfl, ?_⟩; intro w hSw; (try dsimp only at hSw); go_simp; try with_reducible rfl)
                    simp only [Act.put, List.setIfInBounds_toArray, List.set_cons_zero, List.set_cons_succ]
                    refine wpAnyH_take (i := 13) (oi := ?oi1581) (v := ?val1581) ?hi1581 ?hs1581 ?hf1581 ?hr1581 ?hQ1581 ?hy1581 ?hS1581 ?hrest1581
                    case hi1581 => (simp only [List.getElem?_toArray, List.getElem?_cons_succ, List.getElem?_cons_zero] <;> exact rfl)
                    case hs1581 => kernel_rfl
                    case hf1581 => kernel_rfl
                    case hr1581 => kernel_rfl
                    case hQ1581 => exact fun _ _ _ h => h
                    case hS1581 => assumption
                    case hy1581 => (refine Or.inl ⟨by rfl, ?_⟩; intro w hSw; (try dsimp only at hSw); go_simp; try with_reducible rfl)
                    simp only [Act.put, List.setIfInBounds_toArray, List.set_cons_zero, List.set_cons_succ]
                    refine wpAnyH_take (i := 14) (oi := ?oi1590) (v := ?val1590) ?hi1590 ?hs1590 ?hf1590 ?hr1590 ?hQ1590 ?hy1590 ?hS1590 ?hrest1590
                    case hi1590 => (simp only [List.getElem?_toArray, List.getElem?_cons_succ, List.getElem?_cons_zero] <;> exact rfl)
                    case hs1590 => kernel_rfl
                    case hf1590 => kernel_rfl
                    case hr1590 => kernel_rfl
                    case hQ1590 => exact fun _ _ _ h => h
                    case hS1590 => assumption
                    case hy1590 => (refine Or.inl ⟨by rfl, ?_⟩; intro w hSw; (try dsimp only at hSw); go_simp; try with_reducible rfl)
                    simp only [Act.put, List.setIfInBounds_toArray, List.set_cons_zero, List.set_cons_succ]
                    exact hkey u156_ u195_ r190_ y202_ ⟨hD204_, bk205_, le192_, nb193_, hu157_, hl158_, hu196_, hl197_⟩
                · skip
                  go_simp
                  have hD207_ := hD0_.below ((Below.refl _ _).alloc (Nat.le_refl _) (.cells #[.string ⟨#[]⟩, .string ⟨#[]⟩] 68))
                  have bk209_ := Bk.new y0_ 68 #[.string ⟨#[]⟩, .string ⟨#[]⟩]
                  have le210_ : w.heap.size + 2 ≤ (World.heap y0_).size := hD0_.bkS.lt
                  have nb211_ := own_new_ne3 hD0_.own (Nat.le_refl _)
                  refine hK.out _ _ (by rw [hD207_.bkS.cell]; rfl) (fun hHeld => ?_)
                  clear hK K
                  first | simp only [Act.put, List.setIfInBounds_toArray, List.set_cons_zero, List.set_cons_succ] | skip
                  obtain ⟨y206_, hy⟩ : ∃ z, z = World.alloc y0_ (.cells #[.string ⟨#[]⟩, .string ⟨#[]⟩] 68) := ⟨_, rfl⟩
                  obtain ⟨r208_, hb⟩ : ∃ z, z = (World.heap y0_).size := ⟨_, rfl⟩
                  rw [← hy] at bk209_ hD207_
                  rw [← hb] at bk209_ le210_ nb211_
                  rw [← hy, ← hb]
                  clear hHeld
                  have hHeld : y206_.cell? ⟨w.heap.size + 1, 0, none⟩ = some (.int .i64 2) := by rw [hD207_.bkS.cell]; rfl
                  clear hy hb
                  refine wpAnyH_ready (rs := [5]) (by kernel_rfl) (by simp) ?_
                  refine AllReadyH.cons rfl (fun K hK => ?_) AllReadyH.nil
                  go_simp
                  with_reducible refine (hD207_.src.wordI 2 4 2 4 (by omega) rfl (by omega) (by omega) (by omega)).mono ?_
                  rintro e y212_ ⟨u213_, hu214_, hl215_, rfl, hs216_, hg217_⟩
                  have hD218_ := hD207_.next hs216_ hg217_
                  have bk219_ := bk209_.grown hg217_ (by intro e; injection e with e; omega)
                  refine hK.out _ _ (by rw [hD218_.bkS.cell]; rfl) (fun hHeld => ?_)
                  clear hK K
                  first | simp only [Act.put, List.setIfInBounds_toArray, List.set_cons_zero, List.set_cons_succ] | skip
                  refine wpAnyH_ready (rs := [9]) (by kernel_rfl) (by simp) ?_
                  refine AllReadyH.cons rfl (fun K hK => ?_) AllReadyH.nil
                  go_simp
                  with_reducible refine (hD218_.src.wordI 2 3 2 3 (by omega) rfl (by omega) (by omega) (by omega)).mono ?_
                  rintro e y220_ ⟨u221_, hu222_, hl223_, rfl, hs224_, hg225_⟩
                  have hD226_ := hD218_.next hs224_ hg225_
                  have bk227_ := bk219_.grown hg225_ (by intro e; injection e with e; omega)
                  refine hK.out _ _ (by rw [hD226_.bkS.cell]; rfl) (fun hHeld => ?_)
                  clear hK K
                  first | simp only [Act.put, List.setIfInBounds_toArray, List.set_cons_zero, List.set_cons_succ] | skip
                  refine wpAnyH_take (i := 10) (oi := ?oi1637) (v := ?val1637) ?hi1637 ?hs1637 ?hf1637 ?hr1637 ?hQ1637 ?hy1637 ?hS1637 ?hrest1637
                  case hi1637 => (simp only [List.getElem?_toArray, List.getElem?_cons_succ, List.getElem?_cons_zero] <;> exact rfl)
                  case hs1637 => kernel_rfl
                  case hf1637 => kernel_rfl
                  case hr1637 => kernel_rfl
                  case hQ1637 => exact fun _ _ _ h => h
                  case hS1637 => assumption
                  case hy1637 => (refine Or.inl ⟨by rfl, ?_⟩; intro w hSw; (try dsimp only at hSw); go_simp; try with_reducible rfl)
                  simp only [Act.put, List.setIfInBounds_toArray, List.set_cons_zero, List.set_cons_succ]
                  refine wpAnyH_ready (rs := [11]) (by kernel_rfl) (by simp) ?_
                  refine AllReadyH.cons rfl (fun K hK => ?_) AllReadyH.nil
                  go_simp
                  with_reducible refine (orient_any 2 u213_ u221_ _ (by omega) (by omega)).mono ?_
                  rintro e y228_ ⟨rfl, b229_⟩
                  have hD230_ := hD226_.below b229_
                  have bk231_ := bk227_.below b229_ bk227_.lt
                  refine hK.out _ _ (by rw [hD230_.bkS.cell]; rfl) (fun hHeld => ?_)
                  clear hK K
                  first | simp only [Act.put, List.setIfInBounds_toArray, List.set_cons_zero, List.set_cons_succ] | skip
                  refine wpAnyH_take (i := 12) (oi := ?oi1656) (v := ?val1656) ?hi1656 ?hs1656 ?hf1656 ?hr1656 ?hQ1656 ?hy1656 ?hS1656 ?hrest1656
                  case hi1656 => (simp only [List.getElem?_toArray, List.getElem?_cons_succ, List.getElem?_cons_zero] <;> exact rfl)
                  case hs1656 => kernel_rfl
                  case hf1656 => kernel_rfl
                  case hr1656 => kernel_rfl
                  case hQ1656 => exact fun _ _ _ h => h
                  case hS1656 => assumption
                  case hy1656 => (refine Or.inl ⟨by rfl, ?_⟩; intro w hSw; (try dsimp only at hSw); go_simp; try with_reducible rfl)
                  simp only [Act.put, List.setIfInBounds_toArray, List.set_cons_zero, List.set_cons_succ]
                  refine wpAnyH_take (i := 13) (oi := ?oi1665) (v := ?val1665) ?hi1665 ?hs1665 ?hf1665 ?hr1665 ?hQ1665 ?hy1665 ?hS1665 ?hrest1665
                  case hi1665 => (simp only [List.getElem?_toArray, List.getElem?_cons_succ, List.getElem?_cons_zero] <;> exact rfl)
                  case hs1665 => kernel_rfl
                  case hf1665 => kernel_rfl
                  case hr1665 => kernel_rfl
                  case hQ1665 => exact fun _ _ _ h => h
                  case hS1665 => assumption
                  case hy1665 => (refine Or.inl ⟨by rfl, ?_⟩; intro w hSw; (try dsimp only at hSw); go_simp; try with_reducible rfl)
                  simp only [Act.put, List.setIfInBounds_toArray, List.set_cons_zero, List.set_cons_succ]
                  refine wpAnyH_take (i := 14) (oi := ?oi1674) (v := ?val1674) ?hi1674 ?hs1674 ?hf1674 ?hr1674 ?hQ1674 ?hy1674 ?hS1674 ?hrest1674
                  case hi1674 => (simp only [List.getElem?_toArray, List.getElem?_cons_succ, List.getElem?_cons_zero] <;> exact rfl)
                  case hs1674 => kernel_rfl
                  case hf1674 => kernel_rfl
                  case hr1674 => kernel_rfl
                  case hQ1674 => exact fun _ _ _ h => h
                  case hS1674 => assumption
                  case hy1674 => (refine Or.inl ⟨by rfl, ?_⟩; intro w hSw; (try dsimp only at hSw); go_simp; try with_reducible rfl)
                  simp only [Act.put, List.setIfInBounds_toArray, List.set_cons_zero, List.set_cons_succ]
                  exact hkey u213_ u221_ r208_ y228_ ⟨hD230_, bk231_, le210_, nb211_, hu214_, hl215_, hu222_, hl223_⟩
              intro u v r y7 ⟨hD7, bk7, lr7, nb7, hu4, huL, hv3, hvL⟩
              obtain ⟨⟨⟨o1, o2⟩, ob⟩, ho⟩ : ∃ z, z = orientR 2 u v := ⟨_, rfl⟩
              rw [← ho]
              dsimp only
              clear c0 c1 f0 f1 lb s0 s1 sf0 sf1 sl
              have c0 : y7.cell? ⟨w.heap.size, 0, none⟩ = some (.int .i64 0) := by rw [hD7.bkR.cell]; rfl
              have c1 : y7.cell? ⟨w.heap.size, 1, none⟩ = some (.slice none 0 0) := by rw [hD7.bkR.cell]; rfl
              have f0 := hD7.bkR.free 0
              have f1 := hD7.bkR.free 1
              have lb := hD7.bkR.lt
              have s0 : y7.cell? ⟨w.heap.size + 1, 0, none⟩ = some (.int .i64 2) := by rw [hD7.bkS.cell]; rfl
              have s1 : y7.cell? ⟨w.heap.size + 1, 1, none⟩ = some (.slice B k d) := by rw [hD7.bkS.cell]; rfl
              have sf0 := hD7.bkS.free 0
              have sf1 := hD7.bkS.free 1
              have sl := hD7.bkS.lt
              have d0 : y7.cell? ⟨r, 0, none⟩ = some (.string ⟨#[]⟩) := by rw [bk7.cell]; rfl
              have d1 : y7.cell? ⟨r, 1, none⟩ = some (.string ⟨#[]⟩) := by rw [bk7.cell]; rfl
              have df0 := bk7.free 0
              have df1 := bk7.free 1
              have dl := bk7.lt
              have ne1 : ¬ w.heap.size = r := by omega
              have ne2 : ¬ w.heap.size + 1 = r := by omega
              have ne3 : ¬ r = w.heap.size := by omega
              have ne4 : ¬ r = w.heap.size + 1 := by omega
              have hD8 := (hD7.far (q := ⟨r, 0, none⟩) lr7 nb7 (.string o1)).far (q := ⟨r, 1, none⟩) lr7 nb7 (.string o2)
              have bk8 := (bk7.put 0 (.string o1)).put 1 (.string o2)
              refine wpAnyH_ready (rs := [16]) (by kernel_rfl) (by simp) ?_
              refine AllReadyH.cons rfl (fun K hK => ?_) AllReadyH.nil
              (go_simp)
              refine hK.out _ _ ((by (have hq := hD8.bkS.cell 0); rw [hq]; rfl)) (fun hHeld2 => ?_)
              clear hK K hHeld
              have hHeld := hHeld2
              clear hHeld2
              first | simp only [Act.put, List.setIfInBounds_toArray, List.set_cons_zero, List.set_cons_succ] | skip
              obtain ⟨y8, hy8⟩ : ∃ z, z = (y7.setCell ⟨r, 0, none⟩ (.string o1)).setCell ⟨r, 1, none⟩ (.string o2) := ⟨_, rfl⟩
              rw [← hy8] at hD8 bk8
              rw [← hy8]
              clear hHeld c0 c1 f0 f1 lb s0 s1 sf0 sf1 sl d0 d1 df0 df1 dl bk7 hD7
              have hHeld : y8.cell? ⟨w.heap.size + 1, 0, none⟩ = some (.int .i64 2) := by rw [hD8.bkS.cell]; rfl
              refine wpAnyH_take (i := 17) (oi := ?oi1723) (v := ?val1723) ?hi1723 ?hs1723 ?hf1723 ?hr1723 ?hQ1723 ?hy1723 ?hS1723 ?hrest1723
              case hi1723 => (simp only [List.getElem?_toArray, List.getElem?_cons_succ, List.getElem?_cons_zero] <;> exact rfl)
              case hs1723 => kernel_rfl
              case hf1723 => kernel_rfl
              case hr1723 => kernel_rfl
              case hQ1723 => exact fun _ _ _ h => h
              case hS1723 => assumption
              case hy1723 => (refine Or.inl ⟨by rfl, ?_⟩; intro w hSw; (try dsimp only at hSw); go_simp; try with_reducible rfl)
              simp only [Act.put, List.setIfInBounds_toArray, List.set_cons_zero, List.set_cons_succ]
              refine wpAnyH_done (by kernel_rfl) ?_ _
              clear hHeld hy8
              have c0 : y8.cell? ⟨w.heap.size, 0, none⟩ = some (.int .i64 0) := by rw [hD8.bkR.cell]; rfl
              have c1 : y8.cell? ⟨w.heap.size, 1, none⟩ = some (.slice none 0 0) := by rw [hD8.bkR.cell]; rfl
              have f0 := hD8.bkR.free 0
              have f1 := hD8.bkR.free 1
              have lb := hD8.bkR.lt
              have s0 : y8.cell? ⟨w.heap.size + 1, 0, none⟩ = some (.int .i64 2) := by rw [hD8.bkS.cell]; rfl
              have s1 : y8.cell? ⟨w.heap.size + 1, 1, none⟩ = some (.slice B k d) := by rw [hD8.bkS.cell]; rfl
              have sf0 := hD8.bkS.free 0
              have sf1 := hD8.bkS.free 1
              have sl := hD8.bkS.lt
              have d0 : y8.cell? ⟨r, 0, none⟩ = some (.string o1) := by rw [bk8.cell]; rfl
              have d1 : y8.cell? ⟨r, 1, none⟩ = some (.string o2) := by rw [bk8.cell]; rfl
              have dl := bk8.lt
              cases ob
              · skip
                have HD8 := Lib.hid hD8
                clear hD8
                have Bk8 := Lib.hid bk8
                clear bk8
                go_wp2_with fail
                go_roundw
                case rel => exact ⟨j - 1, B, k, d, rs, by go_num, by omega, HG, HD8⟩
                case measure => simp [intOf] <;> omega
              · have hO8 := hD8.own
                have hz8 := hD8.bkS.lt
                have HD8 := Lib.hid hD8
                clear hD8
                have Bk8 := Lib.hid bk8
                clear bk8
                go_wp2_with (at_builtin; go_loud (refine wpList_app5 _ y8 y8.heap.size rfl rfl _ _ 23 rfl (w.heap.size + 2) 68 2 32 _ Tryz.underlying23 info_Rule rfl (by omega) (.slice B k d) k _ _ rfl rfl rfl hO8 rfl (one_cell_ruleP _ _) (by omega) (by unfold maxLen; omega) (by omega) ?_); intro g5 c5 w5 hO9 hV9 hG9 hat9; have t1 : w5.cell? ⟨w.heap.size + 1, 1, none⟩ = some (.slice B k d) := (by have hq := HD8.out.bkS.below hV9 (by omega); rw [hq.cell]; rfl); have tf := (HD8.out.bkS.below hV9 (by omega)).free 1; have tl := (HD8.out.bkS.below hV9 (by omega)).lt)
                have hcr : cellsRule (rs ++ [(o1, o2)]) = cellsRule rs ++ (#[.string o1, .string o2] : Array Value).toList := by simp [cellsRule, encRule]
                have hO10 := hO9
                rw [← hcr] at hO10
                have hD9 := HD8.out.let1 hV9 hO10 (by rw [List.length_append, ← HD8.out.len]; rfl)
                have hgd := orient_good ho.symm
                refine ⟨⟨j - 1, some ⟨g5, 0, none⟩, k + 1, c5, rs ++ [(o1, o2)], by go_num, by omega, Lib.hid (fun q hq => ?_), hD9⟩, by simp [intOf] <;> omega⟩
                rcases List.mem_append.1 hq with h | h
                · exact HG.out q h
                · rw [List.mem_singleton.1 h]
                  exact hgd
            · have hsys := sys_of_all (l := 2) (by omega) (by omega) (by rw [← hD6.len]; omega) HG.out
              have HD6 := Lib.hid hD6
              clear hD6
              have Hsys := Lib.hid hsys
              clear hsys
              go_wp2_with fail
              have hne : (Value.slice B k d).ownBlock ≠ some w.heap.size := by
                intro e
                have := (HD6.out.own.lt _ e).1
                omega
              have hb9 : Below w.heap.size wr ((wr.setCell ⟨w.heap.size, 0, none⟩ (.int .i64 2)).setCell ⟨w.heap.size, 1, none⟩ (.slice B k d)) := ((Below.refl _ _).setCell (p := ⟨w.heap.size, 0, none⟩) (Nat.le_refl _) _).setCell (p := ⟨w.heap.size, 1, none⟩) (Nat.le_refl _) _
              have hO9 := own_mono (own_far3 (own_far3 HD6.out.own (p := ⟨w.heap.size, 0, none⟩) hne (.int .i64 2)) (p := ⟨w.heap.size, 1, none⟩) hne (.slice B k d)) (b' := w.heap.size) (show w.heap.size ≤ w.heap.size + 2 by omega)
              have hC9 := cur_low HD6.out.cur hb9 HD6.out.lP
              have hG9 := gb_up HD6.out.gb hb9
              have hBn := (HD6.out.bkR.put 0 (.int .i64 2)).put 1 (.slice B k d)
              have q0 := hBn.cell 0
              have q1 := hBn.cell 1
              refine bodyPost_ret (v := .agg #[.int .i64 2, .slice B k d]) (by simp [results, Tryz.results22, go_sem, q0, q1]) rfl ?_
              exact ⟨2, B, k, d, rs, Hsys.out, HD6.out.len, rfl, hO9, HD6.out.src0.next hC9 hG9, hG9⟩
        · go_wp2_with fail
          have hne : (Value.slice B6 k6 d6).ownBlock ≠ some w.heap.size := by
            intro e
            have := (HO8.out.lt _ e).1
            omega
          have hb9 : Below w.heap.size w7 ((w7.setCell ⟨w.heap.size, 0, none⟩ (.int .i64 l6)).setCell ⟨w.heap.size, 1, none⟩ (.slice B6 k6 d6)) := ((Below.refl _ _).setCell (p := ⟨w.heap.size, 0, none⟩) (Nat.le_refl _) _).setCell (p := ⟨w.heap.size, 1, none⟩) (Nat.le_refl _) _
          have hO9 := own_mono (own_far3 (own_far3 HO8.out (p := ⟨w.heap.size, 0, none⟩) hne (.int .i64 l6)) (p := ⟨w.heap.size, 1, none⟩) hne (.slice B6 k6 d6)) (b' := w.heap.size) (by omega)
          have hC9 := cur_low HD7.out.cur hb9 HD7.out.lP
          have hG9 := gb_up HD7.out.gb hb9
          have hBn := (HD7.out.bkR.put 0 (.int .i64 l6)).put 1 (.slice B6 k6 d6)
          have q0 := hBn.cell 0
          have q1 := hBn.cell 1
          refine bodyPost_ret (v := .agg #[.int .i64 l6, .slice B6 k6 d6]) (by simp [results, Tryz.results22, go_sem, q0, q1]) rfl ?_
          exact ⟨l6, B6, k6, d6, rs6, HSo.out.symm, Hk6.out, rfl, hO9, HD7.out.src0.next hC9 hG9, hG9⟩
  · go_wp2_with fail
    with_reducible refine (HD1.out.src.underI 3 3 rfl (by omega) (by omega)).mono ?_
    rintro e w2 ⟨yl, hyl, rfl, hs2, hg2⟩
    have hD2 := HD1.out.next hs2 hg2
    clear hs2 hg2 HD1 c0 c1 f0 f1 lb s0 s1 sf0 sf1 sl
    have c0 : w2.cell? ⟨w.heap.size, 0, none⟩ = some (.int .i64 0) := by rw [hD2.bkR.cell]; rfl
    have c1 : w2.cell? ⟨w.heap.size, 1, none⟩ = some (.slice none 0 0) := by rw [hD2.bkR.cell]; rfl
    have f0 := hD2.bkR.free 0
    have f1 := hD2.bkR.free 1
    have lb := hD2.bkR.lt
    have s0 : w2.cell? ⟨w.heap.size + 1, 0, none⟩ = some (.int .i64 2) := by rw [hD2.bkS.cell]; rfl
    have s1 : w2.cell? ⟨w.heap.size + 1, 1, none⟩ = some (.slice none 0 0) := by rw [hD2.bkS.cell]; rfl
    have sf0 := hD2.bkS.free 0
    have sf1 := hD2.bkS.free 1
    have sl := hD2.bkS.lt
    have hDl := hD2.let0 (1 + (yl : Int))
    have HD2 := Lib.hid hD2
    clear hD2
    have HDl := Lib.hid hDl
    clear hDl
    go_wp2_with fail
    with_reducible refine (HDl.out.src.onceI 2 2 rfl (by omega) (by omega)).mono ?_
    rintro e w3 ⟨b2, rfl, hs3, hg3⟩
    have hD3 := HDl.out.next hs3 hg3
    clear hs3 hg3 HDl c0 c1 f0 f1 lb s0 s1 sf0 sf1 sl
    have c0 : w3.cell? ⟨w.heap.size, 0, none⟩ = some (.int .i64 0) := by rw [hD3.bkR.cell]; rfl
    have c1 : w3.cell? ⟨w.heap.size, 1, none⟩ = some (.slice none 0 0) := by rw [hD3.bkR.cell]; rfl
    have f0 := hD3.bkR.free 0
    have f1 := hD3.bkR.free 1
    have lb := hD3.bkR.lt
    have s0 : w3.cell? ⟨w.heap.size + 1, 0, none⟩ = some (.int .i64 (1 + (yl : Int))) := by rw [hD3.bkS.cell]; rfl
    have s1 : w3.cell? ⟨w.heap.size + 1, 1, none⟩ = some (.slice none 0 0) := by rw [hD3.bkS.cell]; rfl
    have sf0 := hD3.bkS.free 0
    have sf1 := hD3.bkS.free 1
    have sl := hD3.bkS.lt
    have HD3 := Lib.hid hD3
    clear hD3
    cases b2
    · go_wp2_with fail
      with_reducible refine (HD3.out.src.underI 4 4 rfl (by omega) (by omega)).mono ?_
      rintro e w5 ⟨x, hx, rfl, hs5, hg5⟩
      have hD5 := HD3.out.next hs5 hg5
      clear hs5 hg5 HD3 c0 c1 f0 f1 lb s0 s1 sf0 sf1 sl
      have c0 : w5.cell? ⟨w.heap.size, 0, none⟩ = some (.int .i64 0) := by rw [hD5.bkR.cell]; rfl
      have c1 : w5.cell? ⟨w.heap.size, 1, none⟩ = some (.slice none 0 0) := by rw [hD5.bkR.cell]; rfl
      have f0 := hD5.bkR.free 0
      have f1 := hD5.bkR.free 1
      have lb := hD5.bkR.lt
      have s0 : w5.cell? ⟨w.heap.size + 1, 0, none⟩ = some (.int .i64 (1 + (yl : Int))) := by rw [hD5.bkS.cell]; rfl
      have s1 : w5.cell? ⟨w.heap.size + 1, 1, none⟩ = some (.slice none 0 0) := by rw [hD5.bkS.cell]; rfl
      have sf0 := hD5.bkS.free 0
      have sf1 := hD5.bkS.free 1
      have sl := hD5.bkS.lt
      have HD5 := Lib.hid hD5
      clear hD5
      go_wp2_with fail
      go_loopw [6] (fun i wr => ∃ (j : Nat) (B : Option Addr) (k d : Nat) (rs : List RuleT), i = .int .i64 j ∧ j + k ≤ 3 ∧ Hid (∀ r ∈ rs, ruleOk (1 + (yl : Int)) r = true ∧ fallsOk r = true) ∧ Hid (DrSt w wr P A n c zs (1 + (yl : Int)) B k d rs)) (fun i _ => (intOf i).toNat)
      case atStart => exact ⟨x, none, 0, 0, [], rfl, by omega, Lib.hid (by simp), HD5⟩
      case round =>
        clear HD5 c0 c1 f0 f1 lb s0 s1 sf0 sf1 sl
        obtain ⟨j, B, k, d, rs, rfl, hjk, HG, HD6⟩ := hrel
        have hD6 := HD6.out
        have c0 : wr.cell? ⟨w.heap.size, 0, none⟩ = some (.int .i64 0) := by rw [hD6.bkR.cell]; rfl
        have c1 : wr.cell? ⟨w.heap.size, 1, none⟩ = some (.slice none 0 0) := by rw [hD6.bkR.cell]; rfl
        have f0 := hD6.bkR.free 0
        have f1 := hD6.bkR.free 1
        have lb := hD6.bkR.lt
        have s0 : wr.cell? ⟨w.heap.size + 1, 0, none⟩ = some (.int .i64 (1 + (yl : Int))) := by rw [hD6.bkS.cell]; rfl
        have s1 : wr.cell? ⟨w.heap.size + 1, 1, none⟩ = some (.slice B k d) := by rw [hD6.bkS.cell]; rfl
        have sf0 := hD6.bkS.free 0
        have sf1 := hD6.bkS.free 1
        have sl := hD6.bkS.lt
        by_cases hlt : 0 < j
        · have lPr := hD6.lP
          go_wp2_with fail
          refine wp_region_held_drew (S := (fun W => W.cell? ⟨w.heap.size + 1, 0, none⟩ = some (.int .i64 (1 + (yl : Int))))) (by kernel_rfl) ((by (have hq := hD6.bkS.drew); rw [hq.cell]; rfl)) (fun hHeld => ?_)
          obtain ⟨y0_, hy0⟩ : ∃ z, z = World.drew wr := ⟨_, rfl⟩
          have hD0_ : DrSt w (World.drew wr) P A n c zs (1 + (yl : Int)) B k d rs := hD6.next hD6.src.drew gb_drew
          rw [← hy0] at hD0_
          rw [← hy0] at hHeld
          rw [← hy0]
          clear hy0
          refine wpAnyH_take (i := 0) (oi := ?oi1889) (v := ?val1889) ?hi1889 ?hs1889 ?hf1889 ?hr1889 ?hQ1889 ?hy1889 ?hS1889 ?hrest1889
          case hi1889 => (simp only [List.getElem?_toArray, List.getElem?_cons_succ, List.getElem?_cons_zero] <;> exact rfl)
          case hs1889 => kernel_rfl
          case hf1889 => kernel_rfl
          case hr1889 => kernel_rfl
          case hQ1889 => exact fun _ _ _ h => h
          case hS1889 => assumption
          case hy1889 => (refine Or.inl ⟨by rfl, ?_⟩; intro w hSw; (try dsimp only at hSw); go_simp; try with_reducible rfl)
          simp only [Act.put, List.setIfInBounds_toArray, List.set_cons_zero, List.set_cons_succ]
          refine wpAnyH_take (i := 1) (oi := ?oi1898) (v := ?val1898) ?hi1898 ?hs1898 ?hf1898 ?hr1898 ?hQ1898 ?hy1898 ?hS1898 ?hrest1898
          case hi1898 => (simp only [List.getElem?_toArray, List.getElem?_cons_succ, List.getElem?_cons_zero] <;> exact rfl)
          case hs1898 => kernel_rfl
          case hf1898 => kernel_rfl
          case hr1898 => kernel_rfl
          case hQ1898 => exact fun _ _ _ h => h
          case hS1898 => assumption
          case hy1898 => (refine Or.inl ⟨by rfl, ?_⟩; intro w hSw; (try dsimp only at hSw); go_simp; try with_reducible rfl)
          simp only [Act.put, List.setIfInBounds_toArray, List.set_cons_zero, List.set_cons_succ]
          refine wpAnyH_take (i := 2) (oi := ?oi1907) (v := ?val1907) ?hi1907 ?hs1907 ?hf1907 ?hr1907 ?hQ1907 ?hy1907 ?hS1907 ?hrest1907
          case hi1907 => (simp only [List.getElem?_toArray, List.getElem?_cons_succ, List.getElem?_cons_zero] <;> exact rfl)
          case hs1907 => kernel_rfl
          case hf1907 => kernel_rfl
          case hr1907 => kernel_rfl
          case hQ1907 => exact fun _ _ _ h => h
          case hS1907 => assumption
          case hy1907 => (refine Or.inl ⟨by rfl, ?_⟩; intro w hSw; (try dsimp only at hSw); go_simp; try with_reducible rfl)
          simp only [Act.put, List.setIfInBounds_toArray, List.set_cons_zero, List.set_cons_succ]
          refine wpAnyH_take (i := 3) (oi := ?oi1916) (v := ?val1916) ?hi1916 ?hs1916 ?hf1916 ?hr1916 ?hQ1916 ?hy1916 ?hS1916 ?hrest1916
          case hi1916 => (simp only [List.getElem?_toArray, List.getElem?_cons_succ, List.getElem?_cons_zero] <;> exact rfl)
          case hs1916 => kernel_rfl
          case hf1916 => kernel_rfl
          case hr1916 => kernel_rfl
          case hQ1916 => exact fun _ _ _ h => h
          case hS1916 => assumption
          case hy1916 => (refine Or.inl ⟨by rfl, ?_⟩; intro w hSw; (try dsimp only at hSw); go_simp; try with_reducible rfl)
          simp only [Act.put, List.setIfInBounds_toArray, List.set_cons_zero, List.set_cons_succ]
          refine wpAnyH_take (i := 4) (oi := ?oi1925) (v := ?val1925) ?hi1925 ?hs1925 ?hf1925 ?hr1925 ?hQ1925 ?hy1925 ?hS1925 ?hrest1925
          case hi1925 => (simp only [List.getElem?_toArray, List.getElem?_cons_succ, List.getElem?_cons_zero] <;> exact rfl)
          case hs1925 => kernel_rfl
          case hf1925 => kernel_rfl
          case hr1925 => kernel_rfl
          case hQ1925 => exact fun _ _ _ h => h
          case hS1925 => assumption
          case hy1925 => (refine Or.inl ⟨by rfl, ?_⟩; intro w hSw; (try dsimp only at hSw); go_simp; try with_reducible rfl)
          simp only [Act.put, List.setIfInBounds_toArray, List.set_cons_zero, List.set_cons_succ]
          refine wpAnyH_take (i := 6) (oi := ?oi1934) (v := ?val1934) ?hi1934 ?hs1934 ?hf1934 ?hr1934 ?hQ1934 ?hy1934 ?hS1934 ?hrest1934
          case hi1934 => (simp only [List.getElem?_toArray, List.getElem?_cons_succ, List.getElem?_cons_zero] <;> exact rfl)
          case hs1934 => kernel_rfl
          case hf1934 => kernel_rfl
          case hr1934 => kernel_rfl
          case hQ1934 => exact fun _ _ _ h => h
          case hS1934 => assumption
          case hy1934 => (refine Or.inl ⟨by rfl, ?_⟩; intro w hSw; (try dsimp only at hSw); go_simp; try with_reducible rfl)
          simp only [Act.put, List.setIfInBounds_toArray, List.set_cons_zero, List.set_cons_succ]
          refine wpAnyH_take (i := 7) (oi := ?oi1943) (v := ?val1943) ?hi1943 ?hs1943 ?hf1943 ?hr1943 ?hQ1943 ?hy1943 ?hS1943 ?hrest1943
          case hi1943 => (simp only [List.getElem?_toArray, List.getElem?_cons_succ, List.getElem?_cons_zero] <;> exact rfl)
          case hs1943 => kernel_rfl
          case hf1943 => kernel_rfl
          case hr1943 => kernel_rfl
          case hQ1943 => exact fun _ _ _ h => h
          case hS1943 => assumption
          case hy1943 => (refine Or.inl ⟨by rfl, ?_⟩; intro w hSw; (try dsimp only at hSw); go_simp; try with_reducible rfl)
          simp only [Act.put, List.setIfInBounds_toArray, List.set_cons_zero, List.set_cons_succ]
          refine wpAnyH_take (i := 8) (oi := ?oi1952) (v := ?val1952) ?hi1952 ?hs1952 ?hf1952 ?hr1952 ?hQ1952 ?hy1952 ?hS1952 ?hrest1952
          case hi1952 => (simp only [List.getElem?_toArray, List.getElem?_cons_succ, List.getElem?_cons_zero] <;> exact rfl)
          case hs1952 => kernel_rfl
          case hf1952 => kernel_rfl
          case hr1952 => kernel_rfl
          case hQ1952 => exact fun _ _ _ h => h
          case hS1952 => assumption
          case hy1952 => (refine Or.inl ⟨by rfl, ?_⟩; intro w hSw; (try dsimp only at hSw); go_simp; try with_reducible rfl)
          simp only [Act.put, List.setIfInBounds_toArray, List.set_cons_zero, List.set_cons_succ]
          apply meetD (F := fun u v r y => DrSt w y P A n c zs (1 + (yl : Int)) B k d rs ∧ Bk y r 68 #[.string ⟨#[]⟩, .string ⟨#[]⟩] ∧ w.heap.size + 2 ≤ r ∧ (Value.slice B k d).ownBlock ≠ some r ∧ u.size ≤ 4 ∧ lettersOk (((1 + yl) : Nat) : Int) u = true ∧ v.size ≤ 3 ∧ lettersOk (((1 + yl) : Nat) : Int) v = true)
          · intro hkey
            refine wpAnyH_ready (rs := [5, 15]) (by kernel_rfl) (by simp) ?_
            refine AllReadyH.cons rfl (fun K hK => ?_) (AllReadyH.cons rfl (fun K hK => ?_) AllReadyH.nil)
            · skip
              go_simp
              with_reducible refine (hD0_.src.wordI (1 + yl) 4 (1 + (yl : Int)) 4 (by omega) rfl (by omega) (by omega) (by omega)).mono ?_
              rintro e y232_ ⟨u233_, hu234_, hl235_, rfl, hs236_, hg237_⟩
              have hD238_ := hD0_.next hs236_ hg237_
              refine hK.out _ _ (by rw [hD238_.bkS.cell]; rfl) (fun hHeld => ?_)
              clear hK K
              first | simp only [Act.put, List.setIfInBounds_toArray, List.set_cons_zero, List.set_cons_succ] | skip
              refine wpAnyH_ready (rs := [9, 15]) (by kernel_rfl) (by simp) ?_
              refine AllReadyH.cons rfl (fun K hK => ?_) (AllReadyH.cons rfl (fun K hK => ?_) AllReadyH.nil)
              · skip
                go_simp
                with_reducible refine (hD238_.src.wordI (1 + yl) 3 (1 + (yl : Int)) 3 (by omega) rfl (by omega) (by omega) (by omega)).mono ?_
                rintro e y239_ ⟨u240_, hu241_, hl242_, rfl, hs243_, hg244_⟩
                have hD245_ := hD238_.next hs243_ hg244_
                refine hK.out _ _ (by rw [hD245_.bkS.cell]; rfl) (fun hHeld => ?_)
                clear hK K
                first | simp only [Act.put, List.setIfInBounds_toArray, List.set_cons_zero, List.set_cons_succ] | skip
                refine wpAnyH_take (i := 10) (oi := ?oi1983) (v := ?val1983) ?hi1983 ?hs1983 ?hf1983 ?hr1983 ?hQ1983 ?hy1983 ?hS1983 ?hrest1983
                case hi1983 => (simp only [List.getElem?_toArray, List.getElem?_cons_succ, List.getElem?_cons_zero] <;> exact rfl)
                case hs1983 => kernel_rfl
                case hf1983 => kernel_rfl
                case hr1983 => kernel_rfl
                case hQ1983 => exact fun _ _ _ h => h
                case hS1983 => assumption
                case hy1983 => (refine Or.inl ⟨by rfl, ?_⟩; intro w hSw; (try dsimp only at hSw); go_simp; try with_reducible rfl)
                simp only [Act.put, List.setIfInBounds_toArray, List.set_cons_zero, List.set_cons_succ]
                refine wpAnyH_ready (rs := [11, 15]) (by kernel_rfl) (by simp) ?_
                refine AllReadyH.cons rfl (fun K hK => ?_) (AllReadyH.cons rfl (fun K hK => ?_) AllReadyH.nil)
                · skip
                  go_simp
                  with_reducible refine (orient_any (1 + (yl : Int)) u233_ u240_ _ (by omega) (by omega)).mono ?_
                  rintro e y246_ ⟨rfl, b247_⟩
                  have hD248_ := hD245_.below b247_
                  refine hK.out _ _ (by rw [hD248_.bkS.cell]; rfl) (fun hHeld => ?_)
                  clear hK K
                  first | simp only [Act.put, List.setIfInBounds_toArray, List.set_cons_zero, List.set_cons_succ] | skip
                  refine wpAnyH_take (i := 12) (oi := ?oi2002) (v := ?val2002) ?hi2002 ?hs2002 ?hf2002 ?hr2002 ?hQ2002 ?hy2002 ?hS2002 ?hrest2002
                  case hi2002 => (simp only [List.getElem?_toArray, List.getElem?_cons_succ, List.getElem?_cons_zero] <;> exact rfl)
                  case hs2002 => kernel_rfl
                  case hf2002 => kernel_rfl
                  case hr2002 => kernel_rfl
                  case hQ2002 => exact fun _ _ _ h => h
                  case hS2002 => assumption
                  case hy2002 => (refine Or.inl ⟨by rfl, ?_⟩; intro w hSw; (try dsimp only at hSw); go_simp; try with_reducible rfl)
                  simp only [Act.put, List.setIfInBounds_toArray, List.set_cons_zero, List.set_cons_succ]
                  refine wpAnyH_take (i := 13) (oi := ?oi2011) (v := ?val2011) ?hi2011 ?hs2011 ?hf2011 ?hr2011 ?hQ2011 ?hy2011 ?hS2011 ?hrest2011
                  case hi2011 => (simp only [List.getElem?_toArray, List.getElem?_cons_succ, List.getElem?_cons_zero] <;> exact rfl)
                  case hs2011 => kernel_rfl
                  case hf2011 => kernel_rfl
                  case hr2011 => kernel_rfl
                  case hQ2011 => exact fun _ _ _ h => h
                  case hS2011 => assumption
                  case hy2011 => (refine Or.inl ⟨by rfl, ?_⟩; intro w hSw; (try dsimp only at hSw); go_simp; try with_reducible rfl)
                  simp only [Act.put, List.setIfInBounds_toArray, List.set_cons_zero, List.set_cons_succ]
                  refine wpAnyH_take (i := 14) (oi := ?oi2020) (v := ?val2020) ?hi2020 ?hs2020 ?hf2020 ?hr2020 ?hQ2020 ?hy2020 ?hS2020 ?hrest2020
                  case hi2020 => (simp only [List.getElem?_toArray, List.getElem?_cons_succ, List.getElem?_cons_zero] <;> exact rfl)
                  case hs2020 => kernel_rfl
                  case hf2020 => kernel_rfl
                  case hr2020 => kernel_rfl
                  case hQ2020 => exact fun _ _ _ h => h
                  case hS2020 => assumption
                  case hy2020 => (refine Or.inl ⟨by rfl, ?_⟩; intro w hSw; (try dsimp only at hSw); go_simp; try with_reducible rfl)
                  simp only [Act.put, List.setIfInBounds_toArray, List.set_cons_zero, List.set_cons_succ]
                  refine wpAnyH_ready (rs := [15]) (by kernel_rfl) (by simp) ?_
                  refine AllReadyH.cons rfl (fun K hK => ?_) AllReadyH.nil
                  go_simp
                  have hD250_ := hD248_.below ((Below.refl _ _).alloc (Nat.le_refl _) (.cells #[.string ⟨#[]⟩, .string ⟨#[]⟩] 68))
                  have bk252_ := Bk.new y246_ 68 #[.string ⟨#[]⟩, .string ⟨#[]⟩]
                  have le253_ : w.heap.size + 2 ≤ (World.heap y246_).size := hD248_.bkS.lt
                  have nb254_ := own_new_ne3 hD248_.own (Nat.le_refl _)
                  refine hK.out _ _ (by rw [hD250_.bkS.cell]; rfl) (fun hHeld => ?_)
                  clear hK K
                  first | simp only [Act.put, List.setIfInBounds_toArray, List.set_cons_zero, List.set_cons_succ] | skip
                  obtain ⟨y249_, hy⟩ : ∃ z, z = World.alloc y246_ (.cells #[.string ⟨#[]⟩, .string ⟨#[]⟩] 68) := ⟨_, rfl⟩
                  obtain ⟨r251_, hb⟩ : ∃ z, z = (World.heap y246_).size := ⟨_, rfl⟩
                  rw [← hy] at bk252_ hD250_
                  rw [← hb] at bk252_ le253_ nb254_
                  rw [← hy, ← hb]
                  clear hHeld
                  have hHeld : y249_.cell? ⟨w.heap.size + 1, 0, none⟩ = some (.int .i64 (1 + (yl : Int))) := by rw [hD250_.bkS.cell]; rfl
                  clear hy hb
                  exact hkey u233_ u240_ r251_ y249_ ⟨hD250_, bk252_, le253_, nb254_, hu234_, hl235_, hu241_, hl242_⟩
                · skip
                  go_simp
                  have hD256_ := hD245_.below ((Below.refl _ _).alloc (Nat.le_refl _) (.cells #[.string ⟨#[]⟩, .string ⟨#[]⟩] 68))
                  have bk258_ := Bk.new y239_ 68 #[.string ⟨#[]⟩, .string ⟨#[]⟩]
                  have le259_ : w.heap.size + 2 ≤ (World.heap y239_).size := hD245_.bkS.lt
                  have nb260_ := own_new_ne3 hD245_.own (Nat.le_refl _)
                  refine hK.out _ _ (by rw [hD256_.bkS.cell]; rfl) (fun hHeld => ?_)
                  clear hK K
                  first | simp only [Act.put, List.setIfInBounds_toArray, List.set_cons_zero, List.set_cons_succ] | skip
                  obtain ⟨y255_, hy⟩ : ∃ z, z = World.alloc y239_ (.cells #[.string ⟨#[]⟩, .string ⟨#[]⟩] 68) := ⟨_, rfl⟩
                  obtain ⟨r257_, hb⟩ : ∃ z, z = (World.heap y239_).size := ⟨_, rfl⟩
                  rw [← hy] at bk258_ hD256_
                  rw [← hb] at bk258_ le259_ nb260_
                  rw [← hy, ← hb]
                  clear hHeld
                  have hHeld : y255_.cell? ⟨w.heap.size + 1, 0, none⟩ = some (.int .i64 (1 + (yl : Int))) := by rw [hD256_.bkS.cell]; rfl
                  clear hy hb
                  refine wpAnyH_ready (rs := [11]) (by kernel_rfl) (by simp) ?_
                  refine AllReadyH.cons rfl (fun K hK => ?_) AllReadyH.nil
                  go_simp
                  with_reducible refine (orient_any (1 + (yl : Int)) u233_ u240_ _ (by omega) (by omega)).mono ?_
                  rintro e y261_ ⟨rfl, b262_⟩
                  have hD263_ := hD256_.below b262_
                  have bk264_ := bk258_.below b262_ bk258_.lt
                  refine hK.out _ _ (by rw [hD263_.bkS.cell]; rfl) (fun hHeld => ?_)
                  clear hK K
                  first | simp only [Act.put, List.setIfInBounds_toArray, List.set_cons_zero, List.set_cons_succ] | skip
                  refine wpAnyH_take (i := 12) (oi := ?oi2075) (v := ?val2075) ?hi2075 ?hs2075 ?hf2075 ?hr2075 ?hQ2075 ?hy2075 ?hS2075 ?hrest2075
                  case hi2075 => (simp only [List.getElem?_toArray, List.getElem?_cons_succ, List.getElem?_cons_zero] <;> exact rfl)
                  case hs2075 => kernel_rfl
                  case hf2075 => kernel_rfl
                  case hr2075 => kernel_rfl
                  case hQ2075 => exact fun _ _ _ h => h
                  case hS2075 => assumption
                  case hy2075 => (refine Or.inl ⟨by rfl, ?_⟩; intro w hSw; (try dsimp only at hSw); go_simp; try with_reducible rfl)
                  simp only [Act.put, List.setIfInBounds_toArray, List.set_cons_zero, List.set_cons_succ]
                  refine wpAnyH_take (i := 13) (oi := ?oi2084) (v := ?val2084) ?hi2084 ?hs2084 ?hf2084 ?hr2084 ?hQ2084 ?hy2084 ?hS2084 ?hrest2084
                  case hi2084 => (simp only [List.getElem?_toArray, List.getElem?_cons_succ, List.getElem?_cons_zero] <;> exact rfl)
                  case hs2084 => kernel_rfl
                  case hf2084 => kernel_rfl
                  case hr2084 => kernel_rfl
                  case hQ2084 => exact fun _ _ _ h => h
                  case hS2084 => assumption
                  case hy2084 => (refine Or.inl ⟨by rfl, ?_⟩; intro w hSw; (try dsimp only at hSw); go_simp; try with_reducible rfl)
                  simp only [Act.put, List.setIfInBounds_toArray, List.set_cons_zero, List.set_cons_succ]
                  refine wpAnyH_take (i := 14) (oi := ?oi2093) (v := ?val2093) ?hi2093 ?hs2093 ?hf2093 ?hr2093 ?hQ2093 ?hy2093 ?hS2093 ?hrest2093
                  case hi2093 => (simp only [List.getElem?_toArray, List.getElem?_cons_succ, List.getElem?_cons_zero] <;> exact rfl)
                  case hs2093 => kernel_rfl
                  case hf2093 => kernel_rfl
                  case hr2093 => kernel_rfl
                  case hQ2093 => exact fun _ _ _ h => h
                  case hS2093 => assumption
                  case hy2093 => (refine Or.inl ⟨by rfl, ?_⟩; intro w hSw; (try dsimp only at hSw); go_simp; try with_reducible rfl)
                  simp only [Act.put, List.setIfInBounds_toArray, List.set_cons_zero, List.set_cons_succ]
                  exact hkey u233_ u240_ r257_ y261_ ⟨hD263_, bk264_, le259_, nb260_, hu234_, hl235_, hu241_, hl242_⟩
              · skip
                go_simp
                have hD266_ := hD238_.below ((Below.refl _ _).alloc (Nat.le_refl _) (.cells #[.string ⟨#[]⟩, .string ⟨#[]⟩] 68))
                have bk268_ := Bk.new y232_ 68 #[.string ⟨#[]⟩, .string ⟨#[]⟩]
                have le269_ : w.heap.size + 2 ≤ (World.heap y232_).size := hD238_.bkS.lt
                have nb270_ := own_new_ne3 hD238_.own (Nat.le_refl _)
                refine hK.out _ _ (by rw [hD266_.bkS.cell]; rfl) (fun hHeld => ?_)
                clear hK K
                first | simp only [Act.put, List.setIfInBounds_toArray, List.set_cons_zero, List.set_cons_succ] | skip
                obtain ⟨y265_, hy⟩ : ∃ z, z = World.alloc y232_ (.cells #[.string ⟨#[]⟩, .string ⟨#[]⟩] 68) := ⟨_, rfl⟩
                obtain ⟨r267_, hb⟩ : ∃ z, z = (World.heap y232_).size := ⟨_, rfl⟩
                rw [← hy] at bk268_ hD266_
                rw [← hb] at bk268_ le269_ nb270_
                rw [← hy, ← hb]
                clear hHeld
                have hHeld : y265_.cell? ⟨w.heap.size + 1, 0, none⟩ = some (.int .i64 (1 + (yl : Int))) := by rw [hD266_.bkS.cell]; rfl
                clear hy hb
                refine wpAnyH_ready (rs := [9]) (by kernel_rfl) (by simp) ?_
                refine AllReadyH.cons rfl (fun K hK => ?_) AllReadyH.nil
                go_simp
                with_reducible refine (hD266_.src.wordI (1 + yl) 3 (1 + (yl : Int)) 3 (by omega) rfl (by omega) (by omega) (by omega)).mono ?_
                rintro e y271_ ⟨u272_, hu273_, hl274_, rfl, hs275_, hg276_⟩
                have hD277_ := hD266_.next hs275_ hg276_
                have bk278_ := bk268_.grown hg276_ (by intro e; injection e with e; omega)
                refine hK.out _ _ (by rw [hD277_.bkS.cell]; rfl) (fun hHeld => ?_)
                clear hK K
                first | simp only [Act.put, List.setIfInBounds_toArray, List.set_cons_zero, List.set_cons_succ] | skip
                refine wpAnyH_take (i := 10) (oi := ?oi2130) (v := ?val2130) ?hi2130 ?hs2130 ?hf2130 ?hr2130 ?hQ2130 ?hy2130 ?hS2130 ?hrest2130
                case hi2130 => (simp only [List.getElem?_toArray, List.getElem?_cons_succ, List.getElem?_cons_zero] <;> exact rfl)
                case hs2130 => kernel_rfl
                case hf2130 => kernel_rfl
                case hr2130 => kernel_rfl
                case hQ2130 => exact fun _ _ _ h => h
                case hS2130 => assumption
                case hy2130 => (refine Or.inl ⟨by rfl, ?_⟩; intro w hSw; (try dsimp only at hSw); go_simp; try with_reducible rfl)
                simp only [Act.put, List.setIfInBounds_toArray, List.set_cons_zero, List.set_cons_succ]
                refine wpAnyH_ready (rs := [11]) (by kernel_rfl) (by simp) ?_
                refine AllReadyH.cons rfl (fun K hK => ?_) AllReadyH.nil
                go_simp
                with_reducible refine (orient_any (1 + (yl : Int)) u233_ u272_ _ (by omega) (by omega)).mono ?_
                rintro e y279_ ⟨rfl, b280_⟩
                have hD281_ := hD277_.below b280_
                have bk282_ := bk278_.below b280_ bk278_.lt
                refine hK.out _ _ (by rw [hD281_.bkS.cell]; rfl) (fun hHeld => ?_)
                clear hK K
                first | simp only [Act.put, List.setIfInBounds_toArray, List.set_cons_zero, List.set_cons_succ] | skip
                refine wpAnyH_take (i := 12) (oi := ?oi2149) (v := ?val2149) ?hi2149 ?hs2149 ?hf2149 ?hr2149 ?hQ2149 ?hy2149 ?hS2149 ?hrest2149
                case hi2149 => (simp only [List.getElem?_toArray, List.getElem?_cons_succ, List.getElem?_cons_zero] <;> exact rfl)
                case hs2149 => kernel_rfl
                case hf2149 => kernel_rfl
                case hr2149 => kernel_rfl
                case hQ2149 => exact fun _ _ _ h => h
                case hS2149 => assumption
                case hy2149 => (refine Or.inl ⟨by rfl, ?_⟩; intro w hSw; (try dsimp only at hSw); go_simp; try with_reducible rfl)
                simp only [Act.put, List.setIfInBounds_toArray, List.set_cons_zero, List.set_cons_succ]
                refine wpAnyH_take (i := 13) (oi := ?oi2158) (v := ?val2158) ?hi2158 ?hs2158 ?hf2158 ?hr2158 ?hQ2158 ?hy2158 ?hS2158 ?hrest2158
                case hi2158 => (simp only [List.getElem?_toArray, List.getElem?_cons_succ, List.getElem?_cons_zero] <;> exact rfl)
                case hs2158 => kernel_rfl
                case hf2158 => kernel_rfl
                case hr2158 => kernel_rfl
                case hQ2158 => exact fun _ _ _ h => h
                case hS2158 => assumption
                case hy2158 => (refine Or.inl ⟨by rfl, ?_⟩; intro w hSw; (try dsimp only at hSw); go_simp; try with_reducible rfl)
                simp only [Act.put, List.setIfInBounds_toArray, List.set_cons_zero, List.set_cons_succ]
                refine wpAnyH_take (i := 14) (oi := ?oi2167) (v := ?val2167) ?hi2167 ?hs2167 ?hf2167 ?hr2167 ?hQ2167 ?hy2167 ?hS2167 ?hrest2167
                case hi2167 => (simp only [List.getElem?_toArray, List.getElem?_cons_succ, List.getElem?_cons_zero] <;> exact rfl)
                case hs2167 => kernel_rfl
                case hf2167 => kernel_rfl
                case hr2167 => kernel_rfl
                case hQ2167 => exact fun _ _ _ h => h
                case hS2167 => assumption
                case hy2167 => (refine Or.inl ⟨by rfl, ?_⟩; intro w hSw; (try dsimp only at hSw); go_simp; try with_reducible rfl)
                simp only [Act.put, List.setIfInBounds_toArray, List.set_cons_zero, List.set_cons_succ]
                exact hkey u233_ u272_ r267_ y279_ ⟨hD281_, bk282_, le269_, nb270_, hu234_, hl235_, hu273_, hl274_⟩
            · skip
              go_simp
              have hD284_ := hD0_.below ((Below.refl _ _).alloc (Nat.le_refl _) (.cells #[.string ⟨#[]⟩, .string ⟨#[]⟩] 68))
              have bk286_ := Bk.new y0_ 68 #[.string ⟨#[]⟩, .string ⟨#[]⟩]
              have le287_ : w.heap.size + 2 ≤ (World.heap y0_).size := hD0_.bkS.lt
              have nb288_ := own_new_ne3 hD0_.own (Nat.le_refl _)
              refine hK.out _ _ (by rw [hD284_.bkS.cell]; rfl) (fun hHeld => ?_)
              clear hK K
              first | simp only [Act.put, List.setIfInBounds_toArray, List.set_cons_zero, List.set_cons_succ] | skip
              obtain ⟨y283_, hy⟩ : ∃ z, z = World.alloc y0_ (.cells #[.string ⟨#[]⟩, .string ⟨#[]⟩] 68) := ⟨_, rfl⟩
              obtain ⟨r285_, hb⟩ : ∃ z, z = (World.heap y0_).size := ⟨_, rfl⟩
              rw [← hy] at bk286_ hD284_
              rw [← hb] at bk286_ le287_ nb288_
              rw [← hy, ← hb]
              clear hHeld
              have hHeld : y283_.cell? ⟨w.heap.size + 1, 0, none⟩ = some (.int .i64 (1 + (yl : Int))) := by rw [hD284_.bkS.cell]; rfl
              clear hy hb
              refine wpAnyH_ready (rs := [5]) (by kernel_rfl) (by simp) ?_
              refine AllReadyH.cons rfl (fun K hK => ?_) AllReadyH.nil
              go_simp
              with_reducible refine (hD284_.src.wordI (1 + yl) 4 (1 + (yl : Int)) 4 (by omega) rfl (by omega) (by omega) (by omega)).mono ?_
              rintro e y289_ ⟨u290_, hu291_, hl292_, rfl, hs293_, hg294_⟩
              have hD295_ := hD284_.next hs293_ hg294_
              have bk296_ := bk286_.grown hg294_ (by intro e; injection e with e; omega)
              refine hK.out _ _ (by rw [hD295_.bkS.cell]; rfl) (fun hHeld => ?_)
              clear hK K
              first | simp only [Act.put, List.setIfInBounds_toArray, List.set_cons_zero, List.set_cons_succ] | skip
              refine wpAnyH_ready (rs := [9]) (by kernel_rfl) (by simp) ?_
              refine AllReadyH.cons rfl (fun K hK => ?_) AllReadyH.nil
              go_simp
              with_reducible refine (hD295_.src.wordI (1 + yl) 3 (1 + (yl : Int)) 3 (by omega) rfl (by omega) (by omega) (by omega)).mono ?_
              rintro e y297_ ⟨u298_, hu299_, hl300_, rfl, hs301_, hg302_⟩
              have hD303_ := hD295_.next hs301_ hg302_
              have bk304_ := bk296_.grown hg302_ (by intro e; injection e with e; omega)
              refine hK.out _ _ (by rw [hD303_.bkS.cell]; rfl) (fun hHeld => ?_)
              clear hK K
              first | simp only [Act.put, List.setIfInBounds_toArray, List.set_cons_zero, List.set_cons_succ] | skip
              refine wpAnyH_take (i := 10) (oi := ?oi2214) (v := ?val2214) ?hi2214 ?hs2214 ?hf2214 ?hr2214 ?hQ2214 ?hy2214 ?hS2214 ?hrest2214
              case hi2214 => (simp only [List.getElem?_toArray, List.getElem?_cons_succ, List.getElem?_cons_zero] <;> exact rfl)
              case hs2214 => kernel_rfl
              case hf2214 => kernel_rfl
              case hr2214 => kernel_rfl
              case hQ2214 => exact fun _ _ _ h => h
              case hS2214 => assumption
              case hy2214 => (refine Or.inl ⟨by rfl, ?_⟩; intro w hSw; (try dsimp only at hSw); go_simp; try with_reducible rfl)
              simp only [Act.put, List.setIfInBounds_toArray, List.set_cons_zero, List.set_cons_succ]
              refine wpAnyH_ready (rs := [11]) (by kernel_rfl) (by simp) ?_
              refine AllReadyH.cons rfl (fun K hK => ?_) AllReadyH.nil
              go_simp
              with_reducible refine (orient_any (1 + (yl : Int)) u290_ u298_ _ (by omega) (by omega)).mono ?_
              rintro e y305_ ⟨rfl, b306_⟩
              have hD307_ := hD303_.below b306_
              have bk308_ := bk304_.below b306_ bk304_.lt
              refine hK.out _ _ (by rw [hD307_.bkS.cell]; rfl) (fun hHeld => ?_)
              clear hK K
              first | simp only [Act.put, List.setIfInBounds_toArray, List.set_cons_zero, List.set_cons_succ] | skip
              refine wpAnyH_take (i := 12) (oi := ?oi2233) (v := ?val2233) ?hi2233 ?hs2233 ?hf2233 ?hr2233 ?hQ2233 ?hy2233 ?hS2233 ?hrest2233
              case hi2233 => (simp only [List.getElem?_toArray, List.getElem?_cons_succ, List.getElem?_cons_zero] <;> exact rfl)
              case hs2233 => kernel_rfl
              case hf2233 => kernel_rfl
              case hr2233 => kernel_rfl
              case hQ2233 => exact fun _ _ _ h => h
              case hS2233 => assumption
              case hy2233 => (refine Or.inl ⟨by rfl, ?_⟩; intro w hSw; (try dsimp only at hSw); go_simp; try with_reducible rfl)
              simp only [Act.put, List.setIfInBounds_toArray, List.set_cons_zero, List.set_cons_succ]
              refine wpAnyH_take (i := 13) (oi := ?oi2242) (v := ?val2242) ?hi2242 ?hs2242 ?hf2242 ?hr2242 ?hQ2242 ?hy2242 ?hS2242 ?hrest2242
              case hi2242 => (simp only [List.getElem?_toArray, List.getElem?_cons_succ, List.getElem?_cons_zero] <;> exact rfl)
              case hs2242 => kernel_rfl
              case hf2242 => kernel_rfl
              case hr2242 => kernel_rfl
              case hQ2242 => exact fun _ _ _ h => h
              case hS2242 => assumption
              case hy2242 => (refine Or.inl ⟨by rfl, ?_⟩; intro w hSw; (try dsimp only at hSw); go_simp; try with_reducible rfl)
              simp only [Act.put, List.setIfInBounds_toArray, List.set_cons_zero, List.set_cons_succ]
              refine wpAnyH_take (i := 14) (oi := ?oi2251) (v := ?val2251) ?hi2251 ?hs2251 ?hf2251 ?hr2251 ?hQ2251 ?hy2251 ?hS2251 ?hrest2251
              case hi2251 => (simp only [List.getElem?_toArray, List.getElem?_cons_succ, List.getElem?_cons_zero] <;> exact rfl)
              case hs2251 => kernel_rfl
              case hf2251 => kernel_rfl
              case hr2251 => kernel_rfl
              case hQ2251 => exact fun _ _ _ h => h
              case hS2251 => assumption
              case hy2251 => (refine Or.inl ⟨by rfl, ?_⟩; intro w hSw; (try dsimp only at hSw); go_simp; try with_reducible rfl)
              simp only [Act.put, List.setIfInBounds_toArray, List.set_cons_zero, List.set_cons_succ]
              exact hkey u290_ u298_ r285_ y305_ ⟨hD307_, bk308_, le287_, nb288_, hu291_, hl292_, hu299_, hl300_⟩
          intro u v r y7 ⟨hD7, bk7, lr7, nb7, hu4, huL, hv3, hvL⟩
          obtain ⟨⟨⟨o1, o2⟩, ob⟩, ho⟩ : ∃ z, z = orientR (1 + (yl : Int)) u v := ⟨_, rfl⟩
          rw [← ho]
          dsimp only
          clear c0 c1 f0 f1 lb s0 s1 sf0 sf1 sl
          have c0 : y7.cell? ⟨w.heap.size, 0, none⟩ = some (.int .i64 0) := by rw [hD7.bkR.cell]; rfl
          have c1 : y7.cell? ⟨w.heap.size, 1, none⟩ = some (.slice none 0 0) := by rw [hD7.bkR.cell]; rfl
          have f0 := hD7.bkR.free 0
          have f1 := hD7.bkR.free 1
          have lb := hD7.bkR.lt
          have s0 : y7.cell? ⟨w.heap.size + 1, 0, none⟩ = some (.int .i64 (1 + (yl : Int))) := by rw [hD7.bkS.cell]; rfl
          have s1 : y7.cell? ⟨w.heap.size + 1, 1, none⟩ = some (.slice B k d) := by rw [hD7.bkS.cell]; rfl
          have sf0 := hD7.bkS.free 0
          have sf1 := hD7.bkS.free 1
          have sl := hD7.bkS.lt
          have d0 : y7.cell? ⟨r, 0, none⟩ = some (.string ⟨#[]⟩) := by rw [bk7.cell]; rfl
          have d1 : y7.cell? ⟨r, 1, none⟩ = some (.string ⟨#[]⟩) := by rw [bk7.cell]; rfl
          have df0 := bk7.free 0
          have df1 := bk7.free 1
          have dl := bk7.lt
          have ne1 : ¬ w.heap.size = r := by omega
          have ne2 : ¬ w.heap.size + 1 = r := by omega
          have ne3 : ¬ r = w.heap.size := by omega
          have ne4 : ¬ r = w.heap.size + 1 := by omega
          have hD8 := (hD7.far (q := ⟨r, 0, none⟩) lr7 nb7 (.string o1)).far (q := ⟨r, 1, none⟩) lr7 nb7 (.string o2)
          have bk8 := (bk7.put 0 (.string o1)).put 1 (.string o2)
          refine wpAnyH_ready (rs := [16]) (by kernel_rfl) (by simp) ?_
          refine AllReadyH.cons rfl (fun K hK => ?_) AllReadyH.nil
          (go_simp)
          refine hK.out _ _ ((by (have hq := hD8.bkS.cell 0); rw [hq]; rfl)) (fun hHeld2 => ?_)
          clear hK K hHeld
          have hHeld := hHeld2
          clear hHeld2
          first | simp only [Act.put, List.setIfInBounds_toArray, List.set_cons_zero, List.set_cons_succ] | skip
          obtain ⟨y8, hy8⟩ : ∃ z, z = (y7.setCell ⟨r, 0, none⟩ (.string o1)).setCell ⟨r, 1, none⟩ (.string o2) := ⟨_, rfl⟩
          rw [← hy8] at hD8 bk8
          rw [← hy8]
          clear hHeld c0 c1 f0 f1 lb s0 s1 sf0 sf1 sl d0 d1 df0 df1 dl bk7 hD7
          have hHeld : y8.cell? ⟨w.heap.size + 1, 0, none⟩ = some (.int .i64 (1 + (yl : Int))) := by rw [hD8.bkS.cell]; rfl
          refine wpAnyH_take (i := 17) (oi := ?oi2300) (v := ?val2300) ?hi2300 ?hs2300 ?hf2300 ?hr2300 ?hQ2300 ?hy2300 ?hS2300 ?hrest2300
          case hi2300 => (simp only [List.getElem?_toArray, List.getElem?_cons_succ, List.getElem?_cons_zero] <;> exact rfl)
          case hs2300 => kernel_rfl
          case hf2300 => kernel_rfl
          case hr2300 => kernel_rfl
          case hQ2300 => exact fun _ _ _ h => h
          case hS2300 => assumption
          case hy2300 => (refine Or.inl ⟨by rfl, ?_⟩; intro w hSw; (try dsimp only at hSw); go_simp; try with_reducible rfl)
          simp only [Act.put, List.setIfInBounds_toArray, List.set_cons_zero, List.set_cons_succ]
          refine wpAnyH_done (by kernel_rfl) ?_ _
          clear hHeld hy8
          have c0 : y8.cell? ⟨w.heap.size, 0, none⟩ = some (.int .i64 0) := by rw [hD8.bkR.cell]; rfl
          have c1 : y8.cell? ⟨w.heap.size, 1, none⟩ = some (.slice none 0 0) := by rw [hD8.bkR.cell]; rfl
          have f0 := hD8.bkR.free 0
          have f1 := hD8.bkR.free 1
          have lb := hD8.bkR.lt
          have s0 : y8.cell? ⟨w.heap.size + 1, 0, none⟩ = some (.int .i64 (1 + (yl : Int))) := by rw [hD8.bkS.cell]; rfl
          have s1 : y8.cell? ⟨w.heap.size + 1, 1, none⟩ = some (.slice B k d) := by rw [hD8.bkS.cell]; rfl
          have sf0 := hD8.bkS.free 0
          have sf1 := hD8.bkS.free 1
          have sl := hD8.bkS.lt
          have d0 : y8.cell? ⟨r, 0, none⟩ = some (.string o1) := by rw [bk8.cell]; rfl
          have d1 : y8.cell? ⟨r, 1, none⟩ = some (.string o2) := by rw [bk8.cell]; rfl
          have dl := bk8.lt
          cases ob
          · skip
            have HD8 := Lib.hid hD8
            clear hD8
            have Bk8 := Lib.hid bk8
            clear bk8
            go_wp2_with fail
            go_roundw
            case rel => exact ⟨j - 1, B, k, d, rs, by go_num, by omega, HG, HD8⟩
            case measure => simp [intOf] <;> omega
          · have hO8 := hD8.own
            have hz8 := hD8.bkS.lt
            have HD8 := Lib.hid hD8
            clear hD8
            have Bk8 := Lib.hid bk8
            clear bk8
            go_wp2_with (at_builtin; go_loud (refine wpList_app5 _ y8 y8.heap.size rfl rfl _ _ 23 rfl (w.heap.size + 2) 68 2 32 _ Tryz.underlying23 info_Rule rfl (by omega) (.slice B k d) k _ _ rfl rfl rfl hO8 rfl (one_cell_ruleP _ _) (by omega) (by unfold maxLen; omega) (by omega) ?_); intro g5 c5 w5 hO9 hV9 hG9 hat9; have t1 : w5.cell? ⟨w.heap.size + 1, 1, none⟩ = some (.slice B k d) := (by have hq := HD8.out.bkS.below hV9 (by omega); rw [hq.cell]; rfl); have tf := (HD8.out.bkS.below hV9 (by omega)).free 1; have tl := (HD8.out.bkS.below hV9 (by omega)).lt)
            have hcr : cellsRule (rs ++ [(o1, o2)]) = cellsRule rs ++ (#[.string o1, .string o2] : Array Value).toList := by simp [cellsRule, encRule]
            have hO10 := hO9
            rw [← hcr] at hO10
            have hD9 := HD8.out.let1 hV9 hO10 (by rw [List.length_append, ← HD8.out.len]; rfl)
            have hgd := orient_good ho.symm
            refine ⟨⟨j - 1, some ⟨g5, 0, none⟩, k + 1, c5, rs ++ [(o1, o2)], by go_num, by omega, Lib.hid (fun q hq => ?_), hD9⟩, by simp [intOf] <;> omega⟩
            rcases List.mem_append.1 hq with h | h
            · exact HG.out q h
            · rw [List.mem_singleton.1 h]
              exact hgd
        · have hsys := sys_of_all (l := (1 + (yl : Int))) (by omega) (by omega) (by rw [← hD6.len]; omega) HG.out
          have HD6 := Lib.hid hD6
          clear hD6
          have Hsys := Lib.hid hsys
          clear hsys
          go_wp2_with fail
          have hne : (Value.slice B k d).ownBlock ≠ some w.heap.size := by
            intro e
            have := (HD6.out.own.lt _ e).1
            omega
          have hb9 : Below w.heap.size wr ((wr.setCell ⟨w.heap.size, 0, none⟩ (.int .i64 (1 + (yl : Int)))).setCell ⟨w.heap.size, 1, none⟩ (.slice B k d)) := ((Below.refl _ _).setCell (p := ⟨w.heap.size, 0, none⟩) (Nat.le_refl _) _).setCell (p := ⟨w.heap.size, 1, none⟩) (Nat.le_refl _) _
          have hO9 := own_mono (own_far3 (own_far3 HD6.out.own (p := ⟨w.heap.size, 0, none⟩) hne (.int .i64 (1 + (yl : Int)))) (p := ⟨w.heap.size, 1, none⟩) hne (.slice B k d)) (b' := w.heap.size) (show w.heap.size ≤ w.heap.size + 2 by omega)
          have hC9 := cur_low HD6.out.cur hb9 HD6.out.lP
          have hG9 := gb_up HD6.out.gb hb9
          have hBn := (HD6.out.bkR.put 0 (.int .i64 (1 + (yl : Int)))).put 1 (.slice B k d)
          have q0 := hBn.cell 0
          have q1 := hBn.cell 1
          refine bodyPost_ret (v := .agg #[.int .i64 (1 + (yl : Int)), .slice B k d]) (by simp [results, Tryz.results22, go_sem, q0, q1]) rfl ?_
          exact ⟨(1 + (yl : Int)), B, k, d, rs, Hsys.out, HD6.out.len, rfl, hO9, HD6.out.src0.next hC9 hG9, hG9⟩
    · go_wp2_with fail
      have hal := (Below.refl w3.heap.size w3).alloc (Nat.le_refl _) (.cells #[.string ⟨#[49, 32, 97, 97, 97, 62, 46]⟩, .string ⟨#[50, 32, 97, 97, 62, 46, 32, 98, 98, 62, 46, 32, 98, 97, 62, 97, 98]⟩, .string ⟨#[50, 32, 97, 97, 62, 46, 32, 98, 98, 62, 46, 32, 98, 97, 98, 62, 97, 98, 97]⟩, .string ⟨#[50, 32, 98, 97, 62, 97, 98]⟩, .string ⟨#[50, 32, 97, 98, 62, 46]⟩, .string ⟨#[50, 32, 97, 97, 62, 97, 32, 98, 98, 62, 98]⟩, .string ⟨#[50, 32, 97, 97, 62, 46, 32, 98, 98, 98, 62, 46, 32, 97, 98, 98, 62, 98, 97, 32, 97, 98, 97, 62, 98, 98, 32, 98, 97, 98, 62, 97, 32, 98, 98, 97, 62, 97, 98]⟩, .string ⟨#[49, 32, 97, 97, 97, 97, 62, 97, 97]⟩, .string ⟨#[50, 32, 97, 97, 62, 98]⟩, .string ⟨#[50, 32, 98, 97, 62, 97, 98, 32, 98, 98, 62, 98]⟩, .string ⟨#[51, 32, 98, 97, 62, 97, 98, 32, 99, 97, 62, 97, 99, 32, 99, 98, 62, 98, 99]⟩] 9)
      have hbk : Bk (w3.alloc (.cells #[.string ⟨#[49, 32, 97, 97, 97, 62, 46]⟩, .string ⟨#[50, 32, 97, 97, 62, 46, 32, 98, 98, 62, 46, 32, 98, 97, 62, 97, 98]⟩, .string ⟨#[50, 32, 97, 97, 62, 46, 32, 98, 98, 62, 46, 32, 98, 97, 98, 62, 97, 98, 97]⟩, .string ⟨#[50, 32, 98, 97, 62, 97, 98]⟩, .string ⟨#[50, 32, 97, 98, 62, 46]⟩, .string ⟨#[50, 32, 97, 97, 62, 97, 32, 98, 98, 62, 98]⟩, .string ⟨#[50, 32, 97, 97, 62, 46, 32, 98, 98, 98, 62, 46, 32, 97, 98, 98, 62, 98, 97, 32, 97, 98, 97, 62, 98, 98, 32, 98, 97, 98, 62, 97, 32, 98, 98, 97, 62, 97, 98]⟩, .string ⟨#[49, 32, 97, 97, 97, 97, 62, 97, 97]⟩, .string ⟨#[50, 32, 97, 97, 62, 98]⟩, .string ⟨#[50, 32, 98, 97, 62, 97, 98, 32, 98, 98, 62, 98]⟩, .string ⟨#[51, 32, 98, 97, 62, 97, 98, 32, 99, 97, 62, 97, 99, 32, 99, 98, 62, 98, 99]⟩] 9)) w3.heap.size 9 (strs drawL).toArray := Bk.new w3 9 #[.string ⟨#[49, 32, 97, 97, 97, 62, 46]⟩, .string ⟨#[50, 32, 97, 97, 62, 46, 32, 98, 98, 62, 46, 32, 98, 97, 62, 97, 98]⟩, .string ⟨#[50, 32, 97, 97, 62, 46, 32, 98, 98, 62, 46, 32, 98, 97, 98, 62, 97, 98, 97]⟩, .string ⟨#[50, 32, 98, 97, 62, 97, 98]⟩, .string ⟨#[50, 32, 97, 98, 62, 46]⟩, .string ⟨#[50, 32, 97, 97, 62, 97, 32, 98, 98, 62, 98]⟩, .string ⟨#[50, 32, 97, 97, 62, 46, 32, 98, 98, 98, 62, 46, 32, 97, 98, 98, 62, 98, 97, 32, 97, 98, 97, 62, 98, 98, 32, 98, 97, 98, 62, 97, 32, 98, 98, 97, 62, 97, 98]⟩, .string ⟨#[49, 32, 97, 97, 97, 97, 62, 97, 97]⟩, .string ⟨#[50, 32, 97, 97, 62, 98]⟩, .string ⟨#[50, 32, 98, 97, 62, 97, 98, 32, 98, 98, 62, 98]⟩, .string ⟨#[51, 32, 98, 97, 62, 97, 98, 32, 99, 97, 62, 97, 99, 32, 99, 98, 62, 98, 99]⟩]
      have hne : w3.heap.size ≠ P := by (have := HD3.out.src.cur.lt); omega
      with_reducible refine (Src.str (k := 11) (l := drawL) (HD3.out.below hal).src hbk hne rfl (by omega) (by omega)).mono ?_
      rintro e w4 ⟨t, ht, rfl, hs4, hg4⟩
      have hD4 := (HD3.out.below hal).next hs4 hg4
      have hts := drawL_small t ht
      clear hal hbk hne hs4 hg4 HD3 ht c0 c1 f0 f1 lb s0 s1 sf0 sf1 sl
      have c0 : w4.cell? ⟨w.heap.size, 0, none⟩ = some (.int .i64 0) := by rw [hD4.bkR.cell]; rfl
      have c1 : w4.cell? ⟨w.heap.size, 1, none⟩ = some (.slice none 0 0) := by rw [hD4.bkR.cell]; rfl
      have f0 := hD4.bkR.free 0
      have f1 := hD4.bkR.free 1
      have lb := hD4.bkR.lt
      have s0 : w4.cell? ⟨w.heap.size + 1, 0, none⟩ = some (.int .i64 (1 + (yl : Int))) := by rw [hD4.bkS.cell]; rfl
      have s1 : w4.cell? ⟨w.heap.size + 1, 1, none⟩ = some (.slice none 0 0) := by rw [hD4.bkS.cell]; rfl
      have sf0 := hD4.bkS.free 0
      have sf1 := hD4.bkS.free 1
      have sl := hD4.bkS.lt
      have HD4 := Lib.hid hD4
      clear hD4
      go_wp2_with fail
      with_reducible refine (specParseSystem_any t _ (by omega)).mono ?_
      rintro e w6 ⟨l6, B6, k6, d6, rs6, ok, hl6, hk6, hkn, hz6, rfl, hO6, b6⟩
      have hD6 := HD4.out.below b6
      have hlt4 := HD4.out.bkS.lt
      clear b6 HD4 c0 c1 f0 f1 lb s0 s1 sf0 sf1 sl
      have c0 : w6.cell? ⟨w.heap.size, 0, none⟩ = some (.int .i64 0) := by rw [hD6.bkR.cell]; rfl
      have c1 : w6.cell? ⟨w.heap.size, 1, none⟩ = some (.slice none 0 0) := by rw [hD6.bkR.cell]; rfl
      have f0 := hD6.bkR.free 0
      have f1 := hD6.bkR.free 1
      have lb := hD6.bkR.lt
      have s0 : w6.cell? ⟨w.heap.size + 1, 0, none⟩ = some (.int .i64 (1 + (yl : Int))) := by rw [hD6.bkS.cell]; rfl
      have s1 : w6.cell? ⟨w.heap.size + 1, 1, none⟩ = some (.slice none 0 0) := by rw [hD6.bkS.cell]; rfl
      have sf0 := hD6.bkS.free 0
      have sf1 := hD6.bkS.free 1
      have sl := hD6.bkS.lt
      cases ok
      · have hDt := hD6.below ((Below.refl _ _).alloc (Nat.le_refl _) (.cells #[.int .i64 l6, .slice B6 k6 d6] 25))
        have HD6 := Lib.hid hD6
        clear hD6
        have Hk6 := Lib.hid hk6
        clear hk6
        have Hz6 := Lib.hid hz6
        clear hz6
        have HO6 := Lib.hid hO6
        clear hO6
        have HDt := Lib.hid hDt
        clear hDt
        go_wp2_with fail
        with_reducible refine (HDt.out.src.underI 4 4 rfl (by omega) (by omega)).mono ?_
        rintro e w5 ⟨x, hx, rfl, hs5, hg5⟩
        have hD5 := HDt.out.next hs5 hg5
        clear hs5 hg5 HDt c0 c1 f0 f1 lb s0 s1 sf0 sf1 sl
        have c0 : w5.cell? ⟨w.heap.size, 0, none⟩ = some (.int .i64 0) := by rw [hD5.bkR.cell]; rfl
        have c1 : w5.cell? ⟨w.heap.size, 1, none⟩ = some (.slice none 0 0) := by rw [hD5.bkR.cell]; rfl
        have f0 := hD5.bkR.free 0
        have f1 := hD5.bkR.free 1
        have lb := hD5.bkR.lt
        have s0 : w5.cell? ⟨w.heap.size + 1, 0, none⟩ = some (.int .i64 (1 + (yl : Int))) := by rw [hD5.bkS.cell]; rfl
        have s1 : w5.cell? ⟨w.heap.size + 1, 1, none⟩ = some (.slice none 0 0) := by rw [hD5.bkS.cell]; rfl
        have sf0 := hD5.bkS.free 0
        have sf1 := hD5.bkS.free 1
        have sl := hD5.bkS.lt
        have HD5 := Lib.hid hD5
        clear hD5
        go_wp2_with fail
        go_loopw [6] (fun i wr => ∃ (j : Nat) (B : Option Addr) (k d : Nat) (rs : List RuleT), i = .int .i64 j ∧ j + k ≤ 3 ∧ Hid (∀ r ∈ rs, ruleOk (1 + (yl : Int)) r = true ∧ fallsOk r = true) ∧ Hid (DrSt w wr P A n c zs (1 + (yl : Int)) B k d rs)) (fun i _ => (intOf i).toNat)
        case atStart => exact ⟨x, none, 0, 0, [], rfl, by omega, Lib.hid (by simp), HD5⟩
        case round =>
          clear HD5 c0 c1 f0 f1 lb s0 s1 sf0 sf1 sl
          obtain ⟨j, B, k, d, rs, rfl, hjk, HG, HD6⟩ := hrel
          have hD6 := HD6.out
          have c0 : wr.cell? ⟨w.heap.size, 0, none⟩ = some (.int .i64 0) := by rw [hD6.bkR.cell]; rfl
          have c1 : wr.cell? ⟨w.heap.size, 1, none⟩ = some (.slice none 0 0) := by rw [hD6.bkR.cell]; rfl
          have f0 := hD6.bkR.free 0
          have f1 := hD6.bkR.free 1
          have lb := hD6.bkR.lt
          have s0 : wr.cell? ⟨w.heap.size + 1, 0, none⟩ = some (.int .i64 (1 + (yl : Int))) := by rw [hD6.bkS.cell]; rfl
          have s1 : wr.cell? ⟨w.heap.size + 1, 1, none⟩ = some (.slice B k d) := by rw [hD6.bkS.cell]; rfl
          have sf0 := hD6.bkS.free 0
          have sf1 := hD6.bkS.free 1
          have sl := hD6.bkS.lt
          by_cases hlt : 0 < j
          · have lPr := hD6.lP
            go_wp2_with fail
            refine wp_region_held_drew (S := (fun W => W.cell? ⟨w.heap.size + 1, 0, none⟩ = some (.int .i64 (1 + (yl : Int))))) (by kernel_rfl) ((by (have hq := hD6.bkS.drew); rw [hq.cell]; rfl)) (fun hHeld => ?_)
            obtain ⟨y0_, hy0⟩ : ∃ z, z = World.drew wr := ⟨_, rfl⟩
            have hD0_ : DrSt w (World.drew wr) P A n c zs (1 + (yl : Int)) B k d rs := hD6.next hD6.src.drew gb_drew
            rw [← hy0] at hD0_
            rw [← hy0] at hHeld
            rw [← hy0]
            clear hy0
            refine wpAnyH_take (i := 0) (oi := ?oi2463) (v := ?val2463) ?hi2463 ?hs2463 ?hf2463 ?hr2463 ?hQ2463 ?hy2463 ?hS2463 ?hrest2463
            case hi2463 => (simp only [List.getElem?_toArray, List.getElem?_cons_succ, List.getElem?_cons_zero] <;> exact rfl)
            case hs2463 => kernel_rfl
            case hf2463 => kernel_rfl
            case hr2463 => kernel_rfl
            case hQ2463 => exact fun _ _ _ h => h
            case hS2463 => assumption
            case hy2463 => (refine Or.inl ⟨by rfl, ?_⟩; intro w hSw; (try dsimp only at hSw); go_simp; try with_reducible rfl)
            simp only [Act.put, List.setIfInBounds_toArray, List.set_cons_zero, List.set_cons_succ]
            refine wpAnyH_take (i := 1) (oi := ?oi2472) (v := ?val2472) ?hi2472 ?hs2472 ?hf2472 ?hr2472 ?hQ2472 ?hy2472 ?hS2472 ?hrest2472
            case hi2472 => (simp only [List.getElem?_toArray, List.getElem?_cons_succ, List.getElem?_cons_zero] <;> exact rfl)
            case hs2472 => kernel_rfl
            case hf2472 => kernel_rfl
            case hr2472 => kernel_rfl
            case hQ2472 => exact fun _ _ _ h => h
            case hS2472 => assumption
            case hy2472 => (refine Or.inl ⟨by rfl, ?_⟩; intro w hSw; (try dsimp only at hSw); go_simp; try with_reducible rfl)
            simp only [Act.put, List.setIfInBounds_toArray, List.set_cons_zero, List.set_cons_succ]
            refine wpAnyH_take (i := 2) (oi := ?oi2481) (v := ?val2481) ?hi2481 ?hs2481 ?hf2481 ?hr2481 ?hQ2481 ?hy2481 ?hS2481 ?hrest2481
            case hi2481 => (simp only [List.getElem?_toArray, List.getElem?_cons_succ, List.getElem?_cons_zero] <;> exact rfl)
            case hs2481 => kernel_rfl
            case hf2481 => kernel_rfl
            case hr2481 => kernel_rfl
            case hQ2481 => exact fun _ _ _ h => h
            case hS2481 => assumption
            case hy2481 => (refine Or.inl ⟨by rfl, ?_⟩; intro w hSw; (try dsimp only at hSw); go_simp; try with_reducible rfl)
            simp only [Act.put, List.setIfInBounds_toArray, List.set_cons_zero, List.set_cons_succ]
            refine wpAnyH_take (i := 3) (oi := ?oi2490) (v := ?val2490) ?hi2490 ?hs2490 ?hf2490 ?hr2490 ?hQ2490 ?hy2490 ?hS2490 ?hrest2490
            case hi2490 => (simp only [List.getElem?_toArray, List.getElem?_cons_succ, List.getElem?_cons_zero] <;> exact rfl)
            case hs2490 => kernel_rfl
            case hf2490 => kernel_rfl
            case hr2490 => kernel_rfl
            case hQ2490 => exact fun _ _ _ h => h
            case hS2490 => assumption
            case hy2490 => (refine Or.inl ⟨by rfl, ?_⟩; intro w hSw; (try dsimp only at hSw); go_simp; try with_reducible rfl)
            simp only [Act.put, List.setIfInBounds_toArray, List.set_cons_zero, List.set_cons_succ]
            refine wpAnyH_take (i := 4) (oi := ?oi2499) (v := ?val2499) ?hi2499 ?hs2499 ?hf2499 ?hr2499 ?hQ2499 ?hy2499 ?hS2499 ?hrest2499
            case hi2499 => (simp only [List.getElem?_toArray, List.getElem?_cons_succ, List.getElem?_cons_zero] <;> exact rfl)
            case hs2499 => kernel_rfl
            case hf2499 => kernel_rfl
            case hr2499 => kernel_rfl
            case hQ2499 => exact fun _ _ _ h => h
            case hS2499 => assumption
            case hy2499 => (refine Or.inl ⟨by rfl, ?_⟩; intro w hSw; (try dsimp only at hSw); go_simp; try with_reducible rfl)
            simp only [Act.put, List.setIfInBounds_toArray, List.set_cons_zero, List.set_cons_succ]
            refine wpAnyH_take (i := 6) (oi := ?oi2508) (v := ?val2508) ?hi2508 ?hs2508 ?hf2508 ?hr2508 ?hQ2508 ?hy2508 ?hS2508 ?hrest2508
            case hi2508 => (simp only [List.getElem?_toArray, List.getElem?_cons_succ, List.getElem?_cons_zero] <;> exact rfl)
            case hs2508 => kernel_rfl
            case hf2508 => kernel_rfl
            case hr2508 => kernel_rfl
            case hQ2508 => exact fun _ _ _ h => h
            case hS2508 => assumption
            case hy2508 => (refine Or.inl ⟨by rfl, ?_⟩; intro w hSw; (try dsimp only at hSw); go_simp; try with_reducible rfl)
            simp only [Act.put, List.setIfInBounds_toArray, List.set_cons_zero, List.set_cons_succ]
            refine wpAnyH_take (i := 7) (oi := ?oi2517) (v := ?val2517) ?hi2517 ?hs2517 ?hf2517 ?hr2517 ?hQ2517 ?hy2517 ?hS2517 ?hrest2517
            case hi2517 => (simp only [List.getElem?_toArray, List.getElem?_cons_succ, List.getElem?_cons_zero] <;> exact rfl)
            case hs2517 => kernel_rfl
            case hf2517 => kernel_rfl
            case hr2517 => kernel_rfl
            case hQ2517 => exact fun _ _ _ h => h
            case hS2517 => assumption
            case hy2517 => (refine Or.inl ⟨by rfl, ?_⟩; intro w hSw; (try dsimp only at hSw); go_simp; try with_reducible rfl)
            simp only [Act.put, List.setIfInBounds_toArray, List.set_cons_zero, List.set_cons_succ]
            refine wpAnyH_take (i := 8) (oi := ?oi2526) (v := ?val2526) ?hi2526 ?hs2526 ?hf2526 ?hr2526 ?hQ2526 ?hy2526 ?hS2526 ?hrest2526
            case hi2526 => (simp only [List.getElem?_toArray, List.getElem?_cons_succ, List.getElem?_cons_zero] <;> exact rfl)
            case hs2526 => kernel_rfl
            case hf2526 => kernel_rfl
            case hr2526 => kernel_rfl
            case hQ2526 => exact fun _ _ _ h => h
            case hS2526 => assumption
            case hy2526 => (refine Or.inl ⟨by rfl, ?_⟩; intro w hSw; (try dsimp only at hSw); go_simp; try with_reducible rfl)
            simp only [Act.put, List.setIfInBounds_toArray, List.set_cons_zero, List.set_cons_succ]
            apply meetD (F := fun u v r y => DrSt w y P A n c zs (1 + (yl : Int)) B k d rs ∧ Bk y r 68 #[.string ⟨#[]⟩, .string ⟨#[]⟩] ∧ w.heap.size + 2 ≤ r ∧ (Value.slice B k d).ownBlock ≠ some r ∧ u.size ≤ 4 ∧ lettersOk (((1 + yl) : Nat) : Int) u = true ∧ v.size ≤ 3 ∧ lettersOk (((1 + yl) : Nat) : Int) v = true)
            · intro hkey
              refine wpAnyH_ready (rs := [5, 15]) (by kernel_rfl) (by simp) ?_
              refine AllReadyH.cons rfl (fun K hK => ?_) (AllReadyH.cons rfl (fun K hK => ?_) AllReadyH.nil)
              · skip
                go_simp
                with_reducible refine (hD0_.src.wordI (1 + yl) 4 (1 + (yl : Int)) 4 (by omega) rfl (by omega) (by omega) (by omega)).mono ?_
                rintro e y309_ ⟨u310_, hu311_, hl312_, rfl, hs313_, hg314_⟩
                have hD315_ := hD0_.next hs313_ hg314_
                refine hK.out _ _ (by rw [hD315_.bkS.cell]; rfl) (fun hHeld => ?_)
                clear hK K
                first | simp only [Act.put, List.setIfInBounds_toArray, List.set_cons_zero, List.set_cons_succ] | skip
                refine wpAnyH_ready (rs := [9, 15]) (by kernel_rfl) (by simp) ?_
                refine AllReadyH.cons rfl (fun K hK => ?_) (AllReadyH.cons rfl (fun K hK => ?_) AllReadyH.nil)
                · skip
                  go_simp
                  with_reducible refine (hD315_.src.wordI (1 + yl) 3 (1 + (yl : Int)) 3 (by omega) rfl (by omega) (by omega) (by omega)).mono ?_
                  rintro e y316_ ⟨u317_, hu318_, hl319_, rfl, hs320_, hg321_⟩
                  have hD322_ := hD315_.next hs320_ hg321_
                  refine hK.out _ _ (by rw [hD322_.bkS.cell]; rfl) (fun hHeld => ?_)
                  clear hK K
                  first | simp only [Act.put, List.setIfInBounds_toArray, List.set_cons_zero, List.set_cons_succ] | skip
                  refine wpAnyH_take (i := 10) (oi := ?oi2557) (v := ?val2557) ?hi2557 ?hs2557 ?hf2557 ?hr2557 ?hQ2557 ?hy2557 ?hS2557 ?hrest2557
                  case hi2557 => (simp only [List.getElem?_toArray, List.getElem?_cons_succ, List.getElem?_cons_zero] <;> exact rfl)
                  case hs2557 => kernel_rfl
                  case hf2557 => kernel_rfl
                  case hr2557 => kernel_rfl
                  case hQ2557 => exact fun _ _ _ h => h
                  case hS2557 => assumption
                  case hy2557 => (refine Or.inl ⟨by rfl, ?_⟩; intro w hSw; (try dsimp only at hSw); go_simp; try with_reducible rfl)
                  simp only [Act.put, List.setIfInBounds_toArray, List.set_cons_zero, List.set_cons_succ]
                  refine wpAnyH_ready (rs := [11, 15]) (by kernel_rfl) (by simp) ?_
                  refine AllReadyH.cons rfl (fun K hK => ?_) (AllReadyH.cons rfl (fun K hK => ?_) AllReadyH.nil)
                  · skip
                    go_simp
                    with_reducible refine (orient_any (1 + (yl : Int)) u310_ u317_ _ (by omega) (by omega)).mono ?_
                    rintro e y323_ ⟨rfl, b324_⟩
                    have hD325_ := hD322_.below b324_
                    refine hK.out _ _ (by rw [hD325_.bkS.cell]; rfl) (fun hHeld => ?_)
                    clear hK K
                    first | simp only [Act.put, List.setIfInBounds_toArray, List.set_cons_zero, List.set_cons_succ] | skip
                    refine wpAnyH_take (i := 12) (oi := ?oi2576) (v := ?val2576) ?hi2576 ?hs2576 ?hf2576 ?hr2576 ?hQ2576 ?hy2576 ?hS2576 ?hrest2576
                    case hi2576 => (simp only [List.getElem?_toArray, List.getElem?_cons_succ, List.getElem?_cons_zero] <;> exact rfl)
                    case hs2576 => kernel_rfl
                    case hf2576 => kernel_rfl
                    case hr2576 => kernel_rfl
                    case hQ2576 => exact fun _ _ _ h => h
                    case hS2576 => assumption
                    case hy2576 => (refine Or.inl ⟨by rfl, ?_⟩; intro w hSw; (try dsimp only at hSw); go_simp; try with_reducible rfl)
                    simp only [Act.put, List.setIfInBounds_toArray, List.set_cons_zero, List.set_cons_succ]
                    refine wpAnyH_take (i := 13) (oi := ?oi2585) (v := ?val2585) ?hi2585 ?hs2585 ?hf2585 ?hr2585 ?hQ2585 ?hy2585 ?hS2585 ?hrest2585
                    case hi2585 => (simp only [List.getElem?_toArray, List.getElem?_cons_succ, List.getElem?_cons_zero] <;> exact rfl)
                    case hs2585 => kernel_rfl
                    case hf2585 => kernel_rfl
                    case hr2585 => kernel_rfl
                    case hQ2585 => exact fun _ _ _ h => h
                    case hS2585 => assumption
                    case hy2585 => (refine Or.inl ⟨by rfl, ?_⟩; intro w hSw; (try dsimp only at hSw); go_simp; try with_reducible rfl)
                    simp only [Act.put, List.setIfInBounds_toArray, List.set_cons_zero, List.set_cons_succ]
                    refine wpAnyH_take (i := 14) (oi := ?oi2594) (v := ?val2594) ?hi2594 ?hs2594 ?hf2594 ?hr2594 ?hQ2594 ?hy2594 ?hS2594 ?hrest2594
                    case hi2594 => (simp only [List.getElem?_toArray, List.getElem?_cons_succ, List.getElem?_cons_zero] <;> exact rfl)
                    case hs2594 => kernel_rfl
                    case hf2594 => kernel_rfl
                    case hr2594 => kernel_rfl
                    case hQ2594 => exact fun _ _ _ h => h
                    case hS2594 => assumption
                    case hy2594 => (refine Or.inl ⟨by rfl, ?_⟩; intro w hSw; (try dsimp only at hSw); go_simp; try with_reducible rfl)
                    simp only [Act.put, List.setIfInBounds_toArray, List.set_cons_zero, List.set_cons_succ]
                    refine wpAnyH_ready (rs := [15]) (by kernel_rfl) (by simp) ?_
                    refine AllReadyH.cons rfl (fun K hK => ?_) AllReadyH.nil
                    go_simp
                    have hD327_ := hD325_.below ((Below.refl _ _).alloc (Nat.le_refl _) (.cells #[.string ⟨#[]⟩, .string ⟨#[]⟩] 68))
                    have bk329_ := Bk.new y323_ 68 #[.string ⟨#[]⟩, .string ⟨#[]⟩]
                    have le330_ : w.heap.size + 2 ≤ (World.heap y323_).size := hD325_.bkS.lt
                    have nb331_ := own_new_ne3 hD325_.own (Nat.le_refl _)
                    refine hK.out _ _ (by rw [hD327_.bkS.cell]; rfl) (fun hHeld => ?_)
                    clear hK K
                    first | simp only [Act.put, List.setIfInBounds_toArray, List.set_cons_zero, List.set_cons_succ] | skip
                    obtain ⟨y326_, hy⟩ : ∃ z, z = World.alloc y323_ (.cells #[.string ⟨#[]⟩, .string ⟨#[]⟩] 68) := ⟨_, rfl⟩
                    obtain ⟨r328_, hb⟩ : ∃ z, z = (World.heap y323_).size := ⟨_, rfl⟩
                    rw [← hy] at bk329_ hD327_
                    rw [← hb] at bk329_ le330_ nb331_
                    rw [← hy, ← hb]
                    clear hHeld
                    have hHeld : y326_.cell? ⟨w.heap.size + 1, 0, none⟩ = some (.int .i64 (1 + (yl : Int))) := by rw [hD327_.bkS.cell]; rfl
                    clear hy hb
                    exact hkey u310_ u317_ r328_ y326_ ⟨hD327_, bk329_, le330_, nb331_, hu311_, hl312_, hu318_, hl319_⟩
                  · skip
                    go_simp
                    have hD333_ := hD322_.below ((Below.refl _ _).alloc (Nat.le_refl _) (.cells #[.string ⟨#[]⟩, .string ⟨#[]⟩] 68))
                    have bk335_ := Bk.new y316_ 68 #[.string ⟨#[]⟩, .string ⟨#[]⟩]
                    have le336_ : w.heap.size + 2 ≤ (World.heap y316_).size := hD322_.bkS.lt
                    have nb337_ := own_new_ne3 hD322_.own (Nat.le_refl _)
                    refine hK.out _ _ (by rw [hD333_.bkS.cell]; rfl) (fun hHeld => ?_)
                    clear hK K
                    first | simp only [Act.put, List.setIfInBounds_toArray, List.set_cons_zero, List.set_cons_succ] | skip
                    obtain ⟨y332_, hy⟩ : ∃ z, z = World.alloc y316_ (.cells #[.string ⟨#[]⟩, .string ⟨#[]⟩] 68) := ⟨_, rfl⟩
                    obtain ⟨r334_, hb⟩ : ∃ z, z = (World.heap y316_).size := ⟨_, rfl⟩
                    rw [← hy] at bk335_ hD333_
                    rw [← hb] at bk335_ le336_ nb337_
                    rw [← hy, ← hb]
                    clear hHeld
                    have hHeld : y332_.cell? ⟨w.heap.size + 1, 0, none⟩ = some (.int .i64 (1 + (yl : Int))) := by rw [hD333_.bkS.cell]; rfl
                    clear hy hb
                    refine wpAnyH_ready (rs := [11]) (by kernel_rfl) (by simp) ?_
                    refine AllReadyH.cons rfl (fun K hK => ?_) AllReadyH.nil
                    go_simp
                    with_reducible refine (orient_any (1 + (yl : Int)) u310_ u317_ _ (by omega) (by omega)).mono ?_
                    rintro e y338_ ⟨rfl, b339_⟩
                    have hD340_ := hD333_.below b339_
                    have bk341_ := bk335_.below b339_ bk335_.lt
                    refine hK.out _ _ (by rw [hD340_.bkS.cell]; rfl) (fun hHeld => ?_)
                    clear hK K
                    first | simp only [Act.put, List.setIfInBounds_toArray, List.set_cons_zero, List.set_cons_succ] | skip
                    refine wpAnyH_take (i := 12) (oi := ?oi2649) (v := ?val2649) ?hi2649 ?hs2649 ?hf2649 ?hr2649 ?hQ2649 ?hy2649 ?hS2649 ?hrest2649
                    case hi2649 => (simp only [List.getElem?_toArray, List.getElem?_cons_succ, List.getElem?_cons_zero] <;> exact rfl)
                    case hs2649 => kernel_rfl
                    case hf2649 => kernel_rfl
                    case hr2649 => kernel_rfl
                    case hQ2649 => exact fun _ _ _ h => h
                    case hS2649 => assumption
                    case hy2649 => (refine Or.inl ⟨by rfl, ?_⟩; intro w hSw; (try dsimp only at hSw); go_simp; try with_reducible rfl)
                    simp only [Act.put, List.setIfInBounds_toArray, List.set_cons_zero, List.set_cons_succ]
                    refine wpAnyH_take (i := 13) (oi := ?oi2658) (v := ?val2658) ?hi2658 ?hs2658 ?hf2658 ?hr2658 ?hQ2658 ?hy2658 ?hS2658 ?hrest2658
                    case hi2658 => (simp only [List.getElem?_toArray, List.getElem?_cons_succ, List.getElem?_cons_zero] <;> exact rfl)
                    case hs2658 => kernel_rfl
                    case hf2658 => kernel_rfl
                    case hr2658 => kernel_rfl
                    case hQ2658 => exact fun _ _ _ h => h
                    case hS2658 => assumption
                    case hy2658 => (refine Or.inl ⟨by rfl, ?_⟩; intro w hSw; (try dsimp only at hSw); go_simp; try with_reducible rfl)
                    simp only [Act.put, List.setIfInBounds_toArray, List.set_cons_zero, List.set_cons_succ]
                    refine wpAnyH_take (i := 14) (oi := ?oi2667) (v := ?val2667) ?hi2667 ?hs2667 ?hf2667 ?hr2667 ?hQ2667 ?hy2667 ?hS2667 ?hrest2667
                    case hi2667 => (simp only [List.getElem?_toArray, List.getElem?_cons_succ, List.getElem?_cons_zero] <;> exact rfl)
                    case hs2667 => kernel_rfl
                    case hf2667 => kernel_rfl
                    case hr2667 => kernel_rfl
                    case hQ2667 => exact fun _ _ _ h => h
                    case hS2667 => assumption
                    case hy2667 => (refine Or.inl ⟨by rfl, ?_⟩; intro w hSw; (try dsimp only at hSw); go_simp; try with_reducible rfl)
                    simp only [Act.put, List.setIfInBounds_toArray, List.set_cons_zero, List.set_cons_succ]
                    exact hkey u310_ u317_ r334_ y338_ ⟨hD340_, bk341_, le336_, nb337_, hu311_, hl312_, hu318_, hl319_⟩
                · skip
                  go_simp
                  have hD343_ := hD315_.below ((Below.refl _ _).alloc (Nat.le_refl _) (.cells #[.string ⟨#[]⟩, .string ⟨#[]⟩] 68))
                  have bk345_ := Bk.new y309_ 68 #[.string ⟨#[]⟩, .string ⟨#[]⟩]
                  have le346_ : w.heap.size + 2 ≤ (World.heap y309_).size := hD315_.bkS.lt
                  have nb347_ := own_new_ne3 hD315_.own (Nat.le_refl _)
                  refine hK.out _ _ (by rw [hD343_.bkS.cell]; rfl) (fun hHeld => ?_)
                  clear hK K
                  first | simp only [Act.put, List.setIfInBounds_toArray, List.set_cons_zero, List.set_cons_succ] | skip
                  obtain ⟨y342_, hy⟩ : ∃ z, z = World.alloc y309_ (.cells #[.string ⟨#[]⟩, .string ⟨#[]⟩] 68) := ⟨_, rfl⟩
                  obtain ⟨r344_, hb⟩ : ∃ z, z = (World.heap y309_).size := ⟨_, rfl⟩
                  rw [← hy] at bk345_ hD343_
                  rw [← hb] at bk345_ le346_ nb347_
                  rw [← hy, ← hb]
                  clear hHeld
                  have hHeld : y342_.cell? ⟨w.heap.size + 1, 0, none⟩ = some (.int .i64 (1 + (yl : Int))) := by rw [hD343_.bkS.cell]; rfl
                  clear hy hb
                  refine wpAnyH_ready (rs := [9]) (by kernel_rfl) (by simp) ?_
                  refine AllReadyH.cons rfl (fun K hK => ?_) AllReadyH.nil
                  go_simp
                  with_reducible refine (hD343_.src.wordI (1 + yl) 3 (1 + (yl : Int)) 3 (by omega) rfl (by omega) (by omega) (by omega)).mono ?_
                  rintro e y348_ ⟨u349_, hu350_, hl351_, rfl, hs352_, hg353_⟩
                  have hD354_ := hD343_.next hs352_ hg353_
                  have bk355_ := bk345_.grown hg353_ (by intro e; injection e with e; omega)
                  refine hK.out _ _ (by rw [hD354_.bkS.cell]; rfl) (fun hHeld => ?_)
                  clear hK K
                  first | simp only [Act.put, List.setIfInBounds_toArray, List.set_cons_zero, List.set_cons_succ] | skip
                  refine wpAnyH_take (i := 10) (oi := ?oi2704) (v := ?val2704) ?hi2704 ?hs2704 ?hf2704 ?hr2704 ?hQ2704 ?hy2704 ?hS2704 ?hrest2704
                  case hi2704 => (simp only [List.getElem?_toArray, List.getElem?_cons_succ, List.getElem?_cons_zero] <;> exact rfl)
                  case hs2704 => kernel_rfl
                  case hf2704 => kernel_rfl
                  case hr2704 => kernel_rfl
                  case hQ2704 => exact fun _ _ _ h => h
                  case hS2704 => assumption
                  case hy2704 => (refine Or.inl ⟨by rfl, ?_⟩; intro w hSw; (try dsimp only at hSw); go_simp; try with_reducible rfl)
                  simp only [Act.put, List.setIfInBounds_toArray, List.set_cons_zero, List.set_cons_succ]
                  refine wpAnyH_ready (rs := [11]) (by kernel_rfl) (by simp) ?_
                  refine AllReadyH.cons rfl (fun K hK => ?_) AllReadyH.nil
                  go_simp
                  with_reducible refine (orient_any (1 + (yl : Int)) u310_ u349_ _ (by omega) (by omega)).mono ?_
                  rintro e y356_ ⟨rfl, b357_⟩
                  have hD358_ := hD354_.below b357_
                  have bk359_ := bk355_.below b357_ bk355_.lt
                  refine hK.out _ _ (by rw [hD358_.bkS.cell]; rfl) (fun hHeld => ?_)
                  clear hK K
                  first | simp only [Act.put, List.setIfInBounds_toArray, List.set_cons_zero, List.set_cons_succ] | skip
                  refine wpAnyH_take (i := 12) (oi := ?oi2723) (v := ?val2723) ?hi2723 ?hs2723 ?hf2723 ?hr2723 ?hQ2723 ?hy2723 ?hS2723 ?hrest2723
                  case hi2723 => (simp only [List.getElem?_toArray, List.getElem?_cons_succ, List.getElem?_cons_zero] <;> exact rfl)
                  case hs2723 => kernel_rfl
                  case hf2723 => kernel_rfl
                  case hr2723 => kernel_rfl
                  case hQ2723 => exact fun _ _ _ h => h
                  case hS2723 => assumption
                  case hy2723 => (refine Or.inl ⟨by rfl, ?_⟩; intro w hSw; (try dsimp only at hSw); go_simp; try with_reducible rfl)
                  simp only [Act.put, List.setIfInBounds_toArray, List.set_cons_zero, List.set_cons_succ]
                  refine wpAnyH_take (i := 13) (oi := ?oi2732) (v := ?val2732) ?hi2732 ?hs2732 ?hf2732 ?hr2732 ?hQ2732 ?hy2732 ?hS2732 ?hrest2732
                  case hi2732 => (simp only [List.getElem?_toArray, List.getElem?_cons_succ, List.getElem?_cons_zero] <;> exact rfl)
                  case hs2732 => kernel_rfl
                  case hf2732 => kernel_rfl
                  case hr2732 => kernel_rfl
                  case hQ2732 => exact fun _ _ _ h => h
                  case hS2732 => assumption
                  case hy2732 => (refine Or.inl ⟨by rfl, ?_⟩; intro w hSw; (try dsimp only at hSw); go_simp; try with_reducible rfl)
                  simp only [Act.put, List.setIfInBounds_toArray, List.set_cons_zero, List.set_cons_succ]
                  refine wpAnyH_take (i := 14) (oi := ?oi2741) (v := ?val2741) ?hi2741 ?hs2741 ?hf2741 ?hr2741 ?hQ2741 ?hy2741 ?hS2741 ?hrest2741
                  case hi2741 => (simp only [List.getElem?_toArray, List.getElem?_cons_succ, List.getElem?_cons_zero] <;> exact rfl)
                  case hs2741 => kernel_rfl
                  case hf2741 => kernel_rfl
                  case hr2741 => kernel_rfl
                  case hQ2741 => exact fun _ _ _ h => h
                  case hS2741 => assumption
                  case hy2741 => (refine Or.inl ⟨by rfl, ?_⟩; intro w hSw; (try dsimp only at hSw); go_simp; try with_reducible rfl)
                  simp only [Act.put, List.setIfInBounds_toArray, List.set_cons_zero, List.set_cons_succ]
                  exact hkey u310_ u349_ r344_ y356_ ⟨hD358_, bk359_, le346_, nb347_, hu311_, hl312_, hu350_, hl351_⟩
              · skip
                go_simp
                have hD361_ := hD0_.below ((Below.refl _ _).alloc (Nat.le_refl _) (.cells #[.string ⟨#[]⟩, .string ⟨#[]⟩] 68))
                have bk363_ := Bk.new y0_ 68 #[.string ⟨#[]⟩, .string ⟨#[]⟩]
                have le364_ : w.heap.size + 2 ≤ (World.heap y0_).size := hD0_.bkS.lt
                have nb365_ := own_new_ne3 hD0_.own (Nat.le_refl _)
                refine hK.out _ _ (by rw [hD361_.bkS.cell]; rfl) (fun hHeld => ?_)
                clear hK K
                first | simp only [Act.put, List.setIfInBounds_toArray, List.set_cons_zero, List.set_cons_succ] | skip
                obtain ⟨y360_, hy⟩ : ∃ z, z = World.alloc y0_ (.cells #[.string ⟨#[]⟩, .string ⟨#[]⟩] 68) := ⟨_, rfl⟩
                obtain ⟨r362_, hb⟩ : ∃ z, z = (World.heap y0_).size := ⟨_, rfl⟩
                rw [← hy] at bk363_ hD361_
                rw [← hb] at bk363_ le364_ nb365_
                rw [← hy, ← hb]
                clear hHeld
                have hHeld : y360_.cell? ⟨w.heap.size + 1, 0, none⟩ = some (.int .i64 (1 + (yl : Int))) := by rw [hD361_.bkS.cell]; rfl
                clear hy hb
                refine wpAnyH_ready (rs := [5]) (by kernel_rfl) (by simp) ?_
                refine AllReadyH.cons rfl (fun K hK => ?_) AllReadyH.nil
                go_simp
                with_reducible refine (hD361_.src.wordI (1 + yl) 4 (1 + (yl : Int)) 4 (by omega) rfl (by omega) (by omega) (by omega)).mono ?_
                rintro e y366_ ⟨u367_, hu368_, hl369_, rfl, hs370_, hg371_⟩
                have hD372_ := hD361_.next hs370_ hg371_
                have bk373_ := bk363_.grown hg371_ (by intro e; injection e with e; omega)
                refine hK.out _ _ (by rw [hD372_.bkS.cell]; rfl) (fun hHeld => ?_)
                clear hK K
                first | simp only [Act.put, List.setIfInBounds_toArray, List.set_cons_zero, List.set_cons_succ] | skip
                refine wpAnyH_ready (rs := [9]) (by kernel_rfl) (by simp) ?_
                refine AllReadyH.cons rfl (fun K hK => ?_) AllReadyH.nil
                go_simp
                with_reducible refine (hD372_.src.wordI (1 + yl) 3 (1 + (yl : Int)) 3 (by omega) rfl (by omega) (by omega) (by omega)).mono ?_
                rintro e y374_ ⟨u375_, hu376_, hl377_, rfl, hs378_, hg379_⟩
                have hD380_ := hD372_.next hs378_ hg379_
                have bk381_ := bk373_.grown hg379_ (by intro e; injection e with e; omega)
                refine hK.out _ _ (by rw [hD380_.bkS.cell]; rfl) (fun hHeld => ?_)
                clear hK K
                first | simp only [Act.put, List.setIfInBounds_toArray, List.set_cons_zero, List.set_cons_succ] | skip
                refine wpAnyH_take (i := 10) (oi := ?oi2788) (v := ?val2788) ?hi2788 ?hs2788 ?hf2788 ?hr2788 ?hQ2788 ?hy2788 ?hS2788 ?hrest2788
                case hi2788 => (simp only [List.getElem?_toArray, List.getElem?_cons_succ, List.getElem?_cons_zero] <;> exact rfl)
                case hs2788 => kernel_rfl
                case hf2788 => kernel_rfl
                case hr2788 => kernel_rfl
                case hQ2788 => exact fun _ _ _ h => h
                case hS2788 => assumption
                case hy2788 => (refine Or.inl ⟨by rfl, ?_⟩; intro w hSw; (try dsimp only at hSw); go_simp; try with_reducible rfl)
                simp only [Act.put, List.setIfInBounds_toArray, List.set_cons_zero, List.set_cons_succ]
                refine wpAnyH_ready (rs := [11]) (by kernel_rfl) (by simp) ?_
                refine AllReadyH.cons rfl (fun K hK => ?_) AllReadyH.nil
                go_simp
                with_reducible refine (orient_any (1 + (yl : Int)) u367_ u375_ _ (by omega) (by omega)).mono ?_
                rintro e y382_ ⟨rfl, b383_⟩
                have hD384_ := hD380_.below b383_
                have bk385_ := bk381_.below b383_ bk381_.lt
                refine hK.out _ _ (by rw [hD384_.bkS.cell]; rfl) (fun hHeld => ?_)
                clear hK K
                first | simp only [Act.put, List.setIfInBounds_toArray, List.set_cons_zero, List.set_cons_succ] | skip
                refine wpAnyH_take (i := 12) (oi := ?oi2807) (v := ?val2807) ?hi2807 ?hs2807 ?hf2807 ?hr2807 ?hQ2807 ?hy2807 ?hS2807 ?hrest2807
                case hi2807 => (simp only [List.getElem?_toArray, List.getElem?_cons_succ, List.getElem?_cons_zero] <;> exact rfl)
                case hs2807 => kernel_rfl
                case hf2807 => kernel_rfl
                case hr2807 => kernel_rfl
                case hQ2807 => exact fun _ _ _ h => h
                case hS2807 => assumption
                case hy2807 => (refine Or.inl ⟨by rfl, ?_⟩; intro w hSw; (try dsimp only at hSw); go_simp; try with_reducible rfl)
                simp only [Act.put, List.setIfInBounds_toArray, List.set_cons_zero, List.set_cons_succ]
                refine wpAnyH_take (i := 13) (oi := ?oi2816) (v := ?val2816) ?hi2816 ?hs2816 ?hf2816 ?hr2816 ?hQ2816 ?hy2816 ?hS2816 ?hrest2816
                case hi2816 => (simp only [List.getElem?_toArray, List.getElem?_cons_succ, List.getElem?_cons_zero] <;> exact rfl)
                case hs2816 => kernel_rfl
                case hf2816 => kernel_rfl
                case hr2816 => kernel_rfl
                case hQ2816 => exact fun _ _ _ h => h
                case hS2816 => assumption
                case hy2816 => (refine Or.inl ⟨by rfl, ?_⟩; intro w hSw; (try dsimp only at hSw); go_simp; try with_reducible rfl)
                simp only [Act.put, List.setIfInBounds_toArray, List.set_cons_zero, List.set_cons_succ]
                refine wpAnyH_take (i := 14) (oi := ?oi2825) (v := ?val2825) ?hi2825 ?hs2825 ?hf2825 ?hr2825 ?hQ2825 ?hy2825 ?hS2825 ?hrest2825
                case hi2825 => (simp only [List.getElem?_toArray, List.getElem?_cons_succ, List.getElem?_cons_zero] <;> exact rfl)
                case hs2825 => kernel_rfl
                case hf2825 => kernel_rfl
                case hr2825 => kernel_rfl
                case hQ2825 => exact fun _ _ _ h => h
                case hS2825 => assumption
                case hy2825 => (refine Or.inl ⟨by rfl, ?_⟩; intro w hSw; (try dsimp only at hSw); go_simp; try with_reducible rfl)
                simp only [Act.put, List.setIfInBounds_toArray, List.set_cons_zero, List.set_cons_succ]
                exact hkey u367_ u375_ r362_ y382_ ⟨hD384_, bk385_, le364_, nb365_, hu368_, hl369_, hu376_, hl377_⟩
            intro u v r y7 ⟨hD7, bk7, lr7, nb7, hu4, huL, hv3, hvL⟩
            obtain ⟨⟨⟨o1, o2⟩, ob⟩, ho⟩ : ∃ z, z = orientR (1 + (yl : Int)) u v := ⟨_, rfl⟩
            rw [← ho]
            dsimp only
            clear c0 c1 f0 f1 lb s0 s1 sf0 sf1 sl
            have c0 : y7.cell? ⟨w.heap.size, 0, none⟩ = some (.int .i64 0) := by rw [hD7.bkR.cell]; rfl
            have c1 : y7.cell? ⟨w.heap.size, 1, none⟩ = some (.slice none 0 0) := by rw [hD7.bkR.cell]; rfl
            have f0 := hD7.bkR.free 0
            have f1 := hD7.bkR.free 1
            have lb := hD7.bkR.lt
            have s0 : y7.cell? ⟨w.heap.size + 1, 0, none⟩ = some (.int .i64 (1 + (yl : Int))) := by rw [hD7.bkS.cell]; rfl
            have s1 : y7.cell? ⟨w.heap.size + 1, 1, none⟩ = some (.slice B k d) := by rw [hD7.bkS.cell]; rfl
            have sf0 := hD7.bkS.free 0
            have sf1 := hD7.bkS.free 1
            have sl := hD7.bkS.lt
            have d0 : y7.cell? ⟨r, 0, none⟩ = some (.string ⟨#[]⟩) := by rw [bk7.cell]; rfl
            have d1 : y7.cell? ⟨r, 1, none⟩ = some (.string ⟨#[]⟩) := by rw [bk7.cell]; rfl
            have df0 := bk7.free 0
            have df1 := bk7.free 1
            have dl := bk7.lt
            have ne1 : ¬ w.heap.size = r := by omega
            have ne2 : ¬ w.heap.size + 1 = r := by omega
            have ne3 : ¬ r = w.heap.size := by omega
            have ne4 : ¬ r = w.heap.size + 1 := by omega
            have hD8 := (hD7.far (q := ⟨r, 0, none⟩) lr7 nb7 (.string o1)).far (q := ⟨r, 1, none⟩) lr7 nb7 (.string o2)
            have bk8 := (bk7.put 0 (.string o1)).put 1 (.string o2)
            refine wpAnyH_ready (rs := [16]) (by kernel_rfl) (by simp) ?_
            refine AllReadyH.cons rfl (fun K hK => ?_) AllReadyH.nil
            (go_simp)
            refine hK.out _ _ ((by (have hq := hD8.bkS.cell 0); rw [hq]; rfl)) (fun hHeld2 => ?_)
            clear hK K hHeld
            have hHeld := hHeld2
            clear hHeld2
            first | simp only [Act.put, List.setIfInBounds_toArray, List.set_cons_zero, List.set_cons_succ] | skip
            obtain ⟨y8, hy8⟩ : ∃ z, z = (y7.setCell ⟨r, 0, none⟩ (.string o1)).setCell ⟨r, 1, none⟩ (.string o2) := ⟨_, rfl⟩
            rw [← hy8] at hD8 bk8
            rw [← hy8]
            clear hHeld c0 c1 f0 f1 lb s0 s1 sf0 sf1 sl d0 d1 df0 df1 dl bk7 hD7
            have hHeld : y8.cell? ⟨w.heap.size + 1, 0, none⟩ = some (.int .i64 (1 + (yl : Int))) := by rw [hD8.bkS.cell]; rfl
            refine wpAnyH_take (i := 17) (oi := ?oi2874) (v := ?val2874) ?hi2874 ?hs2874 ?hf2874 ?hr2874 ?hQ2874 ?hy2874 ?hS2874 ?hrest2874
            case hi2874 => (simp only [List.getElem?_toArray, List.getElem?_cons_succ, List.getElem?_cons_zero] <;> exact rfl)
            case hs2874 => kernel_rfl
            case hf2874 => kernel_rfl
            case hr2874 => kernel_rfl
            case hQ2874 => exact fun _ _ _ h => h
            case hS2874 => assumption
            case hy2874 => (refine Or.inl ⟨by rfl, ?_⟩; intro w hSw; (try dsimp only at hSw); go_simp; try with_reducible rfl)
            simp only [Act.put, List.setIfInBounds_toArray, List.set_cons_zero, List.set_cons_succ]
            refine wpAnyH_done (by kernel_rfl) ?_ _
            clear hHeld hy8
            have c0 : y8.cell? ⟨w.heap.size, 0, none⟩ = some (.int .i64 0) := by rw [hD8.bkR.cell]; rfl
            have c1 : y8.cell? ⟨w.heap.size, 1, none⟩ = some (.slice none 0 0) := by rw [hD8.bkR.cell]; rfl
            have f0 := hD8.bkR.free 0
            have f1 := hD8.bkR.free 1
            have lb := hD8.bkR.lt
            have s0 : y8.cell? ⟨w.heap.size + 1, 0, none⟩ = some (.int .i64 (1 + (yl : Int))) := by rw [hD8.bkS.cell]; rfl
            have s1 : y8.cell? ⟨w.heap.size + 1, 1, none⟩ = some (.slice B k d) := by rw [hD8.bkS.cell]; rfl
            have sf0 := hD8.bkS.free 0
            have sf1 := hD8.bkS.free 1
            have sl := hD8.bkS.lt
            have d0 : y8.cell? ⟨r, 0, none⟩ = some (.string o1) := by rw [bk8.cell]; rfl
            have d1 : y8.cell? ⟨r, 1, none⟩ = some (.string o2) := by rw [bk8.cell]; rfl
            have dl := bk8.lt
            cases ob
            · skip
              have HD8 := Lib.hid hD8
              clear hD8
              have Bk8 := Lib.hid bk8
              clear bk8
              go_wp2_with fail
              go_roundw
              case rel => exact ⟨j - 1, B, k, d, rs, by go_num, by omega, HG, HD8⟩
              case measure => simp [intOf] <;> omega
            · have hO8 := hD8.own
              have hz8 := hD8.bkS.lt
              have HD8 := Lib.hid hD8
              clear hD8
              have Bk8 := Lib.hid bk8
              clear bk8
              go_wp2_with (at_builtin; go_loud (refine wpList_app5 _ y8 y8.heap.size rfl rfl _ _ 23 rfl (w.heap.size + 2) 68 2 32 _ Tryz.underlying23 info_Rule rfl (by omega) (.slice B k d) k _ _ rfl rfl rfl hO8 rfl (one_cell_ruleP _ _) (by omega) (by unfold maxLen; omega) (by omega) ?_); intro g5 c5 w5 hO9 hV9 hG9 hat9; have t1 : w5.cell? ⟨w.heap.size + 1, 1, none⟩ = some (.slice B k d) := (by have hq := HD8.out.bkS.below hV9 (by omega); rw [hq.cell]; rfl); have tf := (HD8.out.bkS.below hV9 (by omega)).free 1; have tl := (HD8.out.bkS.below hV9 (by omega)).lt)
              have hcr : cellsRule (rs ++ [(o1, o2)]) = cellsRule rs ++ (#[.string o1, .string o2] : Array Value).toList := by simp [cellsRule, encRule]
              have hO10 := hO9
              rw [← hcr] at hO10
              have hD9 := HD8.out.let1 hV9 hO10 (by rw [List.length_append, ← HD8.out.len]; rfl)
              have hgd := orient_good ho.symm
              refine ⟨⟨j - 1, some ⟨g5, 0, none⟩, k + 1, c5, rs ++ [(o1, o2)], by go_num, by omega, Lib.hid (fun q hq => ?_), hD9⟩, by simp [intOf] <;> omega⟩
              rcases List.mem_append.1 hq with h | h
              · exact HG.out q h
              · rw [List.mem_singleton.1 h]
                exact hgd
          · have hsys := sys_of_all (l := (1 + (yl : Int))) (by omega) (by omega) (by rw [← hD6.len]; omega) HG.out
            have HD6 := Lib.hid hD6
            clear hD6
            have Hsys := Lib.hid hsys
            clear hsys
            go_wp2_with fail
            have hne : (Value.slice B k d).ownBlock ≠ some w.heap.size := by
              intro e
              have := (HD6.out.own.lt _ e).1
              omega
            have hb9 : Below w.heap.size wr ((wr.setCell ⟨w.heap.size, 0, none⟩ (.int .i64 (1 + (yl : Int)))).setCell ⟨w.heap.size, 1, none⟩ (.slice B k d)) := ((Below.refl _ _).setCell (p := ⟨w.heap.size, 0, none⟩) (Nat.le_refl _) _).setCell (p := ⟨w.heap.size, 1, none⟩) (Nat.le_refl _) _
            have hO9 := own_mono (own_far3 (own_far3 HD6.out.own (p := ⟨w.heap.size, 0, none⟩) hne (.int .i64 (1 + (yl : Int)))) (p := ⟨w.heap.size, 1, none⟩) hne (.slice B k d)) (b' := w.heap.size) (show w.heap.size ≤ w.heap.size + 2 by omega)
            have hC9 := cur_low HD6.out.cur hb9 HD6.out.lP
            have hG9 := gb_up HD6.out.gb hb9
            have hBn := (HD6.out.bkR.put 0 (.int .i64 (1 + (yl : Int)))).put 1 (.slice B k d)
            have q0 := hBn.cell 0
            have q1 := hBn.cell 1
            refine bodyPost_ret (v := .agg #[.int .i64 (1 + (yl : Int)), .slice B k d]) (by simp [results, Tryz.results22, go_sem, q0, q1]) rfl ?_
            exact ⟨(1 + (yl : Int)), B, k, d, rs, Hsys.out, HD6.out.len, rfl, hO9, HD6.out.src0.next hC9 hG9, hG9⟩
      · have hal := (Below.refl w6.heap.size w6).alloc (Nat.le_refl _) (.cells #[.int .i64 l6, .slice B6 k6 d6] 25)
        have hDt := hD6.below hal
        have hbt := Bk.new w6 25 #[.int .i64 l6, .slice B6 k6 d6]
        have hO7 := hO6.alloc (.cells #[.int .i64 l6, .slice B6 k6 d6] 25)
        have hrd := (Rd.of_own hO6).keep hal
        have hz7 : ∀ x ∈ rs6, x.1.size ≤ 1048576 ∧ x.2.size ≤ 1048576 := fun x hx => by (have := hz6 x hx); omega
        obtain ⟨tb, htb⟩ : ∃ z, z = w6.heap.size := ⟨_, rfl⟩
        clear hal hO6
        have HD6 := Lib.hid hD6
        clear hD6
        have Hk6 := Lib.hid hk6
        clear hk6
        have Hz6 := Lib.hid hz6
        clear hz6
        have HDt := Lib.hid hDt
        clear hDt
        have Hbt := Lib.hid hbt
        clear hbt
        have HO7 := Lib.hid hO7
        clear hO7
        have Hrd := Lib.hid hrd
        clear hrd
        have Hz7 := Lib.hid hz7
        clear hz7
        have Htb := Lib.hid htb
        clear htb
        go_wp2_with fail
        with_reducible refine (specSystemOk_any l6 B6 k6 d6 rs6 _ Hrd.out Hk6.out (by omega) Hz7.out).mono ?_
        rintro e w7 ⟨rfl, b7⟩
        have hD7 := HDt.out.below b7
        have hb7 := Hbt.out.below b7 Hbt.out.lt
        have hO8 := own_keep HO7.out b7 (Nat.le_refl _)
        rw [← Htb.out] at hb7
        rw [← Htb.out]
        clear b7 HDt Hbt HO7 Hrd HD6 c0 c1 f0 f1 lb s0 s1 sf0 sf1 sl
        have c0 : w7.cell? ⟨w.heap.size, 0, none⟩ = some (.int .i64 0) := by rw [hD7.bkR.cell]; rfl
        have c1 : w7.cell? ⟨w.heap.size, 1, none⟩ = some (.slice none 0 0) := by rw [hD7.bkR.cell]; rfl
        have f0 := hD7.bkR.free 0
        have f1 := hD7.bkR.free 1
        have lb := hD7.bkR.lt
        have s0 : w7.cell? ⟨w.heap.size + 1, 0, none⟩ = some (.int .i64 (1 + (yl : Int))) := by rw [hD7.bkS.cell]; rfl
        have s1 : w7.cell? ⟨w.heap.size + 1, 1, none⟩ = some (.slice none 0 0) := by rw [hD7.bkS.cell]; rfl
        have sf0 := hD7.bkS.free 0
        have sf1 := hD7.bkS.free 1
        have sl := hD7.bkS.lt
        have t0 : w7.cell? ⟨tb, 0, none⟩ = some (.int .i64 l6) := by rw [hb7.cell]; rfl
        have t1 : w7.cell? ⟨tb, 1, none⟩ = some (.slice B6 k6 d6) := by rw [hb7.cell]; rfl
        have tl := hb7.lt
        have HD7 := Lib.hid hD7
        clear hD7
        have Hb7 := Lib.hid hb7
        clear hb7
        have HO8 := Lib.hid hO8
        clear hO8
        obtain ⟨so, hrr⟩ : ∃ r', r' = (systemOk l6 rs6) := ⟨_, rfl⟩
        rw [← hrr]
        have HSo := Lib.hid hrr
        clear hrr
        cases so
        · clear hlt4 t0 t1 tl Hb7 HO8
          go_wp2_with fail
          with_reducible refine (HD7.out.src.underI 4 4 rfl (by omega) (by omega)).mono ?_
          rintro e w5 ⟨x, hx, rfl, hs5, hg5⟩
          have hD5 := HD7.out.next hs5 hg5
          clear hs5 hg5 HD7 c0 c1 f0 f1 lb s0 s1 sf0 sf1 sl
          have c0 : w5.cell? ⟨w.heap.size, 0, none⟩ = some (.int .i64 0) := by rw [hD5.bkR.cell]; rfl
          have c1 : w5.cell? ⟨w.heap.size, 1, none⟩ = some (.slice none 0 0) := by rw [hD5.bkR.cell]; rfl
          have f0 := hD5.bkR.free 0
          have f1 := hD5.bkR.free 1
          have lb := hD5.bkR.lt
          have s0 : w5.cell? ⟨w.heap.size + 1, 0, none⟩ = some (.int .i64 (1 + (yl : Int))) := by rw [hD5.bkS.cell]; rfl
          have s1 : w5.cell? ⟨w.heap.size + 1, 1, none⟩ = some (.slice none 0 0) := by rw [hD5.bkS.cell]; rfl
          have sf0 := hD5.bkS.free 0
          have sf1 := hD5.bkS.free 1
          have sl := hD5.bkS.lt
          have HD5 := Lib.hid hD5
          clear hD5
          go_wp2_with fail
          go_loopw [6] (fun i wr => ∃ (j : Nat) (B : Option Addr) (k d : Nat) (rs : List RuleT), i = .int .i64 j ∧ j + k ≤ 3 ∧ Hid (∀ r ∈ rs, ruleOk (1 + (yl : Int)) r = true ∧ fallsOk r = true) ∧ Hid (DrSt w wr P A n c zs (1 + (yl : Int)) B k d rs)) (fun i _ => (intOf i).toNat)
          case atStart => exact ⟨x, none, 0, 0, [], rfl, by omega, Lib.hid (by simp), HD5⟩
          case round =>
            clear HD5 c0 c1 f0 f1 lb s0 s1 sf0 sf1 sl
            obtain ⟨j, B, k, d, rs, rfl, hjk, HG, HD6⟩ := hrel
            have hD6 := HD6.out
            have c0 : wr.cell? ⟨w.heap.size, 0, none⟩ = some (.int .i64 0) := by rw [hD6.bkR.cell]; rfl
            have c1 : wr.cell? ⟨w.heap.size, 1, none⟩ = some (.slice none 0 0) := by rw [hD6.bkR.cell]; rfl
            have f0 := hD6.bkR.free 0
            have f1 := hD6.bkR.free 1
            have lb := hD6.bkR.lt
            have s0 : wr.cell? ⟨w.heap.size + 1, 0, none⟩ = some (.int .i64 (1 + (yl : Int))) := by rw [hD6.bkS.cell]; rfl
            have s1 : wr.cell? ⟨w.heap.size + 1, 1, none⟩ = some (.slice B k d) := by rw [hD6.bkS.cell]; rfl
            have sf0 := hD6.bkS.free 0
            have sf1 := hD6.bkS.free 1
            have sl := hD6.bkS.lt
            by_cases hlt : 0 < j
            · have lPr := hD6.lP
              go_wp2_with fail
              refine wp_region_held_drew (S := (fun W => W.cell? ⟨w.heap.size + 1, 0, none⟩ = some (.int .i64 (1 + (yl : Int))))) (by kernel_rfl) ((by (have hq := hD6.bkS.drew); rw [hq.cell]; rfl)) (fun hHeld => ?_)
              obtain ⟨y0_, hy0⟩ : ∃ z, z = World.drew wr := ⟨_, rfl⟩
              have hD0_ : DrSt w (World.drew wr) P A n c zs (1 + (yl : Int)) B k d rs := hD6.next hD6.src.drew gb_drew
              rw [← hy0] at hD0_
              rw [← hy0] at hHeld
              rw [← hy0]
              clear hy0
              refine wpAnyH_take (i := 0) (oi := ?oi3048) (v := ?val3048) ?hi3048 ?hs3048 ?hf3048 ?hr3048 ?hQ3048 ?hy3048 ?hS3048 ?hrest3048
              case hi3048 => (simp only [List.getElem?_toArray, List.getElem?_cons_succ, List.getElem?_cons_zero] <;> exact rfl)
              case hs3048 => kernel_rfl
              case hf3048 => kernel_rfl
              case hr3048 => kernel_rfl
              case hQ3048 => exact fun _ _ _ h => h
              case hS3048 => assumption
              case hy3048 => (refine Or.inl ⟨by rfl, ?_⟩; intro w hSw; (try dsimp only at hSw); go_simp; try with_reducible rfl)
              simp only [Act.put, List.setIfInBounds_toArray, List.set_cons_zero, List.set_cons_succ]
              refine wpAnyH_take (i := 1) (oi := ?oi3057) (v := ?val3057) ?hi3057 ?hs3057 ?hf3057 ?hr3057 ?hQ3057 ?hy3057 ?hS3057 ?hrest3057
              case hi3057 => (simp only [List.getElem?_toArray, List.getElem?_cons_succ, List.getElem?_cons_zero] <;> exact rfl)
              case hs3057 => kernel_rfl
              case hf3057 => kernel_rfl
              case hr3057 => kernel_rfl
              case hQ3057 => exact fun _ _ _ h => h
              case hS3057 => assumption
              case hy3057 => (refine Or.inl ⟨by rfl, ?_⟩; intro w hSw; (try dsimp only at hSw); go_simp; try with_reducible rfl)
              simp only [Act.put, List.setIfInBounds_toArray, List.set_cons_zero, List.set_cons_succ]
              refine wpAnyH_take (i := 2) (oi := ?oi3066) (v := ?val3066) ?hi3066 ?hs3066 ?hf3066 ?hr3066 ?hQ3066 ?hy3066 ?hS3066 ?hrest3066
              case hi3066 => (simp only [List.getElem?_toArray, List.getElem?_cons_succ, List.getElem?_cons_zero] <;> exact rfl)
              case hs3066 => kernel_rfl
              case hf3066 => kernel_rfl
              case hr3066 => kernel_rfl
              case hQ3066 => exact fun _ _ _ h => h
              case hS3066 => assumption
              case hy3066 => (refine Or.inl ⟨by rfl, ?_⟩; intro w hSw; (try dsimp only at hSw); go_simp; try with_reducible rfl)
              simp only [Act.put, List.setIfInBounds_toArray, List.set_cons_zero, List.set_cons_succ]
              refine wpAnyH_take (i := 3) (oi := ?oi3075) (v := ?val3075) ?hi3075 ?hs3075 ?hf3075 ?hr3075 ?hQ3075 ?hy3075 ?hS3075 ?hrest3075
              case hi3075 => (simp only [List.getElem?_toArray, List.getElem?_cons_succ, List.getElem?_cons_zero] <;> exact rfl)
              case hs3075 => kernel_rfl
              case hf3075 => kernel_rfl
              case hr3075 => kernel_rfl
              case hQ3075 => exact fun _ _ _ h => h
              case hS3075 => assumption
              case hy3075 => (refine Or.inl ⟨by rfl, ?_⟩; intro w hSw; (try dsimp only at hSw); go_simp; try with_reducible rfl)
              simp only [Act.put, List.setIfInBounds_toArray, List.set_cons_zero, List.set_cons_succ]
              refine wpAnyH_take (i := 4) (oi := ?oi3084) (v := ?val3084) ?hi3084 ?hs3084 ?hf3084 ?hr3084 ?hQ3084 ?hy3084 ?hS3084 ?hrest3084
              case hi3084 => (simp only [List.getElem?_toArray, List.getElem?_cons_succ, List.getElem?_cons_zero] <;> exact rfl)
              case hs3084 => kernel_rfl
              case hf3084 => kernel_rfl
              case hr3084 => kernel_rfl
              case hQ3084 => exact fun _ _ _ h => h
              case hS3084 => assumption
              case hy3084 => (refine Or.inl ⟨by rfl, ?_⟩; intro w hSw; (try dsimp only at hSw); go_simp; try with_reducible rfl)
              simp only [Act.put, List.setIfInBounds_toArray, List.set_cons_zero, List.set_cons_succ]
              refine wpAnyH_take (i := 6) (oi := ?oi3093) (v := ?val3093) ?hi3093 ?hs3093 ?hf3093 ?hr3093 ?hQ3093 ?hy3093 ?hS3093 ?hrest3093
              case hi3093 => (simp only [List.getElem?_toArray, List.getElem?_cons_succ, List.getElem?_cons_zero] <;> exact rfl)
              case hs3093 => kernel_rfl
              case hf3093 => kernel_rfl
              case hr3093 => kernel_rfl
              case hQ3093 => exact fun _ _ _ h => h
              case hS3093 => assumption
              case hy3093 => (refine Or.inl ⟨by rfl, ?_⟩; intro w hSw; (try dsimp only at hSw); go_simp; try with_reducible rfl)
              simp only [Act.put, List.setIfInBounds_toArray, List.set_cons_zero, List.set_cons_succ]
              refine wpAnyH_take (i := 7) (oi := ?oi3102) (v := ?val3102) ?hi3102 ?hs3102 ?hf3102 ?hr3102 ?hQ3102 ?hy3102 ?hS3102 ?hrest3102
              case hi3102 => (simp only [List.getElem?_toArray, List.getElem?_cons_succ, List.getElem?_cons_zero] <;> exact rfl)
              case hs3102 => kernel_rfl
              case hf3102 => kernel_rfl
              case hr3102 => kernel_rfl
              case hQ3102 => exact fun _ _ _ h => h
              case hS3102 => assumption
              case hy3102 => (refine Or.inl ⟨by rfl, ?_⟩; intro w hSw; (try dsimp only at hSw); go_simp; try with_reducible rfl)
              simp only [Act.put, List.setIfInBounds_toArray, List.set_cons_zero, List.set_cons_succ]
              refine wpAnyH_take (i := 8) (oi := ?oi3111) (v := ?val3111) ?hi3111 ?hs3111 ?hf3111 ?hr3111 ?hQ3111 ?hy3111 ?hS3111 ?hrest3111
              case hi3111 => (simp only [List.getElem?_toArray, List.getElem?_cons_succ, List.getElem?_cons_zero] <;> exact rfl)
              case hs3111 => kernel_rfl
              case hf3111 => kernel_rfl
              case hr3111 => kernel_rfl
              case hQ3111 => exact fun _ _ _ h => h
              case hS3111 => assumption
              case hy3111 => (refine Or.inl ⟨by rfl, ?_⟩; intro w hSw; (try dsimp only at hSw); go_simp; try with_reducible rfl)
              simp only [Act.put, List.setIfInBounds_toArray, List.set_cons_zero, List.set_cons_succ]
              apply meetD (F := fun u v r y => DrSt w y P A n c zs (1 + (yl : Int)) B k d rs ∧ Bk y r 68 #[.string ⟨#[]⟩, .string ⟨#[]⟩] ∧ w.heap.size + 2 ≤ r ∧ (Value.slice B k d).ownBlock ≠ some r ∧ u.size ≤ 4 ∧ lettersOk (((1 + yl) : Nat) : Int) u = true ∧ v.size ≤ 3 ∧ lettersOk (((1 + yl) : Nat) : Int) v = true)
              · intro hkey
                refine wpAnyH_ready (rs := [5, 15]) (by kernel_rfl) (by simp) ?_
                refine AllReadyH.cons rfl (fun K hK => ?_) (AllReadyH.cons rfl (fun K hK => ?_) AllReadyH.nil)
                · skip
                  go_simp
                  with_reducible refine (hD0_.src.wordI (1 + yl) 4 (1 + (yl : Int)) 4 (by omega) rfl (by omega) (by omega) (by omega)).mono ?_
                  rintro e y386_ ⟨u387_, hu388_, hl389_, rfl, hs390_, hg391_⟩
                  have hD392_ := hD0_.next hs390_ hg391_
                  refine hK.out _ _ (by rw [hD392_.bkS.cell]; rfl) (fun hHeld => ?_)
                  clear hK K
                  first | simp only [Act.put, List.setIfInBounds_toArray, List.set_cons_zero, List.set_cons_succ] | skip
                  refine wpAnyH_ready (rs := [9, 15]) (by kernel_rfl) (by simp) ?_
                  refine AllReadyH.cons rfl (fun K hK => ?_) (AllReadyH.cons rfl (fun K hK => ?_) AllReadyH.nil)
                  · skip
                    go_simp
                    with_reducible refine (hD392_.src.wordI (1 + yl) 3 (1 + (yl : Int)) 3 (by omega) rfl (by omega) (by omega) (by omega)).mono ?_
                    rintro e y393_ ⟨u394_, hu395_, hl396_, rfl, hs397_, hg398_⟩
                    have hD399_ := hD392_.next hs397_ hg398_
                    refine hK.out _ _ (by rw [hD399_.bkS.cell]; rfl) (fun hHeld => ?_)
                    clear hK K
                    first | simp only [Act.put, List.setIfInBounds_toArray, List.set_cons_zero, List.set_cons_succ] | skip
                    refine wpAnyH_take (i := 10) (oi := ?oi3142) (v := ?val3142) ?hi3142 ?hs3142 ?hf3142 ?hr3142 ?hQ3142 ?hy3142 ?hS3142 ?hrest3142
                    case hi3142 => (simp only [List.getElem?_toArray, List.getElem?_cons_succ, List.getElem?_cons_zero] <;> exact rfl)
                    case hs3142 => kernel_rfl
                    case hf3142 => kernel_rfl
                    case hr3142 => kernel_rfl
                    case hQ3142 => exact fun _ _ _ h => h
                    case hS3142 => assumption
                    case hy3142 => (refine Or.inl ⟨by rfl, ?_⟩; intro w hSw; (try dsimp only at hSw); go_simp; try with_reducible rfl)
                    simp only [Act.put, List.setIfInBounds_toArray, List.set_cons_zero, List.set_cons_succ]
                    refine wpAnyH_ready (rs := [11, 15]) (by kernel_rfl) (by simp) ?_
                    refine AllReadyH.cons rfl (fun K hK => ?_) (AllReadyH.cons rfl (fun K hK => ?_) AllReadyH.nil)
                    · skip
                      go_simp
                      with_reducible refine (orient_any (1 + (yl : Int)) u387_ u394_ _ (by omega) (by omega)).mono ?_
                      rintro e y400_ ⟨rfl, b401_⟩
                      have hD402_ := hD399_.below b401_
                      refine hK.out _ _ (by rw [hD402_.bkS.cell]; rfl) (fun hHeld => ?_)
                      clear hK K
                      first | simp only [Act.put, List.setIfInBounds_toArray, List.set_cons_zero, List.set_cons_succ] | skip
                      refine wpAnyH_take (i := 12) (oi := ?oi3161) (v := ?val3161) ?hi3161 ?hs3161 ?hf3161 ?hr3161 ?hQ3161 ?hy3161 ?hS3161 ?hrest3161
                      case hi3161 => (simp only [List.getElem?_toArray, List.getElem?_cons_succ, List.getElem?_cons_zero] <;> exact rfl)
                      case hs3161 => kernel_rfl
                      case hf3161 => kernel_rfl
                      case hr3161 => kernel_rfl
                      case hQ3161 => exact fun _ _ _ h => h
                      case hS3161 => assumption
                      case hy3161 => (refine Or.inl ⟨by rfl, ?_⟩; intro w hSw; (try dsimp only at hSw); go_simp; try with_reducible rfl)
                      simp only [Act.put, List.setIfInBounds_toArray, List.set_cons_zero, List.set_cons_succ]
                      refine wpAnyH_take (i := 13) (oi := ?oi3170) (v := ?val3170) ?hi3170 ?hs3170 ?hf3170 ?hr3170 ?hQ3170 ?hy3170 ?hS3170 ?hrest3170
                      case hi3170 => (simp only [List.getElem?_toArray, List.getElem?_cons_succ, List.getElem?_cons_zero] <;> exact rfl)
                      case hs3170 => kernel_rfl
                      case hf3170 => kernel_rfl
                      case hr3170 => kernel_rfl
                      case hQ3170 => exact fun _ _ _ h => h
                      case hS3170 => assumption
                      case hy3170 => (refine Or.inl ⟨by rfl, ?_⟩; intro w hSw; (try dsimp only at hSw); go_simp; try with_reducible rfl)
                      simp only [Act.put, List.setIfInBounds_toArray, List.set_cons_zero, List.set_cons_succ]
                      refine wpAnyH_take (i := 14) (oi := ?oi3179) (v := ?val3179) ?hi3179 ?hs3179 ?hf3179 ?hr3179 ?hQ3179 ?hy3179 ?hS3179 ?hrest3179
                      case hi3179 => (simp only [List.getElem?_toArray, List.getElem?_cons_succ, List.getElem?_cons_zero] <;> exact rfl)
                      case hs3179 => kernel_rfl
                      case hf3179 => kernel_rfl
                      case hr3179 => kernel_rfl
                      case hQ3179 => exact fun _ _ _ h => h
                      case hS3179 => assumption
                      case hy3179 => (refine Or.inl ⟨by rfl, ?_⟩; intro w hSw; (try dsimp only at hSw); go_simp; try with_reducible rfl)
                      simp only [Act.put, List.setIfInBounds_toArray, List.set_cons_zero, List.set_cons_succ]
                      refine wpAnyH_ready (rs := [15]) (by kernel_rfl) (by simp) ?_
                      refine AllReadyH.cons rfl (fun K hK => ?_) AllReadyH.nil
                      go_simp
                      have hD404_ := hD402_.below ((Below.refl _ _).alloc (Nat.le_refl _) (.cells #[.string ⟨#[]⟩, .string ⟨#[]⟩] 68))
                      have bk406_ := Bk.new y400_ 68 #[.string ⟨#[]⟩, .string ⟨#[]⟩]
                      have le407_ : w.heap.size + 2 ≤ (World.heap y400_).size := hD402_.bkS.lt
                      have nb408_ := own_new_ne3 hD402_.own (Nat.le_refl _)
                      refine hK.out _ _ (by rw [hD404_.bkS.cell]; rfl) (fun hHeld => ?_)
                      clear hK K
                      first | simp only [Act.put, List.setIfInBounds_toArray, List.set_cons_zero, List.set_cons_succ] | skip
                      obtain ⟨y403_, hy⟩ : ∃ z, z = World.alloc y400_ (.cells #[.string ⟨#[]⟩, .string ⟨#[]⟩] 68) := ⟨_, rfl⟩
                      obtain ⟨r405_, hb⟩ : ∃ z, z = (World.heap y400_).size := ⟨_, rfl⟩
                      rw [← hy] at bk406_ hD404_
                      rw [← hb] at bk406_ le407_ nb408_
                      rw [← hy, ← hb]
                      clear hHeld
                      have hHeld : y403_.cell? ⟨w.heap.size + 1, 0, none⟩ = some (.int .i64 (1 + (yl : Int))) := by rw [hD404_.bkS.cell]; rfl
                      clear hy hb
                      exact hkey u387_ u394_ r405_ y403_ ⟨hD404_, bk406_, le407_, nb408_, hu388_, hl389_, hu395_, hl396_⟩
                    · skip
                      go_simp
                      have hD410_ := hD399_.below ((Below.refl _ _).alloc (Nat.le_refl _) (.cells #[.string ⟨#[]⟩, .string ⟨#[]⟩] 68))
                      have bk412_ := Bk.new y393_ 68 #[.string ⟨#[]⟩, .string ⟨#[]⟩]
                      have le413_ : w.heap.size + 2 ≤ (World.heap y393_).size := hD399_.bkS.lt
                      have nb414_ := own_new_ne3 hD399_.own (Nat.le_refl _)
                      refine hK.out _ _ (by rw [hD410_.bkS.cell]; rfl) (fun hHeld => ?_)
                      clear hK K
                      first | simp only [Act.put, List.setIfInBounds_toArray, List.set_cons_zero, List.set_cons_succ] | skip
                      obtain ⟨y409_, hy⟩ : ∃ z, z = World.alloc y393_ (.cells #[.string ⟨#[]⟩, .string ⟨#[]⟩] 68) := ⟨_, rfl⟩
                      obtain ⟨r411_, hb⟩ : ∃ z, z = (World.heap y393_).size := ⟨_, rfl⟩
                      rw [← hy] at bk412_ hD410_
                      rw [← hb] at bk412_ le413_ nb414_
                      rw [← hy, ← hb]
                      clear hHeld
                      have hHeld : y409_.cell? ⟨w.heap.size + 1, 0, none⟩ = some (.int .i64 (1 + (yl : Int))) := by rw [hD410_.bkS.cell]; rfl
                      clear hy hb
                      refine wpAnyH_ready (rs := [11]) (by kernel_rfl) (by simp) ?_
                      refine AllReadyH.cons rfl (fun K hK => ?_) AllReadyH.nil
                      go_simp
                      with_reducible refine (orient_any (1 + (yl : Int)) u387_ u394_ _ (by omega) (by omega)).mono ?_
                      rintro e y415_ ⟨rfl, b416_⟩
                      have hD417_ := hD410_.below b416_
                      have bk418_ := bk412_.below b416_ bk412_.lt
                      refine hK.out _ _ (by rw [hD417_.bkS.cell]; rfl) (fun hHeld => ?_)
                      clear hK K
                      first | simp only [Act.put, List.setIfInBounds_toArray, List.set_cons_zero, List.set_cons_succ] | skip
                      refine wpAnyH_take (i := 12) (oi := ?oi3234) (v := ?val3234) ?hi3234 ?hs3234 ?hf3234 ?hr3234 ?hQ3234 ?hy3234 ?hS3234 ?hrest3234
                      case hi3234 => (simp only [List.getElem?_toArray, List.getElem?_cons_succ, List.getElem?_cons_zero] <;> exact rfl)
                      case hs3234 => kernel_rfl
                      case hf3234 => kernel_rfl
                      case hr3234 => kernel_rfl
                      case hQ3234 => exact fun _ _ _ h => h
                      case hS3234 => assumption
                      case hy3234 => (refine Or.inl ⟨by rfl, ?_⟩; intro w hSw; (try dsimp only at hSw); go_simp; try with_reducible rfl)
                      simp only [Act.put, List.setIfInBounds_toArray, List.set_cons_zero, List.set_cons_succ]
                      refine wpAnyH_take (i := 13) (oi := ?oi3243) (v := ?val3243) ?hi3243 ?hs3243 ?hf3243 ?hr3243 ?hQ3243 ?hy3243 ?hS3243 ?hrest3243
                      case hi3243 => (simp only [List.getElem?_toArray, List.getElem?_cons_succ, List.getElem?_cons_zero] <;> exact rfl)
                      case hs3243 => kernel_rfl
                      case hf3243 => kernel_rfl
                      case hr3243 => kernel_rfl
                      case hQ3243 => exact fun _ _ _ h => h
                      case hS3243 => assumption
                      case hy3243 => (refine Or.inl ⟨by rfl, ?_⟩; intro w hSw; (try dsimp only at hSw); go_simp; try with_reducible rfl)
                      simp only [Act.put, List.setIfInBounds_toArray, List.set_cons_zero, List.set_cons_succ]
                      refine wpAnyH_take (i := 14) (oi := ?oi3252) (v := ?val3252) ?hi3252 ?hs3252 ?hf3252 ?hr3252 ?hQ3252 ?hy3252 ?hS3252 ?hrest3252
                      case hi3252 => (simp only [List.getElem?_toArray, List.getElem?_cons_succ, List.getElem?_cons_zero] <;> exact rfl)
                      case hs3252 => kernel_rfl
                      case hf3252 => kernel_rfl
                      case hr3252 => kernel_rfl
                      case hQ3252 => exact fun _ _ _ h => h
                      case hS3252 => assumption
                      case hy3252 => (refine Or.inl ⟨by rfl, ?_⟩; intro w hSw; (try dsimp only at hSw); go_simp; try with_reducible rfl)
                      simp only [Act.put, List.setIfInBounds_toArray, List.set_cons_zero, List.set_cons_succ]
                      exact hkey u387_ u394_ r411_ y415_ ⟨hD417_, bk418_, le413_, nb414_, hu388_, hl389_, hu395_, hl396_⟩
                  · skip
                    go_simp
                    have hD420_ := hD392_.below ((Below.refl _ _).alloc (Nat.le_refl _) (.cells #[.string ⟨#[]⟩, .string ⟨#[]⟩] 68))
                    have bk422_ := Bk.new y386_ 68 #[.string ⟨#[]⟩, .string ⟨#[]⟩]
                    have le423_ : w.heap.size + 2 ≤ (World.heap y386_).size := hD392_.bkS.lt
                    have nb424_ := own_new_ne3 hD392_.own (Nat.le_refl _)
                    refine hK.out _ _ (by rw [hD420_.bkS.cell]; rfl) (fun hHeld => ?_)
                    clear hK K
                    first | simp only [Act.put, List.setIfInBounds_toArray, List.set_cons_zero, List.set_cons_succ] | skip
                    obtain ⟨y419_, hy⟩ : ∃ z, z = World.alloc y386_ (.cells #[.string ⟨#[]⟩, .string ⟨#[]⟩] 68) := ⟨_, rfl⟩
                    obtain ⟨r421_, hb⟩ : ∃ z, z = (World.heap y386_).size := ⟨_, rfl⟩
                    rw [← hy] at bk422_ hD420_
                    rw [← hb] at bk422_ le423_ nb424_
                    rw [← hy, ← hb]
                    clear hHeld
                    have hHeld : y419_.cell? ⟨w.heap.size + 1, 0, none⟩ = some (.int .i64 (1 + (yl : Int))) := by rw [hD420_.bkS.cell]; rfl
                    clear hy hb
                    refine wpAnyH_ready (rs := [9]) (by kernel_rfl) (by simp) ?_
                    refine AllReadyH.cons rfl (fun K hK => ?_) AllReadyH.nil
                    go_simp
                    with_reducible refine (hD420_.src.wordI (1 + yl) 3 (1 + (yl : Int)) 3 (by omega) rfl (by omega) (by omega) (by omega)).mono ?_
                    rintro e y425_ ⟨u426_, hu427_, hl428_, rfl, hs429_, hg430_⟩
                    have hD431_ := hD420_.next hs429_ hg430_
                    have bk432_ := bk422_.grown hg430_ (by intro e; injection e with e; omega)
                    refine hK.out _ _ (by rw [hD431_.bkS.cell]; rfl) (fun hHeld => ?_)
                    clear hK K
                    first | simp only [Act.put, List.setIfInBounds_toArray, List.set_cons_zero, List.set_cons_succ] | skip
                    refine wpAnyH_take (i := 10) (oi := ?oi3289) (v := ?val3289) ?hi3289 ?hs3289 ?hf3289 ?hr3289 ?hQ3289 ?hy3289 ?hS3289 ?hrest3289
                    case hi3289 => (simp only [List.getElem?_toArray, List.getElem?_cons_succ, List.getElem?_cons_zero] <;> exact rfl)
                    case hs3289 => kernel_rfl
                    case hf3289 => kernel_rfl
                    case hr3289 => kernel_rfl
                    case hQ3289 => exact fun _ _ _ h => h
                    case hS3289 => assumption
                    case hy3289 => (refine Or.inl ⟨by rfl, ?_⟩; intro w hSw; (try dsimp only at hSw); go_simp; try with_reducible rfl)
                    simp only [Act.put, List.setIfInBounds_toArray, List.set_cons_zero, List.set_cons_succ]
                    refine wpAnyH_ready (rs := [11]) (by kernel_rfl) (by simp) ?_
                    refine AllReadyH.cons rfl (fun K hK => ?_) AllReadyH.nil
                    go_simp
                    with_reducible refine (orient_any (1 + (yl : Int)) u387_ u426_ _ (by omega) (by omega)).mono ?_
                    rintro e y433_ ⟨rfl, b434_⟩
                    have hD435_ := hD431_.below b434_
                    have bk436_ := bk432_.below b434_ bk432_.lt
                    refine hK.out _ _ (by rw [hD435_.bkS.cell]; rfl) (fun hHeld => ?_)
                    clear hK K
                    first | simp only [Act.put, List.setIfInBounds_toArray, List.set_cons_zero, List.set_cons_succ] | skip
                    refine wpAnyH_take (i := 12) (oi := ?oi3308) (v := ?val3308) ?hi3308 ?hs3308 ?hf3308 ?hr3308 ?hQ3308 ?hy3308 ?hS3308 ?hrest3308
                    case hi3308 => (simp only [List.getElem?_toArray, List.getElem?_cons_succ, List.getElem?_cons_zero] <;> exact rfl)
                    case hs3308 => kernel_rfl
                    case hf3308 => kernel_rfl
                    case hr3308 => kernel_rfl
                    case hQ3308 => exact fun _ _ _ h => h
                    case hS3308 => assumption
                    case hy3308 => (refine Or.inl ⟨by rfl, ?_⟩; intro w hSw; (try dsimp only at hSw); go_simp; try with_reducible rfl)
                    simp only [Act.put, List.setIfInBounds_toArray, List.set_cons_zero, List.set_cons_succ]
                    refine wpAnyH_take (i := 13) (oi := ?oi3317) (v := ?val3317) ?hi3317 ?hs3317 ?hf3317 ?hr3317 ?hQ3317 ?hy3317 ?hS3317 ?hrest3317
                    case hi3317 => (simp only [List.getElem?_toArray, List.getElem?_cons_succ, List.getElem?_cons_zero] <;> exact rfl)
                    case hs3317 => kernel_rfl
                    case hf3317 => kernel_rfl
                    case hr3317 => kernel_rfl
                    case hQ3317 => exact fun _ _ _ h => h
                    case hS3317 => assumption
                    case hy3317 => (refine Or.inl ⟨by rfl, ?_⟩; intro w hSw; (try dsimp only at hSw); go_simp; try with_reducible rfl)
                    simp only [Act.put, List.setIfInBounds_toArray, List.set_cons_zero, List.set_cons_succ]
                    refine wpAnyH_take (i := 14) (oi := ?oi3326) (v := ?val3326) ?hi3326 ?hs3326 ?hf3326 ?hr3326 ?hQ3326 ?hy3326 ?hS3326 ?hrest3326
                    case hi3326 => (simp only [List.getElem?_toArray, List.getElem?_cons_succ, List.getElem?_cons_zero] <;> exact rfl)
                    case hs3326 => kernel_rfl
                    case hf3326 => kernel_rfl
                    case hr3326 => kernel_rfl
                    case hQ3326 => exact fun _ _ _ h => h
                    case hS3326 => assumption
                    case hy3326 => (refine Or.inl ⟨by rfl, ?_⟩; intro w hSw; (try dsimp only at hSw); go_simp; try with_reducible rfl)
                    simp only [Act.put, List.setIfInBounds_toArray, List.set_cons_zero, List.set_cons_succ]
                    exact hkey u387_ u426_ r421_ y433_ ⟨hD435_, bk436_, le423_, nb424_, hu388_, hl389_, hu427_, hl428_⟩
                · skip
                  go_simp
                  have hD438_ := hD0_.below ((Below.refl _ _).alloc (Nat.le_refl _) (.cells #[.string ⟨#[]⟩, .string ⟨#[]⟩] 68))
                  have bk440_ := Bk.new y0_ 68 #[.string ⟨#[]⟩, .string ⟨#[]⟩]
                  have le441_ : w.heap.size + 2 ≤ (World.heap y0_).size := hD0_.bkS.lt
                  have nb442_ := own_new_ne3 hD0_.own (Nat.le_refl _)
                  refine hK.out _ _ (by rw [hD438_.bkS.cell]; rfl) (fun hHeld => ?_)
                  clear hK K
                  first | simp only [Act.put, List.setIfInBounds_toArray, List.set_cons_zero, List.set_cons_succ] | skip
                  obtain ⟨y437_, hy⟩ : ∃ z, z = World.alloc y0_ (.cells #[.string ⟨#[]⟩, .string ⟨#[]⟩] 68) := ⟨_, rfl⟩
                  obtain ⟨r439_, hb⟩ : ∃ z, z = (World.heap y0_).size := ⟨_, rfl⟩
                  rw [← hy] at bk440_ hD438_
                  rw [← hb] at bk440_ le441_ nb442_
                  rw [← hy, ← hb]
                  clear hHeld
                  have hHeld : y437_.cell? ⟨w.heap.size + 1, 0, none⟩ = some (.int .i64 (1 + (yl : Int))) := by rw [hD438_.bkS.cell]; rfl
                  clear hy hb
                  refine wpAnyH_ready (rs := [5]) (by kernel_rfl) (by simp) ?_
                  refine AllReadyH.cons rfl (fun K hK => ?_) AllReadyH.nil
                  go_simp
                  with_reducible refine (hD438_.src.wordI (1 + yl) 4 (1 + (yl : Int)) 4 (by omega) rfl (by omega) (by omega) (by omega)).mono ?_
                  rintro e y443_ ⟨u444_, hu445_, hl446_, rfl, hs447_, hg448_⟩
                  have hD449_ := hD438_.next hs447_ hg448_
                  have bk450_ := bk440_.grown hg448_ (by intro e; injection e with e; omega)
                  refine hK.out _ _ (by rw [hD449_.bkS.cell]; rfl) (fun hHeld => ?_)
                  clear hK K
                  first | simp only [Act.put, List.setIfInBounds_toArray, List.set_cons_zero, List.set_cons_succ] | skip
                  refine wpAnyH_ready (rs := [9]) (by kernel_rfl) (by simp) ?_
                  refine AllReadyH.cons rfl (fun K hK => ?_) AllReadyH.nil
                  go_simp
                  with_reducible refine (hD449_.src.wordI (1 + yl) 3 (1 + (yl : Int)) 3 (by omega) rfl (by omega) (by omega) (by omega)).mono ?_
                  rintro e y451_ ⟨u452_, hu453_, hl454_, rfl, hs455_, hg456_⟩
                  have hD457_ := hD449_.next hs455_ hg456_
                  have bk458_ := bk450_.grown hg456_ (by intro e; injection e with e; omega)
                  refine hK.out _ _ (by rw [hD457_.bkS.cell]; rfl) (fun hHeld => ?_)
                  clear hK K
                  first | simp only [Act.put, List.setIfInBounds_toArray, List.set_cons_zero, List.set_cons_succ] | skip
                  refine wpAnyH_take (i := 10) (oi := ?oi3373) (v := ?val3373) ?hi3373 ?hs3373 ?hf3373 ?hr3373 ?hQ3373 ?hy3373 ?hS3373 ?hrest3373
                  case hi3373 => (simp only [List.getElem?_toArray, List.getElem?_cons_succ, List.getElem?_cons_zero] <;> exact rfl)
                  case hs3373 => kernel_rfl
                  case hf3373 => kernel_rfl
                  case hr3373 => kernel_rfl
                  case hQ3373 => exact fun _ _ _ h => h
                  case hS3373 => assumption
                  case hy3373 => (refine Or.inl ⟨by rfl, ?_⟩; intro w hSw; (try dsimp only at hSw); go_simp; try with_reducible rfl)
                  simp only [Act.put, List.setIfInBounds_toArray, List.set_cons_zero, List.set_cons_succ]
                  refine wpAnyH_ready (rs := [11]) (by kernel_rfl) (by simp) ?_
                  refine AllReadyH.cons rfl (fun K hK => ?_) AllReadyH.nil
                  go_simp
                  with_reducible refine (orient_any (1 + (yl : Int)) u444_ u452_ _ (by omega) (by omega)).mono ?_
                  rintro e y459_ ⟨rfl, b460_⟩
                  have hD461_ := hD457_.below b460_
                  have bk462_ := bk458_.below b460_ bk458_.lt
                  refine hK.out _ _ (by rw [hD461_.bkS.cell]; rfl) (fun hHeld => ?_)
                  clear hK K
                  first | simp only [Act.put, List.setIfInBounds_toArray, List.set_cons_zero, List.set_cons_succ] | skip
                  refine wpAnyH_take (i := 12) (oi := ?oi3392) (v := ?val3392) ?hi3392 ?hs3392 ?hf3392 ?hr3392 ?hQ3392 ?hy3392 ?hS3392 ?hrest3392
                  case hi3392 => (simp only [List.getElem?_toArray, List.getElem?_cons_succ, List.getElem?_cons_zero] <;> exact rfl)
                  case hs3392 => kernel_rfl
                  case hf3392 => kernel_rfl
                  case hr3392 => kernel_rfl
                  case hQ3392 => exact fun _ _ _ h => h
                  case hS3392 => assumption
                  case hy3392 => (refine Or.inl ⟨by rfl, ?_⟩; intro w hSw; (try dsimp only at hSw); go_simp; try with_reducible rfl)
                  simp only [Act.put, List.setIfInBounds_toArray, List.set_cons_zero, List.set_cons_succ]
                  refine wpAnyH_take (i := 13) (oi := ?oi3401) (v := ?val3401) ?hi3401 ?hs3401 ?hf3401 ?hr3401 ?hQ3401 ?hy3401 ?hS3401 ?hrest3401
                  case hi3401 => (simp only [List.getElem?_toArray, List.getElem?_cons_succ, List.getElem?_cons_zero] <;> exact rfl)
                  case hs3401 => kernel_rfl
                  case hf3401 => kernel_rfl
                  case hr3401 => kernel_rfl
                  case hQ3401 => exact fun _ _ _ h => h
                  case hS3401 => assumption
                  case hy3401 => (refine Or.inl ⟨by rfl, ?_⟩; intro w hSw; (try dsimp only at hSw); go_simp; try with_reducible rfl)
                  simp only [Act.put, List.setIfInBounds_toArray, List.set_cons_zero, List.set_cons_succ]
                  refine wpAnyH_take (i := 14) (oi := ?oi3410) (v := ?val3410) ?hi3410 ?hs3410 ?hf3410 ?hr3410 ?hQ3410 ?hy3410 ?hS3410 ?hrest3410
                  case hi3410 => (simp only [List.getElem?_toArray, List.getElem?_cons_succ, List.getElem?_cons_zero] <;> exact rfl)
                  case hs3410 => kernel_rfl
                  case hf3410 => kernel_rfl
                  case hr3410 => kernel_rfl
                  case hQ3410 => exact fun _ _ _ h => h
                  case hS3410 => assumption
                  case hy3410 => (refine Or.inl ⟨by rfl, ?_⟩; intro w hSw; (try dsimp only at hSw); go_simp; try with_reducible rfl)
                  simp only [Act.put, List.setIfInBounds_toArray, List.set_cons_zero, List.set_cons_succ]
                  exact hkey u444_ u452_ r439_ y459_ ⟨hD461_, bk462_, le441_, nb442_, hu445_, hl446_, hu453_, hl454_⟩
              intro u v r y7 ⟨hD7, bk7, lr7, nb7, hu4, huL, hv3, hvL⟩
              obtain ⟨⟨⟨o1, o2⟩, ob⟩, ho⟩ : ∃ z, z = orientR (1 + (yl : Int)) u v := ⟨_, rfl⟩
              rw [← ho]
              dsimp only
              clear c0 c1 f0 f1 lb s0 s1 sf0 sf1 sl
              have c0 : y7.cell? ⟨w.heap.size, 0, none⟩ = some (.int .i64 0) := by rw [hD7.bkR.cell]; rfl
              have c1 : y7.cell? ⟨w.heap.size, 1, none⟩ = some (.slice none 0 0) := by rw [hD7.bkR.cell]; rfl
              have f0 := hD7.bkR.free 0
              have f1 := hD7.bkR.free 1
              have lb := hD7.bkR.lt
              have s0 : y7.cell? ⟨w.heap.size + 1, 0, none⟩ = some (.int .i64 (1 + (yl : Int))) := by rw [hD7.bkS.cell]; rfl
              have s1 : y7.cell? ⟨w.heap.size + 1, 1, none⟩ = some (.slice B k d) := by rw [hD7.bkS.cell]; rfl
              have sf0 := hD7.bkS.free 0
              have sf1 := hD7.bkS.free 1
              have sl := hD7.bkS.lt
              have d0 : y7.cell? ⟨r, 0, none⟩ = some (.string ⟨#[]⟩) := by rw [bk7.cell]; rfl
              have d1 : y7.cell? ⟨r, 1, none⟩ = some (.string ⟨#[]⟩) := by rw [bk7.cell]; rfl
              have df0 := bk7.free 0
              have df1 := bk7.free 1
              have dl := bk7.lt
              have ne1 : ¬ w.heap.size = r := by omega
              have ne2 : ¬ w.heap.size + 1 = r := by omega
              have ne3 : ¬ r = w.heap.size := by omega
              have ne4 : ¬ r = w.heap.size + 1 := by omega
              have hD8 := (hD7.far (q := ⟨r, 0, none⟩) lr7 nb7 (.string o1)).far (q := ⟨r, 1, none⟩) lr7 nb7 (.string o2)
              have bk8 := (bk7.put 0 (.string o1)).put 1 (.string o2)
              refine wpAnyH_ready (rs := [16]) (by kernel_rfl) (by simp) ?_
              refine AllReadyH.cons rfl (fun K hK => ?_) AllReadyH.nil
              (go_simp)
              refine hK.out _ _ ((by (have hq := hD8.bkS.cell 0); rw [hq]; rfl)) (fun hHeld2 => ?_)
              clear hK K hHeld
              have hHeld := hHeld2
              clear hHeld2
              first | simp only [Act.put, List.setIfInBounds_toArray, List.set_cons_zero, List.set_cons_succ] | skip
              obtain ⟨y8, hy8⟩ : ∃ z, z = (y7.setCell ⟨r, 0, none⟩ (.string o1)).setCell ⟨r, 1, none⟩ (.string o2) := ⟨_, rfl⟩
              rw [← hy8] at hD8 bk8
              rw [← hy8]
              clear hHeld c0 c1 f0 f1 lb s0 s1 sf0 sf1 sl d0 d1 df0 df1 dl bk7 hD7
              have hHeld : y8.cell? ⟨w.heap.size + 1, 0, none⟩ = some (.int .i64 (1 + (yl : Int))) := by rw [hD8.bkS.cell]; rfl
              refine wpAnyH_take (i := 17) (oi := ?oi3459) (v := ?val3459) ?hi3459 ?hs3459 ?hf3459 ?hr3459 ?hQ3459 ?hy3459 ?hS3459 ?hrest3459
              case hi3459 => (simp only [List.getElem?_toArray, List.getElem?_cons_succ, List.getElem?_cons_zero] <;> exact rfl)
              case hs3459 => kernel_rfl
              case hf3459 => kernel_rfl
              case hr3459 => kernel_rfl
              case hQ3459 => exact fun _ _ _ h => h
              case hS3459 => assumption
              case hy3459 => (refine Or.inl ⟨by rfl, ?_⟩; intro w hSw; (try dsimp only at hSw); go_simp; try with_reducible rfl)
              simp only [Act.put, List.setIfInBounds_toArray, List.set_cons_zero, List.set_cons_succ]
              refine wpAnyH_done (by kernel_rfl) ?_ _
              clear hHeld hy8
              have c0 : y8.cell? ⟨w.heap.size, 0, none⟩ = some (.int .i64 0) := by rw [hD8.bkR.cell]; rfl
              have c1 : y8.cell? ⟨w.heap.size, 1, none⟩ = some (.slice none 0 0) := by rw [hD8.bkR.cell]; rfl
              have f0 := hD8.bkR.free 0
              have f1 := hD8.bkR.free 1
              have lb := hD8.bkR.lt
              have s0 : y8.cell? ⟨w.heap.size + 1, 0, none⟩ = some (.int .i64 (1 + (yl : Int))) := by rw [hD8.bkS.cell]; rfl
              have s1 : y8.cell? ⟨w.heap.size + 1, 1, none⟩ = some (.slice B k d) := by rw [hD8.bkS.cell]; rfl
              have sf0 := hD8.bkS.free 0
              have sf1 := hD8.bkS.free 1
              have sl := hD8.bkS.lt
              have d0 : y8.cell? ⟨r, 0, none⟩ = some (.string o1) := by rw [bk8.cell]; rfl
              have d1 : y8.cell? ⟨r, 1, none⟩ = some (.string o2) := by rw [bk8.cell]; rfl
              have dl := bk8.lt
              cases ob
              · skip
                have HD8 := Lib.hid hD8
                clear hD8
                have Bk8 := Lib.hid bk8
                clear bk8
                go_wp2_with fail
                go_roundw
                case rel => exact ⟨j - 1, B, k, d, rs, by go_num, by omega, HG, HD8⟩
                case measure => simp [intOf] <;> omega
              · have hO8 := hD8.own
                have hz8 := hD8.bkS.lt
                have HD8 := Lib.hid hD8
                clear hD8
                have Bk8 := Lib.hid bk8
                clear bk8
                go_wp2_with (at_builtin; go_loud (refine wpList_app5 _ y8 y8.heap.size rfl rfl _ _ 23 rfl (w.heap.size + 2) 68 2 32 _ Tryz.underlying23 info_Rule rfl (by omega) (.slice B k d) k _ _ rfl rfl rfl hO8 rfl (one_cell_ruleP _ _) (by omega) (by unfold maxLen; omega) (by omega) ?_); intro g5 c5 w5 hO9 hV9 hG9 hat9; have t1 : w5.cell? ⟨w.heap.size + 1, 1, none⟩ = some (.slice B k d) := (by have hq := HD8.out.bkS.below hV9 (by omega); rw [hq.cell]; rfl); have tf := (HD8.out.bkS.below hV9 (by omega)).free 1; have tl := (HD8.out.bkS.below hV9 (by omega)).lt)
                have hcr : cellsRule (rs ++ [(o1, o2)]) = cellsRule rs ++ (#[.string o1, .string o2] : Array Value).toList := by simp [cellsRule, encRule]
                have hO10 := hO9
                rw [← hcr] at hO10
                have hD9 := HD8.out.let1 hV9 hO10 (by rw [List.length_append, ← HD8.out.len]; rfl)
                have hgd := orient_good ho.symm
                refine ⟨⟨j - 1, some ⟨g5, 0, none⟩, k + 1, c5, rs ++ [(o1, o2)], by go_num, by omega, Lib.hid (fun q hq => ?_), hD9⟩, by simp [intOf] <;> omega⟩
                rcases List.mem_append.1 hq with h | h
                · exact HG.out q h
                · rw [List.mem_singleton.1 h]
                  exact hgd
            · have hsys := sys_of_all (l := (1 + (yl : Int))) (by omega) (by omega) (by rw [← hD6.len]; omega) HG.out
              have HD6 := Lib.hid hD6
              clear hD6
              have Hsys := Lib.hid hsys
              clear hsys
              go_wp2_with fail
              have hne : (Value.slice B k d).ownBlock ≠ some w.heap.size := by
                intro e
                have := (HD6.out.own.lt _ e).1
                omega
              have hb9 : Below w.heap.size wr ((wr.setCell ⟨w.heap.size, 0, none⟩ (.int .i64 (1 + (yl : Int)))).setCell ⟨w.heap.size, 1, none⟩ (.slice B k d)) := ((Below.refl _ _).setCell (p := ⟨w.heap.size, 0, none⟩) (Nat.le_refl _) _).setCell (p := ⟨w.heap.size, 1, none⟩) (Nat.le_refl _) _
              have hO9 := own_mono (own_far3 (own_far3 HD6.out.own (p := ⟨w.heap.size, 0, none⟩) hne (.int .i64 (1 + (yl : Int)))) (p := ⟨w.heap.size, 1, none⟩) hne (.slice B k d)) (b' := w.heap.size) (show w.heap.size ≤ w.heap.size + 2 by omega)
              have hC9 := cur_low HD6.out.cur hb9 HD6.out.lP
              have hG9 := gb_up HD6.out.gb hb9
              have hBn := (HD6.out.bkR.put 0 (.int .i64 (1 + (yl : Int)))).put 1 (.slice B k d)
              have q0 := hBn.cell 0
              have q1 := hBn.cell 1
              refine bodyPost_ret (v := .agg #[.int .i64 (1 + (yl : Int)), .slice B k d]) (by simp [results, Tryz.results22, go_sem, q0, q1]) rfl ?_
              exact ⟨(1 + (yl : Int)), B, k, d, rs, Hsys.out, HD6.out.len, rfl, hO9, HD6.out.src0.next hC9 hG9, hG9⟩
        · go_wp2_with fail
          have hne : (Value.slice B6 k6 d6).ownBlock ≠ some w.heap.size := by
            intro e
            have := (HO8.out.lt _ e).1
            omega
          have hb9 : Below w.heap.size w7 ((w7.setCell ⟨w.heap.size, 0, none⟩ (.int .i64 l6)).setCell ⟨w.heap.size, 1, none⟩ (.slice B6 k6 d6)) := ((Below.refl _ _).setCell (p := ⟨w.heap.size, 0, none⟩) (Nat.le_refl _) _).setCell (p := ⟨w.heap.size, 1, none⟩) (Nat.le_refl _) _
          have hO9 := own_mono (own_far3 (own_far3 HO8.out (p := ⟨w.heap.size, 0, none⟩) hne (.int .i64 l6)) (p := ⟨w.heap.size, 1, none⟩) hne (.slice B6 k6 d6)) (b' := w.heap.size) (by omega)
          have hC9 := cur_low HD7.out.cur hb9 HD7.out.lP
          have hG9 := gb_up HD7.out.gb hb9
          have hBn := (HD7.out.bkR.put 0 (.int .i64 l6)).put 1 (.slice B6 k6 d6)
          have q0 := hBn.cell 0
          have q1 := hBn.cell 1
          refine bodyPost_ret (v := .agg #[.int .i64 l6, .slice B6 k6 d6]) (by simp [results, Tryz.results22, go_sem, q0, q1]) rfl ?_
          exact ⟨l6, B6, k6, d6, rs6, HSo.out.symm, Hk6.out, rfl, hO9, HD7.out.src0.next hC9 hG9, hG9⟩

end Go.Proofs.YteafeecndghapaaGreat

