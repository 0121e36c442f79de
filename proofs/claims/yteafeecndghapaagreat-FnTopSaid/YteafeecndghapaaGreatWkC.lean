/- Walk over l06Copy of the reference: a work whose rules and queue lie in memory of their own. Conditions: sizes. -/
import Derived.Test.YteafeecndghapaaGreatApR
import Derived.Test.YteafeecndghapaaGreatMg5
import Derived.Test.YteafeecndghapaaGreatAnyS
import Derived.Deep.RegionHeld3
namespace Go.Proofs.YteafeecndghapaaGreat
open Go.RowKit Go.Shelf

theorem one_cell_rules (xs : List RuleT) : ∀ u ∈ cellsRule xs, u.oneCell' = true := by
  intro u hu
  obtain ⟨x, _, hx⟩ := List.mem_flatMap.1 hu
  simp [encRule] at hx
  rcases hx with rfl | rfl <;> rfl
/-- Two blocks that stand while new ones are made. -/
structure TwoB (w y : World) (t1 t2 : TypeId) (c1 c2 : Array Value) : Prop where
  b1 : Bk y w.heap.size t1 c1
  b2 : Bk y (w.heap.size + 1) t2 c2
  low : Below w.heap.size w y
  size : w.heap.size + 2 ≤ y.heap.size
theorem TwoB.below {w y y' : World} {t1 t2 : TypeId} {c1 c2 : Array Value} (h : TwoB w y t1 t2 c1 c2) (hb : Below y.heap.size y y') : TwoB w y' t1 t2 c1 c2 :=
  ⟨h.b1.below hb h.b1.lt, h.b2.below hb h.b2.lt, h.low.trans (hb.mono h.low.size), Nat.le_trans h.size hb.size⟩
theorem TwoB.grown {w y y' : World} {t1 t2 : TypeId} {c1 c2 : Array Value} (h : TwoB w y t1 t2 c1 c2) {r : Option Nat} (hg : y.grownBy y' r) (hr : ∀ g, r = some g → w.heap.size + 2 ≤ g) : TwoB w y' t1 t2 c1 c2 :=
  ⟨h.b1.grown hg (fun e => by have := hr _ e.symm; omega), h.b2.grown hg (fun e => by have := hr _ e.symm; omega),
    ⟨hg.os.trans h.low.os, hg.tape.trans h.low.tape, hg.output.trans h.low.output, Nat.le_trans h.low.size hg.size, fun k hk => (hg.block k (by have := h.b1.lt; omega) (fun e => by have := hr _ e.symm; omega)).trans (h.low.block k hk)⟩, Nat.le_trans h.size hg.size⟩
theorem TwoB.app {w y y' : World} {t1 t2 : TypeId} {c1 c2 : Array Value} (h : TwoB w y t1 t2 c1 c2) {t : TypeId} {m n : Nat} {v : Value} {xs : List Value} (ho : y.ownsRow (w.heap.size + 2) t m v n xs) (hg : y.grownBy y' v.ownBlock) : TwoB w y' t1 t2 c1 c2 := h.grown hg (fun g e => (ho.lt g e).1)
theorem Bk.app {y y' : World} {r base m n : Nat} {t t' : TypeId} {v : Value} {xs : List Value} {cs : Array Value} (h : Bk y r t' cs) (ho : y.ownsRow base t m v n xs) (hg : y.grownBy y' v.ownBlock) (ht : t ≠ t') : Bk y' r t' cs := h.grown hg (fun e => own_ne_bk ho h ht e.symm)
theorem meetC {F G : Option Addr → Nat → Nat → Nat → World → Prop} {goal : Prop} (leaf : (∀ A c e r y, F A c e r y → G A c e r y) → goal) (key : ∀ A c e r y, F A c e r y → G A c e r y) : goal := leaf key

/-- A work of the call's own. -/
def WorkMade (w : World) (l : Int) (n : Nat) (rs : List RuleT) (q : Nat) (qs : List RuleT) (t : Int) (e : Ending) (w' : World) : Prop := ∃ (A : Option Addr) (c : Nat) (Q : Option Addr) (cq : Nat), e = .returned (.agg #[.int .i64 l, .slice A n c, .slice Q q cq, .int .i64 t]) ∧ w'.ownsRow w.heap.size 68 2 (.slice A n c) n (cellsRule rs) ∧ w'.ownsRow w.heap.size 68 2 (.slice Q q cq) q (cellsRule qs) ∧ (∀ g, (Value.slice A n c).ownBlock = some g → (Value.slice Q q cq).ownBlock ≠ some g) ∧ Below w.heap.size w w'
set_option maxRecDepth 100000 in
set_option maxHeartbeats 8000000 in
theorem specCopy_any (l : Int) (A : Option Addr) (n c : Nat) (rs : List RuleT) (Q : Option Addr) (q cq : Nat) (qs : List RuleT) (t : Int) (w : World) (hr : Rd w A (cellsRule rs)) (hn : n = rs.length) (hb : n ≤ 1048576) (hq : Rd w Q (cellsRule qs)) (hqn : q = qs.length) (hqb : q ≤ 1048576) :
    Calls Tryz.prog 96 #[.agg #[.int .i64 l, .slice A n c, .slice Q q cq, .int .i64 t]] w (WorkMade w l n rs q qs t) := by
  have hT0 : TwoB w ((w.alloc (.cells #[.int .i64 l, .slice A n c, .slice Q q cq, .int .i64 t] 86)).alloc (.cells #[.int .i64 0, .slice none 0 0, .slice none 0 0, .int .i64 0] 86)) 86 86 #[.int .i64 l, .slice A n c, .slice Q q cq, .int .i64 t] #[.int .i64 0, .slice none 0 0, .slice none 0 0, .int .i64 0] :=
    ⟨(Bk.new w _ _).alloc _, (Bk.new (w.alloc (.cells #[.int .i64 l, .slice A n c, .slice Q q cq, .int .i64 t] 86)) _ _).cast (by simp), ((Below.refl _ _).alloc (Nat.le_refl _) _).alloc (by simp) _, by simp⟩
  have hcl : (cellsRule rs).length = n * 2 := by rw [cellsRule_len, hn]
  have hcq : (cellsRule qs).length = q * 2 := by rw [cellsRule_len, hqn]
  obtain ⟨W, hW⟩ : ∃ z, z = (w.alloc (.cells #[.int .i64 l, .slice A n c, .slice Q q cq, .int .i64 t] 86)).alloc (.cells #[.int .i64 0, .slice none 0 0, .slice none 0 0, .int .i64 0] 86) := ⟨_, rfl⟩
  rw [← hW] at hT0
  have HT0 := Lib.hid hT0
  clear hT0
  have Hr := Lib.hid hr
  clear hr
  have Hq := Lib.hid hq
  clear hq
  have HW := Lib.hid hW
  clear hW
  have Hn := Lib.hid hn
  clear hn
  have Hqn := Lib.hid hqn
  clear hqn
  have Hcl := Lib.hid hcl
  clear hcl
  have Hcq := Lib.hid hcq
  clear hcq
  go_enter Tryz.func96, Tryz.ntmps96
  go_wp2_with fail
  try rw [← HW.out]
  refine wp_region_held_drew (S := (fun W => W.cell? ⟨w.heap.size, 0, none⟩ = some (.int .i64 l) ∧ W.cell? ⟨w.heap.size, 1, none⟩ = some (.slice A n c) ∧ W.cell? ⟨w.heap.size, 2, none⟩ = some (.slice Q q cq) ∧ W.cell? ⟨w.heap.size, 3, none⟩ = some (.int .i64 t))) (by kernel_rfl) ((by (have hq := HT0.out.b1.drew); exact ⟨by rw [hq.cell]; rfl, by rw [hq.cell]; rfl, by rw [hq.cell]; rfl, by rw [hq.cell]; rfl⟩)) (fun hHeld => ?_)
  obtain ⟨y0, hy0⟩ : ∃ z, z = World.drew W := ⟨_, rfl⟩
  have hT1 : TwoB w y0 86 86 #[.int .i64 l, .slice A n c, .slice Q q cq, .int .i64 t] #[.int .i64 0, .slice none 0 0, .slice none 0 0, .int .i64 0] := by rw [hy0]; exact HT0.out.below (Below.refl _ _).drew
  rw [← hy0] at hHeld
  rw [← hy0]
  clear hy0 HT0
  refine wpAnyH_take (i := 0) (oi := ?oi65) (v := ?val65) ?hi65 ?hs65 ?hf65 ?hr65 ?hQ65 ?hy65 ?hS65 ?hrest65
  case hi65 => (simp only [List.getElem?_toArray, List.getElem?_cons_succ, List.getElem?_cons_zero] <;> exact rfl)
  case hs65 => kernel_rfl
  case hf65 => kernel_rfl
  case hr65 => kernel_rfl
  case hQ65 => exact fun _ _ _ h => h
  case hS65 => assumption
  case hy65 => (refine Or.inl ⟨by rfl, ?_⟩; intro w hSw; (try dsimp only at hSw); obtain ⟨z0, z1, z2, z3⟩ := hSw; go_simp; try with_reducible rfl)
  simp only [Act.put, List.setIfInBounds_toArray, List.set_cons_zero, List.set_cons_succ]
  refine wpAnyH_take (i := 1) (oi := ?oi74) (v := ?val74) ?hi74 ?hs74 ?hf74 ?hr74 ?hQ74 ?hy74 ?hS74 ?hrest74
  case hi74 => (simp only [List.getElem?_toArray, List.getElem?_cons_succ, List.getElem?_cons_zero] <;> exact rfl)
  case hs74 => kernel_rfl
  case hf74 => kernel_rfl
  case hr74 => kernel_rfl
  case hQ74 => exact fun _ _ _ h => h
  case hS74 => assumption
  case hy74 => (refine Or.inl ⟨by rfl, ?_⟩; intro w hSw; (try dsimp only at hSw); obtain ⟨z0, z1, z2, z3⟩ := hSw; go_simp; try with_reducible rfl)
  simp only [Act.put, List.setIfInBounds_toArray, List.set_cons_zero, List.set_cons_succ]
  refine wpAnyH_take (i := 2) (oi := ?oi83) (v := ?val83) ?hi83 ?hs83 ?hf83 ?hr83 ?hQ83 ?hy83 ?hS83 ?hrest83
  case hi83 => (simp only [List.getElem?_toArray, List.getElem?_cons_succ, List.getElem?_cons_zero] <;> exact rfl)
  case hs83 => kernel_rfl
  case hf83 => kernel_rfl
  case hr83 => kernel_rfl
  case hQ83 => exact fun _ _ _ h => h
  case hS83 => assumption
  case hy83 => (refine Or.inl ⟨by rfl, ?_⟩; intro w hSw; (try dsimp only at hSw); obtain ⟨z0, z1, z2, z3⟩ := hSw; go_simp; try with_reducible rfl)
  simp only [Act.put, List.setIfInBounds_toArray, List.set_cons_zero, List.set_cons_succ]
  refine wpAnyH_take (i := 4) (oi := ?oi92) (v := ?val92) ?hi92 ?hs92 ?hf92 ?hr92 ?hQ92 ?hy92 ?hS92 ?hrest92
  case hi92 => (simp only [List.getElem?_toArray, List.getElem?_cons_succ, List.getElem?_cons_zero] <;> exact rfl)
  case hs92 => kernel_rfl
  case hf92 => kernel_rfl
  case hr92 => kernel_rfl
  case hQ92 => exact fun _ _ _ h => h
  case hS92 => assumption
  case hy92 => (refine Or.inl ⟨by rfl, ?_⟩; intro w hSw; (try dsimp only at hSw); obtain ⟨z0, z1, z2, z3⟩ := hSw; go_simp; try with_reducible rfl)
  simp only [Act.put, List.setIfInBounds_toArray, List.set_cons_zero, List.set_cons_succ]
  refine wpAnyH_take (i := 5) (oi := ?oi101) (v := ?val101) ?hi101 ?hs101 ?hf101 ?hr101 ?hQ101 ?hy101 ?hS101 ?hrest101
  case hi101 => (simp only [List.getElem?_toArray, List.getElem?_cons_succ, List.getElem?_cons_zero] <;> exact rfl)
  case hs101 => kernel_rfl
  case hf101 => kernel_rfl
  case hr101 => kernel_rfl
  case hQ101 => exact fun _ _ _ h => h
  case hS101 => assumption
  case hy101 => (refine Or.inl ⟨by rfl, ?_⟩; intro w hSw; (try dsimp only at hSw); obtain ⟨z0, z1, z2, z3⟩ := hSw; go_simp; try with_reducible rfl)
  simp only [Act.put, List.setIfInBounds_toArray, List.set_cons_zero, List.set_cons_succ]
  refine wpAnyH_take (i := 6) (oi := ?oi110) (v := ?val110) ?hi110 ?hs110 ?hf110 ?hr110 ?hQ110 ?hy110 ?hS110 ?hrest110
  case hi110 => (simp only [List.getElem?_toArray, List.getElem?_cons_succ, List.getElem?_cons_zero] <;> exact rfl)
  case hs110 => kernel_rfl
  case hf110 => kernel_rfl
  case hr110 => kernel_rfl
  case hQ110 => exact fun _ _ _ h => h
  case hS110 => assumption
  case hy110 => (refine Or.inl ⟨by rfl, ?_⟩; intro w hSw; (try dsimp only at hSw); obtain ⟨z0, z1, z2, z3⟩ := hSw; go_simp; try with_reducible rfl)
  simp only [Act.put, List.setIfInBounds_toArray, List.set_cons_zero, List.set_cons_succ]
  apply meetC (F := fun A' c' e r y => TwoB w y 86 86 #[.int .i64 l, .slice A n c, .slice Q q cq, .int .i64 t] #[.int .i64 0, .slice none 0 0, .slice none 0 0, .int .i64 0] ∧ Bk y r 25 #[.int .i64 0, .slice none 0 0] ∧ w.heap.size + 2 ≤ r ∧ y.ownsRow (w.heap.size + 2) 68 2 (.slice A' n c') n (cellsRule rs))
  · intro hkey
    refine wpAnyH_ready (rs := [3, 9]) (by kernel_rfl) (by simp) ?_
    refine AllReadyH.cons rfl (fun K hK => ?_) (AllReadyH.cons rfl (fun K hK => ?_) AllReadyH.nil)
    · skip
      go_simp
      have hal := (Below.refl y0.heap.size y0).alloc (Nat.le_refl _) (.cells #[] 68)
      have hT2_ := hT1.below hal
      have z4_ := hT1.size
      have bk3_ := Bk.new y0 68 #[]
      have hE5_ := own_of_bk (base := w.heap.size + 2) (m := 2) (n := 0) bk3_ z4_ rfl (by unfold maxLen; omega)
      refine hK.out _ _ (by have hq := hT2_.b1; exact ⟨by rw [hq.cell]; rfl, by rw [hq.cell]; rfl, by rw [hq.cell]; rfl, by rw [hq.cell]; rfl⟩) (fun hHeld => ?_)
      clear hK K
      first | simp only [Act.put, List.setIfInBounds_toArray, List.set_cons_zero, List.set_cons_succ] | skip
      obtain ⟨y1_, hy⟩ : ∃ z, z = World.alloc y0 (.cells #[] 68) := ⟨_, rfl⟩
      clear hal
      obtain ⟨e6_, hb⟩ : ∃ z, z = (World.heap y0).size := ⟨_, rfl⟩
      rw [← hy] at hT2_ hE5_
      rw [← hb] at hE5_
      rw [← hy, ← hb]
      clear hy hb
      refine wpAnyH_ready (rs := [7, 9]) (by kernel_rfl) (by simp) ?_
      refine AllReadyH.cons rfl (fun K hK => ?_) (AllReadyH.cons rfl (fun K hK => ?_) AllReadyH.nil)
      · skip
        (refine step_append_rd y1_ rfl _ _ 23 rfl (w.heap.size + 2) 68 2 32 _ Tryz.underlying23 info_Rule rfl (by omega) (.slice (some ⟨e6_, 0, none⟩) 0 0) 0 [] rfl hE5_ A n c (cellsRule rs) rfl Hcl.out (Hr.out.keep hT2_.low) (one_cell_rules _) (by unfold maxLen; omega) (by omega) hT2_.size ?_; intro A7_ c8_ y9_ hO10_ hg11_)
        rw [Nat.zero_add, List.nil_append] at hO10_
        rw [Nat.zero_add]
        have hT12_ := hT2_.app hE5_ hg11_
        refine hK.out _ _ (by have hq := hT12_.b1; exact ⟨by rw [hq.cell]; rfl, by rw [hq.cell]; rfl, by rw [hq.cell]; rfl, by rw [hq.cell]; rfl⟩) (fun hHeld => ?_)
        clear hK K
        first | simp only [Act.put, List.setIfInBounds_toArray, List.set_cons_zero, List.set_cons_succ] | skip
        refine wpAnyH_take (i := 8) (oi := ?oi150) (v := ?val150) ?hi150 ?hs150 ?hf150 ?hr150 ?hQ150 ?hy150 ?hS150 ?hrest150
        case hi150 => (simp only [List.getElem?_toArray, List.getElem?_cons_succ, List.getElem?_cons_zero] <;> exact rfl)
        case hs150 => kernel_rfl
        case hf150 => kernel_rfl
        case hr150 => kernel_rfl
        case hQ150 => exact fun _ _ _ h => h
        case hS150 => assumption
        case hy150 => (refine Or.inl ⟨by rfl, ?_⟩; intro w hSw; (try dsimp only at hSw); obtain ⟨z0, z1, z2, z3⟩ := hSw; go_simp; try with_reducible rfl)
        simp only [Act.put, List.setIfInBounds_toArray, List.set_cons_zero, List.set_cons_succ]
        refine wpAnyH_ready (rs := [9]) (by kernel_rfl) (by simp) ?_
        refine AllReadyH.cons rfl (fun K hK => ?_) AllReadyH.nil
        go_simp
        have hal := (Below.refl y9_.heap.size y9_).alloc (Nat.le_refl _) (.cells #[.int .i64 0, .slice none 0 0] 25)
        have hT14_ := hT12_.below hal
        have z16_ := hT12_.size
        have hO17_ := own_keep hO10_ hal (Nat.le_refl _)
        have bk15_ := Bk.new y9_ 25 #[.int .i64 0, .slice none 0 0]
        refine hK.out _ _ (by have hq := hT14_.b1; exact ⟨by rw [hq.cell]; rfl, by rw [hq.cell]; rfl, by rw [hq.cell]; rfl, by rw [hq.cell]; rfl⟩) (fun hHeld => ?_)
        clear hK K
        first | simp only [Act.put, List.setIfInBounds_toArray, List.set_cons_zero, List.set_cons_succ] | skip
        obtain ⟨y13_, hy⟩ : ∃ z, z = World.alloc y9_ (.cells #[.int .i64 0, .slice none 0 0] 25) := ⟨_, rfl⟩
        clear hal
        obtain ⟨r18_, hb⟩ : ∃ z, z = (World.heap y9_).size := ⟨_, rfl⟩
        rw [← hy] at hT14_ hO17_ bk15_
        rw [← hb] at bk15_ z16_
        rw [← hy, ← hb]
        clear hy hb
        exact hkey _ _ e6_ _ _ ⟨hT14_, bk15_, z16_, hO17_⟩
      · skip
        go_simp
        have hal := (Below.refl y1_.heap.size y1_).alloc (Nat.le_refl _) (.cells #[.int .i64 0, .slice none 0 0] 25)
        have hT20_ := hT2_.below hal
        have z22_ := hT2_.size
        have hE23_ := own_keep hE5_ hal (Nat.le_refl _)
        have bk21_ := Bk.new y1_ 25 #[.int .i64 0, .slice none 0 0]
        refine hK.out _ _ (by have hq := hT20_.b1; exact ⟨by rw [hq.cell]; rfl, by rw [hq.cell]; rfl, by rw [hq.cell]; rfl, by rw [hq.cell]; rfl⟩) (fun hHeld => ?_)
        clear hK K
        first | simp only [Act.put, List.setIfInBounds_toArray, List.set_cons_zero, List.set_cons_succ] | skip
        obtain ⟨y19_, hy⟩ : ∃ z, z = World.alloc y1_ (.cells #[.int .i64 0, .slice none 0 0] 25) := ⟨_, rfl⟩
        clear hal
        obtain ⟨r24_, hb⟩ : ∃ z, z = (World.heap y1_).size := ⟨_, rfl⟩
        rw [← hy] at hT20_ hE23_ bk21_
        rw [← hb] at bk21_ z22_
        rw [← hy, ← hb]
        clear hy hb
        refine wpAnyH_ready (rs := [7]) (by kernel_rfl) (by simp) ?_
        refine AllReadyH.cons rfl (fun K hK => ?_) AllReadyH.nil
        (refine step_append_rd y19_ rfl _ _ 23 rfl (w.heap.size + 2) 68 2 32 _ Tryz.underlying23 info_Rule rfl (by omega) (.slice (some ⟨e6_, 0, none⟩) 0 0) 0 [] rfl hE23_ A n c (cellsRule rs) rfl Hcl.out (Hr.out.keep hT20_.low) (one_cell_rules _) (by unfold maxLen; omega) (by omega) hT20_.size ?_; intro A25_ c26_ y27_ hO28_ hg29_)
        rw [Nat.zero_add, List.nil_append] at hO28_
        rw [Nat.zero_add]
        have hT30_ := hT20_.app hE23_ hg29_
        have hS31_ := bk21_.app hE23_ hg29_ (by decide)
        refine hK.out _ _ (by have hq := hT30_.b1; exact ⟨by rw [hq.cell]; rfl, by rw [hq.cell]; rfl, by rw [hq.cell]; rfl, by rw [hq.cell]; rfl⟩) (fun hHeld => ?_)
        clear hK K
        first | simp only [Act.put, List.setIfInBounds_toArray, List.set_cons_zero, List.set_cons_succ] | skip
        refine wpAnyH_take (i := 8) (oi := ?oi205) (v := ?val205) ?hi205 ?hs205 ?hf205 ?hr205 ?hQ205 ?hy205 ?hS205 ?hrest205
        case hi205 => (simp only [List.getElem?_toArray, List.getElem?_cons_succ, List.getElem?_cons_zero] <;> exact rfl)
        case hs205 => kernel_rfl
        case hf205 => kernel_rfl
        case hr205 => kernel_rfl
        case hQ205 => exact fun _ _ _ h => h
        case hS205 => assumption
        case hy205 => (refine Or.inl ⟨by rfl, ?_⟩; intro w hSw; (try dsimp only at hSw); obtain ⟨z0, z1, z2, z3⟩ := hSw; go_simp; try with_reducible rfl)
        simp only [Act.put, List.setIfInBounds_toArray, List.set_cons_zero, List.set_cons_succ]
        exact hkey _ _ e6_ _ _ ⟨hT30_, hS31_, z22_, hO28_⟩
    · skip
      go_simp
      have hal := (Below.refl y0.heap.size y0).alloc (Nat.le_refl _) (.cells #[.int .i64 0, .slice none 0 0] 25)
      have hT33_ := hT1.below hal
      have z35_ := hT1.size
      have bk34_ := Bk.new y0 25 #[.int .i64 0, .slice none 0 0]
      refine hK.out _ _ (by have hq := hT33_.b1; exact ⟨by rw [hq.cell]; rfl, by rw [hq.cell]; rfl, by rw [hq.cell]; rfl, by rw [hq.cell]; rfl⟩) (fun hHeld => ?_)
      clear hK K
      first | simp only [Act.put, List.setIfInBounds_toArray, List.set_cons_zero, List.set_cons_succ] | skip
      obtain ⟨y32_, hy⟩ : ∃ z, z = World.alloc y0 (.cells #[.int .i64 0, .slice none 0 0] 25) := ⟨_, rfl⟩
      clear hal
      obtain ⟨r36_, hb⟩ : ∃ z, z = (World.heap y0).size := ⟨_, rfl⟩
      rw [← hy] at hT33_ bk34_
      rw [← hb] at bk34_ z35_
      rw [← hy, ← hb]
      clear hy hb
      refine wpAnyH_ready (rs := [3]) (by kernel_rfl) (by simp) ?_
      refine AllReadyH.cons rfl (fun K hK => ?_) AllReadyH.nil
      go_simp
      have hal := (Below.refl y32_.heap.size y32_).alloc (Nat.le_refl _) (.cells #[] 68)
      have hT38_ := hT33_.below hal
      have z40_ := hT33_.size
      have hS41_ := bk34_.below hal bk34_.lt
      have bk39_ := Bk.new y32_ 68 #[]
      have hE42_ := own_of_bk (base := w.heap.size + 2) (m := 2) (n := 0) bk39_ z40_ rfl (by unfold maxLen; omega)
      refine hK.out _ _ (by have hq := hT38_.b1; exact ⟨by rw [hq.cell]; rfl, by rw [hq.cell]; rfl, by rw [hq.cell]; rfl, by rw [hq.cell]; rfl⟩) (fun hHeld => ?_)
      clear hK K
      first | simp only [Act.put, List.setIfInBounds_toArray, List.set_cons_zero, List.set_cons_succ] | skip
      obtain ⟨y37_, hy⟩ : ∃ z, z = World.alloc y32_ (.cells #[] 68) := ⟨_, rfl⟩
      clear hal
      obtain ⟨e43_, hb⟩ : ∃ z, z = (World.heap y32_).size := ⟨_, rfl⟩
      rw [← hy] at hT38_ hS41_ hE42_
      rw [← hb] at hE42_
      rw [← hy, ← hb]
      clear hy hb
      refine wpAnyH_ready (rs := [7]) (by kernel_rfl) (by simp) ?_
      refine AllReadyH.cons rfl (fun K hK => ?_) AllReadyH.nil
      (refine step_append_rd y37_ rfl _ _ 23 rfl (w.heap.size + 2) 68 2 32 _ Tryz.underlying23 info_Rule rfl (by omega) (.slice (some ⟨e43_, 0, none⟩) 0 0) 0 [] rfl hE42_ A n c (cellsRule rs) rfl Hcl.out (Hr.out.keep hT38_.low) (one_cell_rules _) (by unfold maxLen; omega) (by omega) hT38_.size ?_; intro A44_ c45_ y46_ hO47_ hg48_)
      rw [Nat.zero_add, List.nil_append] at hO47_
      rw [Nat.zero_add]
      have hT49_ := hT38_.app hE42_ hg48_
      have hS50_ := hS41_.app hE42_ hg48_ (by decide)
      refine hK.out _ _ (by have hq := hT49_.b1; exact ⟨by rw [hq.cell]; rfl, by rw [hq.cell]; rfl, by rw [hq.cell]; rfl, by rw [hq.cell]; rfl⟩) (fun hHeld => ?_)
      clear hK K
      first | simp only [Act.put, List.setIfInBounds_toArray, List.set_cons_zero, List.set_cons_succ] | skip
      refine wpAnyH_take (i := 8) (oi := ?oi260) (v := ?val260) ?hi260 ?hs260 ?hf260 ?hr260 ?hQ260 ?hy260 ?hS260 ?hrest260
      case hi260 => (simp only [List.getElem?_toArray, List.getElem?_cons_succ, List.getElem?_cons_zero] <;> exact rfl)
      case hs260 => kernel_rfl
      case hf260 => kernel_rfl
      case hr260 => kernel_rfl
      case hQ260 => exact fun _ _ _ h => h
      case hS260 => assumption
      case hy260 => (refine Or.inl ⟨by rfl, ?_⟩; intro w hSw; (try dsimp only at hSw); obtain ⟨z0, z1, z2, z3⟩ := hSw; go_simp; try with_reducible rfl)
      simp only [Act.put, List.setIfInBounds_toArray, List.set_cons_zero, List.set_cons_succ]
      exact hkey _ _ e43_ _ _ ⟨hT49_, hS50_, z35_, hO47_⟩
  intro A5 c5 e5 r y5 ⟨hT5, bk5, z5, hO5⟩
  have lr := bk5.lt
  have k0 : y5.cell? ⟨r, 0, none⟩ = some (.int .i64 0) := by rw [bk5.cell]; rfl
  have k1 : y5.cell? ⟨r, 1, none⟩ = some (.slice none 0 0) := by rw [bk5.cell]; rfl
  have g0 := bk5.free 0
  have g1 := bk5.free 1
  have hne5 : (Value.slice A5 n c5).ownBlock ≠ some r := own_ne_bk hO5 bk5 (by decide)
  refine wpAnyH_ready (rs := [10]) (by kernel_rfl) (by simp) ?_
  refine AllReadyH.cons rfl (fun K hK => ?_) AllReadyH.nil
  (go_simp)
  refine hK.out _ _ ((by (have hq := (hT5.b1.far (p := ⟨r, 0, none⟩) (by dsimp only; omega) (.int .i64 l)).far (p := ⟨r, 1, none⟩) (by dsimp only; omega) (.slice A5 n c5)); exact ⟨by rw [hq.cell]; rfl, by rw [hq.cell]; rfl, by rw [hq.cell]; rfl, by rw [hq.cell]; rfl⟩)) (fun hHeld2 => ?_)
  clear hK K hHeld
  have hHeld := hHeld2
  clear hHeld2
  first | simp only [Act.put, List.setIfInBounds_toArray, List.set_cons_zero, List.set_cons_succ] | skip
  clear k0 k1 g0 g1
  refine wpAnyH_done (by kernel_rfl) ?_ _
  have hlow : Below (w.heap.size + 2) y5 ((y5.setCell ⟨r, 0, none⟩ (.int .i64 l)).setCell ⟨r, 1, none⟩ (.slice A5 n c5)) := ((Below.refl _ _).setCell (p := ⟨r, 0, none⟩) (by dsimp only; omega) _).setCell (p := ⟨r, 1, none⟩) (by dsimp only; omega) _
  have hT6 := (hT5.b1.far (p := ⟨r, 0, none⟩) (by dsimp only; omega) (.int .i64 l)).far (p := ⟨r, 1, none⟩) (by dsimp only; omega) (.slice A5 n c5)
  have hU6 := (hT5.b2.far (p := ⟨r, 0, none⟩) (by dsimp only; omega) (.int .i64 l)).far (p := ⟨r, 1, none⟩) (by dsimp only; omega) (.slice A5 n c5)
  have hS6 := (bk5.put 0 (.int .i64 l)).put 1 (.slice A5 n c5)
  have hO6 := own_far3 (own_far3 hO5 (p := ⟨r, 0, none⟩) hne5 (.int .i64 l)) (p := ⟨r, 1, none⟩) hne5 (.slice A5 n c5)
  have hL6 : TwoB w ((y5.setCell ⟨r, 0, none⟩ (.int .i64 l)).setCell ⟨r, 1, none⟩ (.slice A5 n c5)) 86 86 #[.int .i64 l, .slice A n c, .slice Q q cq, .int .i64 t] #[.int .i64 0, .slice none 0 0, .slice none 0 0, .int .i64 0] := ⟨hT6, hU6, hT5.low.trans (hlow.mono (by omega)), Nat.le_trans hT5.size hlow.size⟩
  obtain ⟨y6, hy6⟩ : ∃ z, z = ((y5.setCell ⟨r, 0, none⟩ (.int .i64 l)).setCell ⟨r, 1, none⟩ (.slice A5 n c5)) := ⟨_, rfl⟩
  rw [← hy6] at hL6 hS6 hO6
  rw [← hy6]
  clear hT6 hU6 hlow hT5 bk5 hO5 hne5 hHeld lr
  have HL6 := Lib.hid hL6
  clear hL6
  have HS6 := Lib.hid hS6
  clear hS6
  have HO6 := Lib.hid hO6
  clear hO6
  have Hy6 := Lib.hid hy6
  clear hy6
  try go_wp2_with fail
  
  refine wp_region_held_drew (S := (fun W => W.cell? ⟨w.heap.size, 0, none⟩ = some (.int .i64 l) ∧ W.cell? ⟨w.heap.size, 1, none⟩ = some (.slice A n c) ∧ W.cell? ⟨w.heap.size, 2, none⟩ = some (.slice Q q cq) ∧ W.cell? ⟨w.heap.size, 3, none⟩ = some (.int .i64 t) ∧ W.cell? ⟨r, 0, none⟩ = some (.int .i64 l) ∧ W.cell? ⟨r, 1, none⟩ = some (.slice A5 n c5))) (by kernel_rfl) ((by have hq := (HL6.out.below (Below.refl _ _).drew).b1; have hp := (HS6.out.drew); exact ⟨by rw [hq.cell]; rfl, by rw [hq.cell]; rfl, by rw [hq.cell]; rfl, by rw [hq.cell]; rfl, by rw [hp.cell]; rfl, by rw [hp.cell]; rfl⟩)) (fun hHeld => ?_)
  obtain ⟨y7, hy7⟩ : ∃ z, z = World.drew y6 := ⟨_, rfl⟩
  have hL7 : TwoB w y7 86 86 #[.int .i64 l, .slice A n c, .slice Q q cq, .int .i64 t] #[.int .i64 0, .slice none 0 0, .slice none 0 0, .int .i64 0] := by rw [hy7]; exact HL6.out.below (Below.refl _ _).drew
  have hS7 : Bk y7 r 25 #[.int .i64 l, .slice A5 n c5] := by rw [hy7]; exact HS6.out.drew
  have hO7 : y7.ownsRow (w.heap.size + 2) 68 2 (.slice A5 n c5) n (cellsRule rs) := by rw [hy7]; exact own_keep HO6.out (Below.refl _ _).drew (Nat.le_refl _)
  rw [← hy7] at hHeld
  rw [← hy7]
  clear hy7 HL6 HS6 HO6 Hy6
  refine wpAnyH_take (i := 0) (oi := ?oi315) (v := ?val315) ?hi315 ?hs315 ?hf315 ?hr315 ?hQ315 ?hy315 ?hS315 ?hrest315
  case hi315 => (simp only [List.getElem?_toArray, List.getElem?_cons_succ, List.getElem?_cons_zero] <;> exact rfl)
  case hs315 => kernel_rfl
  case hf315 => kernel_rfl
  case hr315 => kernel_rfl
  case hQ315 => exact fun _ _ _ h => h
  case hS315 => assumption
  case hy315 => (refine Or.inl ⟨by rfl, ?_⟩; intro w hSw; (try dsimp only at hSw); obtain ⟨z0, z1, z2, z3, z4, z5⟩ := hSw; go_simp; try with_reducible rfl)
  simp only [Act.put, List.setIfInBounds_toArray, List.set_cons_zero, List.set_cons_succ]
  refine wpAnyH_take (i := 2) (oi := ?oi324) (v := ?val324) ?hi324 ?hs324 ?hf324 ?hr324 ?hQ324 ?hy324 ?hS324 ?hrest324
  case hi324 => (simp only [List.getElem?_toArray, List.getElem?_cons_succ, List.getElem?_cons_zero] <;> exact rfl)
  case hs324 => kernel_rfl
  case hf324 => kernel_rfl
  case hr324 => kernel_rfl
  case hQ324 => exact fun _ _ _ h => h
  case hS324 => assumption
  case hy324 => (refine Or.inl ⟨by rfl, ?_⟩; intro w hSw; (try dsimp only at hSw); obtain ⟨z0, z1, z2, z3, z4, z5⟩ := hSw; go_simp; try with_reducible rfl)
  simp only [Act.put, List.setIfInBounds_toArray, List.set_cons_zero, List.set_cons_succ]
  refine wpAnyH_take (i := 3) (oi := ?oi333) (v := ?val333) ?hi333 ?hs333 ?hf333 ?hr333 ?hQ333 ?hy333 ?hS333 ?hrest333
  case hi333 => (simp only [List.getElem?_toArray, List.getElem?_cons_succ, List.getElem?_cons_zero] <;> exact rfl)
  case hs333 => kernel_rfl
  case hf333 => kernel_rfl
  case hr333 => kernel_rfl
  case hQ333 => exact fun _ _ _ h => h
  case hS333 => assumption
  case hy333 => (refine Or.inl ⟨by rfl, ?_⟩; intro w hSw; (try dsimp only at hSw); obtain ⟨z0, z1, z2, z3, z4, z5⟩ := hSw; go_simp; try with_reducible rfl)
  simp only [Act.put, List.setIfInBounds_toArray, List.set_cons_zero, List.set_cons_succ]
  refine wpAnyH_take (i := 5) (oi := ?oi342) (v := ?val342) ?hi342 ?hs342 ?hf342 ?hr342 ?hQ342 ?hy342 ?hS342 ?hrest342
  case hi342 => (simp only [List.getElem?_toArray, List.getElem?_cons_succ, List.getElem?_cons_zero] <;> exact rfl)
  case hs342 => kernel_rfl
  case hf342 => kernel_rfl
  case hr342 => kernel_rfl
  case hQ342 => exact fun _ _ _ h => h
  case hS342 => assumption
  case hy342 => (refine Or.inl ⟨by rfl, ?_⟩; intro w hSw; (try dsimp only at hSw); obtain ⟨z0, z1, z2, z3, z4, z5⟩ := hSw; go_simp; try with_reducible rfl)
  simp only [Act.put, List.setIfInBounds_toArray, List.set_cons_zero, List.set_cons_succ]
  refine wpAnyH_take (i := 6) (oi := ?oi351) (v := ?val351) ?hi351 ?hs351 ?hf351 ?hr351 ?hQ351 ?hy351 ?hS351 ?hrest351
  case hi351 => (simp only [List.getElem?_toArray, List.getElem?_cons_succ, List.getElem?_cons_zero] <;> exact rfl)
  case hs351 => kernel_rfl
  case hf351 => kernel_rfl
  case hr351 => kernel_rfl
  case hQ351 => exact fun _ _ _ h => h
  case hS351 => assumption
  case hy351 => (refine Or.inl ⟨by rfl, ?_⟩; intro w hSw; (try dsimp only at hSw); obtain ⟨z0, z1, z2, z3, z4, z5⟩ := hSw; go_simp; try with_reducible rfl)
  simp only [Act.put, List.setIfInBounds_toArray, List.set_cons_zero, List.set_cons_succ]
  have hal := (Below.refl y7.heap.size y7).alloc (Nat.le_refl _) (.cells #[] 68)
  have hL8 := hL7.below hal
  have hS8 := hS7.below hal hS7.lt
  have hO8 := own_keep hO7 hal (Nat.le_refl _)
  have bk8 := Bk.new y7 68 #[]
  have hE8 := own_of_bk (base := y7.heap.size) (m := 2) (n := 0) bk8 (Nat.le_refl _) rfl (by unfold maxLen; omega)
  have hz8 : y7.heap.size ≤ (y7.alloc (.cells #[] 68)).heap.size := by simp
  refine wpAnyH_ready (rs := [1]) (by kernel_rfl) (by simp) ?_
  refine AllReadyH.cons rfl (fun K hK => ?_) AllReadyH.nil
  (go_simp)
  refine hK.out _ _ ((by have hq := hL8.b1; have hp := hS8; exact ⟨by rw [hq.cell]; rfl, by rw [hq.cell]; rfl, by rw [hq.cell]; rfl, by rw [hq.cell]; rfl, by rw [hp.cell]; rfl, by rw [hp.cell]; rfl⟩)) (fun hHeld2 => ?_)
  clear hK K hHeld
  have hHeld := hHeld2
  clear hHeld2
  first | simp only [Act.put, List.setIfInBounds_toArray, List.set_cons_zero, List.set_cons_succ] | skip
  obtain ⟨b7, hb7⟩ : ∃ z, z = (World.heap y7).size := ⟨_, rfl⟩
  obtain ⟨y8, hy8⟩ : ∃ z, z = World.alloc y7 (.cells #[] 68) := ⟨_, rfl⟩
  have hl7 := hL7.size
  have ho7 : ∀ g, (Value.slice A5 n c5).ownBlock = some g → g < b7 := fun g e => by rw [hb7]; exact (hO7.lt g e).2
  rw [← hy8] at hL8 hS8 hO8 bk8 hE8 hz8
  rw [← hb7] at bk8 hE8 hz8 hl7
  rw [← hy8, ← hb7]
  clear hal hy8 hO7 hS7 hL7
  clear hb7
  refine wpAnyH_ready (rs := [4]) (by kernel_rfl) (by simp) ?_
  refine AllReadyH.cons rfl (fun K hK => ?_) AllReadyH.nil
  (refine step_append_rd y8 rfl _ _ 23 rfl b7 68 2 32 _ Tryz.underlying23 info_Rule rfl (by omega) (.slice (some ⟨b7, 0, none⟩) 0 0) 0 [] rfl hE8 Q q cq (cellsRule qs) rfl Hcq.out (Hq.out.keep hL8.low) (one_cell_rules _) (by unfold maxLen; omega) (by omega) hz8 ?_; intro Q9 d9 y9 hO9 hG9; have hL9 := hL8.grown hG9 (fun g e => by have := hE8.lt g e; omega); have hS9 := hS8.app hE8 hG9 (by decide); have hP9 := own_other hO8 hG9 (fun g e e2 => by have h1 := ho7 g e; have h2 := (hE8.lt g e2).1; omega))
  refine hK.out _ _ ((by have hq := hL9.b1; have hp := hS9; exact ⟨by rw [hq.cell]; rfl, by rw [hq.cell]; rfl, by rw [hq.cell]; rfl, by rw [hq.cell]; rfl, by rw [hp.cell]; rfl, by rw [hp.cell]; rfl⟩)) (fun hHeld2 => ?_)
  clear hK K hHeld
  have hHeld := hHeld2
  clear hHeld2
  first | simp only [Act.put, List.setIfInBounds_toArray, List.set_cons_zero, List.set_cons_succ] | skip
  rw [Nat.zero_add, List.nil_append] at hO9
  rw [Nat.zero_add]
  clear hL8 hS8 hO8 hE8 hz8 hG9
  refine wpAnyH_take (i := 7) (oi := ?oi395) (v := ?val395) ?hi395 ?hs395 ?hf395 ?hr395 ?hQ395 ?hy395 ?hS395 ?hrest395
  case hi395 => (simp only [List.getElem?_toArray, List.getElem?_cons_succ, List.getElem?_cons_zero] <;> exact rfl)
  case hs395 => kernel_rfl
  case hf395 => kernel_rfl
  case hr395 => kernel_rfl
  case hQ395 => exact fun _ _ _ h => h
  case hS395 => assumption
  case hy395 => (refine Or.inl ⟨by rfl, ?_⟩; intro w hSw; (try dsimp only at hSw); obtain ⟨z0, z1, z2, z3, z4, z5⟩ := hSw; go_simp; try with_reducible rfl)
  simp only [Act.put, List.setIfInBounds_toArray, List.set_cons_zero, List.set_cons_succ]
  have lr := hL9.b2.lt
  have k0 : y9.cell? ⟨w.heap.size + 1, 0, none⟩ = some (.int .i64 0) := by rw [hL9.b2.cell]; rfl
  have k1 : y9.cell? ⟨w.heap.size + 1, 1, none⟩ = some (.slice none 0 0) := by rw [hL9.b2.cell]; rfl
  have k2 : y9.cell? ⟨w.heap.size + 1, 2, none⟩ = some (.slice none 0 0) := by rw [hL9.b2.cell]; rfl
  have k3 : y9.cell? ⟨w.heap.size + 1, 3, none⟩ = some (.int .i64 0) := by rw [hL9.b2.cell]; rfl
  have g0 := hL9.b2.free 0
  have g1 := hL9.b2.free 1
  have g2 := hL9.b2.free 2
  have g3 := hL9.b2.free 3
  have hn1 : (Value.slice A5 n c5).ownBlock ≠ some (w.heap.size + 1) := by intro e; have := (hP9.lt _ e).1; omega
  have hn2 : (Value.slice Q9 q d9).ownBlock ≠ some (w.heap.size + 1) := by intro e; have := (hO9.lt _ e).1; omega
  have hsz9 := hL9.size
  
  have hB1 := ((((hL9.b1.far (p := ⟨w.heap.size + 1, 0, none⟩) (by dsimp only; omega) (.int .i64 l)).far (p := ⟨w.heap.size + 1, 1, none⟩) (by dsimp only; omega) (.slice A5 n c5)).far (p := ⟨w.heap.size + 1, 2, none⟩) (by dsimp only; omega) (.slice Q9 q d9)).far (p := ⟨w.heap.size + 1, 3, none⟩) (by dsimp only; omega) (.int .i64 t))
  have hB2 := ((((hL9.b2.put 0 (.int .i64 l)).put 1 (.slice A5 n c5)).put 2 (.slice Q9 q d9)).put 3 (.int .i64 t))
  have hBS := ((((hS9.far (p := ⟨w.heap.size + 1, 0, none⟩) (by dsimp only; omega) (.int .i64 l)).far (p := ⟨w.heap.size + 1, 1, none⟩) (by dsimp only; omega) (.slice A5 n c5)).far (p := ⟨w.heap.size + 1, 2, none⟩) (by dsimp only; omega) (.slice Q9 q d9)).far (p := ⟨w.heap.size + 1, 3, none⟩) (by dsimp only; omega) (.int .i64 t))
  have hR1 := (own_far3 (own_far3 (own_far3 (own_far3 hP9 (p := ⟨w.heap.size + 1, 0, none⟩) hn1 (.int .i64 l)) (p := ⟨w.heap.size + 1, 1, none⟩) hn1 (.slice A5 n c5)) (p := ⟨w.heap.size + 1, 2, none⟩) hn1 (.slice Q9 q d9)) (p := ⟨w.heap.size + 1, 3, none⟩) hn1 (.int .i64 t))
  have hR2 := (own_far3 (own_far3 (own_far3 (own_far3 hO9 (p := ⟨w.heap.size + 1, 0, none⟩) hn2 (.int .i64 l)) (p := ⟨w.heap.size + 1, 1, none⟩) hn2 (.slice A5 n c5)) (p := ⟨w.heap.size + 1, 2, none⟩) hn2 (.slice Q9 q d9)) (p := ⟨w.heap.size + 1, 3, none⟩) hn2 (.int .i64 t))
  have hlw : Below w.heap.size w ((((y9.setCell ⟨w.heap.size + 1, 0, none⟩ (.int .i64 l)).setCell ⟨w.heap.size + 1, 1, none⟩ (.slice A5 n c5)).setCell ⟨w.heap.size + 1, 2, none⟩ (.slice Q9 q d9)).setCell ⟨w.heap.size + 1, 3, none⟩ (.int .i64 t)) := hL9.low.trans ((((((Below.refl w.heap.size y9).setCell (p := ⟨w.heap.size + 1, 0, none⟩) (by dsimp only; omega) (.int .i64 l)).setCell (p := ⟨w.heap.size + 1, 1, none⟩) (by dsimp only; omega) (.slice A5 n c5)).setCell (p := ⟨w.heap.size + 1, 2, none⟩) (by dsimp only; omega) (.slice Q9 q d9)).setCell (p := ⟨w.heap.size + 1, 3, none⟩) (by dsimp only; omega) (.int .i64 t)))
  have q0 := hB2.cell 0
  have q1 := hB2.cell 1
  have q2 := hB2.cell 2
  have q3 := hB2.cell 3
  have hnn : ∀ g, (Value.slice A5 n c5).ownBlock = some g → (Value.slice Q9 q d9).ownBlock ≠ some g := fun g e e2 => by have h1 := ho7 g e; have h2 := (hR2.lt g e2).1; omega
  refine wpAnyH_ready (rs := [8]) (by kernel_rfl) (by simp) ?_
  refine AllReadyH.cons rfl (fun K hK => ?_) AllReadyH.nil
  (go_simp)
  refine hK.out _ _ ((by exact ⟨by rw [hB1.cell]; rfl, by rw [hB1.cell]; rfl, by rw [hB1.cell]; rfl, by rw [hB1.cell]; rfl, by rw [hBS.cell]; rfl, by rw [hBS.cell]; rfl⟩)) (fun hHeld2 => ?_)
  clear hK K hHeld
  have hHeld := hHeld2
  clear hHeld2
  first | simp only [Act.put, List.setIfInBounds_toArray, List.set_cons_zero, List.set_cons_succ] | skip
  clear k0 k1 k2 k3 g0 g1 g2 g3
  refine wpAnyH_done (by kernel_rfl) ?_ _
  obtain ⟨y10, hy10⟩ : ∃ z, z = ((((y9.setCell ⟨w.heap.size + 1, 0, none⟩ (.int .i64 l)).setCell ⟨w.heap.size + 1, 1, none⟩ (.slice A5 n c5)).setCell ⟨w.heap.size + 1, 2, none⟩ (.slice Q9 q d9)).setCell ⟨w.heap.size + 1, 3, none⟩ (.int .i64 t)) := ⟨_, rfl⟩
  rw [← hy10] at hR1 hR2 hlw q0 q1 q2 q3
  rw [← hy10]
  clear hy10 hB1 hB2 hBS hHeld hP9 hO9 hS9 hL9
  have hR3 := own_mono hR1 (b' := w.heap.size) (by omega)
  have hR4 := own_mono hR2 (b' := w.heap.size) (by omega)
  have HR1 := Lib.hid hR1
  clear hR1
  have HR2 := Lib.hid hR2
  clear hR2
  have HR3 := Lib.hid hR3
  clear hR3
  have HR4 := Lib.hid hR4
  clear hR4
  have Hlw := Lib.hid hlw
  clear hlw
  try go_wp2_with fail
  refine bodyPost_ret (v := .agg #[.int .i64 l, .slice A5 n c5, .slice Q9 q d9, .int .i64 t]) (by simp [results, Tryz.results96, go_sem, q0, q1, q2, q3]) rfl ?_
  exact ⟨A5, c5, Q9, d9, rfl, HR3.out, HR4.out, hnn, Hlw.out⟩

end Go.Proofs.YteafeecndghapaaGreat
