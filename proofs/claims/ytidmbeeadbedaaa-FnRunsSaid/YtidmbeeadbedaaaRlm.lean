/- Walk over l16Case of the reference: some system and some word, weakly. -/
import Derived.Test.YtidmbeeadbedaaaRls
namespace Go.Proofs.Ytidmbeeadbedaaa
open Go.RowKit Go.Shelf

def caseL : List ByteArray := [⟨#[50, 32, 97, 62, 98, 32, 98, 62, 97]⟩, ⟨#[50, 32, 97, 98, 62, 98, 97]⟩, ⟨#[50, 32, 97, 62, 97, 97]⟩, ⟨#[50, 32, 97, 98, 62, 98, 98, 97]⟩, ⟨#[50, 32, 97, 97, 62, 98, 32, 98, 98, 62, 97]⟩, ⟨#[50, 32, 97, 98, 62, 98, 98, 97, 97]⟩, ⟨#[51, 32, 97, 62, 98, 32, 98, 62, 99, 32, 99, 62, 97]⟩, ⟨#[50, 32, 98, 97, 62, 97, 97, 98]⟩]
theorem caseL_small : ∀ q ∈ caseL, q.size ≤ 60 := by decide
set_option maxRecDepth 100000 in
set_option maxHeartbeats 8000000 in
theorem l16Case_any {P : Nat} {A : Option Addr} {n c : Nat} {zs : List Int} (w : World) (h : Src w P A n c zs) : Calls Try.prog 77 #[.pointer (some ⟨P, 0, none⟩)] w (CaseS P A n c zs w) := by
  have lP := h.cur.lt
  have hw1 := (Below.refl w.heap.size w).alloc (Nat.le_refl _) (.cells #[.int .i64 0, .slice none 0 0] 25)
  have h1 := h.below hw1
  obtain ⟨W, hW⟩ : ∃ z, z = w.alloc (.cells #[.int .i64 0, .slice none 0 0] 25) := ⟨_, rfl⟩
  rw [← hW] at hw1 h1
  have hR := Bk.new w 25 #[.int .i64 0, .slice none 0 0]
  have hWs : W.heap.size = w.heap.size + 1 := by rw [hW]; simp
  rw [← hW] at hR
  have H := Lib.hid h
  clear h
  have H1 := Lib.hid h1
  clear h1
  have HW := Lib.hid hW
  clear hW
  have Hw1 := Lib.hid hw1
  clear hw1
  have HR := Lib.hid hR
  clear hR
  have HWs := Lib.hid hWs
  clear hWs
  go_enter Try.func77, Try.ntmps77
  go_wp2_with fail
  rw [← HW.out]
  with_reducible refine (H1.out.onceI 3 3 rfl (by omega) (by omega)).mono ?_
  rintro e w1 ⟨ob, rfl, hs1, hg1⟩
  have hR1 := HR.out.grown hg1 (by intro e; injection e with e; omega)
  have hG1 := gb_trans (gb_of_below Hw1.out (some P)) hg1
  have hsz : w.heap.size + 1 ≤ w1.heap.size := by rw [← HWs.out]; exact hg1.size
  cases ob
  rotate_left
  · clear HR Hw1 H1
    have Hs1 := Lib.hid hs1
    clear hs1
    have HG1 := Lib.hid hG1
    clear hG1
    have HR1 := Lib.hid hR1
    clear hR1
    go_wp2_with fail
    with_reducible refine (l04Case_any _ Hs1.out).mono ?_
    rintro e w2 ⟨l, B, k, d, rs, u, hl, ⟨hk, hfr⟩, hu, rfl, hO, hs2, hg2⟩
    have hR2 := HR1.out.grown hg2 (by intro e; injection e with e; omega)
    have hG2 := gb_trans HG1.out hg2
    have c0 : w2.cell? ⟨w.heap.size, 0, none⟩ = some (.int .i64 0) := by rw [hR2.cell]; rfl
    have c1 : w2.cell? ⟨w.heap.size, 1, none⟩ = some (.slice none 0 0) := by rw [hR2.cell]; rfl
    have f0 := hR2.free 0
    have f1 := hR2.free 1
    have lb := hR2.lt
    clear hg2 HR1 HG1 Hs1
    have HR2 := Lib.hid hR2
    clear hR2
    have HG2 := Lib.hid hG2
    clear hG2
    have Hk := Lib.hid hk
    clear hk
    have Hfr := Lib.hid hfr
    clear hfr
    have HO := Lib.hid hO
    clear hO
    have Hs2 := Lib.hid hs2
    clear hs2
    go_wp2_with fail
    have hW9 : Below w.heap.size w2 ((w2.setCell ⟨w.heap.size, 0, none⟩ (.int .i64 l)).setCell ⟨w.heap.size, 1, none⟩ (.slice B k d)) := ((Below.refl _ _).setCell (p := ⟨w.heap.size, 0, none⟩) (Nat.le_refl _) _).setCell (p := ⟨w.heap.size, 1, none⟩) (Nat.le_refl _) _
    have hne : (Value.slice B k d).ownBlock ≠ some w.heap.size := by
      intro e
      have := (HO.out.lt _ e).1
      omega
    have hO9 := own_mono (own_far3 (own_far3 HO.out (p := ⟨w.heap.size, 0, none⟩) hne (.int .i64 l)) (p := ⟨w.heap.size, 1, none⟩) hne (.slice B k d)) (b' := w.heap.size) (by omega)
    have hC9 := cur_low Hs2.out.cur hW9 lP
    have hG9 := gb_up HG2.out hW9
    have hBn := (HR2.out.put 0 (.int .i64 l)).put 1 (.slice B k d)
    have q0 := hBn.cell 0
    have q1 := hBn.cell 1
    refine bodyPost_ret (v := .tuple #[.agg #[.int .i64 l, .slice B k d], .string u]) (by simp [results, Try.results77, go_sem, q0, q1]) rfl ?_
    exact ⟨l, B, k, d, rs, u, hl, ⟨Hk.out, Hfr.out⟩, hu, rfl, hO9, H.out.next hC9 hG9, hG9⟩
  have hD := AnySt.make (l := 2) (B := none) (k := 0) (d := 0) (rs := []) H.out HW.out (World.ownsRow_nil _ _ _ _) rfl hs1 hg1
  obtain ⟨sb, hsb⟩ : ∃ z, z = w1.heap.size := ⟨_, rfl⟩
  obtain ⟨w2, hw2⟩ : ∃ z, z = w1.alloc (.cells #[.int .i64 2, .slice none 0 0] 25) := ⟨_, rfl⟩
  rw [← hsb, ← hw2] at hD
  clear hs1 hg1 H1 HW HR hR1 hG1 Hw1 HWs
  have HD := Lib.hid hD
  clear hD
  have Hsb := Lib.hid hsb
  clear hsb
  have Hw2 := Lib.hid hw2
  clear hw2
  go_wp2_with fail
  rw [← Hw2.out]
  try rw [← Hsb.out]
  have sl0 := HD.out.bkS.lt
  with_reducible refine (HD.out.src.onceI 2 2 rfl (by omega) (by omega)).mono ?_
  rintro e w3 ⟨ob, rfl, hs3, hg3⟩
  have hD3 := HD.out.next hs3 hg3
  clear hs3 hg3 HD sl0
  have c0 : w3.cell? ⟨w.heap.size, 0, none⟩ = some (.int .i64 0) := by rw [hD3.bkR.cell]; rfl
  have c1 : w3.cell? ⟨w.heap.size, 1, none⟩ = some (.slice none 0 0) := by rw [hD3.bkR.cell]; rfl
  have f0 := hD3.bkR.free 0
  have f1 := hD3.bkR.free 1
  have lb := hD3.bkR.lt
  have s0 : w3.cell? ⟨sb, 0, none⟩ = some (.int .i64 2) := by rw [hD3.bkS.cell]; rfl
  have s1 : w3.cell? ⟨sb, 1, none⟩ = some (.slice none 0 0) := by rw [hD3.bkS.cell]; rfl
  have sf0 := hD3.bkS.free 0
  have sf1 := hD3.bkS.free 1
  have sl := hD3.bkS.lt
  cases ob
  · go_wp2_with fail
    clear c0 c1 f0 f1 lb s0 s1 sf0 sf1 sl
    have lq := hD3.bkS.lt
    with_reducible refine (hD3.src.underI 2 2 rfl (by omega) (by omega)).mono ?_
    rintro e w4 ⟨x, hx, rfl, hs4, hg4⟩
    have hD4 := hD3.next hs4 hg4
    clear hs4 hg4 hD3 lq
    have hj1 : ((1 + x : Nat) : Int) = 1 + (x : Int) := by omega
    have HD4 := Lib.hid hD4
    clear hD4
    have Hj1 := Lib.hid hj1
    clear hj1
    go_wp2_with fail
    go_loopw [5] (fun i wr => ∃ (j : Nat) (B : Option Addr) (k d : Nat) (rs : List RuleT), i = .int .i64 j ∧ j + k ≤ 2 ∧ Hid (∀ x ∈ rs, x.1.size ≤ 100 ∧ x.2.size ≤ 100) ∧ Hid (AnySt w wr P A n c zs sb 2 B k d rs)) (fun i _ => (intOf i).toNat)
    case atStart => exact ⟨1 + x, none, 0, 0, [], by rw [Hj1.out], by omega, Lib.hid (by simp), HD4⟩
    case round =>
      clear HD4
      obtain ⟨j, B, k, d, rs, rfl, hjk, HG, HD6⟩ := hrel
      have hD6 := HD6.out
      clear HD6
      have lq := hD6.bkS.lt
      by_cases hlt : 0 < j
      · skip
        go_wp2_with fail
        refine wp_region_held_drew (S := (fun _ => True)) (by kernel_rfl) (trivial) (fun hHeld => ?_)
        obtain ⟨y0_, hy0⟩ : ∃ z, z = World.drew wr := ⟨_, rfl⟩
        have hD0_ : AnySt w (World.drew wr) P A n c zs sb 2 B k d rs := hD6.next hD6.src.drew gb_drew
        rw [← hy0] at hD0_
        rw [← hy0]
        clear hy0
        refine wpAnyH_take (i := 0) (oi := ?oi144) (v := ?val144) ?hi144 ?hs144 ?hf144 ?hr144 ?hQ144 ?hy144 ?hS144 ?hrest144
        case hi144 => (simp only [List.getElem?_toArray, List.getElem?_cons_succ, List.getElem?_cons_zero] <;> exact rfl)
        case hs144 => kernel_rfl
        case hf144 => kernel_rfl
        case hr144 => kernel_rfl
        case hQ144 => exact fun _ _ _ h => h
        case hS144 => assumption
        case hy144 => (refine Or.inl ⟨by rfl, ?_⟩; intro w hSw; (try dsimp only at hSw); go_simp; try with_reducible rfl)
        simp only [Act.put, List.setIfInBounds_toArray, List.set_cons_zero, List.set_cons_succ]
        refine wpAnyH_take (i := 2) (oi := ?oi153) (v := ?val153) ?hi153 ?hs153 ?hf153 ?hr153 ?hQ153 ?hy153 ?hS153 ?hrest153
        case hi153 => (simp only [List.getElem?_toArray, List.getElem?_cons_succ, List.getElem?_cons_zero] <;> exact rfl)
        case hs153 => kernel_rfl
        case hf153 => kernel_rfl
        case hr153 => kernel_rfl
        case hQ153 => exact fun _ _ _ h => h
        case hS153 => assumption
        case hy153 => (refine Or.inl ⟨by rfl, ?_⟩; intro w hSw; (try dsimp only at hSw); go_simp; try with_reducible rfl)
        simp only [Act.put, List.setIfInBounds_toArray, List.set_cons_zero, List.set_cons_succ]
        refine wpAnyH_take (i := 5) (oi := ?oi162) (v := ?val162) ?hi162 ?hs162 ?hf162 ?hr162 ?hQ162 ?hy162 ?hS162 ?hrest162
        case hi162 => (simp only [List.getElem?_toArray, List.getElem?_cons_succ, List.getElem?_cons_zero] <;> exact rfl)
        case hs162 => kernel_rfl
        case hf162 => kernel_rfl
        case hr162 => kernel_rfl
        case hQ162 => exact fun _ _ _ h => h
        case hS162 => assumption
        case hy162 => (refine Or.inl ⟨by rfl, ?_⟩; intro w hSw; (try dsimp only at hSw); go_simp; try with_reducible rfl)
        simp only [Act.put, List.setIfInBounds_toArray, List.set_cons_zero, List.set_cons_succ]
        apply meetA (F := fun u v r y => AnySt w y P A n c zs sb 2 B k d rs ∧ Bk y r 156 #[.string (⟨#[97]⟩ ++ u), .string (v)] ∧ u.size ≤ 2 ∧ v.size ≤ 4)
        · intro hkey
          refine wpAnyH_ready (rs := [1, 3]) (by kernel_rfl) (by simp) ?_
          refine AllReadyH.cons rfl (fun K hK => ?_) (AllReadyH.cons rfl (fun K hK => ?_) AllReadyH.nil)
          · skip
            have lc : y0_.cell? ⟨sb, 1, none⟩ = some (.slice B k d) := by rw [hD0_.bkS.cell]; rfl
            have ls := hD0_.bkS.lt
            go_simp
            refine hK.out _ _ trivial (fun hHeld => ?_)
            clear hK K
            first | simp only [Act.put, List.setIfInBounds_toArray, List.set_cons_zero, List.set_cons_succ] | skip
            clear lc ls
            refine wpAnyH_ready (rs := [3]) (by kernel_rfl) (by simp) ?_
            refine AllReadyH.cons rfl (fun K hK => ?_) AllReadyH.nil
            go_simp
            with_reducible refine (hD0_.src.wordI 2 2 2 2 rfl rfl (by omega) (by omega) (by omega)).mono ?_
            rintro e y3_ ⟨u1_, hu2_, -, rfl, hs4_, hg5_⟩
            have hD6_ := hD0_.next hs4_ hg5_
            refine hK.out _ _ trivial (fun hHeld => ?_)
            clear hK K
            first | simp only [Act.put, List.setIfInBounds_toArray, List.set_cons_zero, List.set_cons_succ] | skip
            have hzz : ¬ (9223372036854775807 < 1 + u1_.size) := by omega
            refine wpAnyH_take (i := 4) (oi := ?oi193) (v := ?val193) ?hi193 ?hs193 ?hf193 ?hr193 ?hQ193 ?hy193 ?hS193 ?hrest193
            case hi193 => (simp only [List.getElem?_toArray, List.getElem?_cons_succ, List.getElem?_cons_zero] <;> exact rfl)
            case hs193 => kernel_rfl
            case hf193 => kernel_rfl
            case hr193 => kernel_rfl
            case hQ193 => exact fun _ _ _ h => h
            case hS193 => assumption
            case hy193 => (refine Or.inl ⟨by rfl, ?_⟩; intro w hSw; (try dsimp only at hSw); go_simp; try with_reducible rfl)
            simp only [Act.put, List.setIfInBounds_toArray, List.set_cons_zero, List.set_cons_succ]
            clear hzz
            refine wpAnyH_ready (rs := [6]) (by kernel_rfl) (by simp) ?_
            refine AllReadyH.cons rfl (fun K hK => ?_) AllReadyH.nil
            go_simp
            with_reducible refine (hD6_.src.wordI 2 4 2 4 rfl rfl (by omega) (by omega) (by omega)).mono ?_
            rintro e y9_ ⟨u7_, hu8_, -, rfl, hs10_, hg11_⟩
            have hD12_ := hD6_.next hs10_ hg11_
            refine hK.out _ _ trivial (fun hHeld => ?_)
            clear hK K
            first | simp only [Act.put, List.setIfInBounds_toArray, List.set_cons_zero, List.set_cons_succ] | skip
            refine wpAnyH_take (i := 7) (oi := ?oi212) (v := ?val212) ?hi212 ?hs212 ?hf212 ?hr212 ?hQ212 ?hy212 ?hS212 ?hrest212
            case hi212 => (simp only [List.getElem?_toArray, List.getElem?_cons_succ, List.getElem?_cons_zero] <;> exact rfl)
            case hs212 => kernel_rfl
            case hf212 => kernel_rfl
            case hr212 => kernel_rfl
            case hQ212 => exact fun _ _ _ h => h
            case hS212 => assumption
            case hy212 => (refine Or.inl ⟨by rfl, ?_⟩; intro w hSw; (try dsimp only at hSw); go_simp; try with_reducible rfl)
            simp only [Act.put, List.setIfInBounds_toArray, List.set_cons_zero, List.set_cons_succ]
            refine wpAnyH_ready (rs := [8]) (by kernel_rfl) (by simp) ?_
            refine AllReadyH.cons rfl (fun K hK => ?_) AllReadyH.nil
            go_simp
            refine hK.out _ _ trivial (fun hHeld => ?_)
            clear hK K
            first | simp only [Act.put, List.setIfInBounds_toArray, List.set_cons_zero, List.set_cons_succ] | skip
            have hD16_ := hD12_.below ((Below.refl _ _).alloc (Nat.le_refl _) (.cells #[.string (⟨#[97]⟩ ++ u1_), .string (u7_)] 156))
            have bk15_ := Bk.new y9_ 156 #[.string (⟨#[97]⟩ ++ u1_), .string (u7_)]
            obtain ⟨y13_, hy⟩ : ∃ z, z = World.alloc y9_ (.cells #[.string (⟨#[97]⟩ ++ u1_), .string (u7_)] 156) := ⟨_, rfl⟩
            obtain ⟨r14_, hb⟩ : ∃ z, z = (World.heap y9_).size := ⟨_, rfl⟩
            rw [← hy] at bk15_ hD16_
            rw [← hb] at bk15_
            rw [← hy, ← hb]
            clear hy hb
            exact hkey u1_ u7_ r14_ y13_ ⟨hD16_, bk15_, hu2_, hu8_⟩
          · skip
            go_simp
            with_reducible refine (hD0_.src.wordI 2 2 2 2 rfl rfl (by omega) (by omega) (by omega)).mono ?_
            rintro e y19_ ⟨u17_, hu18_, -, rfl, hs20_, hg21_⟩
            have hD22_ := hD0_.next hs20_ hg21_
            refine hK.out _ _ trivial (fun hHeld => ?_)
            clear hK K
            first | simp only [Act.put, List.setIfInBounds_toArray, List.set_cons_zero, List.set_cons_succ] | skip
            have hzz : ¬ (9223372036854775807 < 1 + u17_.size) := by omega
            refine wpAnyH_take (i := 4) (oi := ?oi245) (v := ?val245) ?hi245 ?hs245 ?hf245 ?hr245 ?hQ245 ?hy245 ?hS245 ?hrest245
            case hi245 => (simp only [List.getElem?_toArray, List.getElem?_cons_succ, List.getElem?_cons_zero] <;> exact rfl)
            case hs245 => kernel_rfl
            case hf245 => kernel_rfl
            case hr245 => kernel_rfl
            case hQ245 => exact fun _ _ _ h => h
            case hS245 => assumption
            case hy245 => (refine Or.inl ⟨by rfl, ?_⟩; intro w hSw; (try dsimp only at hSw); go_simp; try with_reducible rfl)
            simp only [Act.put, List.setIfInBounds_toArray, List.set_cons_zero, List.set_cons_succ]
            clear hzz
            refine wpAnyH_ready (rs := [1, 6]) (by kernel_rfl) (by simp) ?_
            refine AllReadyH.cons rfl (fun K hK => ?_) (AllReadyH.cons rfl (fun K hK => ?_) AllReadyH.nil)
            · skip
              have lc : y19_.cell? ⟨sb, 1, none⟩ = some (.slice B k d) := by rw [hD22_.bkS.cell]; rfl
              have ls := hD22_.bkS.lt
              go_simp
              refine hK.out _ _ trivial (fun hHeld => ?_)
              clear hK K
              first | simp only [Act.put, List.setIfInBounds_toArray, List.set_cons_zero, List.set_cons_succ] | skip
              clear lc ls
              refine wpAnyH_ready (rs := [6]) (by kernel_rfl) (by simp) ?_
              refine AllReadyH.cons rfl (fun K hK => ?_) AllReadyH.nil
              go_simp
              with_reducible refine (hD22_.src.wordI 2 4 2 4 rfl rfl (by omega) (by omega) (by omega)).mono ?_
              rintro e y25_ ⟨u23_, hu24_, -, rfl, hs26_, hg27_⟩
              have hD28_ := hD22_.next hs26_ hg27_
              refine hK.out _ _ trivial (fun hHeld => ?_)
              clear hK K
              first | simp only [Act.put, List.setIfInBounds_toArray, List.set_cons_zero, List.set_cons_succ] | skip
              refine wpAnyH_take (i := 7) (oi := ?oi274) (v := ?val274) ?hi274 ?hs274 ?hf274 ?hr274 ?hQ274 ?hy274 ?hS274 ?hrest274
              case hi274 => (simp only [List.getElem?_toArray, List.getElem?_cons_succ, List.getElem?_cons_zero] <;> exact rfl)
              case hs274 => kernel_rfl
              case hf274 => kernel_rfl
              case hr274 => kernel_rfl
              case hQ274 => exact fun _ _ _ h => h
              case hS274 => assumption
              case hy274 => (refine Or.inl ⟨by rfl, ?_⟩; intro w hSw; (try dsimp only at hSw); go_simp; try with_reducible rfl)
              simp only [Act.put, List.setIfInBounds_toArray, List.set_cons_zero, List.set_cons_succ]
              refine wpAnyH_ready (rs := [8]) (by kernel_rfl) (by simp) ?_
              refine AllReadyH.cons rfl (fun K hK => ?_) AllReadyH.nil
              go_simp
              refine hK.out _ _ trivial (fun hHeld => ?_)
              clear hK K
              first | simp only [Act.put, List.setIfInBounds_toArray, List.set_cons_zero, List.set_cons_succ] | skip
              have hD32_ := hD28_.below ((Below.refl _ _).alloc (Nat.le_refl _) (.cells #[.string (⟨#[97]⟩ ++ u17_), .string (u23_)] 156))
              have bk31_ := Bk.new y25_ 156 #[.string (⟨#[97]⟩ ++ u17_), .string (u23_)]
              obtain ⟨y29_, hy⟩ : ∃ z, z = World.alloc y25_ (.cells #[.string (⟨#[97]⟩ ++ u17_), .string (u23_)] 156) := ⟨_, rfl⟩
              obtain ⟨r30_, hb⟩ : ∃ z, z = (World.heap y25_).size := ⟨_, rfl⟩
              rw [← hy] at bk31_ hD32_
              rw [← hb] at bk31_
              rw [← hy, ← hb]
              clear hy hb
              exact hkey u17_ u23_ r30_ y29_ ⟨hD32_, bk31_, hu18_, hu24_⟩
            · skip
              go_simp
              with_reducible refine (hD22_.src.wordI 2 4 2 4 rfl rfl (by omega) (by omega) (by omega)).mono ?_
              rintro e y35_ ⟨u33_, hu34_, -, rfl, hs36_, hg37_⟩
              have hD38_ := hD22_.next hs36_ hg37_
              refine hK.out _ _ trivial (fun hHeld => ?_)
              clear hK K
              first | simp only [Act.put, List.setIfInBounds_toArray, List.set_cons_zero, List.set_cons_succ] | skip
              refine wpAnyH_take (i := 7) (oi := ?oi306) (v := ?val306) ?hi306 ?hs306 ?hf306 ?hr306 ?hQ306 ?hy306 ?hS306 ?hrest306
              case hi306 => (simp only [List.getElem?_toArray, List.getElem?_cons_succ, List.getElem?_cons_zero] <;> exact rfl)
              case hs306 => kernel_rfl
              case hf306 => kernel_rfl
              case hr306 => kernel_rfl
              case hQ306 => exact fun _ _ _ h => h
              case hS306 => assumption
              case hy306 => (refine Or.inl ⟨by rfl, ?_⟩; intro w hSw; (try dsimp only at hSw); go_simp; try with_reducible rfl)
              simp only [Act.put, List.setIfInBounds_toArray, List.set_cons_zero, List.set_cons_succ]
              refine wpAnyH_ready (rs := [1, 8]) (by kernel_rfl) (by simp) ?_
              refine AllReadyH.cons rfl (fun K hK => ?_) (AllReadyH.cons rfl (fun K hK => ?_) AllReadyH.nil)
              · skip
                have lc : y35_.cell? ⟨sb, 1, none⟩ = some (.slice B k d) := by rw [hD38_.bkS.cell]; rfl
                have ls := hD38_.bkS.lt
                go_simp
                refine hK.out _ _ trivial (fun hHeld => ?_)
                clear hK K
                first | simp only [Act.put, List.setIfInBounds_toArray, List.set_cons_zero, List.set_cons_succ] | skip
                clear lc ls
                refine wpAnyH_ready (rs := [8]) (by kernel_rfl) (by simp) ?_
                refine AllReadyH.cons rfl (fun K hK => ?_) AllReadyH.nil
                go_simp
                refine hK.out _ _ trivial (fun hHeld => ?_)
                clear hK K
                first | simp only [Act.put, List.setIfInBounds_toArray, List.set_cons_zero, List.set_cons_succ] | skip
                have hD42_ := hD38_.below ((Below.refl _ _).alloc (Nat.le_refl _) (.cells #[.string (⟨#[97]⟩ ++ u17_), .string (u33_)] 156))
                have bk41_ := Bk.new y35_ 156 #[.string (⟨#[97]⟩ ++ u17_), .string (u33_)]
                obtain ⟨y39_, hy⟩ : ∃ z, z = World.alloc y35_ (.cells #[.string (⟨#[97]⟩ ++ u17_), .string (u33_)] 156) := ⟨_, rfl⟩
                obtain ⟨r40_, hb⟩ : ∃ z, z = (World.heap y35_).size := ⟨_, rfl⟩
                rw [← hy] at bk41_ hD42_
                rw [← hb] at bk41_
                rw [← hy, ← hb]
                clear hy hb
                exact hkey u17_ u33_ r40_ y39_ ⟨hD42_, bk41_, hu18_, hu34_⟩
              · skip
                go_simp
                refine hK.out _ _ trivial (fun hHeld => ?_)
                clear hK K
                first | simp only [Act.put, List.setIfInBounds_toArray, List.set_cons_zero, List.set_cons_succ] | skip
                have hD46_ := hD38_.below ((Below.refl _ _).alloc (Nat.le_refl _) (.cells #[.string (⟨#[97]⟩ ++ u17_), .string (u33_)] 156))
                have bk45_ := Bk.new y35_ 156 #[.string (⟨#[97]⟩ ++ u17_), .string (u33_)]
                obtain ⟨y43_, hy⟩ : ∃ z, z = World.alloc y35_ (.cells #[.string (⟨#[97]⟩ ++ u17_), .string (u33_)] 156) := ⟨_, rfl⟩
                obtain ⟨r44_, hb⟩ : ∃ z, z = (World.heap y35_).size := ⟨_, rfl⟩
                rw [← hy] at bk45_ hD46_
                rw [← hb] at bk45_
                rw [← hy, ← hb]
                clear hy hb
                refine wpAnyH_ready (rs := [1]) (by kernel_rfl) (by simp) ?_
                refine AllReadyH.cons rfl (fun K hK => ?_) AllReadyH.nil
                have lc : y43_.cell? ⟨sb, 1, none⟩ = some (.slice B k d) := by rw [hD46_.bkS.cell]; rfl
                have ls := hD46_.bkS.lt
                go_simp
                refine hK.out _ _ trivial (fun hHeld => ?_)
                clear hK K
                first | simp only [Act.put, List.setIfInBounds_toArray, List.set_cons_zero, List.set_cons_succ] | skip
                clear lc ls
                exact hkey u17_ u33_ r44_ y43_ ⟨hD46_, bk45_, hu18_, hu34_⟩
        intro u v r y7 ⟨hD7, bk7, hu, hv⟩
        have hz8 := hD7.bkR.lt
        refine wpAnyH_ready (rs := [9]) (by kernel_rfl) (by simp) ?_
        refine AllReadyH.cons rfl (fun K hK => ?_) AllReadyH.nil
        (refine step_append_own y7 rfl _ _ 23 rfl (w.heap.size + 1) 156 2 32 _ Try.underlying23 info_Rule rfl (by omega) (.slice B k d) k _ rfl hD7.own ⟨r, 0, none⟩ 1 1 [.string (⟨#[97]⟩ ++ u), .string (v)] rfl rfl (news2 bk7) (one_cell_ruleP _ _) (by unfold maxLen; omega) (by omega) (by omega) ?_; intro B9 d9 w9 hO9 hG9)
        refine hK.out _ _ (trivial) (fun hHeld2 => ?_)
        clear hK K hHeld
        have hHeld := hHeld2
        clear hHeld2
        first | simp only [Act.put, List.setIfInBounds_toArray, List.set_cons_zero, List.set_cons_succ] | skip
        obtain ⟨hD9, hB9⟩ := hD7.push (Below.refl _ _) hO9 hG9
        clear hz8 hO9 hG9 bk7
        refine wpAnyH_take (i := 10) (oi := ?oi375) (v := ?val375) ?hi375 ?hs375 ?hf375 ?hr375 ?hQ375 ?hy375 ?hS375 ?hrest375
        case hi375 => (simp only [List.getElem?_toArray, List.getElem?_cons_succ, List.getElem?_cons_zero] <;> exact rfl)
        case hs375 => kernel_rfl
        case hf375 => kernel_rfl
        case hr375 => kernel_rfl
        case hQ375 => exact fun _ _ _ h => h
        case hS375 => assumption
        case hy375 => (refine Or.inl ⟨by rfl, ?_⟩; intro w hSw; (try dsimp only at hSw); go_simp; try with_reducible rfl)
        simp only [Act.put, List.setIfInBounds_toArray, List.set_cons_zero, List.set_cons_succ]
        have c9 : w9.cell? ⟨sb, 1, none⟩ = some (.slice B k d) := by rw [hB9.cell]; rfl
        have f9 := hB9.free 1
        have l9 := hB9.lt
        refine wpAnyH_ready (rs := [11]) (by kernel_rfl) (by simp) ?_
        refine AllReadyH.cons rfl (fun K hK => ?_) AllReadyH.nil
        (go_simp)
        refine hK.out _ _ (trivial) (fun hHeld2 => ?_)
        clear hK K hHeld
        have hHeld := hHeld2
        clear hHeld2
        first | simp only [Act.put, List.setIfInBounds_toArray, List.set_cons_zero, List.set_cons_succ] | skip
        clear c9 f9 l9 hB9
        refine wpAnyH_done (by kernel_rfl) ?_ _
        have hfp := fair_push (u := ⟨#[97]⟩ ++ u) (v := v) HG.out (by rw [ByteArray.size_append]; have : (⟨#[97]⟩ : ByteArray).size = 1 := rfl; omega) (by omega)
        clear hHeld hD7
        have Hfp := Lib.hid hfp
        clear hfp
        have HD9 := Lib.hid hD9
        clear hD9
        go_wp2_with fail
        go_roundw
        case rel => exact ⟨j - 1, B9, k + 1, d9, rs ++ [(⟨#[97]⟩ ++ u, v)], by go_num, by omega, Hfp.out, HD9⟩
        case measure => simp [intOf] <;> omega
      · have Hlen := Lib.hid hD6.len
        go_wp2_with fail
        refine wp_region_held_drew (S := (fun W => W.cell? ⟨sb, 0, none⟩ = some (.int .i64 2) ∧ W.cell? ⟨sb, 1, none⟩ = some (.slice B k d))) (by kernel_rfl) ((by (have hq := hD6.bkS.drew); exact ⟨by rw [hq.cell]; rfl, by rw [hq.cell]; rfl⟩)) (fun hHeld => ?_)
        obtain ⟨y0, hy0⟩ : ∃ z, z = World.drew wr := ⟨_, rfl⟩
        have hE0 : AnySt w (World.drew wr) P A n c zs sb 2 B k d rs := hD6.next hD6.src.drew gb_drew
        rw [← hy0] at hE0 hHeld
        rw [← hy0]
        clear hy0
        refine wpAnyH_take (i := 0) (oi := ?oi415) (v := ?val415) ?hi415 ?hs415 ?hf415 ?hr415 ?hQ415 ?hy415 ?hS415 ?hrest415
        case hi415 => (simp only [List.getElem?_toArray, List.getElem?_cons_succ, List.getElem?_cons_zero] <;> exact rfl)
        case hs415 => kernel_rfl
        case hf415 => kernel_rfl
        case hr415 => kernel_rfl
        case hQ415 => exact fun _ _ _ h => h
        case hS415 => assumption
        case hy415 => (refine Or.inl ⟨by rfl, ?_⟩; intro w hSw; (try dsimp only at hSw); obtain ⟨z0, z1⟩ := hSw; go_simp; try with_reducible rfl)
        simp only [Act.put, List.setIfInBounds_toArray, List.set_cons_zero, List.set_cons_succ]
        refine wpAnyH_take (i := 1) (oi := ?oi424) (v := ?val424) ?hi424 ?hs424 ?hf424 ?hr424 ?hQ424 ?hy424 ?hS424 ?hrest424
        case hi424 => (simp only [List.getElem?_toArray, List.getElem?_cons_succ, List.getElem?_cons_zero] <;> exact rfl)
        case hs424 => kernel_rfl
        case hf424 => kernel_rfl
        case hr424 => kernel_rfl
        case hQ424 => exact fun _ _ _ h => h
        case hS424 => assumption
        case hy424 => (refine Or.inl ⟨by rfl, ?_⟩; intro w hSw; (try dsimp only at hSw); obtain ⟨z0, z1⟩ := hSw; go_simp; try with_reducible rfl)
        simp only [Act.put, List.setIfInBounds_toArray, List.set_cons_zero, List.set_cons_succ]
        refine wpAnyH_ready (rs := [2]) (by kernel_rfl) (by simp) ?_
        refine AllReadyH.cons rfl (fun K hK => ?_) AllReadyH.nil
        (go_simp; with_reducible refine (hE0.src.wordI 2 6 2 6 rfl rfl (by omega) (by omega) (by omega)).mono ?_; rintro e y1 ⟨u, hu, -, rfl, hs9, hg9⟩; have hE1 := hE0.next hs9 hg9)
        refine hK.out _ _ ((by exact ⟨by rw [hE1.bkS.cell]; rfl, by rw [hE1.bkS.cell]; rfl⟩)) (fun hHeld2 => ?_)
        clear hK K hHeld
        have hHeld := hHeld2
        clear hHeld2
        first | simp only [Act.put, List.setIfInBounds_toArray, List.set_cons_zero, List.set_cons_succ] | skip
        have hlS := hE1.lS
        have c0 : y1.cell? ⟨w.heap.size, 0, none⟩ = some (.int .i64 0) := by rw [hE1.bkR.cell]; rfl
        have c1 : y1.cell? ⟨w.heap.size, 1, none⟩ = some (.slice none 0 0) := by rw [hE1.bkR.cell]; rfl
        have f0 := hE1.bkR.free 0
        have f1 := hE1.bkR.free 1
        have lb := hE1.bkR.lt
        have s0 : y1.cell? ⟨sb, 0, none⟩ = some (.int .i64 2) := by rw [hE1.bkS.cell]; rfl
        have s1 : y1.cell? ⟨sb, 1, none⟩ = some (.slice B k d) := by rw [hE1.bkS.cell]; rfl
        have sf0 := hE1.bkS.free 0
        have sf1 := hE1.bkS.free 1
        have sl := hE1.bkS.lt
        have hE2 : Bk ((y1.setCell ⟨w.heap.size, 0, none⟩ (.int .i64 2)).setCell ⟨w.heap.size, 1, none⟩ (.slice B k d)) sb 25 #[.int .i64 2, .slice B k d] := (hE1.bkS.far (p := ⟨w.heap.size, 0, none⟩) (by dsimp only; omega) _).far (p := ⟨w.heap.size, 1, none⟩) (by dsimp only; omega) _
        refine wpAnyH_ready (rs := [3]) (by kernel_rfl) (by simp) ?_
        refine AllReadyH.cons rfl (fun K hK => ?_) AllReadyH.nil
        (go_simp)
        refine hK.out _ _ ((by exact ⟨by rw [hE2.cell]; rfl, by rw [hE2.cell]; rfl⟩)) (fun hHeld2 => ?_)
        clear hK K hHeld
        have hHeld := hHeld2
        clear hHeld2
        first | simp only [Act.put, List.setIfInBounds_toArray, List.set_cons_zero, List.set_cons_succ] | skip
        refine wpAnyH_take (i := 4) (oi := ?oi461) (v := ?val461) ?hi461 ?hs461 ?hf461 ?hr461 ?hQ461 ?hy461 ?hS461 ?hrest461
        case hi461 => (simp only [List.getElem?_toArray, List.getElem?_cons_succ, List.getElem?_cons_zero] <;> exact rfl)
        case hs461 => kernel_rfl
        case hf461 => kernel_rfl
        case hr461 => kernel_rfl
        case hQ461 => exact fun _ _ _ h => h
        case hS461 => assumption
        case hy461 => (refine Or.inl ⟨by rfl, ?_⟩; intro w hSw; (try dsimp only at hSw); obtain ⟨z0, z1⟩ := hSw; go_simp; try with_reducible rfl)
        simp only [Act.put, List.setIfInBounds_toArray, List.set_cons_zero, List.set_cons_succ]
        refine wpAnyH_done (by kernel_rfl) ?_ _
        clear hHeld hE2 c0 c1 f0 f1 lb s0 s1 sf0 sf1 sl
        have HE1 := Lib.hid hE1
        go_wp2_with fail
        have hW9 : Below w.heap.size y1 ((y1.setCell ⟨w.heap.size, 0, none⟩ (.int .i64 2)).setCell ⟨w.heap.size, 1, none⟩ (.slice B k d)) := ((Below.refl _ _).setCell (p := ⟨w.heap.size, 0, none⟩) (Nat.le_refl _) _).setCell (p := ⟨w.heap.size, 1, none⟩) (Nat.le_refl _) _
        have hne : (Value.slice B k d).ownBlock ≠ some w.heap.size := by
          intro e
          have := (HE1.out.own.lt _ e).1
          omega
        have hO9 := own_mono (own_far3 (own_far3 HE1.out.own (p := ⟨w.heap.size, 0, none⟩) hne (.int .i64 2)) (p := ⟨w.heap.size, 1, none⟩) hne (.slice B k d)) (b' := w.heap.size) (by omega)
        have hC9 := cur_low HE1.out.cur hW9 HE1.out.lP
        have hG9 := gb_up HE1.out.gb hW9
        have hBn := (HE1.out.bkR.put 0 (.int .i64 2)).put 1 (.slice B k d)
        have q0 := hBn.cell 0
        have q1 := hBn.cell 1
        refine bodyPost_ret (v := .tuple #[.agg #[.int .i64 2, .slice B k d], .string u]) (by simp [results, Try.results77, go_sem, q0, q1]) rfl ?_
        exact ⟨2, B, k, d, rs, u, ⟨by omega, by omega⟩, ⟨Hlen.out, ⟨by have := Hlen.out; omega, HG.out⟩⟩, (by omega), rfl, hO9, HE1.out.src0.next hC9 hG9, hG9⟩
  · have hal := (Below.refl w3.heap.size w3).alloc (Nat.le_refl _) (.cells #[.string ⟨#[50, 32, 97, 62, 98, 32, 98, 62, 97]⟩, .string ⟨#[50, 32, 97, 98, 62, 98, 97]⟩, .string ⟨#[50, 32, 97, 62, 97, 97]⟩, .string ⟨#[50, 32, 97, 98, 62, 98, 98, 97]⟩, .string ⟨#[50, 32, 97, 97, 62, 98, 32, 98, 98, 62, 97]⟩, .string ⟨#[50, 32, 97, 98, 62, 98, 98, 97, 97]⟩, .string ⟨#[51, 32, 97, 62, 98, 32, 98, 62, 99, 32, 99, 62, 97]⟩, .string ⟨#[50, 32, 98, 97, 62, 97, 97, 98]⟩] 9)
    have hbk : Bk (w3.alloc (.cells #[.string ⟨#[50, 32, 97, 62, 98, 32, 98, 62, 97]⟩, .string ⟨#[50, 32, 97, 98, 62, 98, 97]⟩, .string ⟨#[50, 32, 97, 62, 97, 97]⟩, .string ⟨#[50, 32, 97, 98, 62, 98, 98, 97]⟩, .string ⟨#[50, 32, 97, 97, 62, 98, 32, 98, 98, 62, 97]⟩, .string ⟨#[50, 32, 97, 98, 62, 98, 98, 97, 97]⟩, .string ⟨#[51, 32, 97, 62, 98, 32, 98, 62, 99, 32, 99, 62, 97]⟩, .string ⟨#[50, 32, 98, 97, 62, 97, 97, 98]⟩] 9)) w3.heap.size 9 (strs caseL).toArray := Bk.new w3 _ _
    have hne : w3.heap.size ≠ P := by (have := hD3.src.cur.lt); omega
    have HD3 := Lib.hid hD3
    clear hD3
    have Hal := Lib.hid hal
    clear hal
    go_wp2_with fail
    with_reducible refine (Src.str (k := 8) (l := caseL) (HD3.out.below Hal.out).src hbk hne rfl (by omega) (by omega)).mono ?_
    rintro e w4 ⟨t, ht, rfl, hs4, hg4⟩
    have hD4 := (HD3.out.below Hal.out).next hs4 hg4
    have hts := caseL_small t ht
    clear Hal hbk hne hs4 hg4 HD3 ht c0 c1 f0 f1 lb s0 s1 sf0 sf1 sl
    have c0 : w4.cell? ⟨w.heap.size, 0, none⟩ = some (.int .i64 0) := by rw [hD4.bkR.cell]; rfl
    have c1 : w4.cell? ⟨w.heap.size, 1, none⟩ = some (.slice none 0 0) := by rw [hD4.bkR.cell]; rfl
    have f0 := hD4.bkR.free 0
    have f1 := hD4.bkR.free 1
    have lb := hD4.bkR.lt
    have s0 : w4.cell? ⟨sb, 0, none⟩ = some (.int .i64 2) := by rw [hD4.bkS.cell]; rfl
    have s1 : w4.cell? ⟨sb, 1, none⟩ = some (.slice none 0 0) := by rw [hD4.bkS.cell]; rfl
    have sf0 := hD4.bkS.free 0
    have sf1 := hD4.bkS.free 1
    have sl := hD4.bkS.lt
    have HD4 := Lib.hid hD4
    clear hD4
    go_wp2_with fail
    with_reducible refine (specParseSystem_any t _ (by omega)).mono ?_
    rintro e w6 ⟨l6, B6, k6, d6, rs6, ok, hl6, hk6, hkn, hz6, rfl, hO6, b6⟩
    have hD5 := HD4.out.below b6
    have hlt4 := HD4.out.bkS.lt
    have hlS4 := HD4.out.lS
    clear b6 HD4 c0 c1 f0 f1 lb s0 s1 sf0 sf1 sl
    have c0 : w6.cell? ⟨w.heap.size, 0, none⟩ = some (.int .i64 0) := by rw [hD5.bkR.cell]; rfl
    have c1 : w6.cell? ⟨w.heap.size, 1, none⟩ = some (.slice none 0 0) := by rw [hD5.bkR.cell]; rfl
    have f0 := hD5.bkR.free 0
    have f1 := hD5.bkR.free 1
    have lb := hD5.bkR.lt
    have s0 : w6.cell? ⟨sb, 0, none⟩ = some (.int .i64 2) := by rw [hD5.bkS.cell]; rfl
    have s1 : w6.cell? ⟨sb, 1, none⟩ = some (.slice none 0 0) := by rw [hD5.bkS.cell]; rfl
    have sf0 := hD5.bkS.free 0
    have sf1 := hD5.bkS.free 1
    have sl := hD5.bkS.lt
    have hO7 := own_mono hO6 (b' := w.heap.size + 1) (by omega)
    have hD6 := hD5.set (l' := l6) hO7 hk6
    clear hO6 hO7 hlt4 hlS4
    have HD5 := Lib.hid hD5
    clear hD5
    have HD6 := Lib.hid hD6
    clear hD6
    have hfr : Fair rs6 := ⟨by rw [← hk6]; omega, fun x hx => by have := hz6 x hx; omega⟩
    have Hfr := Lib.hid hfr
    clear hfr
    have Hk6 := Lib.hid hk6
    clear hk6
    have Hz6 := Lib.hid hz6
    clear hz6
    go_wp2_with fail
    obtain ⟨w7, hw7⟩ : ∃ z, z = (w6.setCell ⟨sb, 0, none⟩ (.int .i64 l6)).setCell ⟨sb, 1, none⟩ (.slice B6 k6 d6) := ⟨_, rfl⟩
    have hD6 := HD6.out
    rw [← hw7] at hD6
    rw [← hw7]
    clear hw7 HD6 HD5 c0 c1 f0 f1 lb s0 s1 sf0 sf1 sl
    refine wp_region_held_drew (S := (fun W => W.cell? ⟨sb, 0, none⟩ = some (.int .i64 l6) ∧ W.cell? ⟨sb, 1, none⟩ = some (.slice B6 k6 d6))) (by kernel_rfl) ((by (have hq := hD6.bkS.drew); exact ⟨by rw [hq.cell]; rfl, by rw [hq.cell]; rfl⟩)) (fun hHeld => ?_)
    obtain ⟨y0, hy0⟩ : ∃ z, z = World.drew w7 := ⟨_, rfl⟩
    have hE0 : AnySt w (World.drew w7) P A n c zs sb l6 B6 k6 d6 rs6 := hD6.next hD6.src.drew gb_drew
    rw [← hy0] at hE0 hHeld
    rw [← hy0]
    clear hy0
    refine wpAnyH_take (i := 0) (oi := ?oi555) (v := ?val555) ?hi555 ?hs555 ?hf555 ?hr555 ?hQ555 ?hy555 ?hS555 ?hrest555
    case hi555 => (simp only [List.getElem?_toArray, List.getElem?_cons_succ, List.getElem?_cons_zero] <;> exact rfl)
    case hs555 => kernel_rfl
    case hf555 => kernel_rfl
    case hr555 => kernel_rfl
    case hQ555 => exact fun _ _ _ h => h
    case hS555 => assumption
    case hy555 => (refine Or.inl ⟨by rfl, ?_⟩; intro w hSw; (try dsimp only at hSw); obtain ⟨z0, z1⟩ := hSw; go_simp; try with_reducible rfl)
    simp only [Act.put, List.setIfInBounds_toArray, List.set_cons_zero, List.set_cons_succ]
    refine wpAnyH_take (i := 1) (oi := ?oi564) (v := ?val564) ?hi564 ?hs564 ?hf564 ?hr564 ?hQ564 ?hy564 ?hS564 ?hrest564
    case hi564 => (simp only [List.getElem?_toArray, List.getElem?_cons_succ, List.getElem?_cons_zero] <;> exact rfl)
    case hs564 => kernel_rfl
    case hf564 => kernel_rfl
    case hr564 => kernel_rfl
    case hQ564 => exact fun _ _ _ h => h
    case hS564 => assumption
    case hy564 => (refine Or.inl ⟨by rfl, ?_⟩; intro w hSw; (try dsimp only at hSw); obtain ⟨z0, z1⟩ := hSw; go_simp; try with_reducible rfl)
    simp only [Act.put, List.setIfInBounds_toArray, List.set_cons_zero, List.set_cons_succ]
    refine wpAnyH_ready (rs := [2]) (by kernel_rfl) (by simp) ?_
    refine AllReadyH.cons rfl (fun K hK => ?_) AllReadyH.nil
    (go_simp; with_reducible refine (hE0.src.wordI 2 6 2 6 rfl rfl (by omega) (by omega) (by omega)).mono ?_; rintro e y1 ⟨u, hu, -, rfl, hs9, hg9⟩; have hE1 := hE0.next hs9 hg9)
    refine hK.out _ _ ((by exact ⟨by rw [hE1.bkS.cell]; rfl, by rw [hE1.bkS.cell]; rfl⟩)) (fun hHeld2 => ?_)
    clear hK K hHeld
    have hHeld := hHeld2
    clear hHeld2
    first | simp only [Act.put, List.setIfInBounds_toArray, List.set_cons_zero, List.set_cons_succ] | skip
    have hlS := hE1.lS
    have c0 : y1.cell? ⟨w.heap.size, 0, none⟩ = some (.int .i64 0) := by rw [hE1.bkR.cell]; rfl
    have c1 : y1.cell? ⟨w.heap.size, 1, none⟩ = some (.slice none 0 0) := by rw [hE1.bkR.cell]; rfl
    have f0 := hE1.bkR.free 0
    have f1 := hE1.bkR.free 1
    have lb := hE1.bkR.lt
    have s0 : y1.cell? ⟨sb, 0, none⟩ = some (.int .i64 l6) := by rw [hE1.bkS.cell]; rfl
    have s1 : y1.cell? ⟨sb, 1, none⟩ = some (.slice B6 k6 d6) := by rw [hE1.bkS.cell]; rfl
    have sf0 := hE1.bkS.free 0
    have sf1 := hE1.bkS.free 1
    have sl := hE1.bkS.lt
    have hE2 : Bk ((y1.setCell ⟨w.heap.size, 0, none⟩ (.int .i64 l6)).setCell ⟨w.heap.size, 1, none⟩ (.slice B6 k6 d6)) sb 25 #[.int .i64 l6, .slice B6 k6 d6] := (hE1.bkS.far (p := ⟨w.heap.size, 0, none⟩) (by dsimp only; omega) _).far (p := ⟨w.heap.size, 1, none⟩) (by dsimp only; omega) _
    refine wpAnyH_ready (rs := [3]) (by kernel_rfl) (by simp) ?_
    refine AllReadyH.cons rfl (fun K hK => ?_) AllReadyH.nil
    (go_simp)
    refine hK.out _ _ ((by exact ⟨by rw [hE2.cell]; rfl, by rw [hE2.cell]; rfl⟩)) (fun hHeld2 => ?_)
    clear hK K hHeld
    have hHeld := hHeld2
    clear hHeld2
    first | simp only [Act.put, List.setIfInBounds_toArray, List.set_cons_zero, List.set_cons_succ] | skip
    refine wpAnyH_take (i := 4) (oi := ?oi601) (v := ?val601) ?hi601 ?hs601 ?hf601 ?hr601 ?hQ601 ?hy601 ?hS601 ?hrest601
    case hi601 => (simp only [List.getElem?_toArray, List.getElem?_cons_succ, List.getElem?_cons_zero] <;> exact rfl)
    case hs601 => kernel_rfl
    case hf601 => kernel_rfl
    case hr601 => kernel_rfl
    case hQ601 => exact fun _ _ _ h => h
    case hS601 => assumption
    case hy601 => (refine Or.inl ⟨by rfl, ?_⟩; intro w hSw; (try dsimp only at hSw); obtain ⟨z0, z1⟩ := hSw; go_simp; try with_reducible rfl)
    simp only [Act.put, List.setIfInBounds_toArray, List.set_cons_zero, List.set_cons_succ]
    refine wpAnyH_done (by kernel_rfl) ?_ _
    clear hHeld hE2 c0 c1 f0 f1 lb s0 s1 sf0 sf1 sl
    have HE1 := Lib.hid hE1
    go_wp2_with fail
    have hW9 : Below w.heap.size y1 ((y1.setCell ⟨w.heap.size, 0, none⟩ (.int .i64 l6)).setCell ⟨w.heap.size, 1, none⟩ (.slice B6 k6 d6)) := ((Below.refl _ _).setCell (p := ⟨w.heap.size, 0, none⟩) (Nat.le_refl _) _).setCell (p := ⟨w.heap.size, 1, none⟩) (Nat.le_refl _) _
    have hne : (Value.slice B6 k6 d6).ownBlock ≠ some w.heap.size := by
      intro e
      have := (HE1.out.own.lt _ e).1
      omega
    have hO9 := own_mono (own_far3 (own_far3 HE1.out.own (p := ⟨w.heap.size, 0, none⟩) hne (.int .i64 l6)) (p := ⟨w.heap.size, 1, none⟩) hne (.slice B6 k6 d6)) (b' := w.heap.size) (by omega)
    have hC9 := cur_low HE1.out.cur hW9 HE1.out.lP
    have hG9 := gb_up HE1.out.gb hW9
    have hBn := (HE1.out.bkR.put 0 (.int .i64 l6)).put 1 (.slice B6 k6 d6)
    have q0 := hBn.cell 0
    have q1 := hBn.cell 1
    refine bodyPost_ret (v := .tuple #[.agg #[.int .i64 l6, .slice B6 k6 d6], .string u]) (by simp [results, Try.results77, go_sem, q0, q1]) rfl ?_
    exact ⟨l6, B6, k6, d6, rs6, u, hl6, ⟨Hk6.out, Hfr.out⟩, (by omega), rfl, hO9, HE1.out.src0.next hC9 hG9, hG9⟩

end Go.Proofs.Ytidmbeeadbedaaa
